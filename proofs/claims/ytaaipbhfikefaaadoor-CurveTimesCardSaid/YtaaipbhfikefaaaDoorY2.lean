/- Merged of the texts: Fa, Fb, Fc (trim.py). -/
import Derived.Test.YtaaipbhfikefaaaDoorY1
section
namespace Go.Proofs.YtaaipbhfikefaaaDoor.P.Fd
set_option linter.unusedVariables false
set_option linter.unusedSimpArgs false
open Go.RowKit Go.ChangeShapes Go.WideShapes Go.Proofs.YtaaipbhfikefaaaDoorW.PrintWords Go.Proofs.YtaaipbhfikefaaaDoorW.PrintLast Go.Proofs.YtaaipbhfikefaaaDoorW.PrintMore
attribute [local go_sem] setCell_drewN
/-- Five limbs as a value. -/
def E5 (x0 x1 x2 x3 x4 : Int) : Value := .agg #[.int .u64 x0, .int .u64 x1, .int .u64 x2, .int .u64 x3, .int .u64 x4]
theorem mask51 (x : Int) (h0 : 0 ≤ x) (h1 : x < 18446744073709551616) : Go.bits .and .u64 x 2251799813685247 = x % 2251799813685248 := by
  rw [u64_and _ _ h0 h1 (by omega) (by omega), show (2251799813685247 : Int).toNat = 2 ^ 51 - 1 from rfl, Nat.and_two_pow_sub_one_eq_mod]
  omega
/-- What carries from limb i on do. -/
def cfrom : Nat → Int → Int → Int → Int → Int → Int × Int × Int × Int × Int
  | 0, y0, y1, y2, y3, y4 => cfrom3 (y0 % 2251799813685248) (y1 + y0 / 2251799813685248) y2 y3 y4
  | 1, y0, y1, y2, y3, y4 => cfrom2 y0 y1 y2 y3 y4
  | 2, y0, y1, y2, y3, y4 => cfrom1 y0 y1 y2 y3 y4
  | 3, y0, y1, y2, y3, y4 => (y0, y1, y2, y3 % 2251799813685248, y4 + y3 / 2251799813685248)
  | _, y0, y1, y2, y3, y4 => (y0, y1, y2, y3, y4)
where
  cfrom1 (y0 y1 y2 y3 y4 : Int) : Int × Int × Int × Int × Int := (y0, y1, y2 % 2251799813685248, (y3 + y2 / 2251799813685248) % 2251799813685248, y4 + (y3 + y2 / 2251799813685248) / 2251799813685248)
  cfrom2 (y0 y1 y2 y3 y4 : Int) : Int × Int × Int × Int × Int := cfrom1 y0 (y1 % 2251799813685248) (y2 + y1 / 2251799813685248) y3 y4
  cfrom3 (y0 y1 y2 y3 y4 : Int) : Int × Int × Int × Int × Int := cfrom2 y0 y1 y2 y3 y4
/-- What carried answers. -/
def carriedZ (x0 x1 x2 x3 x4 : Int) : Int × Int × Int × Int × Int := cfrom 0 (x0 + 19 * (x4 / 2251799813685248)) x1 x2 x3 (x4 % 2251799813685248)
def E5t (t : Int × Int × Int × Int × Int) : Value := E5 t.1 t.2.1 t.2.2.1 t.2.2.2.1 t.2.2.2.2
def inB' (i : Nat) (y0 y1 y2 y3 y4 : Int) : Prop := (0 ≤ y0 ∧ y0 ≤ 9223372036854775808 + 100000) ∧ (0 ≤ y1 ∧ y1 ≤ 9223372036854775808 + 100000 * (if i < 1 then 0 else 1)) ∧ (0 ≤ y2 ∧ y2 ≤ 9223372036854775808 + 100000 * (if i < 2 then 0 else 1)) ∧ (0 ≤ y3 ∧ y3 ≤ 9223372036854775808 + 100000 * (if i < 3 then 0 else 1)) ∧ (0 ≤ y4 ∧ y4 ≤ 9223372036854775808 + 100000 * (if i < 4 then 0 else 1))
def CRel (w : World) (x0 x1 x2 x3 x4 : Int) (v18 : Value) (wr : World) : Prop :=
  ∃ (i m : Nat) (y0 y1 y2 y3 y4 : Int), i ≤ 4 ∧ v18 = .int .i64 (i : Int) ∧ inB' i y0 y1 y2 y3 y4 ∧ carriedZ x0 x1 x2 x3 x4 = cfrom i y0 y1 y2 y3 y4 ∧
    wr = ((w.alloc (.cells #[.int .u64 y0, .int .u64 y1, .int .u64 y2, .int .u64 y3, .int .u64 y4] 24)).alloc (.cells #[.int .u64 0, .int .u64 0, .int .u64 0, .int .u64 0, .int .u64 0] 26)).drewN m
theorem carried_calls (x0 x1 x2 x3 x4 : Int) (w : World) (b0 : 0 ≤ x0 ∧ x0 ≤ 9223372036854775808) (b1 : 0 ≤ x1 ∧ x1 ≤ 9223372036854775808) (b2 : 0 ≤ x2 ∧ x2 ≤ 9223372036854775808) (b3 : 0 ≤ x3 ∧ x3 ≤ 9223372036854775808) (b4 : 0 ≤ x4 ∧ x4 ≤ 9223372036854775808) :
    Calls Tryd.prog 56 #[E5 x0 x1 x2 x3 x4] w fun e w' => e = .returned (E5t (carriedZ x0 x1 x2 x3 x4)) ∧ Below w.heap.size w w' := by
  have m4 := mask51 x4 (by omega) (by omega)
  have w1 := u64w (19 * (x4 / 2251799813685248)) (by omega) (by omega)
  have w2 := u64w (x0 + 19 * (x4 / 2251799813685248)) (by omega) (by omega)
  have HB := Aside0.mk (show inB' 0 (x0 + 19 * (x4 / 2251799813685248)) x1 x2 x3 (x4 % 2251799813685248) from by unfold inB'; omega)
  clear b0 b1 b2 b3 b4
  unfold E5
  go_enter Tryd.func56, Tryd.ntmps56
  go_wp2
  go_loopw [18] (fun v18 wr => CRel w x0 x1 x2 x3 x4 v18 wr) (fun v _ => 4 - (intOf v).toNat)
  case atStart => exact ⟨0, 0, _, _, _, _, _, by omega, rfl, HB.out, rfl, rfl⟩
  case round =>
    obtain ⟨i, m, y0, y1, y2, y3, y4, hi, rfl, hb, hcz, rfl⟩ := hrel
    have HC := Aside0.mk hcz
    have HBB := Aside0.mk hb
    clear hcz hb m4 w1 w2
    have hc : i = 0 ∨ i = 1 ∨ i = 2 ∨ i = 3 ∨ i = 4 := by omega
    rcases hc with rfl | rfl | rfl | rfl | rfl
    · have hb := HBB.out
      unfold inB' at hb
      have a1 := mask51 y0 (by omega) (by omega)
      have a2 := u64w (y1 + y0 / 2251799813685248) (by omega) (by omega)
      have HN := Aside0.mk (show inB' 1 (y0 % 2251799813685248) (y1 + y0 / 2251799813685248) y2 y3 y4 from by unfold inB'; omega)
      clear hb
      go_wp2_with fail
      go_region
      go_wp2_with fail
      exact ⟨⟨1, m + 1, (y0 % 2251799813685248), (y1 + y0 / 2251799813685248), y2, y3, y4, by omega, rfl, HN.out, HC.out, rfl⟩, by decide⟩
    · have hb := HBB.out
      unfold inB' at hb
      have a1 := mask51 y1 (by omega) (by omega)
      have a2 := u64w (y2 + y1 / 2251799813685248) (by omega) (by omega)
      have HN := Aside0.mk (show inB' 2 y0 (y1 % 2251799813685248) (y2 + y1 / 2251799813685248) y3 y4 from by unfold inB'; omega)
      clear hb
      go_wp2_with fail
      go_region
      go_wp2_with fail
      exact ⟨⟨2, m + 1, y0, (y1 % 2251799813685248), (y2 + y1 / 2251799813685248), y3, y4, by omega, rfl, HN.out, HC.out, rfl⟩, by decide⟩
    · have hb := HBB.out
      unfold inB' at hb
      have a1 := mask51 y2 (by omega) (by omega)
      have a2 := u64w (y3 + y2 / 2251799813685248) (by omega) (by omega)
      have HN := Aside0.mk (show inB' 3 y0 y1 (y2 % 2251799813685248) (y3 + y2 / 2251799813685248) y4 from by unfold inB'; omega)
      clear hb
      go_wp2_with fail
      go_region
      go_wp2_with fail
      exact ⟨⟨3, m + 1, y0, y1, (y2 % 2251799813685248), (y3 + y2 / 2251799813685248), y4, by omega, rfl, HN.out, HC.out, rfl⟩, by decide⟩
    · have hb := HBB.out
      unfold inB' at hb
      have a1 := mask51 y3 (by omega) (by omega)
      have a2 := u64w (y4 + y3 / 2251799813685248) (by omega) (by omega)
      have HN := Aside0.mk (show inB' 4 y0 y1 y2 (y3 % 2251799813685248) (y4 + y3 / 2251799813685248) from by unfold inB'; omega)
      clear hb
      go_wp2_with fail
      go_region
      go_wp2_with fail
      exact ⟨⟨4, m + 1, y0, y1, y2, (y3 % 2251799813685248), (y4 + y3 / 2251799813685248), by omega, rfl, HN.out, HC.out, rfl⟩, by decide⟩
    · go_wp2_with fail
      refine bodyPost_ret (results_cell_row rfl _ _ (w.heap.size + 1) 26 #[.int .u64 y0, .int .u64 y1, .int .u64 y2, .int .u64 y3, .int .u64 y4] (0, 0) _ rfl (heap_alloc2_new w _ _) Tryd.underlying26 rfl (by kernel_rfl)) rfl ?_
      refine ⟨?_, ?_⟩
      · rw [HC.out]; rfl
      · exact bel_drewN ((bel_two w _ _)) _
attribute [local go_sem] setCell_drewN
theorem small_calls (n : Int) (w : World) (h0 : 0 ≤ n) (h1 : n < 4294967296) :
    Calls Tryd.prog 27 #[.int .u32 n] w fun e w' => e = .returned (E5 n 0 0 0 0) ∧ Below w.heap.size w w' := by
  have hw : IntKind.u64.wrap n = n := u64w n h0 (by omega)
  go_enter Tryd.func27, Tryd.ntmps27
  go_wp2
  refine bodyPost_ret (results_cell_row rfl _ _ w.heap.size 26 #[.int .u64 n, .int .u64 0, .int .u64 0, .int .u64 0, .int .u64 0] (0, 0) _ rfl (heap_alloc_new w _) Tryd.underlying26 rfl (by kernel_rfl)) rfl ?_
  exact ⟨rfl, (Below.refl _ _).alloc (Nat.le_refl _) _⟩
theorem set5_row {w : World} {g : Nat} {t0 t1 t2 t3 t4 a0 a1 a2 a3 a4 : Value} {t : TypeId} (h : w.heap[g]? = some (.cells #[a0, a1, a2, a3, a4] t (0, 0))) :
    (((((w.setCell ⟨g, 0, none⟩ t0).setCell ⟨g, 1, none⟩ t1).setCell ⟨g, 2, none⟩ t2).setCell ⟨g, 3, none⟩ t3).setCell ⟨g, 4, none⟩ t4).heap[g]? = some (.cells #[t0, t1, t2, t3, t4] t (0, 0)) := by
  have h0 := heap_setCell_same w g 0 _ t t0 h
  have h1 := heap_setCell_same _ g 1 _ t t1 h0
  have h2 := heap_setCell_same _ g 2 _ t t2 h1
  have h3 := heap_setCell_same _ g 3 _ t t3 h2
  have h4 := heap_setCell_same _ g 4 _ t t4 h3
  exact h4
theorem set5_bel {B g : Nat} {w W : World} {t0 t1 t2 t3 t4 : Value} (h : Below B w W) (hg : B ≤ g) :
    Below B w (((((W.setCell ⟨g, 0, none⟩ t0).setCell ⟨g, 1, none⟩ t1).setCell ⟨g, 2, none⟩ t2).setCell ⟨g, 3, none⟩ t3).setCell ⟨g, 4, none⟩ t4) :=
  bel_set (bel_set (bel_set (bel_set (bel_set h _ _ hg) _ _ hg) _ _ hg) _ _ hg) _ _ hg
theorem carried_b (x0 x1 x2 x3 x4 : Int) (w : World) (h : ∀ x ∈ [x0, x1, x2, x3, x4], 0 ≤ x ∧ x ≤ 9223372036854775808) :
    Calls Tryd.prog 56 #[.agg #[.int .u64 x0, .int .u64 x1, .int .u64 x2, .int .u64 x3, .int .u64 x4]] w fun e w' => e = .returned (E5t (carriedZ x0 x1 x2 x3 x4)) ∧ Below w.heap.size w w' :=
  carried_calls x0 x1 x2 x3 x4 w (h _ (by simp)) (h _ (by simp)) (h _ (by simp)) (h _ (by simp)) (h _ (by simp))
/-- The world of the loop behind i rounds. -/
def addW (w : World) (x0 x1 x2 x3 x4 z0 z1 z2 z3 z4 : Int) : Nat → World
  | 0 => ((w.alloc (.cells #[.int .u64 (x0), .int .u64 (x1), .int .u64 (x2), .int .u64 (x3), .int .u64 (x4)] 26)).alloc (.cells #[.int .u64 z0, .int .u64 z1, .int .u64 z2, .int .u64 z3, .int .u64 z4] 26)).alloc (.cells #[.int .u64 0, .int .u64 0, .int .u64 0, .int .u64 0, .int .u64 0] 26)
  | 1 => ((w.alloc (.cells #[.int .u64 (x0 + z0), .int .u64 (x1), .int .u64 (x2), .int .u64 (x3), .int .u64 (x4)] 26)).alloc (.cells #[.int .u64 z0, .int .u64 z1, .int .u64 z2, .int .u64 z3, .int .u64 z4] 26)).alloc (.cells #[.int .u64 0, .int .u64 0, .int .u64 0, .int .u64 0, .int .u64 0] 26)
  | 2 => ((w.alloc (.cells #[.int .u64 (x0 + z0), .int .u64 (x1 + z1), .int .u64 (x2), .int .u64 (x3), .int .u64 (x4)] 26)).alloc (.cells #[.int .u64 z0, .int .u64 z1, .int .u64 z2, .int .u64 z3, .int .u64 z4] 26)).alloc (.cells #[.int .u64 0, .int .u64 0, .int .u64 0, .int .u64 0, .int .u64 0] 26)
  | 3 => ((w.alloc (.cells #[.int .u64 (x0 + z0), .int .u64 (x1 + z1), .int .u64 (x2 + z2), .int .u64 (x3), .int .u64 (x4)] 26)).alloc (.cells #[.int .u64 z0, .int .u64 z1, .int .u64 z2, .int .u64 z3, .int .u64 z4] 26)).alloc (.cells #[.int .u64 0, .int .u64 0, .int .u64 0, .int .u64 0, .int .u64 0] 26)
  | 4 => ((w.alloc (.cells #[.int .u64 (x0 + z0), .int .u64 (x1 + z1), .int .u64 (x2 + z2), .int .u64 (x3 + z3), .int .u64 (x4)] 26)).alloc (.cells #[.int .u64 z0, .int .u64 z1, .int .u64 z2, .int .u64 z3, .int .u64 z4] 26)).alloc (.cells #[.int .u64 0, .int .u64 0, .int .u64 0, .int .u64 0, .int .u64 0] 26)
  | _ => ((w.alloc (.cells #[.int .u64 (x0 + z0), .int .u64 (x1 + z1), .int .u64 (x2 + z2), .int .u64 (x3 + z3), .int .u64 (x4 + z4)] 26)).alloc (.cells #[.int .u64 z0, .int .u64 z1, .int .u64 z2, .int .u64 z3, .int .u64 z4] 26)).alloc (.cells #[.int .u64 0, .int .u64 0, .int .u64 0, .int .u64 0, .int .u64 0] 26)
def addRel (w : World) (x0 x1 x2 x3 x4 z0 z1 z2 z3 z4 : Int) (v6 : Value) (wr : World) : Prop :=
  ∃ (i m : Nat), i ≤ 5 ∧ v6 = .int .i64 (i : Int) ∧ wr = (addW w x0 x1 x2 x3 x4 z0 z1 z2 z3 z4 i).drewN m
theorem add_calls (x0 x1 x2 x3 x4 z0 z1 z2 z3 z4 : Int) (w : World) (hx : ∀ x ∈ [x0, x1, x2, x3, x4], 0 ≤ x ∧ x < 4503599627370496) (hz : ∀ x ∈ [z0, z1, z2, z3, z4], 0 ≤ x ∧ x < 4503599627370496) :
    Calls Tryd.prog 34 #[E5 x0 x1 x2 x3 x4, E5 z0 z1 z2 z3 z4] w fun e w' => e = .returned (E5t (carriedZ (x0 + z0) (x1 + z1) (x2 + z2) (x3 + z3) (x4 + z4))) ∧ Below w.heap.size w w' := by
  have a0 := hx x0 (by simp); have a1 := hx x1 (by simp); have a2 := hx x2 (by simp); have a3 := hx x3 (by simp); have a4 := hx x4 (by simp)
  have b0 := hz z0 (by simp); have b1 := hz z1 (by simp); have b2 := hz z2 (by simp); have b3 := hz z3 (by simp); have b4 := hz z4 (by simp)
  have w00 : IntKind.u64.wrap (x0 + z0) = x0 + z0 := u64w _ (by omega) (by omega)
  have w10 : IntKind.u64.wrap (x1 + z1) = x1 + z1 := u64w _ (by omega) (by omega)
  have w20 : IntKind.u64.wrap (x2 + z2) = x2 + z2 := u64w _ (by omega) (by omega)
  have w30 : IntKind.u64.wrap (x3 + z3) = x3 + z3 := u64w _ (by omega) (by omega)
  have w40 : IntKind.u64.wrap (x4 + z4) = x4 + z4 := u64w _ (by omega) (by omega)
  have HC := Aside0.mk (fun w => carried_b (x0 + z0) (x1 + z1) (x2 + z2) (x3 + z3) (x4 + z4) w (by intro x hx; simp only [List.mem_cons, List.not_mem_nil, or_false] at hx; omega))
  clear hx hz a0 a1 a2 a3 a4 b0 b1 b2 b3 b4
  unfold E5
  go_enter Tryd.func34, Tryd.ntmps34
  go_wp2
  go_loopw [6] (fun v6 wr => addRel w x0 x1 x2 x3 x4 z0 z1 z2 z3 z4 v6 wr) (fun v _ => 5 - (intOf v).toNat)
  case atStart => exact ⟨0, 0, by omega, rfl, rfl⟩
  case round =>
    obtain ⟨i, m, hi, rfl, rfl⟩ := hrel
    have hc : i = 0 ∨ i = 1 ∨ i = 2 ∨ i = 3 ∨ i = 4 ∨ i = 5 := by omega
    rcases hc with rfl | rfl | rfl | rfl | rfl | rfl
    · simp only [addW]
      go_wp2_with fail
      try go_region
      all_goals go_wp2_with fail
      all_goals exact ⟨⟨1, m + 1, by omega, rfl, rfl⟩, by decide⟩
    · simp only [addW]
      go_wp2_with fail
      try go_region
      all_goals go_wp2_with fail
      all_goals exact ⟨⟨2, m + 1, by omega, rfl, rfl⟩, by decide⟩
    · simp only [addW]
      go_wp2_with fail
      try go_region
      all_goals go_wp2_with fail
      all_goals exact ⟨⟨3, m + 1, by omega, rfl, rfl⟩, by decide⟩
    · simp only [addW]
      go_wp2_with fail
      try go_region
      all_goals go_wp2_with fail
      all_goals exact ⟨⟨4, m + 1, by omega, rfl, rfl⟩, by decide⟩
    · simp only [addW]
      go_wp2_with fail
      try go_region
      all_goals go_wp2_with fail
      all_goals exact ⟨⟨5, m + 1, by omega, rfl, rfl⟩, by decide⟩
    · simp only [addW]
      go_wp2_with fail
      refine (HC.out _).mono ?_
      rintro e w1 ⟨rfl, hb⟩
      have hrow : w1.heap[w.heap.size + 1 + 1]? = some (.cells #[.int .u64 0, .int .u64 0, .int .u64 0, .int .u64 0, .int .u64 0] 26 (0, 0)) := (hb.block _ (by simp)).trans (three_new w _ _ _)
      have HBel := Aside0.mk ((bel_drewN (bel_three w _ _ _) m).trans (hb.mono (bel_drewN (bel_three w _ _ _) m).size))
      have hlt : w.heap.size + 1 + 1 < w1.heap.size := (Array.getElem?_eq_some_iff.1 hrow).1
      clear hb HC
      generalize ht : carriedZ (x0 + z0) (x1 + z1) (x2 + z2) (x3 + z3) (x4 + z4) = t
      obtain ⟨t0, t1, t2, t3, t4⟩ := t
      have HT := Aside0.mk ht
      clear ht
      simp only [E5t, E5]
      have k0 := cell_of_row w1 _ 0 _ _ _ hrow
      have k1 := cell_of_row w1 _ 1 _ _ _ hrow
      have k2 := cell_of_row w1 _ 2 _ _ _ hrow
      have k3 := cell_of_row w1 _ 3 _ _ _ hrow
      have k4 := cell_of_row w1 _ 4 _ _ _ hrow
      have f0 := frozen_of_row w1 _ 0 _ _ hrow
      have f1 := frozen_of_row w1 _ 1 _ _ hrow
      have f2 := frozen_of_row w1 _ 2 _ _ hrow
      have f3 := frozen_of_row w1 _ 3 _ _ hrow
      have f4 := frozen_of_row w1 _ 4 _ _ hrow
      go_wp2_with fail
      refine bodyPost_ret (results_cell_row rfl _ _ (w.heap.size + 1 + 1) 26 #[.int .u64 t0, .int .u64 t1, .int .u64 t2, .int .u64 t3, .int .u64 t4] (0, 0) _ rfl (set5_row hrow) Tryd.underlying26 rfl (by kernel_rfl)) rfl ?_
      exact ⟨by rw [HT.out]; rfl, set5_bel HBel.out (by omega)⟩
attribute [local go_sem] setCell_drewN
/-- The world of the loop behind i rounds. -/
def subW (w : World) (x0 x1 x2 x3 x4 z0 z1 z2 z3 z4 : Int) : Nat → World
  | 0 => ((w.alloc (.cells #[.int .u64 (x0), .int .u64 (x1), .int .u64 (x2), .int .u64 (x3), .int .u64 (x4)] 26)).alloc (.cells #[.int .u64 z0, .int .u64 z1, .int .u64 z2, .int .u64 z3, .int .u64 z4] 26)).alloc (.cells #[.int .u64 0, .int .u64 0, .int .u64 0, .int .u64 0, .int .u64 0] 26)
  | 1 => ((w.alloc (.cells #[.int .u64 (x0 + (9007199254740916 - z0)), .int .u64 (x1), .int .u64 (x2), .int .u64 (x3), .int .u64 (x4)] 26)).alloc (.cells #[.int .u64 z0, .int .u64 z1, .int .u64 z2, .int .u64 z3, .int .u64 z4] 26)).alloc (.cells #[.int .u64 0, .int .u64 0, .int .u64 0, .int .u64 0, .int .u64 0] 26)
  | 2 => ((w.alloc (.cells #[.int .u64 (x0 + (9007199254740916 - z0)), .int .u64 (x1 + (9007199254740988 - z1)), .int .u64 (x2), .int .u64 (x3), .int .u64 (x4)] 26)).alloc (.cells #[.int .u64 z0, .int .u64 z1, .int .u64 z2, .int .u64 z3, .int .u64 z4] 26)).alloc (.cells #[.int .u64 0, .int .u64 0, .int .u64 0, .int .u64 0, .int .u64 0] 26)
  | 3 => ((w.alloc (.cells #[.int .u64 (x0 + (9007199254740916 - z0)), .int .u64 (x1 + (9007199254740988 - z1)), .int .u64 (x2 + (9007199254740988 - z2)), .int .u64 (x3), .int .u64 (x4)] 26)).alloc (.cells #[.int .u64 z0, .int .u64 z1, .int .u64 z2, .int .u64 z3, .int .u64 z4] 26)).alloc (.cells #[.int .u64 0, .int .u64 0, .int .u64 0, .int .u64 0, .int .u64 0] 26)
  | 4 => ((w.alloc (.cells #[.int .u64 (x0 + (9007199254740916 - z0)), .int .u64 (x1 + (9007199254740988 - z1)), .int .u64 (x2 + (9007199254740988 - z2)), .int .u64 (x3 + (9007199254740988 - z3)), .int .u64 (x4)] 26)).alloc (.cells #[.int .u64 z0, .int .u64 z1, .int .u64 z2, .int .u64 z3, .int .u64 z4] 26)).alloc (.cells #[.int .u64 0, .int .u64 0, .int .u64 0, .int .u64 0, .int .u64 0] 26)
  | _ => ((w.alloc (.cells #[.int .u64 (x0 + (9007199254740916 - z0)), .int .u64 (x1 + (9007199254740988 - z1)), .int .u64 (x2 + (9007199254740988 - z2)), .int .u64 (x3 + (9007199254740988 - z3)), .int .u64 (x4 + (9007199254740988 - z4))] 26)).alloc (.cells #[.int .u64 z0, .int .u64 z1, .int .u64 z2, .int .u64 z3, .int .u64 z4] 26)).alloc (.cells #[.int .u64 0, .int .u64 0, .int .u64 0, .int .u64 0, .int .u64 0] 26)
def subRel (w : World) (x0 x1 x2 x3 x4 z0 z1 z2 z3 z4 : Int) (v6 : Value) (wr : World) : Prop :=
  ∃ (i m : Nat), i ≤ 5 ∧ v6 = .int .i64 (i : Int) ∧ wr = (subW w x0 x1 x2 x3 x4 z0 z1 z2 z3 z4 i).drewN m
theorem sub_calls (x0 x1 x2 x3 x4 z0 z1 z2 z3 z4 : Int) (w : World) (hx : ∀ x ∈ [x0, x1, x2, x3, x4], 0 ≤ x ∧ x < 4503599627370496) (hz : ∀ x ∈ [z0, z1, z2, z3, z4], 0 ≤ x ∧ x < 4503599627370496) :
    Calls Tryd.prog 33 #[E5 x0 x1 x2 x3 x4, E5 z0 z1 z2 z3 z4] w fun e w' => e = .returned (E5t (carriedZ (x0 + (9007199254740916 - z0)) (x1 + (9007199254740988 - z1)) (x2 + (9007199254740988 - z2)) (x3 + (9007199254740988 - z3)) (x4 + (9007199254740988 - z4)))) ∧ Below w.heap.size w w' := by
  have a0 := hx x0 (by simp); have a1 := hx x1 (by simp); have a2 := hx x2 (by simp); have a3 := hx x3 (by simp); have a4 := hx x4 (by simp)
  have b0 := hz z0 (by simp); have b1 := hz z1 (by simp); have b2 := hz z2 (by simp); have b3 := hz z3 (by simp); have b4 := hz z4 (by simp)
  have w00 : IntKind.u64.wrap (9007199254740916 - z0) = 9007199254740916 - z0 := u64w _ (by omega) (by omega)
  have w01 : IntKind.u64.wrap (x0 + (9007199254740916 - z0)) = x0 + (9007199254740916 - z0) := u64w _ (by omega) (by omega)
  have w10 : IntKind.u64.wrap (9007199254740988 - z1) = 9007199254740988 - z1 := u64w _ (by omega) (by omega)
  have w11 : IntKind.u64.wrap (x1 + (9007199254740988 - z1)) = x1 + (9007199254740988 - z1) := u64w _ (by omega) (by omega)
  have w20 : IntKind.u64.wrap (9007199254740988 - z2) = 9007199254740988 - z2 := u64w _ (by omega) (by omega)
  have w21 : IntKind.u64.wrap (x2 + (9007199254740988 - z2)) = x2 + (9007199254740988 - z2) := u64w _ (by omega) (by omega)
  have w30 : IntKind.u64.wrap (9007199254740988 - z3) = 9007199254740988 - z3 := u64w _ (by omega) (by omega)
  have w31 : IntKind.u64.wrap (x3 + (9007199254740988 - z3)) = x3 + (9007199254740988 - z3) := u64w _ (by omega) (by omega)
  have w40 : IntKind.u64.wrap (9007199254740988 - z4) = 9007199254740988 - z4 := u64w _ (by omega) (by omega)
  have w41 : IntKind.u64.wrap (x4 + (9007199254740988 - z4)) = x4 + (9007199254740988 - z4) := u64w _ (by omega) (by omega)
  have HC := Aside0.mk (fun w => carried_b (x0 + (9007199254740916 - z0)) (x1 + (9007199254740988 - z1)) (x2 + (9007199254740988 - z2)) (x3 + (9007199254740988 - z3)) (x4 + (9007199254740988 - z4)) w (by intro x hx; simp only [List.mem_cons, List.not_mem_nil, or_false] at hx; omega))
  clear hx hz a0 a1 a2 a3 a4 b0 b1 b2 b3 b4
  unfold E5
  go_enter Tryd.func33, Tryd.ntmps33
  go_wp2
  go_loopw [7] (fun v6 wr => subRel w x0 x1 x2 x3 x4 z0 z1 z2 z3 z4 v6 wr) (fun v _ => 5 - (intOf v).toNat)
  case atStart => exact ⟨0, 0, by omega, rfl, rfl⟩
  case round =>
    obtain ⟨i, m, hi, rfl, rfl⟩ := hrel
    have hc : i = 0 ∨ i = 1 ∨ i = 2 ∨ i = 3 ∨ i = 4 ∨ i = 5 := by omega
    rcases hc with rfl | rfl | rfl | rfl | rfl | rfl
    · simp only [subW]
      go_wp2_with fail
      try go_region
      all_goals go_wp2_with fail
      all_goals exact ⟨⟨1, m + 1, by omega, rfl, rfl⟩, by decide⟩
    · simp only [subW]
      go_wp2_with fail
      try go_region
      all_goals go_wp2_with fail
      all_goals exact ⟨⟨2, m + 1, by omega, rfl, rfl⟩, by decide⟩
    · simp only [subW]
      go_wp2_with fail
      try go_region
      all_goals go_wp2_with fail
      all_goals exact ⟨⟨3, m + 1, by omega, rfl, rfl⟩, by decide⟩
    · simp only [subW]
      go_wp2_with fail
      try go_region
      all_goals go_wp2_with fail
      all_goals exact ⟨⟨4, m + 1, by omega, rfl, rfl⟩, by decide⟩
    · simp only [subW]
      go_wp2_with fail
      try go_region
      all_goals go_wp2_with fail
      all_goals exact ⟨⟨5, m + 1, by omega, rfl, rfl⟩, by decide⟩
    · simp only [subW]
      go_wp2_with fail
      refine (HC.out _).mono ?_
      rintro e w1 ⟨rfl, hb⟩
      have hrow : w1.heap[w.heap.size + 1 + 1]? = some (.cells #[.int .u64 0, .int .u64 0, .int .u64 0, .int .u64 0, .int .u64 0] 26 (0, 0)) := (hb.block _ (by simp)).trans (three_new w _ _ _)
      have HBel := Aside0.mk ((bel_drewN (bel_three w _ _ _) m).trans (hb.mono (bel_drewN (bel_three w _ _ _) m).size))
      have hlt : w.heap.size + 1 + 1 < w1.heap.size := (Array.getElem?_eq_some_iff.1 hrow).1
      clear hb HC
      generalize ht : carriedZ (x0 + (9007199254740916 - z0)) (x1 + (9007199254740988 - z1)) (x2 + (9007199254740988 - z2)) (x3 + (9007199254740988 - z3)) (x4 + (9007199254740988 - z4)) = t
      obtain ⟨t0, t1, t2, t3, t4⟩ := t
      have HT := Aside0.mk ht
      clear ht
      simp only [E5t, E5]
      have k0 := cell_of_row w1 _ 0 _ _ _ hrow
      have k1 := cell_of_row w1 _ 1 _ _ _ hrow
      have k2 := cell_of_row w1 _ 2 _ _ _ hrow
      have k3 := cell_of_row w1 _ 3 _ _ _ hrow
      have k4 := cell_of_row w1 _ 4 _ _ _ hrow
      have f0 := frozen_of_row w1 _ 0 _ _ hrow
      have f1 := frozen_of_row w1 _ 1 _ _ hrow
      have f2 := frozen_of_row w1 _ 2 _ _ hrow
      have f3 := frozen_of_row w1 _ 3 _ _ hrow
      have f4 := frozen_of_row w1 _ 4 _ _ hrow
      go_wp2_with fail
      refine bodyPost_ret (results_cell_row rfl _ _ (w.heap.size + 1 + 1) 26 #[.int .u64 t0, .int .u64 t1, .int .u64 t2, .int .u64 t3, .int .u64 t4] (0, 0) _ rfl (set5_row hrow) Tryd.underlying26 rfl (by kernel_rfl)) rfl ?_
      exact ⟨by rw [HT.out]; rfl, set5_bel HBel.out (by omega)⟩
attribute [local go_sem] setCell_drewN
theorem neg_calls (z0 z1 z2 z3 z4 : Int) (w : World) (hz : ∀ x ∈ [z0, z1, z2, z3, z4], 0 ≤ x ∧ x < 4503599627370496) :
    Calls Tryd.prog 37 #[E5 z0 z1 z2 z3 z4] w fun e w' => e = .returned (E5t (carriedZ (0 + (9007199254740916 - z0)) (0 + (9007199254740988 - z1)) (0 + (9007199254740988 - z2)) (0 + (9007199254740988 - z3)) (0 + (9007199254740988 - z4)))) ∧ Below w.heap.size w w' := by
  have HC := Aside0.mk (fun w => sub_calls 0 0 0 0 0 z0 z1 z2 z3 z4 w (by intro x hx; simp only [List.mem_cons, List.not_mem_nil, or_false, or_self] at hx; omega) hz)
  clear hz
  generalize ht : carriedZ (0 + (9007199254740916 - z0)) (0 + (9007199254740988 - z1)) (0 + (9007199254740988 - z2)) (0 + (9007199254740988 - z3)) (0 + (9007199254740988 - z4)) = t at HC
  clear ht
  obtain ⟨t0, t1, t2, t3, t4⟩ := t
  simp only [E5t, E5] at HC ⊢
  go_enter Tryd.func37, Tryd.ntmps37
  go_wp2_with fail
  refine (HC.out _).mono ?_
  rintro e w1 ⟨rfl, hb⟩
  have hrow : w1.heap[w.heap.size + 1]? = some (.cells #[.int .u64 0, .int .u64 0, .int .u64 0, .int .u64 0, .int .u64 0] 26 (0, 0)) := (hb.block _ (by simp)).trans (heap_alloc2_new w _ _)
  have HBel := Aside0.mk ((bel_two w _ _).trans (hb.mono (bel_two w _ _).size))
  have hlt : w.heap.size + 1 < w1.heap.size := (Array.getElem?_eq_some_iff.1 hrow).1
  clear hb HC
  have k0 := cell_of_row w1 _ 0 _ _ _ hrow
  have k1 := cell_of_row w1 _ 1 _ _ _ hrow
  have k2 := cell_of_row w1 _ 2 _ _ _ hrow
  have k3 := cell_of_row w1 _ 3 _ _ _ hrow
  have k4 := cell_of_row w1 _ 4 _ _ _ hrow
  have f0 := frozen_of_row w1 _ 0 _ _ hrow
  have f1 := frozen_of_row w1 _ 1 _ _ hrow
  have f2 := frozen_of_row w1 _ 2 _ _ hrow
  have f3 := frozen_of_row w1 _ 3 _ _ hrow
  have f4 := frozen_of_row w1 _ 4 _ _ hrow
  go_wp2_with fail
  refine bodyPost_ret (results_cell_row rfl _ _ (w.heap.size + 1) 26 #[.int .u64 t0, .int .u64 t1, .int .u64 t2, .int .u64 t3, .int .u64 t4] (0, 0) _ rfl (set5_row hrow) Tryd.underlying26 rfl (by kernel_rfl)) rfl ?_
  exact ⟨rfl, set5_bel HBel.out (by omega)⟩
attribute [local go_sem] setCell_drewN
/-- Behind the bytes 7, 6 .. i: their number. -/
def ldZ (b : Nat → Int) : Nat → Int
  | 0 => 0
  | k + 1 => ldZ b k * 256 + b (7 - k)
theorem ldZ_b (b : Nat → Int) (hb : ∀ j, j < 8 → 0 ≤ b j ∧ b j < 256) : ∀ k : Nat, k ≤ 8 → 0 ≤ ldZ b k ∧ ldZ b k < 256 ^ k
  | 0, _ => ⟨by simp [ldZ], by simp [ldZ]⟩
  | k + 1, h => by
    have h1 := ldZ_b b hb k (by omega)
    have h2 := hb (7 - k) (by omega)
    have e : ldZ b (k + 1) = ldZ b k * 256 + b (7 - k) := rfl
    rw [e, Int.pow_succ]
    omega
theorem or256 (x y : Int) (h0 : 0 ≤ x ∧ x < 72057594037927936) (h1 : 0 ≤ y) (h2 : y < 256) : Go.bits .or .u64 (x * 256) y = x * 256 + y := by
  rw [u64_or _ _ (by omega) (by omega) (by omega) (by omega)]
  have e : (x * 256).toNat ||| y.toNat = x.toNat * 2 ^ 8 + y.toNat := by
    have : (x * 256).toNat = x.toNat * 2 ^ 8 := by omega
    rw [this, Nat.mul_comm, ← Nat.two_pow_add_eq_or_of_lt (by omega)]
  rw [e]
  omega
def LRel (b : Nat → Int) (w : World) (v4 v3 : Value) (wr : World) : Prop := ∃ i : Nat, i ≤ 8 ∧ v4 = .int .i64 (7 - (i : Int)) ∧ v3 = .int .u64 (ldZ b i) ∧ wr = w
theorem load_calls (b : Nat → Int) (g off n c : Nat) (w : World) (hn : 8 ≤ n) (hb : ∀ j, j < 8 → 0 ≤ b j ∧ b j < 256) (hc : ∀ j, j < 8 → w.cell? ⟨g, off + j, none⟩ = some (.int .u8 (b j))) :
    Calls Tryd.prog 57 #[.slice (some ⟨g, off, none⟩) n c] w fun e w' => e = .returned (.int .u64 (ldZ b 8)) ∧ w' = w := by
  go_enter Tryd.func57, Tryd.ntmps57
  go_wp2
  go_loopw [3, 4] (fun v3 v4 wr => LRel b w v4 v3 wr) (fun _ v _ => ((intOf v) + 1).toNat)
  case atStart => exact ⟨0, by omega, rfl, rfl, rfl⟩
  case round =>
    obtain ⟨i, hi, rfl, rfl, rfl⟩ := hrel
    have hcase : i = 0 ∨ i = 1 ∨ i = 2 ∨ i = 3 ∨ i = 4 ∨ i = 5 ∨ i = 6 ∨ i = 7 ∨ i = 8 := by omega
    rcases hcase with rfl | rfl | rfl | rfl | rfl | rfl | rfl | rfl | rfl
    · have hcj := hc 7 (by omega)
      have hbj := hb 7 (by omega)
      have hlt : ((7 : Int) < (n : Int)) = True := eq_true (by omega)
      have hX := ldZ_b b hb 0 (by omega)
      have e1 : ldZ b 1 = ldZ b 0 * 256 + b 7 := rfl
      have hw1 : IntKind.u64.wrap (ldZ b 0 * 256) = ldZ b 0 * 256 := u64w _ (by omega) (by omega)
      have hw2 : IntKind.u64.wrap (b 7) = b 7 := u64w _ (by omega) (by omega)
      have hor := or256 (ldZ b 0) (b 7) (by omega) (by omega) (by omega)
      have HE := Aside0.mk e1
      clear hX hbj hb hc e1
      go_wp2_with fail
      exact ⟨⟨1, by omega, rfl, by rw [HE.out], rfl⟩, by decide⟩
    · have hcj := hc 6 (by omega)
      have hbj := hb 6 (by omega)
      have hlt : ((6 : Int) < (n : Int)) = True := eq_true (by omega)
      have hX := ldZ_b b hb 1 (by omega)
      have e1 : ldZ b 2 = ldZ b 1 * 256 + b 6 := rfl
      have hw1 : IntKind.u64.wrap (ldZ b 1 * 256) = ldZ b 1 * 256 := u64w _ (by omega) (by omega)
      have hw2 : IntKind.u64.wrap (b 6) = b 6 := u64w _ (by omega) (by omega)
      have hor := or256 (ldZ b 1) (b 6) (by omega) (by omega) (by omega)
      have HE := Aside0.mk e1
      clear hX hbj hb hc e1
      go_wp2_with fail
      exact ⟨⟨2, by omega, rfl, by rw [HE.out], rfl⟩, by decide⟩
    · have hcj := hc 5 (by omega)
      have hbj := hb 5 (by omega)
      have hlt : ((5 : Int) < (n : Int)) = True := eq_true (by omega)
      have hX := ldZ_b b hb 2 (by omega)
      have e1 : ldZ b 3 = ldZ b 2 * 256 + b 5 := rfl
      have hw1 : IntKind.u64.wrap (ldZ b 2 * 256) = ldZ b 2 * 256 := u64w _ (by omega) (by omega)
      have hw2 : IntKind.u64.wrap (b 5) = b 5 := u64w _ (by omega) (by omega)
      have hor := or256 (ldZ b 2) (b 5) (by omega) (by omega) (by omega)
      have HE := Aside0.mk e1
      clear hX hbj hb hc e1
      go_wp2_with fail
      exact ⟨⟨3, by omega, rfl, by rw [HE.out], rfl⟩, by decide⟩
    · have hcj := hc 4 (by omega)
      have hbj := hb 4 (by omega)
      have hlt : ((4 : Int) < (n : Int)) = True := eq_true (by omega)
      have hX := ldZ_b b hb 3 (by omega)
      have e1 : ldZ b 4 = ldZ b 3 * 256 + b 4 := rfl
      have hw1 : IntKind.u64.wrap (ldZ b 3 * 256) = ldZ b 3 * 256 := u64w _ (by omega) (by omega)
      have hw2 : IntKind.u64.wrap (b 4) = b 4 := u64w _ (by omega) (by omega)
      have hor := or256 (ldZ b 3) (b 4) (by omega) (by omega) (by omega)
      have HE := Aside0.mk e1
      clear hX hbj hb hc e1
      go_wp2_with fail
      exact ⟨⟨4, by omega, rfl, by rw [HE.out], rfl⟩, by decide⟩
    · have hcj := hc 3 (by omega)
      have hbj := hb 3 (by omega)
      have hlt : ((3 : Int) < (n : Int)) = True := eq_true (by omega)
      have hX := ldZ_b b hb 4 (by omega)
      have e1 : ldZ b 5 = ldZ b 4 * 256 + b 3 := rfl
      have hw1 : IntKind.u64.wrap (ldZ b 4 * 256) = ldZ b 4 * 256 := u64w _ (by omega) (by omega)
      have hw2 : IntKind.u64.wrap (b 3) = b 3 := u64w _ (by omega) (by omega)
      have hor := or256 (ldZ b 4) (b 3) (by omega) (by omega) (by omega)
      have HE := Aside0.mk e1
      clear hX hbj hb hc e1
      go_wp2_with fail
      exact ⟨⟨5, by omega, rfl, by rw [HE.out], rfl⟩, by decide⟩
    · have hcj := hc 2 (by omega)
      have hbj := hb 2 (by omega)
      have hlt : ((2 : Int) < (n : Int)) = True := eq_true (by omega)
      have hX := ldZ_b b hb 5 (by omega)
      have e1 : ldZ b 6 = ldZ b 5 * 256 + b 2 := rfl
      have hw1 : IntKind.u64.wrap (ldZ b 5 * 256) = ldZ b 5 * 256 := u64w _ (by omega) (by omega)
      have hw2 : IntKind.u64.wrap (b 2) = b 2 := u64w _ (by omega) (by omega)
      have hor := or256 (ldZ b 5) (b 2) (by omega) (by omega) (by omega)
      have HE := Aside0.mk e1
      clear hX hbj hb hc e1
      go_wp2_with fail
      exact ⟨⟨6, by omega, rfl, by rw [HE.out], rfl⟩, by decide⟩
    · have hcj := hc 1 (by omega)
      have hbj := hb 1 (by omega)
      have hlt : ((1 : Int) < (n : Int)) = True := eq_true (by omega)
      have hX := ldZ_b b hb 6 (by omega)
      have e1 : ldZ b 7 = ldZ b 6 * 256 + b 1 := rfl
      have hw1 : IntKind.u64.wrap (ldZ b 6 * 256) = ldZ b 6 * 256 := u64w _ (by omega) (by omega)
      have hw2 : IntKind.u64.wrap (b 1) = b 1 := u64w _ (by omega) (by omega)
      have hor := or256 (ldZ b 6) (b 1) (by omega) (by omega) (by omega)
      have HE := Aside0.mk e1
      clear hX hbj hb hc e1
      go_wp2_with fail
      exact ⟨⟨7, by omega, rfl, by rw [HE.out], rfl⟩, by decide⟩
    · have hcj : wr.cell? ⟨g, off, none⟩ = some (.int .u8 (b 0)) := hc 0 (by omega)
      have hbj := hb 0 (by omega)
      have hlt : ((0 : Int) < (n : Int)) = True := eq_true (by omega)
      have hX := ldZ_b b hb 7 (by omega)
      have e1 : ldZ b 8 = ldZ b 7 * 256 + b 0 := rfl
      have hw1 : IntKind.u64.wrap (ldZ b 7 * 256) = ldZ b 7 * 256 := u64w _ (by omega) (by omega)
      have hw2 : IntKind.u64.wrap (b 0) = b 0 := u64w _ (by omega) (by omega)
      have hor := or256 (ldZ b 7) (b 0) (by omega) (by omega) (by omega)
      have HE := Aside0.mk e1
      clear hX hbj hb hc e1
      go_wp2_with fail
      exact ⟨⟨8, by omega, rfl, by rw [HE.out], rfl⟩, by decide⟩
    · go_wp2_with fail
      go_ret
      exact ⟨rfl, rfl⟩
attribute [local go_sem] setCell_drewN
/-- One step of carry. -/
def cstep (f : Nat → Int) (i : Nat) : Nat → Int :=
  if i < 15 then upd (upd f i (f i - f i / 65536 * 65536)) (i + 1) (f (i + 1) + f i / 65536) else upd (upd f i (f i - f i / 65536 * 65536)) 0 (f 0 + 38 * (f i / 65536))
def carryN (f : Nat → Int) : Nat → Nat → Int
  | 0 => f
  | i + 1 => cstep (carryN f i) i
/-- Each of 16 digits is within 2^51 of nought. -/
def CB (f : Nat → Int) : Prop := ∀ j, j < 16 → - 2251799813685248 ≤ f j ∧ f j ≤ 2251799813685248
theorem carryN_b (f : Nat → Int) (hf : CB f) : ∀ i, i ≤ 15 → (∀ j, j < i → 0 ≤ carryN f i j ∧ carryN f i j < 65536) ∧ (-2251868533161984 ≤ carryN f i i ∧ carryN f i i ≤ 2251868533161984) ∧ ∀ j, i < j → carryN f i j = f j
  | 0, _ => ⟨fun j h => absurd h (by omega), by have := hf 0 (by omega); simp only [carryN]; omega, fun j _ => rfl⟩
  | i + 1, hi => by
    obtain ⟨h1, h2, h3⟩ := carryN_b f hf i (by omega)
    have e : carryN f (i + 1) = upd (upd (carryN f i) i (carryN f i i - carryN f i i / 65536 * 65536)) (i + 1) (carryN f i (i + 1) + carryN f i i / 65536) := by
      show cstep (carryN f i) i = _
      unfold cstep; rw [if_pos (by omega)]
    refine ⟨fun j hj => ?_, ?_, fun j hj => ?_⟩
    · rw [e, upd_other _ _ _ _ (by omega)]
      by_cases hji : j = i
      · subst hji; rw [upd_same]; omega
      · rw [upd_other _ _ _ _ hji]; exact h1 j (by omega)
    · rw [e, upd_same, h3 (i + 1) (by omega)]
      have := hf (i + 1) (by omega)
      omega
    · rw [e, upd_other _ _ _ _ (by omega), upd_other _ _ _ _ (by omega)]; exact h3 j (by omega)
def KRel (w : World) (f : Nat → Int) (v3 : Value) (wr : World) : Prop :=
  ∃ (i : Nat), i ≤ 16 ∧ v3 = .int .i64 (i : Int) ∧ Below w.heap.size w wr ∧ Row wr w.heap.size .i64 16 (carryN f i) 34 ∧ Row wr (w.heap.size + 1) .i64 16 (fun _ => 0) 34
theorem info33 : (Tryd.prog.info? 34).map (·.size) = some 16 := by kernel_rfl
theorem carry_calls (f : Nat → Int) (w : World) (hf : CB f) :
    Calls Tryd.prog 59 #[.agg (FR .i64 16 f)] w fun e w' => e = .returned (.agg (FR .i64 16 (carryN f 16))) ∧ Below w.heap.size w w' := by
  have HF := Aside0.mk hf
  clear hf
  go_enter Tryd.func59, Tryd.ntmps59
  go_wp2
  go_loopw [3] (fun v3 wr => KRel w f v3 wr) (fun v _ => 16 - (intOf v).toNat)
  case atStart => exact ⟨0, by omega, rfl, bel_two w _ _, Row.alloc (Row.new w .i64 16 f 34) _, heap_alloc2_new w _ _⟩
  case round =>
    obtain ⟨i, hi, rfl, hb, hr, hr2⟩ := hrel
    have HB := Aside0.mk hb
    have HR := Aside0.mk hr
    have HR2 := Aside0.mk hr2
    have hlt1 : w.heap.size < wr.heap.size := hr.lt
    have hlt2 : w.heap.size + 1 < wr.heap.size := hr2.lt
    clear hb
    rcases Nat.lt_or_ge i 15 with h15 | h15
    · have hx := carryN_b f HF.out i (by omega)
      have hy := HF.out (i + 1) (by omega)
      have hlt : ((i : Int) < 16) = True := eq_true (by omega)
      have hlt2 : ((i : Int) < 15) = True := eq_true (by omega)
      have e1 := hx.2.2 (i + 1) (by omega)
      have k0 := hr.cell i (by omega)
      have k1 := hr.cell (i + 1) (by omega)
      have f0 := hr.fro i
      have f1 := hr.fro (i + 1)
      have HE := Aside0.mk (show carryN f (i + 1) = upd (upd (carryN f i) i (carryN f i i - carryN f i i / 65536 * 65536)) (i + 1) (carryN f i (i + 1) + carryN f i i / 65536) by
        show cstep (carryN f i) i = _
        unfold cstep; rw [if_pos (by omega)])
      have HS := Aside0.mk ((hr.set i (carryN f i i - carryN f i i / 65536 * 65536) (by omega)).set (i + 1) (carryN f i (i + 1) + carryN f i i / 65536) (by omega))
      have hb2 := hx.2.1
      rw [← e1] at hy
      generalize carryN f i i = x at *
      generalize carryN f i (i + 1) = y at *
      have w1 : wrap64 (x / 65536 * 65536) = x / 65536 * 65536 := w64 _ (by omega)
      have w2 : wrap64 (x - x / 65536 * 65536) = x - x / 65536 * 65536 := w64 _ (by omega)
      have w3 : wrap64 (y + x / 65536) = y + x / 65536 := w64 _ (by omega)
      clear hx hr hr2 hb2 hy e1
      go_wp2_with fail
      refine ⟨⟨i + 1, by omega, rfl, bel_set (bel_set HB.out _ _ (Nat.le_refl _)) _ _ (Nat.le_refl _), ?_, ?_⟩, meas_up 16 i (by omega)⟩
      · rw [HE.out]; exact HS.out
      · exact (HR2.out.other _ _ (show w.heap.size + 1 ≠ w.heap.size by omega)).other _ _ (show w.heap.size + 1 ≠ w.heap.size by omega)
    · rcases Nat.lt_or_ge i 16 with h16 | h16
      · obtain rfl : i = 15 := by omega
        have hx := carryN_b f HF.out 15 (by omega)
        have hy := hx.1 0 (by omega)
        have k0 := hr.cell 15 (by omega)
        have k1 := hr.cell 0 (by omega)
        have f0 := hr.fro 15
        have f1 := hr.fro 0
        have HE := Aside0.mk (show carryN f 16 = upd (upd (carryN f 15) 15 (carryN f 15 15 - carryN f 15 15 / 65536 * 65536)) 0 (carryN f 15 0 + 38 * (carryN f 15 15 / 65536)) from rfl)
        have HS := Aside0.mk ((hr.set 15 (carryN f 15 15 - carryN f 15 15 / 65536 * 65536) (by omega)).set 0 (carryN f 15 0 + 38 * (carryN f 15 15 / 65536)) (by omega))
        have hb2 := hx.2.1
        generalize carryN f 15 15 = x at *
        generalize carryN f 15 0 = y at *
        have w1 : wrap64 (x / 65536 * 65536) = x / 65536 * 65536 := w64 _ (by omega)
        have w2 : wrap64 (x - x / 65536 * 65536) = x - x / 65536 * 65536 := w64 _ (by omega)
        have w3 : wrap64 (38 * (x / 65536)) = 38 * (x / 65536) := w64 _ (by omega)
        have w4 : wrap64 (y + 38 * (x / 65536)) = y + 38 * (x / 65536) := w64 _ (by omega)
        clear hx hr hr2 hb2 hy
        go_wp2_with fail
        refine ⟨⟨16, by omega, rfl, bel_set (bel_set HB.out _ _ (Nat.le_refl _)) _ _ (Nat.le_refl _), ?_, ?_⟩, by decide⟩
        · rw [HE.out]; exact HS.out
        · exact (HR2.out.other _ _ (show w.heap.size + 1 ≠ w.heap.size by omega)).other _ _ (show w.heap.size + 1 ≠ w.heap.size by omega)
      · obtain rfl : i = 16 := by omega
        clear hr hr2 hlt1 hlt2
        go_wp2_with (first | refine step_load HR.out Tryd.underlying34 info33 rfl rfl rfl rfl ?_ | refine step_store (carryN f 16) HR2.out info33 rfl rfl rfl rfl rfl ?_)
        refine bodyPost_ret (row_results rfl (HR2.out.all) rfl Tryd.underlying34 rfl info33) rfl ?_
        exact ⟨rfl, bel_setCells (by omega) _ _ _ HB.out⟩
attribute [local go_sem] setCell_drewN
/-- The prime's digits. -/
def pD (i : Nat) : Int := if i = 0 then 65517 else if i = 15 then 32767 else 65535
theorem P_calls (w : World) : Calls Tryd.prog 67 #[] w fun e w' => e = .returned (.agg (FR .i64 16 pD)) ∧ Below w.heap.size w w' := by
  go_enter Tryd.func67, Tryd.ntmps67
  go_wp2_with fail
  have e : (#[.int .i64 65517, .int .i64 65535, .int .i64 65535, .int .i64 65535, .int .i64 65535, .int .i64 65535, .int .i64 65535, .int .i64 65535, .int .i64 65535, .int .i64 65535, .int .i64 65535, .int .i64 65535, .int .i64 65535, .int .i64 65535, .int .i64 65535, .int .i64 32767] : Array Value) = FR .i64 16 pD := by kernel_rfl
  rw [e]
  refine bodyPost_ret (row_results rfl (Row.new w .i64 16 pD 34) rfl Tryd.underlying34 rfl info33) rfl ?_
  exact ⟨rfl, (Below.refl _ _).alloc (Nat.le_refl _) _⟩
/-- The bytes' digits. -/
def bD (s : ByteArray) (i : Nat) : Int := sB s (2 * i) + 256 * sB s (2 * i + 1)
theorem of_wraps (i : Nat) (x y : Int) (hi : i < 16) (hx : 0 ≤ x ∧ x < 256) (hy : 0 ≤ y ∧ y < 256) : wrap64 x = x ∧ wrap64 y = y ∧ wrap64 (2 * (i : Int)) = 2 * (i : Int) ∧ wrap64 (2 * (i : Int) + 1) = 2 * (i : Int) + 1 ∧ wrap64 (256 * y) = 256 * y ∧ wrap64 (x + 256 * y) = x + 256 * y ∧ IntKind.i64.wrap (2 * (i : Int)) = 2 * (i : Int) ∧ IntKind.i64.wrap (2 * (i : Int) + 1) = 2 * (i : Int) + 1 ∧ IntKind.i64.wrap (256 * y) = 256 * y ∧ IntKind.i64.wrap (x + 256 * y) = x + 256 * y := ⟨w64 _ (by omega), w64 _ (by omega), w64 _ (by omega), w64 _ (by omega), w64 _ (by omega), w64 _ (by omega), i64w _ (by omega), i64w _ (by omega), i64w _ (by omega), i64w _ (by omega)⟩
def ORel (s : ByteArray) (w : World) (v4 : Value) (wr : World) : Prop :=
  ∃ (i : Nat), i ≤ 16 ∧ v4 = .int .i64 (i : Int) ∧ Below w.heap.size w wr ∧ Row wr (w.heap.size + 1) .i64 16 (fun j => if j < i then bD s j else 0) 34 ∧ Row wr w.heap.size .i64 16 (fun _ => 0) 34
theorem Of_calls (s : ByteArray) (w : World) (hs : s.size = 32) :
    Calls Tryd.prog 38 #[.string s] w fun e w' => e = .returned (.agg (FR .i64 16 (bD s))) ∧ Below w.heap.size w w' := by
  go_enter Tryd.func38, Tryd.ntmps38
  go_wp2_with fail
  go_loopw [4] (fun v3 wr => ORel s w v3 wr) (fun v _ => 16 - (intOf v).toNat)
  case atStart => exact ⟨0, by omega, rfl, bel_two w _ _, heap_alloc2_new w _ _, heap_alloc2_old w _ _⟩
  case round =>
    obtain ⟨i, hi, rfl, hb, hr, hr2⟩ := hrel
    have hlt1 := hr2.lt
    have hlt2 := hr.lt
    have HB := Aside0.mk hb
    have HR := Aside0.mk hr
    have HR2 := Aside0.mk hr2
    rcases Nat.lt_or_ge i 16 with h15 | h15
    · have hlt : ((i : Int) < 16) = True := eq_true (by omega)
      have f0 := hr.fro i
      have k0 := hr.cell i (by omega)
      obtain ⟨b0, hb0, hv0⟩ := sB_at s (2 * i) (by omega)
      obtain ⟨b1, hb1, hv1⟩ := sB_at s (2 * i + 1) (by omega)
      have l0 := b0.toNat_lt
      have l1 := b1.toNat_lt
      have HV := Aside0.mk (show (b0.toNat : Int) + 256 * (b1.toNat : Int) = bD s i by unfold bD; omega)
      obtain ⟨wx, wy, w0, w1, w2, w3, v0, v1, v2, v3⟩ := of_wraps i b0.toNat b1.toNat h15 (by omega) (by omega)
      have q0 : (2 * (i : Int) < (s.size : Int)) = True := eq_true (by omega)
      have q1 : (2 * (i : Int) + 1 < (s.size : Int)) = True := eq_true (by omega)
      have t0 := toNat2 i
      have t1 := toNat21 i
      clear hb hr hr2 hs hv0 hv1 l0 l1
      go_wp2_with fail
      go_region
      all_goals go_wp2_with fail
      refine ⟨⟨i + 1, by omega, rfl, (bel_set HB.out _ _ (by simp)).drew, ?_, HR2.out.other _ _ (show w.heap.size ≠ w.heap.size + 1 by omega)⟩, meas_up 16 i (by omega)⟩
      rw [HV.out]
      exact row_eq (HR.out.set i (bD s i) (by omega)) (fun j hj => by
        unfold upd
        by_cases hji : j = i
        · subst hji; rw [if_pos rfl, if_pos (by omega)]
        · rw [if_neg hji]
          show (if j < i then bD s j else 0) = _
          by_cases hjl : j < i
          · rw [if_pos hjl, if_pos (by omega)]
          · rw [if_neg hjl, if_neg (by omega)])
    · obtain rfl : i = 16 := by omega
      clear hb hr hr2 hs hlt1 hlt2
      go_wp2_with (first | refine step_load HR.out Tryd.underlying34 info33 rfl rfl rfl rfl ?_ | refine step_store _ HR2.out info33 rfl rfl rfl rfl rfl ?_)
      refine bodyPost_ret (row_results rfl (HR2.out.all) rfl Tryd.underlying34 rfl info33) rfl ?_
      exact ⟨by rw [FR_congr .i64 16 _ (bD s) (fun j hj => if_pos hj)], bel_setCells (by omega) _ _ _ HB.out⟩
attribute [local go_sem] setCell_drewN
/-- Below the prime, digit by digit, from digit i - 1 down. -/
def belowN (f : Nat → Int) : Nat → Bool
  | 0 => false
  | i + 1 => if f i = pD i then belowN f i else decide (f i < pD i)
theorem pD_b (i : Nat) : 0 ≤ pD i ∧ pD i ≤ 65535 := by
  unfold pD; split <;> (try split) <;> omega
def BRel (f : Nat → Int) (w : World) (v4 : Value) (gp : Nat) (wr : World) : Prop :=
  ∃ (i : Nat), i ≤ 16 ∧ v4 = .int .i64 ((i : Int) - 1) ∧ belowN f i = belowN f 16 ∧ Below w.heap.size w wr ∧ Row wr w.heap.size .i64 16 f 34 ∧ Row wr gp .i64 16 pD 34
theorem below_calls (f : Nat → Int) (w : World) :
    Calls Tryd.prog 66 #[.agg (FR .i64 16 f)] w fun e w' => e = .returned (.bool (belowN f 16)) ∧ Below w.heap.size w w' := by
  go_enter Tryd.func66, Tryd.ntmps66
  go_wp2_with fail
  refine (P_calls _).mono ?_
  rintro e w1 ⟨rfl, hb⟩
  have hr := Row.below (Row.new w .i64 16 f 34) hb (by simp)
  have HR := Aside0.mk hr
  have hb2 := (Below.refl w.heap.size w).alloc (Nat.le_refl _) (.cells (FR .i64 16 f) 34)
  have HB := Aside0.mk (hb2.trans (hb.mono (by simp)))
  have hlt := hr.lt
  clear hb hb2 hr
  have HN := Aside0.mk (Row.new w1 .i64 16 (fun _ => 0) 34)
  go_wp2_with (refine step_store pD HN.out info33 rfl rfl rfl rfl rfl ?_)
  have HB2 := Aside0.mk (bel_setCells (show w.heap.size ≤ w1.heap.size by omega) (FR .i64 16 pD).toList 0 _ (HB.out.alloc (by omega) (.cells (FR .i64 16 fun _ => 0) 34)))
  have HR2 := Aside0.mk ((HR.out.alloc (.cells (FR .i64 16 fun _ => 0) 34)).cells_other (FR .i64 16 pD).toList (show w.heap.size ≠ w1.heap.size by omega))
  have HP := Aside0.mk (HN.out.all (f' := pD))
  go_loopw [4, 2] (fun v4 v2 wr => v2 = .bool false ∧ BRel f w v4 w1.heap.size wr) (fun v _ _ => ((intOf v) + 1).toNat)
  case atStart => exact ⟨rfl, 16, by omega, rfl, rfl, HB2.out, HR2.out, HP.out⟩
  case round =>
    obtain ⟨rfl, i, hi, rfl, he, hb, hr, hp⟩ := hrel
    have HB3 := Aside0.mk hb
    have HE := Aside0.mk he
    have HR3 := Aside0.mk hr
    have HP3 := Aside0.mk hp
    rcases Nat.lt_or_ge 0 i with h15 | h15
    · obtain ⟨j, rfl⟩ : ∃ j, i = j + 1 := ⟨i - 1, by omega⟩
      have e1 : ((j + 1 : Nat) : Int) - 1 = (j : Int) := by omega
      rw [e1]
      have hge : ((j : Int) ≥ 0) = True := eq_true (by omega)
      have hlt : ((j : Int) < 16) = True := eq_true (by omega)
      have k0 := hr.cell j (by omega)
      have k1 := hp.cell j (by omega)
      clear hb hr hp he
      by_cases hq : f j = pD j
      · have HQ := Aside0.mk hq
        have hd : (f j != pD j) = false := by simp [hq]
        have hd2 : (f j = pD j) = True := eq_true hq
        clear hq
        go_wp2_with fail
        go_region
        all_goals go_wp2_with fail
        refine ⟨⟨rfl, j, by omega, rfl, ?_, HB3.out.drew, HR3.out, HP3.out⟩, by simp only [intOf]; omega⟩
        rw [← HE.out]; show _ = if f j = pD j then belowN f j else _
        rw [if_pos HQ.out]
      · have HQ := Aside0.mk hq
        have hd : (f j != pD j) = true := by simp [hq]
        have hd2 : (f j = pD j) = False := eq_false hq
        clear hq
        go_wp2_with fail
        go_region
        all_goals go_wp2_with fail
        go_region
        all_goals go_wp2_with fail
        go_ret
        refine ⟨?_, HB3.out.drew.drew⟩
        rw [← HE.out]; show _ = Ending.returned (Value.bool (if f j = pD j then belowN f j else _))
        rw [if_neg HQ.out]; rfl
    · obtain rfl : i = 0 := by omega
      clear hb hr hp he
      go_wp2_with fail
      go_ret
      refine ⟨?_, HB3.out⟩
      rw [← HE.out]; rfl
attribute [local go_sem] setCell_drewN
/-- Each of 16 digits is within 2^50 of nought. -/
def CB0 (f : Nat → Int) : Prop := ∀ j, j < 16 → - 1125899906842624 ≤ f j ∧ f j ≤ 1125899906842624
theorem small_ref_calls (n : Int) (w : World) (hn : 0 ≤ n ∧ n < 4294967296) :
    Calls Tryd.prog 40 #[.int .i64 n] w fun e w' => e = .returned (.agg (FR .i64 16 (carryN (fun i => if i = 0 then n else 0) 16))) ∧ Below w.heap.size w w' := by
  have HN := Aside0.mk hn
  clear hn
  go_enter Tryd.func40, Tryd.ntmps40
  go_wp2_with fail
  have e : (#[.int .i64 n, .int .i64 0, .int .i64 0, .int .i64 0, .int .i64 0, .int .i64 0, .int .i64 0, .int .i64 0, .int .i64 0, .int .i64 0, .int .i64 0, .int .i64 0, .int .i64 0, .int .i64 0, .int .i64 0, .int .i64 0] : Array Value) = FR .i64 16 (fun i => if i = 0 then n else 0) := by rfl
  rw [e]
  refine (carry_calls _ _ (fun j hj => by have := HN.out; split <;> omega)).mono ?_
  rintro e w1 ⟨rfl, hb⟩
  have hr : Row w1 w.heap.size .i64 16 (fun _ => 0) 34 := (Row.new w .i64 16 (fun _ => 0) 34).below hb (by simp)
  have HR := Aside0.mk hr
  have HB := Aside0.mk (((Below.refl w.heap.size w).alloc (Nat.le_refl _) (.cells (FR .i64 16 fun _ => 0) 34)).trans (hb.mono (by simp)))
  have hlt := hr.lt
  clear hb hr e
  go_wp2_with (refine step_store _ HR.out info33 rfl rfl rfl rfl rfl ?_)
  refine bodyPost_ret (row_results rfl (HR.out.all) rfl Tryd.underlying34 rfl info33) rfl ?_
  exact ⟨rfl, bel_setCells (by omega) _ _ _ HB.out⟩
def addRRel (f g : Nat → Int) (w : World) (v5 : Value) (wr : World) : Prop :=
  ∃ (i : Nat), i ≤ 16 ∧ v5 = .int .i64 (i : Int) ∧ Below w.heap.size w wr ∧ Row wr w.heap.size .i64 16 (fun j => if j < i then f j + g j else f j) 34 ∧ Row wr (w.heap.size + 1) .i64 16 g 34 ∧ Row wr (w.heap.size + 1 + 1) .i64 16 (fun _ => 0) 34
theorem addR_calls (f g : Nat → Int) (w : World) (hf : CB0 f) (hg : CB0 g) :
    Calls Tryd.prog 43 #[.agg (FR .i64 16 f), .agg (FR .i64 16 g)] w fun e w' => e = .returned (.agg (FR .i64 16 (carryN (fun i => f i + g i) 16))) ∧ Below w.heap.size w w' := by
  have HF := Aside0.mk hf
  have HG := Aside0.mk hg
  clear hf hg
  go_enter Tryd.func43, Tryd.ntmps43
  go_wp2_with fail
  go_loopw [5] (fun v5 wr => addRRel f g w v5 wr) (fun v _ => 16 - (intOf v).toNat)
  case atStart => exact ⟨0, by omega, rfl, bel_three w _ _ _, ((Row.new w .i64 16 f 34).alloc _).alloc _, Row.alloc (heap_alloc2_new w _ _) _, three_new w _ _ _⟩
  case round =>
    obtain ⟨i, hi, rfl, hb, hr, hg, h0⟩ := hrel
    have HB := Aside0.mk hb
    have HR := Aside0.mk hr
    have HR2 := Aside0.mk hg
    have HR3 := Aside0.mk h0
    have hlt1 := hr.lt
    have hlt2 := hg.lt
    have hlt3 := h0.lt
    rcases Nat.lt_or_ge i 16 with h15 | h15
    · have hlt : ((i : Int) < 16) = True := eq_true (by omega)
      have f0 := hr.fro i
      have k0 := hr.cell i (by omega)
      have e0 : (if i < i then f i + g i else f i) = f i := if_neg (by omega)
      have k1 := hg.cell i (by omega)
      rw [e0] at k0
      have b0 := HF.out i (by omega)
      have b1 := HG.out i (by omega)
      have w0 : wrap64 (f i + g i) = f i + g i := w64 _ (by omega)
      clear hb hr hg h0 e0 b0 b1
      go_wp2_with fail
      go_region
      all_goals go_wp2_with fail
      refine ⟨⟨i + 1, by omega, rfl, (bel_set HB.out _ _ (by simp)).drew, ?_, HR2.out.other _ _ (show w.heap.size + 1 ≠ w.heap.size by omega), HR3.out.other _ _ (show w.heap.size + 1 + 1 ≠ w.heap.size by omega)⟩, meas_up 16 i (by omega)⟩
      exact part_step (F := fun j => f j + g j) (a := ⟨0, 0, none⟩) HR.out (by omega)
    · obtain rfl : i = 16 := by omega
      have HR1 := Aside0.mk (row_eq HR.out (f' := fun j => f j + g j) (fun j hj => if_pos hj))
      clear hb hr hg h0 HR
      go_wp2_with (refine step_load HR1.out Tryd.underlying34 info33 rfl rfl rfl rfl ?_)
      refine (carry_calls _ _ (fun j hj => by have := HF.out j hj; have := HG.out j hj; omega)).mono ?_
      rintro e w1 ⟨rfl, hb⟩
      have HR4 := Aside0.mk (HR3.out.below hb (by omega))
      have HB4 := Aside0.mk (HB.out.trans (hb.mono (by omega)))
      have hlt4 := HR4.out.lt
      clear hb
      go_wp2_with (refine step_store _ HR4.out info33 rfl rfl rfl rfl rfl ?_)
      refine bodyPost_ret (row_results rfl (HR4.out.all) rfl Tryd.underlying34 rfl info33) rfl ?_
      exact ⟨rfl, bel_setCells (by omega) _ _ _ HB4.out⟩
def subRRel (f g : Nat → Int) (w : World) (v5 : Value) (wr : World) : Prop :=
  ∃ (i : Nat), i ≤ 16 ∧ v5 = .int .i64 (i : Int) ∧ Below w.heap.size w wr ∧ Row wr w.heap.size .i64 16 (fun j => if j < i then f j - g j else f j) 34 ∧ Row wr (w.heap.size + 1) .i64 16 g 34 ∧ Row wr (w.heap.size + 1 + 1) .i64 16 (fun _ => 0) 34
theorem subR_calls (f g : Nat → Int) (w : World) (hf : CB0 f) (hg : CB0 g) :
    Calls Tryd.prog 42 #[.agg (FR .i64 16 f), .agg (FR .i64 16 g)] w fun e w' => e = .returned (.agg (FR .i64 16 (carryN (fun i => f i - g i) 16))) ∧ Below w.heap.size w w' := by
  have HF := Aside0.mk hf
  have HG := Aside0.mk hg
  clear hf hg
  go_enter Tryd.func42, Tryd.ntmps42
  go_wp2_with fail
  go_loopw [5] (fun v5 wr => subRRel f g w v5 wr) (fun v _ => 16 - (intOf v).toNat)
  case atStart => exact ⟨0, by omega, rfl, bel_three w _ _ _, ((Row.new w .i64 16 f 34).alloc _).alloc _, Row.alloc (heap_alloc2_new w _ _) _, three_new w _ _ _⟩
  case round =>
    obtain ⟨i, hi, rfl, hb, hr, hg, h0⟩ := hrel
    have HB := Aside0.mk hb
    have HR := Aside0.mk hr
    have HR2 := Aside0.mk hg
    have HR3 := Aside0.mk h0
    have hlt1 := hr.lt
    have hlt2 := hg.lt
    have hlt3 := h0.lt
    rcases Nat.lt_or_ge i 16 with h15 | h15
    · have hlt : ((i : Int) < 16) = True := eq_true (by omega)
      have f0 := hr.fro i
      have k0 := hr.cell i (by omega)
      have e0 : (if i < i then f i - g i else f i) = f i := if_neg (by omega)
      have k1 := hg.cell i (by omega)
      rw [e0] at k0
      have b0 := HF.out i (by omega)
      have b1 := HG.out i (by omega)
      have w0 : wrap64 (f i - g i) = f i - g i := w64 _ (by omega)
      clear hb hr hg h0 e0 b0 b1
      go_wp2_with fail
      go_region
      all_goals go_wp2_with fail
      refine ⟨⟨i + 1, by omega, rfl, (bel_set HB.out _ _ (by simp)).drew, ?_, HR2.out.other _ _ (show w.heap.size + 1 ≠ w.heap.size by omega), HR3.out.other _ _ (show w.heap.size + 1 + 1 ≠ w.heap.size by omega)⟩, meas_up 16 i (by omega)⟩
      exact part_step (F := fun j => f j - g j) (a := ⟨0, 0, none⟩) HR.out (by omega)
    · obtain rfl : i = 16 := by omega
      have HR1 := Aside0.mk (row_eq HR.out (f' := fun j => f j - g j) (fun j hj => if_pos hj))
      clear hb hr hg h0 HR
      go_wp2_with (refine step_load HR1.out Tryd.underlying34 info33 rfl rfl rfl rfl ?_)
      refine (carry_calls _ _ (fun j hj => by have := HF.out j hj; have := HG.out j hj; omega)).mono ?_
      rintro e w1 ⟨rfl, hb⟩
      have HR4 := Aside0.mk (HR3.out.below hb (by omega))
      have HB4 := Aside0.mk (HB.out.trans (hb.mono (by omega)))
      have hlt4 := HR4.out.lt
      clear hb
      go_wp2_with (refine step_store _ HR4.out info33 rfl rfl rfl rfl rfl ?_)
      refine bodyPost_ret (row_results rfl (HR4.out.all) rfl Tryd.underlying34 rfl info33) rfl ?_
      exact ⟨rfl, bel_setCells (by omega) _ _ _ HB4.out⟩
theorem carryN_eq (f : Nat → Int) : ∀ i, i ≤ 15 → ∀ j, carryN f i j = if j < i then (f j + cy 65536 f j) % 65536 else if j = i then f j + cy 65536 f j else f j
  | 0, _, j => by
    rw [if_neg (by omega)]
    show f j = _
    split
    · rename_i h; subst h; simp [cy]
    · rfl
  | i + 1, hi, j => by
    have ih := carryN_eq f i (by omega)
    have e : carryN f (i + 1) = upd (upd (carryN f i) i (carryN f i i - carryN f i i / 65536 * 65536)) (i + 1) (carryN f i (i + 1) + carryN f i i / 65536) := by
      show cstep (carryN f i) i = _
      unfold cstep; rw [if_pos (by omega)]
    have e1 : carryN f i i = f i + cy 65536 f i := by rw [ih i, if_neg (by omega), if_pos rfl]
    have e2 : carryN f i (i + 1) = f (i + 1) := by rw [ih (i + 1), if_neg (by omega), if_neg (by omega)]
    rw [e, e1, e2]
    by_cases h1 : j = i + 1
    · subst h1
      rw [upd_same, if_neg (by omega), if_pos rfl]; rfl
    · rw [upd_other _ _ _ _ h1]
      by_cases h2 : j = i
      · subst h2
        rw [upd_same, if_pos (by omega)]; omega
      · rw [upd_other _ _ _ _ h2, ih j]
        by_cases h3 : j < i
        · rw [if_pos h3, if_pos (by omega)]
        · rw [if_neg h3, if_neg h2, if_neg (by omega), if_neg h1]
theorem carry16 (f : Nat → Int) (j : Nat) (hj : j < 16) : carryN f 16 j = (f j + cy 65536 f j) % 65536 + (if j = 0 then 38 * cy 65536 f 16 else 0) := by
  have ih := carryN_eq f 15 (by omega)
  have e : carryN f 16 = upd (upd (carryN f 15) 15 (carryN f 15 15 - carryN f 15 15 / 65536 * 65536)) 0 (carryN f 15 0 + 38 * (carryN f 15 15 / 65536)) := rfl
  have e1 : carryN f 15 15 = f 15 + cy 65536 f 15 := by rw [ih 15, if_neg (by omega), if_pos rfl]
  have e2 : carryN f 15 0 = (f 0 + cy 65536 f 0) % 65536 := by rw [ih 0, if_pos (by omega)]
  have e3 : cy 65536 f 16 = (f 15 + cy 65536 f 15) / 65536 := rfl
  rw [e, e1, e2, e3]
  by_cases h0 : j = 0
  · subst h0; rw [upd_same, if_pos rfl]
  · rw [upd_other _ _ _ _ h0, if_neg h0]
    by_cases h1 : j = 15
    · subst h1; rw [upd_same]; omega
    · rw [upd_other _ _ _ _ h1, ih j, if_pos (by omega)]; omega
/-- The number of 16 digits of 16 bits. -/
def V16 (f : Nat → Int) : Int := val 65536 f 16
theorem V16_eq (f : Nat → Int) : V16 f = f 0 + f 1 * 65536 ^ 1 + f 2 * 65536 ^ 2 + f 3 * 65536 ^ 3 + f 4 * 65536 ^ 4 + f 5 * 65536 ^ 5 + f 6 * 65536 ^ 6 + f 7 * 65536 ^ 7 + f 8 * 65536 ^ 8 + f 9 * 65536 ^ 9 + f 10 * 65536 ^ 10 + f 11 * 65536 ^ 11 + f 12 * 65536 ^ 12 + f 13 * 65536 ^ 13 + f 14 * 65536 ^ 14 + f 15 * 65536 ^ 15 := by
  simp [V16, val]
def QQ : Int := 115792089237316195423570985008687907853269984665640564039457584007913129639936
def PP : Int := 57896044618658097711785492504343953926634992332820282019728792003956564819949
theorem QQ_pow : (65536 : Int) ^ 16 = QQ := by decide
theorem QQ_PP : QQ = 2 * PP + 38 := by decide
theorem V16_carry (f : Nat → Int) : V16 (carryN f 16) = V16 f % QQ + 38 * (V16 f / QQ) := by
  have h := cy_div 65536 (by omega) f 16
  unfold V16
  rw [val_congr 65536 _ _ 16 (fun i hi => carry16 f i hi), val_add 65536 (fun j => (f j + cy 65536 f j) % 65536) (fun j => if j = 0 then 38 * cy 65536 f 16 else 0), h.2, h.1, QQ_pow]
  congr 1
  simp [val]
theorem V16_carry_mod (f : Nat → Int) : V16 (carryN f 16) % PP = V16 f % PP := by
  rw [V16_carry]
  generalize V16 f = x
  have h := Int.emod_add_mul_ediv x QQ
  have e : x = (x % QQ + 38 * (x / QQ)) + PP * (2 * (x / QQ)) := by
    conv => lhs; rw [← h]
    rw [QQ_PP]; grind
  conv => rhs; rw [e]
  rw [Int.add_mul_emod_self_left]
theorem V16_b (f : Nat → Int) (hf : CB f) : -68719476736 * QQ ≤ V16 f ∧ V16 f ≤ 68719476736 * QQ := by
  rw [V16_eq]
  have h0 := hf 0 (by omega); have h1 := hf 1 (by omega); have h2 := hf 2 (by omega); have h3 := hf 3 (by omega)
  have h4 := hf 4 (by omega); have h5 := hf 5 (by omega); have h6 := hf 6 (by omega); have h7 := hf 7 (by omega)
  have h8 := hf 8 (by omega); have h9 := hf 9 (by omega); have h10 := hf 10 (by omega); have h11 := hf 11 (by omega)
  have h12 := hf 12 (by omega); have h13 := hf 13 (by omega); have h14 := hf 14 (by omega); have h15 := hf 15 (by omega)
  unfold QQ
  omega
/-- The digits but the lowest are right, the lowest is within 2^42. -/
def CB1 (f : Nat → Int) : Prop := (∀ j, j < 16 → j ≠ 0 → 0 ≤ f j ∧ f j < 65536) ∧ (-4398046511104 ≤ f 0 ∧ f 0 ≤ 4398046511104)
theorem CB1.cb {f : Nat → Int} (h : CB1 f) : CB f := fun j hj => by
  by_cases h0 : j = 0
  · subst h0; have := h.2; omega
  · have := h.1 j hj h0; omega
theorem carry_digits (f : Nat → Int) (j : Nat) (hj : j < 16) (h0 : j ≠ 0) : 0 ≤ carryN f 16 j ∧ carryN f 16 j < 65536 := by
  rw [carry16 f j hj, if_neg h0]; omega
theorem carry_zero (f : Nat → Int) : carryN f 16 0 = f 0 % 65536 + 38 * (V16 f / QQ) := by
  have h := (cy_div 65536 (by omega) f 16).1
  rw [QQ_pow] at h
  rw [carry16 f 0 (by omega), if_pos rfl, h]
  show (f 0 + 0) % 65536 + 38 * (V16 f / QQ) = _
  rw [Int.add_zero]
theorem carry_CB1 (f : Nat → Int) (hf : CB f) : CB1 (carryN f 16) := by
  refine ⟨carry_digits f, ?_⟩
  have h := V16_b f hf
  rw [carry_zero]
  generalize V16 f = x at *
  unfold QQ at *
  omega
theorem V16_b1 (f : Nat → Int) (hf : CB1 f) : -4398046511104 ≤ V16 f ∧ V16 f ≤ QQ + 4398046511104 := by
  rw [V16_eq]
  have h0 := hf.2
  have h1 := hf.1 1 (by omega) (by omega); have h2 := hf.1 2 (by omega) (by omega); have h3 := hf.1 3 (by omega) (by omega)
  have h4 := hf.1 4 (by omega) (by omega); have h5 := hf.1 5 (by omega) (by omega); have h6 := hf.1 6 (by omega) (by omega); have h7 := hf.1 7 (by omega) (by omega)
  have h8 := hf.1 8 (by omega) (by omega); have h9 := hf.1 9 (by omega) (by omega); have h10 := hf.1 10 (by omega) (by omega); have h11 := hf.1 11 (by omega) (by omega)
  have h12 := hf.1 12 (by omega) (by omega); have h13 := hf.1 13 (by omega) (by omega); have h14 := hf.1 14 (by omega) (by omega); have h15 := hf.1 15 (by omega) (by omega)
  unfold QQ
  omega
theorem carry2_V (f : Nat → Int) (hf : CB1 f) : 0 ≤ V16 (carryN f 16) ∧ V16 (carryN f 16) < QQ := by
  have h := V16_b1 f hf
  rw [V16_carry]
  generalize V16 f = x at *
  unfold QQ at *
  omega
theorem carry3_digits (f : Nat → Int) (h : 0 ≤ V16 f ∧ V16 f < QQ) (j : Nat) (hj : j < 16) : 0 ≤ carryN f 16 j ∧ carryN f 16 j < 65536 := by
  by_cases h0 : j = 0
  · subst h0
    rw [carry_zero, Int.ediv_eq_zero_of_lt h.1 h.2]; omega
  · exact carry_digits f j hj h0
/-- Behind three carries. -/
theorem carry_thrice (f : Nat → Int) (hf : CB f) :
    CB (carryN f 16) ∧ CB (carryN (carryN f 16) 16) ∧ (∀ j, j < 16 → 0 ≤ carryN (carryN (carryN f 16) 16) 16 j ∧ carryN (carryN (carryN f 16) 16) 16 j < 65536) ∧ V16 (carryN (carryN (carryN f 16) 16) 16) % PP = V16 f % PP := by
  have h1 := carry_CB1 f hf
  have h2 := carry_CB1 _ h1.cb
  have h3 := carry2_V _ h1
  exact ⟨h1.cb, h2.cb, carry3_digits _ h3, by rw [V16_carry_mod, V16_carry_mod, V16_carry_mod]⟩
theorem V16_pD : V16 pD = PP := by decide
/-- Right digits that are below the prime's are a number below it. -/
theorem belowN_val (f : Nat → Int) : ∀ n, (∀ j, j < n → 0 ≤ f j ∧ f j < 65536) → belowN f n = decide (val 65536 f n < val 65536 pD n)
  | 0, _ => by simp [belowN, val]
  | n + 1, h => by
    have ih := belowN_val f n (fun j hj => h j (by omega))
    have b1 := val_b 65536 (by omega) f n (fun j hj => h j (by omega))
    have b2 := val_b 65536 (by omega) pD n (fun j hj => by have := pD_b j; omega)
    have hp := pow_pos' 65536 (by omega) n
    rw [belowN, val, val]
    by_cases he : f n = pD n
    · rw [if_pos he, ih, he]
      congr 1
      apply propext
      omega
    · rw [if_neg he]
      congr 1
      apply propext
      constructor
      · intro hl
        have : (f n + 1) * 65536 ^ n ≤ pD n * 65536 ^ n := Int.mul_le_mul_of_nonneg_right (by omega) (by omega)
        have e : (f n + 1) * (65536 : Int) ^ n = f n * 65536 ^ n + 65536 ^ n := by grind
        omega
      · intro hl
        rcases Int.lt_or_gt_of_ne he with hlt | hgt
        · exact hlt
        · exfalso
          have : (pD n + 1) * 65536 ^ n ≤ f n * 65536 ^ n := Int.mul_le_mul_of_nonneg_right (by omega) (by omega)
          have e : (pD n + 1) * (65536 : Int) ^ n = pD n * 65536 ^ n + 65536 ^ n := by grind
          omega
theorem belowN16 (f : Nat → Int) (h : ∀ j, j < 16 → 0 ≤ f j ∧ f j < 65536) : belowN f 16 = decide (V16 f < PP) := by
  rw [belowN_val f 16 h]; rw [← V16_pD]; rfl
/-- The digits of a number less the prime. -/
def lessD (f : Nat → Int) (i : Nat) : Int := (f i - pD i + cy 65536 (fun j => f j - pD j) i) % 65536
theorem lessD_V (f : Nat → Int) (h : ∀ j, j < 16 → 0 ≤ f j ∧ f j < 65536) (hb : belowN f 16 = false) : V16 (lessD f) = V16 f - PP ∧ (∀ j, j < 16 → 0 ≤ lessD f j ∧ lessD f j < 65536) := by
  have e := belowN16 f h
  rw [hb] at e
  have hge : PP ≤ V16 f := by simpa using e
  have hlt := (val_b 65536 (by omega) f 16 h).2
  have h2 := (cy_div 65536 (by omega) (fun j => f j - pD j) 16).2
  refine ⟨?_, fun j hj => ⟨Int.emod_nonneg _ (by omega), Int.emod_lt_of_pos _ (by omega)⟩⟩
  show val 65536 (fun i => (f i - pD i + cy 65536 (fun j => f j - pD j) i) % 65536) 16 = _
  rw [h2, val_sub, QQ_pow]
  show (V16 f - V16 pD) % QQ = _
  rw [V16_pD]
  rw [QQ_pow] at hlt
  have hlt' : V16 f < QQ := hlt
  exact Int.emod_eq_of_lt (by omega) (by unfold PP QQ at *; omega)
attribute [local go_sem] setCell_drewN
/-- The number that stands in a block. -/
def rowNat (w : World) (g : Nat) : Nat := match w.heap[g]? with
  | some (.cells cs _ _) => (V16 (fun i => match cs[i]? with | some v => intOf v | none => 0)).toNat
  | _ => 0
theorem rowNat_of {w : World} {g : Nat} {f : Nat → Int} {t : TypeId} (h : Row w g .i64 16 f t) : rowNat w g = (V16 f).toNat := by
  unfold rowNat
  rw [h]
  have e : V16 (fun i => match (FR .i64 16 f)[i]? with | some v => intOf v | none => 0) = V16 f := val_congr 65536 _ _ 16 (fun i hi => by show (match (FR .i64 16 f)[i]? with | some v => intOf v | none => 0) = _; rw [FR_at _ _ _ _ hi]; rfl)
  show (V16 (fun i => match (FR .i64 16 f)[i]? with | some v => intOf v | none => 0)).toNat = _
  rw [e]
/-- Each of 16 digits is below 2^16. -/
def D16 (f : Nat → Int) : Prop := ∀ j, j < 16 → 0 ≤ f j ∧ f j < 65536
theorem least_end (f f' : Nat → Int) (hd : D16 f') (hv : V16 f' % PP = V16 f % PP) (hb : belowN f' 16 = true) : FR .i64 16 f' = FR .i64 16 (dig 65536 (V16 f % PP)) := by
  apply FR_congr
  intro i hi
  rw [belowN16 f' hd] at hb
  have h1 : V16 f' < PP := by simpa using hb
  have h2 : 0 ≤ V16 f' := (val_b 65536 (by omega) f' 16 hd).1
  rw [dig_val 65536 (by omega) f' 16 hd i hi]
  have e : V16 f' = V16 f % PP := by rw [← hv, Int.emod_eq_of_lt h2 h1]
  show dig 65536 (V16 f') i = _
  rw [e]
theorem less_mod (f f' : Nat → Int) (hv : V16 f' % PP = V16 f % PP) (h : V16 (lessD f') = V16 f' - PP) : V16 (lessD f') % PP = V16 f % PP := by
  rw [h, ← hv]; exact Int.sub_emod_right _ _
theorem less_row (f' : Nat → Int) (i : Nat) (h : D16 f') (hi : i < 16) : lessD f' i = f' i - pD i + cy 65536 (fun j => f' j - pD j) i - (f' i - pD i + cy 65536 (fun j => f' j - pD j) i) / 65536 * 65536 := by
  unfold lessD; omega
def LRel1 (w : World) (f : Nat → Int) (wr : World) : Prop :=
  ∃ f', D16 f' ∧ V16 f' % PP = V16 f % PP ∧ Below w.heap.size w wr ∧ Row wr w.heap.size .i64 16 f' 34 ∧ Row wr (w.heap.size + 1) .i64 16 (fun _ => 0) 34
def LRel2 (w : World) (f' : Nat → Int) (gp : Nat) (v5 v4 : Value) (wr : World) : Prop :=
  ∃ i : Nat, i ≤ 16 ∧ v5 = .int .i64 (i : Int) ∧ v4 = .int .i64 (cy 65536 (fun j => f' j - pD j) i) ∧ Below w.heap.size w wr ∧ Row wr w.heap.size .i64 16 (fun j => if j < i then lessD f' j else f' j) 34 ∧ Row wr (w.heap.size + 1) .i64 16 (fun _ => 0) 34 ∧ Row wr gp .i64 16 pD 34
theorem cy_b (f' : Nat → Int) (h : D16 f') : ∀ i, i ≤ 16 → -1 ≤ cy 65536 (fun j => f' j - pD j) i ∧ cy 65536 (fun j => f' j - pD j) i ≤ 0
  | 0, _ => by simp [cy]
  | i + 1, hi => by
    have ih := cy_b f' h i (by omega)
    have h1 := h i (by omega)
    have h2 := pD_b i
    show -1 ≤ (f' i - pD i + cy 65536 (fun j => f' j - pD j) i) / 65536 ∧ _
    have e : cy 65536 (fun j => f' j - pD j) (i + 1) = (f' i - pD i + cy 65536 (fun j => f' j - pD j) i) / 65536 := rfl
    rw [e]
    omega
theorem least_calls (f : Nat → Int) (w : World) (hf : CB f) :
    Calls Tryd.prog 58 #[.agg (FR .i64 16 f)] w fun e w' => e = .returned (.agg (FR .i64 16 (dig 65536 (V16 f % PP)))) ∧ Below w.heap.size w w' := by
  have HF := Aside0.mk (carry_thrice f hf)
  have HF0 := Aside0.mk hf
  clear hf
  go_enter Tryd.func58, Tryd.ntmps58
  have HR0 := Aside0.mk ((Row.new w .i64 16 f 34).alloc (.cells (FR .i64 16 fun _ => 0) 34))
  have HZ0 : Aside0 (Row ((w.alloc (.cells (FR .i64 16 f) 34)).alloc (.cells (FR .i64 16 fun _ => 0) 34)) (w.heap.size + 1) .i64 16 (fun _ => 0) 34) := Aside0.mk (heap_alloc2_new w _ _)
  have HB0 := Aside0.mk (bel_two w (.cells (FR .i64 16 f) 34) (.cells (FR .i64 16 fun _ => 0) 34))
  go_wp2_with (refine step_load HR0.out Tryd.underlying34 info33 rfl rfl rfl rfl ?_)
  refine (carry_calls _ _ HF0.out).mono ?_
  rintro e w1 ⟨rfl, hb⟩
  have HR1 := Aside0.mk (HR0.out.below hb HR0.out.lt)
  have HZ1 := Aside0.mk (HZ0.out.below hb HZ0.out.lt)
  have HB1 := Aside0.mk (HB0.out.trans (hb.mono (by simp; omega)))
  clear hb HR0 HZ0 HB0
  go_wp2_with fail
  refine (carry_calls _ _ HF.out.1).mono ?_
  rintro e w2 ⟨rfl, hb⟩
  have HR2 := Aside0.mk (HR1.out.below hb HR1.out.lt)
  have HZ2 := Aside0.mk (HZ1.out.below hb HZ1.out.lt)
  have HB2 := Aside0.mk (HB1.out.trans (hb.mono (by have := HZ1.out.lt; omega)))
  clear hb HR1 HZ1 HB1
  go_wp2_with fail
  refine (carry_calls _ _ HF.out.2.1).mono ?_
  rintro e w3 ⟨rfl, hb⟩
  have HR3 := Aside0.mk (HR2.out.below hb HR2.out.lt)
  have HZ3 := Aside0.mk (HZ2.out.below hb HZ2.out.lt)
  have HB3 := Aside0.mk (HB2.out.trans (hb.mono (by have := HZ2.out.lt; omega)))
  clear hb HR2 HZ2 HB2
  go_wp2_with (refine step_store _ HR3.out info33 rfl rfl rfl rfl rfl ?_)
  go_loopw [11] (fun _ wr => LRel1 w f wr) (fun _ wr => rowNat wr w.heap.size)
  case atStart => exact ⟨_, HF.out.2.2.1, HF.out.2.2.2, bel_setCells (Nat.le_refl _) _ _ _ HB3.out, HR3.out.all, HZ3.out.cells_other _ (by omega)⟩
  case round =>
    obtain ⟨f', hd, hv, hb, hr, hz⟩ := hrel
    have HD := Aside0.mk hd
    have HV := Aside0.mk hv
    have HB := Aside0.mk hb
    have HR := Aside0.mk hr
    have HZ := Aside0.mk hz
    have hl1 := hr.lt
    have hl2 := hz.lt
    clear hd hv hb hr hz HB3 HR3 HZ3
    go_wp2_with (refine step_load HR.out Tryd.underlying34 info33 rfl rfl rfl rfl ?_)
    refine (below_calls _ _).mono ?_
    rintro e w4 ⟨rfl, hb⟩
    have HR4 := Aside0.mk (HR.out.below hb hl1)
    have HZ4 := Aside0.mk (HZ.out.below hb hl2)
    have HB4 := Aside0.mk (HB.out.trans (hb.mono (by omega)))
    have hl3 := HR4.out.lt
    have hl4 := HZ4.out.lt
    clear hb
    cases hbl : belowN f' 16
    · have HBL := Aside0.mk hbl
      clear hbl
      go_wp2_with fail
      refine (P_calls _).mono ?_
      rintro e w5 ⟨rfl, hb⟩
      have HR5 := Aside0.mk (HR4.out.below hb hl3)
      have HZ5 := Aside0.mk (HZ4.out.below hb hl4)
      have HB5 := Aside0.mk (HB4.out.trans (hb.mono (by omega)))
      have hl5 := HR5.out.lt
      have hl6 := HZ5.out.lt
      clear hb
      have HN := Aside0.mk (Row.new w5 .i64 16 (fun _ => 0) 34)
      go_wp2_with (refine step_store pD HN.out info33 rfl rfl rfl rfl rfl ?_)
      have HB6 := Aside0.mk (bel_setCells (show w.heap.size ≤ w5.heap.size by omega) (FR .i64 16 pD).toList 0 _ (HB5.out.alloc (by omega) (.cells (FR .i64 16 fun _ => 0) 34)))
      have HR6 := Aside0.mk ((HR5.out.alloc (.cells (FR .i64 16 fun _ => 0) 34)).cells_other (FR .i64 16 pD).toList (show w.heap.size ≠ w5.heap.size by omega))
      have HZ6 := Aside0.mk ((HZ5.out.alloc (.cells (FR .i64 16 fun _ => 0) 34)).cells_other (FR .i64 16 pD).toList (show w.heap.size + 1 ≠ w5.heap.size by omega))
      have HP := Aside0.mk (HN.out.all (f' := pD))
      have HL := Aside0.mk (lessD_V f' HD.out HBL.out)
      have HM := Aside0.mk (rowNat_of HR.out)
      have HPP := Aside0.mk (show PP ≤ V16 f' by
        have := HBL.out
        rw [belowN16 f' HD.out] at this
        simpa using this)
      clear HN HR HZ HB HR4 HZ4 HB4 HR5 HZ5 HB5
      go_wp2_with fail
      go_loopw [5, 4] (fun v5 v4 wr => LRel2 w f' w5.heap.size v5 v4 wr) (fun v _ _ => 16 - (intOf v).toNat)
      case atStart => exact ⟨0, by omega, rfl, rfl, HB6.out, row_eq HR6.out (fun j hj => (if_neg (by omega)).symm), HZ6.out, HP.out⟩
      case round =>
        obtain ⟨i, hi, rfl, rfl, hb, hr, hz, hp⟩ := hrel
        have HB7 := Aside0.mk hb
        have HR7 := Aside0.mk hr
        have HZ7 := Aside0.mk hz
        have HP7 := Aside0.mk hp
        rcases Nat.lt_or_ge i 16 with h15 | h15
        · have hlt : ((i : Int) < 16) = True := eq_true (by omega)
          have f0 := hr.fro i
          have k0 := hr.cell i (by omega)
          have e0 : (if i < i then lessD f' i else f' i) = f' i := if_neg (by omega)
          rw [e0] at k0
          have k1 := hp.cell i (by omega)
          have hc := cy_b f' HD.out i (by omega)
          have hd := HD.out i h15
          have hq := pD_b i
          have HX := Aside0.mk (less_row f' i HD.out h15)
          have HY := Aside0.mk (show cy 65536 (fun j => f' j - pD j) (i + 1) = (f' i - pD i + cy 65536 (fun j => f' j - pD j) i) / 65536 from rfl)
          generalize cy 65536 (fun j => f' j - pD j) i = c at *
          have w0 : wrap64 (f' i - pD i) = f' i - pD i := w64 _ (by omega)
          have w1' : wrap64 (f' i - pD i + c) = f' i - pD i + c := w64 _ (by omega)
          generalize hx : f' i - pD i + c = x at *
          have hxb : -65536 ≤ x ∧ x ≤ 65535 := by omega
          have w2' : wrap64 (x / 65536 * 65536) = x / 65536 * 65536 := w64 _ (by omega)
          have w3' : wrap64 (x - x / 65536 * 65536) = x - x / 65536 * 65536 := w64 _ (by omega)
          have hx' := hx
          clear hb hr hz hp e0 hc hd hq hxb hx
          go_wp2_with fail
          go_region
          all_goals go_wp2_with fail
          refine ⟨⟨i + 1, by omega, rfl, by rw [HY.out], (bel_set HB7.out _ _ (Nat.le_refl _)).drew, ?_, HZ7.out.other _ _ (show w.heap.size + 1 ≠ w.heap.size by omega), HP7.out.other _ _ (show w5.heap.size ≠ w.heap.size by omega)⟩, meas_up 16 i (by omega)⟩
          rw [← HX.out]
          exact part_step (F := lessD f') (a := ⟨0, 0, none⟩) HR7.out (by omega)
        · obtain rfl : i = 16 := by omega
          clear hb hr hz hp
          go_wp2_with fail
          have HR8 := row_eq HR7.out (f' := lessD f') (fun j hj => if_pos hj)
          refine ⟨⟨lessD f', HL.out.2, less_mod f f' HV.out HL.out.1, HB7.out, HR8, HZ7.out⟩, ?_⟩
          rw [HM.out, rowNat_of HR8, HL.out.1]
          have := HPP.out
          unfold PP at *
          omega
    · have HBL := Aside0.mk hbl
      clear hbl
      go_wp2_with (first | refine step_load HR4.out Tryd.underlying34 info33 rfl rfl rfl rfl ?_ | refine step_store _ HZ4.out info33 rfl rfl rfl rfl rfl ?_)
      refine bodyPost_ret (row_results rfl (HZ4.out.all) rfl Tryd.underlying34 rfl info33) rfl ?_
      exact ⟨by rw [least_end f f' HD.out HV.out HBL.out], bel_setCells (by omega) _ _ _ HB4.out⟩
/-- Five limbs as a row. -/
def lf (t : Int × Int × Int × Int × Int) : Nat → Int
  | 0 => t.1
  | 1 => t.2.1
  | 2 => t.2.2.1
  | 3 => t.2.2.2.1
  | _ => t.2.2.2.2
/-- What carried answers, by rows. -/
def carr (f : Nat → Int) : Nat → Int := lf (carriedZ (f 0) (f 1) (f 2) (f 3) (f 4))
theorem carr_calls (f : Nat → Int) (w : World) (h : ∀ i, i < 5 → 0 ≤ f i ∧ f i ≤ 9223372036854775808) :
    Calls Tryd.prog 56 #[.agg (FR .u64 5 f)] w fun e w' => e = .returned (.agg (FR .u64 5 (carr f))) ∧ Below w.heap.size w w' :=
  carried_calls (f 0) (f 1) (f 2) (f 3) (f 4) w (h 0 (by omega)) (h 1 (by omega)) (h 2 (by omega)) (h 3 (by omega)) (h 4 (by omega))
/-- The number of five limbs. -/
def V51 (f : Nat → Int) : Int := f 0 + f 1 * 2251799813685248 + f 2 * 5070602400912917605986812821504 + f 3 * 11417981541647679048466287755595961091061972992 + f 4 * 25711008708143844408671393477458601640355247900524685364822016
theorem V51_val (f : Nat → Int) : V51 f = val 2251799813685248 f 5 := by
  simp [V51, val]
theorem carr_eq (f : Nat → Int) : carr f 0 = (f 0 + 19 * (f 4 / 2251799813685248)) % 2251799813685248 ∧
    carr f 1 = (f 1 + (f 0 + 19 * (f 4 / 2251799813685248)) / 2251799813685248) % 2251799813685248 ∧
    carr f 2 = (f 2 + (f 1 + (f 0 + 19 * (f 4 / 2251799813685248)) / 2251799813685248) / 2251799813685248) % 2251799813685248 ∧
    carr f 3 = (f 3 + (f 2 + (f 1 + (f 0 + 19 * (f 4 / 2251799813685248)) / 2251799813685248) / 2251799813685248) / 2251799813685248) % 2251799813685248 ∧
    carr f 4 = f 4 % 2251799813685248 + (f 3 + (f 2 + (f 1 + (f 0 + 19 * (f 4 / 2251799813685248)) / 2251799813685248) / 2251799813685248) / 2251799813685248) / 2251799813685248 := ⟨rfl, rfl, rfl, rfl, rfl⟩
/-- Limbs as the program keeps them. -/
def Lm (f : Nat → Int) : Prop := (∀ i, i < 4 → 0 ≤ f i ∧ f i < 2251799813685248) ∧ 0 ≤ f 4 ∧ f 4 < 2251799813693440
theorem Lm.b {f : Nat → Int} (h : Lm f) (i : Nat) (hi : i < 5) : 0 ≤ f i ∧ f i < 4503599627370496 := by
  rcases Nat.lt_or_ge i 4 with h4 | h4
  · have := h.1 i h4; omega
  · obtain rfl : i = 4 := by omega
    have := h.2; omega
theorem carr_Lm (f : Nat → Int) (h : ∀ i, i < 5 → 0 ≤ f i ∧ f i ≤ 9223372036854775808) : Lm (carr f) := by
  obtain ⟨e0, e1, e2, e3, e4⟩ := carr_eq f
  have h0 := h 0 (by omega); have h1 := h 1 (by omega); have h2 := h 2 (by omega); have h3 := h 3 (by omega); have h4 := h 4 (by omega)
  refine ⟨fun i hi => ?_, ?_⟩
  · have hc : i = 0 ∨ i = 1 ∨ i = 2 ∨ i = 3 := by omega
    rcases hc with rfl | rfl | rfl | rfl
    · rw [e0]; omega
    · rw [e1]; omega
    · rw [e2]; omega
    · rw [e3]; omega
  · rw [e4]; omega
theorem carr_V (f : Nat → Int) : V51 (carr f) = V51 f - PP * (f 4 / 2251799813685248) := by
  obtain ⟨e0, e1, e2, e3, e4⟩ := carr_eq f
  unfold V51 PP
  rw [e0, e1, e2, e3, e4]
  omega
theorem carr_mod (f : Nat → Int) : V51 (carr f) % PP = V51 f % PP := by
  rw [carr_V, Int.sub_mul_emod_self_left]
/-- Behind two more the limbs are right digits. -/
theorem carr_two (f : Nat → Int) (h : Lm f) : ∀ i, i < 5 → 0 ≤ carr f i ∧ carr f i < 2251799813685248 := by
  obtain ⟨e0, e1, e2, e3, e4⟩ := carr_eq f
  have h0 := h.1 0 (by omega); have h1 := h.1 1 (by omega); have h2 := h.1 2 (by omega); have h3 := h.1 3 (by omega); have h4 := h.2
  intro i hi
  have hc : i = 0 ∨ i = 1 ∨ i = 2 ∨ i = 3 ∨ i = 4 := by omega
  rcases hc with rfl | rfl | rfl | rfl | rfl
  · rw [e0]; omega
  · rw [e1]; omega
  · rw [e2]; omega
  · rw [e3]; omega
  · rw [e4]; omega
/-- The quotient that Bytes finds. -/
def plus19 (f : Nat → Int) : Nat → Int := upd f 0 (f 0 + 19)
theorem val_upd0 (B : Int) (f : Nat → Int) (x : Int) : ∀ n, val B (upd f 0 x) (n + 1) = val B f (n + 1) + (x - f 0)
  | 0 => by simp [val, upd]; omega
  | n + 1 => by
    have ih := val_upd0 B f x n
    rw [val, ih, upd_other _ _ _ _ (by omega)]
    show _ = val B f (n + 1) + f (n + 1) * B ^ (n + 1) + (x - f 0)
    omega
def quo (f : Nat → Int) : Int := cy 2251799813685248 (plus19 f) 5
theorem quo_eq (f : Nat → Int) : quo f = (V51 f + 19) / 57896044618658097711785492504343953926634992332820282019728792003956564819968 := by
  unfold quo
  rw [(cy_div 2251799813685248 (by omega) (plus19 f) 5).1]
  unfold plus19
  rw [val_upd0, V51_val]
  have e : val 2251799813685248 f (4 + 1) = val 2251799813685248 f 5 := rfl
  have e5 : (2251799813685248 : Int) ^ (4 + 1) = 57896044618658097711785492504343953926634992332820282019728792003956564819968 := by decide
  rw [e]
  congr 1
  omega
def topped (f : Nat → Int) : Nat → Int := upd f 0 (f 0 + 19 * quo f)
/-- The limbs of the least number. -/
def leastL (f : Nat → Int) (i : Nat) : Int := (topped f i + cy 2251799813685248 (topped f) i) % 2251799813685248
theorem leastL_V (f : Nat → Int) (h : ∀ i, i < 5 → 0 ≤ f i ∧ f i < 2251799813685248) : val 2251799813685248 (leastL f) 5 = V51 f % PP := by
  have h2 := (cy_div 2251799813685248 (by omega) (topped f) 5).2
  have hb := val_b 2251799813685248 (by omega) f 5 h
  rw [← V51_val] at hb
  have hq := quo_eq f
  have e : val 2251799813685248 (leastL f) 5 = val 2251799813685248 (topped f) 5 % 2251799813685248 ^ 5 := h2
  rw [e]
  unfold topped
  rw [val_upd0, ← V51_val]
  generalize quo f = q at *
  generalize V51 f = x at *
  have e5 : (2251799813685248 : Int) ^ 5 = 57896044618658097711785492504343953926634992332820282019728792003956564819968 := by decide
  rw [e5] at hb ⊢
  have hq' : q = 0 ∨ q = 1 := by omega
  unfold PP
  have e0 : x + (f 0 + 19 * q - f 0) = x + 19 * q := by omega
  rw [e0]
  clear e e0 e5 h2
  rcases hq' with rfl | rfl <;> omega
theorem leastL_b (f : Nat → Int) (i : Nat) : 0 ≤ leastL f i ∧ leastL f i < 2251799813685248 := by unfold leastL; omega
theorem quo_b (f : Nat → Int) (h : ∀ i, i < 5 → 0 ≤ f i ∧ f i < 2251799813685248) : ∀ i, i ≤ 5 → 0 ≤ cy 2251799813685248 (plus19 f) i ∧ cy 2251799813685248 (plus19 f) i ≤ 1
  | 0, _ => by simp [cy]
  | i + 1, hi => by
    have ih := quo_b f h i (by omega)
    have e : cy 2251799813685248 (plus19 f) (i + 1) = (plus19 f i + cy 2251799813685248 (plus19 f) i) / 2251799813685248 := rfl
    have hx : 0 ≤ plus19 f i ∧ plus19 f i ≤ 2251799813685248 + 18 := by
      have := h i (by omega)
      unfold plus19 upd
      split
      · rename_i h0; subst h0; omega
      · omega
    have hy : 0 < i → plus19 f i < 2251799813685248 := fun h0 => by
      have := h i (by omega)
      unfold plus19; rw [upd_other _ _ _ _ (by omega)]; omega
    rw [e]
    rcases Nat.eq_zero_or_pos i with h0 | h0
    · subst h0
      have : cy 2251799813685248 (plus19 f) 0 = 0 := rfl
      omega
    · have := hy h0
      omega
/-- The number's byte j, as far as its first i bits go. -/
def outB (N : Int) (i j : Nat) : Int := N / 256 ^ j % 2 ^ (min 8 (i - 8 * j))
theorem div_pow (N : Int) (a b : Nat) : N / 2 ^ a / 2 ^ b = N / 2 ^ (a + b) := by
  rw [Int.ediv_ediv_of_nonneg (Int.le_of_lt (Int.pow_pos (by omega))), ← Int.pow_add]
theorem powB (k : Nat) : (2251799813685248 : Int) ^ k = 2 ^ (51 * k) := by
  rw [Int.pow_mul]; rfl
theorem mod_pow_div (x : Int) (n s : Nat) (h : s < n) : x % 2 ^ n / 2 ^ s % 2 = x / 2 ^ s % 2 := by
  obtain ⟨m, rfl⟩ : ∃ m, n = s + (m + 1) := ⟨n - s - 1, by omega⟩
  have hp : (0 : Int) < 2 ^ s := Int.pow_pos (by omega)
  have e := Int.emod_add_mul_ediv x (2 ^ (s + (m + 1)))
  generalize x % 2 ^ (s + (m + 1)) = r at *
  generalize x / 2 ^ (s + (m + 1)) = q at *
  have e2 : (2 : Int) ^ (s + (m + 1)) * q = 2 ^ s * (2 * (2 ^ m * q)) := by rw [Int.pow_add, Int.pow_succ]; grind
  rw [e2] at e
  rw [← e, Int.add_mul_ediv_left _ _ (by omega)]
  omega
/-- The bit that the limbs show is the number's. -/
theorem limb_bit (N : Int) (i : Nat) : dig 2251799813685248 N (i / 51) / 2 ^ (i % 51) % 2 = N / 2 ^ i % 2 := by
  unfold dig
  have e : (2251799813685248 : Int) = 2 ^ 51 := by decide
  rw [powB, e, mod_pow_div _ 51 _ (by omega), div_pow]
  congr 3
  omega
theorem mod_succ (x : Int) (r : Nat) : x % 2 ^ (r + 1) = x % 2 ^ r + x / 2 ^ r % 2 * 2 ^ r := by
  have hp : (0 : Int) < 2 ^ r := Int.pow_pos (by omega)
  have h1 := Int.emod_add_mul_ediv x (2 ^ r)
  have h2 := Int.emod_add_mul_ediv (x / 2 ^ r) 2
  have b1 := Int.emod_nonneg x (show (2 : Int) ^ r ≠ 0 by omega)
  have b2 := Int.emod_lt_of_pos x hp
  have hc : x / 2 ^ r % 2 = 0 ∨ x / 2 ^ r % 2 = 1 := by omega
  rw [Int.pow_succ]
  have e : x = (x % 2 ^ r + x / 2 ^ r % 2 * 2 ^ r) + (2 ^ r * 2) * (x / 2 ^ r / 2) := by grind
  have e2 : x % (2 ^ r * 2) = (x % 2 ^ r + x / 2 ^ r % 2 * 2 ^ r) := by
    conv => lhs; rw [e]
    rw [Int.add_mul_emod_self_left]
    apply Int.emod_eq_of_lt
    · rcases hc with h | h <;> rw [h] <;> omega
    · rcases hc with h | h <;> rw [h] <;> omega
  exact e2
theorem outB_step (N : Int) (i j : Nat) : outB N (i + 1) j = upd (outB N i) (i / 8) (outB N i (i / 8) + N / 2 ^ i % 2 * 2 ^ (i % 8)) j := by
  by_cases h : j = i / 8
  · subst h
    rw [upd_same]
    unfold outB
    rw [show min 8 (i + 1 - 8 * (i / 8)) = i % 8 + 1 by omega, show min 8 (i - 8 * (i / 8)) = i % 8 by omega, mod_succ, pow256, div_pow, show 8 * (i / 8) + i % 8 = i by omega]
  · rw [upd_other _ _ _ _ h]
    unfold outB
    rw [show min 8 (i + 1 - 8 * j) = min 8 (i - 8 * j) by omega]
/-- The step of the loop over the bits. -/
theorem bit_step (f : Nat → Int) (hf : ∀ i, i < 5 → 0 ≤ f i ∧ f i < 2251799813685248) (N : Int) (hN : val 2251799813685248 f 5 = N) (i : Nat) (hi : i < 255) :
    Go.bits .or .u8 (outB N i (i / 8)) (Go.bits .and .u64 (f (i / 51) / 2 ^ (i % 51)) 1 % 256 * 2 ^ (i % 8) % 256) = outB N i (i / 8) + N / 2 ^ i % 2 * 2 ^ (i % 8) := by
  have hp : (0 : Int) < 2 ^ (i % 51) := Int.pow_pos (by omega)
  have hb := hf (i / 51) (by omega)
  have h0 : 0 ≤ f (i / 51) / 2 ^ (i % 51) := Int.ediv_nonneg hb.1 (by omega)
  have h1 : f (i / 51) / 2 ^ (i % 51) ≤ f (i / 51) := Int.ediv_le_self _ hb.1
  rw [and1 _ h0 (by omega), dig_val 2251799813685248 (by omega) f 5 hf (i / 51) (by omega), hN, limb_bit]
  apply or_bit _ _ _ (by omega)
  · unfold outB
    rw [show min 8 (i - 8 * (i / 8)) = i % 8 by omega]
    have hp8 : (0 : Int) < 2 ^ (i % 8) := Int.pow_pos (by omega)
    exact ⟨Int.emod_nonneg _ (by omega), Int.emod_lt_of_pos _ hp8⟩
  · omega
theorem outB_end (N : Int) (h0 : 0 ≤ N) (h1 : N < 57896044618658097711785492504343953926634992332820282019728792003956564819968) (j : Nat) (hj : j < 32) : outB N 255 j = dig 256 N j := by
  unfold outB dig
  by_cases h : j = 31
  · subst h
    have e : (256 : Int) ^ 31 = 452312848583266388373324160190187140051835877600158453279131187530910662656 := by decide
    rw [e, show min 8 (255 - 8 * 31) = 7 by omega, show (2 : Int) ^ 7 = 128 by decide]
    omega
  · rw [show min 8 (255 - 8 * j) = 8 by omega]; rfl
attribute [local go_sem] setCell_drewN
theorem info25 : (Tryd.prog.info? 24).map (·.size) = some 5 := by kernel_rfl
theorem info27 : (Tryd.prog.info? 26).map (·.size) = some 5 := by kernel_rfl
theorem info22 : (Tryd.prog.info? 22).map (·.size) = some 32 := by kernel_rfl
theorem field27 (f : Nat → Int) (w : World) : (Instr.field 26 (.agg (FR .u64 5 f)) 0).run Tryd.prog w = .ok (.agg (FR .u64 5 f)) w := by
  show (Instr.field 26 (.agg #[.int .u64 (f 0), .int .u64 (f 1), .int .u64 (f 2), .int .u64 (f 3), .int .u64 (f 4)]) 0).run Tryd.prog w = .ok (.agg #[.int .u64 (f 0), .int .u64 (f 1), .int .u64 (f 2), .int .u64 (f 3), .int .u64 (f 4)]) w
  unfold Instr.field asAgg
  go_simp
def QRel (w : World) (l : Nat → Int) (b2 : Nat) (v5 v4 : Value) (wr : World) : Prop :=
  ∃ i : Nat, 1 ≤ i ∧ i ≤ 5 ∧ v5 = .int .i64 (i : Int) ∧ v4 = .int .u64 (cy 2251799813685248 (plus19 l) i) ∧ Below w.heap.size w wr ∧ Row wr (w.heap.size + 1) .u8 32 (fun _ => 0) 22 ∧ Row wr b2 .u64 5 l 24
theorem cyT_b (g : Nat → Int) (h0 : 0 ≤ g 0 ∧ g 0 ≤ 2251799813685266) (h : ∀ i, i < 5 → i ≠ 0 → 0 ≤ g i ∧ g i < 2251799813685248) : ∀ i, i ≤ 5 → 0 ≤ cy 2251799813685248 g i ∧ cy 2251799813685248 g i ≤ 1
  | 0, _ => by simp [cy]
  | i + 1, hi => by
    have ih := cyT_b g h0 h i (by omega)
    have e : cy 2251799813685248 g (i + 1) = (g i + cy 2251799813685248 g i) / 2251799813685248 := rfl
    rw [e]
    by_cases hz : i = 0
    · subst hz
      have : cy 2251799813685248 g 0 = 0 := rfl
      omega
    · have := h i (by omega) hz
      omega
theorem topped_b (l : Nat → Int) (hl : ∀ i, i < 5 → 0 ≤ l i ∧ l i < 2251799813685248) : (0 ≤ topped l 0 ∧ topped l 0 ≤ 2251799813685266) ∧ (∀ i, i < 5 → i ≠ 0 → 0 ≤ topped l i ∧ topped l i < 2251799813685248) := by
  have hq := quo_b l hl 5 (by omega)
  have h0 := hl 0 (by omega)
  refine ⟨?_, fun i hi hz => ?_⟩
  · unfold topped quo; rw [upd_same]; omega
  · unfold topped; rw [upd_other _ _ _ _ hz]; exact hl i hi
/-- The limbs behind i of the four steps. -/
def midL (l : Nat → Int) (i j : Nat) : Int := if j < i then leastL l j else if j = i then topped l i + cy 2251799813685248 (topped l) i else topped l j
theorem midL_zero (l : Nat → Int) (j : Nat) : midL l 0 j = topped l j := by
  unfold midL
  rw [if_neg (by omega)]
  split
  · rename_i h; subst h; show _ + (0 : Int) = _; omega
  · rfl
theorem midL_step (l : Nat → Int) (i j : Nat) : midL l (i + 1) j = upd (upd (midL l i) (i + 1) (topped l (i + 1) + (topped l i + cy 2251799813685248 (topped l) i) / 2251799813685248)) i ((topped l i + cy 2251799813685248 (topped l) i) % 2251799813685248) j := by
  by_cases h1 : j = i
  · subst h1; rw [upd_same]; unfold midL; rw [if_pos (by omega)]; rfl
  · rw [upd_other _ _ _ _ h1]
    by_cases h2 : j = i + 1
    · subst h2; rw [upd_same]; unfold midL; rw [if_neg (by omega), if_pos rfl]; rfl
    · rw [upd_other _ _ _ _ h2]; unfold midL
      by_cases h3 : j < i
      · rw [if_pos h3, if_pos (by omega)]
      · rw [if_neg h3, if_neg h1, if_neg (by omega), if_neg h2]
def GRel (w : World) (l : Nat → Int) (b2 : Nat) (v35 : Value) (wr : World) : Prop :=
  ∃ i : Nat, i ≤ 4 ∧ v35 = .int .i64 (i : Int) ∧ Below w.heap.size w wr ∧ Row wr (w.heap.size + 1) .u8 32 (fun _ => 0) 22 ∧ Row wr b2 .u64 5 (midL l i) 24
def ZRel (w : World) (l : Nat → Int) (N : Int) (b2 b4 : Nat) (v58 : Value) (wr : World) : Prop :=
  ∃ i : Nat, i ≤ 255 ∧ v58 = .int .i64 (i : Int) ∧ Below w.heap.size w wr ∧ Row wr (w.heap.size + 1) .u8 32 (fun _ => 0) 22 ∧ Row wr b2 .u64 5 (leastL l) 24 ∧ Row wr b4 .u8 32 (outB N i) 22
theorem elem_bytes_calls (f : Nat → Int) (w : World) (hf : ∀ i, i < 5 → 0 ≤ f i ∧ f i ≤ 9223372036854775808) :
    Calls Tryd.prog 30 #[.agg (FR .u64 5 f)] w fun e w' => e = .returned (.agg (FR .u8 32 (dig 256 (V51 f % PP)))) ∧ Below w.heap.size w w' := by
  have HL1 := Aside0.mk (carr_Lm f hf)
  have HD := Aside0.mk (carr_two _ (carr_Lm f hf))
  have HC1 := Aside0.mk (fun w => carr_calls f w hf)
  have HC2 := Aside0.mk (fun w => carr_calls (carr f) w (fun i hi => by have := (carr_Lm f hf).b i hi; omega))
  clear hf
  go_enter Tryd.func30, Tryd.ntmps30
  have HR0 := Aside0.mk ((Row.new w .u64 5 f 26).alloc (.cells (FR .u8 32 fun _ => 0) 22))
  have HZ0 : Aside0 (Row ((w.alloc (.cells (FR .u64 5 f) 26)).alloc (.cells (FR .u8 32 fun _ => 0) 22)) (w.heap.size + 1) .u8 32 (fun _ => 0) 22) := Aside0.mk (heap_alloc2_new w _ _)
  have HB0 := Aside0.mk (bel_two w (.cells (FR .u64 5 f) 26) (.cells (FR .u8 32 fun _ => 0) 22))
  go_wp2_with (refine step_load HR0.out Tryd.underlying24 info25 rfl rfl rfl rfl ?_)
  refine (HC1.out _).mono ?_
  rintro e w1 ⟨rfl, hb⟩
  have HZ1 := Aside0.mk (HZ0.out.below hb HZ0.out.lt)
  have HB1 := Aside0.mk (HB0.out.trans (hb.mono (by simp; omega)))
  have hl1 := HZ1.out.lt
  clear hb HR0 HZ0 HB0
  have hfl := field27
  go_wp2_with fail
  refine (HC2.out _).mono ?_
  rintro e w2 ⟨rfl, hb⟩
  have HZ2 := Aside0.mk (HZ1.out.below hb hl1)
  have HB2 := Aside0.mk (HB1.out.trans (hb.mono (by omega)))
  have hl2 := HZ2.out.lt
  clear hb HZ1 HB1
  have HN := Aside0.mk (Row.new w2 .u64 5 (fun _ => 0) 24)
  have HZ3 := Aside0.mk (HZ2.out.alloc (.cells (FR .u64 5 fun _ => 0) 24))
  have HB3 := Aside0.mk (HB2.out.alloc (by omega) (.cells (FR .u64 5 fun _ => 0) 24))
  have HV : Aside0 (V51 (carr (carr f)) % PP = V51 f % PP) := ⟨by rw [carr_mod, carr_mod]⟩
  generalize carr (carr f) = l at *
  have hl0 := HD.out 0 (by omega)
  have hw19 : IntKind.u64.wrap (l 0 + 19) = l 0 + 19 := u64w _ (by omega) (by omega)
  have HQ1 : Aside0 (cy 2251799813685248 (plus19 l) 1 = (l 0 + 19) / 2251799813685248) := ⟨by show (l 0 + 19 + 0) / _ = _; rw [Int.add_zero]⟩
  clear hl0 HC1 HC2
  go_wp2_with (refine step_storeG l HN.out info25 rfl rfl rfl rfl rfl ?_; intro w3 hs hr; have HS3 := Aside0.mk hs; have HR3 := Aside0.mk hr; have k0 := hr.cell 0 (by omega); clear hs hr)
  have HZ4 := Aside0.mk (HZ3.out.stored HS3.out (by omega))
  have HB4 := Aside0.mk (HS3.out.bel _ _ (by omega) HB3.out)
  clear HZ3 HB3 HZ2 HB2 HN HS3 k0 hfl
  go_loopw [5, 4] (fun v5 v4 wr => QRel w l w2.heap.size v5 v4 wr) (fun v _ _ => 5 - (intOf v).toNat)
  case atStart => exact ⟨1, by omega, by omega, rfl, by rw [HQ1.out], HB4.out, HZ4.out, HR3.out⟩
  case round =>
    clear HZ4 HB4 HR3 HQ1
    obtain ⟨i, h1, hi, rfl, rfl, hb, hz, hr⟩ := hrel
    have HB := Aside0.mk hb
    have HZ := Aside0.mk hz
    have HR := Aside0.mk hr
    rcases Nat.lt_or_ge i 5 with h5 | h5
    · have hlt : ((i : Int) < 5) = True := eq_true (by omega)
      have k0 := hr.cell i (by omega)
      have hb0 := HD.out i (by omega)
      have hq0 := quo_b l HD.out i (by omega)
      have HX : Aside0 (cy 2251799813685248 (plus19 l) (i + 1) = (l i + cy 2251799813685248 (plus19 l) i) / 2251799813685248) := ⟨by
        show (plus19 l i + _) / _ = _
        unfold plus19; rw [upd_other _ _ _ _ (by omega)]⟩
      generalize cy 2251799813685248 (plus19 l) i = q at *
      generalize l i = x at *
      have hwq : IntKind.u64.wrap (x + q) = x + q := u64w _ (by omega) (by omega)
      clear hb hz hr hb0 hq0
      go_wp2_with fail
      refine ⟨⟨i + 1, by omega, by omega, rfl, by rw [HX.out], HB.out, HZ.out, HR.out⟩, meas_up 5 i (by omega)⟩
    · obtain rfl : i = 5 := by omega
      have hl2' := hz.lt
      have k0 := hr.cell 0 (by omega)
      have f0 := hr.fro 0
      have hb0 := HD.out 0 (by omega)
      have hq0 := quo_b l HD.out 5 (by omega)
      have HQ5 : Aside0 (cy 2251799813685248 (plus19 l) 5 = quo l) := ⟨rfl⟩
      have HRT := Aside0.mk (hr.set 0 (l 0 + 19 * cy 2251799813685248 (plus19 l) 5) (by omega))
      generalize cy 2251799813685248 (plus19 l) 5 = q at *
      have hwq : IntKind.u64.wrap (19 * q) = 19 * q := u64w _ (by omega) (by omega)
      have hwq2 : IntKind.u64.wrap (l 0 + 19 * q) = l 0 + 19 * q := u64w _ (by omega) (by omega)
      clear hb hz hr hb0 hq0
      go_wp2_with fail
      have HBT := Aside0.mk (bel_set HB.out ⟨w2.heap.size, 0, none⟩ (.int .u64 (l 0 + 19 * q)) (by simp; omega))
      have HZT := Aside0.mk (HZ.out.other ⟨w2.heap.size, 0, none⟩ (.int .u64 (l 0 + 19 * q)) (by simp; omega))
      have HRT2 : Aside0 (Row (wr.setCell ⟨w2.heap.size, 0, none⟩ (.int .u64 (l 0 + 19 * q))) w2.heap.size .u64 5 (midL l 0) 24) := ⟨row_eq HRT.out (fun j hj => by rw [midL_zero]; unfold topped; rw [← HQ5.out])⟩
      clear HB HZ HR HRT k0 f0 hwq hwq2
      generalize wr.setCell ⟨w2.heap.size, 0, none⟩ (.int .u64 (l 0 + 19 * q)) = w5 at *
      go_loopw [35] (fun v35 wr => GRel w l w2.heap.size v35 wr) (fun v _ => 4 - (intOf v).toNat)
      case atStart => exact ⟨0, by omega, rfl, HBT.out, HZT.out, HRT2.out⟩
      case round =>
        clear HBT HZT HRT2
        obtain ⟨i, hi, rfl, hb, hz, hr⟩ := hrel
        have HB := Aside0.mk hb
        have HZ := Aside0.mk hz
        have HR := Aside0.mk hr
        have hlz := hz.lt
        have hlr := hr.lt
        rcases Nat.lt_or_ge i 4 with h4 | h4
        · have hlt : ((i : Int) < 4) = True := eq_true (by omega)
          have hlt5 : ((i : Int) < 5) = True := eq_true (by omega)
          have hlt6 : ((i : Int) + 1 < 5) = True := eq_true (by omega)
          have hb0 := topped_b l HD.out
          have hb1 := hb0.2 (i + 1) (by omega) (by omega)
          have hc := cyT_b (topped l) hb0.1 hb0.2 i (by omega)
          have hb2 : 0 ≤ topped l i ∧ topped l i ≤ 2251799813685266 := by
            by_cases hz : i = 0
            · subst hz; exact hb0.1
            · have := hb0.2 i (by omega) hz; omega
          have k0 := hr.cell i (by omega)
          have k1 := hr.cell (i + 1) (by omega)
          have f0 := hr.fro i
          have f1 := hr.fro (i + 1)
          have e0 : midL l i i = topped l i + cy 2251799813685248 (topped l) i := by unfold midL; rw [if_neg (by omega), if_pos rfl]
          have e1 : midL l i (i + 1) = topped l (i + 1) := by unfold midL; rw [if_neg (by omega), if_neg (by omega)]
          rw [e0] at k0
          rw [e1] at k1
          have HS := Aside0.mk (row_eq ((hr.set (i + 1) (topped l (i + 1) + (topped l i + cy 2251799813685248 (topped l) i) / 2251799813685248) (by omega)).set i ((topped l i + cy 2251799813685248 (topped l) i) % 2251799813685248) (by omega)) (fun j hj => (midL_step l i j).symm))
          generalize hT : topped l i + cy 2251799813685248 (topped l) i = T at *
          have hTb : 0 ≤ T ∧ T < 4503599627370496 := by omega
          generalize topped l (i + 1) = y at *
          have m0 := mask51 T (by omega) (by omega)
          have hw : IntKind.u64.wrap (y + T / 2251799813685248) = y + T / 2251799813685248 := u64w _ (by omega) (by omega)
          clear hb hz hr e0 e1 hb0 hb1 hc hb2 hT hTb
          go_wp2_with fail
          go_region
          all_goals go_wp2_with fail
          refine ⟨⟨i + 1, by omega, rfl, bel_set (bel_drewN (bel_set HB.out _ _ (by simp; omega)) 1) _ _ (by simp; omega), ?_, ?_⟩, meas_up 4 i (by omega)⟩
          · exact (HZ.out.other ⟨w2.heap.size, i + 1, none⟩ _ (by simp; omega)).other ⟨w2.heap.size, i, none⟩ _ (by simp; omega)
          · exact HS.out
        · obtain rfl : i = 4 := by omega
          have hb0 := topped_b l HD.out
          have hb1 := hb0.2 4 (by omega) (by omega)
          have hc := cyT_b (topped l) hb0.1 hb0.2 4 (by omega)
          have k4 := hr.cell 4 (by omega)
          have f4 := hr.fro 4
          have e4 : midL l 4 4 = topped l 4 + cy 2251799813685248 (topped l) 4 := rfl
          rw [e4] at k4
          have HS := Aside0.mk (row_eq (hr.set 4 ((topped l 4 + cy 2251799813685248 (topped l) 4) % 2251799813685248) (by omega)) (f' := leastL l) (fun j hj => by
            by_cases h : j = 4
            · subst h; rw [upd_same]; rfl
            · rw [upd_other _ _ _ _ h]; unfold midL; rw [if_pos (by omega)]))
          generalize hT : topped l 4 + cy 2251799813685248 (topped l) 4 = T at *
          have m4 := mask51 T (by omega) (by omega)
          have HBT := Aside0.mk (bel_set HB.out ⟨w2.heap.size, 4, none⟩ (.int .u64 (T % 2251799813685248)) (by simp; omega))
          have HZT := Aside0.mk (HZ.out.other ⟨w2.heap.size, 4, none⟩ (.int .u64 (T % 2251799813685248)) (by simp; omega))
          clear hb hz hr e4 hb0 hb1 hc hT
          go_wp2_with fail
          have hs6 : (wr.setCell ⟨w2.heap.size, 4, none⟩ (.int .u64 (T % 2251799813685248))).heap.size = wr.heap.size := by simp [World.setCell]
          generalize wr.setCell ⟨w2.heap.size, 4, none⟩ (.int .u64 (T % 2251799813685248)) = w6 at *
          have HBA := Aside0.mk (HBT.out.alloc (by omega) (.cells (FR .u8 32 fun _ => 0) 22))
          have HZA := Aside0.mk (HZT.out.alloc (.cells (FR .u8 32 fun _ => 0) 22))
          have HSA := Aside0.mk (HS.out.alloc (.cells (FR .u8 32 fun _ => 0) 22))
          have hoa := Row.new w6 .u8 32 (fun _ => 0) 22
          rw [hs6] at hoa
          have HOA := Aside0.mk hoa
          clear hoa
          have HN : Aside0 (val 2251799813685248 (leastL l) 5 = V51 f % PP) := ⟨by rw [leastL_V l HD.out, HV.out]⟩
          clear HB HZ HR HS HBT HZT k4 f4 m4
          have hw6 : w.heap.size + 1 < w6.heap.size := by omega
          have hw62 : w2.heap.size < w6.heap.size := by omega
          have hb4 : w2.heap.size < wr.heap.size := by omega
          have hb41 : w.heap.size + 1 < wr.heap.size := by omega
          generalize wr.heap.size = b4 at *
          go_loopw [58] (fun v58 wr => ZRel w l (V51 f % PP) w2.heap.size b4 v58 wr) (fun v _ => 255 - (intOf v).toNat)
          case atStart => exact ⟨0, by omega, rfl, HBA.out, HZA.out, HSA.out, row_eq HOA.out (fun j hj => by unfold outB; rw [show min 8 (0 - 8 * j) = 0 by omega]; simp [Int.emod_one])⟩
          case round =>
            clear HBA HZA HSA HOA
            obtain ⟨i, hi, rfl, hb, hz, hr, ho⟩ := hrel
            have HB := Aside0.mk hb
            have HZ := Aside0.mk hz
            have HR := Aside0.mk hr
            have HO := Aside0.mk ho
            have hlz := hz.lt
            have hlr := hr.lt
            rcases Nat.lt_or_ge i 255 with h4 | h4
            · have hlt : ((i : Int) < 255) = True := eq_true (by omega)
              have d8 : Int.tdiv (i : Int) 8 = ((i / 8 : Nat) : Int) := rfl
              have d51 : Int.tdiv (i : Int) 51 = ((i / 51 : Nat) : Int) := rfl
              have r51 : Int.tmod (i : Int) 51 = ((i % 51 : Nat) : Int) := rfl
              have r8 : Int.tmod (i : Int) 8 = ((i % 8 : Nat) : Int) := rfl
              have l8 : (((i / 8 : Nat) : Int) < 32) = True := eq_true (by omega)
              have l51 : (((i / 51 : Nat) : Int) < 5) = True := eq_true (by omega)
              have k8 := ho.cell (i / 8) (by omega)
              have k51 := hr.cell (i / 51) (by omega)
              have f8 := ho.fro (i / 8)
              clear hb hz hr ho
              go_wp2_with fail
              go_region
              all_goals go_wp2_with fail
              refine ⟨⟨i + 1, by omega, rfl, (bel_set HB.out ⟨b4, i / 8, none⟩ _ (by simp; omega)).drew, HZ.out.other ⟨b4, i / 8, none⟩ _ (by simp; omega), HR.out.other ⟨b4, i / 8, none⟩ _ (by simp; omega), ?_⟩, meas_up 255 i (by omega)⟩
              rw [bit_step (leastL l) (fun i _ => leastL_b l i) (V51 f % PP) HN.out i h4]
              exact row_eq (HO.out.set (i / 8) _ (by omega)) (fun j hj => (outB_step (V51 f % PP) i j).symm)
            · obtain rfl : i = 255 := by omega
              have HO2 := Aside0.mk (row_eq HO.out (f' := dig 256 (V51 f % PP)) (fun j hj => outB_end _ (Int.emod_nonneg _ (by decide)) (Int.lt_trans (Int.emod_lt_of_pos _ (by decide)) (by decide)) j hj))
              clear hb hz hr ho HO
              go_wp2_with (first | refine step_load HO2.out Tryd.underlying22 info22 rfl rfl rfl rfl ?_ | (refine step_storeG _ HZ.out info22 rfl rfl rfl rfl rfl ?_; intro w9 hs hr; have HS9 := Aside0.mk hs; have HR9 := Aside0.mk hr; clear hs hr))
              refine bodyPost_ret (row_results rfl HR9.out rfl Tryd.underlying22 rfl info22) rfl ?_
              exact ⟨rfl, HS9.out.bel _ _ (by omega) HB.out⟩
theorem info5s : (Tryd.prog.info? 5).map (·.size) = some 1 := by kernel_rfl
theorem info3s : (Tryd.prog.info? 3).map (·.size) = some 1 := by kernel_rfl
theorem index22 (f : Nat → Int) (i : Nat) (hi : i < 32) (w : World) : (Instr.index 22 (.agg (FR .u8 32 f)) (.int .i64 (i : Int))).run Tryd.prog w = .ok (.int .u8 (f i)) w := run_index_FR Tryd.underlying22 Tryd.underlying5 info5s f i hi w
theorem index33 (f : Nat → Int) (i : Nat) (hi : i < 16) (w : World) : (Instr.index 34 (.agg (FR .i64 16 f)) (.int .i64 (i : Int))).run Tryd.prog w = .ok (.int .i64 (f i)) w := run_index_FR Tryd.underlying34 Tryd.underlying3 info3s f i hi w
theorem equal22 (f g : Nat → Int) (w : World) : (Op.equal 22 (.agg (FR .u8 32 f)) (.agg (FR .u8 32 g))).run Tryd.prog w = .ok (sameRow 32 f g) w := run_equal_FR Tryd.underlying22 Tryd.underlying5 info5s f g w
theorem modP_b (x : Int) : 0 ≤ x % PP ∧ x % PP < 57896044618658097711785492504343953926634992332820282019728792003956564819949 := by
  unfold PP; omega
theorem modP_32 (x : Int) : 0 ≤ x % PP ∧ x % PP < 256 ^ 32 := by
  have := modP_b x
  have e : (256 : Int) ^ 32 = 115792089237316195423570985008687907853269984665640564039457584007913129639936 := by decide
  rw [e]; omega
end Go.Proofs.YtaaipbhfikefaaaDoor.P.Fd
end

section
namespace Go.Proofs.YtaaipbhfikefaaaDoor.P.Fd
set_option linter.unusedVariables false
set_option linter.unusedSimpArgs false
open Go.RowKit Go.ChangeShapes Go.WideShapes Go.Proofs.YtaaipbhfikefaaaDoorW.PrintWords Go.Proofs.YtaaipbhfikefaaaDoorW.PrintLast Go.Proofs.YtaaipbhfikefaaaDoorW.PrintMore
attribute [local go_sem] setCell_drewN
attribute [local go_sem] setCell_drewN
theorem info5 : (Tryd.prog.info? 5).map (fun i => (i.zero, i.size, i.bytes)) = some (some (.int .u8 0), 1, 1) := by kernel_rfl
theorem tab6 : rtab .any (opsOf Tryd.f39 6) = (true, [([], []), ([], []), ([1], [1]), ([2], [2]), ([3], [3]), ([4], [4]), ([], []), ([6], [6]), ([7], [7]), ([8], [8]), ([9], [9]), ([5, 10], [5, 10]), ([0, 11], [0, 11]), ([12, 12, 0, 1, 2, 3, 4, 5, 6, 7, 8, 9, 10, 11, 12], [0, 12])]) := by kernel_rfl
theorem bits6 : waitsOk [([], []), ([], []), ([1], [1]), ([2], [2]), ([3], [3]), ([4], [4]), ([], []), ([6], [6]), ([7], [7]), ([8], [8]), ([9], [9]), ([5, 10], [5, 10]), ([0, 11], [0, 11]), ([12, 12, 0, 1, 2, 3, 4, 5, 6, 7, 8, 9, 10, 11, 12], [0, 12])] [0, 0, 2, 6, 14, 30, 0, 64, 192, 448, 960, 2046, 4095, 8191] = true := by kernel_rfl
/-- The bytes of 16 digits. -/
def outL (f : Nat → Int) : Nat → List Int
  | 0 => []
  | i + 1 => outL f i ++ [f i % 256, f i / 256]
theorem outL_len (f : Nat → Int) : ∀ i, (outL f i).length = 2 * i
  | 0 => rfl
  | i + 1 => by rw [outL, List.length_append, outL_len f i]; simp; omega
def YRel (w : World) (f : Nat → Int) (v4 v3 : Value) (wr : World) : Prop :=
  ∃ i : Nat, i ≤ 16 ∧ v4 = .int .i64 (i : Int) ∧ Below w.heap.size w wr ∧ Row wr w.heap.size .i64 16 f 34 ∧ Kd.R (Kd.int .u8) 5 wr w.heap.size (fun k => k ≠ w.heap.size) v3 (outL f i)
theorem bytes_wraps (x : Int) (h : 0 ≤ x ∧ x < 65536) : Int.tmod x 256 = x % 256 ∧ Int.tdiv x 256 = x / 256 ∧ IntKind.u8.wrap (x % 256) = x % 256 ∧ IntKind.u8.wrap (x / 256) = x / 256 ∧ x % 256 % 256 = x % 256 ∧ x / 256 % 256 = x / 256 ∧ wrap64 (x / 256) = x / 256 := by
  refine ⟨Int.tmod_eq_emod_of_nonneg h.1, Int.tdiv_eq_ediv_of_nonneg h.1, ?_, ?_, by omega, by omega, w64 _ (by omega)⟩
  · show x % 256 % 256 = _; omega
  · show x / 256 % 256 = _; omega
theorem ref_bytes_calls (f : Nat → Int) (w : World) (hf : CB f) :
    Calls Tryd.prog 39 #[.agg (FR .i64 16 f)] w fun e w' => e = .returned (.string (strOfNums (outL (dig 65536 (V16 f % PP)) 16))) ∧ Below w.heap.size w w' := by
  have HL := Aside0.mk (fun w => least_calls f w hf)
  clear hf
  go_enter Tryd.func39, Tryd.ntmps39
  have HR0 := Aside0.mk (Row.new w .i64 16 f 34)
  have HB0 := Aside0.mk ((Below.refl w.heap.size w).alloc (Nat.le_refl _) (.cells (FR .i64 16 f) 34))
  go_wp2_with (refine step_load HR0.out Tryd.underlying34 info33 rfl rfl rfl rfl ?_)
  refine (HL.out _).mono ?_
  rintro e w1 ⟨rfl, hb⟩
  have HR1 := Aside0.mk (HR0.out.below hb HR0.out.lt)
  have HB1 := Aside0.mk (HB0.out.trans (hb.mono (by have := HR0.out.lt; omega)))
  clear hb HR0 HB0
  go_wp2_with (refine step_store _ HR1.out info33 rfl rfl rfl rfl rfl ?_)
  have HR2 := Aside0.mk (HR1.out.all (f' := dig 65536 (V16 f % PP)))
  have HB2 := Aside0.mk (bel_setCells (Nat.le_refl _) (FR .i64 16 (dig 65536 (V16 f % PP))).toList 0 _ HB1.out)
  have HD : Aside0 (∀ i, 0 ≤ dig 65536 (V16 f % PP) i ∧ dig 65536 (V16 f % PP) i < 65536) := ⟨dig_b 65536 (by omega) _⟩
  generalize hdd : dig 65536 (V16 f % PP) = d at *
  have HDD := Aside0.mk hdd
  clear hdd
  clear HR1 HB1 HL
  go_loopw [4, 3] (fun v4 v3 wr => YRel w d v4 v3 wr) (fun v _ _ => 16 - (intOf v).toNat)
  case atStart => exact ⟨0, by omega, rfl, HB2.out, HR2.out, Kd.R_nil _ _ _ _ _⟩
  case round =>
    clear HR2 HB2
    obtain ⟨i, hi, rfl, hb, hr, ho⟩ := hrel
    have hlt1 := hr.lt
    have HB := Aside0.mk hb
    have HR := Aside0.mk hr
    have HO := Aside0.mk ho
    clear hb hr ho
    rcases Nat.lt_or_ge i 16 with h15 | h15
    · have hlt : ((i : Int) < 16) = True := eq_true (by omega)
      have hdx := HD.out i
      have HX : Aside0 (outL d (i + 1) = outL d i ++ [d i % 256, d i / 256]) := ⟨rfl⟩
      have hk : Aside0 (wr.cell? ⟨w.heap.size, i, none⟩ = some (.int .i64 (d i))) := ⟨HR.out.cell i h15⟩
      obtain ⟨e1, e2, e3, e4, e5, e6, e7⟩ := bytes_wraps (d i) hdx
      have d0 := hdx.1
      have d1 := hdx.2
      generalize hdx' : d i = x at *
      have HDX := Aside0.mk hdx'
      clear hdx'
      clear hdx
      go_wp2_with fail
      have HOd := Aside0.mk (Kd.R_drew HO.out)
      have HBd := Aside0.mk (below_drew1 HB.out)
      have HRd : Aside0 (Row wr.drew w.heap.size .i64 16 d 34) := ⟨HR.out⟩
      have hkd : wr.drew.cell? ⟨w.heap.size, i, none⟩ = some (.int .i64 x) := hk.out
      refine start_ (n := 14) (S := (fun w' => w'.cell? ⟨w.heap.size, i, none⟩ = some (.int .i64 x))) (ds := []) #[false, false, false, false, false, false, false, false, false, false, false, false, false, false] (by kernel_rfl) rfl rfl hkd (fun hHeld => ?_); refine with_tabW tab6 bits6 (fun HT_ HW_ => ?_)
      have hlt2 : w.heap.size < wr.drew.heap.size := hlt1
      generalize wr.drew = w6 at HOd HBd HRd hHeld hlt2 ⊢
      clear hkd
      refine pure_ (i := 0) (N := some 11) (v := ?_) (a' := ?_) #[true, false, false, false, false, false, false, false, false, false, false, false, false, false] rfl rfl (any_of HT_.out (by kernel_rfl)) (fun _ _ _ h => h) (Or.inl ⟨by rfl, ?_⟩) ?_ ?_
      rotate_left
      · intro w'
        go_simp
        with_reducible rfl
      rotate_left
      · simp only [Act.put, List.setIfInBounds_toArray, List.set_cons_zero, List.set_cons_succ, i64_w, i32_w]
        rfl
      refine pure_ (i := 1) (N := some 12) (v := ?_) (a' := ?_) #[true, true, false, false, false, false, false, false, false, false, false, false, false, false] rfl rfl (any_of HT_.out (by kernel_rfl)) (fun _ _ _ h => h) (Or.inl ⟨by rfl, ?_⟩) ?_ ?_
      rotate_left
      · intro w'
        go_simp
        with_reducible rfl
      rotate_left
      · simp only [Act.put, List.setIfInBounds_toArray, List.set_cons_zero, List.set_cons_succ, i64_w, i32_w]
        rfl
      refine pure_ (i := 6) (N := some 17) (v := ?_) (a' := ?_) #[true, true, false, false, false, false, true, false, false, false, false, false, false, false] rfl rfl (any_of HT_.out (by kernel_rfl)) (fun _ _ _ h => h) (Or.inl ⟨by rfl, ?_⟩) ?_ ?_
      rotate_left
      · intro w'
        go_simp
        with_reducible rfl
      rotate_left
      · simp only [Act.put, List.setIfInBounds_toArray, List.set_cons_zero, List.set_cons_succ, i64_w, i32_w]
        rfl
      refine take_ (i := 2) (N := some 13) (v := ?_) (a' := ?_) #[true, true, true, false, false, false, true, false, false, false, false, false, false, false] rfl rfl (take_ofW HT_.out HW_.out (by kernel_rfl)) (fun _ _ _ h => h) (Or.inl ⟨by rfl, ?_⟩) hHeld ?_ ?_
      rotate_left
      · intro w' hsw
        go_simp
        with_reducible rfl
      rotate_left
      · simp only [Act.put, List.setIfInBounds_toArray, List.set_cons_zero, List.set_cons_succ, i64_w, i32_w]
        rfl
      refine take_ (i := 3) (N := some 14) (v := ?_) (a' := ?_) #[true, true, true, true, false, false, true, false, false, false, false, false, false, false] rfl rfl (take_ofW HT_.out HW_.out (by kernel_rfl)) (fun _ _ _ h => h) (Or.inl ⟨by rfl, ?_⟩) hHeld ?_ ?_
      rotate_left
      · intro w' hsw
        go_simp
        with_reducible rfl
      rotate_left
      · simp only [Act.put, List.setIfInBounds_toArray, List.set_cons_zero, List.set_cons_succ, i64_w, i32_w]
        rfl
      refine take_ (i := 4) (N := some 15) (v := ?_) (a' := ?_) #[true, true, true, true, true, false, true, false, false, false, false, false, false, false] rfl rfl (take_ofW HT_.out HW_.out (by kernel_rfl)) (fun _ _ _ h => h) (Or.inl ⟨by rfl, ?_⟩) hHeld ?_ ?_
      rotate_left
      · intro w' hsw
        go_simp
        with_reducible rfl
      rotate_left
      · simp only [Act.put, List.setIfInBounds_toArray, List.set_cons_zero, List.set_cons_succ, i64_w, i32_w]
        rfl
      refine pure_ (i := 5) (N := some 16) (v := ?_) (a' := ?_) #[true, true, true, true, true, true, true, false, false, false, false, false, false, false] rfl rfl (any_of HT_.out (by kernel_rfl)) (fun _ _ _ h => h) (Or.inl ⟨by rfl, ?_⟩) ?_ ?_
      rotate_left
      · intro w'
        go_simp
        with_reducible rfl
      rotate_left
      · simp only [Act.put, List.setIfInBounds_toArray, List.set_cons_zero, List.set_cons_succ, i64_w, i32_w]
        rfl
      refine take_ (i := 7) (N := some 18) (v := ?_) (a' := ?_) #[true, true, true, true, true, true, true, true, false, false, false, false, false, false] rfl rfl (take_ofW HT_.out HW_.out (by kernel_rfl)) (fun _ _ _ h => h) (Or.inl ⟨by rfl, ?_⟩) hHeld ?_ ?_
      rotate_left
      · intro w' hsw
        go_simp
        with_reducible rfl
      rotate_left
      · simp only [Act.put, List.setIfInBounds_toArray, List.set_cons_zero, List.set_cons_succ, i64_w, i32_w]
        rfl
      refine take_ (i := 8) (N := some 19) (v := ?_) (a' := ?_) #[true, true, true, true, true, true, true, true, true, false, false, false, false, false] rfl rfl (take_ofW HT_.out HW_.out (by kernel_rfl)) (fun _ _ _ h => h) (Or.inl ⟨by rfl, ?_⟩) hHeld ?_ ?_
      rotate_left
      · intro w' hsw
        go_simp
        with_reducible rfl
      rotate_left
      · simp only [Act.put, List.setIfInBounds_toArray, List.set_cons_zero, List.set_cons_succ, i64_w, i32_w]
        rfl
      refine take_ (i := 9) (N := some 20) (v := ?_) (a' := ?_) #[true, true, true, true, true, true, true, true, true, true, false, false, false, false] rfl rfl (take_ofW HT_.out HW_.out (by kernel_rfl)) (fun _ _ _ h => h) (Or.inl ⟨by rfl, ?_⟩) hHeld ?_ ?_
      rotate_left
      · intro w' hsw
        go_simp
        with_reducible rfl
      rotate_left
      · simp only [Act.put, List.setIfInBounds_toArray, List.set_cons_zero, List.set_cons_succ, i64_w, i32_w]
        rfl
      refine pure_ (i := 10) (N := some 21) (v := ?_) (a' := ?_) #[true, true, true, true, true, true, true, true, true, true, true, false, false, false] rfl rfl (any_of HT_.out (by kernel_rfl)) (fun _ _ _ h => h) (Or.inl ⟨by rfl, ?_⟩) ?_ ?_
      rotate_left
      · intro w'
        go_simp
        with_reducible rfl
      rotate_left
      · simp only [Act.put, List.setIfInBounds_toArray, List.set_cons_zero, List.set_cons_succ, i64_w, i32_w]
        rfl
      refine one_ (i := 11) (N := some 22) #[true, true, true, true, true, true, true, true, true, true, true, true, false, false] rfl rfl (one_of HT_.out (by kernel_rfl)) (by decide) (fun K hK => ?_)
      refine Kd.R_lit_step (Kd.int .u8) w.heap.size 5 ?hg (N := 22) ?hd (xs := ([x % 256, x / 256] : List Int)) (inner := [.int .u8 (x % 256), .int .u8 (x / 256)]) (ok := fun _ => True) (okp := fun _ => True) ?hr ?hp (fun _ hk => hk) trivial HBd.out (by omega) (by simp) ?_
      (case hd => rfl)
      (case hg => rfl)
      (case hr => first | (go_simp; done) | (go_simp; rfl))
      (case hp => exact (Reps.one (show Kd.M (Kd.int .u8) _ _ _ (x % 256) [.int .u8 (x % 256)] from rfl) (Reps.one (show Kd.M (Kd.int .u8) _ _ _ (x / 256) [.int .u8 (x / 256)] from rfl) (Reps.none _ _))))
      intro v22 w4 ho hb hg_ hnew_
      have HO4 := Aside0.mk ho
      have HB4 := Aside0.mk hb
      have HG4 := Aside0.mk hg_
      clear ho hb hg_ hnew_
      obtain ⟨Ao, co, eo⟩ := Kd.R_slice HO4.out
      subst eo
      have HR4 : Aside0 (Row w4 w.heap.size .i64 16 d 34) := ⟨(HG4.out.block _ hlt2 (by simp)).trans HRd.out⟩
      have hlt4 := HR4.out.lt
      refine hK.out _ _ (by rw [HR4.out.cell i h15, HDX.out]) (fun hHeld => ?_)
      clear hK K
      refine norm_ (a' := ?_) ?_ ?_
      rotate_left
      · show Act.put _ (some 22) _ = _
        simp only [Act.put, List.setIfInBounds_toArray, List.set_cons_zero, List.set_cons_succ, i64_w, i32_w]
        rfl
      refine one_ (i := 12) (N := some 23) #[true, true, true, true, true, true, true, true, true, true, true, true, true, false] rfl rfl (one_of HT_.out (by kernel_rfl)) (by decide) (fun K hK => ?_)
      refine Kd.R_append_rows_step (Kd.int .u8) (w0 := w) w.heap.size (by rfl) (.tmp 11) (.tmp 22) 39 5 (.int .u8 0) 1 rfl Tryd.underlying39 info5 rfl (by decide) (by omega) u3 (outL d i) ([x % 256, x / 256] : List Int) _ _ _ (fun k => k ≠ w.heap.size) (fun _ => False) rfl rfl ?aO ?aR (fun _ _ h => h) (fun _ h => h.elim) ?aF ?aB ?aS ?aL ?_
      (case aR => exact (Kd.R_reads' HO4.out).2.2)
      (case aB => exact HB4.out)
      (case aF => exact (fun k_ hk => by omega))
      (case aO => exact Kd.R_grown HOd.out HG4.out (fun k hk => by simp))
      (case aS => omega)
      (case aL => have := outL_len d i; simp; omega)
      intro v1 w5 ho hb hg hat
      have HO5 := Aside0.mk ho
      have HB5 := Aside0.mk hb
      have HG5 := Aside0.mk hg
      clear ho hb hg hat
      have HR5 : Aside0 (Row w5 w.heap.size .i64 16 d 34) := ⟨(HG5.out.block _ hlt4 (fun e => HOd.out.1 _ e.symm rfl)).trans HR4.out⟩
      refine hK.out _ _ (by rw [HR5.out.cell i h15, HDX.out]) (fun hHeld => ?_)
      clear hK K
      refine norm_ (a' := ?_) ?_ ?_
      rotate_left
      · show Act.put _ (some 23) _ = _
        simp only [Act.put, List.setIfInBounds_toArray, List.set_cons_zero, List.set_cons_succ, i64_w, i32_w]
        rfl
      refine pure_ (i := 13) (N := some 3) (v := ?_) (a' := ?_) #[true, true, true, true, true, true, true, true, true, true, true, true, true, true] rfl rfl (any_of HT_.out (by kernel_rfl)) (fun _ _ _ h => h) (Or.inl ⟨by rfl, ?_⟩) ?_ ?_
      rotate_left
      · intro w'
        go_simp
        with_reducible rfl
      rotate_left
      · simp only [Act.put, List.setIfInBounds_toArray, List.set_cons_zero, List.set_cons_succ, i64_w, i32_w]
        rfl
      refine done_ (done_of HT_.out (by kernel_rfl)) ?_
      try go_wp2
      refine ⟨⟨i + 1, by omega, rfl, HB5.out, HR5.out, ?_⟩, meas_up 16 i (by omega)⟩
      rw [HX.out]
      exact HO5.out
    · obtain rfl : i = 16 := by omega
      have hcv := own_string (P := Tryd.prog) Tryd.underlying39 Tryd.underlying5 Tryd.underlying9 (Kd.own_of_R HO.out)
      go_wp2_with fail
      go_ret
      refine ⟨?_, HB.out⟩
      rw [HDD.out]; rfl
attribute [local go_sem] setCell_drewN
theorem conv_row {w : World} {g : Nat} {f : Nat → Int} {t : TypeId} (hr : Row w g .u8 32 f t) : (convert 39 9 (.slice (some ⟨g, 0, none⟩) 32 32)).run Tryd.prog w = .ok (.string (sOf f)) w := by
  refine run_convert_bytes_arg w 39 5 Tryd.underlying39 Tryd.underlying5 g 0 32 32 ((List.range 32).map f) (by simp) (fun i hi => ?_) 9 Tryd.underlying9
  rw [Nat.zero_add, hr.cell i hi]
  simp [List.getD_eq_getElem?_getD, hi]
theorem equal22i (f g : Nat → Int) (w : World) : (Op.equalIn 10000 22 (.agg (FR .u8 32 f)) (.agg (FR .u8 32 g))).run Tryd.prog w = .ok (sameRow 32 f g) w := equal22 f g w
theorem outL_range (N : Int) : ∀ i, outL (dig 65536 N) i = (List.range (2 * i)).map (dig 256 N)
  | 0 => rfl
  | i + 1 => by
    rw [outL, outL_range N i, show 2 * (i + 1) = 2 * i + 1 + 1 by omega, List.range_succ, List.range_succ]
    simp only [List.map_append, List.map_cons, List.map_nil, List.append_assoc, List.cons_append, List.nil_append]
    congr 1
    have e : (256 : Int) ^ (2 * i) = 65536 ^ i := by rw [Int.pow_mul]; rfl
    have e2 : (256 : Int) ^ (2 * i + 1) = 65536 ^ i * 256 := by rw [Int.pow_succ, e]
    unfold dig
    rw [e, e2, ← Int.ediv_ediv_of_nonneg (Int.le_of_lt (pow_pos' 65536 (by omega) i))]
    generalize N / 65536 ^ i = x
    rw [show x % 65536 % 256 = x % 256 by omega, show x % 65536 / 256 = x / 256 % 256 by omega]
theorem ref_bytes_str (N : Int) : strOfNums (outL (dig 65536 N) 16) = sOf (dig 256 N) := by rw [outL_range]; rfl
theorem tab17 : rtab .any (opsOf Tryd.f36 1) = (true, [([], []), ([0], [0]), ([], []), ([2, 1], [2]), ([1, 3], [1, 3]), ([4, 3, 0, 1, 2, 3, 4], [4])]) := by kernel_rfl
theorem bits17 : waitsOk [([], []), ([0], [0]), ([], []), ([2, 1], [2]), ([1, 3], [1, 3]), ([4, 3, 0, 1, 2, 3, 4], [4])] [0, 1, 0, 7, 15, 31] = true := by kernel_rfl
theorem elem_is_calls (f g : Nat → Int) (w : World) (hf : ∀ i, i < 5 → 0 ≤ f i ∧ f i ≤ 9223372036854775808) (hg : ∀ i, i < 5 → 0 ≤ g i ∧ g i ≤ 9223372036854775808) :
    Calls Tryd.prog 36 #[.agg (FR .u64 5 f), .agg (FR .u64 5 g)] w fun e w' => e = .returned (.bool (decide (V51 f % PP = V51 g % PP))) ∧ Below w.heap.size w w' := by
  have HF := Aside0.mk (fun w => elem_bytes_calls f w hf)
  have HG := Aside0.mk (fun w => elem_bytes_calls g w hg)
  clear hf hg
  go_enter Tryd.func36, Tryd.ntmps36
  go_wp2_with fail
  have hh : Row (((w.alloc (.cells (FR .u64 5 f) 26)).alloc (.cells (FR .u64 5 g) 26)).drew) w.heap.size .u64 5 f 26 ∧ Row (((w.alloc (.cells (FR .u64 5 f) 26)).alloc (.cells (FR .u64 5 g) 26)).drew) (w.heap.size + 1) .u64 5 g 26 := ⟨(Row.new w .u64 5 f 26).alloc _, heap_alloc2_new w _ _⟩
  have HBd := Aside0.mk ((bel_two w (.cells (FR .u64 5 f) 26) (.cells (FR .u64 5 g) 26)).drew)
  refine start_ (n := 6) (S := (fun w' => Row w' w.heap.size .u64 5 f 26 ∧ Row w' (w.heap.size + 1) .u64 5 g 26)) (ds := []) #[false, false, false, false, false, false] (by kernel_rfl) rfl rfl hh (fun hHeld => ?_); refine with_tabW tab17 bits17 (fun HT_ HW_ => ?_)
  generalize ((w.alloc (.cells (FR .u64 5 f) 26)).alloc (.cells (FR .u64 5 g) 26)).drew = w6 at HBd hHeld hh ⊢
  clear hh
  have heq := equal22i
  refine take_ (i := 0) (N := some 5) (v := ?_) (a' := ?_) #[true, false, false, false, false, false] rfl rfl (take_ofW HT_.out HW_.out (by kernel_rfl)) (fun _ _ _ h => h) (Or.inl ⟨by rfl, ?_⟩) hHeld ?_ ?_
  rotate_left
  · intro w' hsw
    refine exec_load (x := .tmp 2) hsw.1 Tryd.underlying26 info27 rfl ?_ ?_ <;> rfl
  rotate_left
  · simp only [Act.put, List.setIfInBounds_toArray, List.set_cons_zero, List.set_cons_succ, i64_w, i32_w]
    rfl
  refine take_ (i := 2) (N := some 7) (v := ?_) (a' := ?_) #[true, false, true, false, false, false] rfl rfl (take_ofW HT_.out HW_.out (by kernel_rfl)) (fun _ _ _ h => h) (Or.inl ⟨by rfl, ?_⟩) hHeld ?_ ?_
  rotate_left
  · intro w' hsw
    refine exec_load (x := .tmp 3) hsw.2 Tryd.underlying26 info27 rfl ?_ ?_ <;> rfl
  rotate_left
  · simp only [Act.put, List.setIfInBounds_toArray, List.set_cons_zero, List.set_cons_succ, i64_w, i32_w]
    rfl
  refine one_ (i := 1) (N := some 6) #[true, true, true, false, false, false] rfl rfl (one_of HT_.out (by kernel_rfl)) (by decide) (fun K hK => ?_)
  refine goes_ Tryd.func30 rfl rfl #[.agg (FR .u64 5 f)] rfl rfl rfl (by simp only [List.map_toArray, List.map_cons, List.map_nil]; rfl) ((HF.out _).mono ?_)
  rintro e w1 ⟨rfl, hb⟩
  have hS1 := hHeld.1.below hb hHeld.1.lt
  have hS2 := hHeld.2.below hb hHeld.2.lt
  have HB_HF := Aside0.mk (HBd.out.trans (hb.mono (by have := hHeld.2.lt; omega)))
  clear hb HBd
  refine ⟨_, rfl, hK.out _ _ ⟨hS1, hS2⟩ (fun hHeld => ?_)⟩
  clear hS1 hS2
  have HBd := HB_HF
  clear HB_HF
  clear hK K
  refine norm_ (a' := ?_) ?_ ?_
  rotate_left
  · show Act.put _ (some 6) _ = _
    simp only [Act.put, List.setIfInBounds_toArray, List.set_cons_zero, List.set_cons_succ, i64_w, i32_w]
    rfl
  refine one_ (i := 3) (N := some 8) #[true, true, true, true, false, false] rfl rfl (one_of HT_.out (by kernel_rfl)) (by decide) (fun K hK => ?_)
  refine goes_ Tryd.func30 rfl rfl #[.agg (FR .u64 5 g)] rfl rfl rfl (by simp only [List.map_toArray, List.map_cons, List.map_nil]; rfl) ((HG.out _).mono ?_)
  rintro e w1 ⟨rfl, hb⟩
  have hS1 := hHeld.1.below hb hHeld.1.lt
  have hS2 := hHeld.2.below hb hHeld.2.lt
  have HB_HG := Aside0.mk (HBd.out.trans (hb.mono (by have := hHeld.2.lt; omega)))
  clear hb HBd
  refine ⟨_, rfl, hK.out _ _ ⟨hS1, hS2⟩ (fun hHeld => ?_)⟩
  clear hS1 hS2
  have HBd := HB_HG
  clear HB_HG
  clear hK K
  refine norm_ (a' := ?_) ?_ ?_
  rotate_left
  · show Act.put _ (some 8) _ = _
    simp only [Act.put, List.setIfInBounds_toArray, List.set_cons_zero, List.set_cons_succ, i64_w, i32_w]
    rfl
  refine pure_ (i := 4) (N := some 9) (v := ?_) (a' := ?_) #[true, true, true, true, true, false] rfl rfl (any_of HT_.out (by kernel_rfl)) (fun _ _ _ h => h) (Or.inl ⟨by rfl, ?_⟩) ?_ ?_
  rotate_left
  · intro w'
    go_simp
    with_reducible rfl
  rotate_left
  · simp only [Act.put, List.setIfInBounds_toArray, List.set_cons_zero, List.set_cons_succ, i64_w, i32_w]
    rfl
  refine pure_ (i := 5) (N := some 4) (v := ?_) (a' := ?_) #[true, true, true, true, true, true] rfl rfl (any_of HT_.out (by kernel_rfl)) (fun _ _ _ h => h) (Or.inl ⟨by rfl, ?_⟩) ?_ ?_
  rotate_left
  · intro w'
    go_simp
    with_reducible rfl
  rotate_left
  · simp only [Act.put, List.setIfInBounds_toArray, List.set_cons_zero, List.set_cons_succ, i64_w, i32_w]
    rfl
  refine done_ (done_of HT_.out (by kernel_rfl)) ?_
  try go_wp2
  go_ret
  refine ⟨?_, HBd.out⟩
  show Ending.returned (Value.bool _) = _
  rw [sameRow_dig 256 (by omega) 32 _ _ (modP_32 _) (modP_32 _)]
theorem tab44 : rtab .any (opsOf Tryd.f47 1) = (true, [([], []), ([0], [0]), ([], []), ([2, 1], [2]), ([1, 3], [1, 3]), ([4, 3, 0, 1, 2, 3, 4], [4])]) := by kernel_rfl
theorem bits44 : waitsOk [([], []), ([0], [0]), ([], []), ([2, 1], [2]), ([1, 3], [1, 3]), ([4, 3, 0, 1, 2, 3, 4], [4])] [0, 1, 0, 7, 15, 31] = true := by kernel_rfl
theorem ref_is_calls (f g : Nat → Int) (w : World) (hf : CB f) (hg : CB g) :
    Calls Tryd.prog 47 #[.agg (FR .i64 16 f), .agg (FR .i64 16 g)] w fun e w' => e = .returned (.bool (decide (V16 f % PP = V16 g % PP))) ∧ Below w.heap.size w w' := by
  have HF := Aside0.mk (fun w => ref_bytes_calls f w hf)
  have HG := Aside0.mk (fun w => ref_bytes_calls g w hg)
  clear hf hg
  go_enter Tryd.func47, Tryd.ntmps47
  go_wp2_with fail
  have hh : Row (((w.alloc (.cells (FR .i64 16 f) 34)).alloc (.cells (FR .i64 16 g) 34)).drew) w.heap.size .i64 16 f 34 ∧ Row (((w.alloc (.cells (FR .i64 16 f) 34)).alloc (.cells (FR .i64 16 g) 34)).drew) (w.heap.size + 1) .i64 16 g 34 := ⟨(Row.new w .i64 16 f 34).alloc _, heap_alloc2_new w _ _⟩
  have HBd := Aside0.mk ((bel_two w (.cells (FR .i64 16 f) 34) (.cells (FR .i64 16 g) 34)).drew)
  refine start_ (n := 6) (S := (fun w' => Row w' w.heap.size .i64 16 f 34 ∧ Row w' (w.heap.size + 1) .i64 16 g 34)) (ds := []) #[false, false, false, false, false, false] (by kernel_rfl) rfl rfl hh (fun hHeld => ?_); refine with_tabW tab44 bits44 (fun HT_ HW_ => ?_)
  generalize ((w.alloc (.cells (FR .i64 16 f) 34)).alloc (.cells (FR .i64 16 g) 34)).drew = w6 at HBd hHeld hh ⊢
  clear hh
  refine take_ (i := 0) (N := some 5) (v := ?_) (a' := ?_) #[true, false, false, false, false, false] rfl rfl (take_ofW HT_.out HW_.out (by kernel_rfl)) (fun _ _ _ h => h) (Or.inl ⟨by rfl, ?_⟩) hHeld ?_ ?_
  rotate_left
  · intro w' hsw
    refine exec_load (x := .tmp 2) hsw.1 Tryd.underlying34 info33 rfl ?_ ?_ <;> rfl
  rotate_left
  · simp only [Act.put, List.setIfInBounds_toArray, List.set_cons_zero, List.set_cons_succ, i64_w, i32_w]
    rfl
  refine take_ (i := 2) (N := some 7) (v := ?_) (a' := ?_) #[true, false, true, false, false, false] rfl rfl (take_ofW HT_.out HW_.out (by kernel_rfl)) (fun _ _ _ h => h) (Or.inl ⟨by rfl, ?_⟩) hHeld ?_ ?_
  rotate_left
  · intro w' hsw
    refine exec_load (x := .tmp 3) hsw.2 Tryd.underlying34 info33 rfl ?_ ?_ <;> rfl
  rotate_left
  · simp only [Act.put, List.setIfInBounds_toArray, List.set_cons_zero, List.set_cons_succ, i64_w, i32_w]
    rfl
  refine one_ (i := 1) (N := some 6) #[true, true, true, false, false, false] rfl rfl (one_of HT_.out (by kernel_rfl)) (by decide) (fun K hK => ?_)
  refine goes_ Tryd.func39 rfl rfl #[.agg (FR .i64 16 f)] rfl rfl rfl (by simp only [List.map_toArray, List.map_cons, List.map_nil]; rfl) ((HF.out _).mono ?_)
  rintro e w1 ⟨rfl, hb⟩
  have hS1 := hHeld.1.below hb hHeld.1.lt
  have hS2 := hHeld.2.below hb hHeld.2.lt
  have HB_HF := Aside0.mk (HBd.out.trans (hb.mono (by have := hHeld.2.lt; omega)))
  clear hb HBd
  refine ⟨_, rfl, hK.out _ _ ⟨hS1, hS2⟩ (fun hHeld => ?_)⟩
  clear hS1 hS2
  have HBd := HB_HF
  clear HB_HF
  clear hK K
  refine norm_ (a' := ?_) ?_ ?_
  rotate_left
  · show Act.put _ (some 6) _ = _
    simp only [Act.put, List.setIfInBounds_toArray, List.set_cons_zero, List.set_cons_succ, i64_w, i32_w]
    rfl
  refine one_ (i := 3) (N := some 8) #[true, true, true, true, false, false] rfl rfl (one_of HT_.out (by kernel_rfl)) (by decide) (fun K hK => ?_)
  refine goes_ Tryd.func39 rfl rfl #[.agg (FR .i64 16 g)] rfl rfl rfl (by simp only [List.map_toArray, List.map_cons, List.map_nil]; rfl) ((HG.out _).mono ?_)
  rintro e w1 ⟨rfl, hb⟩
  have hS1 := hHeld.1.below hb hHeld.1.lt
  have hS2 := hHeld.2.below hb hHeld.2.lt
  have HB_HG := Aside0.mk (HBd.out.trans (hb.mono (by have := hHeld.2.lt; omega)))
  clear hb HBd
  refine ⟨_, rfl, hK.out _ _ ⟨hS1, hS2⟩ (fun hHeld => ?_)⟩
  clear hS1 hS2
  have HBd := HB_HG
  clear HB_HG
  clear hK K
  refine norm_ (a' := ?_) ?_ ?_
  rotate_left
  · show Act.put _ (some 8) _ = _
    simp only [Act.put, List.setIfInBounds_toArray, List.set_cons_zero, List.set_cons_succ, i64_w, i32_w]
    rfl
  refine pure_ (i := 4) (N := some 9) (v := ?_) (a' := ?_) #[true, true, true, true, true, false] rfl rfl (any_of HT_.out (by kernel_rfl)) (fun _ _ _ h => h) (Or.inl ⟨by rfl, ?_⟩) ?_ ?_
  rotate_left
  · intro w'
    go_simp
    with_reducible rfl
  rotate_left
  · simp only [Act.put, List.setIfInBounds_toArray, List.set_cons_zero, List.set_cons_succ, i64_w, i32_w]
    rfl
  refine pure_ (i := 5) (N := some 4) (v := ?_) (a' := ?_) #[true, true, true, true, true, true] rfl rfl (any_of HT_.out (by kernel_rfl)) (fun _ _ _ h => h) (Or.inl ⟨by rfl, ?_⟩) ?_ ?_
  rotate_left
  · intro w'
    go_simp
    with_reducible rfl
  rotate_left
  · simp only [Act.put, List.setIfInBounds_toArray, List.set_cons_zero, List.set_cons_succ, i64_w, i32_w]
    rfl
  refine done_ (done_of HT_.out (by kernel_rfl)) ?_
  try go_wp2
  go_ret
  refine ⟨?_, HBd.out⟩
  show Ending.returned (Value.bool _) = _
  rw [ref_bytes_str, ref_bytes_str, sOf_sameL _ _ (modP_32 _) (modP_32 _)]
theorem dig0_odd (N : Int) (hN : 0 ≤ N) : decide (Go.bits .and .u8 (dig 256 N 0) 1 = 1) = decide (N % 2 = 1) := by
  have e : dig 256 N 0 = N % 256 := by unfold dig; simp
  have h : Go.bits .and .u8 (dig 256 N 0) 1 = N % 2 := by
    rw [e, u8_and _ _ (by omega) (by omega) (by omega) (by omega), show (1 : Int).toNat = 2 ^ 1 - 1 from rfl, Nat.and_two_pow_sub_one_eq_mod]
    omega
  rw [h]
theorem elem_odd_calls (f : Nat → Int) (w : World) (hf : ∀ i, i < 5 → 0 ≤ f i ∧ f i ≤ 9223372036854775808) :
    Calls Tryd.prog 31 #[.agg (FR .u64 5 f)] w fun e w' => e = .returned (.bool (decide (V51 f % PP % 2 = 1))) ∧ Below w.heap.size w w' := by
  have HF := Aside0.mk (fun w => elem_bytes_calls f w hf)
  have HO := Aside0.mk (dig0_odd (V51 f % PP) (modP_b _).1)
  clear hf
  go_enter Tryd.func31, Tryd.ntmps31
  have HR0 := Aside0.mk (Row.new w .u64 5 f 26)
  have HB0 := Aside0.mk ((Below.refl w.heap.size w).alloc (Nat.le_refl _) (.cells (FR .u64 5 f) 26))
  go_wp2_with (refine step_load HR0.out Tryd.underlying26 info27 rfl rfl rfl rfl ?_)
  refine (HF.out _).mono ?_
  rintro e w1 ⟨rfl, hb⟩
  have HB1 := Aside0.mk (HB0.out.trans (hb.mono (by simp)))
  clear hb HR0 HB0
  have hix : ∀ (f : Nat → Int) (w : World), (Instr.index 22 (.agg (FR .u8 32 f)) (.int .i64 0)).run Tryd.prog w = .ok (.int .u8 (f 0)) w := fun f w => index22 f 0 (by omega) w
  go_wp2_with fail
  go_ret
  refine ⟨?_, HB1.out⟩
  show Ending.returned (Value.bool (Go.bits .and .u8 (dig 256 (V51 f % PP) 0) 1 == 1)) = _
  rw [← HO.out]
  rfl
theorem dig0_oddR (N : Int) : Int.tmod (dig 65536 N 0) 2 = N % 2 := by
  have e : dig 65536 N 0 = N % 65536 := by unfold dig; simp
  rw [e, Int.tmod_eq_emod_of_nonneg (by omega)]; omega
theorem ref_odd_calls (f : Nat → Int) (w : World) (hf : CB f) :
    Calls Tryd.prog 48 #[.agg (FR .i64 16 f)] w fun e w' => e = .returned (.bool (decide (V16 f % PP % 2 = 1))) ∧ Below w.heap.size w w' := by
  have HF := Aside0.mk (fun w => least_calls f w hf)
  have HO := Aside0.mk (dig0_oddR (V16 f % PP))
  clear hf
  go_enter Tryd.func48, Tryd.ntmps48
  have HR0 := Aside0.mk (Row.new w .i64 16 f 34)
  have HB0 := Aside0.mk ((Below.refl w.heap.size w).alloc (Nat.le_refl _) (.cells (FR .i64 16 f) 34))
  go_wp2_with (refine step_load HR0.out Tryd.underlying34 info33 rfl rfl rfl rfl ?_)
  refine (HF.out _).mono ?_
  rintro e w1 ⟨rfl, hb⟩
  have HB1 := Aside0.mk (HB0.out.trans (hb.mono (by simp)))
  clear hb HR0 HB0
  have hix : ∀ (f : Nat → Int) (w : World), (Instr.index 34 (.agg (FR .i64 16 f)) (.int .i64 0)).run Tryd.prog w = .ok (.int .i64 (f 0)) w := fun f w => index33 f 0 (by omega) w
  have hmm := HO.out
  go_wp2_with fail
  go_ret
  refine ⟨?_, HB1.out⟩
  rfl
attribute [local go_sem] setCell_drewN
/-- 32 bytes as cells. -/
def B32 (b : Nat → Int) : Array Value := #[.int .u8 (b 0), .int .u8 (b 1), .int .u8 (b 2), .int .u8 (b 3), .int .u8 (b 4), .int .u8 (b 5), .int .u8 (b 6), .int .u8 (b 7), .int .u8 (b 8), .int .u8 (b 9), .int .u8 (b 10), .int .u8 (b 11), .int .u8 (b 12), .int .u8 (b 13), .int .u8 (b 14), .int .u8 (b 15), .int .u8 (b 16), .int .u8 (b 17), .int .u8 (b 18), .int .u8 (b 19), .int .u8 (b 20), .int .u8 (b 21), .int .u8 (b 22), .int .u8 (b 23), .int .u8 (b 24), .int .u8 (b 25), .int .u8 (b 26), .int .u8 (b 27), .int .u8 (b 28), .int .u8 (b 29), .int .u8 (b 30), .int .u8 (b 31)]
theorem B32_at (b : Nat → Int) : ∀ j, j < 32 → (B32 b)[j]? = some (.int .u8 (b j)) := by
  intro j hj
  have h : j = 0 ∨ j = 1 ∨ j = 2 ∨ j = 3 ∨ j = 4 ∨ j = 5 ∨ j = 6 ∨ j = 7 ∨ j = 8 ∨ j = 9 ∨ j = 10 ∨ j = 11 ∨ j = 12 ∨ j = 13 ∨ j = 14 ∨ j = 15 ∨ j = 16 ∨ j = 17 ∨ j = 18 ∨ j = 19 ∨ j = 20 ∨ j = 21 ∨ j = 22 ∨ j = 23 ∨ j = 24 ∨ j = 25 ∨ j = 26 ∨ j = 27 ∨ j = 28 ∨ j = 29 ∨ j = 30 ∨ j = 31 := by omega
  rcases h with rfl | rfl | rfl | rfl | rfl | rfl | rfl | rfl | rfl | rfl | rfl | rfl | rfl | rfl | rfl | rfl | rfl | rfl | rfl | rfl | rfl | rfl | rfl | rfl | rfl | rfl | rfl | rfl | rfl | rfl | rfl | rfl
  all_goals rfl
/-- Eight bytes from place i on, as a number. -/
def L8 (b : Nat → Int) (i : Nat) : Int := ldZ (fun j => b (i + j)) 8
theorem L8_b (b : Nat → Int) (hb : ∀ j, j < 32 → 0 ≤ b j ∧ b j < 256) (i : Nat) (hi : i + 8 ≤ 32) : 0 ≤ L8 b i ∧ L8 b i < 18446744073709551616 := by
  have h := ldZ_b (fun j => b (i + j)) (fun j hj => hb _ (by omega)) 8 (by omega)
  exact h
theorem load_at (b : Nat → Int) (g off n c : Nat) (w : World) (t : TypeId) (hg : w.heap[g]? = some (.cells (B32 b) t (0, 0))) (hoff : off + 8 ≤ 32) (hn : 8 ≤ n) (hb : ∀ j, j < 32 → 0 ≤ b j ∧ b j < 256) :
    Calls Tryd.prog 57 #[.slice (some ⟨g, off, none⟩) n c] w fun e w' => e = .returned (.int .u64 (L8 b off)) ∧ w' = w :=
  load_calls (fun j => b (off + j)) g off n c w hn (fun j hj => hb _ (by omega)) (fun j hj => (cell_of_row w g (off + j) _ t _ hg).trans (B32_at b _ (by omega)))
theorem alloc_keep {V : World} {g : Nat} {x : Obj} (h : V.heap[g]? = some x) (o : Obj) : (V.alloc o).heap[g]? = some x := by
  have hlt : g < V.heap.size := (Array.getElem?_eq_some_iff.1 h).1
  have e : (V.alloc o).heap[g]? = V.heap[g]? := Below.heap_alloc V o g hlt
  rw [e]; exact h
def ofZ (b : Nat → Int) : Int × Int × Int × Int × Int := carriedZ (L8 b 0 % 2251799813685248 + 19 * (b 31 / 128)) (L8 b 6 / 8 % 2251799813685248) (L8 b 12 / 64 % 2251799813685248) (L8 b 19 / 2 % 2251799813685248) (L8 b 24 / 4096 % 2251799813685248)
set_option maxHeartbeats 1500000 in
theorem of_calls (b : Nat → Int) (w : World) (hb : ∀ j, j < 32 → 0 ≤ b j ∧ b j < 256) :
    Calls Tryd.prog 32 #[.agg (B32 b)] w fun e w' => e = .returned (E5t (ofZ b)) ∧ Below w.heap.size w w' := by
  have r0 := L8_b b hb 0 (by omega); have r1 := L8_b b hb 6 (by omega); have r2 := L8_b b hb 12 (by omega); have r3 := L8_b b hb 19 (by omega); have r4 := L8_b b hb 24 (by omega); have r5 := hb 31 (by omega)
  have m0 := mask51 (L8 b 0) (by omega) (by omega)
  have m1 := mask51 (L8 b 6 / 8) (by omega) (by omega)
  have m2 := mask51 (L8 b 12 / 64) (by omega) (by omega)
  have m3 := mask51 (L8 b 19 / 2) (by omega) (by omega)
  have m4 := mask51 (L8 b 24 / 4096) (by omega) (by omega)
  have w1 := u64w (b 31 / 128) (by omega) (by omega)
  have w2 := u64w (19 * (b 31 / 128)) (by omega) (by omega)
  have w3 := u64w (L8 b 0 % 2251799813685248 + 19 * (b 31 / 128)) (by omega) (by omega)
  have HC := Aside0.mk (fun w => carried_b (L8 b 0 % 2251799813685248 + 19 * (b 31 / 128)) (L8 b 6 / 8 % 2251799813685248) (L8 b 12 / 64 % 2251799813685248) (L8 b 19 / 2 % 2251799813685248) (L8 b 24 / 4096 % 2251799813685248) w (by intro x hx; simp only [List.mem_cons, List.not_mem_nil, or_false] at hx; omega))
  clear r0 r1 r2 r3 r4 r5
  go_enter Tryd.func32, Tryd.ntmps32
  go_wp2_with fail
  have HBb := Aside0.mk hb
  clear hb
  go_region_held3 (fun w' => w'.heap[w.heap.size]? = some (.cells (B32 b) 22 (0, 0))) (first | assumption | exact heap_alloc2_old w _ _ | exact alloc_keep (heap_alloc2_old w _ _) _ | exact alloc_keep (by assumption) _ | go_keep)
    (first | (go_at_call 57; refine (load_at b w.heap.size _ _ _ _ 22 ?h3 ?h1 ?h2 HBb.out).mono ?_; (case h1 => decide); (case h2 => decide); (case h3 => assumption); rintro e w' ⟨rfl, rfl⟩))
  all_goals simp only [B32]
  all_goals go_wp2_with fail
  all_goals refine (HC.out _).mono ?_
  all_goals rintro e w1 ⟨rfl, hb⟩
  all_goals (have hrow : w1.heap[w.heap.size + 1]? = some (.cells #[.int .u64 0, .int .u64 0, .int .u64 0, .int .u64 0, .int .u64 0] 26 (0, 0)) := by
               refine (hb.block _ (by simp)).trans ?_
               first | exact alloc_keep (heap_alloc2_new w _ _) _ | exact alloc_keep (alloc_keep (heap_alloc2_new w _ _) _) _)
  all_goals (have hBel : Below w.heap.size w w1 := by
               have h3 := fun c => (bel_three w (.cells (B32 b) 22) (.cells #[.int .u64 0, .int .u64 0, .int .u64 0, .int .u64 0, .int .u64 0] 26) c)
               first | exact (bel_drewN (h3 _) _).trans (hb.mono (bel_drewN (h3 _) _).size) | exact (h3 _).trans (hb.mono (h3 _).size))
  all_goals have HB1 := Aside0.mk hBel
  all_goals (have hlt : w.heap.size + 1 < w1.heap.size := (Array.getElem?_eq_some_iff.1 hrow).1)
  all_goals clear hb hBel HC
  all_goals generalize ht : carriedZ (L8 b 0 % 2251799813685248 + 19 * (b 31 / 128)) (L8 b 6 / 8 % 2251799813685248) (L8 b 12 / 64 % 2251799813685248) (L8 b 19 / 2 % 2251799813685248) (L8 b 24 / 4096 % 2251799813685248) = t
  all_goals (obtain ⟨t0, t1, t2, t3, t4⟩ := t; have HT := Aside0.mk ht; clear ht; simp only [E5t, E5])
  all_goals have k0 := cell_of_row w1 _ 0 _ _ _ hrow
  all_goals have k1 := cell_of_row w1 _ 1 _ _ _ hrow
  all_goals have k2 := cell_of_row w1 _ 2 _ _ _ hrow
  all_goals have k3 := cell_of_row w1 _ 3 _ _ _ hrow
  all_goals have k4 := cell_of_row w1 _ 4 _ _ _ hrow
  all_goals have f0 := frozen_of_row w1 _ 0 _ _ hrow
  all_goals have f1 := frozen_of_row w1 _ 1 _ _ hrow
  all_goals have f2 := frozen_of_row w1 _ 2 _ _ hrow
  all_goals have f3 := frozen_of_row w1 _ 3 _ _ hrow
  all_goals have f4 := frozen_of_row w1 _ 4 _ _ hrow
  all_goals go_wp2_with fail
  all_goals refine bodyPost_ret (results_cell_row rfl _ _ (w.heap.size + 1) 26 #[.int .u64 t0, .int .u64 t1, .int .u64 t2, .int .u64 t3, .int .u64 t4] (0, 0) _ rfl (set5_row hrow) Tryd.underlying26 rfl (by kernel_rfl)) rfl ?_
  all_goals exact ⟨by unfold ofZ; rw [HT.out]; rfl, set5_bel HB1.out (by omega)⟩
theorem L8_val (b : Nat → Int) (k : Nat) : L8 b k = val 256 (fun j => b (k + j)) 8 := by
  simp only [L8, ldZ, val, Nat.reduceSub]
  omega
/-- The limbs that Of hands to carried. -/
def ofL (b : Nat → Int) : Nat → Int
  | 0 => L8 b 0 % 2251799813685248 + 19 * (b 31 / 128)
  | 1 => L8 b 6 / 8 % 2251799813685248
  | 2 => L8 b 12 / 64 % 2251799813685248
  | 3 => L8 b 19 / 2 % 2251799813685248
  | _ => L8 b 24 / 4096 % 2251799813685248
/-- Numbers that are bytes. -/
def By (b : Nat → Int) : Prop := ∀ j, j < 32 → 0 ≤ b j ∧ b j < 256
theorem Of_elem_calls (b : Nat → Int) (w : World) (hb : By b) :
    Calls Tryd.prog 32 #[.agg (FR .u8 32 b)] w fun e w' => e = .returned (.agg (FR .u64 5 (carr (ofL b)))) ∧ Below w.heap.size w w' := of_calls b w hb
def N32 (b : Nat → Int) : Int := val 256 b 32
theorem N32_parts (b : Nat → Int) (hb : By b) (k : Nat) (hk : k + 8 ≤ 32) : ∃ A R, 0 ≤ A ∧ A < 256 ^ k ∧ 0 ≤ R ∧ (0 ≤ L8 b k ∧ L8 b k < 18446744073709551616) ∧ N32 b = A + 256 ^ k * (L8 b k + 18446744073709551616 * R) := by
  have h1 := val_b 256 (by omega) b k (fun i hi => hb i (by omega))
  refine ⟨val 256 b k, val 256 (fun j => b (k + (8 + j))) (24 - k), h1.1, h1.2, val_nonneg 256 (by omega) _ _ (fun i hi => (hb _ (by omega)).1), L8_b b hb k hk, ?_⟩
  have e1 := val_split 256 b k (32 - k)
  have e2 := val_split 256 (fun j => b (k + j)) 8 (24 - k)
  rw [show k + (32 - k) = 32 by omega] at e1
  rw [show 8 + (24 - k) = 32 - k by omega] at e2
  unfold N32
  rw [e1, e2, L8_val]
  rfl
theorem ofL_dig (b : Nat → Int) (hb : By b) : (∀ i, i < 5 → (if i = 0 then ofL b 0 - 19 * (b 31 / 128) else ofL b i) = dig 2251799813685248 (N32 b) i) := by
  intro i hi
  have hc : i = 0 ∨ i = 1 ∨ i = 2 ∨ i = 3 ∨ i = 4 := by omega
  rcases hc with rfl | rfl | rfl | rfl | rfl
  · obtain ⟨A, R, h1, h2, h3, h4, e⟩ := N32_parts b hb 0 (by omega)
    rw [if_pos rfl]
    show L8 b 0 % 2251799813685248 + 19 * (b 31 / 128) - 19 * (b 31 / 128) = N32 b / 1 % 2251799813685248
    simp only [Int.pow_zero] at h2 e
    omega
  · obtain ⟨A, R, h1, h2, h3, h4, e⟩ := N32_parts b hb 6 (by omega)
    rw [if_neg (by omega)]
    show L8 b 6 / 8 % 2251799813685248 = N32 b / 2251799813685248 ^ 1 % 2251799813685248
    rw [show (256 : Int) ^ 6 = 281474976710656 by decide] at h2 e
    rw [show (2251799813685248 : Int) ^ 1 = 2251799813685248 by decide]
    omega
  · obtain ⟨A, R, h1, h2, h3, h4, e⟩ := N32_parts b hb 12 (by omega)
    rw [if_neg (by omega)]
    show L8 b 12 / 64 % 2251799813685248 = N32 b / 2251799813685248 ^ 2 % 2251799813685248
    rw [show (256 : Int) ^ 12 = 79228162514264337593543950336 by decide] at h2 e
    rw [show (2251799813685248 : Int) ^ 2 = 5070602400912917605986812821504 by decide]
    omega
  · obtain ⟨A, R, h1, h2, h3, h4, e⟩ := N32_parts b hb 19 (by omega)
    rw [if_neg (by omega)]
    show L8 b 19 / 2 % 2251799813685248 = N32 b / 2251799813685248 ^ 3 % 2251799813685248
    rw [show (256 : Int) ^ 19 = 5708990770823839524233143877797980545530986496 by decide] at h2 e
    rw [show (2251799813685248 : Int) ^ 3 = 11417981541647679048466287755595961091061972992 by decide]
    omega
  · obtain ⟨A, R, h1, h2, h3, h4, e⟩ := N32_parts b hb 24 (by omega)
    rw [if_neg (by omega)]
    show L8 b 24 / 4096 % 2251799813685248 = N32 b / 2251799813685248 ^ 4 % 2251799813685248
    rw [show (256 : Int) ^ 24 = 6277101735386680763835789423207666416102355444464034512896 by decide] at h2 e
    rw [show (2251799813685248 : Int) ^ 4 = 25711008708143844408671393477458601640355247900524685364822016 by decide]
    omega
theorem ofL_b (b : Nat → Int) (hb : By b) : ∀ i, i < 5 → 0 ≤ ofL b i ∧ ofL b i ≤ 9223372036854775808 := by
  intro i hi
  have h := ofL_dig b hb i hi
  have hd := dig_b 2251799813685248 (by omega) (N32 b) i
  have h31 := hb 31 (by omega)
  split at h
  · rename_i h0; subst h0; omega
  · omega
theorem ofL_V (b : Nat → Int) (hb : By b) : V51 (ofL b) = N32 b - PP * (b 31 / 128) := by
  have h := ofL_dig b hb
  have e1 := val_congr 2251799813685248 _ _ 5 h
  rw [val_dig 2251799813685248 (by omega)] at e1
  have e2 : val 2251799813685248 (fun i => if i = 0 then ofL b 0 - 19 * (b 31 / 128) else ofL b i) 5 = V51 (ofL b) - 19 * (b 31 / 128) := by
    simp [val, V51]; omega
  rw [e2, show (2251799813685248 : Int) ^ 5 = 57896044618658097711785492504343953926634992332820282019728792003956564819968 by decide] at e1
  have hA := val_b 256 (by omega) b 31 (fun i hi => hb i (by omega))
  have hN : N32 b = val 256 b 31 + b 31 * 256 ^ 31 := rfl
  have h31 := hb 31 (by omega)
  rw [show (256 : Int) ^ 31 = 452312848583266388373324160190187140051835877600158453279131187530910662656 by decide] at hA hN
  unfold PP
  generalize V51 (ofL b) = x at *
  generalize val 256 b 31 = y at *
  generalize b 31 = z at *
  omega
theorem of_mod (b : Nat → Int) (hb : By b) : V51 (carr (ofL b)) % PP = N32 b % PP := by
  rw [carr_mod, ofL_V b hb, Int.sub_mul_emod_self_left]
theorem of_Lm (b : Nat → Int) (hb : By b) : Lm (carr (ofL b)) := carr_Lm _ (ofL_b b hb)
/-- The digits that num answers. -/
def numD (b : Nat → Int) (i : Nat) : Int := b (2 * i) + 256 * b (2 * i + 1)
theorem numD_val (b : Nat → Int) : ∀ n, val 65536 (numD b) n = val 256 b (2 * n)
  | 0 => rfl
  | n + 1 => by
    have e : (256 : Int) ^ (2 * n) = 65536 ^ n := by rw [Int.pow_mul]; rfl
    show val 65536 (numD b) n + (b (2 * n) + 256 * b (2 * n + 1)) * 65536 ^ n = val 256 b (2 * n) + b (2 * n) * 256 ^ (2 * n) + b (2 * n + 1) * 256 ^ (2 * n + 1)
    rw [numD_val b n, Int.pow_succ, e]; grind
theorem numD_V (b : Nat → Int) : V16 (numD b) = N32 b := numD_val b 16
theorem numD_D (b : Nat → Int) (hb : By b) : D16 (numD b) := fun j hj => by
  have h1 := hb (2 * j) (by omega)
  have h2 := hb (2 * j + 1) (by omega)
  unfold numD; omega
theorem D16.cb {f : Nat → Int} (h : D16 f) : CB f := fun j hj => by have := h j hj; omega
theorem D16.cb0 {f : Nat → Int} (h : D16 f) : CB0 f := fun j hj => by have := h j hj; omega
theorem Lm.c {f : Nat → Int} (h : Lm f) : ∀ i, i < 5 → 0 ≤ f i ∧ f i ≤ 9223372036854775808 := fun i hi => by have := h.b i hi; omega
theorem small_elem_calls (n : Int) (w : World) (h : 0 ≤ n ∧ n < 4294967296) : Calls Tryd.prog 27 #[.int .u32 n] w fun e w' => e = .returned (.agg (FR .u64 5 (smL n))) ∧ Below w.heap.size w w' := small_calls n w h.1 h.2
theorem smL_V (n : Int) : V51 (smL n) = n := by simp [V51, smL]
theorem smL_Lm (n : Int) (h : 0 ≤ n ∧ n < 4294967296) : Lm (smL n) := by
  refine ⟨fun i hi => ?_, ?_⟩
  · unfold smL; split <;> omega
  · unfold smL; rw [if_neg (by omega)]; omega
theorem small_ref (n : Int) (h : 0 ≤ n ∧ n < 4294967296) : CB (carryN (fun i => if i = 0 then n else 0) 16) ∧ V16 (carryN (fun i => if i = 0 then n else 0) 16) % PP = n % PP := by
  refine ⟨(carry_CB1 _ (fun j hj => by split <;> omega)).cb, ?_⟩
  rw [V16_carry_mod]
  congr 1
  simp [V16, val]
theorem dig_By (N : Int) : By (dig 256 N) := fun j _ => dig_b 256 (by omega) N j
theorem N32_dig (N : Int) (h : 0 ≤ N ∧ N < 256 ^ 32) : N32 (dig 256 N) = N := by
  unfold N32; rw [val_dig 256 (by omega), Int.emod_eq_of_lt h.1 h.2]
end Go.Proofs.YtaaipbhfikefaaaDoor.P.Fd
end

section
namespace Go.Proofs.YtaaipbhfikefaaaDoor.P.Fd
set_option linter.unusedVariables false
set_option linter.unusedSimpArgs false
open Go.RowKit Go.ChangeShapes Go.WideShapes Go.Proofs.YtaaipbhfikefaaaDoorW.PrintWords Go.Proofs.YtaaipbhfikefaaaDoorW.PrintLast Go.Proofs.YtaaipbhfikefaaaDoorW.PrintMore
attribute [local go_sem] setCell_drewN
attribute [local go_sem] setCell_drewN
theorem elem_is_bool (f g : Nat → Int) (hf : Lm f) (hg : Lm g) (r : Bool) (h : decide (V51 f % PP = V51 g % PP) = r) (w : World) : Calls Tryd.prog 36 #[.agg (FR .u64 5 f), .agg (FR .u64 5 g)] w fun e w' => e = .returned (.bool r) ∧ Below w.heap.size w w' := by
  rw [← h]; exact elem_is_calls f g w hf.c hg.c
/-- Limbs that stand for the number n's rest. -/
def Fe (f : Nat → Int) (n : Int) : Prop := Lm f ∧ V51 f % PP = n % PP
/-- Digits as the document keeps them. -/
def Rn (g : Nat → Int) : Prop := (∀ j, j < 16 → j ≠ 0 → 0 ≤ g j ∧ g j < 65536) ∧ (-100000 ≤ g 0 ∧ g 0 ≤ 200000)
/-- Digits that stand for the number n's rest. -/
def Re (g : Nat → Int) (n : Int) : Prop := Rn g ∧ V16 g % PP = n % PP
theorem mod_add {a b n m : Int} (h1 : a % PP = n % PP) (h2 : b % PP = m % PP) : (a + b) % PP = (n + m) % PP := by rw [Int.add_emod, h1, h2, ← Int.add_emod]
theorem mod_sub {a b n m : Int} (h1 : a % PP = n % PP) (h2 : b % PP = m % PP) : (a - b) % PP = (n - m) % PP := by rw [Int.sub_emod, h1, h2, ← Int.sub_emod]
theorem mod_mul {a b n m : Int} (h1 : a % PP = n % PP) (h2 : b % PP = m % PP) : (a * b) % PP = (n * m) % PP := by rw [Int.mul_emod, h1, h2, ← Int.mul_emod]
theorem Rn.b {g : Nat → Int} (h : Rn g) (j : Nat) (hj : j < 16) : -100000 ≤ g j ∧ g j ≤ 200000 := by
  by_cases h0 : j = 0
  · subst h0; exact h.2
  · have := h.1 j hj h0; omega
theorem Rn.cb {g : Nat → Int} (h : Rn g) : CB g := fun j hj => by have := h.b j hj; omega
theorem Rn.cb0 {g : Nat → Int} (h : Rn g) : CB0 g := fun j hj => by have := h.b j hj; omega
theorem D16.rn {g : Nat → Int} (h : D16 g) : Rn g := ⟨fun j hj _ => h j hj, by have := h 0 (by omega); omega⟩
theorem V16_small (f : Nat → Int) (hf : ∀ j, j < 16 → -400000 ≤ f j ∧ f j ≤ 400000) : -10 * QQ ≤ V16 f ∧ V16 f ≤ 10 * QQ := by
  rw [V16_eq]
  have h0 := hf 0 (by omega); have h1 := hf 1 (by omega); have h2 := hf 2 (by omega); have h3 := hf 3 (by omega)
  have h4 := hf 4 (by omega); have h5 := hf 5 (by omega); have h6 := hf 6 (by omega); have h7 := hf 7 (by omega)
  have h8 := hf 8 (by omega); have h9 := hf 9 (by omega); have h10 := hf 10 (by omega); have h11 := hf 11 (by omega)
  have h12 := hf 12 (by omega); have h13 := hf 13 (by omega); have h14 := hf 14 (by omega); have h15 := hf 15 (by omega)
  unfold QQ
  omega
theorem carry_Rn (f : Nat → Int) (hV : -10 * QQ ≤ V16 f ∧ V16 f ≤ 10 * QQ) : Rn (carryN f 16) := by
  refine ⟨carry_digits f, ?_⟩
  rw [carry_zero]
  generalize V16 f = x at *
  unfold QQ at *
  omega
def addR (f g : Nat → Int) : Nat → Int := carryN (fun i => f i + g i) 16
def subR (f g : Nat → Int) : Nat → Int := carryN (fun i => f i - g i) 16
theorem addR_c (f g : Nat → Int) (w : World) (hf : Rn f) (hg : Rn g) : Calls Tryd.prog 43 #[.agg (FR .i64 16 f), .agg (FR .i64 16 g)] w fun e w' => e = .returned (.agg (FR .i64 16 (addR f g))) ∧ Below w.heap.size w w' := addR_calls f g w hf.cb0 hg.cb0
theorem subR_c (f g : Nat → Int) (w : World) (hf : Rn f) (hg : Rn g) : Calls Tryd.prog 42 #[.agg (FR .i64 16 f), .agg (FR .i64 16 g)] w fun e w' => e = .returned (.agg (FR .i64 16 (subR f g))) ∧ Below w.heap.size w w' := subR_calls f g w hf.cb0 hg.cb0
theorem Re.add {f g : Nat → Int} {n m : Int} (hf : Re f n) (hg : Re g m) : Re (addR f g) (n + m) := by
  refine ⟨carry_Rn _ (V16_small _ (fun j hj => by have := hf.1.b j hj; have := hg.1.b j hj; omega)), ?_⟩
  unfold addR
  rw [V16_carry_mod]
  have e : V16 (fun i => f i + g i) = V16 f + V16 g := val_add 65536 f g 16
  rw [e]; exact mod_add hf.2 hg.2
theorem Re.sub {f g : Nat → Int} {n m : Int} (hf : Re f n) (hg : Re g m) : Re (subR f g) (n - m) := by
  refine ⟨carry_Rn _ (V16_small _ (fun j hj => by have := hf.1.b j hj; have := hg.1.b j hj; omega)), ?_⟩
  unfold subR
  rw [V16_carry_mod]
  have e : V16 (fun i => f i - g i) = V16 f - V16 g := val_sub 65536 f g 16
  rw [e]; exact mod_sub hf.2 hg.2
theorem Re.num (b : Nat → Int) (hb : By b) : Re (numD b) (N32 b) := ⟨(numD_D b hb).rn, by rw [numD_V]⟩
theorem Re.zero : Re (fun _ => 0) 0 := ⟨⟨fun j _ _ => by show 0 ≤ (0 : Int) ∧ (0 : Int) < 65536; omega, by show -100000 ≤ (0 : Int) ∧ (0 : Int) ≤ 200000; omega⟩, by decide⟩
theorem Re.small (n : Int) (h : 0 ≤ n ∧ n < 4294967296) : Re (carryN (fun i => if i = 0 then n else 0) 16) n := by
  have e : V16 (fun i => if i = 0 then n else 0) = n := by simp [V16, val]
  refine ⟨carry_Rn _ (by rw [e]; unfold QQ; omega), (small_ref n h).2⟩
def addE (f g : Nat → Int) : Nat → Int := carr (fun i => f i + g i)
def subM : Nat → Int
  | 0 => 9007199254740916
  | _ => 9007199254740988
def subE (f g : Nat → Int) : Nat → Int := carr (fun i => f i + (subM i - g i))
def negE (g : Nat → Int) : Nat → Int := carr (fun i => 0 + (subM i - g i))
theorem five_of {f : Nat → Int} (h : Lm f) : ∀ x ∈ [f 0, f 1, f 2, f 3, f 4], 0 ≤ x ∧ x < 4503599627370496 := by
  have h0 := h.b 0 (by omega); have h1 := h.b 1 (by omega); have h2 := h.b 2 (by omega); have h3 := h.b 3 (by omega); have h4 := h.b 4 (by omega)
  intro x hx
  simp only [List.mem_cons, List.not_mem_nil, or_false] at hx
  rcases hx with rfl | rfl | rfl | rfl | rfl <;> assumption
theorem addE_c (f g : Nat → Int) (w : World) (hf : Lm f) (hg : Lm g) : Calls Tryd.prog 34 #[.agg (FR .u64 5 f), .agg (FR .u64 5 g)] w fun e w' => e = .returned (.agg (FR .u64 5 (addE f g))) ∧ Below w.heap.size w w' := add_calls _ _ _ _ _ _ _ _ _ _ w (five_of hf) (five_of hg)
theorem subE_c (f g : Nat → Int) (w : World) (hf : Lm f) (hg : Lm g) : Calls Tryd.prog 33 #[.agg (FR .u64 5 f), .agg (FR .u64 5 g)] w fun e w' => e = .returned (.agg (FR .u64 5 (subE f g))) ∧ Below w.heap.size w w' := sub_calls _ _ _ _ _ _ _ _ _ _ w (five_of hf) (five_of hg)
theorem negE_c (g : Nat → Int) (w : World) (hg : Lm g) : Calls Tryd.prog 37 #[.agg (FR .u64 5 g)] w fun e w' => e = .returned (.agg (FR .u64 5 (negE g))) ∧ Below w.heap.size w w' := neg_calls _ _ _ _ _ w (five_of hg)
theorem Fe.add {f g : Nat → Int} {n m : Int} (hf : Fe f n) (hg : Fe g m) : Fe (addE f g) (n + m) := by
  refine ⟨carr_Lm _ (fun i hi => by have := hf.1.b i hi; have := hg.1.b i hi; omega), ?_⟩
  unfold addE
  rw [carr_mod]
  have e : V51 (fun i => f i + g i) = V51 f + V51 g := by unfold V51; dsimp only; omega
  rw [e]; exact mod_add hf.2 hg.2
theorem subM_V (f g : Nat → Int) : V51 (fun i => f i + (subM i - g i)) = V51 f - V51 g + PP * 4 := by
  unfold V51 PP
  simp only [subM]
  omega
theorem Fe.sub {f g : Nat → Int} {n m : Int} (hf : Fe f n) (hg : Fe g m) : Fe (subE f g) (n - m) := by
  refine ⟨carr_Lm _ (fun i hi => by have := hf.1.b i hi; have := hg.1.b i hi; unfold subM; split <;> omega), ?_⟩
  unfold subE
  rw [carr_mod, subM_V, Int.add_mul_emod_self_left]
  exact mod_sub hf.2 hg.2
theorem Fe.neg {g : Nat → Int} {m : Int} (hg : Fe g m) : Fe (negE g) (0 - m) := by
  refine ⟨carr_Lm _ (fun i hi => by have := hg.1.b i hi; unfold subM; split <;> omega), ?_⟩
  unfold negE
  rw [carr_mod, subM_V (fun _ => 0) g, Int.add_mul_emod_self_left]
  exact mod_sub (by decide) hg.2
theorem Fe.of (b : Nat → Int) (hb : By b) : Fe (carr (ofL b)) (N32 b) := ⟨of_Lm b hb, of_mod b hb⟩
theorem Fe.small (n : Int) (h : 0 ≤ n ∧ n < 4294967296) : Fe (smL n) n := ⟨smL_Lm n h, by rw [smL_V]⟩
theorem add64_run (x y c : Int) (hx : 0 ≤ x) (hy : 0 ≤ y) (hc0 : 0 ≤ c) (hc : c ≤ 1) (w : World) :
    (callFunc 55 #[.int .u64 x, .int .u64 y, .int .u64 c]).run Tryd.prog w = .ok (.value (.tuple #[.int .u64 ((x + y + c) % 18446744073709551616), .int .u64 ((x + y + c) / 18446744073709551616)])) w := by
  rw [run_callFunc_extern Tryd.func55 (by kernel_rfl) (by kernel_rfl) (by kernel_rfl) (e := add64Entry) (by kernel_rfl), run_add64 x y c hx hy hc0 hc]
  rfl
theorem mod32 (z : Int) : Go.bits .and .u64 (z % 18446744073709551616) 4294967295 = z % 18446744073709551616 % 4294967296 := by
  have h := and32 (z % 18446744073709551616).toNat (by omega)
  rw [Int.toNat_of_nonneg (by omega)] at h
  rw [h]; omega
theorem mul64_calls (x y : Nat) (hx : x < 18446744073709551616) (hy : y < 18446744073709551616) (w : World) :
    Calls Tryd.prog 65 #[.int .u64 (x : Int), .int .u64 (y : Int)] w fun e w' => e = .returned (.tuple #[.int .u64 ((x * y / 18446744073709551616 : Nat) : Int), .int .u64 ((x * y % 18446744073709551616 : Nat) : Int)]) ∧ w' = w := by
  obtain ⟨h1, h2, h3, h4⟩ := Lib.mul64_hi x y hx hy
  have a0 := and32 x hx
  have a1 := and32 y hy
  go_enter Tryd.func65, Tryd.ntmps65
  go_wp2_with fail
  go_ret2
  refine ⟨?_, rfl⟩
  show Ending.returned (Value.tuple #[_, _]) = _
  simp only [u64wm]
  have c1 : (x : Int) / 4294967296 * ((y : Int) / 4294967296) = ((x / 4294967296 * (y / 4294967296) : Nat) : Int) := by simp
  have c2 : (x : Int) / 4294967296 * ((y : Int) % 4294967296) = ((x / 4294967296 * (y % 4294967296) : Nat) : Int) := by simp
  have c3 : (x : Int) % 4294967296 * ((y : Int) / 4294967296) = ((x % 4294967296 * (y / 4294967296) : Nat) : Int) := by simp
  have c4 : (x : Int) % 4294967296 * ((y : Int) % 4294967296) = ((x % 4294967296 * (y % 4294967296) : Nat) : Int) := by simp
  have c5 : (x : Int) * (y : Int) = ((x * y : Nat) : Int) := by simp
  have hb : x * y / 18446744073709551616 < 18446744073709551616 := by
    rw [Nat.div_lt_iff_lt_mul (by omega)]
    exact Nat.mul_lt_mul_of_lt_of_lt hx hy
  rw [← h4] at hb
  rw [c1, c2, c3, c4, c5, ← h4]
  clear a0 a1 c1 c2 c3 c4 c5 h4
  generalize x / 4294967296 * (y / 4294967296) = A at *
  generalize x / 4294967296 * (y % 4294967296) = B at *
  generalize x % 4294967296 * (y / 4294967296) = C at *
  generalize x % 4294967296 * (y % 4294967296) = D at *
  rw [mod32]
  simp only [Array.getD_eq_getD_getElem?, List.getElem?_toArray, List.getElem?_cons_succ, List.getElem?_cons_zero, Option.getD_some, Ending.returned.injEq, Value.tuple.injEq, Array.mk.injEq, List.cons.injEq, Value.int.injEq, true_and, and_true]
  constructor
  · omega
  · omega
/-- The columns behind s steps. -/
def tN (f g : Nat → Int) : Nat → Nat → Int
  | 0 => fun _ => 0
  | s + 1 => upd (tN f g s) (s / 16 + s % 16) (tN f g s (s / 16 + s % 16) + f (s / 16) * g (s % 16))
theorem tN_succ (f g : Nat → Int) (s : Nat) : tN f g (s + 1) = upd (tN f g s) (s / 16 + s % 16) (tN f g s (s / 16 + s % 16) + f (s / 16) * g (s % 16)) := rfl
theorem tN_step (f g : Nat → Int) (i k : Nat) (hk : k < 16) : tN f g (16 * i + (k + 1)) = upd (tN f g (16 * i + k)) (i + k) (tN f g (16 * i + k) (i + k) + f i * g k) := by
  have e1 : (16 * i + k) / 16 = i := by omega
  have e2 : (16 * i + k) % 16 = k := by omega
  have h := tN_succ f g (16 * i + k)
  rw [e1, e2] at h
  exact h
theorem prod_b {x y : Int} (hx : -100000 ≤ x ∧ x ≤ 200000) (hy : -100000 ≤ y ∧ y ≤ 200000) : -40000000000 ≤ x * y ∧ x * y ≤ 40000000000 := by
  have h1 : x.natAbs ≤ 200000 := by omega
  have h2 : y.natAbs ≤ 200000 := by omega
  have h3 : x.natAbs * y.natAbs ≤ 200000 * 200000 := Nat.mul_le_mul h1 h2
  have h4 : (x * y).natAbs = x.natAbs * y.natAbs := Int.natAbs_mul x y
  omega
theorem tN_b (f g : Nat → Int) (hf : Rn f) (hg : Rn g) : ∀ s : Nat, s ≤ 256 → ∀ j, - ((s : Int) * 40000000000) ≤ tN f g s j ∧ tN f g s j ≤ (s : Int) * 40000000000
  | 0, _, j => by simp [tN]
  | s + 1, hs, j => by
    have ih := tN_b f g hf hg s (by omega)
    have hp := prod_b (hf.b (s / 16) (by omega)) (hg.b (s % 16) (by omega))
    have h1 := ih j
    have h2 := ih (s / 16 + s % 16)
    rw [tN_succ]
    unfold upd
    split
    · constructor <;> push_cast <;> omega
    · constructor <;> push_cast <;> omega
theorem tN_val (f g : Nat → Int) : ∀ i, i ≤ 16 → ∀ k, k ≤ 16 → val 65536 (tN f g (16 * i + k)) 31 = val 65536 f i * val 65536 g 16 + f i * 65536 ^ i * val 65536 g k ∨ (i = 16 ∧ 0 < k) := by
  have row : ∀ i, i < 16 → val 65536 (tN f g (16 * i)) 31 = val 65536 f i * val 65536 g 16 → ∀ k, k ≤ 16 → val 65536 (tN f g (16 * i + k)) 31 = val 65536 f i * val 65536 g 16 + f i * 65536 ^ i * val 65536 g k := by
    intro i hi h0 k
    induction k with
    | zero => intro _; show val 65536 (tN f g (16 * i)) 31 = _; rw [h0]; simp [val]
    | succ k ih =>
      intro hk
      rw [tN_step f g i k (by omega), val_upd 65536 _ _ _ 31 (by omega), ih (by omega), val_succ 65536 g k, Int.pow_add]
      grind
  have col : ∀ i, i ≤ 16 → val 65536 (tN f g (16 * i)) 31 = val 65536 f i * val 65536 g 16 := by
    intro i
    induction i with
    | zero => intro _; show val 65536 (fun _ => 0) 31 = _; simp [val]
    | succ i ih =>
      intro hi
      have h := row i (by omega) (ih (by omega)) 16 (by omega)
      rw [show 16 * (i + 1) = 16 * i + 16 by omega, h, val_succ 65536 f i]
      grind
  intro i hi k hk
  by_cases h : i = 16
  · subst h
    rcases Nat.eq_zero_or_pos k with h0 | h0
    · subst h0
      left
      rw [show 16 * 16 + 0 = 16 * 16 by omega, col 16 (by omega)]
      simp [val]
    · right; exact ⟨rfl, h0⟩
  · left; exact row i (by omega) (col i (by omega)) k hk
/-- What carries are taken of. -/
def outR (f g : Nat → Int) (i : Nat) : Int := if i < 15 then tN f g 256 i + 38 * tN f g 256 (i + 16) else tN f g 256 i
def mulR (f g : Nat → Int) : Nat → Int := carryN (carryN (outR f g) 16) 16
theorem outR_V (f g : Nat → Int) : V16 (outR f g) % PP = (V16 f * V16 g) % PP := by
  have h := tN_val f g 16 (by omega) 0 (by omega)
  have h1 : val 65536 (tN f g 256) 31 = V16 f * V16 g := by
    rcases h with h | h
    · have e : val 65536 (tN f g 256) 31 = val 65536 f 16 * val 65536 g 16 + f 16 * 65536 ^ 16 * val 65536 g 0 := h
      rw [e]; show V16 f * V16 g + f 16 * 65536 ^ 16 * 0 = _; omega
    · omega
  have h2 := val_split 65536 (tN f g 256) 16 15
  have e1 : V16 (outR f g) = val 65536 (tN f g 256) 16 + 38 * val 65536 (fun j => tN f g 256 (16 + j)) 15 := by
    rw [V16_eq]
    simp only [outR, val, Nat.reduceLT, Nat.reduceAdd, ↓reduceIte, if_true, if_false]
    omega
  rw [e1, ← h1, h2, QQ_pow, QQ_PP]
  generalize val 65536 (tN f g 256) 16 = x
  generalize val 65536 (fun j => tN f g 256 (16 + j)) 15 = y
  rw [show x + (2 * PP + 38) * y = (x + 38 * y) + PP * (2 * y) by grind, Int.add_mul_emod_self_left]
theorem outR_b (f g : Nat → Int) (hf : Rn f) (hg : Rn g) : CB (outR f g) := fun j hj => by
  have h1 := tN_b f g hf hg 256 (by omega) j
  have h2 := tN_b f g hf hg 256 (by omega) (j + 16)
  unfold outR
  split <;> omega
theorem Re.mul {f g : Nat → Int} {n m : Int} (hf : Re f n) (hg : Re g m) : Re (mulR f g) (n * m) := by
  have h1 := carry_CB1 _ (outR_b f g hf.1 hg.1)
  have h2 := V16_b1 _ h1
  refine ⟨carry_Rn _ (by unfold QQ at *; omega), ?_⟩
  unfold mulR
  rw [V16_carry_mod, V16_carry_mod, outR_V]
  exact mod_mul hf.2 hg.2
attribute [local go_sem] setCell_drewN
def URel (w : World) (f g : Nat → Int) (i : Nat) (v7 : Value) (wr : World) : Prop :=
  ∃ k : Nat, k ≤ 16 ∧ v7 = .int .i64 (k : Int) ∧ Below w.heap.size w wr ∧ Row wr w.heap.size .i64 16 f 34 ∧ Row wr (w.heap.size + 1) .i64 16 g 34 ∧ Row wr (w.heap.size + 1 + 1) .i64 16 (fun _ => 0) 34 ∧ Row wr (w.heap.size + 1 + 1 + 1) .i64 31 (tN f g (16 * i + k)) 91
def TRel (w : World) (f g : Nat → Int) (v6 : Value) (wr : World) : Prop :=
  ∃ i : Nat, i ≤ 16 ∧ v6 = .int .i64 (i : Int) ∧ Below w.heap.size w wr ∧ Row wr w.heap.size .i64 16 f 34 ∧ Row wr (w.heap.size + 1) .i64 16 g 34 ∧ Row wr (w.heap.size + 1 + 1) .i64 16 (fun _ => 0) 34 ∧ Row wr (w.heap.size + 1 + 1 + 1) .i64 31 (tN f g (16 * i)) 91
def XRel (w : World) (f g : Nat → Int) (v9 : Value) (bo : Nat) (wr : World) : Prop :=
  ∃ i : Nat, i ≤ 16 ∧ v9 = .int .i64 (i : Int) ∧ Below w.heap.size w wr ∧ Row wr (w.heap.size + 1 + 1) .i64 16 (fun _ => 0) 34 ∧ Row wr (w.heap.size + 1 + 1 + 1) .i64 31 (tN f g 256) 91 ∧ Row wr bo .i64 16 (fun j => if j < i then outR f g j else 0) 34
theorem ij_nat (i k : Nat) : ((i : Int) + (k : Int)).toNat = i + k := by omega
theorem mul_wraps (i k : Nat) (hi : i < 16) (hk : k < 16) : wrap64 ((i : Int) + (k : Int)) = (i : Int) + (k : Int) ∧ IntKind.i64.wrap ((i : Int) + (k : Int)) = (i : Int) + (k : Int) := ⟨w64 _ (by omega), i64w _ (by omega)⟩
theorem mul_vals (f g : Nat → Int) (hf : Rn f) (hg : Rn g) (i k s : Nat) (hi : i < 16) (hk : k < 16) (hs : s ≤ 256) (j : Nat) : wrap64 (f i * g k) = f i * g k ∧ IntKind.i64.wrap (f i * g k) = f i * g k ∧ wrap64 (tN f g s j + f i * g k) = tN f g s j + f i * g k ∧ IntKind.i64.wrap (tN f g s j + f i * g k) = tN f g s j + f i * g k := by
  have h1 := prod_b (hf.b i hi) (hg.b k hk)
  have h2 := tN_b f g hf hg s hs j
  generalize f i * g k = x at *
  generalize tN f g s j = y at *
  exact ⟨w64 _ (by omega), i64w _ (by omega), w64 _ (by omega), i64w _ (by omega)⟩
theorem out_wraps (x y : Int) (hx : -((256 : Nat) : Int) * 40000000000 ≤ x ∧ x ≤ ((256 : Nat) : Int) * 40000000000) (hy : -((256 : Nat) : Int) * 40000000000 ≤ y ∧ y ≤ ((256 : Nat) : Int) * 40000000000) : wrap64 (38 * y) = 38 * y ∧ IntKind.i64.wrap (38 * y) = 38 * y ∧ wrap64 (x + 38 * y) = x + 38 * y ∧ IntKind.i64.wrap (x + 38 * y) = x + 38 * y := ⟨w64 _ (by omega), i64w _ (by omega), w64 _ (by omega), i64w _ (by omega)⟩
theorem mulR_c (f g : Nat → Int) (w : World) (hf : Rn f) (hg : Rn g) :
    Calls Tryd.prog 41 #[.agg (FR .i64 16 f), .agg (FR .i64 16 g)] w fun e w' => e = .returned (.agg (FR .i64 16 (mulR f g))) ∧ Below w.heap.size w w' := by
  have HF := Aside0.mk hf
  have HG := Aside0.mk hg
  have HO := Aside0.mk (outR_b f g hf hg)
  clear hf hg
  go_enter Tryd.func41, Tryd.ntmps41
  go_wp2_with fail
  have HB0 := Aside0.mk (bel_four w (.cells (FR .i64 16 f) 34) (.cells (FR .i64 16 g) 34) (.cells (FR .i64 16 fun _ => 0) 34) (.cells (FR .i64 31 fun _ => 0) 91))
  have HR0 : Aside0 (Row ((((w.alloc (.cells (FR .i64 16 f) 34)).alloc (.cells (FR .i64 16 g) 34)).alloc (.cells (FR .i64 16 fun _ => 0) 34)).alloc (.cells (FR .i64 31 fun _ => 0) 91)) w.heap.size .i64 16 f 34) := ⟨(((Row.new w .i64 16 f 34).alloc _).alloc _).alloc _⟩
  have HR1 : Aside0 (Row ((((w.alloc (.cells (FR .i64 16 f) 34)).alloc (.cells (FR .i64 16 g) 34)).alloc (.cells (FR .i64 16 fun _ => 0) 34)).alloc (.cells (FR .i64 31 fun _ => 0) 91)) (w.heap.size + 1) .i64 16 g 34) := ⟨Row.alloc (Row.alloc (show Row ((w.alloc (.cells (FR .i64 16 f) 34)).alloc (.cells (FR .i64 16 g) 34)) (w.heap.size + 1) .i64 16 g 34 from heap_alloc2_new w _ _) _) _⟩
  have HR2 : Aside0 (Row ((((w.alloc (.cells (FR .i64 16 f) 34)).alloc (.cells (FR .i64 16 g) 34)).alloc (.cells (FR .i64 16 fun _ => 0) 34)).alloc (.cells (FR .i64 31 fun _ => 0) 91)) (w.heap.size + 1 + 1) .i64 16 (fun _ => 0) 34) := ⟨Row.alloc (show Row (((w.alloc (.cells (FR .i64 16 f) 34)).alloc (.cells (FR .i64 16 g) 34)).alloc (.cells (FR .i64 16 fun _ => 0) 34)) (w.heap.size + 1 + 1) .i64 16 (fun _ => 0) 34 from three_new w _ _ _) _⟩
  have HR3 : Aside0 (Row ((((w.alloc (.cells (FR .i64 16 f) 34)).alloc (.cells (FR .i64 16 g) 34)).alloc (.cells (FR .i64 16 fun _ => 0) 34)).alloc (.cells (FR .i64 31 fun _ => 0) 91)) (w.heap.size + 1 + 1 + 1) .i64 31 (fun _ => 0) 91) := ⟨four_new w _ _ _ _⟩
  go_loopw [6] (fun v6 wr => TRel w f g v6 wr) (fun v _ => 16 - (intOf v).toNat)
  case atStart => exact ⟨0, by omega, rfl, HB0.out, HR0.out, HR1.out, HR2.out, row_eq HR3.out (fun j _ => by rw [Nat.mul_zero]; rfl)⟩
  case round =>
    clear HB0 HR0 HR1 HR2 HR3
    obtain ⟨i, hi, rfl, hb, hr, hg, hz, ht⟩ := hrel
    have HB := Aside0.mk hb
    have HR := Aside0.mk hr
    have HR2 := Aside0.mk hg
    have HZ := Aside0.mk hz
    have HT := Aside0.mk ht
    have hl1 := hr.lt
    have hl2 := hg.lt
    have hl3 := hz.lt
    have hl4 := ht.lt
    clear hb hr hg hz ht
    rcases Nat.lt_or_ge i 16 with h16 | h16
    · have hlt : ((i : Int) < 16) = True := eq_true (by omega)
      go_wp2_with fail
      go_loopw [7] (fun v7 wr => URel w f g i v7 wr) (fun v _ => 16 - (intOf v).toNat)
      case atStart => exact ⟨0, by omega, rfl, HB.out, HR.out, HR2.out, HZ.out, HT.out⟩
      case round =>
        clear HB HR HR2 HZ HT
        obtain ⟨k, hk, rfl, hb, hr, hg, hz, ht⟩ := hrel
        have HB := Aside0.mk hb
        have HR := Aside0.mk hr
        have HR2 := Aside0.mk hg
        have HZ := Aside0.mk hz
        have HT := Aside0.mk ht
        rcases Nat.lt_or_ge k 16 with h17 | h17
        · have hltk : ((k : Int) < 16) = True := eq_true (by omega)
          have hlt31 : ((i : Int) + (k : Int) < 31) = True := eq_true (by omega)
          have hij := ij_nat i k
          obtain ⟨q1, q2⟩ := mul_wraps i k h16 h17
          obtain ⟨q3, q4, q5, q6⟩ := mul_vals f g HF.out HG.out i k (16 * i + k) h16 h17 (by omega) (i + k)
          have k0 := hr.cell i (by omega)
          have k1 := hg.cell k (by omega)
          have k2 := ht.cell (i + k) (by omega)
          have f2 := ht.fro (i + k)
          have HS := Aside0.mk (ht.set (i + k) (tN f g (16 * i + k) (i + k) + f i * g k) (by omega))
          have HE := Aside0.mk (tN_step f g i k h17)
          clear hb hr hg hz ht
          go_wp2_with fail
          go_region
          all_goals go_wp2_with fail
          refine ⟨⟨k + 1, by omega, rfl, (bel_set HB.out ⟨w.heap.size + 1 + 1 + 1, i + k, none⟩ _ (by simp; omega)).drew, HR.out.other ⟨w.heap.size + 1 + 1 + 1, i + k, none⟩ _ (by simp; omega), HR2.out.other ⟨w.heap.size + 1 + 1 + 1, i + k, none⟩ _ (by simp), HZ.out.other ⟨w.heap.size + 1 + 1 + 1, i + k, none⟩ _ (by simp), ?_⟩, meas_up 16 k (by omega)⟩
          rw [HE.out]
          exact HS.out
        · obtain rfl : k = 16 := by omega
          clear hb hr hg hz ht
          go_wp2_with fail
          exact ⟨⟨i + 1, by omega, rfl, HB.out, HR.out, HR2.out, HZ.out, HT.out⟩, meas_up 16 i (by omega)⟩
    · obtain rfl : i = 16 := by omega
      clear HR HR2
      have HN := Aside0.mk (Row.new wr .i64 16 (fun _ => 0) 34)
      have HZ2 := Aside0.mk (HZ.out.alloc (.cells (FR .i64 16 fun _ => 0) 34))
      have HT2 := Aside0.mk (HT.out.alloc (.cells (FR .i64 16 fun _ => 0) 34))
      have HB2 := Aside0.mk (HB.out.alloc (by omega) (.cells (FR .i64 16 fun _ => 0) 34))
      go_wp2_with fail
      have hbo : w.heap.size + 1 + 1 + 1 < wr.heap.size := hl4
      generalize wr.heap.size = bo at *
      go_loopw [9] (fun v9 wr' => XRel w f g v9 bo wr') (fun v _ => 16 - (intOf v).toNat)
      case atStart => exact ⟨0, by omega, rfl, HB2.out, HZ2.out, HT2.out, row_eq HN.out (fun j hj => (if_neg (by omega)).symm)⟩
      case round =>
        clear HN HZ2 HT2 HB2 HB HZ HT
        obtain ⟨i, hi, rfl, hb, hz, ht, ho⟩ := hrel
        have HB := Aside0.mk hb
        have HZ := Aside0.mk hz
        have HT := Aside0.mk ht
        have HO2 := Aside0.mk ho
        rcases Nat.lt_or_ge i 16 with h16 | h16
        · have hlt : ((i : Int) < 16) = True := eq_true (by omega)
          have hlt31 : ((i : Int) < 31) = True := eq_true (by omega)
          have k0 := ht.cell i (by omega)
          have f0 := ho.fro i
          have k2 := ho.cell i (by omega)
          have HS := Aside0.mk (ho.set i (tN f g 256 i) (by omega))
          have hs1 := ho.set i (tN f g 256 i) (by omega)
          have hb1 := tN_b f g HF.out HG.out 256 (by omega) i
          have hb2 := tN_b f g HF.out HG.out 256 (by omega) (i + 16)
          rcases Nat.lt_or_ge i 15 with h15 | h15
          · have hlt15 : ((i : Int) < 15) = True := eq_true (by omega)
            have hlt3 : ((i : Int) + 16 < 31) = True := eq_true (by omega)
            have k1 := ht.cell (i + 16) (by omega)
            have HE : Aside0 (outR f g i = tN f g 256 i + 38 * tN f g 256 (i + 16)) := ⟨if_pos h15⟩
            generalize tN f g 256 i = x at *
            generalize tN f g 256 (i + 16) = y at *
            have q1 : wrap64 ((i : Int) + 16) = (i : Int) + 16 := w64 _ (by omega)
            have q2 : IntKind.i64.wrap ((i : Int) + 16) = (i : Int) + 16 := i64w _ (by omega)
            have q3 : ((i : Int) + 16).toNat = i + 16 := by omega
            obtain ⟨r1, r2, r3, r4⟩ := out_wraps x y (by omega) (by omega)
            have HS2 := Aside0.mk (hs1.set i (x + 38 * y) (by omega))
            clear hb hz ht ho hs1 hb1 hb2
            go_wp2_with fail
            go_region
            all_goals go_wp2_with fail
            refine ⟨⟨i + 1, by omega, rfl, ?_, ?_, ?_, ?_⟩, meas_up 16 i (by omega)⟩
            · exact (bel_set (bel_set HB.out ⟨bo, i, none⟩ _ (by simp; omega)) ⟨bo, i, none⟩ _ (by simp; omega)).drew
            · exact (HZ.out.other ⟨bo, i, none⟩ _ (by simp; omega)).other ⟨bo, i, none⟩ _ (by simp; omega)
            · exact (HT.out.other ⟨bo, i, none⟩ _ (by simp; omega)).other ⟨bo, i, none⟩ _ (by simp; omega)
            · exact row_eq HS2.out (fun j hj => by
                unfold upd
                by_cases hji : j = i
                · subst hji; rw [if_pos rfl, if_pos (by omega), HE.out]
                · rw [if_neg hji, if_neg hji]
                  show (if j < i then outR f g j else 0) = _
                  by_cases hjl : j < i
                  · rw [if_pos hjl, if_pos (by omega)]
                  · rw [if_neg hjl, if_neg (by omega)])
          · obtain rfl : i = 15 := by omega
            have HE : Aside0 (outR f g 15 = tN f g 256 15) := ⟨if_neg (by omega)⟩
            generalize tN f g 256 15 = x at *
            clear hb hz ht ho hs1 hb1 hb2
            go_wp2_with fail
            refine ⟨⟨16, by omega, rfl, ?_, ?_, ?_, ?_⟩, by decide⟩
            · exact bel_set HB.out ⟨bo, 15, none⟩ _ (by simp; omega)
            · exact HZ.out.other ⟨bo, 15, none⟩ _ (by simp; omega)
            · exact HT.out.other ⟨bo, 15, none⟩ _ (by simp; omega)
            · exact row_eq HS.out (fun j hj => by
                unfold upd
                by_cases hji : j = 15
                · subst hji; rw [if_pos rfl, if_pos (by omega), HE.out]
                · rw [if_neg hji]
                  show (if j < 15 then outR f g j else 0) = _
                  by_cases hjl : j < 15
                  · rw [if_pos hjl, if_pos (by omega)]
                  · omega)
        · obtain rfl : i = 16 := by omega
          have HO3 := Aside0.mk (row_eq HO2.out (f' := outR f g) (fun j hj => if_pos hj))
          have hlz := hz.lt
          clear hb hz ht ho HO2
          go_wp2_with (refine step_load HO3.out Tryd.underlying34 info33 rfl rfl rfl rfl ?_)
          refine (carry_calls _ _ HO.out).mono ?_
          rintro e w1 ⟨rfl, hb⟩
          have HZ1 := Aside0.mk (HZ.out.below hb hlz)
          have HB1 := Aside0.mk (HB.out.trans (hb.mono HB.out.size))
          clear hb
          go_wp2_with fail
          refine (carry_calls _ _ (carry_CB1 _ HO.out).cb).mono ?_
          rintro e w2 ⟨rfl, hb⟩
          have HZ2 := Aside0.mk (HZ1.out.below hb HZ1.out.lt)
          have HB2 := Aside0.mk (HB1.out.trans (hb.mono HB1.out.size))
          clear hb
          go_wp2_with (refine step_storeG _ HZ2.out info33 rfl rfl rfl rfl rfl ?_; intro w9 hs hr; have HS9 := Aside0.mk hs; have HR9 := Aside0.mk hr; clear hs hr)
          refine bodyPost_ret (row_results rfl HR9.out rfl Tryd.underlying34 rfl info33) rfl ?_
          exact ⟨rfl, HS9.out.bel _ _ (by omega) HB2.out⟩
attribute [local go_sem] setCell_drewN
/-- A number of 128 bits in two words. -/
def wd (W : Int) (i : Nat) : Int := if i = 0 then W / 18446744073709551616 else W % 18446744073709551616
theorem info62 : (Tryd.prog.info? 84).map (·.size) = some 2 := by kernel_rfl
theorem plus_calls (W : Int) (x y : Nat) (w : World) (hx : x < 18446744073709551616) (hy : y < 18446744073709551616) (hW : 0 ≤ W) (hs : W + (x : Int) * (y : Int) < 340282366920938463463374607431768211456) :
    Calls Tryd.prog 54 #[.agg (FR .u64 2 (wd W)), .int .u64 (x : Int), .int .u64 (y : Int)] w fun e w' => e = .returned (.agg (FR .u64 2 (wd (W + (x : Int) * (y : Int))))) ∧ Below w.heap.size w w' := by
  have HM := Aside0.mk (fun w => mul64_calls x y hx hy w)
  obtain ⟨H, hH⟩ : ∃ H, x * y / 18446744073709551616 = H := ⟨_, rfl⟩
  obtain ⟨L, hL⟩ : ∃ L, x * y % 18446744073709551616 = L := ⟨_, rfl⟩
  have hxy : (x : Int) * (y : Int) = ((x * y : Nat) : Int) := by simp
  rw [hxy] at hs ⊢
  rw [hH, hL] at HM
  have hsum : x * y = H * 18446744073709551616 + L := by omega
  have hLb : L < 18446744073709551616 := by omega
  rw [hsum] at hs ⊢
  clear hH hL hxy hsum
  have hw0 : wd W 0 = W / 18446744073709551616 := rfl
  have hw1 : wd W 1 = W % 18446744073709551616 := rfl
  have b0 : 0 ≤ wd W 0 ∧ wd W 0 < 18446744073709551616 := by omega
  have b1 : 0 ≤ wd W 1 ∧ wd W 1 < 18446744073709551616 := by omega
  have c1 := add64_run (wd W 1) (L : Int) 0 b1.1 (by omega) (by omega) (by omega)
  have c2 := add64_run (wd W 0) (H : Int) ((wd W 1 + (L : Int)) / 18446744073709551616) b0.1 (by omega) (by omega) (by omega)
  have HV : Aside0 (∀ i, i < 2 → (if i = 0 then (wd W 0 + (H : Int) + (wd W 1 + (L : Int)) / 18446744073709551616) % 18446744073709551616 else (wd W 1 + (L : Int)) % 18446744073709551616) = wd (W + ((H * 18446744073709551616 + L : Nat) : Int)) i) := ⟨fun i hi => by
    unfold wd
    split
    · subst_vars; rw [if_pos rfl, if_neg (by omega)]; omega
    · rw [if_neg (by omega)]; omega⟩
  have HR0 := Row.new w .u64 2 (wd W) 84
  have k0 := fun o => (HR0.alloc o).cell 0 (by omega)
  have k1 := fun o => (HR0.alloc o).cell 1 (by omega)
  clear hW hs b0 b1 hw0 hw1 HR0
  go_enter Tryd.func54, Tryd.ntmps54
  go_wp2_with fail
  refine (HM.out _).mono ?_
  rintro e w1 ⟨rfl, rfl⟩
  go_wp2_with fail
  have e : (#[.int .u64 ((wd W 0 + (H : Int) + (wd W 1 + (L : Int)) / 18446744073709551616) % 18446744073709551616), .int .u64 ((wd W 1 + (L : Int)) % 18446744073709551616)] : Array Value) = FR .u64 2 (wd (W + ((H * 18446744073709551616 + L : Nat) : Int))) := by
    rw [← FR_congr .u64 2 _ _ HV.out]; rfl
  rw [e]
  refine bodyPost_ret (row_results rfl (heap_alloc2_new _ _ _) rfl Tryd.underlying84 rfl info62) rfl ?_
  exact ⟨rfl, bel_two _ _ _⟩
/-- The factor that a column's product has. -/
def xk (f : Nat → Int) (i k : Nat) : Int := if 5 ≤ i + k then f i * 19 else f i
/-- The columns behind s steps. -/
def sN (f g : Nat → Int) : Nat → Nat → Int
  | 0 => fun _ => 0
  | s + 1 => upd (sN f g s) ((s / 5 + s % 5) % 5) (sN f g s ((s / 5 + s % 5) % 5) + xk f (s / 5) (s % 5) * g (s % 5))
theorem sN_succ (f g : Nat → Int) (s : Nat) : sN f g (s + 1) = upd (sN f g s) ((s / 5 + s % 5) % 5) (sN f g s ((s / 5 + s % 5) % 5) + xk f (s / 5) (s % 5) * g (s % 5)) := rfl
theorem sN_step (f g : Nat → Int) (i k : Nat) (hk : k < 5) : sN f g (5 * i + (k + 1)) = upd (sN f g (5 * i + k)) ((i + k) % 5) (sN f g (5 * i + k) ((i + k) % 5) + xk f i k * g k) := by
  have e1 : (5 * i + k) / 5 = i := by omega
  have e2 : (5 * i + k) % 5 = k := by omega
  have h := sN_succ f g (5 * i + k)
  rw [e1, e2] at h
  exact h
theorem xk_b {f : Nat → Int} (hf : Lm f) (i k : Nat) (hi : i < 5) : 0 ≤ xk f i k ∧ xk f i k ≤ 85568392920039424 := by
  have h := hf.b i hi
  unfold xk
  split <;> omega
theorem xprod_b {x y : Int} (hx : 0 ≤ x ∧ x ≤ 85568392920039424) (hy : 0 ≤ y ∧ y < 4503599627370496) : 0 ≤ x * y ∧ x * y ≤ 385365782469703125063557837455360 := by
  have h0 : 0 ≤ x * y := Int.mul_nonneg hx.1 hy.1
  have h1 : x * y ≤ 85568392920039424 * 4503599627370496 := Int.mul_le_mul hx.2 (by omega) hy.1 (by omega)
  omega
theorem sN_b (f g : Nat → Int) (hf : Lm f) (hg : Lm g) : ∀ s : Nat, s ≤ 25 → ∀ j, 0 ≤ sN f g s j ∧ sN f g s j ≤ (s : Int) * 385365782469703125063557837455360
  | 0, _, j => by simp [sN]
  | s + 1, hs, j => by
    have ih := sN_b f g hf hg s (by omega)
    have hp := xprod_b (xk_b hf (s / 5) (s % 5) (by omega)) (hg.b (s % 5) (by omega))
    have h1 := ih j
    have h2 := ih ((s / 5 + s % 5) % 5)
    rw [sN_succ]
    unfold upd
    split
    · constructor <;> push_cast <;> omega
    · constructor <;> push_cast <;> omega
theorem pow5 : (2251799813685248 : Int) ^ 5 = PP + 19 := by decide
theorem wrap_pow (x : Int) (n : Nat) : (x * 19 * 2251799813685248 ^ n) % PP = (x * 2251799813685248 ^ (n + 5)) % PP := by
  rw [Int.pow_add, pow5, show x * (2251799813685248 ^ n * (PP + 19)) = x * 19 * 2251799813685248 ^ n + PP * (x * 2251799813685248 ^ n) by grind, Int.add_mul_emod_self_left]
theorem xk_pow (f g : Nat → Int) (i k : Nat) (hi : i < 5) (hk : k < 5) : (xk f i k * g k * 2251799813685248 ^ ((i + k) % 5)) % PP = (f i * g k * 2251799813685248 ^ (i + k)) % PP := by
  unfold xk
  split
  · rename_i h
    obtain ⟨n, hn⟩ : ∃ n, i + k = n + 5 := ⟨i + k - 5, by omega⟩
    rw [show (i + k) % 5 = n by omega, hn, ← wrap_pow]
    congr 1; grind
  · rw [show (i + k) % 5 = i + k by omega]
theorem sN_val (f g : Nat → Int) : val 2251799813685248 (sN f g 25) 5 % PP = (V51 f * V51 g) % PP := by
  have row : ∀ i, i < 5 → val 2251799813685248 (sN f g (5 * i)) 5 % PP = (val 2251799813685248 f i * val 2251799813685248 g 5) % PP → ∀ k, k ≤ 5 → val 2251799813685248 (sN f g (5 * i + k)) 5 % PP = (val 2251799813685248 f i * val 2251799813685248 g 5 + f i * 2251799813685248 ^ i * val 2251799813685248 g k) % PP := by
    intro i hi h0 k
    induction k with
    | zero => intro _; show val 2251799813685248 (sN f g (5 * i)) 5 % PP = _; rw [h0]; simp [val]
    | succ k ih =>
      intro hk
      rw [sN_step f g i k (by omega), val_upd 2251799813685248 _ _ _ 5 (by omega), val_succ 2251799813685248 g k]
      rw [mod_add (ih (by omega)) (xk_pow f g i k hi (by omega)), Int.pow_add]
      congr 1; grind
  have col : ∀ i, i ≤ 5 → val 2251799813685248 (sN f g (5 * i)) 5 % PP = (val 2251799813685248 f i * val 2251799813685248 g 5) % PP := by
    intro i
    induction i with
    | zero => intro _; show val 2251799813685248 (fun _ => 0) 5 % PP = _; simp [val]
    | succ i ih =>
      intro hi
      have h := row i (by omega) (ih (by omega)) 5 (by omega)
      rw [show 5 * (i + 1) = 5 * i + 5 by omega, h, val_succ 2251799813685248 f i]
      congr 1; grind
  have h := col 5 (by omega)
  rw [V51_val, V51_val]
  exact h
/-- The columns' carries. -/
def mc (f g : Nat → Int) (i : Nat) : Int := cy 2251799813685248 (sN f g 25) i
def mulL (f g : Nat → Int) (i : Nat) : Int := (sN f g 25 i + mc f g i) % 2251799813685248
def mulE (f g : Nat → Int) : Nat → Int := carr (upd (mulL f g) 0 (mulL f g 0 + 19 * mc f g 5))
theorem mc_succ (f g : Nat → Int) (i : Nat) : mc f g (i + 1) = (sN f g 25 i + mc f g i) / 2251799813685248 := rfl
theorem mc_b (f g : Nat → Int) (hf : Lm f) (hg : Lm g) : ∀ i, i ≤ 5 → 0 ≤ mc f g i ∧ mc f g i ≤ 9223372036854775808
  | 0, _ => by simp [mc, cy]
  | i + 1, hi => by
    have ih := mc_b f g hf hg i (by omega)
    have h := sN_b f g hf hg 25 (by omega) i
    rw [mc_succ]
    omega
theorem pb {x y : Int} (hx : 0 ≤ x ∧ x < 4503599627370496) (hy : 0 ≤ y ∧ y < 4503599627370496) : 0 ≤ x * y ∧ x * y ≤ 20282409603651670423947251286016 := by
  have h0 : 0 ≤ x * y := Int.mul_nonneg hx.1 hy.1
  have h1 : x * y ≤ 4503599627370496 * 4503599627370496 := Int.mul_le_mul (by omega) (by omega) hy.1 (by omega)
  omega
theorem sN_four (f g : Nat → Int) : sN f g 25 4 = f 0 * g 4 + f 1 * g 3 + f 2 * g 2 + f 3 * g 1 + f 4 * g 0 := by
  simp [sN, upd, xk]
theorem mc_five (f g : Nat → Int) (hf : Lm f) (hg : Lm g) : 0 ≤ mc f g 5 ∧ mc f g 5 ≤ 144115188075855872 := by
  have h4 := mc_b f g hf hg 4 (by omega)
  have e : mc f g 5 = (sN f g 25 4 + mc f g 4) / 2251799813685248 := rfl
  have p0 := pb (hf.b 0 (by omega)) (hg.b 4 (by omega))
  have p1 := pb (hf.b 1 (by omega)) (hg.b 3 (by omega))
  have p2 := pb (hf.b 2 (by omega)) (hg.b 2 (by omega))
  have p3 := pb (hf.b 3 (by omega)) (hg.b 1 (by omega))
  have p4 := pb (hf.b 4 (by omega)) (hg.b 0 (by omega))
  rw [e, sN_four]
  omega
theorem mulL_b (f g : Nat → Int) (i : Nat) : 0 ≤ mulL f g i ∧ mulL f g i < 2251799813685248 := by unfold mulL; omega
theorem mulS_b (f g : Nat → Int) (hf : Lm f) (hg : Lm g) : ∀ i, i < 5 → 0 ≤ upd (mulL f g) 0 (mulL f g 0 + 19 * mc f g 5) i ∧ upd (mulL f g) 0 (mulL f g 0 + 19 * mc f g 5) i ≤ 9223372036854775808 := by
  intro i hi
  have h5 := mc_five f g hf hg
  have h0 := mulL_b f g 0
  have h1 := mulL_b f g i
  unfold upd
  split <;> omega
theorem Fe.mul {f g : Nat → Int} {n m : Int} (hf : Fe f n) (hg : Fe g m) : Fe (mulE f g) (n * m) := by
  refine ⟨carr_Lm _ (mulS_b f g hf.1 hg.1), ?_⟩
  unfold mulE
  rw [carr_mod, V51_val, val_upd0]
  have h1 := cy_val 2251799813685248 (by omega) (sN f g 25) 5
  have h2 : val 2251799813685248 (mulL f g) 5 + mc f g 5 * 2251799813685248 ^ 5 = val 2251799813685248 (sN f g 25) 5 := h1
  have e : val 2251799813685248 (mulL f g) (4 + 1) = val 2251799813685248 (mulL f g) 5 := rfl
  rw [e]
  have h3 : val 2251799813685248 (mulL f g) 5 + (mulL f g 0 + 19 * mc f g 5 - mulL f g 0) = val 2251799813685248 (sN f g 25) 5 + PP * (- mc f g 5) := by
    rw [← h2, pow5]; grind
  rw [h3, Int.add_mul_emod_self_left, sN_val]
  exact mod_mul hf.2 hg.2
attribute [local go_sem] setCell_drewN
theorem tab2611 : rtab .any (opsOf Tryd.f29 11) = (true, [([], []), ([], []), ([0, 1], [0, 1]), ([2], [2]), ([], []), ([], []), ([4, 5], [4, 5]), ([6], [6]), ([7], [7]), ([8], [8]), ([], []), ([], []), ([], []), ([12, 11], [11, 12]), ([13], [13]), ([9, 10, 14], [9, 10, 14]), ([3, 0, 1, 2, 3, 4, 5, 6, 7, 8, 9, 10, 11, 12, 13, 14, 15], [3]), ([16, 15, 15, 0, 1, 2, 3, 4, 5, 6, 7, 8, 9, 10, 11, 12, 13, 14, 15], [15, 16])]) := by kernel_rfl
theorem bits2611 : waitsOk [([], []), ([], []), ([0, 1], [0, 1]), ([2], [2]), ([], []), ([], []), ([4, 5], [4, 5]), ([6], [6]), ([7], [7]), ([8], [8]), ([], []), ([], []), ([], []), ([12, 11], [11, 12]), ([13], [13]), ([9, 10, 14], [9, 10, 14]), ([3, 0, 1, 2, 3, 4, 5, 6, 7, 8, 9, 10, 11, 12, 13, 14, 15], [3]), ([16, 15, 15, 0, 1, 2, 3, 4, 5, 6, 7, 8, 9, 10, 11, 12, 13, 14, 15], [15, 16])] [0, 0, 3, 7, 0, 0, 48, 112, 240, 496, 0, 0, 0, 6144, 14336, 32752, 65535, 131071] = true := by kernel_rfl
/-- Five numbers of 128 bits in ten words. -/
def sw (s : Nat → Int) (j : Nat) : Int := wd (s (j / 2)) (j % 2)
/-- Two words of the ten, read. -/
theorem exec_load2 {o : Oper} {ev : Operand → Value} {w : World} {x : Operand} {g off j : Nat} {s : Nat → Int} {t : TypeId} (hr : Row w g .u64 10 (sw s) t) (hj : j < 5) (hoff : off = 2 * j) (ho : o.op = .load 84 x) (hx : ev x = .pointer (some ⟨g, off, none⟩)) :
    (execOp ev o).run Tryd.prog w = .ok (.value (.agg (FR .u64 2 (wd (s j))))) w := by
  subst hoff
  have hl : (loadCells ⟨g, 2 * j, none⟩ 2).run Tryd.prog w = .ok ([.int .u64 (wd (s j) 0), .int .u64 (wd (s j) 1)] : List Value).toArray w :=
    run_loadCells_list (P := Tryd.prog) w ⟨g, 2 * j, none⟩ [.int .u64 (wd (s j) 0), .int .u64 (wd (s j) 1)] (fun k v hv => by
      have hadd : (⟨g, 2 * j, none⟩ : Addr).add k = ⟨g, 2 * j + k, none⟩ := by unfold Addr.add; split <;> simp_all
      rw [hadd]
      have hk : k = 0 ∨ k = 1 := by
        rcases Nat.lt_or_ge k 2 with h | h
        · omega
        · rw [List.getElem?_eq_none (by simp; omega)] at hv; cases hv
      rcases hk with rfl | rfl
      · rw [hr.cell (2 * j + 0) (by omega), ← hv]
        simp [sw, Nat.mul_div_cancel_left]
      · rw [hr.cell (2 * j + 1) (by omega), ← hv]
        have e1 : (2 * j + 1) / 2 = j := by omega
        have e2 : (2 * j + 1) % 2 = 1 := by omega
        simp [sw, e1, e2])
  have ha : (isAgg 84).run Tryd.prog w = .ok true w := by simp [isAgg, run_underlying Tryd.underlying84]
  obtain ⟨ie, hie, hs⟩ : ∃ ie, Tryd.prog.info? 84 = some ie ∧ ie.size = 2 := by
    have h := info62
    cases he : Tryd.prog.info? 84 with
    | none => rw [he] at h; cases h
    | some ie => rw [he] at h; exact ⟨ie, rfl, Option.some.inj h⟩
  have hti : (typeInfo 84).run Tryd.prog w = .ok ie w := by simp [typeInfo, hie]
  unfold execOp
  simp only [ho, hx, Instr.loadAt, Instr.sureAddr, Sem.run_bind, Sem.run_pure, Result.andThen_ok, loadVar, ha, sizeOf, hti, hs, hl, if_true]
  rfl
theorem sw_upd (s : Nat → Int) (j : Nat) (V : Int) (i : Nat) : upd (upd (sw s) (2 * j) (wd V 0)) (2 * j + 1) (wd V 1) i = sw (upd s j V) i := by
  unfold upd sw
  by_cases h1 : i = 2 * j + 1
  · subst h1
    rw [if_pos rfl, show (2 * j + 1) / 2 = j by omega, show (2 * j + 1) % 2 = 1 by omega]
    simp [upd]
  · rw [if_neg h1]
    by_cases h2 : i = 2 * j
    · subst h2
      rw [if_pos rfl, show (2 * j) / 2 = j by omega, show (2 * j) % 2 = 0 by omega]
      simp [upd]
    · rw [if_neg h2]
      have : i / 2 ≠ j := by omega
      simp [upd, this]
/-- Two words of the ten, stored. -/
theorem oper_store2 {o : Oper} {ops : Array Oper} {a : Act} {w : World} {K : Act → World → Prop} {Q : Exit → Act → World → Prop} {x y : Operand} {g off j : Nat} {s : Nat → Int} {t : TypeId} (V : Int)
    (hr : Row w g .u64 10 (sw s) t) (hj : j < 5) (hoff : off = 2 * j) (hw : Region.wanted o (yielded ops a.tmps) = true) (hdst : o.dst = none) (ho : o.op = .store 84 x y) (hx : a.eval x = .pointer (some ⟨g, off, none⟩)) (hy : a.eval y = .agg (FR .u64 2 (wd V)))
    (h : ∀ w', Stored w w' g → Row w' g .u64 10 (sw (upd s j V)) t → K a w') : if Region.wanted o (yielded ops a.tmps) = true then Oper.wp Tryd.prog o a w K Q else K (a.put none undef) w := by
  subst hoff
  rw [if_pos hw]
  have hst := run_storeCells_cells (P := Tryd.prog) g (2 * j) [.int .u64 (wd V 0), .int .u64 (wd V 1)] 0 w
    (fun k hk => by
      have hk2 : k < 2 := hk
      rw [hr.cell (2 * j + 0 + k) (by omega)]; rfl)
    (fun k hk => hr.fro _)
    (fun v hv => by simp at hv; rcases hv with rfl | rfl <;> rfl)
  obtain ⟨ie, hie, hs⟩ : ∃ ie, Tryd.prog.info? 84 = some ie ∧ ie.size = 2 := by
    have h := info62
    cases he : Tryd.prog.info? 84 with
    | none => rw [he] at h; cases h
    | some ie => rw [he] at h; exact ⟨ie, rfl, Option.some.inj h⟩
  have hti : (typeInfo 84).run Tryd.prog w = .ok ie w := by simp [typeInfo, hie]
  have hsv : (storeVar 84 ⟨g, 2 * j, none⟩ (.agg (FR .u64 2 (wd V)))).run Tryd.prog w = .ok () (w.setCells g (2 * j + 0) [.int .u64 (wd V 0), .int .u64 (wd V 1)]) := by
    show (storeVar 84 ⟨g, 2 * j, none⟩ (.agg #[.int .u64 (wd V 0), .int .u64 (wd V 1)])).run Tryd.prog w = _
    simp [storeVar, Value.cells, sizeOf, hti, hs, Result.andThen]
    simpa using hst
  unfold Oper.wp execOp
  simp only [ho, hx, hy, Instr.storeAt, Instr.sureAddr, Sem.run_bind, Sem.run_pure, Result.andThen_ok, hsv]
  have hrow : Row (w.setCells g (2 * j + 0) [.int .u64 (wd V 0), .int .u64 (wd V 1)]) g .u64 10 (sw (upd s j V)) t :=
    row_eq ((hr.set (2 * j) (wd V 0) (by omega)).set (2 * j + 1) (wd V 1) (by omega)) (fun i hi => sw_upd s j V i)
  have := h _ ⟨fun k hk => setCells_other hk _ _ _, setCells_size g _ _ _, fun B W hB hb => bel_setCells hB _ _ _ hb⟩ hrow
  show K (a.put o.dst undef) _
  rw [hdst]
  exact this
theorem plus_c (W x y : Int) (w : World) (hx : 0 ≤ x ∧ x < 18446744073709551616) (hy : 0 ≤ y ∧ y < 18446744073709551616) (hW : 0 ≤ W) (hs : W + x * y < 340282366920938463463374607431768211456) :
    Calls Tryd.prog 54 #[.agg (FR .u64 2 (wd W)), .int .u64 x, .int .u64 y] w fun e w' => e = .returned (.agg (FR .u64 2 (wd (W + x * y)))) ∧ Below w.heap.size w w' := by
  obtain ⟨X, rfl⟩ := Int.eq_ofNat_of_zero_le hx.1
  obtain ⟨Y, rfl⟩ := Int.eq_ofNat_of_zero_le hy.1
  exact plus_calls W X Y w (by omega) (by omega) hW hs
def SRel2 (w : World) (f g : Nat → Int) (i : Nat) (v19 : Value) (wr : World) : Prop :=
  ∃ k : Nat, k ≤ 5 ∧ v19 = .int .i64 (k : Int) ∧ Below w.heap.size w wr ∧ Row wr w.heap.size .u64 5 f 26 ∧ Row wr (w.heap.size + 1) .u64 5 g 26 ∧ Row wr (w.heap.size + 1 + 1) .u64 5 (fun _ => 0) 26 ∧ Row wr (w.heap.size + 1 + 1 + 1) .u64 10 (sw (sN f g (5 * i + k))) 85
def SRel1 (w : World) (f g : Nat → Int) (v16 : Value) (wr : World) : Prop :=
  ∃ i : Nat, i ≤ 5 ∧ v16 = .int .i64 (i : Int) ∧ Below w.heap.size w wr ∧ Row wr w.heap.size .u64 5 f 26 ∧ Row wr (w.heap.size + 1) .u64 5 g 26 ∧ Row wr (w.heap.size + 1 + 1) .u64 5 (fun _ => 0) 26 ∧ Row wr (w.heap.size + 1 + 1 + 1) .u64 10 (sw (sN f g (5 * i))) 85
theorem ij_nat5 (i k : Nat) : ((i : Int) + (k : Int)).toNat = i + k := by omega
theorem bel_four5 (w : World) (a b c d : Obj) : Below w.heap.size w ((((w.alloc a).alloc b).alloc c).alloc d) := (bel_three w a b c).alloc (bel_three w a b c).size d
theorem four_new5 (w : World) (a b c d : Obj) : ((((w.alloc a).alloc b).alloc c).alloc d).heap[w.heap.size + 1 + 1 + 1]? = some d := by
  have h := heap_alloc_new (((w.alloc a).alloc b).alloc c) d
  have e : (((w.alloc a).alloc b).alloc c).heap.size = w.heap.size + 1 + 1 + 1 := by simp
  rwa [e] at h
theorem m5_wraps (i k : Nat) (hi : i < 5) (hk : k < 5) : wrap64 ((i : Int) + (k : Int)) = (i : Int) + (k : Int) ∧ IntKind.i64.wrap ((i : Int) + (k : Int)) = (i : Int) + (k : Int) ∧ Int.tmod ((i : Int) + (k : Int)) 5 = (((i + k) % 5 : Nat) : Int) := ⟨w64 _ (by omega), i64w _ (by omega), by rw [Int.tmod_eq_emod_of_nonneg (by omega)]; omega⟩
theorem sw_zero (f g : Nat → Int) (j : Nat) : (fun _ : Nat => (0 : Int)) j = sw (sN f g (5 * 0)) j := by
  show (0 : Int) = wd (sN f g 0 (j / 2)) (j % 2)
  show (0 : Int) = wd 0 (j % 2)
  unfold wd
  split <;> rfl
theorem or13 (x y : Int) (h0 : 0 ≤ x ∧ x < 2251799813685248) (h1 : 0 ≤ y ∧ y < 8192) : Go.bits .or .u64 (x * 8192) y = x * 8192 + y := by
  rw [u64_or _ _ (by omega) (by omega) (by omega) (by omega)]
  have e : (x * 8192).toNat ||| y.toNat = x.toNat * 2 ^ 13 + y.toNat := by
    have : (x * 8192).toNat = x.toNat * 2 ^ 13 := by omega
    rw [this, Nat.mul_comm, ← Nat.two_pow_add_eq_or_of_lt (by omega)]
  rw [e]
  omega
theorem index63 (s : Nat → Int) (i : Nat) (hi : i < 5) (w : World) : (Instr.index 85 (.agg (FR .u64 10 (sw s))) (.int .i64 (i : Int))).run Tryd.prog w = .ok (.agg (FR .u64 2 (wd (s i)))) w := by
  obtain ⟨ie, hie, hs⟩ : ∃ ie, Tryd.prog.info? 84 = some ie ∧ ie.size = 2 := by
    have h := info62
    cases he : Tryd.prog.info? 84 with
    | none => rw [he] at h; cases h
    | some ie => rw [he] at h; exact ⟨ie, rfl, Option.some.inj h⟩
  have h1 : (asIntOf (.int .i64 (i : Int))).run Tryd.prog w = .ok (IntKind.i64, (i : Int)) w := by simp [asIntOf]
  have hin : 0 ≤ (i : Int) ∧ (i : Int) < ((5 : Nat) : Int) := by omega
  have h3 : (typeInfo 84).run Tryd.prog w = .ok ie w := by simp [typeInfo, hie]
  have ha : (isAgg 84).run Tryd.prog w = .ok true w := by simp [isAgg, run_underlying Tryd.underlying84]
  have he : (FR .u64 10 (sw s)).extract (i * 2) (i * 2 + 2) = FR .u64 2 (wd (s i)) := by
    apply Array.ext_getElem?
    intro j
    rw [Array.getElem?_extract, FR_size]
    by_cases hj : j < 2
    · rw [if_pos (by omega), FR_at _ _ _ _ (by omega), FR_at _ _ _ _ hj]
      unfold sw
      rw [show (i * 2 + j) / 2 = i by omega, show (i * 2 + j) % 2 = j by omega]
    · rw [if_neg (by omega), FR_out _ _ _ _ hj]
  simp only [Instr.index, Sem.run_bind, h1, Result.andThen_ok, run_underlying Tryd.underlying85, if_pos hin, sizeOf, h3, hs, Sem.run_pure, Int.toNat_natCast, part, ha, he, if_true]
theorem info63 : (Tryd.prog.info? 85).map (·.size) = some 10 := by kernel_rfl
def ZRel3 (w : World) (f g : Nat → Int) (bl : Nat) (v52 v10 : Value) (wr : World) : Prop :=
  ∃ i : Nat, i ≤ 5 ∧ v52 = .int .i64 (i : Int) ∧ v10 = .int .u64 (mc f g i) ∧ Below w.heap.size w wr ∧ Row wr (w.heap.size + 1 + 1) .u64 5 (fun _ => 0) 26 ∧ Row wr bl .u64 5 (fun j => if j < i then mulL f g j else 0) 24
theorem elem_mul_calls (f g : Nat → Int) (w : World) (hf : Lm f) (hg : Lm g) :
    Calls Tryd.prog 29 #[.agg (FR .u64 5 f), .agg (FR .u64 5 g)] w fun e w' => e = .returned (.agg (FR .u64 5 (mulE f g))) ∧ Below w.heap.size w w' := by
  have HF := Aside0.mk hf
  have HG := Aside0.mk hg
  clear hf hg
  go_enter Tryd.func29, Tryd.ntmps29
  have HB0 := Aside0.mk (bel_four5 w (.cells (FR .u64 5 f) 26) (.cells (FR .u64 5 g) 26) (.cells (FR .u64 5 fun _ => 0) 26) (.cells (FR .u64 10 fun _ => 0) 85))
  have HR0 : Aside0 (Row ((((w.alloc (.cells (FR .u64 5 f) 26)).alloc (.cells (FR .u64 5 g) 26)).alloc (.cells (FR .u64 5 fun _ => 0) 26)).alloc (.cells (FR .u64 10 fun _ => 0) 85)) w.heap.size .u64 5 f 26) := ⟨(((Row.new w .u64 5 f 26).alloc _).alloc _).alloc _⟩
  have HR1 : Aside0 (Row ((((w.alloc (.cells (FR .u64 5 f) 26)).alloc (.cells (FR .u64 5 g) 26)).alloc (.cells (FR .u64 5 fun _ => 0) 26)).alloc (.cells (FR .u64 10 fun _ => 0) 85)) (w.heap.size + 1) .u64 5 g 26) := ⟨Row.alloc (Row.alloc (show Row ((w.alloc (.cells (FR .u64 5 f) 26)).alloc (.cells (FR .u64 5 g) 26)) (w.heap.size + 1) .u64 5 g 26 from heap_alloc2_new w _ _) _) _⟩
  have HR2 : Aside0 (Row ((((w.alloc (.cells (FR .u64 5 f) 26)).alloc (.cells (FR .u64 5 g) 26)).alloc (.cells (FR .u64 5 fun _ => 0) 26)).alloc (.cells (FR .u64 10 fun _ => 0) 85)) (w.heap.size + 1 + 1) .u64 5 (fun _ => 0) 26) := ⟨Row.alloc (show Row (((w.alloc (.cells (FR .u64 5 f) 26)).alloc (.cells (FR .u64 5 g) 26)).alloc (.cells (FR .u64 5 fun _ => 0) 26)) (w.heap.size + 1 + 1) .u64 5 (fun _ => 0) 26 from three_new w _ _ _) _⟩
  have HR3 : Aside0 (Row ((((w.alloc (.cells (FR .u64 5 f) 26)).alloc (.cells (FR .u64 5 g) 26)).alloc (.cells (FR .u64 5 fun _ => 0) 26)).alloc (.cells (FR .u64 10 fun _ => 0) 85)) (w.heap.size + 1 + 1 + 1) .u64 10 (fun _ => 0) 85) := ⟨four_new5 w _ _ _ _⟩
  go_wp2_with fail
  go_loopw [16] (fun v16 wr => SRel1 w f g v16 wr) (fun v _ => 5 - (intOf v).toNat)
  case atStart => exact ⟨0, by omega, rfl, HB0.out, HR0.out, HR1.out, HR2.out, row_eq HR3.out (fun j _ => sw_zero f g j)⟩
  case round =>
    clear HB0 HR0 HR1 HR2 HR3
    obtain ⟨i, hi, rfl, hb, hr, hg, hz, ht⟩ := hrel
    have HB := Aside0.mk hb
    have HR := Aside0.mk hr
    have HR2 := Aside0.mk hg
    have HZ := Aside0.mk hz
    have HT := Aside0.mk ht
    have hl1 := hr.lt
    have hl2 := hg.lt
    have hl3 := hz.lt
    have hl4 := ht.lt
    clear hb hr hg hz ht
    rcases Nat.lt_or_ge i 5 with h16 | h16
    · have hlt : ((i : Int) < 5) = True := eq_true (by omega)
      go_wp2_with fail
      go_loopw [19] (fun v19 wr => SRel2 w f g i v19 wr) (fun v _ => 5 - (intOf v).toNat)
      case atStart => exact ⟨0, by omega, rfl, HB.out, HR.out, HR2.out, HZ.out, HT.out⟩
      case round =>
        clear HB HR HR2 HZ HT
        obtain ⟨k, hk, rfl, hb, hr, hg, hz, ht⟩ := hrel
        have HB := Aside0.mk hb
        have HR := Aside0.mk hr
        have HR2 := Aside0.mk hg
        have HZ := Aside0.mk hz
        have HT := Aside0.mk ht
        rcases Nat.lt_or_ge k 5 with h17 | h17
        · have hltk : ((k : Int) < 5) = True := eq_true (by omega)
          have hij := ij_nat5 i k
          obtain ⟨q1, q2, q3⟩ := m5_wraps i k h16 h17
          have k0 := hr.cell i (by omega)
          have k1 := hg.cell k (by omega)
          have hj5 : (i + k) % 5 < 5 := by omega
          have hc5 : (((i : Int) + (k : Int)) % 5 < 5) = True := eq_true (by omega)
          have hc0 : (0 ≤ ((i : Int) + (k : Int)) % 5) = True := eq_true (by omega)
          have hcn : (((i : Int) + (k : Int)) % 5).toNat = (i + k) % 5 := by omega
          have hxb := xk_b HF.out i k h16
          have hsb := sN_b f g HF.out HG.out (5 * i + k) (by omega) ((i + k) % 5)
          have hpb := xprod_b hxb (HG.out.b k h17)
          have hgb := HG.out.b k h17
          have HP : Aside0 (∀ w, Calls Tryd.prog 54 #[.agg (FR .u64 2 (wd (sN f g (5 * i + k) ((i + k) % 5)))), .int .u64 (xk f i k), .int .u64 (g k)] w fun e w' => e = .returned (.agg (FR .u64 2 (wd (sN f g (5 * i + k) ((i + k) % 5) + xk f i k * g k)))) ∧ Below w.heap.size w w') := ⟨fun w => plus_c _ _ _ w (by omega) (by omega) (by omega) (by omega)⟩
          have HST := Aside0.mk (sN_step f g i k h17)
          clear hb hr hg hz ht hxb hsb hpb hgb
          rcases Nat.lt_or_ge (i + k) 5 with hik | hik
          · have hxk : xk f i k = f i := by unfold xk; rw [if_neg (by omega)]
            rw [hxk] at HP HST
            clear hxk
            have hge : ((i : Int) + (k : Int) ≥ 5) = False := eq_false (by omega)
            have hge2 : (5 ≤ (i : Int) + (k : Int)) = False := eq_false (by omega)
            go_wp2_with fail
            have hh : Row wr.drew (w.heap.size + 1) .u64 5 g 26 ∧ Row wr.drew (w.heap.size + 1 + 1 + 1) .u64 10 (sw (sN f g (5 * i + k))) 85 := ⟨HR2.out, HT.out⟩
            have HBd := Aside0.mk HB.out.drew
            have HRd : Aside0 (Row wr.drew w.heap.size .u64 5 f 26) := ⟨HR.out⟩
            have HZd : Aside0 (Row wr.drew (w.heap.size + 1 + 1) .u64 5 (fun _ => 0) 26) := ⟨HZ.out⟩
            refine start_ (n := 18) (S := (fun w' => Row w' (w.heap.size + 1) .u64 5 g 26 ∧ Row w' (w.heap.size + 1 + 1 + 1) .u64 10 (sw (sN f g (5 * i + k))) 85)) (ds := [17]) #[false, false, false, false, false, false, false, false, false, false, false, false, false, false, false, false, false, false] (by kernel_rfl) rfl rfl hh (fun hHeld => ?_); refine with_tabW tab2611 bits2611 (fun HT_ HW_ => ?_)
            generalize wr.drew = w6 at HBd hHeld hh HRd HZd ⊢
            clear hh
            refine pure_ (i := 0) (N := some 32) (v := ?_) (a' := ?_) #[true, false, false, false, false, false, false, false, false, false, false, false, false, false, false, false, false, false] rfl rfl (any_of HT_.out (by kernel_rfl)) (fun _ _ _ h => h) (Or.inl ⟨by rfl, ?_⟩) ?_ ?_
            rotate_left
            · intro w'
              go_simp
              with_reducible rfl
            rotate_left
            · simp only [Act.put, List.setIfInBounds_toArray, List.set_cons_zero, List.set_cons_succ, i64_w, i32_w]
              rfl
            refine pure_ (i := 1) (N := some 33) (v := ?_) (a' := ?_) #[true, true, false, false, false, false, false, false, false, false, false, false, false, false, false, false, false, false] rfl rfl (any_of HT_.out (by kernel_rfl)) (fun _ _ _ h => h) (Or.inl ⟨by rfl, ?_⟩) ?_ ?_
            rotate_left
            · intro w'
              go_simp
              with_reducible rfl
            rotate_left
            · simp only [Act.put, List.setIfInBounds_toArray, List.set_cons_zero, List.set_cons_succ, i64_w, i32_w]
              rfl
            refine pure_ (i := 2) (N := some 34) (v := ?_) (a' := ?_) #[true, true, true, false, false, false, false, false, false, false, false, false, false, false, false, false, false, false] rfl rfl (any_of HT_.out (by kernel_rfl)) (fun _ _ _ h => h) (Or.inl ⟨by rfl, ?_⟩) ?_ ?_
            rotate_left
            · intro w'
              go_simp
              with_reducible rfl
            rotate_left
            · simp only [Act.put, List.setIfInBounds_toArray, List.set_cons_zero, List.set_cons_succ, i64_w, i32_w]
              rfl
            refine pure_ (i := 3) (N := some 35) (v := ?_) (a' := ?_) #[true, true, true, true, false, false, false, false, false, false, false, false, false, false, false, false, false, false] rfl rfl (any_of HT_.out (by kernel_rfl)) (fun _ _ _ h => h) (Or.inl ⟨by rfl, ?_⟩) ?_ ?_
            rotate_left
            · intro w'
              go_simp
              with_reducible rfl
            rotate_left
            · simp only [Act.put, List.setIfInBounds_toArray, List.set_cons_zero, List.set_cons_succ, i64_w, i32_w]
              rfl
            refine pure_ (i := 4) (N := some 36) (v := ?_) (a' := ?_) #[true, true, true, true, true, false, false, false, false, false, false, false, false, false, false, false, false, false] rfl rfl (any_of HT_.out (by kernel_rfl)) (fun _ _ _ h => h) (Or.inl ⟨by rfl, ?_⟩) ?_ ?_
            rotate_left
            · intro w'
              go_simp
              with_reducible rfl
            rotate_left
            · simp only [Act.put, List.setIfInBounds_toArray, List.set_cons_zero, List.set_cons_succ, i64_w, i32_w]
              rfl
            refine pure_ (i := 5) (N := some 37) (v := ?_) (a' := ?_) #[true, true, true, true, true, true, false, false, false, false, false, false, false, false, false, false, false, false] rfl rfl (any_of HT_.out (by kernel_rfl)) (fun _ _ _ h => h) (Or.inl ⟨by rfl, ?_⟩) ?_ ?_
            rotate_left
            · intro w'
              go_simp
              with_reducible rfl
            rotate_left
            · simp only [Act.put, List.setIfInBounds_toArray, List.set_cons_zero, List.set_cons_succ, i64_w, i32_w]
              rfl
            refine pure_ (i := 6) (N := some 38) (v := ?_) (a' := ?_) #[true, true, true, true, true, true, true, false, false, false, false, false, false, false, false, false, false, false] rfl rfl (any_of HT_.out (by kernel_rfl)) (fun _ _ _ h => h) (Or.inl ⟨by rfl, ?_⟩) ?_ ?_
            rotate_left
            · intro w'
              go_simp
              with_reducible rfl
            rotate_left
            · simp only [Act.put, List.setIfInBounds_toArray, List.set_cons_zero, List.set_cons_succ, i64_w, i32_w]
              rfl
            refine pure_ (i := 7) (N := some 39) (v := ?_) (a' := ?_) #[true, true, true, true, true, true, true, true, false, false, false, false, false, false, false, false, false, false] rfl rfl (any_of HT_.out (by kernel_rfl)) (fun _ _ _ h => h) (Or.inl ⟨by rfl, ?_⟩) ?_ ?_
            rotate_left
            · intro w'
              go_simp
              with_reducible rfl
            rotate_left
            · simp only [Act.put, List.setIfInBounds_toArray, List.set_cons_zero, List.set_cons_succ, i64_w, i32_w]
              rfl
            refine pure_ (i := 10) (N := some 42) (v := ?_) (a' := ?_) #[true, true, true, true, true, true, true, true, false, false, true, false, false, false, false, false, false, false] rfl rfl (any_of HT_.out (by kernel_rfl)) (fun _ _ _ h => h) (Or.inl ⟨by rfl, ?_⟩) ?_ ?_
            rotate_left
            · intro w'
              go_simp
              with_reducible rfl
            rotate_left
            · simp only [Act.put, List.setIfInBounds_toArray, List.set_cons_zero, List.set_cons_succ, i64_w, i32_w]
              rfl
            refine pure_ (i := 11) (N := some 43) (v := ?_) (a' := ?_) #[true, true, true, true, true, true, true, true, false, false, true, true, false, false, false, false, false, false] rfl rfl (any_of HT_.out (by kernel_rfl)) (fun _ _ _ h => h) (Or.inl ⟨by rfl, ?_⟩) ?_ ?_
            rotate_left
            · intro w'
              go_simp
              with_reducible rfl
            rotate_left
            · simp only [Act.put, List.setIfInBounds_toArray, List.set_cons_zero, List.set_cons_succ, i64_w, i32_w]
              rfl
            refine take_ (i := 8) (N := some 40) (v := ?_) (a' := ?_) #[true, true, true, true, true, true, true, true, true, false, true, true, false, false, false, false, false, false] rfl rfl (take_ofW HT_.out HW_.out (by kernel_rfl)) (fun _ _ _ h => h) (Or.inl ⟨by rfl, ?_⟩) hHeld ?_ ?_
            rotate_left
            · intro w' hsw
              go_simp
              with_reducible rfl
            rotate_left
            · simp only [Act.put, List.setIfInBounds_toArray, List.set_cons_zero, List.set_cons_succ, i64_w, i32_w]
              rfl
            refine take_ (i := 9) (N := some 41) (v := ?_) (a' := ?_) #[true, true, true, true, true, true, true, true, true, true, true, true, false, false, false, false, false, false] rfl rfl (take_ofW HT_.out HW_.out (by kernel_rfl)) (fun _ _ _ h => h) (Or.inl ⟨by rfl, ?_⟩) hHeld ?_ ?_
            rotate_left
            · intro w' hsw
              refine exec_load2 (x := .tmp 40) (off := (i + k) % 5 * 2) hsw.2 hj5 (by omega) ?_ ?_ <;> rfl
            rotate_left
            · simp only [Act.put, List.setIfInBounds_toArray, List.set_cons_zero, List.set_cons_succ, i64_w, i32_w]
              rfl
            refine take_ (i := 12) (N := some 44) (v := ?_) (a' := ?_) #[true, true, true, true, true, true, true, true, true, true, true, true, true, false, false, false, false, false] rfl rfl (take_ofW HT_.out HW_.out (by kernel_rfl)) (fun _ _ _ h => h) (Or.inl ⟨by rfl, ?_⟩) hHeld ?_ ?_
            rotate_left
            · intro w' hsw
              go_simp
              with_reducible rfl
            rotate_left
            · simp only [Act.put, List.setIfInBounds_toArray, List.set_cons_zero, List.set_cons_succ, i64_w, i32_w]
              rfl
            refine take_ (i := 13) (N := some 45) (v := ?_) (a' := ?_) #[true, true, true, true, true, true, true, true, true, true, true, true, true, true, false, false, false, false] rfl rfl (take_ofW HT_.out HW_.out (by kernel_rfl)) (fun _ _ _ h => h) (Or.inl ⟨by rfl, ?_⟩) hHeld ?_ ?_
            rotate_left
            · intro w' hsw
              go_simp
              with_reducible rfl
            rotate_left
            · simp only [Act.put, List.setIfInBounds_toArray, List.set_cons_zero, List.set_cons_succ, i64_w, i32_w]
              rfl
            refine take_ (i := 14) (N := some 46) (v := ?_) (a' := ?_) #[true, true, true, true, true, true, true, true, true, true, true, true, true, true, true, false, false, false] rfl rfl (take_ofW HT_.out HW_.out (by kernel_rfl)) (fun _ _ _ h => h) (Or.inl ⟨by rfl, ?_⟩) hHeld ?_ ?_
            rotate_left
            · intro w' hsw
              have kg := hsw.1.cell k h17
              go_simp
              with_reducible rfl
            rotate_left
            · simp only [Act.put, List.setIfInBounds_toArray, List.set_cons_zero, List.set_cons_succ, i64_w, i32_w]
              rfl
            refine one_ (i := 15) (N := some 47) #[true, true, true, true, true, true, true, true, true, true, true, true, true, true, true, true, false, false] rfl rfl (one_of HT_.out (by kernel_rfl)) (by decide) (fun K hK => ?_)
            refine goes_ Tryd.func54 rfl rfl #[.agg (FR .u64 2 (wd (sN f g (5 * i + k) ((i + k) % 5)))), .int .u64 (f i), .int .u64 (g k)] rfl rfl rfl (by simp only [List.map_toArray, List.map_cons, List.map_nil]; rfl) ((HP.out _).mono ?_)
            rintro e wc1 ⟨rfl, hb⟩
            have hSn : Row wc1 (w.heap.size + 1) .u64 5 g 26 ∧ Row wc1 (w.heap.size + 1 + 1 + 1) .u64 10 (sw (sN f g (5 * i + k))) 85 := ⟨hHeld.1.below hb hHeld.1.lt, hHeld.2.below hb hHeld.2.lt⟩
            have HBc1 := Aside0.mk (HBd.out.trans (hb.mono HBd.out.size))
            have HRc := Aside0.mk (HRd.out.below hb HRd.out.lt)
            have HZc := Aside0.mk (HZd.out.below hb HZd.out.lt)
            clear hb
            refine ⟨_, rfl, hK.out _ _ hSn (fun hHeld => ?_)⟩
            clear hSn
            clear hK K
            refine norm_ (a' := ?_) ?_ ?_
            rotate_left
            · show Act.put _ (some 47) _ = _
              simp only [Act.put, List.setIfInBounds_toArray, List.set_cons_zero, List.set_cons_succ, i64_w, i32_w]
              rfl
            refine take_ (i := 16) (N := some 48) (v := ?_) (a' := ?_) #[true, true, true, true, true, true, true, true, true, true, true, true, true, true, true, true, true, false] rfl rfl (take_ofW HT_.out HW_.out (by kernel_rfl)) (fun _ _ _ h => h) (Or.inl ⟨by rfl, ?_⟩) hHeld ?_ ?_
            rotate_left
            · intro w' hsw
              go_simp
              with_reducible rfl
            rotate_left
            · simp only [Act.put, List.setIfInBounds_toArray, List.set_cons_zero, List.set_cons_succ, i64_w, i32_w]
              rfl
            refine last_ (i := 17) (N := none) #[true, true, true, true, true, true, true, true, true, true, true, true, true, true, true, true, true, true] rfl rfl (one_of HT_.out (by kernel_rfl)) (by decide) (fun K hK => ?_)
            refine oper_store2 (off := (i + k) % 5 * 2) (sN f g (5 * i + k) ((i + k) % 5) + (f i) * g k) hHeld.2 hj5 (by omega) rfl rfl rfl rfl rfl ?_
            intro wk hs hr
            have HTk := Aside0.mk hr
            have HGk := Aside0.mk (hHeld.1.stored hs (by omega))
            have HBk := Aside0.mk (hs.bel _ _ (by omega) HBc1.out)
            have HSk := Aside0.mk hs
            have hHc := hHeld
            clear hs hr
            refine hK.out _ _ ?_
            clear hK K
            refine done_ (done_of HT_.out (by kernel_rfl)) ?_
            try go_wp2
            refine ⟨⟨k + 1, by omega, rfl, HBk.out, HRc.out.stored HSk.out (by omega), HGk.out, HZc.out.stored HSk.out (by omega), ?_⟩, meas_up 5 k (by omega)⟩
            rw [HST.out]
            exact HTk.out
          · have hxk : xk f i k = f i * 19 := by unfold xk; rw [if_pos (by omega)]
            rw [hxk] at HP HST
            clear hxk
            have hfb := HF.out.b i h16
            have hw19 : IntKind.u64.wrap (f i * 19) = f i * 19 := u64w _ (by omega) (by omega)
            clear hfb
            have hge : ((i : Int) + (k : Int) ≥ 5) = True := eq_true (by omega)
            have hge2 : (5 ≤ (i : Int) + (k : Int)) = True := eq_true (by omega)
            go_wp2_with fail
            have hh : Row wr.drew (w.heap.size + 1) .u64 5 g 26 ∧ Row wr.drew (w.heap.size + 1 + 1 + 1) .u64 10 (sw (sN f g (5 * i + k))) 85 := ⟨HR2.out, HT.out⟩
            have HBd := Aside0.mk HB.out.drew
            have HRd : Aside0 (Row wr.drew w.heap.size .u64 5 f 26) := ⟨HR.out⟩
            have HZd : Aside0 (Row wr.drew (w.heap.size + 1 + 1) .u64 5 (fun _ => 0) 26) := ⟨HZ.out⟩
            refine start_ (n := 18) (S := (fun w' => Row w' (w.heap.size + 1) .u64 5 g 26 ∧ Row w' (w.heap.size + 1 + 1 + 1) .u64 10 (sw (sN f g (5 * i + k))) 85)) (ds := [17]) #[false, false, false, false, false, false, false, false, false, false, false, false, false, false, false, false, false, false] (by kernel_rfl) rfl rfl hh (fun hHeld => ?_); refine with_tabW tab2611 bits2611 (fun HT_ HW_ => ?_)
            generalize wr.drew = w6 at HBd hHeld hh HRd HZd ⊢
            clear hh
            refine pure_ (i := 0) (N := some 32) (v := ?_) (a' := ?_) #[true, false, false, false, false, false, false, false, false, false, false, false, false, false, false, false, false, false] rfl rfl (any_of HT_.out (by kernel_rfl)) (fun _ _ _ h => h) (Or.inl ⟨by rfl, ?_⟩) ?_ ?_
            rotate_left
            · intro w'
              go_simp
              with_reducible rfl
            rotate_left
            · simp only [Act.put, List.setIfInBounds_toArray, List.set_cons_zero, List.set_cons_succ, i64_w, i32_w]
              rfl
            refine pure_ (i := 1) (N := some 33) (v := ?_) (a' := ?_) #[true, true, false, false, false, false, false, false, false, false, false, false, false, false, false, false, false, false] rfl rfl (any_of HT_.out (by kernel_rfl)) (fun _ _ _ h => h) (Or.inl ⟨by rfl, ?_⟩) ?_ ?_
            rotate_left
            · intro w'
              go_simp
              with_reducible rfl
            rotate_left
            · simp only [Act.put, List.setIfInBounds_toArray, List.set_cons_zero, List.set_cons_succ, i64_w, i32_w]
              rfl
            refine pure_ (i := 2) (N := some 34) (v := ?_) (a' := ?_) #[true, true, true, false, false, false, false, false, false, false, false, false, false, false, false, false, false, false] rfl rfl (any_of HT_.out (by kernel_rfl)) (fun _ _ _ h => h) (Or.inl ⟨by rfl, ?_⟩) ?_ ?_
            rotate_left
            · intro w'
              go_simp
              with_reducible rfl
            rotate_left
            · simp only [Act.put, List.setIfInBounds_toArray, List.set_cons_zero, List.set_cons_succ, i64_w, i32_w]
              rfl
            refine pure_ (i := 3) (N := some 35) (v := ?_) (a' := ?_) #[true, true, true, true, false, false, false, false, false, false, false, false, false, false, false, false, false, false] rfl rfl (any_of HT_.out (by kernel_rfl)) (fun _ _ _ h => h) (Or.inl ⟨by rfl, ?_⟩) ?_ ?_
            rotate_left
            · intro w'
              go_simp
              with_reducible rfl
            rotate_left
            · simp only [Act.put, List.setIfInBounds_toArray, List.set_cons_zero, List.set_cons_succ, i64_w, i32_w]
              rfl
            refine pure_ (i := 4) (N := some 36) (v := ?_) (a' := ?_) #[true, true, true, true, true, false, false, false, false, false, false, false, false, false, false, false, false, false] rfl rfl (any_of HT_.out (by kernel_rfl)) (fun _ _ _ h => h) (Or.inl ⟨by rfl, ?_⟩) ?_ ?_
            rotate_left
            · intro w'
              go_simp
              with_reducible rfl
            rotate_left
            · simp only [Act.put, List.setIfInBounds_toArray, List.set_cons_zero, List.set_cons_succ, i64_w, i32_w]
              rfl
            refine pure_ (i := 5) (N := some 37) (v := ?_) (a' := ?_) #[true, true, true, true, true, true, false, false, false, false, false, false, false, false, false, false, false, false] rfl rfl (any_of HT_.out (by kernel_rfl)) (fun _ _ _ h => h) (Or.inl ⟨by rfl, ?_⟩) ?_ ?_
            rotate_left
            · intro w'
              go_simp
              with_reducible rfl
            rotate_left
            · simp only [Act.put, List.setIfInBounds_toArray, List.set_cons_zero, List.set_cons_succ, i64_w, i32_w]
              rfl
            refine pure_ (i := 6) (N := some 38) (v := ?_) (a' := ?_) #[true, true, true, true, true, true, true, false, false, false, false, false, false, false, false, false, false, false] rfl rfl (any_of HT_.out (by kernel_rfl)) (fun _ _ _ h => h) (Or.inl ⟨by rfl, ?_⟩) ?_ ?_
            rotate_left
            · intro w'
              go_simp
              with_reducible rfl
            rotate_left
            · simp only [Act.put, List.setIfInBounds_toArray, List.set_cons_zero, List.set_cons_succ, i64_w, i32_w]
              rfl
            refine pure_ (i := 7) (N := some 39) (v := ?_) (a' := ?_) #[true, true, true, true, true, true, true, true, false, false, false, false, false, false, false, false, false, false] rfl rfl (any_of HT_.out (by kernel_rfl)) (fun _ _ _ h => h) (Or.inl ⟨by rfl, ?_⟩) ?_ ?_
            rotate_left
            · intro w'
              go_simp
              with_reducible rfl
            rotate_left
            · simp only [Act.put, List.setIfInBounds_toArray, List.set_cons_zero, List.set_cons_succ, i64_w, i32_w]
              rfl
            refine pure_ (i := 10) (N := some 42) (v := ?_) (a' := ?_) #[true, true, true, true, true, true, true, true, false, false, true, false, false, false, false, false, false, false] rfl rfl (any_of HT_.out (by kernel_rfl)) (fun _ _ _ h => h) (Or.inl ⟨by rfl, ?_⟩) ?_ ?_
            rotate_left
            · intro w'
              go_simp
              with_reducible rfl
            rotate_left
            · simp only [Act.put, List.setIfInBounds_toArray, List.set_cons_zero, List.set_cons_succ, i64_w, i32_w]
              rfl
            refine pure_ (i := 11) (N := some 43) (v := ?_) (a' := ?_) #[true, true, true, true, true, true, true, true, false, false, true, true, false, false, false, false, false, false] rfl rfl (any_of HT_.out (by kernel_rfl)) (fun _ _ _ h => h) (Or.inl ⟨by rfl, ?_⟩) ?_ ?_
            rotate_left
            · intro w'
              go_simp
              with_reducible rfl
            rotate_left
            · simp only [Act.put, List.setIfInBounds_toArray, List.set_cons_zero, List.set_cons_succ, i64_w, i32_w]
              rfl
            refine take_ (i := 8) (N := some 40) (v := ?_) (a' := ?_) #[true, true, true, true, true, true, true, true, true, false, true, true, false, false, false, false, false, false] rfl rfl (take_ofW HT_.out HW_.out (by kernel_rfl)) (fun _ _ _ h => h) (Or.inl ⟨by rfl, ?_⟩) hHeld ?_ ?_
            rotate_left
            · intro w' hsw
              go_simp
              with_reducible rfl
            rotate_left
            · simp only [Act.put, List.setIfInBounds_toArray, List.set_cons_zero, List.set_cons_succ, i64_w, i32_w]
              rfl
            refine take_ (i := 9) (N := some 41) (v := ?_) (a' := ?_) #[true, true, true, true, true, true, true, true, true, true, true, true, false, false, false, false, false, false] rfl rfl (take_ofW HT_.out HW_.out (by kernel_rfl)) (fun _ _ _ h => h) (Or.inl ⟨by rfl, ?_⟩) hHeld ?_ ?_
            rotate_left
            · intro w' hsw
              refine exec_load2 (x := .tmp 40) (off := (i + k) % 5 * 2) hsw.2 hj5 (by omega) ?_ ?_ <;> rfl
            rotate_left
            · simp only [Act.put, List.setIfInBounds_toArray, List.set_cons_zero, List.set_cons_succ, i64_w, i32_w]
              rfl
            refine take_ (i := 12) (N := some 44) (v := ?_) (a' := ?_) #[true, true, true, true, true, true, true, true, true, true, true, true, true, false, false, false, false, false] rfl rfl (take_ofW HT_.out HW_.out (by kernel_rfl)) (fun _ _ _ h => h) (Or.inl ⟨by rfl, ?_⟩) hHeld ?_ ?_
            rotate_left
            · intro w' hsw
              go_simp
              with_reducible rfl
            rotate_left
            · simp only [Act.put, List.setIfInBounds_toArray, List.set_cons_zero, List.set_cons_succ, i64_w, i32_w]
              rfl
            refine take_ (i := 13) (N := some 45) (v := ?_) (a' := ?_) #[true, true, true, true, true, true, true, true, true, true, true, true, true, true, false, false, false, false] rfl rfl (take_ofW HT_.out HW_.out (by kernel_rfl)) (fun _ _ _ h => h) (Or.inl ⟨by rfl, ?_⟩) hHeld ?_ ?_
            rotate_left
            · intro w' hsw
              go_simp
              with_reducible rfl
            rotate_left
            · simp only [Act.put, List.setIfInBounds_toArray, List.set_cons_zero, List.set_cons_succ, i64_w, i32_w]
              rfl
            refine take_ (i := 14) (N := some 46) (v := ?_) (a' := ?_) #[true, true, true, true, true, true, true, true, true, true, true, true, true, true, true, false, false, false] rfl rfl (take_ofW HT_.out HW_.out (by kernel_rfl)) (fun _ _ _ h => h) (Or.inl ⟨by rfl, ?_⟩) hHeld ?_ ?_
            rotate_left
            · intro w' hsw
              have kg := hsw.1.cell k h17
              go_simp
              with_reducible rfl
            rotate_left
            · simp only [Act.put, List.setIfInBounds_toArray, List.set_cons_zero, List.set_cons_succ, i64_w, i32_w]
              rfl
            refine one_ (i := 15) (N := some 47) #[true, true, true, true, true, true, true, true, true, true, true, true, true, true, true, true, false, false] rfl rfl (one_of HT_.out (by kernel_rfl)) (by decide) (fun K hK => ?_)
            refine goes_ Tryd.func54 rfl rfl #[.agg (FR .u64 2 (wd (sN f g (5 * i + k) ((i + k) % 5)))), .int .u64 (f i * 19), .int .u64 (g k)] rfl rfl rfl (by simp only [List.map_toArray, List.map_cons, List.map_nil]; rfl) ((HP.out _).mono ?_)
            rintro e wc1 ⟨rfl, hb⟩
            have hSn : Row wc1 (w.heap.size + 1) .u64 5 g 26 ∧ Row wc1 (w.heap.size + 1 + 1 + 1) .u64 10 (sw (sN f g (5 * i + k))) 85 := ⟨hHeld.1.below hb hHeld.1.lt, hHeld.2.below hb hHeld.2.lt⟩
            have HBc1 := Aside0.mk (HBd.out.trans (hb.mono HBd.out.size))
            have HRc := Aside0.mk (HRd.out.below hb HRd.out.lt)
            have HZc := Aside0.mk (HZd.out.below hb HZd.out.lt)
            clear hb
            refine ⟨_, rfl, hK.out _ _ hSn (fun hHeld => ?_)⟩
            clear hSn
            clear hK K
            refine norm_ (a' := ?_) ?_ ?_
            rotate_left
            · show Act.put _ (some 47) _ = _
              simp only [Act.put, List.setIfInBounds_toArray, List.set_cons_zero, List.set_cons_succ, i64_w, i32_w]
              rfl
            refine take_ (i := 16) (N := some 48) (v := ?_) (a' := ?_) #[true, true, true, true, true, true, true, true, true, true, true, true, true, true, true, true, true, false] rfl rfl (take_ofW HT_.out HW_.out (by kernel_rfl)) (fun _ _ _ h => h) (Or.inl ⟨by rfl, ?_⟩) hHeld ?_ ?_
            rotate_left
            · intro w' hsw
              go_simp
              with_reducible rfl
            rotate_left
            · simp only [Act.put, List.setIfInBounds_toArray, List.set_cons_zero, List.set_cons_succ, i64_w, i32_w]
              rfl
            refine last_ (i := 17) (N := none) #[true, true, true, true, true, true, true, true, true, true, true, true, true, true, true, true, true, true] rfl rfl (one_of HT_.out (by kernel_rfl)) (by decide) (fun K hK => ?_)
            refine oper_store2 (off := (i + k) % 5 * 2) (sN f g (5 * i + k) ((i + k) % 5) + (f i * 19) * g k) hHeld.2 hj5 (by omega) rfl rfl rfl rfl rfl ?_
            intro wk hs hr
            have HTk := Aside0.mk hr
            have HGk := Aside0.mk (hHeld.1.stored hs (by omega))
            have HBk := Aside0.mk (hs.bel _ _ (by omega) HBc1.out)
            have HSk := Aside0.mk hs
            have hHc := hHeld
            clear hs hr
            refine hK.out _ _ ?_
            clear hK K
            refine done_ (done_of HT_.out (by kernel_rfl)) ?_
            try go_wp2
            refine ⟨⟨k + 1, by omega, rfl, HBk.out, HRc.out.stored HSk.out (by omega), HGk.out, HZc.out.stored HSk.out (by omega), ?_⟩, meas_up 5 k (by omega)⟩
            rw [HST.out]
            exact HTk.out
        · obtain rfl : k = 5 := by omega
          clear hb hr hg hz ht
          go_wp2_with fail
          exact ⟨⟨i + 1, by omega, rfl, HB.out, HR.out, HR2.out, HZ.out, HT.out⟩, meas_up 5 i (by omega)⟩
    · obtain rfl : i = 5 := by omega
      have hbo : w.heap.size + 1 + 1 + 1 < wr.heap.size := hl4
      have HN := Aside0.mk (Row.new wr .u64 5 (fun _ => 0) 24)
      have HZ2 := Aside0.mk (HZ.out.alloc (.cells (FR .u64 5 fun _ => 0) 24))
      have HT2 := Aside0.mk (HT.out.alloc (.cells (FR .u64 5 fun _ => 0) 24))
      have HB2 := Aside0.mk (HB.out.alloc (by omega) (.cells (FR .u64 5 fun _ => 0) 24))
      clear HR HR2
      go_wp2_with (refine step_load HT2.out Tryd.underlying85 info63 rfl rfl rfl rfl ?_)
      generalize wr.heap.size = bl at *
      go_loopw [52, 10] (fun v52 v10 wr' => ZRel3 w f g bl v52 v10 wr') (fun v _ _ => 5 - (intOf v).toNat)
      case atStart => exact ⟨0, by omega, rfl, rfl, HB2.out, HZ2.out, row_eq HN.out (fun j hj => (if_neg (by omega)).symm)⟩
      case round =>
        clear HN HZ2 HT2 HB2 HB HZ HT
        obtain ⟨i, hi, rfl, rfl, hb, hz, ho⟩ := hrel
        have HB := Aside0.mk hb
        have HZ := Aside0.mk hz
        have HO2 := Aside0.mk ho
        have hlz := hz.lt
        have hlo := ho.lt
        clear hb hz ho
        rcases Nat.lt_or_ge i 5 with h5 | h5
        · have hlt : ((i : Int) < 5) = True := eq_true (by omega)
          have hix := index63 (sN f g 25) i h5
          have hix2 : ∀ w, (Instr.index 85 (.agg (FR .u64 10 (sw (sN f g (5 * 5))))) (.int .i64 (i : Int))).run Tryd.prog w = .ok (.agg (FR .u64 2 (wd (sN f g 25 i)))) w := hix
          have hcb := mc_b f g HF.out HG.out i (by omega)
          have hsb := sN_b f g HF.out HG.out 25 (by omega) i
          have HMS := Aside0.mk (mc_succ f g i)
          have HML : Aside0 (mulL f g i = (sN f g 25 i + mc f g i) % 2251799813685248) := ⟨rfl⟩
          generalize hSe : sN f g 25 i = S at *
          generalize hce : mc f g i = c at *
          have hw0 : wd S 0 = S / 18446744073709551616 := rfl
          have hw1 : wd S 1 = S % 18446744073709551616 := rfl
          have c1 := add64_run (wd S 1) c 0 (by omega) (by omega) (by omega) (by omega)
          have e1 : (wd S 1 + c) % 18446744073709551616 = (S + c) % 18446744073709551616 := by omega
          have e2 : IntKind.u64.wrap (wd S 0 + (wd S 1 + c) / 18446744073709551616) = (S + c) / 18446744073709551616 := by rw [u64w _ (by omega) (by omega)]; omega
          have m1 := mask51 ((S + c) % 18446744073709551616) (by omega) (by omega)
          have e3 : IntKind.u64.wrap ((S + c) / 18446744073709551616 * 8192) = (S + c) / 18446744073709551616 * 8192 := u64w _ (by omega) (by omega)
          have e4 := or13 ((S + c) / 18446744073709551616) ((S + c) % 18446744073709551616 / 2251799813685248) (by omega) (by omega)
          have HE5 : Aside0 ((S + c) / 18446744073709551616 * 8192 + (S + c) % 18446744073709551616 / 2251799813685248 = (S + c) / 2251799813685248) := ⟨by omega⟩
          have HE6 : Aside0 ((S + c) % 18446744073709551616 % 2251799813685248 = (S + c) % 2251799813685248) := ⟨by omega⟩
          clear hcb hsb hw0 hw1 hSe hce hix
          have HNw := Aside0.mk (Row.new wr .u64 2 (fun _ => 0) 84)
          have HZa := Aside0.mk (HZ.out.alloc (.cells (FR .u64 2 fun _ => 0) 84))
          have HOa := Aside0.mk (HO2.out.alloc (.cells (FR .u64 2 fun _ => 0) 84))
          have HBa := Aside0.mk (HB.out.alloc (by omega) (.cells (FR .u64 2 fun _ => 0) 84))
          go_wp2_with (refine step_storeG (wd S) HNw.out info62 rfl rfl rfl rfl rfl ?_; intro w9 hs hr; have HS9 := Aside0.mk hs; have kk0 := hr.cell 0 (by omega); have kk1 := hr.cell 1 (by omega); have ho9 := HOa.out.stored hs (by omega); have HO9 := Aside0.mk ho9; have fi := ho9.fro i; have ki := ho9.cell i (by omega); clear hs hr ho9)
          have HB9 := Aside0.mk (HS9.out.bel _ _ (by omega) HBa.out)
          have HZ9 := Aside0.mk (HZa.out.stored HS9.out (by omega))
          refine ⟨⟨i + 1, by omega, rfl, by rw [HE5.out, HMS.out], bel_set HB9.out ⟨bl, i, none⟩ _ (by simp; omega), HZ9.out.other ⟨bl, i, none⟩ _ (by simp; omega), ?_⟩, meas_up 5 i (by omega)⟩
          rw [← HML.out]
          exact part_step (F := mulL f g) (a := ⟨0, 0, none⟩) HO9.out h5
        · obtain rfl : i = 5 := by omega
          have HO3 := row_eq HO2.out (f' := mulL f g) (fun j hj => if_pos hj)
          have k0 := HO3.cell 0 (by omega)
          have f0 := HO3.fro 0
          have HSB := Aside0.mk (mulS_b f g HF.out HG.out)
          have h5c := mc_five f g HF.out HG.out
          have hb0 := mulL_b f g 0
          have q1 : IntKind.u64.wrap (19 * mc f g 5) = 19 * mc f g 5 := u64w _ (by omega) (by omega)
          have q2 : IntKind.u64.wrap (mulL f g 0 + 19 * mc f g 5) = mulL f g 0 + 19 * mc f g 5 := u64w _ (by omega) (by omega)
          have HRS := Aside0.mk (HO3.set 0 (mulL f g 0 + 19 * mc f g 5) (by omega))
          have HBS := Aside0.mk (bel_set HB.out ⟨bl, 0, none⟩ (.int .u64 (mulL f g 0 + 19 * mc f g 5)) (by simp; omega))
          have HZS := Aside0.mk (HZ.out.other ⟨bl, 0, none⟩ (.int .u64 (mulL f g 0 + 19 * mc f g 5)) (by simp; omega))
          clear h5c hb0 HO2 HO3 HB HZ
          go_wp2_with (refine step_load HRS.out Tryd.underlying24 info25 rfl rfl rfl rfl ?_)
          refine (carr_calls _ _ HSB.out).mono ?_
          rintro e w1 ⟨rfl, hb⟩
          have HZ1 := Aside0.mk (HZS.out.below hb HZS.out.lt)
          have HB1 := Aside0.mk (HBS.out.trans (hb.mono HBS.out.size))
          clear hb
          go_wp2_with (refine step_storeG _ HZ1.out info27 rfl rfl rfl rfl rfl ?_; intro w9 hs hr; have HS9 := Aside0.mk hs; have HR9 := Aside0.mk hr; clear hs hr)
          refine bodyPost_ret (row_results rfl HR9.out rfl Tryd.underlying26 rfl info27) rfl ?_
          exact ⟨rfl, HS9.out.bel _ _ (by omega) HB1.out⟩
end Go.Proofs.YtaaipbhfikefaaaDoor.P.Fd
end
