/- Texts F1, F2, F3, F4, F5, R0, C1, C2, C3, C4, A1, A2, C5, A3, A4, P1, V1 of this session, in one (wip/tools/merge.py). -/
import Derived.Test.YthonoagpiofojaaProg
import Derived.Below
import Derived.OwnWalk
import Derived.Laws.OwnMore
import Derived.Tactics
import Derived.Laws.Slices
import Derived.WalkKit
import Derived.KernelRfl
import Derived.Deep.LoopGhost
import Derived.Deep.QuietTactic
import Derived.BigQuiet
import Derived.Deep.CutBlock
import Derived.Laws.BitsLemmas
import Derived.Laws.BitsAllLaws
import Derived.Laws.Rows
import Derived.Laws.NewBlocks
import Derived.RowKit
import Derived.Laws.IdiomCopy
import Derived.Deep.RegionHeld3
import Derived.ChangeKeysEq
namespace Go.Proofs.Ythonoagpiofojaa.P
section
set_option linter.unusedVariables false
set_option linter.unusedSimpArgs false
open Go.RowKit
/-- A fact that the walk shall not use. -/
structure Aside0 (p : Prop) : Prop where
  out : p
theorem bel_drewN {B : Nat} {w W : World} (h : Below B w W) (n : Nat) : Below B w (W.drewN n) := ⟨h.os, h.tape, h.output, h.size, h.block⟩
theorem bel_two (w : World) (a b : Obj) : Below w.heap.size w ((w.alloc a).alloc b) := ((Below.refl _ _).alloc (Nat.le_refl _) a).alloc (by have := ((Below.refl w.heap.size w).alloc (Nat.le_refl _) a).size; exact this) b
/-- Five limbs as a value. -/
def E5 (x0 x1 x2 x3 x4 : Int) : Value := .agg #[.int .u64 x0, .int .u64 x1, .int .u64 x2, .int .u64 x3, .int .u64 x4]
theorem mask51 (x : Int) (h0 : 0 ≤ x) (h1 : x < 18446744073709551616) : Go.bits .and .u64 x 2251799813685247 = x % 2251799813685248 := by
  rw [u64_and _ _ h0 h1 (by omega) (by omega), show (2251799813685247 : Int).toNat = 2 ^ 51 - 1 from rfl, Nat.and_two_pow_sub_one_eq_mod]
  omega
theorem u64w (x : Int) (h0 : 0 ≤ x) (h1 : x < 18446744073709551616) : IntKind.u64.wrap x = x := by
  have : x % 18446744073709551616 = x := by omega
  exact this
/-- What carries from limb i on do. -/
def cfrom : Nat → Int → Int → Int → Int → Int → Int × Int × Int × Int × Int
  | 0, y0, y1, y2, y3, y4 => cfrom3 (y0 % 2251799813685248) (y1 + y0 / 2251799813685248) y2 y3 y4
  | 1, y0, y1, y2, y3, y4 => cfrom2 y0 y1 y2 y3 y4
  | 2, y0, y1, y2, y3, y4 => cfrom1 y0 y1 y2 y3 y4
  | 3, y0, y1, y2, y3, y4 => (y0, y1, y2, y3 % 2251799813685248, y4 + y3 / 2251799813685248)
  | _, y0, y1, y2, y3, y4 => (y0, y1, y2, y3, y4)
where
  cfrom1 (y0 y1 y2 y3 y4 : Int) : Int × Int × Int × Int × Int := (y0, y1, y2 % 2251799813685248, (y3 + y2 / 2251799813685248) % 2251799813685248, y4 + (y3 + y2 / 2251799813685248) / 2251799813685248)
  cfrom2 (y0 y1 y2 y3 y4 : Int) : Int × Int × Int × Int × Int := cfrom1 y0 (y1 % 2251799813685248) (y2 + y1 / 2251799813685248) y3 y4
  cfrom3 (y0 y1 y2 y3 y4 : Int) : Int × Int × Int × Int × Int := cfrom2 y0 y1 y2 y3 y4
/-- What carried answers. -/
def carriedZ (x0 x1 x2 x3 x4 : Int) : Int × Int × Int × Int × Int := cfrom 0 (x0 + 19 * (x4 / 2251799813685248)) x1 x2 x3 (x4 % 2251799813685248)
def E5t (t : Int × Int × Int × Int × Int) : Value := E5 t.1 t.2.1 t.2.2.1 t.2.2.2.1 t.2.2.2.2
def inB' (i : Nat) (y0 y1 y2 y3 y4 : Int) : Prop := (0 ≤ y0 ∧ y0 ≤ 9223372036854775808 + 100000) ∧ (0 ≤ y1 ∧ y1 ≤ 9223372036854775808 + 100000 * (if i < 1 then 0 else 1)) ∧ (0 ≤ y2 ∧ y2 ≤ 9223372036854775808 + 100000 * (if i < 2 then 0 else 1)) ∧ (0 ≤ y3 ∧ y3 ≤ 9223372036854775808 + 100000 * (if i < 3 then 0 else 1)) ∧ (0 ≤ y4 ∧ y4 ≤ 9223372036854775808 + 100000 * (if i < 4 then 0 else 1))
@[local go_sem] theorem setCell_drewN (w : World) (n : Nat) (a : Addr) (v : Value) : (w.drewN n).setCell a v = (w.setCell a v).drewN n := rfl
def CRel (w : World) (x0 x1 x2 x3 x4 : Int) (v18 : Value) (wr : World) : Prop :=
  ∃ (i m : Nat) (y0 y1 y2 y3 y4 : Int), i ≤ 4 ∧ v18 = .int .i64 (i : Int) ∧ inB' i y0 y1 y2 y3 y4 ∧ carriedZ x0 x1 x2 x3 x4 = cfrom i y0 y1 y2 y3 y4 ∧
    wr = ((w.alloc (.cells #[.int .u64 y0, .int .u64 y1, .int .u64 y2, .int .u64 y3, .int .u64 y4] 25)).alloc (.cells #[.int .u64 0, .int .u64 0, .int .u64 0, .int .u64 0, .int .u64 0] 27)).drewN m
theorem carried_calls (x0 x1 x2 x3 x4 : Int) (w : World) (b0 : 0 ≤ x0 ∧ x0 ≤ 9223372036854775808) (b1 : 0 ≤ x1 ∧ x1 ≤ 9223372036854775808) (b2 : 0 ≤ x2 ∧ x2 ≤ 9223372036854775808) (b3 : 0 ≤ x3 ∧ x3 ≤ 9223372036854775808) (b4 : 0 ≤ x4 ∧ x4 ≤ 9223372036854775808) :
    Calls Try.prog 34 #[E5 x0 x1 x2 x3 x4] w fun e w' => e = .returned (E5t (carriedZ x0 x1 x2 x3 x4)) ∧ Below w.heap.size w w' := by
  have m4 := mask51 x4 (by omega) (by omega)
  have w1 := u64w (19 * (x4 / 2251799813685248)) (by omega) (by omega)
  have w2 := u64w (x0 + 19 * (x4 / 2251799813685248)) (by omega) (by omega)
  have HB := Aside0.mk (show inB' 0 (x0 + 19 * (x4 / 2251799813685248)) x1 x2 x3 (x4 % 2251799813685248) from by unfold inB'; omega)
  clear b0 b1 b2 b3 b4
  unfold E5
  go_enter Try.func34, Try.ntmps34
  go_wp2
  go_loopw [18] (fun v18 wr => CRel w x0 x1 x2 x3 x4 v18 wr) (fun v _ => 4 - (intOf v).toNat)
  case atStart => exact ⟨0, 0, _, _, _, _, _, by omega, rfl, HB.out, rfl, rfl⟩
  case round =>
    obtain ⟨i, m, y0, y1, y2, y3, y4, hi, rfl, hb, hcz, rfl⟩ := hrel
    have HC := Aside0.mk hcz
    have HBB := Aside0.mk hb
    clear hcz hb m4 w1 w2
    have hc : i = 0 ∨ i = 1 ∨ i = 2 ∨ i = 3 ∨ i = 4 := by omega
    rcases hc with rfl | rfl | rfl | rfl | rfl
    · have hb := HBB.out
      unfold inB' at hb
      have a1 := mask51 y0 (by omega) (by omega)
      have a2 := u64w (y1 + y0 / 2251799813685248) (by omega) (by omega)
      have HN := Aside0.mk (show inB' 1 (y0 % 2251799813685248) (y1 + y0 / 2251799813685248) y2 y3 y4 from by unfold inB'; omega)
      clear hb
      go_wp2_with fail
      go_region
      go_wp2_with fail
      exact ⟨⟨1, m + 1, (y0 % 2251799813685248), (y1 + y0 / 2251799813685248), y2, y3, y4, by omega, rfl, HN.out, HC.out, rfl⟩, by decide⟩
    · have hb := HBB.out
      unfold inB' at hb
      have a1 := mask51 y1 (by omega) (by omega)
      have a2 := u64w (y2 + y1 / 2251799813685248) (by omega) (by omega)
      have HN := Aside0.mk (show inB' 2 y0 (y1 % 2251799813685248) (y2 + y1 / 2251799813685248) y3 y4 from by unfold inB'; omega)
      clear hb
      go_wp2_with fail
      go_region
      go_wp2_with fail
      exact ⟨⟨2, m + 1, y0, (y1 % 2251799813685248), (y2 + y1 / 2251799813685248), y3, y4, by omega, rfl, HN.out, HC.out, rfl⟩, by decide⟩
    · have hb := HBB.out
      unfold inB' at hb
      have a1 := mask51 y2 (by omega) (by omega)
      have a2 := u64w (y3 + y2 / 2251799813685248) (by omega) (by omega)
      have HN := Aside0.mk (show inB' 3 y0 y1 (y2 % 2251799813685248) (y3 + y2 / 2251799813685248) y4 from by unfold inB'; omega)
      clear hb
      go_wp2_with fail
      go_region
      go_wp2_with fail
      exact ⟨⟨3, m + 1, y0, y1, (y2 % 2251799813685248), (y3 + y2 / 2251799813685248), y4, by omega, rfl, HN.out, HC.out, rfl⟩, by decide⟩
    · have hb := HBB.out
      unfold inB' at hb
      have a1 := mask51 y3 (by omega) (by omega)
      have a2 := u64w (y4 + y3 / 2251799813685248) (by omega) (by omega)
      have HN := Aside0.mk (show inB' 4 y0 y1 y2 (y3 % 2251799813685248) (y4 + y3 / 2251799813685248) from by unfold inB'; omega)
      clear hb
      go_wp2_with fail
      go_region
      go_wp2_with fail
      exact ⟨⟨4, m + 1, y0, y1, y2, (y3 % 2251799813685248), (y4 + y3 / 2251799813685248), by omega, rfl, HN.out, HC.out, rfl⟩, by decide⟩
    · go_wp2_with fail
      refine bodyPost_ret (results_cell_row rfl _ _ (w.heap.size + 1) 27 #[.int .u64 y0, .int .u64 y1, .int .u64 y2, .int .u64 y3, .int .u64 y4] (0, 0) _ rfl (heap_alloc2_new w _ _) Try.underlying27 rfl (by kernel_rfl)) rfl ?_
      refine ⟨?_, ?_⟩
      · rw [HC.out]; rfl
      · exact bel_drewN ((bel_two w _ _)) _
end
section
set_option linter.unusedVariables false
set_option linter.unusedSimpArgs false
open Go.RowKit
attribute [local go_sem] setCell_drewN
theorem small_calls (n : Int) (w : World) (h0 : 0 ≤ n) (h1 : n < 4294967296) :
    Calls Try.prog 11 #[.int .u32 n] w fun e w' => e = .returned (E5 n 0 0 0 0) ∧ Below w.heap.size w w' := by
  have hw : IntKind.u64.wrap n = n := u64w n h0 (by omega)
  go_enter Try.func11, Try.ntmps11
  go_wp2
  refine bodyPost_ret (results_cell_row rfl _ _ w.heap.size 27 #[.int .u64 n, .int .u64 0, .int .u64 0, .int .u64 0, .int .u64 0] (0, 0) _ rfl (heap_alloc_new w _) Try.underlying27 rfl (by kernel_rfl)) rfl ?_
  exact ⟨rfl, (Below.refl _ _).alloc (Nat.le_refl _) _⟩
theorem three_new (w : World) (a b c : Obj) : (((w.alloc a).alloc b).alloc c).heap[w.heap.size + 1 + 1]? = some c := by
  have h := heap_alloc_new ((w.alloc a).alloc b) c
  have e : ((w.alloc a).alloc b).heap.size = w.heap.size + 1 + 1 := by simp
  rwa [e] at h
theorem bel_three (w : World) (a b c : Obj) : Below w.heap.size w (((w.alloc a).alloc b).alloc c) := (bel_two w a b).alloc (bel_two w a b).size c
theorem set5_row {w : World} {g : Nat} {t0 t1 t2 t3 t4 a0 a1 a2 a3 a4 : Value} {t : TypeId} (h : w.heap[g]? = some (.cells #[a0, a1, a2, a3, a4] t (0, 0))) :
    (((((w.setCell ⟨g, 0, none⟩ t0).setCell ⟨g, 1, none⟩ t1).setCell ⟨g, 2, none⟩ t2).setCell ⟨g, 3, none⟩ t3).setCell ⟨g, 4, none⟩ t4).heap[g]? = some (.cells #[t0, t1, t2, t3, t4] t (0, 0)) := by
  have h0 := heap_setCell_same w g 0 _ t t0 h
  have h1 := heap_setCell_same _ g 1 _ t t1 h0
  have h2 := heap_setCell_same _ g 2 _ t t2 h1
  have h3 := heap_setCell_same _ g 3 _ t t3 h2
  have h4 := heap_setCell_same _ g 4 _ t t4 h3
  exact h4
theorem bel_set {B : Nat} {w W : World} (h : Below B w W) (a : Addr) (v : Value) (ha : B ≤ a.block) : Below B w (W.setCell a v) := h.setCell ha v
theorem set5_bel {B g : Nat} {w W : World} {t0 t1 t2 t3 t4 : Value} (h : Below B w W) (hg : B ≤ g) :
    Below B w (((((W.setCell ⟨g, 0, none⟩ t0).setCell ⟨g, 1, none⟩ t1).setCell ⟨g, 2, none⟩ t2).setCell ⟨g, 3, none⟩ t3).setCell ⟨g, 4, none⟩ t4) :=
  bel_set (bel_set (bel_set (bel_set (bel_set h _ _ hg) _ _ hg) _ _ hg) _ _ hg) _ _ hg
def cells5 (y0 y1 y2 y3 y4 : Int) : Obj := .cells #[.int .u64 y0, .int .u64 y1, .int .u64 y2, .int .u64 y3, .int .u64 y4] 27
theorem carried_b (x0 x1 x2 x3 x4 : Int) (w : World) (h : ∀ x ∈ [x0, x1, x2, x3, x4], 0 ≤ x ∧ x ≤ 9223372036854775808) :
    Calls Try.prog 34 #[.agg #[.int .u64 x0, .int .u64 x1, .int .u64 x2, .int .u64 x3, .int .u64 x4]] w fun e w' => e = .returned (E5t (carriedZ x0 x1 x2 x3 x4)) ∧ Below w.heap.size w w' :=
  carried_calls x0 x1 x2 x3 x4 w (h _ (by simp)) (h _ (by simp)) (h _ (by simp)) (h _ (by simp)) (h _ (by simp))
/-- The world of the loop behind i rounds. -/
def addW (w : World) (x0 x1 x2 x3 x4 z0 z1 z2 z3 z4 : Int) : Nat → World
  | 0 => ((w.alloc (.cells #[.int .u64 (x0), .int .u64 (x1), .int .u64 (x2), .int .u64 (x3), .int .u64 (x4)] 27)).alloc (.cells #[.int .u64 z0, .int .u64 z1, .int .u64 z2, .int .u64 z3, .int .u64 z4] 27)).alloc (.cells #[.int .u64 0, .int .u64 0, .int .u64 0, .int .u64 0, .int .u64 0] 27)
  | 1 => ((w.alloc (.cells #[.int .u64 (x0 + z0), .int .u64 (x1), .int .u64 (x2), .int .u64 (x3), .int .u64 (x4)] 27)).alloc (.cells #[.int .u64 z0, .int .u64 z1, .int .u64 z2, .int .u64 z3, .int .u64 z4] 27)).alloc (.cells #[.int .u64 0, .int .u64 0, .int .u64 0, .int .u64 0, .int .u64 0] 27)
  | 2 => ((w.alloc (.cells #[.int .u64 (x0 + z0), .int .u64 (x1 + z1), .int .u64 (x2), .int .u64 (x3), .int .u64 (x4)] 27)).alloc (.cells #[.int .u64 z0, .int .u64 z1, .int .u64 z2, .int .u64 z3, .int .u64 z4] 27)).alloc (.cells #[.int .u64 0, .int .u64 0, .int .u64 0, .int .u64 0, .int .u64 0] 27)
  | 3 => ((w.alloc (.cells #[.int .u64 (x0 + z0), .int .u64 (x1 + z1), .int .u64 (x2 + z2), .int .u64 (x3), .int .u64 (x4)] 27)).alloc (.cells #[.int .u64 z0, .int .u64 z1, .int .u64 z2, .int .u64 z3, .int .u64 z4] 27)).alloc (.cells #[.int .u64 0, .int .u64 0, .int .u64 0, .int .u64 0, .int .u64 0] 27)
  | 4 => ((w.alloc (.cells #[.int .u64 (x0 + z0), .int .u64 (x1 + z1), .int .u64 (x2 + z2), .int .u64 (x3 + z3), .int .u64 (x4)] 27)).alloc (.cells #[.int .u64 z0, .int .u64 z1, .int .u64 z2, .int .u64 z3, .int .u64 z4] 27)).alloc (.cells #[.int .u64 0, .int .u64 0, .int .u64 0, .int .u64 0, .int .u64 0] 27)
  | _ => ((w.alloc (.cells #[.int .u64 (x0 + z0), .int .u64 (x1 + z1), .int .u64 (x2 + z2), .int .u64 (x3 + z3), .int .u64 (x4 + z4)] 27)).alloc (.cells #[.int .u64 z0, .int .u64 z1, .int .u64 z2, .int .u64 z3, .int .u64 z4] 27)).alloc (.cells #[.int .u64 0, .int .u64 0, .int .u64 0, .int .u64 0, .int .u64 0] 27)
def addRel (w : World) (x0 x1 x2 x3 x4 z0 z1 z2 z3 z4 : Int) (v6 : Value) (wr : World) : Prop :=
  ∃ (i m : Nat), i ≤ 5 ∧ v6 = .int .i64 (i : Int) ∧ wr = (addW w x0 x1 x2 x3 x4 z0 z1 z2 z3 z4 i).drewN m
theorem add_calls (x0 x1 x2 x3 x4 z0 z1 z2 z3 z4 : Int) (w : World) (hx : ∀ x ∈ [x0, x1, x2, x3, x4], 0 ≤ x ∧ x < 4503599627370496) (hz : ∀ x ∈ [z0, z1, z2, z3, z4], 0 ≤ x ∧ x < 4503599627370496) :
    Calls Try.prog 20 #[E5 x0 x1 x2 x3 x4, E5 z0 z1 z2 z3 z4] w fun e w' => e = .returned (E5t (carriedZ (x0 + z0) (x1 + z1) (x2 + z2) (x3 + z3) (x4 + z4))) ∧ Below w.heap.size w w' := by
  have a0 := hx x0 (by simp); have a1 := hx x1 (by simp); have a2 := hx x2 (by simp); have a3 := hx x3 (by simp); have a4 := hx x4 (by simp)
  have b0 := hz z0 (by simp); have b1 := hz z1 (by simp); have b2 := hz z2 (by simp); have b3 := hz z3 (by simp); have b4 := hz z4 (by simp)
  have w00 : IntKind.u64.wrap (x0 + z0) = x0 + z0 := u64w _ (by omega) (by omega)
  have w10 : IntKind.u64.wrap (x1 + z1) = x1 + z1 := u64w _ (by omega) (by omega)
  have w20 : IntKind.u64.wrap (x2 + z2) = x2 + z2 := u64w _ (by omega) (by omega)
  have w30 : IntKind.u64.wrap (x3 + z3) = x3 + z3 := u64w _ (by omega) (by omega)
  have w40 : IntKind.u64.wrap (x4 + z4) = x4 + z4 := u64w _ (by omega) (by omega)
  have HC := Aside0.mk (fun w => carried_b (x0 + z0) (x1 + z1) (x2 + z2) (x3 + z3) (x4 + z4) w (by intro x hx; simp only [List.mem_cons, List.not_mem_nil, or_false] at hx; omega))
  clear hx hz a0 a1 a2 a3 a4 b0 b1 b2 b3 b4
  unfold E5
  go_enter Try.func20, Try.ntmps20
  go_wp2
  go_loopw [6] (fun v6 wr => addRel w x0 x1 x2 x3 x4 z0 z1 z2 z3 z4 v6 wr) (fun v _ => 5 - (intOf v).toNat)
  case atStart => exact ⟨0, 0, by omega, rfl, rfl⟩
  case round =>
    obtain ⟨i, m, hi, rfl, rfl⟩ := hrel
    have hc : i = 0 ∨ i = 1 ∨ i = 2 ∨ i = 3 ∨ i = 4 ∨ i = 5 := by omega
    rcases hc with rfl | rfl | rfl | rfl | rfl | rfl
    · simp only [addW]
      go_wp2_with fail
      try go_region
      all_goals go_wp2_with fail
      all_goals exact ⟨⟨1, m + 1, by omega, rfl, rfl⟩, by decide⟩
    · simp only [addW]
      go_wp2_with fail
      try go_region
      all_goals go_wp2_with fail
      all_goals exact ⟨⟨2, m + 1, by omega, rfl, rfl⟩, by decide⟩
    · simp only [addW]
      go_wp2_with fail
      try go_region
      all_goals go_wp2_with fail
      all_goals exact ⟨⟨3, m + 1, by omega, rfl, rfl⟩, by decide⟩
    · simp only [addW]
      go_wp2_with fail
      try go_region
      all_goals go_wp2_with fail
      all_goals exact ⟨⟨4, m + 1, by omega, rfl, rfl⟩, by decide⟩
    · simp only [addW]
      go_wp2_with fail
      try go_region
      all_goals go_wp2_with fail
      all_goals exact ⟨⟨5, m + 1, by omega, rfl, rfl⟩, by decide⟩
    · simp only [addW]
      go_wp2_with fail
      refine (HC.out _).mono ?_
      rintro e w1 ⟨rfl, hb⟩
      have hrow : w1.heap[w.heap.size + 1 + 1]? = some (.cells #[.int .u64 0, .int .u64 0, .int .u64 0, .int .u64 0, .int .u64 0] 27 (0, 0)) := (hb.block _ (by simp)).trans (three_new w _ _ _)
      have HBel := Aside0.mk ((bel_drewN (bel_three w _ _ _) m).trans (hb.mono (bel_drewN (bel_three w _ _ _) m).size))
      have hlt : w.heap.size + 1 + 1 < w1.heap.size := (Array.getElem?_eq_some_iff.1 hrow).1
      clear hb HC
      generalize ht : carriedZ (x0 + z0) (x1 + z1) (x2 + z2) (x3 + z3) (x4 + z4) = t
      obtain ⟨t0, t1, t2, t3, t4⟩ := t
      have HT := Aside0.mk ht
      clear ht
      simp only [E5t, E5]
      have k0 := cell_of_row w1 _ 0 _ _ _ hrow
      have k1 := cell_of_row w1 _ 1 _ _ _ hrow
      have k2 := cell_of_row w1 _ 2 _ _ _ hrow
      have k3 := cell_of_row w1 _ 3 _ _ _ hrow
      have k4 := cell_of_row w1 _ 4 _ _ _ hrow
      have f0 := frozen_of_row w1 _ 0 _ _ hrow
      have f1 := frozen_of_row w1 _ 1 _ _ hrow
      have f2 := frozen_of_row w1 _ 2 _ _ hrow
      have f3 := frozen_of_row w1 _ 3 _ _ hrow
      have f4 := frozen_of_row w1 _ 4 _ _ hrow
      go_wp2_with fail
      refine bodyPost_ret (results_cell_row rfl _ _ (w.heap.size + 1 + 1) 27 #[.int .u64 t0, .int .u64 t1, .int .u64 t2, .int .u64 t3, .int .u64 t4] (0, 0) _ rfl (set5_row hrow) Try.underlying27 rfl (by kernel_rfl)) rfl ?_
      exact ⟨by rw [HT.out]; rfl, set5_bel HBel.out (by omega)⟩
end
section
set_option linter.unusedVariables false
set_option linter.unusedSimpArgs false
open Go.RowKit
attribute [local go_sem] setCell_drewN
/-- The world of the loop behind i rounds. -/
def subW (w : World) (x0 x1 x2 x3 x4 z0 z1 z2 z3 z4 : Int) : Nat → World
  | 0 => ((w.alloc (.cells #[.int .u64 (x0), .int .u64 (x1), .int .u64 (x2), .int .u64 (x3), .int .u64 (x4)] 27)).alloc (.cells #[.int .u64 z0, .int .u64 z1, .int .u64 z2, .int .u64 z3, .int .u64 z4] 27)).alloc (.cells #[.int .u64 0, .int .u64 0, .int .u64 0, .int .u64 0, .int .u64 0] 27)
  | 1 => ((w.alloc (.cells #[.int .u64 (x0 + (9007199254740916 - z0)), .int .u64 (x1), .int .u64 (x2), .int .u64 (x3), .int .u64 (x4)] 27)).alloc (.cells #[.int .u64 z0, .int .u64 z1, .int .u64 z2, .int .u64 z3, .int .u64 z4] 27)).alloc (.cells #[.int .u64 0, .int .u64 0, .int .u64 0, .int .u64 0, .int .u64 0] 27)
  | 2 => ((w.alloc (.cells #[.int .u64 (x0 + (9007199254740916 - z0)), .int .u64 (x1 + (9007199254740988 - z1)), .int .u64 (x2), .int .u64 (x3), .int .u64 (x4)] 27)).alloc (.cells #[.int .u64 z0, .int .u64 z1, .int .u64 z2, .int .u64 z3, .int .u64 z4] 27)).alloc (.cells #[.int .u64 0, .int .u64 0, .int .u64 0, .int .u64 0, .int .u64 0] 27)
  | 3 => ((w.alloc (.cells #[.int .u64 (x0 + (9007199254740916 - z0)), .int .u64 (x1 + (9007199254740988 - z1)), .int .u64 (x2 + (9007199254740988 - z2)), .int .u64 (x3), .int .u64 (x4)] 27)).alloc (.cells #[.int .u64 z0, .int .u64 z1, .int .u64 z2, .int .u64 z3, .int .u64 z4] 27)).alloc (.cells #[.int .u64 0, .int .u64 0, .int .u64 0, .int .u64 0, .int .u64 0] 27)
  | 4 => ((w.alloc (.cells #[.int .u64 (x0 + (9007199254740916 - z0)), .int .u64 (x1 + (9007199254740988 - z1)), .int .u64 (x2 + (9007199254740988 - z2)), .int .u64 (x3 + (9007199254740988 - z3)), .int .u64 (x4)] 27)).alloc (.cells #[.int .u64 z0, .int .u64 z1, .int .u64 z2, .int .u64 z3, .int .u64 z4] 27)).alloc (.cells #[.int .u64 0, .int .u64 0, .int .u64 0, .int .u64 0, .int .u64 0] 27)
  | _ => ((w.alloc (.cells #[.int .u64 (x0 + (9007199254740916 - z0)), .int .u64 (x1 + (9007199254740988 - z1)), .int .u64 (x2 + (9007199254740988 - z2)), .int .u64 (x3 + (9007199254740988 - z3)), .int .u64 (x4 + (9007199254740988 - z4))] 27)).alloc (.cells #[.int .u64 z0, .int .u64 z1, .int .u64 z2, .int .u64 z3, .int .u64 z4] 27)).alloc (.cells #[.int .u64 0, .int .u64 0, .int .u64 0, .int .u64 0, .int .u64 0] 27)
def subRel (w : World) (x0 x1 x2 x3 x4 z0 z1 z2 z3 z4 : Int) (v6 : Value) (wr : World) : Prop :=
  ∃ (i m : Nat), i ≤ 5 ∧ v6 = .int .i64 (i : Int) ∧ wr = (subW w x0 x1 x2 x3 x4 z0 z1 z2 z3 z4 i).drewN m
theorem sub_calls (x0 x1 x2 x3 x4 z0 z1 z2 z3 z4 : Int) (w : World) (hx : ∀ x ∈ [x0, x1, x2, x3, x4], 0 ≤ x ∧ x < 4503599627370496) (hz : ∀ x ∈ [z0, z1, z2, z3, z4], 0 ≤ x ∧ x < 4503599627370496) :
    Calls Try.prog 22 #[E5 x0 x1 x2 x3 x4, E5 z0 z1 z2 z3 z4] w fun e w' => e = .returned (E5t (carriedZ (x0 + (9007199254740916 - z0)) (x1 + (9007199254740988 - z1)) (x2 + (9007199254740988 - z2)) (x3 + (9007199254740988 - z3)) (x4 + (9007199254740988 - z4)))) ∧ Below w.heap.size w w' := by
  have a0 := hx x0 (by simp); have a1 := hx x1 (by simp); have a2 := hx x2 (by simp); have a3 := hx x3 (by simp); have a4 := hx x4 (by simp)
  have b0 := hz z0 (by simp); have b1 := hz z1 (by simp); have b2 := hz z2 (by simp); have b3 := hz z3 (by simp); have b4 := hz z4 (by simp)
  have w00 : IntKind.u64.wrap (9007199254740916 - z0) = 9007199254740916 - z0 := u64w _ (by omega) (by omega)
  have w01 : IntKind.u64.wrap (x0 + (9007199254740916 - z0)) = x0 + (9007199254740916 - z0) := u64w _ (by omega) (by omega)
  have w10 : IntKind.u64.wrap (9007199254740988 - z1) = 9007199254740988 - z1 := u64w _ (by omega) (by omega)
  have w11 : IntKind.u64.wrap (x1 + (9007199254740988 - z1)) = x1 + (9007199254740988 - z1) := u64w _ (by omega) (by omega)
  have w20 : IntKind.u64.wrap (9007199254740988 - z2) = 9007199254740988 - z2 := u64w _ (by omega) (by omega)
  have w21 : IntKind.u64.wrap (x2 + (9007199254740988 - z2)) = x2 + (9007199254740988 - z2) := u64w _ (by omega) (by omega)
  have w30 : IntKind.u64.wrap (9007199254740988 - z3) = 9007199254740988 - z3 := u64w _ (by omega) (by omega)
  have w31 : IntKind.u64.wrap (x3 + (9007199254740988 - z3)) = x3 + (9007199254740988 - z3) := u64w _ (by omega) (by omega)
  have w40 : IntKind.u64.wrap (9007199254740988 - z4) = 9007199254740988 - z4 := u64w _ (by omega) (by omega)
  have w41 : IntKind.u64.wrap (x4 + (9007199254740988 - z4)) = x4 + (9007199254740988 - z4) := u64w _ (by omega) (by omega)
  have HC := Aside0.mk (fun w => carried_b (x0 + (9007199254740916 - z0)) (x1 + (9007199254740988 - z1)) (x2 + (9007199254740988 - z2)) (x3 + (9007199254740988 - z3)) (x4 + (9007199254740988 - z4)) w (by intro x hx; simp only [List.mem_cons, List.not_mem_nil, or_false] at hx; omega))
  clear hx hz a0 a1 a2 a3 a4 b0 b1 b2 b3 b4
  unfold E5
  go_enter Try.func22, Try.ntmps22
  go_wp2
  go_loopw [7] (fun v6 wr => subRel w x0 x1 x2 x3 x4 z0 z1 z2 z3 z4 v6 wr) (fun v _ => 5 - (intOf v).toNat)
  case atStart => exact ⟨0, 0, by omega, rfl, rfl⟩
  case round =>
    obtain ⟨i, m, hi, rfl, rfl⟩ := hrel
    have hc : i = 0 ∨ i = 1 ∨ i = 2 ∨ i = 3 ∨ i = 4 ∨ i = 5 := by omega
    rcases hc with rfl | rfl | rfl | rfl | rfl | rfl
    · simp only [subW]
      go_wp2_with fail
      try go_region
      all_goals go_wp2_with fail
      all_goals exact ⟨⟨1, m + 1, by omega, rfl, rfl⟩, by decide⟩
    · simp only [subW]
      go_wp2_with fail
      try go_region
      all_goals go_wp2_with fail
      all_goals exact ⟨⟨2, m + 1, by omega, rfl, rfl⟩, by decide⟩
    · simp only [subW]
      go_wp2_with fail
      try go_region
      all_goals go_wp2_with fail
      all_goals exact ⟨⟨3, m + 1, by omega, rfl, rfl⟩, by decide⟩
    · simp only [subW]
      go_wp2_with fail
      try go_region
      all_goals go_wp2_with fail
      all_goals exact ⟨⟨4, m + 1, by omega, rfl, rfl⟩, by decide⟩
    · simp only [subW]
      go_wp2_with fail
      try go_region
      all_goals go_wp2_with fail
      all_goals exact ⟨⟨5, m + 1, by omega, rfl, rfl⟩, by decide⟩
    · simp only [subW]
      go_wp2_with fail
      refine (HC.out _).mono ?_
      rintro e w1 ⟨rfl, hb⟩
      have hrow : w1.heap[w.heap.size + 1 + 1]? = some (.cells #[.int .u64 0, .int .u64 0, .int .u64 0, .int .u64 0, .int .u64 0] 27 (0, 0)) := (hb.block _ (by simp)).trans (three_new w _ _ _)
      have HBel := Aside0.mk ((bel_drewN (bel_three w _ _ _) m).trans (hb.mono (bel_drewN (bel_three w _ _ _) m).size))
      have hlt : w.heap.size + 1 + 1 < w1.heap.size := (Array.getElem?_eq_some_iff.1 hrow).1
      clear hb HC
      generalize ht : carriedZ (x0 + (9007199254740916 - z0)) (x1 + (9007199254740988 - z1)) (x2 + (9007199254740988 - z2)) (x3 + (9007199254740988 - z3)) (x4 + (9007199254740988 - z4)) = t
      obtain ⟨t0, t1, t2, t3, t4⟩ := t
      have HT := Aside0.mk ht
      clear ht
      simp only [E5t, E5]
      have k0 := cell_of_row w1 _ 0 _ _ _ hrow
      have k1 := cell_of_row w1 _ 1 _ _ _ hrow
      have k2 := cell_of_row w1 _ 2 _ _ _ hrow
      have k3 := cell_of_row w1 _ 3 _ _ _ hrow
      have k4 := cell_of_row w1 _ 4 _ _ _ hrow
      have f0 := frozen_of_row w1 _ 0 _ _ hrow
      have f1 := frozen_of_row w1 _ 1 _ _ hrow
      have f2 := frozen_of_row w1 _ 2 _ _ hrow
      have f3 := frozen_of_row w1 _ 3 _ _ hrow
      have f4 := frozen_of_row w1 _ 4 _ _ hrow
      go_wp2_with fail
      refine bodyPost_ret (results_cell_row rfl _ _ (w.heap.size + 1 + 1) 27 #[.int .u64 t0, .int .u64 t1, .int .u64 t2, .int .u64 t3, .int .u64 t4] (0, 0) _ rfl (set5_row hrow) Try.underlying27 rfl (by kernel_rfl)) rfl ?_
      exact ⟨by rw [HT.out]; rfl, set5_bel HBel.out (by omega)⟩
end
section
set_option linter.unusedVariables false
set_option linter.unusedSimpArgs false
open Go.RowKit
attribute [local go_sem] setCell_drewN
theorem neg_calls (z0 z1 z2 z3 z4 : Int) (w : World) (hz : ∀ x ∈ [z0, z1, z2, z3, z4], 0 ≤ x ∧ x < 4503599627370496) :
    Calls Try.prog 24 #[E5 z0 z1 z2 z3 z4] w fun e w' => e = .returned (E5t (carriedZ (0 + (9007199254740916 - z0)) (0 + (9007199254740988 - z1)) (0 + (9007199254740988 - z2)) (0 + (9007199254740988 - z3)) (0 + (9007199254740988 - z4)))) ∧ Below w.heap.size w w' := by
  have HC := Aside0.mk (fun w => sub_calls 0 0 0 0 0 z0 z1 z2 z3 z4 w (by intro x hx; simp only [List.mem_cons, List.not_mem_nil, or_false, or_self] at hx; omega) hz)
  clear hz
  generalize ht : carriedZ (0 + (9007199254740916 - z0)) (0 + (9007199254740988 - z1)) (0 + (9007199254740988 - z2)) (0 + (9007199254740988 - z3)) (0 + (9007199254740988 - z4)) = t at HC
  clear ht
  obtain ⟨t0, t1, t2, t3, t4⟩ := t
  simp only [E5t, E5] at HC ⊢
  go_enter Try.func24, Try.ntmps24
  go_wp2_with fail
  refine (HC.out _).mono ?_
  rintro e w1 ⟨rfl, hb⟩
  have hrow : w1.heap[w.heap.size + 1]? = some (.cells #[.int .u64 0, .int .u64 0, .int .u64 0, .int .u64 0, .int .u64 0] 27 (0, 0)) := (hb.block _ (by simp)).trans (heap_alloc2_new w _ _)
  have HBel := Aside0.mk ((bel_two w _ _).trans (hb.mono (bel_two w _ _).size))
  have hlt : w.heap.size + 1 < w1.heap.size := (Array.getElem?_eq_some_iff.1 hrow).1
  clear hb HC
  have k0 := cell_of_row w1 _ 0 _ _ _ hrow
  have k1 := cell_of_row w1 _ 1 _ _ _ hrow
  have k2 := cell_of_row w1 _ 2 _ _ _ hrow
  have k3 := cell_of_row w1 _ 3 _ _ _ hrow
  have k4 := cell_of_row w1 _ 4 _ _ _ hrow
  have f0 := frozen_of_row w1 _ 0 _ _ hrow
  have f1 := frozen_of_row w1 _ 1 _ _ hrow
  have f2 := frozen_of_row w1 _ 2 _ _ hrow
  have f3 := frozen_of_row w1 _ 3 _ _ hrow
  have f4 := frozen_of_row w1 _ 4 _ _ hrow
  go_wp2_with fail
  refine bodyPost_ret (results_cell_row rfl _ _ (w.heap.size + 1) 27 #[.int .u64 t0, .int .u64 t1, .int .u64 t2, .int .u64 t3, .int .u64 t4] (0, 0) _ rfl (set5_row hrow) Try.underlying27 rfl (by kernel_rfl)) rfl ?_
  exact ⟨rfl, set5_bel HBel.out (by omega)⟩
end
section
set_option linter.unusedVariables false
set_option linter.unusedSimpArgs false
open Go.RowKit
attribute [local go_sem] setCell_drewN
/-- Behind the bytes 7, 6 .. i: their number. -/
def ldZ (b : Nat → Int) : Nat → Int
  | 0 => 0
  | k + 1 => ldZ b k * 256 + b (7 - k)
theorem ldZ_b (b : Nat → Int) (hb : ∀ j, j < 8 → 0 ≤ b j ∧ b j < 256) : ∀ k : Nat, k ≤ 8 → 0 ≤ ldZ b k ∧ ldZ b k < 256 ^ k
  | 0, _ => ⟨by simp [ldZ], by simp [ldZ]⟩
  | k + 1, h => by
    have h1 := ldZ_b b hb k (by omega)
    have h2 := hb (7 - k) (by omega)
    have e : ldZ b (k + 1) = ldZ b k * 256 + b (7 - k) := rfl
    rw [e, Int.pow_succ]
    omega
theorem or256 (x y : Int) (h0 : 0 ≤ x ∧ x < 72057594037927936) (h1 : 0 ≤ y) (h2 : y < 256) : Go.bits .or .u64 (x * 256) y = x * 256 + y := by
  rw [u64_or _ _ (by omega) (by omega) (by omega) (by omega)]
  have e : (x * 256).toNat ||| y.toNat = x.toNat * 2 ^ 8 + y.toNat := by
    have : (x * 256).toNat = x.toNat * 2 ^ 8 := by omega
    rw [this, Nat.mul_comm, ← Nat.two_pow_add_eq_or_of_lt (by omega)]
  rw [e]
  omega
def LRel (b : Nat → Int) (w : World) (v4 v3 : Value) (wr : World) : Prop := ∃ i : Nat, i ≤ 8 ∧ v4 = .int .i64 (7 - (i : Int)) ∧ v3 = .int .u64 (ldZ b i) ∧ wr = w
theorem load_calls (b : Nat → Int) (g off n c : Nat) (w : World) (hn : 8 ≤ n) (hb : ∀ j, j < 8 → 0 ≤ b j ∧ b j < 256) (hc : ∀ j, j < 8 → w.cell? ⟨g, off + j, none⟩ = some (.int .u8 (b j))) :
    Calls Try.prog 35 #[.slice (some ⟨g, off, none⟩) n c] w fun e w' => e = .returned (.int .u64 (ldZ b 8)) ∧ w' = w := by
  go_enter Try.func35, Try.ntmps35
  go_wp2
  go_loopw [3, 4] (fun v3 v4 wr => LRel b w v4 v3 wr) (fun _ v _ => ((intOf v) + 1).toNat)
  case atStart => exact ⟨0, by omega, rfl, rfl, rfl⟩
  case round =>
    obtain ⟨i, hi, rfl, rfl, rfl⟩ := hrel
    have hcase : i = 0 ∨ i = 1 ∨ i = 2 ∨ i = 3 ∨ i = 4 ∨ i = 5 ∨ i = 6 ∨ i = 7 ∨ i = 8 := by omega
    rcases hcase with rfl | rfl | rfl | rfl | rfl | rfl | rfl | rfl | rfl
    · have hcj := hc 7 (by omega)
      have hbj := hb 7 (by omega)
      have hlt : ((7 : Int) < (n : Int)) = True := eq_true (by omega)
      have hX := ldZ_b b hb 0 (by omega)
      have e1 : ldZ b 1 = ldZ b 0 * 256 + b 7 := rfl
      have hw1 : IntKind.u64.wrap (ldZ b 0 * 256) = ldZ b 0 * 256 := u64w _ (by omega) (by omega)
      have hw2 : IntKind.u64.wrap (b 7) = b 7 := u64w _ (by omega) (by omega)
      have hor := or256 (ldZ b 0) (b 7) (by omega) (by omega) (by omega)
      have HE := Aside0.mk e1
      clear hX hbj hb hc e1
      go_wp2_with fail
      exact ⟨⟨1, by omega, rfl, by rw [HE.out], rfl⟩, by decide⟩
    · have hcj := hc 6 (by omega)
      have hbj := hb 6 (by omega)
      have hlt : ((6 : Int) < (n : Int)) = True := eq_true (by omega)
      have hX := ldZ_b b hb 1 (by omega)
      have e1 : ldZ b 2 = ldZ b 1 * 256 + b 6 := rfl
      have hw1 : IntKind.u64.wrap (ldZ b 1 * 256) = ldZ b 1 * 256 := u64w _ (by omega) (by omega)
      have hw2 : IntKind.u64.wrap (b 6) = b 6 := u64w _ (by omega) (by omega)
      have hor := or256 (ldZ b 1) (b 6) (by omega) (by omega) (by omega)
      have HE := Aside0.mk e1
      clear hX hbj hb hc e1
      go_wp2_with fail
      exact ⟨⟨2, by omega, rfl, by rw [HE.out], rfl⟩, by decide⟩
    · have hcj := hc 5 (by omega)
      have hbj := hb 5 (by omega)
      have hlt : ((5 : Int) < (n : Int)) = True := eq_true (by omega)
      have hX := ldZ_b b hb 2 (by omega)
      have e1 : ldZ b 3 = ldZ b 2 * 256 + b 5 := rfl
      have hw1 : IntKind.u64.wrap (ldZ b 2 * 256) = ldZ b 2 * 256 := u64w _ (by omega) (by omega)
      have hw2 : IntKind.u64.wrap (b 5) = b 5 := u64w _ (by omega) (by omega)
      have hor := or256 (ldZ b 2) (b 5) (by omega) (by omega) (by omega)
      have HE := Aside0.mk e1
      clear hX hbj hb hc e1
      go_wp2_with fail
      exact ⟨⟨3, by omega, rfl, by rw [HE.out], rfl⟩, by decide⟩
    · have hcj := hc 4 (by omega)
      have hbj := hb 4 (by omega)
      have hlt : ((4 : Int) < (n : Int)) = True := eq_true (by omega)
      have hX := ldZ_b b hb 3 (by omega)
      have e1 : ldZ b 4 = ldZ b 3 * 256 + b 4 := rfl
      have hw1 : IntKind.u64.wrap (ldZ b 3 * 256) = ldZ b 3 * 256 := u64w _ (by omega) (by omega)
      have hw2 : IntKind.u64.wrap (b 4) = b 4 := u64w _ (by omega) (by omega)
      have hor := or256 (ldZ b 3) (b 4) (by omega) (by omega) (by omega)
      have HE := Aside0.mk e1
      clear hX hbj hb hc e1
      go_wp2_with fail
      exact ⟨⟨4, by omega, rfl, by rw [HE.out], rfl⟩, by decide⟩
    · have hcj := hc 3 (by omega)
      have hbj := hb 3 (by omega)
      have hlt : ((3 : Int) < (n : Int)) = True := eq_true (by omega)
      have hX := ldZ_b b hb 4 (by omega)
      have e1 : ldZ b 5 = ldZ b 4 * 256 + b 3 := rfl
      have hw1 : IntKind.u64.wrap (ldZ b 4 * 256) = ldZ b 4 * 256 := u64w _ (by omega) (by omega)
      have hw2 : IntKind.u64.wrap (b 3) = b 3 := u64w _ (by omega) (by omega)
      have hor := or256 (ldZ b 4) (b 3) (by omega) (by omega) (by omega)
      have HE := Aside0.mk e1
      clear hX hbj hb hc e1
      go_wp2_with fail
      exact ⟨⟨5, by omega, rfl, by rw [HE.out], rfl⟩, by decide⟩
    · have hcj := hc 2 (by omega)
      have hbj := hb 2 (by omega)
      have hlt : ((2 : Int) < (n : Int)) = True := eq_true (by omega)
      have hX := ldZ_b b hb 5 (by omega)
      have e1 : ldZ b 6 = ldZ b 5 * 256 + b 2 := rfl
      have hw1 : IntKind.u64.wrap (ldZ b 5 * 256) = ldZ b 5 * 256 := u64w _ (by omega) (by omega)
      have hw2 : IntKind.u64.wrap (b 2) = b 2 := u64w _ (by omega) (by omega)
      have hor := or256 (ldZ b 5) (b 2) (by omega) (by omega) (by omega)
      have HE := Aside0.mk e1
      clear hX hbj hb hc e1
      go_wp2_with fail
      exact ⟨⟨6, by omega, rfl, by rw [HE.out], rfl⟩, by decide⟩
    · have hcj := hc 1 (by omega)
      have hbj := hb 1 (by omega)
      have hlt : ((1 : Int) < (n : Int)) = True := eq_true (by omega)
      have hX := ldZ_b b hb 6 (by omega)
      have e1 : ldZ b 7 = ldZ b 6 * 256 + b 1 := rfl
      have hw1 : IntKind.u64.wrap (ldZ b 6 * 256) = ldZ b 6 * 256 := u64w _ (by omega) (by omega)
      have hw2 : IntKind.u64.wrap (b 1) = b 1 := u64w _ (by omega) (by omega)
      have hor := or256 (ldZ b 6) (b 1) (by omega) (by omega) (by omega)
      have HE := Aside0.mk e1
      clear hX hbj hb hc e1
      go_wp2_with fail
      exact ⟨⟨7, by omega, rfl, by rw [HE.out], rfl⟩, by decide⟩
    · have hcj : wr.cell? ⟨g, off, none⟩ = some (.int .u8 (b 0)) := hc 0 (by omega)
      have hbj := hb 0 (by omega)
      have hlt : ((0 : Int) < (n : Int)) = True := eq_true (by omega)
      have hX := ldZ_b b hb 7 (by omega)
      have e1 : ldZ b 8 = ldZ b 7 * 256 + b 0 := rfl
      have hw1 : IntKind.u64.wrap (ldZ b 7 * 256) = ldZ b 7 * 256 := u64w _ (by omega) (by omega)
      have hw2 : IntKind.u64.wrap (b 0) = b 0 := u64w _ (by omega) (by omega)
      have hor := or256 (ldZ b 7) (b 0) (by omega) (by omega) (by omega)
      have HE := Aside0.mk e1
      clear hX hbj hb hc e1
      go_wp2_with fail
      exact ⟨⟨8, by omega, rfl, by rw [HE.out], rfl⟩, by decide⟩
    · go_wp2_with fail
      go_ret
      exact ⟨rfl, rfl⟩
end
section
set_option linter.unusedVariables false
set_option linter.unusedSimpArgs false
open Go.RowKit
/-- Values put one behind the other into a row. -/
def putA : Array Value → Nat → List Value → Array Value
  | cs, _, [] => cs
  | cs, o, v :: r => putA (cs.setIfInBounds o v) (o + 1) r
theorem setCells_row {g : Nat} {t : TypeId} : ∀ (vs : List Value) (o : Nat) (w : World) (cs : Array Value), w.heap[g]? = some (.cells cs t (0, 0)) → (w.setCells g o vs).heap[g]? = some (.cells (putA cs o vs) t (0, 0))
  | [], _, _, _, h => h
  | v :: r, o, w, cs, h => setCells_row r (o + 1) _ _ (heap_setCell_same w g o cs t v h)
theorem putA_size : ∀ (vs : List Value) (o : Nat) (cs : Array Value), (putA cs o vs).size = cs.size
  | [], _, _ => rfl
  | v :: r, o, cs => by rw [putA, putA_size r]; simp
theorem putA_get : ∀ (vs : List Value) (o : Nat) (cs : Array Value) (j : Nat), o + vs.length ≤ cs.size → (putA cs o vs)[j]? = if o ≤ j ∧ j < o + vs.length then vs[j - o]? else cs[j]?
  | [], o, cs, j, h => by
    have : ¬ (o ≤ j ∧ j < o + ([] : List Value).length) := by simp only [List.length_nil]; omega
    rw [if_neg this]; rfl
  | v :: r, o, cs, j, h => by
    simp only [List.length_cons] at h
    rw [putA, putA_get r (o + 1) _ j (by simp; omega)]
    simp only [List.length_cons]
    by_cases h1 : j = o
    · subst h1
      rw [if_neg (by omega), if_pos (by omega)]
      simp only [Nat.sub_self, List.getElem?_cons_zero]
      rw [Array.getElem?_setIfInBounds_self_of_lt (by omega)]
    · rw [Array.getElem?_setIfInBounds_ne (by omega)]
      by_cases h2 : o ≤ j ∧ j < o + (r.length + 1)
      · rw [if_pos (by omega), if_pos h2]
        have e : j - o = (j - (o + 1)) + 1 := by omega
        rw [e, List.getElem?_cons_succ]
      · rw [if_neg (by omega), if_neg h2]
theorem putA_full (vs : List Value) (cs : Array Value) (h : vs.length = cs.size) : putA cs 0 vs = vs.toArray := by
  apply Array.ext_getElem?
  intro j
  rw [putA_get vs 0 cs j (by omega)]
  simp only [Nat.zero_le, true_and, Nat.zero_add, Nat.sub_zero, List.getElem?_toArray]
  by_cases hj : j < vs.length
  · rw [if_pos hj]
  · rw [if_neg hj, Array.getElem?_eq_none (by omega), List.getElem?_eq_none (by omega)]
theorem row_set_all {w : World} {g : Nat} {t : TypeId} {cs vs : Array Value} (hg : w.heap[g]? = some (.cells cs t (0, 0))) (hs : vs.size = cs.size) : (w.setCells g 0 vs.toList).heap[g]? = some (.cells vs t (0, 0)) := by
  have h := setCells_row vs.toList 0 w cs hg
  rw [putA_full _ _ (by simpa using hs)] at h
  simpa using h
theorem bel_setCells {B g : Nat} {w : World} (hg : B ≤ g) : ∀ (vs : List Value) (o : Nat) (W : World), Below B w W → Below B w (W.setCells g o vs)
  | [], _, _, h => h
  | v :: r, o, W, h => bel_setCells hg r (o + 1) _ (h.setCell hg v)
theorem setCells_size (g : Nat) : ∀ (vs : List Value) (o : Nat) (W : World), (W.setCells g o vs).heap.size = W.heap.size
  | [], _, _ => rfl
  | v :: r, o, W => by rw [World.setCells, setCells_size g r]; simp [World.setCell]
theorem setCells_other {g k : Nat} (h : k ≠ g) : ∀ (vs : List Value) (o : Nat) (W : World), (W.setCells g o vs).heap[k]? = W.heap[k]?
  | [], _, _ => rfl
  | v :: r, o, W => by rw [World.setCells, setCells_other h r]; exact heap_setCell_other _ _ _ _ h
theorem run_storeVar_row {P : Program} (ty : TypeId) (ie : TypeInfo) (hie : P.info? ty = some ie) (g : Nat) (t : TypeId) (cs vs : Array Value) (w : World) (hg : w.heap[g]? = some (.cells cs t (0, 0))) (hs : vs.size = cs.size) (hi : cs.size = ie.size)
    (h1 : ∀ v ∈ vs.toList, v.oneCell' = true) : (storeVar ty ⟨g, 0, none⟩ (.agg vs)).run P w = .ok () (w.setCells g 0 vs.toList) := by
  have h := run_storeCells_cells (P := P) g 0 vs.toList 0 w
    (fun k hk => by
      rw [Nat.add_zero, Nat.zero_add, cell_of_row w g k cs t _ hg, Array.getElem?_eq_getElem (by simp at hk; omega)]; rfl)
    (fun k hk => frozen_of_row w g _ cs t hg) h1
  have hti : (typeInfo ty).run P w = .ok ie w := by simp [typeInfo, hie]
  simp [storeVar, Value.cells, sizeOf, hti, hs, hi, h, Result.andThen]
theorem wpList_store_row {P : Program} {ops : Array Oper} {rest : List Oper} {o : Oper} {a : Act} {w : World} {Q : Exit → Act → World → Prop} (hgd : o.guard = none) (ty : TypeId) (x y : Operand) (ho : o.op = .store ty x y)
    (g : Nat) (hx : a.eval x = .pointer (some ⟨g, 0, none⟩)) (vs : Array Value) (hy : a.eval y = .agg vs) (ie : TypeInfo) (hie : P.info? ty = some ie) (t : TypeId) (cs : Array Value) (hg : w.heap[g]? = some (.cells cs t (0, 0)))
    (hs : vs.size = cs.size) (hi : cs.size = ie.size) (h1 : ∀ v ∈ vs.toList, v.oneCell' = true)
    (h : wpList P ops Q rest (a.put o.dst undef) (w.setCells g 0 vs.toList)) : wpList P ops Q (o :: rest) a w := by
  refine wpList_plain hgd fun K hK => ?_
  unfold Oper.wp execOp
  simp only [ho, hx, hy, Instr.storeAt, Instr.sureAddr, Sem.run_bind, Sem.run_pure, Result.andThen_ok, run_storeVar_row ty ie hie g t cs vs w hg hs hi h1]
  exact hK _ _ h
/-- A row of n numbers of a kind. -/
def FR (k : IntKind) (n : Nat) (f : Nat → Int) : Array Value := ((List.range n).map fun i => Value.int k (f i)).toArray
theorem FR_size (k : IntKind) (n : Nat) (f : Nat → Int) : (FR k n f).size = n := by simp [FR]
theorem FR_at (k : IntKind) (n : Nat) (f : Nat → Int) (i : Nat) (h : i < n) : (FR k n f)[i]? = some (.int k (f i)) := by simp [FR, h]
theorem FR_out (k : IntKind) (n : Nat) (f : Nat → Int) (i : Nat) (h : ¬ i < n) : (FR k n f)[i]? = none := by
  apply Array.getElem?_eq_none; rw [FR_size]; omega
theorem FR_one (k : IntKind) (n : Nat) (f : Nat → Int) : ∀ v ∈ (FR k n f).toList, v.oneCell' = true := by
  intro v hv
  simp only [FR, List.mem_map] at hv
  obtain ⟨i, _, rfl⟩ := hv
  rfl
/-- A row with one number turned. -/
def upd (f : Nat → Int) (i : Nat) (x : Int) : Nat → Int := fun j => if j = i then x else f j
theorem upd_same (f : Nat → Int) (i : Nat) (x : Int) : upd f i x i = x := if_pos rfl
theorem upd_other (f : Nat → Int) (i j : Nat) (x : Int) (h : j ≠ i) : upd f i x j = f j := if_neg h
theorem FR_congr (k : IntKind) (n : Nat) (f f' : Nat → Int) (h : ∀ i, i < n → f i = f' i) : FR k n f = FR k n f' := by
  unfold FR
  congr 1
  apply List.map_congr_left
  intro i hi
  rw [h i (List.mem_range.1 hi)]
theorem FR_set (k : IntKind) (n : Nat) (f : Nat → Int) (i : Nat) (x : Int) (h : i < n) : (FR k n f).setIfInBounds i (.int k x) = FR k n (upd f i x) := by
  apply Array.ext_getElem?
  intro j
  by_cases hj : j = i
  · subst hj
    rw [Array.getElem?_setIfInBounds_self_of_lt (by rw [FR_size]; exact h), FR_at _ _ _ _ h, upd_same]
  · rw [Array.getElem?_setIfInBounds_ne (fun e => hj e.symm)]
    by_cases hn : j < n
    · rw [FR_at _ _ _ _ hn, FR_at _ _ _ _ hn, upd_other _ _ _ _ hj]
    · rw [FR_out _ _ _ _ hn, FR_out _ _ _ _ hn]
/-- A block that is a row of numbers. -/
def Row (w : World) (g : Nat) (k : IntKind) (n : Nat) (f : Nat → Int) (t : TypeId) : Prop := w.heap[g]? = some (.cells (FR k n f) t (0, 0))
theorem Row.cell {w : World} {g : Nat} {k : IntKind} {n : Nat} {f : Nat → Int} {t : TypeId} (h : Row w g k n f t) (i : Nat) (hi : i < n) : w.cell? ⟨g, i, none⟩ = some (.int k (f i)) := by
  rw [cell_of_row w g i _ t _ h, FR_at _ _ _ _ hi]
theorem Row.fro {w : World} {g : Nat} {k : IntKind} {n : Nat} {f : Nat → Int} {t : TypeId} (h : Row w g k n f t) (i : Nat) : w.frozen? ⟨g, i, none⟩ = false := frozen_of_row w g i _ t h
theorem Row.set {w : World} {g : Nat} {k : IntKind} {n : Nat} {f : Nat → Int} {t : TypeId} (h : Row w g k n f t) (i : Nat) (x : Int) (hi : i < n) : Row (w.setCell ⟨g, i, none⟩ (.int k x)) g k n (upd f i x) t := by
  have := heap_setCell_same w g i _ t (.int k x) h
  rwa [FR_set _ _ _ _ _ hi] at this
theorem Row.other {w : World} {g : Nat} {k : IntKind} {n : Nat} {f : Nat → Int} {t : TypeId} (h : Row w g k n f t) (a : Addr) (v : Value) (ha : g ≠ a.block) : Row (w.setCell a v) g k n f t :=
  (heap_setCell_other w a g v ha).trans h
theorem Row.lt {w : World} {g : Nat} {k : IntKind} {n : Nat} {f : Nat → Int} {t : TypeId} (h : Row w g k n f t) : g < w.heap.size := (Array.getElem?_eq_some_iff.1 h).1
theorem Row.alloc {w : World} {g : Nat} {k : IntKind} {n : Nat} {f : Nat → Int} {t : TypeId} (h : Row w g k n f t) (o : Obj) : Row (w.alloc o) g k n f t := by
  have hlt := h.lt
  have e : (w.alloc o).heap[g]? = w.heap[g]? := Below.heap_alloc w o g hlt
  exact e.trans h
theorem Row.new (w : World) (k : IntKind) (n : Nat) (f : Nat → Int) (t : TypeId) : Row (w.alloc (.cells (FR k n f) t)) w.heap.size k n f t := heap_alloc_new w _
theorem Row.below {w w' : World} {B g : Nat} {k : IntKind} {n : Nat} {f : Nat → Int} {t : TypeId} (h : Row w g k n f t) (hb : Below B w w') (hg : g < B) : Row w' g k n f t := (hb.block g hg).trans h
theorem Row.drewN {w : World} {g : Nat} {k : IntKind} {n : Nat} {f : Nat → Int} {t : TypeId} (h : Row w g k n f t) (m : Nat) : Row (w.drewN m) g k n f t := h
theorem Row.all {w : World} {g : Nat} {k : IntKind} {n : Nat} {f f' : Nat → Int} {t : TypeId} (h : Row w g k n f t) : Row (w.setCells g 0 (FR k n f').toList) g k n f' t := row_set_all h (by rw [FR_size, FR_size])
theorem Row.cells_other {w : World} {g g' : Nat} {k : IntKind} {n : Nat} {f : Nat → Int} {t : TypeId} (h : Row w g k n f t) (vs : List Value) (hg : g ≠ g') : Row (w.setCells g' 0 vs) g k n f t := (setCells_other hg vs 0 w).trans h
/-- A whole row of numbers, read. -/
theorem step_load {P : Program} {ops : Array Oper} {rest : List Oper} {o : Oper} {a : Act} {w : World} {Q : Exit → Act → World → Prop} {k : IntKind} {n : Nat} {f : Nat → Int} {t ty : TypeId} {x : Operand} {g : Nat} {d : TypeDesc}
    (hr : Row w g k n f t) (hu : P.underlying ty = some d) (hi : (P.info? ty).map (·.size) = some n) (hd : (match d with | .struct _ | .array _ _ => true | _ => false) = true) (hgd : o.guard = none) (ho : o.op = .load ty x) (hx : a.eval x = .pointer (some ⟨g, 0, none⟩))
    (h : wpList P ops Q rest (a.put o.dst (.agg (FR k n f))) w) : wpList P ops Q (o :: rest) a w :=
  wpList_load_row hgd ty x ho g hx t (FR k n f) (0, 0) d hr hu hd (by rw [FR_size]; exact hi) h
/-- A whole row of numbers, stored. -/
theorem step_store {P : Program} {ops : Array Oper} {rest : List Oper} {o : Oper} {a : Act} {w : World} {Q : Exit → Act → World → Prop} {k : IntKind} {n : Nat} {f : Nat → Int} {t ty : TypeId} {x y : Operand} {g : Nat}
    (f' : Nat → Int) (hr : Row w g k n f t) (hi : (P.info? ty).map (·.size) = some n) (hgd : o.guard = none) (hdst : o.dst = none) (ho : o.op = .store ty x y) (hx : a.eval x = .pointer (some ⟨g, 0, none⟩)) (hy : a.eval y = .agg (FR k n f'))
    (h : wpList P ops Q rest a (w.setCells g 0 (FR k n f').toList)) : wpList P ops Q (o :: rest) a w := by
  obtain ⟨ie, hie, hs⟩ : ∃ ie, P.info? ty = some ie ∧ ie.size = n := by
    cases he : P.info? ty with
    | none => rw [he] at hi; cases hi
    | some ie => rw [he] at hi; exact ⟨ie, rfl, Option.some.inj hi⟩
  exact wpList_store_row hgd ty x y ho g hx (FR k n f') hy ie hie t (FR k n f) hr (by rw [FR_size, FR_size]) (by rw [FR_size, hs]) (FR_one k n f') (by rw [hdst]; exact h)
/-- The world behind a whole row's store. -/
structure Stored (w w' : World) (g : Nat) : Prop where
  other : ∀ k, k ≠ g → w'.heap[k]? = w.heap[k]?
  size : w'.heap.size = w.heap.size
  bel : ∀ B W, B ≤ g → Below B W w → Below B W w'
theorem Row.stored {w w' : World} {g g' : Nat} {k : IntKind} {n : Nat} {f : Nat → Int} {t : TypeId} (h : Row w g k n f t) (hs : Stored w w' g') (hg : g ≠ g') : Row w' g k n f t := (hs.other g hg).trans h
theorem step_storeG {P : Program} {ops : Array Oper} {rest : List Oper} {o : Oper} {a : Act} {w : World} {Q : Exit → Act → World → Prop} {k : IntKind} {n : Nat} {f : Nat → Int} {t ty : TypeId} {x y : Operand} {g : Nat}
    (f' : Nat → Int) (hr : Row w g k n f t) (hi : (P.info? ty).map (·.size) = some n) (hgd : o.guard = none) (hdst : o.dst = none) (ho : o.op = .store ty x y) (hx : a.eval x = .pointer (some ⟨g, 0, none⟩)) (hy : a.eval y = .agg (FR k n f'))
    (h : ∀ w', Stored w w' g → Row w' g k n f' t → wpList P ops Q rest a w') : wpList P ops Q (o :: rest) a w :=
  step_store f' hr hi hgd hdst ho hx hy (h _ ⟨fun k hk => setCells_other hk _ _ _, setCells_size g _ _ _, fun B W hB hb => bel_setCells hB _ _ _ hb⟩ hr.all)
/-- The end of a function whose result is a row. -/
theorem row_results {P : Program} {fn : Func} {p : Tmp} {ty : TypeId} (h : fn.results = #[.cell p ty]) {tmps : Array Value} {w : World} {g : Nat} {k : IntKind} {n : Nat} {f : Nat → Int} {t : TypeId} {d : TypeDesc}
    (hr : Row w g k n f t) (hp : tmps.getD p undef = .pointer (some ⟨g, 0, none⟩)) (hu : P.underlying ty = some d) (hd : (match d with | .struct _ | .array _ _ => true | _ => false) = true) (hi : (P.info? ty).map (·.size) = some n) :
    (results fn tmps).run P w = .ok (.agg (FR k n f)) w :=
  results_cell_row h tmps w g t (FR k n f) (0, 0) d hp hr hu hd (by rw [FR_size]; exact hi)
end
section
set_option linter.unusedVariables false
set_option linter.unusedSimpArgs false
open Go.RowKit
attribute [local go_sem] setCell_drewN
/-- One step of carry. -/
def cstep (f : Nat → Int) (i : Nat) : Nat → Int :=
  if i < 15 then upd (upd f i (f i - f i / 65536 * 65536)) (i + 1) (f (i + 1) + f i / 65536) else upd (upd f i (f i - f i / 65536 * 65536)) 0 (f 0 + 38 * (f i / 65536))
def carryN (f : Nat → Int) : Nat → Nat → Int
  | 0 => f
  | i + 1 => cstep (carryN f i) i
/-- Each of 16 digits is within 2^51 of nought. -/
def CB (f : Nat → Int) : Prop := ∀ j, j < 16 → - 2251799813685248 ≤ f j ∧ f j ≤ 2251799813685248
theorem carryN_b (f : Nat → Int) (hf : CB f) : ∀ i, i ≤ 15 → (∀ j, j < i → 0 ≤ carryN f i j ∧ carryN f i j < 65536) ∧ (-2251868533161984 ≤ carryN f i i ∧ carryN f i i ≤ 2251868533161984) ∧ ∀ j, i < j → carryN f i j = f j
  | 0, _ => ⟨fun j h => absurd h (by omega), by have := hf 0 (by omega); simp only [carryN]; omega, fun j _ => rfl⟩
  | i + 1, hi => by
    obtain ⟨h1, h2, h3⟩ := carryN_b f hf i (by omega)
    have e : carryN f (i + 1) = upd (upd (carryN f i) i (carryN f i i - carryN f i i / 65536 * 65536)) (i + 1) (carryN f i (i + 1) + carryN f i i / 65536) := by
      show cstep (carryN f i) i = _
      unfold cstep; rw [if_pos (by omega)]
    refine ⟨fun j hj => ?_, ?_, fun j hj => ?_⟩
    · rw [e, upd_other _ _ _ _ (by omega)]
      by_cases hji : j = i
      · subst hji; rw [upd_same]; omega
      · rw [upd_other _ _ _ _ hji]; exact h1 j (by omega)
    · rw [e, upd_same, h3 (i + 1) (by omega)]
      have := hf (i + 1) (by omega)
      omega
    · rw [e, upd_other _ _ _ _ (by omega), upd_other _ _ _ _ (by omega)]; exact h3 j (by omega)
def KRel (w : World) (f : Nat → Int) (v3 : Value) (wr : World) : Prop :=
  ∃ (i : Nat), i ≤ 16 ∧ v3 = .int .i64 (i : Int) ∧ Below w.heap.size w wr ∧ Row wr w.heap.size .i64 16 (carryN f i) 33 ∧ Row wr (w.heap.size + 1) .i64 16 (fun _ => 0) 33
theorem w64 (n : Int) (h : -9223372036854775808 ≤ n ∧ n ≤ 9223372036854775807) : wrap64 n = n := by unfold wrap64; omega
theorem meas_up (n : Nat) (i : Nat) (h : i < n) : n - (intOf (Value.int IntKind.i64 ((i : Int) + 1))).toNat < n - (intOf (Value.int IntKind.i64 (i : Int))).toNat := by
  have e1 : intOf (Value.int IntKind.i64 ((i : Int) + 1)) = (i : Int) + 1 := rfl
  have e2 : intOf (Value.int IntKind.i64 (i : Int)) = (i : Int) := rfl
  rw [e1, e2]; omega
theorem info33 : (Try.prog.info? 33).map (·.size) = some 16 := by kernel_rfl
theorem carry_calls (f : Nat → Int) (w : World) (hf : CB f) :
    Calls Try.prog 38 #[.agg (FR .i64 16 f)] w fun e w' => e = .returned (.agg (FR .i64 16 (carryN f 16))) ∧ Below w.heap.size w w' := by
  have HF := Aside0.mk hf
  clear hf
  go_enter Try.func38, Try.ntmps38
  go_wp2
  go_loopw [3] (fun v3 wr => KRel w f v3 wr) (fun v _ => 16 - (intOf v).toNat)
  case atStart => exact ⟨0, by omega, rfl, bel_two w _ _, Row.alloc (Row.new w .i64 16 f 33) _, heap_alloc2_new w _ _⟩
  case round =>
    obtain ⟨i, hi, rfl, hb, hr, hr2⟩ := hrel
    have HB := Aside0.mk hb
    have HR := Aside0.mk hr
    have HR2 := Aside0.mk hr2
    have hlt1 : w.heap.size < wr.heap.size := hr.lt
    have hlt2 : w.heap.size + 1 < wr.heap.size := hr2.lt
    clear hb
    rcases Nat.lt_or_ge i 15 with h15 | h15
    · have hx := carryN_b f HF.out i (by omega)
      have hy := HF.out (i + 1) (by omega)
      have hlt : ((i : Int) < 16) = True := eq_true (by omega)
      have hlt2 : ((i : Int) < 15) = True := eq_true (by omega)
      have e1 := hx.2.2 (i + 1) (by omega)
      have k0 := hr.cell i (by omega)
      have k1 := hr.cell (i + 1) (by omega)
      have f0 := hr.fro i
      have f1 := hr.fro (i + 1)
      have HE := Aside0.mk (show carryN f (i + 1) = upd (upd (carryN f i) i (carryN f i i - carryN f i i / 65536 * 65536)) (i + 1) (carryN f i (i + 1) + carryN f i i / 65536) by
        show cstep (carryN f i) i = _
        unfold cstep; rw [if_pos (by omega)])
      have HS := Aside0.mk ((hr.set i (carryN f i i - carryN f i i / 65536 * 65536) (by omega)).set (i + 1) (carryN f i (i + 1) + carryN f i i / 65536) (by omega))
      have hb2 := hx.2.1
      rw [← e1] at hy
      generalize carryN f i i = x at *
      generalize carryN f i (i + 1) = y at *
      have w1 : wrap64 (x / 65536 * 65536) = x / 65536 * 65536 := w64 _ (by omega)
      have w2 : wrap64 (x - x / 65536 * 65536) = x - x / 65536 * 65536 := w64 _ (by omega)
      have w3 : wrap64 (y + x / 65536) = y + x / 65536 := w64 _ (by omega)
      clear hx hr hr2 hb2 hy e1
      go_wp2_with fail
      refine ⟨⟨i + 1, by omega, rfl, bel_set (bel_set HB.out _ _ (Nat.le_refl _)) _ _ (Nat.le_refl _), ?_, ?_⟩, meas_up 16 i (by omega)⟩
      · rw [HE.out]; exact HS.out
      · exact (HR2.out.other _ _ (show w.heap.size + 1 ≠ w.heap.size by omega)).other _ _ (show w.heap.size + 1 ≠ w.heap.size by omega)
    · rcases Nat.lt_or_ge i 16 with h16 | h16
      · obtain rfl : i = 15 := by omega
        have hx := carryN_b f HF.out 15 (by omega)
        have hy := hx.1 0 (by omega)
        have k0 := hr.cell 15 (by omega)
        have k1 := hr.cell 0 (by omega)
        have f0 := hr.fro 15
        have f1 := hr.fro 0
        have HE := Aside0.mk (show carryN f 16 = upd (upd (carryN f 15) 15 (carryN f 15 15 - carryN f 15 15 / 65536 * 65536)) 0 (carryN f 15 0 + 38 * (carryN f 15 15 / 65536)) from rfl)
        have HS := Aside0.mk ((hr.set 15 (carryN f 15 15 - carryN f 15 15 / 65536 * 65536) (by omega)).set 0 (carryN f 15 0 + 38 * (carryN f 15 15 / 65536)) (by omega))
        have hb2 := hx.2.1
        generalize carryN f 15 15 = x at *
        generalize carryN f 15 0 = y at *
        have w1 : wrap64 (x / 65536 * 65536) = x / 65536 * 65536 := w64 _ (by omega)
        have w2 : wrap64 (x - x / 65536 * 65536) = x - x / 65536 * 65536 := w64 _ (by omega)
        have w3 : wrap64 (38 * (x / 65536)) = 38 * (x / 65536) := w64 _ (by omega)
        have w4 : wrap64 (y + 38 * (x / 65536)) = y + 38 * (x / 65536) := w64 _ (by omega)
        clear hx hr hr2 hb2 hy
        go_wp2_with fail
        refine ⟨⟨16, by omega, rfl, bel_set (bel_set HB.out _ _ (Nat.le_refl _)) _ _ (Nat.le_refl _), ?_, ?_⟩, by decide⟩
        · rw [HE.out]; exact HS.out
        · exact (HR2.out.other _ _ (show w.heap.size + 1 ≠ w.heap.size by omega)).other _ _ (show w.heap.size + 1 ≠ w.heap.size by omega)
      · obtain rfl : i = 16 := by omega
        clear hr hr2 hlt1 hlt2
        go_wp2_with (first | refine step_load HR.out Try.underlying33 info33 rfl rfl rfl rfl ?_ | refine step_store (carryN f 16) HR2.out info33 rfl rfl rfl rfl rfl ?_)
        refine bodyPost_ret (row_results rfl (HR2.out.all) rfl Try.underlying33 rfl info33) rfl ?_
        exact ⟨rfl, bel_setCells (by omega) _ _ _ HB.out⟩
end
section
set_option linter.unusedVariables false
set_option linter.unusedSimpArgs false
open Go.RowKit
attribute [local go_sem] setCell_drewN
/-- The prime's digits. -/
def pD (i : Nat) : Int := if i = 0 then 65517 else if i = 15 then 32767 else 65535
theorem P_calls (w : World) : Calls Try.prog 46 #[] w fun e w' => e = .returned (.agg (FR .i64 16 pD)) ∧ Below w.heap.size w w' := by
  go_enter Try.func46, Try.ntmps46
  go_wp2_with fail
  have e : (#[.int .i64 65517, .int .i64 65535, .int .i64 65535, .int .i64 65535, .int .i64 65535, .int .i64 65535, .int .i64 65535, .int .i64 65535, .int .i64 65535, .int .i64 65535, .int .i64 65535, .int .i64 65535, .int .i64 65535, .int .i64 65535, .int .i64 65535, .int .i64 32767] : Array Value) = FR .i64 16 pD := by kernel_rfl
  rw [e]
  refine bodyPost_ret (row_results rfl (Row.new w .i64 16 pD 33) rfl Try.underlying33 rfl info33) rfl ?_
  exact ⟨rfl, (Below.refl _ _).alloc (Nat.le_refl _) _⟩
/-- A string's bytes as numbers. -/
def sB (s : ByteArray) (i : Nat) : Int := ((s[i]?.getD 0).toNat : Int)
theorem sB_b (s : ByteArray) (i : Nat) : 0 ≤ sB s i ∧ sB s i < 256 := by
  unfold sB
  have := (s[i]?.getD 0).toNat_lt
  omega
theorem sB_at (s : ByteArray) (i : Nat) (h : i < s.size) : ∃ c : UInt8, (∀ h : i < s.size, s[i]'h = c) ∧ (c.toNat : Int) = sB s i := by
  have e : s[i]? = some s[i] := getElem?_pos s i h
  exact ⟨s[i], fun _ => rfl, by unfold sB; rw [e]; rfl⟩
theorem i64w (x : Int) (h : -9223372036854775808 ≤ x ∧ x ≤ 9223372036854775807) : IntKind.i64.wrap x = x := by
  have e : IntKind.i64.wrap x = if x % 18446744073709551616 ≥ 9223372036854775808 then x % 18446744073709551616 - 18446744073709551616 else x % 18446744073709551616 := by
    unfold IntKind.wrap; simp [IntKind.bits, IntKind.signed]
  rw [e]; split <;> omega
/-- The bytes' digits. -/
def bD (s : ByteArray) (i : Nat) : Int := sB s (2 * i) + 256 * sB s (2 * i + 1)
theorem row_eq {w : World} {g : Nat} {k : IntKind} {n : Nat} {f f' : Nat → Int} {t : TypeId} (h : Row w g k n f t) (e : ∀ i, i < n → f i = f' i) : Row w g k n f' t := by
  unfold Row; rw [← FR_congr k n f f' e]; exact h
theorem toNat2 (i : Nat) : (2 * (i : Int)).toNat = 2 * i := by omega
theorem toNat21 (i : Nat) : (2 * (i : Int) + 1).toNat = 2 * i + 1 := by omega
theorem of_wraps (i : Nat) (x y : Int) (hi : i < 16) (hx : 0 ≤ x ∧ x < 256) (hy : 0 ≤ y ∧ y < 256) : wrap64 x = x ∧ wrap64 y = y ∧ wrap64 (2 * (i : Int)) = 2 * (i : Int) ∧ wrap64 (2 * (i : Int) + 1) = 2 * (i : Int) + 1 ∧ wrap64 (256 * y) = 256 * y ∧ wrap64 (x + 256 * y) = x + 256 * y ∧ IntKind.i64.wrap (2 * (i : Int)) = 2 * (i : Int) ∧ IntKind.i64.wrap (2 * (i : Int) + 1) = 2 * (i : Int) + 1 ∧ IntKind.i64.wrap (256 * y) = 256 * y ∧ IntKind.i64.wrap (x + 256 * y) = x + 256 * y := ⟨w64 _ (by omega), w64 _ (by omega), w64 _ (by omega), w64 _ (by omega), w64 _ (by omega), w64 _ (by omega), i64w _ (by omega), i64w _ (by omega), i64w _ (by omega), i64w _ (by omega)⟩
def ORel (s : ByteArray) (w : World) (v4 : Value) (wr : World) : Prop :=
  ∃ (i : Nat), i ≤ 16 ∧ v4 = .int .i64 (i : Int) ∧ Below w.heap.size w wr ∧ Row wr (w.heap.size + 1) .i64 16 (fun j => if j < i then bD s j else 0) 33 ∧ Row wr w.heap.size .i64 16 (fun _ => 0) 33
theorem Of_calls (s : ByteArray) (w : World) (hs : s.size = 32) :
    Calls Try.prog 37 #[.string s] w fun e w' => e = .returned (.agg (FR .i64 16 (bD s))) ∧ Below w.heap.size w w' := by
  go_enter Try.func37, Try.ntmps37
  go_wp2_with fail
  go_loopw [4] (fun v3 wr => ORel s w v3 wr) (fun v _ => 16 - (intOf v).toNat)
  case atStart => exact ⟨0, by omega, rfl, bel_two w _ _, heap_alloc2_new w _ _, heap_alloc2_old w _ _⟩
  case round =>
    obtain ⟨i, hi, rfl, hb, hr, hr2⟩ := hrel
    have hlt1 := hr2.lt
    have hlt2 := hr.lt
    have HB := Aside0.mk hb
    have HR := Aside0.mk hr
    have HR2 := Aside0.mk hr2
    rcases Nat.lt_or_ge i 16 with h15 | h15
    · have hlt : ((i : Int) < 16) = True := eq_true (by omega)
      have f0 := hr.fro i
      have k0 := hr.cell i (by omega)
      obtain ⟨b0, hb0, hv0⟩ := sB_at s (2 * i) (by omega)
      obtain ⟨b1, hb1, hv1⟩ := sB_at s (2 * i + 1) (by omega)
      have l0 := b0.toNat_lt
      have l1 := b1.toNat_lt
      have HV := Aside0.mk (show (b0.toNat : Int) + 256 * (b1.toNat : Int) = bD s i by unfold bD; omega)
      obtain ⟨wx, wy, w0, w1, w2, w3, v0, v1, v2, v3⟩ := of_wraps i b0.toNat b1.toNat h15 (by omega) (by omega)
      have q0 : (2 * (i : Int) < (s.size : Int)) = True := eq_true (by omega)
      have q1 : (2 * (i : Int) + 1 < (s.size : Int)) = True := eq_true (by omega)
      have t0 := toNat2 i
      have t1 := toNat21 i
      clear hb hr hr2 hs hv0 hv1 l0 l1
      go_wp2_with fail
      go_region
      all_goals go_wp2_with fail
      refine ⟨⟨i + 1, by omega, rfl, (bel_set HB.out _ _ (by simp)).drew, ?_, HR2.out.other _ _ (show w.heap.size ≠ w.heap.size + 1 by omega)⟩, meas_up 16 i (by omega)⟩
      rw [HV.out]
      exact row_eq (HR.out.set i (bD s i) (by omega)) (fun j hj => by
        unfold upd
        by_cases hji : j = i
        · subst hji; rw [if_pos rfl, if_pos (by omega)]
        · rw [if_neg hji]
          show (if j < i then bD s j else 0) = _
          by_cases hjl : j < i
          · rw [if_pos hjl, if_pos (by omega)]
          · rw [if_neg hjl, if_neg (by omega)])
    · obtain rfl : i = 16 := by omega
      clear hb hr hr2 hs hlt1 hlt2
      go_wp2_with (first | refine step_load HR.out Try.underlying33 info33 rfl rfl rfl rfl ?_ | refine step_store _ HR2.out info33 rfl rfl rfl rfl rfl ?_)
      refine bodyPost_ret (row_results rfl (HR2.out.all) rfl Try.underlying33 rfl info33) rfl ?_
      exact ⟨by rw [FR_congr .i64 16 _ (bD s) (fun j hj => if_pos hj)], bel_setCells (by omega) _ _ _ HB.out⟩
end
section
set_option linter.unusedVariables false
set_option linter.unusedSimpArgs false
open Go.RowKit
attribute [local go_sem] setCell_drewN
/-- Below the prime, digit by digit, from digit i - 1 down. -/
def belowN (f : Nat → Int) : Nat → Bool
  | 0 => false
  | i + 1 => if f i = pD i then belowN f i else decide (f i < pD i)
theorem pD_b (i : Nat) : 0 ≤ pD i ∧ pD i ≤ 65535 := by
  unfold pD; split <;> (try split) <;> omega
def BRel (f : Nat → Int) (w : World) (v4 : Value) (gp : Nat) (wr : World) : Prop :=
  ∃ (i : Nat), i ≤ 16 ∧ v4 = .int .i64 ((i : Int) - 1) ∧ belowN f i = belowN f 16 ∧ Below w.heap.size w wr ∧ Row wr w.heap.size .i64 16 f 33 ∧ Row wr gp .i64 16 pD 33
theorem below_calls (f : Nat → Int) (w : World) :
    Calls Try.prog 45 #[.agg (FR .i64 16 f)] w fun e w' => e = .returned (.bool (belowN f 16)) ∧ Below w.heap.size w w' := by
  go_enter Try.func45, Try.ntmps45
  go_wp2_with fail
  refine (P_calls _).mono ?_
  rintro e w1 ⟨rfl, hb⟩
  have hr := Row.below (Row.new w .i64 16 f 33) hb (by simp)
  have HR := Aside0.mk hr
  have hb2 := (Below.refl w.heap.size w).alloc (Nat.le_refl _) (.cells (FR .i64 16 f) 33)
  have HB := Aside0.mk (hb2.trans (hb.mono (by simp)))
  have hlt := hr.lt
  clear hb hb2 hr
  have HN := Aside0.mk (Row.new w1 .i64 16 (fun _ => 0) 33)
  go_wp2_with (refine step_store pD HN.out info33 rfl rfl rfl rfl rfl ?_)
  have HB2 := Aside0.mk (bel_setCells (show w.heap.size ≤ w1.heap.size by omega) (FR .i64 16 pD).toList 0 _ (HB.out.alloc (by omega) (.cells (FR .i64 16 fun _ => 0) 33)))
  have HR2 := Aside0.mk ((HR.out.alloc (.cells (FR .i64 16 fun _ => 0) 33)).cells_other (FR .i64 16 pD).toList (show w.heap.size ≠ w1.heap.size by omega))
  have HP := Aside0.mk (HN.out.all (f' := pD))
  go_loopw [4, 2] (fun v4 v2 wr => v2 = .bool false ∧ BRel f w v4 w1.heap.size wr) (fun v _ _ => ((intOf v) + 1).toNat)
  case atStart => exact ⟨rfl, 16, by omega, rfl, rfl, HB2.out, HR2.out, HP.out⟩
  case round =>
    obtain ⟨rfl, i, hi, rfl, he, hb, hr, hp⟩ := hrel
    have HB3 := Aside0.mk hb
    have HE := Aside0.mk he
    have HR3 := Aside0.mk hr
    have HP3 := Aside0.mk hp
    rcases Nat.lt_or_ge 0 i with h15 | h15
    · obtain ⟨j, rfl⟩ : ∃ j, i = j + 1 := ⟨i - 1, by omega⟩
      have e1 : ((j + 1 : Nat) : Int) - 1 = (j : Int) := by omega
      rw [e1]
      have hge : ((j : Int) ≥ 0) = True := eq_true (by omega)
      have hlt : ((j : Int) < 16) = True := eq_true (by omega)
      have k0 := hr.cell j (by omega)
      have k1 := hp.cell j (by omega)
      clear hb hr hp he
      by_cases hq : f j = pD j
      · have HQ := Aside0.mk hq
        have hd : (f j != pD j) = false := by simp [hq]
        have hd2 : (f j = pD j) = True := eq_true hq
        clear hq
        go_wp2_with fail
        go_region
        all_goals go_wp2_with fail
        refine ⟨⟨rfl, j, by omega, rfl, ?_, HB3.out.drew, HR3.out, HP3.out⟩, by simp only [intOf]; omega⟩
        rw [← HE.out]; show _ = if f j = pD j then belowN f j else _
        rw [if_pos HQ.out]
      · have HQ := Aside0.mk hq
        have hd : (f j != pD j) = true := by simp [hq]
        have hd2 : (f j = pD j) = False := eq_false hq
        clear hq
        go_wp2_with fail
        go_region
        all_goals go_wp2_with fail
        go_region
        all_goals go_wp2_with fail
        go_ret
        refine ⟨?_, HB3.out.drew.drew⟩
        rw [← HE.out]; show _ = Ending.returned (Value.bool (if f j = pD j then belowN f j else _))
        rw [if_neg HQ.out]; rfl
    · obtain rfl : i = 0 := by omega
      clear hb hr hp he
      go_wp2_with fail
      go_ret
      refine ⟨?_, HB3.out⟩
      rw [← HE.out]; rfl
end
section
set_option linter.unusedVariables false
set_option linter.unusedSimpArgs false
open Go.RowKit
attribute [local go_sem] setCell_drewN
/-- Each of 16 digits is within 2^50 of nought. -/
def CB0 (f : Nat → Int) : Prop := ∀ j, j < 16 → - 1125899906842624 ≤ f j ∧ f j ≤ 1125899906842624
theorem part_step {w : World} {g : Nat} {k : IntKind} {n : Nat} {t : TypeId} {F G : Nat → Int} {i : Nat} {a : Addr} (h : Row w g k n (fun j => if j < i then F j else G j) t) (hi : i < n) :
    Row (w.setCell ⟨g, i, none⟩ (.int k (F i))) g k n (fun j => if j < i + 1 then F j else G j) t :=
  row_eq (h.set i (F i) hi) (fun j hj => by
    unfold upd
    by_cases hji : j = i
    · subst hji; rw [if_pos rfl, if_pos (by omega)]
    · rw [if_neg hji]
      show (if j < i then F j else G j) = _
      by_cases hjl : j < i
      · rw [if_pos hjl, if_pos (by omega)]
      · rw [if_neg hjl, if_neg (by omega)])
theorem bel_three' (w : World) (a b c : Obj) : Below w.heap.size w (((w.alloc a).alloc b).alloc c) := bel_three w a b c
theorem small_ref_calls (n : Int) (w : World) (hn : 0 ≤ n ∧ n < 4294967296) :
    Calls Try.prog 16 #[.int .i64 n] w fun e w' => e = .returned (.agg (FR .i64 16 (carryN (fun i => if i = 0 then n else 0) 16))) ∧ Below w.heap.size w w' := by
  have HN := Aside0.mk hn
  clear hn
  go_enter Try.func16, Try.ntmps16
  go_wp2_with fail
  have e : (#[.int .i64 n, .int .i64 0, .int .i64 0, .int .i64 0, .int .i64 0, .int .i64 0, .int .i64 0, .int .i64 0, .int .i64 0, .int .i64 0, .int .i64 0, .int .i64 0, .int .i64 0, .int .i64 0, .int .i64 0, .int .i64 0] : Array Value) = FR .i64 16 (fun i => if i = 0 then n else 0) := by rfl
  rw [e]
  refine (carry_calls _ _ (fun j hj => by have := HN.out; split <;> omega)).mono ?_
  rintro e w1 ⟨rfl, hb⟩
  have hr : Row w1 w.heap.size .i64 16 (fun _ => 0) 33 := (Row.new w .i64 16 (fun _ => 0) 33).below hb (by simp)
  have HR := Aside0.mk hr
  have HB := Aside0.mk (((Below.refl w.heap.size w).alloc (Nat.le_refl _) (.cells (FR .i64 16 fun _ => 0) 33)).trans (hb.mono (by simp)))
  have hlt := hr.lt
  clear hb hr e
  go_wp2_with (refine step_store _ HR.out info33 rfl rfl rfl rfl rfl ?_)
  refine bodyPost_ret (row_results rfl (HR.out.all) rfl Try.underlying33 rfl info33) rfl ?_
  exact ⟨rfl, bel_setCells (by omega) _ _ _ HB.out⟩
def addRRel (f g : Nat → Int) (w : World) (v5 : Value) (wr : World) : Prop :=
  ∃ (i : Nat), i ≤ 16 ∧ v5 = .int .i64 (i : Int) ∧ Below w.heap.size w wr ∧ Row wr w.heap.size .i64 16 (fun j => if j < i then f j + g j else f j) 33 ∧ Row wr (w.heap.size + 1) .i64 16 g 33 ∧ Row wr (w.heap.size + 1 + 1) .i64 16 (fun _ => 0) 33
theorem addR_calls (f g : Nat → Int) (w : World) (hf : CB0 f) (hg : CB0 g) :
    Calls Try.prog 21 #[.agg (FR .i64 16 f), .agg (FR .i64 16 g)] w fun e w' => e = .returned (.agg (FR .i64 16 (carryN (fun i => f i + g i) 16))) ∧ Below w.heap.size w w' := by
  have HF := Aside0.mk hf
  have HG := Aside0.mk hg
  clear hf hg
  go_enter Try.func21, Try.ntmps21
  go_wp2_with fail
  go_loopw [5] (fun v5 wr => addRRel f g w v5 wr) (fun v _ => 16 - (intOf v).toNat)
  case atStart => exact ⟨0, by omega, rfl, bel_three w _ _ _, ((Row.new w .i64 16 f 33).alloc _).alloc _, Row.alloc (heap_alloc2_new w _ _) _, three_new w _ _ _⟩
  case round =>
    obtain ⟨i, hi, rfl, hb, hr, hg, h0⟩ := hrel
    have HB := Aside0.mk hb
    have HR := Aside0.mk hr
    have HR2 := Aside0.mk hg
    have HR3 := Aside0.mk h0
    have hlt1 := hr.lt
    have hlt2 := hg.lt
    have hlt3 := h0.lt
    rcases Nat.lt_or_ge i 16 with h15 | h15
    · have hlt : ((i : Int) < 16) = True := eq_true (by omega)
      have f0 := hr.fro i
      have k0 := hr.cell i (by omega)
      have e0 : (if i < i then f i + g i else f i) = f i := if_neg (by omega)
      have k1 := hg.cell i (by omega)
      rw [e0] at k0
      have b0 := HF.out i (by omega)
      have b1 := HG.out i (by omega)
      have w0 : wrap64 (f i + g i) = f i + g i := w64 _ (by omega)
      clear hb hr hg h0 e0 b0 b1
      go_wp2_with fail
      go_region
      all_goals go_wp2_with fail
      refine ⟨⟨i + 1, by omega, rfl, (bel_set HB.out _ _ (by simp)).drew, ?_, HR2.out.other _ _ (show w.heap.size + 1 ≠ w.heap.size by omega), HR3.out.other _ _ (show w.heap.size + 1 + 1 ≠ w.heap.size by omega)⟩, meas_up 16 i (by omega)⟩
      exact part_step (F := fun j => f j + g j) (a := ⟨0, 0, none⟩) HR.out (by omega)
    · obtain rfl : i = 16 := by omega
      have HR1 := Aside0.mk (row_eq HR.out (f' := fun j => f j + g j) (fun j hj => if_pos hj))
      clear hb hr hg h0 HR
      go_wp2_with (refine step_load HR1.out Try.underlying33 info33 rfl rfl rfl rfl ?_)
      refine (carry_calls _ _ (fun j hj => by have := HF.out j hj; have := HG.out j hj; omega)).mono ?_
      rintro e w1 ⟨rfl, hb⟩
      have HR4 := Aside0.mk (HR3.out.below hb (by omega))
      have HB4 := Aside0.mk (HB.out.trans (hb.mono (by omega)))
      have hlt4 := HR4.out.lt
      clear hb
      go_wp2_with (refine step_store _ HR4.out info33 rfl rfl rfl rfl rfl ?_)
      refine bodyPost_ret (row_results rfl (HR4.out.all) rfl Try.underlying33 rfl info33) rfl ?_
      exact ⟨rfl, bel_setCells (by omega) _ _ _ HB4.out⟩
def subRRel (f g : Nat → Int) (w : World) (v5 : Value) (wr : World) : Prop :=
  ∃ (i : Nat), i ≤ 16 ∧ v5 = .int .i64 (i : Int) ∧ Below w.heap.size w wr ∧ Row wr w.heap.size .i64 16 (fun j => if j < i then f j - g j else f j) 33 ∧ Row wr (w.heap.size + 1) .i64 16 g 33 ∧ Row wr (w.heap.size + 1 + 1) .i64 16 (fun _ => 0) 33
theorem subR_calls (f g : Nat → Int) (w : World) (hf : CB0 f) (hg : CB0 g) :
    Calls Try.prog 23 #[.agg (FR .i64 16 f), .agg (FR .i64 16 g)] w fun e w' => e = .returned (.agg (FR .i64 16 (carryN (fun i => f i - g i) 16))) ∧ Below w.heap.size w w' := by
  have HF := Aside0.mk hf
  have HG := Aside0.mk hg
  clear hf hg
  go_enter Try.func23, Try.ntmps23
  go_wp2_with fail
  go_loopw [5] (fun v5 wr => subRRel f g w v5 wr) (fun v _ => 16 - (intOf v).toNat)
  case atStart => exact ⟨0, by omega, rfl, bel_three w _ _ _, ((Row.new w .i64 16 f 33).alloc _).alloc _, Row.alloc (heap_alloc2_new w _ _) _, three_new w _ _ _⟩
  case round =>
    obtain ⟨i, hi, rfl, hb, hr, hg, h0⟩ := hrel
    have HB := Aside0.mk hb
    have HR := Aside0.mk hr
    have HR2 := Aside0.mk hg
    have HR3 := Aside0.mk h0
    have hlt1 := hr.lt
    have hlt2 := hg.lt
    have hlt3 := h0.lt
    rcases Nat.lt_or_ge i 16 with h15 | h15
    · have hlt : ((i : Int) < 16) = True := eq_true (by omega)
      have f0 := hr.fro i
      have k0 := hr.cell i (by omega)
      have e0 : (if i < i then f i - g i else f i) = f i := if_neg (by omega)
      have k1 := hg.cell i (by omega)
      rw [e0] at k0
      have b0 := HF.out i (by omega)
      have b1 := HG.out i (by omega)
      have w0 : wrap64 (f i - g i) = f i - g i := w64 _ (by omega)
      clear hb hr hg h0 e0 b0 b1
      go_wp2_with fail
      go_region
      all_goals go_wp2_with fail
      refine ⟨⟨i + 1, by omega, rfl, (bel_set HB.out _ _ (by simp)).drew, ?_, HR2.out.other _ _ (show w.heap.size + 1 ≠ w.heap.size by omega), HR3.out.other _ _ (show w.heap.size + 1 + 1 ≠ w.heap.size by omega)⟩, meas_up 16 i (by omega)⟩
      exact part_step (F := fun j => f j - g j) (a := ⟨0, 0, none⟩) HR.out (by omega)
    · obtain rfl : i = 16 := by omega
      have HR1 := Aside0.mk (row_eq HR.out (f' := fun j => f j - g j) (fun j hj => if_pos hj))
      clear hb hr hg h0 HR
      go_wp2_with (refine step_load HR1.out Try.underlying33 info33 rfl rfl rfl rfl ?_)
      refine (carry_calls _ _ (fun j hj => by have := HF.out j hj; have := HG.out j hj; omega)).mono ?_
      rintro e w1 ⟨rfl, hb⟩
      have HR4 := Aside0.mk (HR3.out.below hb (by omega))
      have HB4 := Aside0.mk (HB.out.trans (hb.mono (by omega)))
      have hlt4 := HR4.out.lt
      clear hb
      go_wp2_with (refine step_store _ HR4.out info33 rfl rfl rfl rfl rfl ?_)
      refine bodyPost_ret (row_results rfl (HR4.out.all) rfl Try.underlying33 rfl info33) rfl ?_
      exact ⟨rfl, bel_setCells (by omega) _ _ _ HB4.out⟩
end
section
set_option linter.unusedVariables false
set_option linter.unusedSimpArgs false
/-- The number that n digits are, the lowest first. -/
def val (B : Int) (f : Nat → Int) : Nat → Int
  | 0 => 0
  | n + 1 => val B f n + f n * B ^ n
/-- A number's digit. -/
def dig (B N : Int) (i : Nat) : Int := N / B ^ i % B
theorem val_congr (B : Int) (f g : Nat → Int) : ∀ n, (∀ i, i < n → f i = g i) → val B f n = val B g n
  | 0, _ => rfl
  | n + 1, h => by rw [val, val, val_congr B f g n (fun i hi => h i (by omega)), h n (by omega)]
theorem val_add (B : Int) (f g : Nat → Int) : ∀ n, val B (fun i => f i + g i) n = val B f n + val B g n
  | 0 => rfl
  | n + 1 => by
    have := val_add B f g n
    simp only [val, this]; grind
theorem val_sub (B : Int) (f g : Nat → Int) : ∀ n, val B (fun i => f i - g i) n = val B f n - val B g n
  | 0 => rfl
  | n + 1 => by
    have := val_sub B f g n
    simp only [val, this]; grind
theorem pow_pos' (B : Int) (hB : 0 < B) (n : Nat) : 0 < B ^ n := Int.pow_pos hB
theorem val_b (B : Int) (hB : 0 < B) (f : Nat → Int) : ∀ n, (∀ i, i < n → 0 ≤ f i ∧ f i < B) → 0 ≤ val B f n ∧ val B f n < B ^ n
  | 0, _ => by simp [val]
  | n + 1, h => by
    have h1 := val_b B hB f n (fun i hi => h i (by omega))
    have h2 := h n (by omega)
    have h3 := pow_pos' B hB n
    have h4 : 0 ≤ f n * B ^ n := Int.mul_nonneg h2.1 (by omega)
    have h5 : (f n + 1) * B ^ n ≤ B * B ^ n := Int.mul_le_mul_of_nonneg_right (by omega) (by omega)
    rw [val, Int.pow_succ]
    have h6 : (f n + 1) * B ^ n = f n * B ^ n + B ^ n := by grind
    have h7 : B ^ n * B = B * B ^ n := by grind
    omega
/-- The carry into digit i. -/
def cy (B : Int) (f : Nat → Int) : Nat → Int
  | 0 => 0
  | i + 1 => (f i + cy B f i) / B
theorem cy_val (B : Int) (hB : 0 < B) (f : Nat → Int) : ∀ n, val B (fun i => (f i + cy B f i) % B) n + cy B f n * B ^ n = val B f n
  | 0 => by simp [val, cy]
  | n + 1 => by
    have h1 := cy_val B hB f n
    have h2 := Int.emod_add_mul_ediv (f n + cy B f n) B
    have e : cy B f (n + 1) = (f n + cy B f n) / B := rfl
    rw [val, e, Int.pow_succ]
    show val B (fun i => (f i + cy B f i) % B) n + (f n + cy B f n) % B * B ^ n + (f n + cy B f n) / B * (B ^ n * B) = val B f n + f n * B ^ n
    grind
theorem cy_div (B : Int) (hB : 0 < B) (f : Nat → Int) (n : Nat) : cy B f n = val B f n / B ^ n ∧ val B (fun i => (f i + cy B f i) % B) n = val B f n % B ^ n := by
  have h1 := cy_val B hB f n
  have h2 := val_b B hB (fun i => (f i + cy B f i) % B) n (fun i _ => ⟨Int.emod_nonneg _ (by omega), Int.emod_lt_of_pos _ hB⟩)
  have h3 := pow_pos' B hB n
  have e : val B f n = val B (fun i => (f i + cy B f i) % B) n + B ^ n * cy B f n := by rw [← h1]; grind
  rw [e]
  constructor
  · rw [Int.add_mul_ediv_left _ _ (by omega), Int.ediv_eq_zero_of_lt h2.1 h2.2, Int.zero_add]
  · rw [Int.add_mul_emod_self_left, Int.emod_eq_of_lt h2.1 h2.2]
theorem val_dig (B : Int) (hB : 0 < B) (N : Int) : ∀ n, val B (dig B N) n = N % B ^ n
  | 0 => by simp [val, Int.emod_one]
  | n + 1 => by
    rw [val, val_dig B hB N n, Int.pow_succ]
    have h1 := Int.emod_add_mul_ediv N (B ^ n)
    have h2 := Int.emod_add_mul_ediv (N / B ^ n) B
    have h3 := pow_pos' B hB n
    have b1 := Int.emod_nonneg N (show B ^ n ≠ 0 by omega)
    have b2 := Int.emod_lt_of_pos N h3
    have b3 := Int.emod_nonneg (N / B ^ n) (show B ≠ 0 by omega)
    have b4 := Int.emod_lt_of_pos (N / B ^ n) hB
    unfold dig
    have e : N = (N % B ^ n + N / B ^ n % B * B ^ n) + (B ^ n * B) * (N / B ^ n / B) := by grind
    have b5 : 0 ≤ N / B ^ n % B * B ^ n := Int.mul_nonneg b3 (by omega)
    have b6 : (N / B ^ n % B + 1) * B ^ n ≤ B * B ^ n := Int.mul_le_mul_of_nonneg_right (by omega) (by omega)
    have b7 : (N / B ^ n % B + 1) * B ^ n = N / B ^ n % B * B ^ n + B ^ n := by grind
    have b8 : B ^ n * B = B * B ^ n := by grind
    have e2 : N % (B ^ n * B) = (N % B ^ n + N / B ^ n % B * B ^ n) := by
      conv => lhs; rw [e]
      rw [Int.add_mul_emod_self_left, Int.emod_eq_of_lt (by omega) (by omega)]
    rw [e2]
theorem dig_b (B : Int) (hB : 0 < B) (N : Int) (i : Nat) : 0 ≤ dig B N i ∧ dig B N i < B := ⟨Int.emod_nonneg _ (by omega), Int.emod_lt_of_pos _ hB⟩
/-- Right digits are the number's digits. -/
theorem dig_val (B : Int) (hB : 0 < B) (f : Nat → Int) : ∀ n, (∀ i, i < n → 0 ≤ f i ∧ f i < B) → ∀ i, i < n → f i = dig B (val B f n) i
  | 0, _ => fun i hi => absurd hi (by omega)
  | n + 1, h => fun i hi => by
    have h1 := val_b B hB f n (fun i hi => h i (by omega))
    have h2 := h n (by omega)
    have h3 := pow_pos' B hB n
    by_cases hin : i = n
    · subst hin
      unfold dig
      rw [val, Int.add_mul_ediv_right _ _ (by omega), Int.ediv_eq_zero_of_lt h1.1 h1.2, Int.zero_add, Int.emod_eq_of_lt h2.1 h2.2]
    · have ih := dig_val B hB f n (fun i hi => h i (by omega)) i (by omega)
      rw [ih]
      unfold dig
      obtain ⟨k, rfl⟩ : ∃ k, n = i + 1 + k := ⟨n - (i + 1), by omega⟩
      have hp := pow_pos' B hB i
      have e : f (i + 1 + k) * B ^ (i + 1 + k) = (f (i + 1 + k) * B ^ k * B) * B ^ i := by
        rw [Int.pow_add, Int.pow_add]; grind
      rw [val, e, Int.add_mul_ediv_right _ _ (by omega), Int.add_mul_emod_self_right]
end
section
set_option linter.unusedVariables false
set_option linter.unusedSimpArgs false
theorem carryN_eq (f : Nat → Int) : ∀ i, i ≤ 15 → ∀ j, carryN f i j = if j < i then (f j + cy 65536 f j) % 65536 else if j = i then f j + cy 65536 f j else f j
  | 0, _, j => by
    rw [if_neg (by omega)]
    show f j = _
    split
    · rename_i h; subst h; simp [cy]
    · rfl
  | i + 1, hi, j => by
    have ih := carryN_eq f i (by omega)
    have e : carryN f (i + 1) = upd (upd (carryN f i) i (carryN f i i - carryN f i i / 65536 * 65536)) (i + 1) (carryN f i (i + 1) + carryN f i i / 65536) := by
      show cstep (carryN f i) i = _
      unfold cstep; rw [if_pos (by omega)]
    have e1 : carryN f i i = f i + cy 65536 f i := by rw [ih i, if_neg (by omega), if_pos rfl]
    have e2 : carryN f i (i + 1) = f (i + 1) := by rw [ih (i + 1), if_neg (by omega), if_neg (by omega)]
    rw [e, e1, e2]
    by_cases h1 : j = i + 1
    · subst h1
      rw [upd_same, if_neg (by omega), if_pos rfl]; rfl
    · rw [upd_other _ _ _ _ h1]
      by_cases h2 : j = i
      · subst h2
        rw [upd_same, if_pos (by omega)]; omega
      · rw [upd_other _ _ _ _ h2, ih j]
        by_cases h3 : j < i
        · rw [if_pos h3, if_pos (by omega)]
        · rw [if_neg h3, if_neg h2, if_neg (by omega), if_neg h1]
theorem carry16 (f : Nat → Int) (j : Nat) (hj : j < 16) : carryN f 16 j = (f j + cy 65536 f j) % 65536 + (if j = 0 then 38 * cy 65536 f 16 else 0) := by
  have ih := carryN_eq f 15 (by omega)
  have e : carryN f 16 = upd (upd (carryN f 15) 15 (carryN f 15 15 - carryN f 15 15 / 65536 * 65536)) 0 (carryN f 15 0 + 38 * (carryN f 15 15 / 65536)) := rfl
  have e1 : carryN f 15 15 = f 15 + cy 65536 f 15 := by rw [ih 15, if_neg (by omega), if_pos rfl]
  have e2 : carryN f 15 0 = (f 0 + cy 65536 f 0) % 65536 := by rw [ih 0, if_pos (by omega)]
  have e3 : cy 65536 f 16 = (f 15 + cy 65536 f 15) / 65536 := rfl
  rw [e, e1, e2, e3]
  by_cases h0 : j = 0
  · subst h0; rw [upd_same, if_pos rfl]
  · rw [upd_other _ _ _ _ h0, if_neg h0]
    by_cases h1 : j = 15
    · subst h1; rw [upd_same]; omega
    · rw [upd_other _ _ _ _ h1, ih j, if_pos (by omega)]; omega
/-- The number of 16 digits of 16 bits. -/
def V16 (f : Nat → Int) : Int := val 65536 f 16
theorem V16_eq (f : Nat → Int) : V16 f = f 0 + f 1 * 65536 ^ 1 + f 2 * 65536 ^ 2 + f 3 * 65536 ^ 3 + f 4 * 65536 ^ 4 + f 5 * 65536 ^ 5 + f 6 * 65536 ^ 6 + f 7 * 65536 ^ 7 + f 8 * 65536 ^ 8 + f 9 * 65536 ^ 9 + f 10 * 65536 ^ 10 + f 11 * 65536 ^ 11 + f 12 * 65536 ^ 12 + f 13 * 65536 ^ 13 + f 14 * 65536 ^ 14 + f 15 * 65536 ^ 15 := by
  simp [V16, val]
def QQ : Int := 115792089237316195423570985008687907853269984665640564039457584007913129639936
def PP : Int := 57896044618658097711785492504343953926634992332820282019728792003956564819949
theorem QQ_pow : (65536 : Int) ^ 16 = QQ := by decide
theorem QQ_PP : QQ = 2 * PP + 38 := by decide
theorem V16_carry (f : Nat → Int) : V16 (carryN f 16) = V16 f % QQ + 38 * (V16 f / QQ) := by
  have h := cy_div 65536 (by omega) f 16
  unfold V16
  rw [val_congr 65536 _ _ 16 (fun i hi => carry16 f i hi), val_add 65536 (fun j => (f j + cy 65536 f j) % 65536) (fun j => if j = 0 then 38 * cy 65536 f 16 else 0), h.2, h.1, QQ_pow]
  congr 1
  simp [val]
theorem V16_carry_mod (f : Nat → Int) : V16 (carryN f 16) % PP = V16 f % PP := by
  rw [V16_carry]
  generalize V16 f = x
  have h := Int.emod_add_mul_ediv x QQ
  have e : x = (x % QQ + 38 * (x / QQ)) + PP * (2 * (x / QQ)) := by
    conv => lhs; rw [← h]
    rw [QQ_PP]; grind
  conv => rhs; rw [e]
  rw [Int.add_mul_emod_self_left]
theorem V16_b (f : Nat → Int) (hf : CB f) : -68719476736 * QQ ≤ V16 f ∧ V16 f ≤ 68719476736 * QQ := by
  rw [V16_eq]
  have h0 := hf 0 (by omega); have h1 := hf 1 (by omega); have h2 := hf 2 (by omega); have h3 := hf 3 (by omega)
  have h4 := hf 4 (by omega); have h5 := hf 5 (by omega); have h6 := hf 6 (by omega); have h7 := hf 7 (by omega)
  have h8 := hf 8 (by omega); have h9 := hf 9 (by omega); have h10 := hf 10 (by omega); have h11 := hf 11 (by omega)
  have h12 := hf 12 (by omega); have h13 := hf 13 (by omega); have h14 := hf 14 (by omega); have h15 := hf 15 (by omega)
  unfold QQ
  omega
/-- The digits but the lowest are right, the lowest is within 2^42. -/
def CB1 (f : Nat → Int) : Prop := (∀ j, j < 16 → j ≠ 0 → 0 ≤ f j ∧ f j < 65536) ∧ (-4398046511104 ≤ f 0 ∧ f 0 ≤ 4398046511104)
theorem CB1.cb {f : Nat → Int} (h : CB1 f) : CB f := fun j hj => by
  by_cases h0 : j = 0
  · subst h0; have := h.2; omega
  · have := h.1 j hj h0; omega
theorem carry_digits (f : Nat → Int) (j : Nat) (hj : j < 16) (h0 : j ≠ 0) : 0 ≤ carryN f 16 j ∧ carryN f 16 j < 65536 := by
  rw [carry16 f j hj, if_neg h0]; omega
theorem carry_zero (f : Nat → Int) : carryN f 16 0 = f 0 % 65536 + 38 * (V16 f / QQ) := by
  have h := (cy_div 65536 (by omega) f 16).1
  rw [QQ_pow] at h
  rw [carry16 f 0 (by omega), if_pos rfl, h]
  show (f 0 + 0) % 65536 + 38 * (V16 f / QQ) = _
  rw [Int.add_zero]
theorem carry_CB1 (f : Nat → Int) (hf : CB f) : CB1 (carryN f 16) := by
  refine ⟨carry_digits f, ?_⟩
  have h := V16_b f hf
  rw [carry_zero]
  generalize V16 f = x at *
  unfold QQ at *
  omega
theorem V16_b1 (f : Nat → Int) (hf : CB1 f) : -4398046511104 ≤ V16 f ∧ V16 f ≤ QQ + 4398046511104 := by
  rw [V16_eq]
  have h0 := hf.2
  have h1 := hf.1 1 (by omega) (by omega); have h2 := hf.1 2 (by omega) (by omega); have h3 := hf.1 3 (by omega) (by omega)
  have h4 := hf.1 4 (by omega) (by omega); have h5 := hf.1 5 (by omega) (by omega); have h6 := hf.1 6 (by omega) (by omega); have h7 := hf.1 7 (by omega) (by omega)
  have h8 := hf.1 8 (by omega) (by omega); have h9 := hf.1 9 (by omega) (by omega); have h10 := hf.1 10 (by omega) (by omega); have h11 := hf.1 11 (by omega) (by omega)
  have h12 := hf.1 12 (by omega) (by omega); have h13 := hf.1 13 (by omega) (by omega); have h14 := hf.1 14 (by omega) (by omega); have h15 := hf.1 15 (by omega) (by omega)
  unfold QQ
  omega
theorem carry2_V (f : Nat → Int) (hf : CB1 f) : 0 ≤ V16 (carryN f 16) ∧ V16 (carryN f 16) < QQ := by
  have h := V16_b1 f hf
  rw [V16_carry]
  generalize V16 f = x at *
  unfold QQ at *
  omega
theorem carry3_digits (f : Nat → Int) (h : 0 ≤ V16 f ∧ V16 f < QQ) (j : Nat) (hj : j < 16) : 0 ≤ carryN f 16 j ∧ carryN f 16 j < 65536 := by
  by_cases h0 : j = 0
  · subst h0
    rw [carry_zero, Int.ediv_eq_zero_of_lt h.1 h.2]; omega
  · exact carry_digits f j hj h0
/-- Behind three carries. -/
theorem carry_thrice (f : Nat → Int) (hf : CB f) :
    CB (carryN f 16) ∧ CB (carryN (carryN f 16) 16) ∧ (∀ j, j < 16 → 0 ≤ carryN (carryN (carryN f 16) 16) 16 j ∧ carryN (carryN (carryN f 16) 16) 16 j < 65536) ∧ V16 (carryN (carryN (carryN f 16) 16) 16) % PP = V16 f % PP := by
  have h1 := carry_CB1 f hf
  have h2 := carry_CB1 _ h1.cb
  have h3 := carry2_V _ h1
  exact ⟨h1.cb, h2.cb, carry3_digits _ h3, by rw [V16_carry_mod, V16_carry_mod, V16_carry_mod]⟩
theorem V16_pD : V16 pD = PP := by decide
/-- Right digits that are below the prime's are a number below it. -/
theorem belowN_val (f : Nat → Int) : ∀ n, (∀ j, j < n → 0 ≤ f j ∧ f j < 65536) → belowN f n = decide (val 65536 f n < val 65536 pD n)
  | 0, _ => by simp [belowN, val]
  | n + 1, h => by
    have ih := belowN_val f n (fun j hj => h j (by omega))
    have b1 := val_b 65536 (by omega) f n (fun j hj => h j (by omega))
    have b2 := val_b 65536 (by omega) pD n (fun j hj => by have := pD_b j; omega)
    have hp := pow_pos' 65536 (by omega) n
    rw [belowN, val, val]
    by_cases he : f n = pD n
    · rw [if_pos he, ih, he]
      congr 1
      apply propext
      omega
    · rw [if_neg he]
      congr 1
      apply propext
      constructor
      · intro hl
        have : (f n + 1) * 65536 ^ n ≤ pD n * 65536 ^ n := Int.mul_le_mul_of_nonneg_right (by omega) (by omega)
        have e : (f n + 1) * (65536 : Int) ^ n = f n * 65536 ^ n + 65536 ^ n := by grind
        omega
      · intro hl
        rcases Int.lt_or_gt_of_ne he with hlt | hgt
        · exact hlt
        · exfalso
          have : (pD n + 1) * 65536 ^ n ≤ f n * 65536 ^ n := Int.mul_le_mul_of_nonneg_right (by omega) (by omega)
          have e : (pD n + 1) * (65536 : Int) ^ n = pD n * 65536 ^ n + 65536 ^ n := by grind
          omega
theorem belowN16 (f : Nat → Int) (h : ∀ j, j < 16 → 0 ≤ f j ∧ f j < 65536) : belowN f 16 = decide (V16 f < PP) := by
  rw [belowN_val f 16 h]; rw [← V16_pD]; rfl
/-- The digits of a number less the prime. -/
def lessD (f : Nat → Int) (i : Nat) : Int := (f i - pD i + cy 65536 (fun j => f j - pD j) i) % 65536
theorem lessD_V (f : Nat → Int) (h : ∀ j, j < 16 → 0 ≤ f j ∧ f j < 65536) (hb : belowN f 16 = false) : V16 (lessD f) = V16 f - PP ∧ (∀ j, j < 16 → 0 ≤ lessD f j ∧ lessD f j < 65536) := by
  have e := belowN16 f h
  rw [hb] at e
  have hge : PP ≤ V16 f := by simpa using e
  have hlt := (val_b 65536 (by omega) f 16 h).2
  have h2 := (cy_div 65536 (by omega) (fun j => f j - pD j) 16).2
  refine ⟨?_, fun j hj => ⟨Int.emod_nonneg _ (by omega), Int.emod_lt_of_pos _ (by omega)⟩⟩
  show val 65536 (fun i => (f i - pD i + cy 65536 (fun j => f j - pD j) i) % 65536) 16 = _
  rw [h2, val_sub, QQ_pow]
  show (V16 f - V16 pD) % QQ = _
  rw [V16_pD]
  rw [QQ_pow] at hlt
  have hlt' : V16 f < QQ := hlt
  exact Int.emod_eq_of_lt (by omega) (by unfold PP QQ at *; omega)
end
section
set_option linter.unusedVariables false
set_option linter.unusedSimpArgs false
open Go.RowKit
attribute [local go_sem] setCell_drewN
/-- The number that stands in a block. -/
def rowNat (w : World) (g : Nat) : Nat := match w.heap[g]? with
  | some (.cells cs _ _) => (V16 (fun i => match cs[i]? with | some v => intOf v | none => 0)).toNat
  | _ => 0
theorem rowNat_of {w : World} {g : Nat} {f : Nat → Int} {t : TypeId} (h : Row w g .i64 16 f t) : rowNat w g = (V16 f).toNat := by
  unfold rowNat
  rw [h]
  have e : V16 (fun i => match (FR .i64 16 f)[i]? with | some v => intOf v | none => 0) = V16 f := val_congr 65536 _ _ 16 (fun i hi => by show (match (FR .i64 16 f)[i]? with | some v => intOf v | none => 0) = _; rw [FR_at _ _ _ _ hi]; rfl)
  show (V16 (fun i => match (FR .i64 16 f)[i]? with | some v => intOf v | none => 0)).toNat = _
  rw [e]
/-- Each of 16 digits is below 2^16. -/
def D16 (f : Nat → Int) : Prop := ∀ j, j < 16 → 0 ≤ f j ∧ f j < 65536
theorem least_end (f f' : Nat → Int) (hd : D16 f') (hv : V16 f' % PP = V16 f % PP) (hb : belowN f' 16 = true) : FR .i64 16 f' = FR .i64 16 (dig 65536 (V16 f % PP)) := by
  apply FR_congr
  intro i hi
  rw [belowN16 f' hd] at hb
  have h1 : V16 f' < PP := by simpa using hb
  have h2 : 0 ≤ V16 f' := (val_b 65536 (by omega) f' 16 hd).1
  rw [dig_val 65536 (by omega) f' 16 hd i hi]
  have e : V16 f' = V16 f % PP := by rw [← hv, Int.emod_eq_of_lt h2 h1]
  show dig 65536 (V16 f') i = _
  rw [e]
theorem less_mod (f f' : Nat → Int) (hv : V16 f' % PP = V16 f % PP) (h : V16 (lessD f') = V16 f' - PP) : V16 (lessD f') % PP = V16 f % PP := by
  rw [h, ← hv]; exact Int.sub_emod_right _ _
theorem less_row (f' : Nat → Int) (i : Nat) (h : D16 f') (hi : i < 16) : lessD f' i = f' i - pD i + cy 65536 (fun j => f' j - pD j) i - (f' i - pD i + cy 65536 (fun j => f' j - pD j) i) / 65536 * 65536 := by
  unfold lessD; omega
def LRel1 (w : World) (f : Nat → Int) (wr : World) : Prop :=
  ∃ f', D16 f' ∧ V16 f' % PP = V16 f % PP ∧ Below w.heap.size w wr ∧ Row wr w.heap.size .i64 16 f' 33 ∧ Row wr (w.heap.size + 1) .i64 16 (fun _ => 0) 33
def LRel2 (w : World) (f' : Nat → Int) (gp : Nat) (v5 v4 : Value) (wr : World) : Prop :=
  ∃ i : Nat, i ≤ 16 ∧ v5 = .int .i64 (i : Int) ∧ v4 = .int .i64 (cy 65536 (fun j => f' j - pD j) i) ∧ Below w.heap.size w wr ∧ Row wr w.heap.size .i64 16 (fun j => if j < i then lessD f' j else f' j) 33 ∧ Row wr (w.heap.size + 1) .i64 16 (fun _ => 0) 33 ∧ Row wr gp .i64 16 pD 33
theorem cy_b (f' : Nat → Int) (h : D16 f') : ∀ i, i ≤ 16 → -1 ≤ cy 65536 (fun j => f' j - pD j) i ∧ cy 65536 (fun j => f' j - pD j) i ≤ 0
  | 0, _ => by simp [cy]
  | i + 1, hi => by
    have ih := cy_b f' h i (by omega)
    have h1 := h i (by omega)
    have h2 := pD_b i
    show -1 ≤ (f' i - pD i + cy 65536 (fun j => f' j - pD j) i) / 65536 ∧ _
    have e : cy 65536 (fun j => f' j - pD j) (i + 1) = (f' i - pD i + cy 65536 (fun j => f' j - pD j) i) / 65536 := rfl
    rw [e]
    omega
theorem least_calls (f : Nat → Int) (w : World) (hf : CB f) :
    Calls Try.prog 39 #[.agg (FR .i64 16 f)] w fun e w' => e = .returned (.agg (FR .i64 16 (dig 65536 (V16 f % PP)))) ∧ Below w.heap.size w w' := by
  have HF := Aside0.mk (carry_thrice f hf)
  have HF0 := Aside0.mk hf
  clear hf
  go_enter Try.func39, Try.ntmps39
  have HR0 := Aside0.mk ((Row.new w .i64 16 f 33).alloc (.cells (FR .i64 16 fun _ => 0) 33))
  have HZ0 : Aside0 (Row ((w.alloc (.cells (FR .i64 16 f) 33)).alloc (.cells (FR .i64 16 fun _ => 0) 33)) (w.heap.size + 1) .i64 16 (fun _ => 0) 33) := Aside0.mk (heap_alloc2_new w _ _)
  have HB0 := Aside0.mk (bel_two w (.cells (FR .i64 16 f) 33) (.cells (FR .i64 16 fun _ => 0) 33))
  go_wp2_with (refine step_load HR0.out Try.underlying33 info33 rfl rfl rfl rfl ?_)
  refine (carry_calls _ _ HF0.out).mono ?_
  rintro e w1 ⟨rfl, hb⟩
  have HR1 := Aside0.mk (HR0.out.below hb HR0.out.lt)
  have HZ1 := Aside0.mk (HZ0.out.below hb HZ0.out.lt)
  have HB1 := Aside0.mk (HB0.out.trans (hb.mono (by simp; omega)))
  clear hb HR0 HZ0 HB0
  go_wp2_with fail
  refine (carry_calls _ _ HF.out.1).mono ?_
  rintro e w2 ⟨rfl, hb⟩
  have HR2 := Aside0.mk (HR1.out.below hb HR1.out.lt)
  have HZ2 := Aside0.mk (HZ1.out.below hb HZ1.out.lt)
  have HB2 := Aside0.mk (HB1.out.trans (hb.mono (by have := HZ1.out.lt; omega)))
  clear hb HR1 HZ1 HB1
  go_wp2_with fail
  refine (carry_calls _ _ HF.out.2.1).mono ?_
  rintro e w3 ⟨rfl, hb⟩
  have HR3 := Aside0.mk (HR2.out.below hb HR2.out.lt)
  have HZ3 := Aside0.mk (HZ2.out.below hb HZ2.out.lt)
  have HB3 := Aside0.mk (HB2.out.trans (hb.mono (by have := HZ2.out.lt; omega)))
  clear hb HR2 HZ2 HB2
  go_wp2_with (refine step_store _ HR3.out info33 rfl rfl rfl rfl rfl ?_)
  go_loopw [11] (fun _ wr => LRel1 w f wr) (fun _ wr => rowNat wr w.heap.size)
  case atStart => exact ⟨_, HF.out.2.2.1, HF.out.2.2.2, bel_setCells (Nat.le_refl _) _ _ _ HB3.out, HR3.out.all, HZ3.out.cells_other _ (by omega)⟩
  case round =>
    obtain ⟨f', hd, hv, hb, hr, hz⟩ := hrel
    have HD := Aside0.mk hd
    have HV := Aside0.mk hv
    have HB := Aside0.mk hb
    have HR := Aside0.mk hr
    have HZ := Aside0.mk hz
    have hl1 := hr.lt
    have hl2 := hz.lt
    clear hd hv hb hr hz HB3 HR3 HZ3
    go_wp2_with (refine step_load HR.out Try.underlying33 info33 rfl rfl rfl rfl ?_)
    refine (below_calls _ _).mono ?_
    rintro e w4 ⟨rfl, hb⟩
    have HR4 := Aside0.mk (HR.out.below hb hl1)
    have HZ4 := Aside0.mk (HZ.out.below hb hl2)
    have HB4 := Aside0.mk (HB.out.trans (hb.mono (by omega)))
    have hl3 := HR4.out.lt
    have hl4 := HZ4.out.lt
    clear hb
    cases hbl : belowN f' 16
    · have HBL := Aside0.mk hbl
      clear hbl
      go_wp2_with fail
      refine (P_calls _).mono ?_
      rintro e w5 ⟨rfl, hb⟩
      have HR5 := Aside0.mk (HR4.out.below hb hl3)
      have HZ5 := Aside0.mk (HZ4.out.below hb hl4)
      have HB5 := Aside0.mk (HB4.out.trans (hb.mono (by omega)))
      have hl5 := HR5.out.lt
      have hl6 := HZ5.out.lt
      clear hb
      have HN := Aside0.mk (Row.new w5 .i64 16 (fun _ => 0) 33)
      go_wp2_with (refine step_store pD HN.out info33 rfl rfl rfl rfl rfl ?_)
      have HB6 := Aside0.mk (bel_setCells (show w.heap.size ≤ w5.heap.size by omega) (FR .i64 16 pD).toList 0 _ (HB5.out.alloc (by omega) (.cells (FR .i64 16 fun _ => 0) 33)))
      have HR6 := Aside0.mk ((HR5.out.alloc (.cells (FR .i64 16 fun _ => 0) 33)).cells_other (FR .i64 16 pD).toList (show w.heap.size ≠ w5.heap.size by omega))
      have HZ6 := Aside0.mk ((HZ5.out.alloc (.cells (FR .i64 16 fun _ => 0) 33)).cells_other (FR .i64 16 pD).toList (show w.heap.size + 1 ≠ w5.heap.size by omega))
      have HP := Aside0.mk (HN.out.all (f' := pD))
      have HL := Aside0.mk (lessD_V f' HD.out HBL.out)
      have HM := Aside0.mk (rowNat_of HR.out)
      have HPP := Aside0.mk (show PP ≤ V16 f' by
        have := HBL.out
        rw [belowN16 f' HD.out] at this
        simpa using this)
      clear HN HR HZ HB HR4 HZ4 HB4 HR5 HZ5 HB5
      go_wp2_with fail
      go_loopw [5, 4] (fun v5 v4 wr => LRel2 w f' w5.heap.size v5 v4 wr) (fun v _ _ => 16 - (intOf v).toNat)
      case atStart => exact ⟨0, by omega, rfl, rfl, HB6.out, row_eq HR6.out (fun j hj => (if_neg (by omega)).symm), HZ6.out, HP.out⟩
      case round =>
        obtain ⟨i, hi, rfl, rfl, hb, hr, hz, hp⟩ := hrel
        have HB7 := Aside0.mk hb
        have HR7 := Aside0.mk hr
        have HZ7 := Aside0.mk hz
        have HP7 := Aside0.mk hp
        rcases Nat.lt_or_ge i 16 with h15 | h15
        · have hlt : ((i : Int) < 16) = True := eq_true (by omega)
          have f0 := hr.fro i
          have k0 := hr.cell i (by omega)
          have e0 : (if i < i then lessD f' i else f' i) = f' i := if_neg (by omega)
          rw [e0] at k0
          have k1 := hp.cell i (by omega)
          have hc := cy_b f' HD.out i (by omega)
          have hd := HD.out i h15
          have hq := pD_b i
          have HX := Aside0.mk (less_row f' i HD.out h15)
          have HY := Aside0.mk (show cy 65536 (fun j => f' j - pD j) (i + 1) = (f' i - pD i + cy 65536 (fun j => f' j - pD j) i) / 65536 from rfl)
          generalize cy 65536 (fun j => f' j - pD j) i = c at *
          have w0 : wrap64 (f' i - pD i) = f' i - pD i := w64 _ (by omega)
          have w1' : wrap64 (f' i - pD i + c) = f' i - pD i + c := w64 _ (by omega)
          generalize hx : f' i - pD i + c = x at *
          have hxb : -65536 ≤ x ∧ x ≤ 65535 := by omega
          have w2' : wrap64 (x / 65536 * 65536) = x / 65536 * 65536 := w64 _ (by omega)
          have w3' : wrap64 (x - x / 65536 * 65536) = x - x / 65536 * 65536 := w64 _ (by omega)
          have hx' := hx
          clear hb hr hz hp e0 hc hd hq hxb hx
          go_wp2_with fail
          go_region
          all_goals go_wp2_with fail
          refine ⟨⟨i + 1, by omega, rfl, by rw [HY.out], (bel_set HB7.out _ _ (Nat.le_refl _)).drew, ?_, HZ7.out.other _ _ (show w.heap.size + 1 ≠ w.heap.size by omega), HP7.out.other _ _ (show w5.heap.size ≠ w.heap.size by omega)⟩, meas_up 16 i (by omega)⟩
          rw [← HX.out]
          exact part_step (F := lessD f') (a := ⟨0, 0, none⟩) HR7.out (by omega)
        · obtain rfl : i = 16 := by omega
          clear hb hr hz hp
          go_wp2_with fail
          have HR8 := row_eq HR7.out (f' := lessD f') (fun j hj => if_pos hj)
          refine ⟨⟨lessD f', HL.out.2, less_mod f f' HV.out HL.out.1, HB7.out, HR8, HZ7.out⟩, ?_⟩
          rw [HM.out, rowNat_of HR8, HL.out.1]
          have := HPP.out
          unfold PP at *
          omega
    · have HBL := Aside0.mk hbl
      clear hbl
      go_wp2_with (first | refine step_load HR4.out Try.underlying33 info33 rfl rfl rfl rfl ?_ | refine step_store _ HZ4.out info33 rfl rfl rfl rfl rfl ?_)
      refine bodyPost_ret (row_results rfl (HZ4.out.all) rfl Try.underlying33 rfl info33) rfl ?_
      exact ⟨by rw [least_end f f' HD.out HV.out HBL.out], bel_setCells (by omega) _ _ _ HB4.out⟩
end
section
set_option linter.unusedVariables false
set_option linter.unusedSimpArgs false
open Go.RowKit
def M51 : Int := 2251799813685248
/-- Five limbs as a row. -/
def lf (t : Int × Int × Int × Int × Int) : Nat → Int
  | 0 => t.1
  | 1 => t.2.1
  | 2 => t.2.2.1
  | 3 => t.2.2.2.1
  | _ => t.2.2.2.2
theorem lf_row (t : Int × Int × Int × Int × Int) : E5t t = .agg (FR .u64 5 (lf t)) := rfl
theorem row_lf (f : Nat → Int) : (.agg (FR .u64 5 f) : Value) = E5 (f 0) (f 1) (f 2) (f 3) (f 4) := rfl
/-- What carried answers, by rows. -/
def carr (f : Nat → Int) : Nat → Int := lf (carriedZ (f 0) (f 1) (f 2) (f 3) (f 4))
theorem carr_calls (f : Nat → Int) (w : World) (h : ∀ i, i < 5 → 0 ≤ f i ∧ f i ≤ 9223372036854775808) :
    Calls Try.prog 34 #[.agg (FR .u64 5 f)] w fun e w' => e = .returned (.agg (FR .u64 5 (carr f))) ∧ Below w.heap.size w w' :=
  carried_calls (f 0) (f 1) (f 2) (f 3) (f 4) w (h 0 (by omega)) (h 1 (by omega)) (h 2 (by omega)) (h 3 (by omega)) (h 4 (by omega))
/-- The number of five limbs. -/
def V51 (f : Nat → Int) : Int := f 0 + f 1 * 2251799813685248 + f 2 * 5070602400912917605986812821504 + f 3 * 11417981541647679048466287755595961091061972992 + f 4 * 25711008708143844408671393477458601640355247900524685364822016
theorem V51_val (f : Nat → Int) : V51 f = val 2251799813685248 f 5 := by
  simp [V51, val]
theorem PP_M51 : (25711008708143844408671393477458601640355247900524685364822016 : Int) * 2251799813685248 = PP + 19 := by decide
theorem carr_eq (f : Nat → Int) : carr f 0 = (f 0 + 19 * (f 4 / 2251799813685248)) % 2251799813685248 ∧
    carr f 1 = (f 1 + (f 0 + 19 * (f 4 / 2251799813685248)) / 2251799813685248) % 2251799813685248 ∧
    carr f 2 = (f 2 + (f 1 + (f 0 + 19 * (f 4 / 2251799813685248)) / 2251799813685248) / 2251799813685248) % 2251799813685248 ∧
    carr f 3 = (f 3 + (f 2 + (f 1 + (f 0 + 19 * (f 4 / 2251799813685248)) / 2251799813685248) / 2251799813685248) / 2251799813685248) % 2251799813685248 ∧
    carr f 4 = f 4 % 2251799813685248 + (f 3 + (f 2 + (f 1 + (f 0 + 19 * (f 4 / 2251799813685248)) / 2251799813685248) / 2251799813685248) / 2251799813685248) / 2251799813685248 := ⟨rfl, rfl, rfl, rfl, rfl⟩
/-- Limbs as the program keeps them. -/
def Lm (f : Nat → Int) : Prop := (∀ i, i < 4 → 0 ≤ f i ∧ f i < 2251799813685248) ∧ 0 ≤ f 4 ∧ f 4 < 2251799813693440
theorem Lm.b {f : Nat → Int} (h : Lm f) (i : Nat) (hi : i < 5) : 0 ≤ f i ∧ f i < 4503599627370496 := by
  rcases Nat.lt_or_ge i 4 with h4 | h4
  · have := h.1 i h4; omega
  · obtain rfl : i = 4 := by omega
    have := h.2; omega
theorem carr_Lm (f : Nat → Int) (h : ∀ i, i < 5 → 0 ≤ f i ∧ f i ≤ 9223372036854775808) : Lm (carr f) := by
  obtain ⟨e0, e1, e2, e3, e4⟩ := carr_eq f
  have h0 := h 0 (by omega); have h1 := h 1 (by omega); have h2 := h 2 (by omega); have h3 := h 3 (by omega); have h4 := h 4 (by omega)
  refine ⟨fun i hi => ?_, ?_⟩
  · have hc : i = 0 ∨ i = 1 ∨ i = 2 ∨ i = 3 := by omega
    rcases hc with rfl | rfl | rfl | rfl
    · rw [e0]; omega
    · rw [e1]; omega
    · rw [e2]; omega
    · rw [e3]; omega
  · rw [e4]; omega
theorem carr_V (f : Nat → Int) : V51 (carr f) = V51 f - PP * (f 4 / 2251799813685248) := by
  obtain ⟨e0, e1, e2, e3, e4⟩ := carr_eq f
  unfold V51 PP
  rw [e0, e1, e2, e3, e4]
  omega
theorem carr_mod (f : Nat → Int) : V51 (carr f) % PP = V51 f % PP := by
  rw [carr_V, Int.sub_mul_emod_self_left]
/-- Behind two more the limbs are right digits. -/
theorem carr_two (f : Nat → Int) (h : Lm f) : ∀ i, i < 5 → 0 ≤ carr f i ∧ carr f i < 2251799813685248 := by
  obtain ⟨e0, e1, e2, e3, e4⟩ := carr_eq f
  have h0 := h.1 0 (by omega); have h1 := h.1 1 (by omega); have h2 := h.1 2 (by omega); have h3 := h.1 3 (by omega); have h4 := h.2
  intro i hi
  have hc : i = 0 ∨ i = 1 ∨ i = 2 ∨ i = 3 ∨ i = 4 := by omega
  rcases hc with rfl | rfl | rfl | rfl | rfl
  · rw [e0]; omega
  · rw [e1]; omega
  · rw [e2]; omega
  · rw [e3]; omega
  · rw [e4]; omega
/-- The quotient that Bytes finds. -/
def plus19 (f : Nat → Int) : Nat → Int := upd f 0 (f 0 + 19)
theorem val_upd0 (B : Int) (f : Nat → Int) (x : Int) : ∀ n, val B (upd f 0 x) (n + 1) = val B f (n + 1) + (x - f 0)
  | 0 => by simp [val, upd]; omega
  | n + 1 => by
    have ih := val_upd0 B f x n
    rw [val, ih, upd_other _ _ _ _ (by omega)]
    show _ = val B f (n + 1) + f (n + 1) * B ^ (n + 1) + (x - f 0)
    omega
def quo (f : Nat → Int) : Int := cy 2251799813685248 (plus19 f) 5
theorem quo_eq (f : Nat → Int) : quo f = (V51 f + 19) / 57896044618658097711785492504343953926634992332820282019728792003956564819968 := by
  unfold quo
  rw [(cy_div 2251799813685248 (by omega) (plus19 f) 5).1]
  unfold plus19
  rw [val_upd0, V51_val]
  have e : val 2251799813685248 f (4 + 1) = val 2251799813685248 f 5 := rfl
  have e5 : (2251799813685248 : Int) ^ (4 + 1) = 57896044618658097711785492504343953926634992332820282019728792003956564819968 := by decide
  rw [e]
  congr 1
  omega
def topped (f : Nat → Int) : Nat → Int := upd f 0 (f 0 + 19 * quo f)
/-- The limbs of the least number. -/
def leastL (f : Nat → Int) (i : Nat) : Int := (topped f i + cy 2251799813685248 (topped f) i) % 2251799813685248
theorem leastL_V (f : Nat → Int) (h : ∀ i, i < 5 → 0 ≤ f i ∧ f i < 2251799813685248) : val 2251799813685248 (leastL f) 5 = V51 f % PP := by
  have h2 := (cy_div 2251799813685248 (by omega) (topped f) 5).2
  have hb := val_b 2251799813685248 (by omega) f 5 h
  rw [← V51_val] at hb
  have hq := quo_eq f
  have e : val 2251799813685248 (leastL f) 5 = val 2251799813685248 (topped f) 5 % 2251799813685248 ^ 5 := h2
  rw [e]
  unfold topped
  rw [val_upd0, ← V51_val]
  generalize quo f = q at *
  generalize V51 f = x at *
  have e5 : (2251799813685248 : Int) ^ 5 = 57896044618658097711785492504343953926634992332820282019728792003956564819968 := by decide
  rw [e5] at hb ⊢
  have hq' : q = 0 ∨ q = 1 := by omega
  unfold PP
  have e0 : x + (f 0 + 19 * q - f 0) = x + 19 * q := by omega
  rw [e0]
  clear e e0 e5 h2
  rcases hq' with rfl | rfl <;> omega
theorem leastL_b (f : Nat → Int) (i : Nat) : 0 ≤ leastL f i ∧ leastL f i < 2251799813685248 := by unfold leastL; omega
theorem quo_b (f : Nat → Int) (h : ∀ i, i < 5 → 0 ≤ f i ∧ f i < 2251799813685248) : ∀ i, i ≤ 5 → 0 ≤ cy 2251799813685248 (plus19 f) i ∧ cy 2251799813685248 (plus19 f) i ≤ 1
  | 0, _ => by simp [cy]
  | i + 1, hi => by
    have ih := quo_b f h i (by omega)
    have e : cy 2251799813685248 (plus19 f) (i + 1) = (plus19 f i + cy 2251799813685248 (plus19 f) i) / 2251799813685248 := rfl
    have hx : 0 ≤ plus19 f i ∧ plus19 f i ≤ 2251799813685248 + 18 := by
      have := h i (by omega)
      unfold plus19 upd
      split
      · rename_i h0; subst h0; omega
      · omega
    have hy : 0 < i → plus19 f i < 2251799813685248 := fun h0 => by
      have := h i (by omega)
      unfold plus19; rw [upd_other _ _ _ _ (by omega)]; omega
    rw [e]
    rcases Nat.eq_zero_or_pos i with h0 | h0
    · subst h0
      have : cy 2251799813685248 (plus19 f) 0 = 0 := rfl
      omega
    · have := hy h0
      omega
end
section
set_option linter.unusedVariables false
set_option linter.unusedSimpArgs false
open Go.RowKit
/-- The number's byte j, as far as its first i bits go. -/
def outB (N : Int) (i j : Nat) : Int := N / 256 ^ j % 2 ^ (min 8 (i - 8 * j))
theorem div_pow (N : Int) (a b : Nat) : N / 2 ^ a / 2 ^ b = N / 2 ^ (a + b) := by
  rw [Int.ediv_ediv_of_nonneg (Int.le_of_lt (Int.pow_pos (by omega))), ← Int.pow_add]
theorem pow256 (j : Nat) : (256 : Int) ^ j = 2 ^ (8 * j) := by
  rw [Int.pow_mul]; rfl
theorem powB (k : Nat) : (2251799813685248 : Int) ^ k = 2 ^ (51 * k) := by
  rw [Int.pow_mul]; rfl
theorem mod_pow_div (x : Int) (n s : Nat) (h : s < n) : x % 2 ^ n / 2 ^ s % 2 = x / 2 ^ s % 2 := by
  obtain ⟨m, rfl⟩ : ∃ m, n = s + (m + 1) := ⟨n - s - 1, by omega⟩
  have hp : (0 : Int) < 2 ^ s := Int.pow_pos (by omega)
  have e := Int.emod_add_mul_ediv x (2 ^ (s + (m + 1)))
  generalize x % 2 ^ (s + (m + 1)) = r at *
  generalize x / 2 ^ (s + (m + 1)) = q at *
  have e2 : (2 : Int) ^ (s + (m + 1)) * q = 2 ^ s * (2 * (2 ^ m * q)) := by rw [Int.pow_add, Int.pow_succ]; grind
  rw [e2] at e
  rw [← e, Int.add_mul_ediv_left _ _ (by omega)]
  omega
/-- The bit that the limbs show is the number's. -/
theorem limb_bit (N : Int) (i : Nat) : dig 2251799813685248 N (i / 51) / 2 ^ (i % 51) % 2 = N / 2 ^ i % 2 := by
  unfold dig
  have e : (2251799813685248 : Int) = 2 ^ 51 := by decide
  rw [powB, e, mod_pow_div _ 51 _ (by omega), div_pow]
  congr 3
  omega
theorem mod_succ (x : Int) (r : Nat) : x % 2 ^ (r + 1) = x % 2 ^ r + x / 2 ^ r % 2 * 2 ^ r := by
  have hp : (0 : Int) < 2 ^ r := Int.pow_pos (by omega)
  have h1 := Int.emod_add_mul_ediv x (2 ^ r)
  have h2 := Int.emod_add_mul_ediv (x / 2 ^ r) 2
  have b1 := Int.emod_nonneg x (show (2 : Int) ^ r ≠ 0 by omega)
  have b2 := Int.emod_lt_of_pos x hp
  have hc : x / 2 ^ r % 2 = 0 ∨ x / 2 ^ r % 2 = 1 := by omega
  rw [Int.pow_succ]
  have e : x = (x % 2 ^ r + x / 2 ^ r % 2 * 2 ^ r) + (2 ^ r * 2) * (x / 2 ^ r / 2) := by grind
  have e2 : x % (2 ^ r * 2) = (x % 2 ^ r + x / 2 ^ r % 2 * 2 ^ r) := by
    conv => lhs; rw [e]
    rw [Int.add_mul_emod_self_left]
    apply Int.emod_eq_of_lt
    · rcases hc with h | h <;> rw [h] <;> omega
    · rcases hc with h | h <;> rw [h] <;> omega
  exact e2
theorem outB_step (N : Int) (i j : Nat) : outB N (i + 1) j = upd (outB N i) (i / 8) (outB N i (i / 8) + N / 2 ^ i % 2 * 2 ^ (i % 8)) j := by
  by_cases h : j = i / 8
  · subst h
    rw [upd_same]
    unfold outB
    rw [show min 8 (i + 1 - 8 * (i / 8)) = i % 8 + 1 by omega, show min 8 (i - 8 * (i / 8)) = i % 8 by omega, mod_succ, pow256, div_pow, show 8 * (i / 8) + i % 8 = i by omega]
  · rw [upd_other _ _ _ _ h]
    unfold outB
    rw [show min 8 (i + 1 - 8 * j) = min 8 (i - 8 * j) by omega]
theorem and1 (x : Int) (h0 : 0 ≤ x) (h1 : x < 18446744073709551616) : Go.bits .and .u64 x 1 = x % 2 := by
  rw [u64_and _ _ h0 h1 (by omega) (by omega), show (1 : Int).toNat = 2 ^ 1 - 1 from rfl, Nat.and_two_pow_sub_one_eq_mod]
  omega
theorem or_bit (x b : Int) (r : Nat) (hr : r < 8) (hx : 0 ≤ x ∧ x < 2 ^ r) (hb : b = 0 ∨ b = 1) : Go.bits .or .u8 x (b % 256 * 2 ^ r % 256) = x + b * 2 ^ r := by
  have hp : (0 : Int) < 2 ^ r := Int.pow_pos (by omega)
  have h8 : (2 : Int) ^ r ≤ 128 := by
    have hc : r = 0 ∨ r = 1 ∨ r = 2 ∨ r = 3 ∨ r = 4 ∨ r = 5 ∨ r = 6 ∨ r = 7 := by omega
    rcases hc with h | h | h | h | h | h | h | h <;> subst h <;> decide
  have hv : b % 256 * 2 ^ r % 256 = b * 2 ^ r := by
    rcases hb with h | h
    · subst h; simp
    · subst h; rw [Int.emod_eq_of_lt (show (0 : Int) ≤ 1 % 256 * 2 ^ r by omega) (by omega)]; rfl
  rw [hv]
  have hb2 : 0 ≤ b * 2 ^ r ∧ b * 2 ^ r ≤ 128 := by rcases hb with h | h <;> subst h <;> omega
  rw [u8_or _ _ hx.1 (by omega) hb2.1 (by omega)]
  have e : (b * 2 ^ r).toNat = 2 ^ r * b.toNat := by
    rcases hb with h | h
    · subst h; simp
    · subst h; rw [Int.one_mul, Int.toNat_pow_of_nonneg (by omega)]; simp
  have hxn : x.toNat < 2 ^ r := by
    have : ((2 ^ r : Nat) : Int) = 2 ^ r := by simp
    omega
  rw [e, Nat.or_comm, ← Nat.two_pow_add_eq_or_of_lt hxn]
  rcases hb with h | h
  · subst h; simp; omega
  · subst h
    have : ((2 ^ r : Nat) : Int) = 2 ^ r := by simp
    simp; omega
/-- The step of the loop over the bits. -/
theorem bit_step (f : Nat → Int) (hf : ∀ i, i < 5 → 0 ≤ f i ∧ f i < 2251799813685248) (N : Int) (hN : val 2251799813685248 f 5 = N) (i : Nat) (hi : i < 255) :
    Go.bits .or .u8 (outB N i (i / 8)) (Go.bits .and .u64 (f (i / 51) / 2 ^ (i % 51)) 1 % 256 * 2 ^ (i % 8) % 256) = outB N i (i / 8) + N / 2 ^ i % 2 * 2 ^ (i % 8) := by
  have hp : (0 : Int) < 2 ^ (i % 51) := Int.pow_pos (by omega)
  have hb := hf (i / 51) (by omega)
  have h0 : 0 ≤ f (i / 51) / 2 ^ (i % 51) := Int.ediv_nonneg hb.1 (by omega)
  have h1 : f (i / 51) / 2 ^ (i % 51) ≤ f (i / 51) := Int.ediv_le_self _ hb.1
  rw [and1 _ h0 (by omega), dig_val 2251799813685248 (by omega) f 5 hf (i / 51) (by omega), hN, limb_bit]
  apply or_bit _ _ _ (by omega)
  · unfold outB
    rw [show min 8 (i - 8 * (i / 8)) = i % 8 by omega]
    have hp8 : (0 : Int) < 2 ^ (i % 8) := Int.pow_pos (by omega)
    exact ⟨Int.emod_nonneg _ (by omega), Int.emod_lt_of_pos _ hp8⟩
  · omega
theorem outB_end (N : Int) (h0 : 0 ≤ N) (h1 : N < 57896044618658097711785492504343953926634992332820282019728792003956564819968) (j : Nat) (hj : j < 32) : outB N 255 j = dig 256 N j := by
  unfold outB dig
  by_cases h : j = 31
  · subst h
    have e : (256 : Int) ^ 31 = 452312848583266388373324160190187140051835877600158453279131187530910662656 := by decide
    rw [e, show min 8 (255 - 8 * 31) = 7 by omega, show (2 : Int) ^ 7 = 128 by decide]
    omega
  · rw [show min 8 (255 - 8 * j) = 8 by omega]; rfl
end
section
set_option linter.unusedVariables false
set_option linter.unusedSimpArgs false
open Go.RowKit
attribute [local go_sem] setCell_drewN
theorem info25 : (Try.prog.info? 25).map (·.size) = some 5 := by kernel_rfl
theorem info27 : (Try.prog.info? 27).map (·.size) = some 5 := by kernel_rfl
theorem info22 : (Try.prog.info? 22).map (·.size) = some 32 := by kernel_rfl
theorem field27 (f : Nat → Int) (w : World) : (Instr.field 27 (.agg (FR .u64 5 f)) 0).run Try.prog w = .ok (.agg (FR .u64 5 f)) w := by
  show (Instr.field 27 (.agg #[.int .u64 (f 0), .int .u64 (f 1), .int .u64 (f 2), .int .u64 (f 3), .int .u64 (f 4)]) 0).run Try.prog w = .ok (.agg #[.int .u64 (f 0), .int .u64 (f 1), .int .u64 (f 2), .int .u64 (f 3), .int .u64 (f 4)]) w
  unfold Instr.field asAgg
  go_simp
def QRel (w : World) (l : Nat → Int) (b2 : Nat) (v5 v4 : Value) (wr : World) : Prop :=
  ∃ i : Nat, 1 ≤ i ∧ i ≤ 5 ∧ v5 = .int .i64 (i : Int) ∧ v4 = .int .u64 (cy 2251799813685248 (plus19 l) i) ∧ Below w.heap.size w wr ∧ Row wr (w.heap.size + 1) .u8 32 (fun _ => 0) 22 ∧ Row wr b2 .u64 5 l 25
theorem cyT_b (g : Nat → Int) (h0 : 0 ≤ g 0 ∧ g 0 ≤ 2251799813685266) (h : ∀ i, i < 5 → i ≠ 0 → 0 ≤ g i ∧ g i < 2251799813685248) : ∀ i, i ≤ 5 → 0 ≤ cy 2251799813685248 g i ∧ cy 2251799813685248 g i ≤ 1
  | 0, _ => by simp [cy]
  | i + 1, hi => by
    have ih := cyT_b g h0 h i (by omega)
    have e : cy 2251799813685248 g (i + 1) = (g i + cy 2251799813685248 g i) / 2251799813685248 := rfl
    rw [e]
    by_cases hz : i = 0
    · subst hz
      have : cy 2251799813685248 g 0 = 0 := rfl
      omega
    · have := h i (by omega) hz
      omega
theorem topped_b (l : Nat → Int) (hl : ∀ i, i < 5 → 0 ≤ l i ∧ l i < 2251799813685248) : (0 ≤ topped l 0 ∧ topped l 0 ≤ 2251799813685266) ∧ (∀ i, i < 5 → i ≠ 0 → 0 ≤ topped l i ∧ topped l i < 2251799813685248) := by
  have hq := quo_b l hl 5 (by omega)
  have h0 := hl 0 (by omega)
  refine ⟨?_, fun i hi hz => ?_⟩
  · unfold topped quo; rw [upd_same]; omega
  · unfold topped; rw [upd_other _ _ _ _ hz]; exact hl i hi
/-- The limbs behind i of the four steps. -/
def midL (l : Nat → Int) (i j : Nat) : Int := if j < i then leastL l j else if j = i then topped l i + cy 2251799813685248 (topped l) i else topped l j
theorem midL_zero (l : Nat → Int) (j : Nat) : midL l 0 j = topped l j := by
  unfold midL
  rw [if_neg (by omega)]
  split
  · rename_i h; subst h; show _ + (0 : Int) = _; omega
  · rfl
theorem midL_step (l : Nat → Int) (i j : Nat) : midL l (i + 1) j = upd (upd (midL l i) (i + 1) (topped l (i + 1) + (topped l i + cy 2251799813685248 (topped l) i) / 2251799813685248)) i ((topped l i + cy 2251799813685248 (topped l) i) % 2251799813685248) j := by
  by_cases h1 : j = i
  · subst h1; rw [upd_same]; unfold midL; rw [if_pos (by omega)]; rfl
  · rw [upd_other _ _ _ _ h1]
    by_cases h2 : j = i + 1
    · subst h2; rw [upd_same]; unfold midL; rw [if_neg (by omega), if_pos rfl]; rfl
    · rw [upd_other _ _ _ _ h2]; unfold midL
      by_cases h3 : j < i
      · rw [if_pos h3, if_pos (by omega)]
      · rw [if_neg h3, if_neg h1, if_neg (by omega), if_neg h2]
def GRel (w : World) (l : Nat → Int) (b2 : Nat) (v35 : Value) (wr : World) : Prop :=
  ∃ i : Nat, i ≤ 4 ∧ v35 = .int .i64 (i : Int) ∧ Below w.heap.size w wr ∧ Row wr (w.heap.size + 1) .u8 32 (fun _ => 0) 22 ∧ Row wr b2 .u64 5 (midL l i) 25
def ZRel (w : World) (l : Nat → Int) (N : Int) (b2 b4 : Nat) (v58 : Value) (wr : World) : Prop :=
  ∃ i : Nat, i ≤ 255 ∧ v58 = .int .i64 (i : Int) ∧ Below w.heap.size w wr ∧ Row wr (w.heap.size + 1) .u8 32 (fun _ => 0) 22 ∧ Row wr b2 .u64 5 (leastL l) 25 ∧ Row wr b4 .u8 32 (outB N i) 22
theorem elem_bytes_calls (f : Nat → Int) (w : World) (hf : ∀ i, i < 5 → 0 ≤ f i ∧ f i ≤ 9223372036854775808) :
    Calls Try.prog 12 #[.agg (FR .u64 5 f)] w fun e w' => e = .returned (.agg (FR .u8 32 (dig 256 (V51 f % PP)))) ∧ Below w.heap.size w w' := by
  have HL1 := Aside0.mk (carr_Lm f hf)
  have HD := Aside0.mk (carr_two _ (carr_Lm f hf))
  have HC1 := Aside0.mk (fun w => carr_calls f w hf)
  have HC2 := Aside0.mk (fun w => carr_calls (carr f) w (fun i hi => by have := (carr_Lm f hf).b i hi; omega))
  clear hf
  go_enter Try.func12, Try.ntmps12
  have HR0 := Aside0.mk ((Row.new w .u64 5 f 27).alloc (.cells (FR .u8 32 fun _ => 0) 22))
  have HZ0 : Aside0 (Row ((w.alloc (.cells (FR .u64 5 f) 27)).alloc (.cells (FR .u8 32 fun _ => 0) 22)) (w.heap.size + 1) .u8 32 (fun _ => 0) 22) := Aside0.mk (heap_alloc2_new w _ _)
  have HB0 := Aside0.mk (bel_two w (.cells (FR .u64 5 f) 27) (.cells (FR .u8 32 fun _ => 0) 22))
  go_wp2_with (refine step_load HR0.out Try.underlying25 info25 rfl rfl rfl rfl ?_)
  refine (HC1.out _).mono ?_
  rintro e w1 ⟨rfl, hb⟩
  have HZ1 := Aside0.mk (HZ0.out.below hb HZ0.out.lt)
  have HB1 := Aside0.mk (HB0.out.trans (hb.mono (by simp; omega)))
  have hl1 := HZ1.out.lt
  clear hb HR0 HZ0 HB0
  have hfl := field27
  go_wp2_with fail
  refine (HC2.out _).mono ?_
  rintro e w2 ⟨rfl, hb⟩
  have HZ2 := Aside0.mk (HZ1.out.below hb hl1)
  have HB2 := Aside0.mk (HB1.out.trans (hb.mono (by omega)))
  have hl2 := HZ2.out.lt
  clear hb HZ1 HB1
  have HN := Aside0.mk (Row.new w2 .u64 5 (fun _ => 0) 25)
  have HZ3 := Aside0.mk (HZ2.out.alloc (.cells (FR .u64 5 fun _ => 0) 25))
  have HB3 := Aside0.mk (HB2.out.alloc (by omega) (.cells (FR .u64 5 fun _ => 0) 25))
  have HV : Aside0 (V51 (carr (carr f)) % PP = V51 f % PP) := ⟨by rw [carr_mod, carr_mod]⟩
  generalize carr (carr f) = l at *
  have hl0 := HD.out 0 (by omega)
  have hw19 : IntKind.u64.wrap (l 0 + 19) = l 0 + 19 := u64w _ (by omega) (by omega)
  have HQ1 : Aside0 (cy 2251799813685248 (plus19 l) 1 = (l 0 + 19) / 2251799813685248) := ⟨by show (l 0 + 19 + 0) / _ = _; rw [Int.add_zero]⟩
  clear hl0 HC1 HC2
  go_wp2_with (refine step_storeG l HN.out info25 rfl rfl rfl rfl rfl ?_; intro w3 hs hr; have HS3 := Aside0.mk hs; have HR3 := Aside0.mk hr; have k0 := hr.cell 0 (by omega); clear hs hr)
  have HZ4 := Aside0.mk (HZ3.out.stored HS3.out (by omega))
  have HB4 := Aside0.mk (HS3.out.bel _ _ (by omega) HB3.out)
  clear HZ3 HB3 HZ2 HB2 HN HS3 k0 hfl
  go_loopw [5, 4] (fun v5 v4 wr => QRel w l w2.heap.size v5 v4 wr) (fun v _ _ => 5 - (intOf v).toNat)
  case atStart => exact ⟨1, by omega, by omega, rfl, by rw [HQ1.out], HB4.out, HZ4.out, HR3.out⟩
  case round =>
    clear HZ4 HB4 HR3 HQ1
    obtain ⟨i, h1, hi, rfl, rfl, hb, hz, hr⟩ := hrel
    have HB := Aside0.mk hb
    have HZ := Aside0.mk hz
    have HR := Aside0.mk hr
    rcases Nat.lt_or_ge i 5 with h5 | h5
    · have hlt : ((i : Int) < 5) = True := eq_true (by omega)
      have k0 := hr.cell i (by omega)
      have hb0 := HD.out i (by omega)
      have hq0 := quo_b l HD.out i (by omega)
      have HX : Aside0 (cy 2251799813685248 (plus19 l) (i + 1) = (l i + cy 2251799813685248 (plus19 l) i) / 2251799813685248) := ⟨by
        show (plus19 l i + _) / _ = _
        unfold plus19; rw [upd_other _ _ _ _ (by omega)]⟩
      generalize cy 2251799813685248 (plus19 l) i = q at *
      generalize l i = x at *
      have hwq : IntKind.u64.wrap (x + q) = x + q := u64w _ (by omega) (by omega)
      clear hb hz hr hb0 hq0
      go_wp2_with fail
      refine ⟨⟨i + 1, by omega, by omega, rfl, by rw [HX.out], HB.out, HZ.out, HR.out⟩, meas_up 5 i (by omega)⟩
    · obtain rfl : i = 5 := by omega
      have hl2' := hz.lt
      have k0 := hr.cell 0 (by omega)
      have f0 := hr.fro 0
      have hb0 := HD.out 0 (by omega)
      have hq0 := quo_b l HD.out 5 (by omega)
      have HQ5 : Aside0 (cy 2251799813685248 (plus19 l) 5 = quo l) := ⟨rfl⟩
      have HRT := Aside0.mk (hr.set 0 (l 0 + 19 * cy 2251799813685248 (plus19 l) 5) (by omega))
      generalize cy 2251799813685248 (plus19 l) 5 = q at *
      have hwq : IntKind.u64.wrap (19 * q) = 19 * q := u64w _ (by omega) (by omega)
      have hwq2 : IntKind.u64.wrap (l 0 + 19 * q) = l 0 + 19 * q := u64w _ (by omega) (by omega)
      clear hb hz hr hb0 hq0
      go_wp2_with fail
      have HBT := Aside0.mk (bel_set HB.out ⟨w2.heap.size, 0, none⟩ (.int .u64 (l 0 + 19 * q)) (by simp; omega))
      have HZT := Aside0.mk (HZ.out.other ⟨w2.heap.size, 0, none⟩ (.int .u64 (l 0 + 19 * q)) (by simp; omega))
      have HRT2 : Aside0 (Row (wr.setCell ⟨w2.heap.size, 0, none⟩ (.int .u64 (l 0 + 19 * q))) w2.heap.size .u64 5 (midL l 0) 25) := ⟨row_eq HRT.out (fun j hj => by rw [midL_zero]; unfold topped; rw [← HQ5.out])⟩
      clear HB HZ HR HRT k0 f0 hwq hwq2
      generalize wr.setCell ⟨w2.heap.size, 0, none⟩ (.int .u64 (l 0 + 19 * q)) = w5 at *
      go_loopw [35] (fun v35 wr => GRel w l w2.heap.size v35 wr) (fun v _ => 4 - (intOf v).toNat)
      case atStart => exact ⟨0, by omega, rfl, HBT.out, HZT.out, HRT2.out⟩
      case round =>
        clear HBT HZT HRT2
        obtain ⟨i, hi, rfl, hb, hz, hr⟩ := hrel
        have HB := Aside0.mk hb
        have HZ := Aside0.mk hz
        have HR := Aside0.mk hr
        have hlz := hz.lt
        have hlr := hr.lt
        rcases Nat.lt_or_ge i 4 with h4 | h4
        · have hlt : ((i : Int) < 4) = True := eq_true (by omega)
          have hlt5 : ((i : Int) < 5) = True := eq_true (by omega)
          have hlt6 : ((i : Int) + 1 < 5) = True := eq_true (by omega)
          have hb0 := topped_b l HD.out
          have hb1 := hb0.2 (i + 1) (by omega) (by omega)
          have hc := cyT_b (topped l) hb0.1 hb0.2 i (by omega)
          have hb2 : 0 ≤ topped l i ∧ topped l i ≤ 2251799813685266 := by
            by_cases hz : i = 0
            · subst hz; exact hb0.1
            · have := hb0.2 i (by omega) hz; omega
          have k0 := hr.cell i (by omega)
          have k1 := hr.cell (i + 1) (by omega)
          have f0 := hr.fro i
          have f1 := hr.fro (i + 1)
          have e0 : midL l i i = topped l i + cy 2251799813685248 (topped l) i := by unfold midL; rw [if_neg (by omega), if_pos rfl]
          have e1 : midL l i (i + 1) = topped l (i + 1) := by unfold midL; rw [if_neg (by omega), if_neg (by omega)]
          rw [e0] at k0
          rw [e1] at k1
          have HS := Aside0.mk (row_eq ((hr.set (i + 1) (topped l (i + 1) + (topped l i + cy 2251799813685248 (topped l) i) / 2251799813685248) (by omega)).set i ((topped l i + cy 2251799813685248 (topped l) i) % 2251799813685248) (by omega)) (fun j hj => (midL_step l i j).symm))
          generalize hT : topped l i + cy 2251799813685248 (topped l) i = T at *
          have hTb : 0 ≤ T ∧ T < 4503599627370496 := by omega
          generalize topped l (i + 1) = y at *
          have m0 := mask51 T (by omega) (by omega)
          have hw : IntKind.u64.wrap (y + T / 2251799813685248) = y + T / 2251799813685248 := u64w _ (by omega) (by omega)
          clear hb hz hr e0 e1 hb0 hb1 hc hb2 hT hTb
          go_wp2_with fail
          go_region
          all_goals go_wp2_with fail
          refine ⟨⟨i + 1, by omega, rfl, bel_set (bel_drewN (bel_set HB.out _ _ (by simp; omega)) 1) _ _ (by simp; omega), ?_, ?_⟩, meas_up 4 i (by omega)⟩
          · exact (HZ.out.other ⟨w2.heap.size, i + 1, none⟩ _ (by simp; omega)).other ⟨w2.heap.size, i, none⟩ _ (by simp; omega)
          · exact HS.out
        · obtain rfl : i = 4 := by omega
          have hb0 := topped_b l HD.out
          have hb1 := hb0.2 4 (by omega) (by omega)
          have hc := cyT_b (topped l) hb0.1 hb0.2 4 (by omega)
          have k4 := hr.cell 4 (by omega)
          have f4 := hr.fro 4
          have e4 : midL l 4 4 = topped l 4 + cy 2251799813685248 (topped l) 4 := rfl
          rw [e4] at k4
          have HS := Aside0.mk (row_eq (hr.set 4 ((topped l 4 + cy 2251799813685248 (topped l) 4) % 2251799813685248) (by omega)) (f' := leastL l) (fun j hj => by
            by_cases h : j = 4
            · subst h; rw [upd_same]; rfl
            · rw [upd_other _ _ _ _ h]; unfold midL; rw [if_pos (by omega)]))
          generalize hT : topped l 4 + cy 2251799813685248 (topped l) 4 = T at *
          have m4 := mask51 T (by omega) (by omega)
          have HBT := Aside0.mk (bel_set HB.out ⟨w2.heap.size, 4, none⟩ (.int .u64 (T % 2251799813685248)) (by simp; omega))
          have HZT := Aside0.mk (HZ.out.other ⟨w2.heap.size, 4, none⟩ (.int .u64 (T % 2251799813685248)) (by simp; omega))
          clear hb hz hr e4 hb0 hb1 hc hT
          go_wp2_with fail
          have hs6 : (wr.setCell ⟨w2.heap.size, 4, none⟩ (.int .u64 (T % 2251799813685248))).heap.size = wr.heap.size := by simp [World.setCell]
          generalize wr.setCell ⟨w2.heap.size, 4, none⟩ (.int .u64 (T % 2251799813685248)) = w6 at *
          have HBA := Aside0.mk (HBT.out.alloc (by omega) (.cells (FR .u8 32 fun _ => 0) 22))
          have HZA := Aside0.mk (HZT.out.alloc (.cells (FR .u8 32 fun _ => 0) 22))
          have HSA := Aside0.mk (HS.out.alloc (.cells (FR .u8 32 fun _ => 0) 22))
          have hoa := Row.new w6 .u8 32 (fun _ => 0) 22
          rw [hs6] at hoa
          have HOA := Aside0.mk hoa
          clear hoa
          have HN : Aside0 (val 2251799813685248 (leastL l) 5 = V51 f % PP) := ⟨by rw [leastL_V l HD.out, HV.out]⟩
          clear HB HZ HR HS HBT HZT k4 f4 m4
          have hw6 : w.heap.size + 1 < w6.heap.size := by omega
          have hw62 : w2.heap.size < w6.heap.size := by omega
          have hb4 : w2.heap.size < wr.heap.size := by omega
          have hb41 : w.heap.size + 1 < wr.heap.size := by omega
          generalize wr.heap.size = b4 at *
          go_loopw [58] (fun v58 wr => ZRel w l (V51 f % PP) w2.heap.size b4 v58 wr) (fun v _ => 255 - (intOf v).toNat)
          case atStart => exact ⟨0, by omega, rfl, HBA.out, HZA.out, HSA.out, row_eq HOA.out (fun j hj => by unfold outB; rw [show min 8 (0 - 8 * j) = 0 by omega]; simp [Int.emod_one])⟩
          case round =>
            clear HBA HZA HSA HOA
            obtain ⟨i, hi, rfl, hb, hz, hr, ho⟩ := hrel
            have HB := Aside0.mk hb
            have HZ := Aside0.mk hz
            have HR := Aside0.mk hr
            have HO := Aside0.mk ho
            have hlz := hz.lt
            have hlr := hr.lt
            rcases Nat.lt_or_ge i 255 with h4 | h4
            · have hlt : ((i : Int) < 255) = True := eq_true (by omega)
              have d8 : Int.tdiv (i : Int) 8 = ((i / 8 : Nat) : Int) := rfl
              have d51 : Int.tdiv (i : Int) 51 = ((i / 51 : Nat) : Int) := rfl
              have r51 : Int.tmod (i : Int) 51 = ((i % 51 : Nat) : Int) := rfl
              have r8 : Int.tmod (i : Int) 8 = ((i % 8 : Nat) : Int) := rfl
              have l8 : (((i / 8 : Nat) : Int) < 32) = True := eq_true (by omega)
              have l51 : (((i / 51 : Nat) : Int) < 5) = True := eq_true (by omega)
              have k8 := ho.cell (i / 8) (by omega)
              have k51 := hr.cell (i / 51) (by omega)
              have f8 := ho.fro (i / 8)
              clear hb hz hr ho
              go_wp2_with fail
              go_region
              all_goals go_wp2_with fail
              refine ⟨⟨i + 1, by omega, rfl, (bel_set HB.out ⟨b4, i / 8, none⟩ _ (by simp; omega)).drew, HZ.out.other ⟨b4, i / 8, none⟩ _ (by simp; omega), HR.out.other ⟨b4, i / 8, none⟩ _ (by simp; omega), ?_⟩, meas_up 255 i (by omega)⟩
              rw [bit_step (leastL l) (fun i _ => leastL_b l i) (V51 f % PP) HN.out i h4]
              exact row_eq (HO.out.set (i / 8) _ (by omega)) (fun j hj => (outB_step (V51 f % PP) i j).symm)
            · obtain rfl : i = 255 := by omega
              have HO2 := Aside0.mk (row_eq HO.out (f' := dig 256 (V51 f % PP)) (fun j hj => outB_end _ (Int.emod_nonneg _ (by decide)) (Int.lt_trans (Int.emod_lt_of_pos _ (by decide)) (by decide)) j hj))
              clear hb hz hr ho HO
              go_wp2_with (first | refine step_load HO2.out Try.underlying22 info22 rfl rfl rfl rfl ?_ | (refine step_storeG _ HZ.out info22 rfl rfl rfl rfl rfl ?_; intro w9 hs hr; have HS9 := Aside0.mk hs; have HR9 := Aside0.mk hr; clear hs hr))
              refine bodyPost_ret (row_results rfl HR9.out rfl Try.underlying22 rfl info22) rfl ?_
              exact ⟨rfl, HS9.out.bel _ _ (by omega) HB.out⟩
end
section
set_option linter.unusedVariables false
set_option linter.unusedSimpArgs false
open Go.RowKit
theorem run_part_FR {P : Program} (e : TypeId) {k : IntKind} (he : P.underlying e = some (.int k)) {n : Nat} (f : Nat → Int) (i : Nat) (hi : i < n) (w : World) : (part e (FR k n f) i).run P w = .ok (.int k (f i)) w := by
  have ha : (isAgg e).run P w = .ok false w := by simp [isAgg, run_underlying he]
  simp only [part, Sem.run_bind, ha, Result.andThen_ok, FR_at _ _ _ _ hi]
  rfl
theorem run_eq_int {P : Program} (e : TypeId) {k : IntKind} (he : P.underlying e = some (.int k)) (d : Nat) (a b : Int) (w : World) : (Op.equalIn (d + 1) e (.int k a) (.int k b)).run P w = .ok (a == b) w := by
  simp only [Op.equalIn, Sem.run_bind, run_underlying he, Result.andThen_ok]
  simp
theorem run_eqItems_FR {P : Program} (e : TypeId) {k : IntKind} (he : P.underlying e = some (.int k)) {n : Nat} (f g : Nat → Int) (d : Nat) (w : World) : ∀ is : List Nat, (∀ i ∈ is, i < n) →
    (Op.eqItems (d + 1) e 1 (FR k n f) (FR k n g) is).run P w = .ok (is.all fun i => f i == g i) w
  | [], _ => by simp [Op.eqItems]
  | i :: is, h => by
    have ih := run_eqItems_FR e he f g d w is (fun j hj => h j (by simp [hj]))
    have hi := h i (by simp)
    have p1 := run_part_FR (P := P) e he f i hi w
    have p2 := run_part_FR (P := P) e he g i hi w
    have p3 := run_eq_int (P := P) e he d (f i) (g i) w
    simp only [Op.eqItems, Nat.mul_one, Sem.run_bind, p1, p2, p3, Result.andThen_ok]
    cases hb : (f i == g i)
    · simp [hb]
    · simp [hb, ih]
/-- Are the first n numbers the same? -/
def sameRow (n : Nat) (f g : Nat → Int) : Bool := decide (∀ i, i < n → f i = g i)
theorem sameRow_iff (n : Nat) (f g : Nat → Int) : sameRow n f g = true ↔ ∀ i, i < n → f i = g i := by unfold sameRow; simp
theorem run_equal_FR {P : Program} {t e : TypeId} {k : IntKind} {n : Nat} (ht : P.underlying t = some (.array n e)) (he : P.underlying e = some (.int k)) (hc : (P.info? e).map (·.size) = some 1) (f g : Nat → Int) (w : World) :
    (Op.equal t (.agg (FR k n f)) (.agg (FR k n g))).run P w = .ok (sameRow n f g) w := by
  obtain ⟨ie, hie, hs⟩ : ∃ ie, P.info? e = some ie ∧ ie.size = 1 := by
    cases h : P.info? e with
    | none => rw [h] at hc; cases hc
    | some ie => rw [h] at hc; exact ⟨ie, rfl, Option.some.inj hc⟩
  have hcell : P.cellsOf e = 1 := by simp [Program.cellsOf, hie, hs]
  have h := run_equalIn_array (P := P) w 9999 (FR k n f) (FR k n g) ht hie
  rw [hcell, run_eqItems_FR (P := P) e he f g 9998 w (List.range n) (fun i hi => List.mem_range.1 hi)] at h
  rw [show Op.equal t (.agg (FR k n f)) (.agg (FR k n g)) = Op.equalIn (9999 + 1) t (.agg (FR k n f)) (.agg (FR k n g)) from rfl, h]
  congr 1
  rw [Bool.eq_iff_iff, sameRow_iff]
  simp
theorem run_index_FR {P : Program} {t e : TypeId} {k : IntKind} {n : Nat} (ht : P.underlying t = some (.array n e)) (he : P.underlying e = some (.int k)) (hc : (P.info? e).map (·.size) = some 1) (f : Nat → Int) (i : Nat) (hi : i < n) (w : World) :
    (Instr.index t (.agg (FR k n f)) (.int .i64 (i : Int))).run P w = .ok (.int k (f i)) w := by
  obtain ⟨ie, hie, hs⟩ : ∃ ie, P.info? e = some ie ∧ ie.size = 1 := by
    cases h : P.info? e with
    | none => rw [h] at hc; cases hc
    | some ie => rw [h] at hc; exact ⟨ie, rfl, Option.some.inj hc⟩
  have h1 : (asIntOf (.int .i64 (i : Int))).run P w = .ok (IntKind.i64, (i : Int)) w := by simp [asIntOf]
  have h2 := run_part_FR (P := P) e he f i hi w
  have hin : 0 ≤ (i : Int) ∧ (i : Int) < (n : Int) := by omega
  have h3 : (typeInfo e).run P w = .ok ie w := by simp [typeInfo, hie]
  simp only [Instr.index, Sem.run_bind, h1, Result.andThen_ok, run_underlying ht, if_pos hin, sizeOf, h3, hs, Sem.run_pure, Int.toNat_natCast, Nat.mul_one, h2]
theorem info5s : (Try.prog.info? 5).map (·.size) = some 1 := by kernel_rfl
theorem info3s : (Try.prog.info? 3).map (·.size) = some 1 := by kernel_rfl
theorem index22 (f : Nat → Int) (i : Nat) (hi : i < 32) (w : World) : (Instr.index 22 (.agg (FR .u8 32 f)) (.int .i64 (i : Int))).run Try.prog w = .ok (.int .u8 (f i)) w := run_index_FR Try.underlying22 Try.underlying5 info5s f i hi w
theorem index33 (f : Nat → Int) (i : Nat) (hi : i < 16) (w : World) : (Instr.index 33 (.agg (FR .i64 16 f)) (.int .i64 (i : Int))).run Try.prog w = .ok (.int .i64 (f i)) w := run_index_FR Try.underlying33 Try.underlying3 info3s f i hi w
theorem equal22 (f g : Nat → Int) (w : World) : (Op.equal 22 (.agg (FR .u8 32 f)) (.agg (FR .u8 32 g))).run Try.prog w = .ok (sameRow 32 f g) w := run_equal_FR Try.underlying22 Try.underlying5 info5s f g w
/-- Numbers below B^n are the same where their digits are. -/
theorem digs_same (B : Int) (hB : 0 < B) (n : Nat) (x y : Int) (hx : 0 ≤ x ∧ x < B ^ n) (hy : 0 ≤ y ∧ y < B ^ n) : (∀ i, i < n → dig B x i = dig B y i) ↔ x = y := by
  constructor
  · intro h
    have h1 := val_dig B hB x n
    have h2 := val_dig B hB y n
    rw [val_congr B _ _ n h] at h1
    rw [Int.emod_eq_of_lt hx.1 hx.2] at h1
    rw [Int.emod_eq_of_lt hy.1 hy.2] at h2
    rw [← h1, h2]
  · rintro rfl i _; rfl
theorem sameRow_dig (B : Int) (hB : 0 < B) (n : Nat) (x y : Int) (hx : 0 ≤ x ∧ x < B ^ n) (hy : 0 ≤ y ∧ y < B ^ n) : sameRow n (dig B x) (dig B y) = decide (x = y) := by
  rw [Bool.eq_iff_iff, sameRow_iff, digs_same B hB n x y hx hy]; simp
theorem modP_b (x : Int) : 0 ≤ x % PP ∧ x % PP < 57896044618658097711785492504343953926634992332820282019728792003956564819949 := by
  unfold PP; omega
theorem modP_32 (x : Int) : 0 ≤ x % PP ∧ x % PP < 256 ^ 32 := by
  have := modP_b x
  have e : (256 : Int) ^ 32 = 115792089237316195423570985008687907853269984665640564039457584007913129639936 := by decide
  rw [e]; omega
end
end Go.Proofs.Ythonoagpiofojaa.P
