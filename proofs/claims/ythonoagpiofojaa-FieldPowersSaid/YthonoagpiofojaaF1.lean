/- field.carried by its walk. -/
import Derived.Test.YthonoagpiofojaaProg
import Derived.Below
import Derived.OwnWalk
import Derived.Laws.OwnMore
import Derived.Tactics
import Derived.Laws.Slices
import Derived.WalkKit
import Derived.KernelRfl
import Derived.Deep.LoopGhost
import Derived.Deep.QuietTactic
import Derived.BigQuiet
import Derived.Deep.CutBlock
import Derived.Laws.BitsLemmas
import Derived.Laws.BitsAllLaws
import Derived.Laws.Rows
import Derived.Laws.NewBlocks
import Derived.RowKit
namespace Go.Proofs.Ythonoagpiofojaa.P
set_option linter.unusedVariables false
set_option linter.unusedSimpArgs false
open Go.RowKit
/-- A fact that the walk shall not use. -/
structure Aside0 (p : Prop) : Prop where
  out : p
theorem bel_drewN {B : Nat} {w W : World} (h : Below B w W) (n : Nat) : Below B w (W.drewN n) := ⟨h.os, h.tape, h.output, h.size, h.block⟩
theorem bel_two (w : World) (a b : Obj) : Below w.heap.size w ((w.alloc a).alloc b) := ((Below.refl _ _).alloc (Nat.le_refl _) a).alloc (by have := ((Below.refl w.heap.size w).alloc (Nat.le_refl _) a).size; exact this) b
/-- Five limbs as a value. -/
def E5 (x0 x1 x2 x3 x4 : Int) : Value := .agg #[.int .u64 x0, .int .u64 x1, .int .u64 x2, .int .u64 x3, .int .u64 x4]
theorem mask51 (x : Int) (h0 : 0 ≤ x) (h1 : x < 18446744073709551616) : Go.bits .and .u64 x 2251799813685247 = x % 2251799813685248 := by
  rw [u64_and _ _ h0 h1 (by omega) (by omega), show (2251799813685247 : Int).toNat = 2 ^ 51 - 1 from rfl, Nat.and_two_pow_sub_one_eq_mod]
  omega
theorem u64w (x : Int) (h0 : 0 ≤ x) (h1 : x < 18446744073709551616) : IntKind.u64.wrap x = x := by
  have : x % 18446744073709551616 = x := by omega
  exact this
/-- What carries from limb i on do. -/
def cfrom : Nat → Int → Int → Int → Int → Int → Int × Int × Int × Int × Int
  | 0, y0, y1, y2, y3, y4 => cfrom3 (y0 % 2251799813685248) (y1 + y0 / 2251799813685248) y2 y3 y4
  | 1, y0, y1, y2, y3, y4 => cfrom2 y0 y1 y2 y3 y4
  | 2, y0, y1, y2, y3, y4 => cfrom1 y0 y1 y2 y3 y4
  | 3, y0, y1, y2, y3, y4 => (y0, y1, y2, y3 % 2251799813685248, y4 + y3 / 2251799813685248)
  | _, y0, y1, y2, y3, y4 => (y0, y1, y2, y3, y4)
where
  cfrom1 (y0 y1 y2 y3 y4 : Int) : Int × Int × Int × Int × Int := (y0, y1, y2 % 2251799813685248, (y3 + y2 / 2251799813685248) % 2251799813685248, y4 + (y3 + y2 / 2251799813685248) / 2251799813685248)
  cfrom2 (y0 y1 y2 y3 y4 : Int) : Int × Int × Int × Int × Int := cfrom1 y0 (y1 % 2251799813685248) (y2 + y1 / 2251799813685248) y3 y4
  cfrom3 (y0 y1 y2 y3 y4 : Int) : Int × Int × Int × Int × Int := cfrom2 y0 y1 y2 y3 y4
/-- What carried answers. -/
def carriedZ (x0 x1 x2 x3 x4 : Int) : Int × Int × Int × Int × Int := cfrom 0 (x0 + 19 * (x4 / 2251799813685248)) x1 x2 x3 (x4 % 2251799813685248)
def E5t (t : Int × Int × Int × Int × Int) : Value := E5 t.1 t.2.1 t.2.2.1 t.2.2.2.1 t.2.2.2.2
def inB' (i : Nat) (y0 y1 y2 y3 y4 : Int) : Prop := (0 ≤ y0 ∧ y0 ≤ 9223372036854775808 + 100000) ∧ (0 ≤ y1 ∧ y1 ≤ 9223372036854775808 + 100000 * (if i < 1 then 0 else 1)) ∧ (0 ≤ y2 ∧ y2 ≤ 9223372036854775808 + 100000 * (if i < 2 then 0 else 1)) ∧ (0 ≤ y3 ∧ y3 ≤ 9223372036854775808 + 100000 * (if i < 3 then 0 else 1)) ∧ (0 ≤ y4 ∧ y4 ≤ 9223372036854775808 + 100000 * (if i < 4 then 0 else 1))
@[local go_sem] theorem setCell_drewN (w : World) (n : Nat) (a : Addr) (v : Value) : (w.drewN n).setCell a v = (w.setCell a v).drewN n := rfl
def CRel (w : World) (x0 x1 x2 x3 x4 : Int) (v18 : Value) (wr : World) : Prop :=
  ∃ (i m : Nat) (y0 y1 y2 y3 y4 : Int), i ≤ 4 ∧ v18 = .int .i64 (i : Int) ∧ inB' i y0 y1 y2 y3 y4 ∧ carriedZ x0 x1 x2 x3 x4 = cfrom i y0 y1 y2 y3 y4 ∧
    wr = ((w.alloc (.cells #[.int .u64 y0, .int .u64 y1, .int .u64 y2, .int .u64 y3, .int .u64 y4] 25)).alloc (.cells #[.int .u64 0, .int .u64 0, .int .u64 0, .int .u64 0, .int .u64 0] 27)).drewN m
theorem carried_calls (x0 x1 x2 x3 x4 : Int) (w : World) (b0 : 0 ≤ x0 ∧ x0 ≤ 9223372036854775808) (b1 : 0 ≤ x1 ∧ x1 ≤ 9223372036854775808) (b2 : 0 ≤ x2 ∧ x2 ≤ 9223372036854775808) (b3 : 0 ≤ x3 ∧ x3 ≤ 9223372036854775808) (b4 : 0 ≤ x4 ∧ x4 ≤ 9223372036854775808) :
    Calls Try.prog 34 #[E5 x0 x1 x2 x3 x4] w fun e w' => e = .returned (E5t (carriedZ x0 x1 x2 x3 x4)) ∧ Below w.heap.size w w' := by
  have m4 := mask51 x4 (by omega) (by omega)
  have w1 := u64w (19 * (x4 / 2251799813685248)) (by omega) (by omega)
  have w2 := u64w (x0 + 19 * (x4 / 2251799813685248)) (by omega) (by omega)
  have HB := Aside0.mk (show inB' 0 (x0 + 19 * (x4 / 2251799813685248)) x1 x2 x3 (x4 % 2251799813685248) from by unfold inB'; omega)
  clear b0 b1 b2 b3 b4
  unfold E5
  go_enter Try.func34, Try.ntmps34
  go_wp2
  go_loopw [18] (fun v18 wr => CRel w x0 x1 x2 x3 x4 v18 wr) (fun v _ => 4 - (intOf v).toNat)
  case atStart => exact ⟨0, 0, _, _, _, _, _, by omega, rfl, HB.out, rfl, rfl⟩
  case round =>
    obtain ⟨i, m, y0, y1, y2, y3, y4, hi, rfl, hb, hcz, rfl⟩ := hrel
    have HC := Aside0.mk hcz
    have HBB := Aside0.mk hb
    clear hcz hb m4 w1 w2
    have hc : i = 0 ∨ i = 1 ∨ i = 2 ∨ i = 3 ∨ i = 4 := by omega
    rcases hc with rfl | rfl | rfl | rfl | rfl
    · have hb := HBB.out
      unfold inB' at hb
      have a1 := mask51 y0 (by omega) (by omega)
      have a2 := u64w (y1 + y0 / 2251799813685248) (by omega) (by omega)
      have HN := Aside0.mk (show inB' 1 (y0 % 2251799813685248) (y1 + y0 / 2251799813685248) y2 y3 y4 from by unfold inB'; omega)
      clear hb
      go_wp2_with fail
      go_region
      go_wp2_with fail
      exact ⟨⟨1, m + 1, (y0 % 2251799813685248), (y1 + y0 / 2251799813685248), y2, y3, y4, by omega, rfl, HN.out, HC.out, rfl⟩, by decide⟩
    · have hb := HBB.out
      unfold inB' at hb
      have a1 := mask51 y1 (by omega) (by omega)
      have a2 := u64w (y2 + y1 / 2251799813685248) (by omega) (by omega)
      have HN := Aside0.mk (show inB' 2 y0 (y1 % 2251799813685248) (y2 + y1 / 2251799813685248) y3 y4 from by unfold inB'; omega)
      clear hb
      go_wp2_with fail
      go_region
      go_wp2_with fail
      exact ⟨⟨2, m + 1, y0, (y1 % 2251799813685248), (y2 + y1 / 2251799813685248), y3, y4, by omega, rfl, HN.out, HC.out, rfl⟩, by decide⟩
    · have hb := HBB.out
      unfold inB' at hb
      have a1 := mask51 y2 (by omega) (by omega)
      have a2 := u64w (y3 + y2 / 2251799813685248) (by omega) (by omega)
      have HN := Aside0.mk (show inB' 3 y0 y1 (y2 % 2251799813685248) (y3 + y2 / 2251799813685248) y4 from by unfold inB'; omega)
      clear hb
      go_wp2_with fail
      go_region
      go_wp2_with fail
      exact ⟨⟨3, m + 1, y0, y1, (y2 % 2251799813685248), (y3 + y2 / 2251799813685248), y4, by omega, rfl, HN.out, HC.out, rfl⟩, by decide⟩
    · have hb := HBB.out
      unfold inB' at hb
      have a1 := mask51 y3 (by omega) (by omega)
      have a2 := u64w (y4 + y3 / 2251799813685248) (by omega) (by omega)
      have HN := Aside0.mk (show inB' 4 y0 y1 y2 (y3 % 2251799813685248) (y4 + y3 / 2251799813685248) from by unfold inB'; omega)
      clear hb
      go_wp2_with fail
      go_region
      go_wp2_with fail
      exact ⟨⟨4, m + 1, y0, y1, y2, (y3 % 2251799813685248), (y4 + y3 / 2251799813685248), by omega, rfl, HN.out, HC.out, rfl⟩, by decide⟩
    · go_wp2_with fail
      refine bodyPost_ret (results_cell_row rfl _ _ (w.heap.size + 1) 27 #[.int .u64 y0, .int .u64 y1, .int .u64 y2, .int .u64 y3, .int .u64 y4] (0, 0) _ rfl (heap_alloc2_new w _ _) Try.underlying27 rfl (by kernel_rfl)) rfl ?_
      refine ⟨?_, ?_⟩
      · rw [HC.out]; rfl
      · exact bel_drewN ((bel_two w _ _)) _
end Go.Proofs.Ythonoagpiofojaa.P
