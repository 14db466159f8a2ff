/- exponent, the program's and the document's, by their walks. -/
import Derived.Test.YthonoagpiofojaaA9
import Derived.Test.YthonoagpiofojaaP2
namespace Go.Proofs.Ythonoagpiofojaa.P
set_option linter.unusedVariables false
set_option linter.unusedSimpArgs false
open Go.RowKit
attribute [local go_sem] setCell_drewN
/-- The bytes of 2 to a power, less k. -/
def exB (p : Nat) (k : Int) : Nat → Int := upd (onesB p) 0 ((onesB p 0 - (k - 1)) % 256)
def ERel (w : World) (v8 : Value) (p : Nat) (wr : World) : Prop :=
  ∃ i : Nat, i ≤ p ∧ v8 = .int .i64 (i : Int) ∧ Below w.heap.size w wr ∧ Row wr w.heap.size .u8 32 (fun _ => 0) 22 ∧ Row wr (w.heap.size + 1) .u8 32 (onesB i) 22
theorem onesB_zero (j : Nat) : (fun _ : Nat => (0 : Int)) j = onesB 0 j := by
  unfold onesB; rw [show min 8 (0 - 8 * j) = 0 by omega]; rfl
theorem pow8m (r : Nat) (h : r < 8) : (2 : Int) ^ r % 256 = 2 ^ r := by
  have hc : r = 0 ∨ r = 1 ∨ r = 2 ∨ r = 3 ∨ r = 4 ∨ r = 5 ∨ r = 6 ∨ r = 7 := by omega
  rcases hc with h | h | h | h | h | h | h | h <;> subst h <;> decide
theorem u8wm (z : Int) : IntKind.u8.wrap z = z % 256 := rfl
theorem exponent_calls (p : Nat) (k : Int) (w : World) (hp : p ≤ 255) (hk : 1 ≤ k ∧ k < 256) :
    Calls Try.prog 42 #[.int .i64 (p : Int), .int .u8 k] w fun e w' => e = .returned (.agg (FR .u8 32 (exB p k))) ∧ Below w.heap.size w w' := by
  go_enter Try.func42, Try.ntmps42
  have HB0 := Aside0.mk (bel_two w (.cells (FR .u8 32 fun _ => 0) 22) (.cells (FR .u8 32 fun _ => 0) 22))
  have HZ0 : Aside0 (Row ((w.alloc (.cells (FR .u8 32 fun _ => 0) 22)).alloc (.cells (FR .u8 32 fun _ => 0) 22)) w.heap.size .u8 32 (fun _ => 0) 22) := ⟨(Row.new w .u8 32 (fun _ => 0) 22).alloc _⟩
  have HE0 : Aside0 (Row ((w.alloc (.cells (FR .u8 32 fun _ => 0) 22)).alloc (.cells (FR .u8 32 fun _ => 0) 22)) (w.heap.size + 1) .u8 32 (fun _ => 0) 22) := ⟨heap_alloc2_new w _ _⟩
  go_wp2_with fail
  go_loopw [8] (fun v8 wr => ERel w v8 p wr) (fun v _ => p - (intOf v).toNat)
  case atStart => exact ⟨0, by omega, rfl, HB0.out, HZ0.out, row_eq HE0.out (fun j _ => onesB_zero j)⟩
  case round =>
    clear HB0 HE0 HZ0
    obtain ⟨i, hi, rfl, hb, hz, he⟩ := hrel
    have HB := Aside0.mk hb
    have HZ := Aside0.mk hz
    have hlz := hz.lt
    have HE := Aside0.mk he
    have hle := he.lt
    rcases Nat.lt_or_ge i p with h5 | h5
    · have hlt : ((i : Int) < (p : Int)) = True := eq_true (by omega)
      have d8 : Int.tdiv (i : Int) 8 = ((i / 8 : Nat) : Int) := rfl
      have r8 : Int.tmod (i : Int) 8 = ((i % 8 : Nat) : Int) := rfl
      have l8 : (((i / 8 : Nat) : Int) < 32) = True := eq_true (by omega)
      have l9 : ((i : Int) / 8 < 32) = True := eq_true (by omega)
      have l10 : (0 ≤ (i : Int) / 8) = True := eq_true (by omega)
      have l11 : ((i : Int) / 8).toNat = i / 8 := by omega
      have l12 : IntKind.u64.wrap ((i : Int) % 8) = (i : Int) % 8 := u64w _ (by omega) (by omega)
      have l13 : ((i : Int) % 8).toNat = i % 8 := by omega
      have k8 := he.cell (i / 8) (by omega)
      have f8 := he.fro (i / 8)
      have hor := ones_or i
      have hpm := pow8m (i % 8) (by omega)
      have HS := Aside0.mk (row_eq (he.set (i / 8) (onesB i (i / 8) + 2 ^ (i % 8)) (by omega)) (f' := onesB (i + 1)) (fun j hj => (onesB_step i j).symm))
      have HK := Aside0.mk hk
      clear hb hz he hk
      go_wp2_with fail
      go_region
      all_goals go_wp2_with fail
      refine ⟨⟨i + 1, by omega, rfl, (bel_set HB.out ⟨(w.heap.size + 1), i / 8, none⟩ _ (by simp)).drew, HZ.out.other ⟨w.heap.size + 1, i / 8, none⟩ _ (by simp), HS.out⟩, meas_up p i h5⟩
    · obtain rfl : i = p := by omega
      have k0 := he.cell 0 (by omega)
      have f0 := he.fro 0
      have hob := onesB_b i 0
      have q1 : IntKind.u8.wrap (k - 1) = k - 1 := by rw [u8wm]; omega
      have q1m : (k - 1) % 256 = k - 1 := by omega
      have q2 : IntKind.u8.wrap (onesB i 0 - (k - 1)) = (onesB i 0 - (k - 1)) % 256 := rfl
      have q3 : IntKind.i64.wrap (k - 1) = k - 1 := i64w _ (by omega)
      have q4 : wrap64 (k - 1) = k - 1 := w64 _ (by omega)
      have HS : Aside0 (Row (wr.setCell ⟨(w.heap.size + 1), 0, none⟩ (.int .u8 ((onesB i 0 - (k - 1)) % 256))) (w.heap.size + 1) .u8 32 (exB i k) 22) := ⟨he.set 0 _ (by omega)⟩
      have HBS := Aside0.mk (bel_set HB.out ⟨(w.heap.size + 1), 0, none⟩ (.int .u8 ((onesB i 0 - (k - 1)) % 256)) (by simp))
      have HZS := Aside0.mk (HZ.out.other ⟨w.heap.size + 1, 0, none⟩ (.int .u8 ((onesB i 0 - (k - 1)) % 256)) (by simp))
      clear hb hz he hob hk
      go_wp2_with (first | refine step_load HS.out Try.underlying22 info22 rfl rfl rfl rfl ?_ | (refine step_storeG (exB i k) HZS.out info22 rfl rfl rfl rfl rfl ?_; intro w9 hs hr; have HS9 := Aside0.mk hs; have HR9 := Aside0.mk hr; clear hs hr))
      refine bodyPost_ret (row_results rfl HR9.out rfl Try.underlying22 rfl info22) rfl ?_
      exact ⟨rfl, HS9.out.bel _ _ (by omega) HBS.out⟩
def ERelR (w : World) (v8 : Value) (p : Nat) (wr : World) : Prop :=
  ∃ i : Nat, i ≤ p ∧ v8 = .int .i64 (i : Int) ∧ Below w.heap.size w wr ∧ Row wr w.heap.size .u8 32 (onesB i) 22
theorem Exponent_calls (p : Nat) (k : Int) (w : World) (hp : p ≤ 255) (hk : 1 ≤ k ∧ k < 256) :
    Calls Try.prog 43 #[.int .i64 (p : Int), .int .i64 k] w fun e w' => e = .returned (.string (sOf (exB p k))) ∧ Below w.heap.size w w' := by
  go_enter Try.func43, Try.ntmps43
  have HB0 := Aside0.mk ((Below.refl w.heap.size w).alloc (Nat.le_refl _) (.cells (FR .u8 32 fun _ => 0) 22))
  have HE0 := Aside0.mk (Row.new w .u8 32 (fun _ => 0) 22)
  go_wp2_with fail
  go_loopw [6] (fun v8 wr => ERelR w v8 p wr) (fun v _ => p - (intOf v).toNat)
  case atStart => exact ⟨0, by omega, rfl, HB0.out, row_eq HE0.out (fun j _ => onesB_zero j)⟩
  case round =>
    clear HB0 HE0
    obtain ⟨i, hi, rfl, hb, he⟩ := hrel
    have HB := Aside0.mk hb
    have HE := Aside0.mk he
    have hle := he.lt
    rcases Nat.lt_or_ge i p with h5 | h5
    · have hlt : ((i : Int) < (p : Int)) = True := eq_true (by omega)
      have d8 : Int.tdiv (i : Int) 8 = ((i / 8 : Nat) : Int) := rfl
      have r8 : Int.tmod (i : Int) 8 = ((i % 8 : Nat) : Int) := rfl
      have l8 : (((i / 8 : Nat) : Int) < 32) = True := eq_true (by omega)
      have l9 : ((i : Int) / 8 < 32) = True := eq_true (by omega)
      have l10 : (0 ≤ (i : Int) / 8) = True := eq_true (by omega)
      have l11 : ((i : Int) / 8).toNat = i / 8 := by omega
      have l12 : IntKind.u64.wrap ((i : Int) % 8) = (i : Int) % 8 := u64w _ (by omega) (by omega)
      have l13 : ((i : Int) % 8).toNat = i % 8 := by omega
      have k8 := he.cell (i / 8) (by omega)
      have f8 := he.fro (i / 8)
      have hor := ones_or i
      have hpm := pow8m (i % 8) (by omega)
      have HS := Aside0.mk (row_eq (he.set (i / 8) (onesB i (i / 8) + 2 ^ (i % 8)) (by omega)) (f' := onesB (i + 1)) (fun j hj => (onesB_step i j).symm))
      have HK := Aside0.mk hk
      clear hb he hk
      go_wp2_with fail
      refine ⟨⟨i + 1, by omega, rfl, bel_set HB.out ⟨w.heap.size, i / 8, none⟩ _ (by simp), HS.out⟩, meas_up p i h5⟩
    · obtain rfl : i = p := by omega
      have k0 := he.cell 0 (by omega)
      have f0 := he.fro 0
      have hob := onesB_b i 0
      have q1 : IntKind.u8.wrap (k - 1) = k - 1 := by rw [u8wm]; omega
      have q1m : (k - 1) % 256 = k - 1 := by omega
      have q2 : IntKind.u8.wrap (onesB i 0 - (k - 1)) = (onesB i 0 - (k - 1)) % 256 := rfl
      have q3 : IntKind.i64.wrap (k - 1) = k - 1 := i64w _ (by omega)
      have q4 : wrap64 (k - 1) = k - 1 := w64 _ (by omega)
      have HS : Aside0 (Row (wr.setCell ⟨w.heap.size, 0, none⟩ (.int .u8 ((onesB i 0 - (k - 1)) % 256))) w.heap.size .u8 32 (exB i k) 22) := ⟨he.set 0 _ (by omega)⟩
      have HBS := Aside0.mk (bel_set HB.out ⟨w.heap.size, 0, none⟩ (.int .u8 ((onesB i 0 - (k - 1)) % 256)) (by simp))
      have hcv := conv_row HS.out
      clear hb he hob hk
      go_wp2_with fail
      go_ret
      exact ⟨rfl, HBS.out⟩
end Go.Proofs.Ythonoagpiofojaa.P
