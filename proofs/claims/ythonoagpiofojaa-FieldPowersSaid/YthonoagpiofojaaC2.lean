/- The document's Of, P, below by their walks. -/
import Derived.Test.YthonoagpiofojaaC1
import Derived.Deep.RegionHeld3
namespace Go.Proofs.Ythonoagpiofojaa.P
set_option linter.unusedVariables false
set_option linter.unusedSimpArgs false
open Go.RowKit
attribute [local go_sem] setCell_drewN
/-- The prime's digits. -/
def pD (i : Nat) : Int := if i = 0 then 65517 else if i = 15 then 32767 else 65535
theorem P_calls (w : World) : Calls Try.prog 46 #[] w fun e w' => e = .returned (.agg (FR .i64 16 pD)) ∧ Below w.heap.size w w' := by
  go_enter Try.func46, Try.ntmps46
  go_wp2_with fail
  have e : (#[.int .i64 65517, .int .i64 65535, .int .i64 65535, .int .i64 65535, .int .i64 65535, .int .i64 65535, .int .i64 65535, .int .i64 65535, .int .i64 65535, .int .i64 65535, .int .i64 65535, .int .i64 65535, .int .i64 65535, .int .i64 65535, .int .i64 65535, .int .i64 32767] : Array Value) = FR .i64 16 pD := by kernel_rfl
  rw [e]
  refine bodyPost_ret (row_results rfl (Row.new w .i64 16 pD 33) rfl Try.underlying33 rfl info33) rfl ?_
  exact ⟨rfl, (Below.refl _ _).alloc (Nat.le_refl _) _⟩
/-- A string's bytes as numbers. -/
def sB (s : ByteArray) (i : Nat) : Int := ((s[i]?.getD 0).toNat : Int)
theorem sB_b (s : ByteArray) (i : Nat) : 0 ≤ sB s i ∧ sB s i < 256 := by
  unfold sB
  have := (s[i]?.getD 0).toNat_lt
  omega
theorem sB_at (s : ByteArray) (i : Nat) (h : i < s.size) : ∃ c : UInt8, (∀ h : i < s.size, s[i]'h = c) ∧ (c.toNat : Int) = sB s i := by
  have e : s[i]? = some s[i] := getElem?_pos s i h
  exact ⟨s[i], fun _ => rfl, by unfold sB; rw [e]; rfl⟩
theorem i64w (x : Int) (h : -9223372036854775808 ≤ x ∧ x ≤ 9223372036854775807) : IntKind.i64.wrap x = x := by
  have e : IntKind.i64.wrap x = if x % 18446744073709551616 ≥ 9223372036854775808 then x % 18446744073709551616 - 18446744073709551616 else x % 18446744073709551616 := by
    unfold IntKind.wrap; simp [IntKind.bits, IntKind.signed]
  rw [e]; split <;> omega
/-- The bytes' digits. -/
def bD (s : ByteArray) (i : Nat) : Int := sB s (2 * i) + 256 * sB s (2 * i + 1)
theorem row_eq {w : World} {g : Nat} {k : IntKind} {n : Nat} {f f' : Nat → Int} {t : TypeId} (h : Row w g k n f t) (e : ∀ i, i < n → f i = f' i) : Row w g k n f' t := by
  unfold Row; rw [← FR_congr k n f f' e]; exact h
theorem toNat2 (i : Nat) : (2 * (i : Int)).toNat = 2 * i := by omega
theorem toNat21 (i : Nat) : (2 * (i : Int) + 1).toNat = 2 * i + 1 := by omega
theorem of_wraps (i : Nat) (x y : Int) (hi : i < 16) (hx : 0 ≤ x ∧ x < 256) (hy : 0 ≤ y ∧ y < 256) : wrap64 x = x ∧ wrap64 y = y ∧ wrap64 (2 * (i : Int)) = 2 * (i : Int) ∧ wrap64 (2 * (i : Int) + 1) = 2 * (i : Int) + 1 ∧ wrap64 (256 * y) = 256 * y ∧ wrap64 (x + 256 * y) = x + 256 * y ∧ IntKind.i64.wrap (2 * (i : Int)) = 2 * (i : Int) ∧ IntKind.i64.wrap (2 * (i : Int) + 1) = 2 * (i : Int) + 1 ∧ IntKind.i64.wrap (256 * y) = 256 * y ∧ IntKind.i64.wrap (x + 256 * y) = x + 256 * y := ⟨w64 _ (by omega), w64 _ (by omega), w64 _ (by omega), w64 _ (by omega), w64 _ (by omega), w64 _ (by omega), i64w _ (by omega), i64w _ (by omega), i64w _ (by omega), i64w _ (by omega)⟩
def ORel (s : ByteArray) (w : World) (v4 : Value) (wr : World) : Prop :=
  ∃ (i : Nat), i ≤ 16 ∧ v4 = .int .i64 (i : Int) ∧ Below w.heap.size w wr ∧ Row wr (w.heap.size + 1) .i64 16 (fun j => if j < i then bD s j else 0) 33 ∧ Row wr w.heap.size .i64 16 (fun _ => 0) 33
theorem Of_calls (s : ByteArray) (w : World) (hs : s.size = 32) :
    Calls Try.prog 37 #[.string s] w fun e w' => e = .returned (.agg (FR .i64 16 (bD s))) ∧ Below w.heap.size w w' := by
  go_enter Try.func37, Try.ntmps37
  go_wp2_with fail
  go_loopw [4] (fun v3 wr => ORel s w v3 wr) (fun v _ => 16 - (intOf v).toNat)
  case atStart => exact ⟨0, by omega, rfl, bel_two w _ _, heap_alloc2_new w _ _, heap_alloc2_old w _ _⟩
  case round =>
    obtain ⟨i, hi, rfl, hb, hr, hr2⟩ := hrel
    have hlt1 := hr2.lt
    have hlt2 := hr.lt
    have HB := Aside0.mk hb
    have HR := Aside0.mk hr
    have HR2 := Aside0.mk hr2
    rcases Nat.lt_or_ge i 16 with h15 | h15
    · have hlt : ((i : Int) < 16) = True := eq_true (by omega)
      have f0 := hr.fro i
      have k0 := hr.cell i (by omega)
      obtain ⟨b0, hb0, hv0⟩ := sB_at s (2 * i) (by omega)
      obtain ⟨b1, hb1, hv1⟩ := sB_at s (2 * i + 1) (by omega)
      have l0 := b0.toNat_lt
      have l1 := b1.toNat_lt
      have HV := Aside0.mk (show (b0.toNat : Int) + 256 * (b1.toNat : Int) = bD s i by unfold bD; omega)
      obtain ⟨wx, wy, w0, w1, w2, w3, v0, v1, v2, v3⟩ := of_wraps i b0.toNat b1.toNat h15 (by omega) (by omega)
      have q0 : (2 * (i : Int) < (s.size : Int)) = True := eq_true (by omega)
      have q1 : (2 * (i : Int) + 1 < (s.size : Int)) = True := eq_true (by omega)
      have t0 := toNat2 i
      have t1 := toNat21 i
      clear hb hr hr2 hs hv0 hv1 l0 l1
      go_wp2_with fail
      go_region
      all_goals go_wp2_with fail
      refine ⟨⟨i + 1, by omega, rfl, (bel_set HB.out _ _ (by simp)).drew, ?_, HR2.out.other _ _ (show w.heap.size ≠ w.heap.size + 1 by omega)⟩, meas_up 16 i (by omega)⟩
      rw [HV.out]
      exact row_eq (HR.out.set i (bD s i) (by omega)) (fun j hj => by
        unfold upd
        by_cases hji : j = i
        · subst hji; rw [if_pos rfl, if_pos (by omega)]
        · rw [if_neg hji]
          show (if j < i then bD s j else 0) = _
          by_cases hjl : j < i
          · rw [if_pos hjl, if_pos (by omega)]
          · rw [if_neg hjl, if_neg (by omega)])
    · obtain rfl : i = 16 := by omega
      clear hb hr hr2 hs hlt1 hlt2
      go_wp2_with (first | refine step_load HR.out Try.underlying33 info33 rfl rfl rfl rfl ?_ | refine step_store _ HR2.out info33 rfl rfl rfl rfl rfl ?_)
      refine bodyPost_ret (row_results rfl (HR2.out.all) rfl Try.underlying33 rfl info33) rfl ?_
      exact ⟨by rw [FR_congr .i64 16 _ (bD s) (fun j hj => if_pos hj)], bel_setCells (by omega) _ _ _ HB.out⟩
end Go.Proofs.Ythonoagpiofojaa.P
