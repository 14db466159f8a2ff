/- digest2's word, by its walk; the rounds as functions. -/
import Derived.Test.YtlopmjolahhpnaaDoorDa
namespace Go.Proofs.YtlopmjolahhpnaaDoor.P
set_option linter.unusedVariables false
set_option linter.unusedSimpArgs false
open Go.RowKit Go.Proofs.YtlopmjolahhpnaaDoorW.PrintWords Go.Proofs.YtlopmjolahhpnaaDoorW.PrintLast Go.Proofs.YtlopmjolahhpnaaDoorW.PrintMore
attribute [local go_sem] setCell_drewN
/-- The number that bytes are, the highest first. -/
def wd (z : Nat → Int) : Nat → Int
  | 0 => 0
  | i + 1 => wd z i * 256 + z i
theorem wd_b (z : Nat → Int) (n : Nat) (hz : ∀ j, j < n → 0 ≤ z j ∧ z j < 256) : ∀ i, i ≤ n → 0 ≤ wd z i ∧ wd z i < 256 ^ i
  | 0, _ => by simp [wd]
  | i + 1, h => by
    have ih := wd_b z n hz i (by omega)
    have h1 := hz i (by omega)
    rw [wd, Int.pow_succ]; omega
theorem wd_b8 (z : Nat → Int) (hz : ∀ j, j < 8 → 0 ≤ z j ∧ z j < 256) (i : Nat) (hi : i ≤ 8) : 0 ≤ wd z i ∧ wd z i < 18446744073709551616 := by
  have h := wd_b z 8 hz i hi
  have h2 : i = 0 ∨ i = 1 ∨ i = 2 ∨ i = 3 ∨ i = 4 ∨ i = 5 ∨ i = 6 ∨ i = 7 ∨ i = 8 := by omega
  rcases h2 with rfl | rfl | rfl | rfl | rfl | rfl | rfl | rfl | rfl <;> omega
theorem wd_b7 (z : Nat → Int) (hz : ∀ j, j < 8 → 0 ≤ z j ∧ z j < 256) (i : Nat) (hi : i < 8) : 0 ≤ wd z i ∧ wd z i < 72057594037927936 := by
  have h := wd_b z 8 hz i (by omega)
  have h2 : i = 0 ∨ i = 1 ∨ i = 2 ∨ i = 3 ∨ i = 4 ∨ i = 5 ∨ i = 6 ∨ i = 7 := by omega
  rcases h2 with rfl | rfl | rfl | rfl | rfl | rfl | rfl | rfl <;> omega
theorem or_low (x c : Int) (hx : 0 ≤ x ∧ x < 72057594037927936) (hc : 0 ≤ c ∧ c < 256) : Go.bits .or .u64 (x * 256) c = x * 256 + c :=
  bits_join .u64 64 (by decide) (fun n h0 h1 => u64w n h0 (by omega)) 8 _ _ (by omega) (by omega) (by omega) (by omega) (by omega) (by omega)
def WRel (z : Nat → Int) (w : World) (v9 v3 : Value) (wr : World) : Prop := ∃ i : Nat, i ≤ 8 ∧ v9 = .int .i64 (i : Int) ∧ v3 = .int .u64 (wd z i) ∧ wr = w
theorem word_calls (z : Nat → Int) (g o len cap : Nat) (w : World) (hcap : 8 ≤ cap) (hc : ∀ j, j < 8 → w.cell? ⟨g, o + j, none⟩ = some (.int .u8 (z j))) (hz : ∀ j, j < 8 → 0 ≤ z j ∧ z j < 256) :
    Calls Tryd.prog 19 #[.slice (some ⟨g, o, none⟩) len cap] w fun e w' => e = .returned (.int .u64 (wd z 8)) ∧ w' = w := by
  have HC := Aside0.mk hc
  have HZ := Aside0.mk hz
  clear hc hz
  go_enter Tryd.func19, Tryd.ntmps19
  go_wp2_with fail
  go_loopw [9, 3] (fun v9 v3 wr => WRel z w v9 v3 wr) (fun v _ _ => 8 - (intOf v).toNat)
  case atStart => exact ⟨0, by omega, rfl, rfl, rfl⟩
  case round =>
    obtain ⟨i, hi, rfl, rfl, rfl⟩ := hrel
    rcases Nat.lt_or_ge i 8 with h8 | h8
    · have k0 := HC.out i h8
      have hzi := HZ.out i h8
      have hlt : ((i : Int) < 8) = True := eq_true (by omega)
      have hb := wd_b7 z HZ.out i h8
      have q1 : IntKind.u64.wrap (wd z i * 256) = wd z i * 256 := u64w _ (by omega) (by omega)
      have q2 := or_low (wd z i) (z i) hb hzi
      have HE : Aside0 (wd z (i + 1) = wd z i * 256 + z i) := ⟨rfl⟩
      have q3 : IntKind.u64.wrap (z i) = z i := u64w _ (by omega) (by omega)
      generalize wd z i = x at *
      clear hzi hb
      go_wp2_with fail
      refine ⟨⟨i + 1, by omega, rfl, ?_, rfl⟩, meas_up 8 i h8⟩
      rw [HE.out]
    · obtain rfl : i = 8 := by omega
      go_wp2_with fail
      go_ret
      exact ⟨rfl, rfl⟩
end Go.Proofs.YtlopmjolahhpnaaDoor.P
