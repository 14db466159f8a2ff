/- Numbers of five limbs of 51 bits; what carried does to them; their least number. -/
import Derived.Test.YthonoagpiofojaaA2
namespace Go.Proofs.Ythonoagpiofojaa.P
set_option linter.unusedVariables false
set_option linter.unusedSimpArgs false
open Go.RowKit
def M51 : Int := 2251799813685248
/-- Five limbs as a row. -/
def lf (t : Int × Int × Int × Int × Int) : Nat → Int
  | 0 => t.1
  | 1 => t.2.1
  | 2 => t.2.2.1
  | 3 => t.2.2.2.1
  | _ => t.2.2.2.2
theorem lf_row (t : Int × Int × Int × Int × Int) : E5t t = .agg (FR .u64 5 (lf t)) := rfl
theorem row_lf (f : Nat → Int) : (.agg (FR .u64 5 f) : Value) = E5 (f 0) (f 1) (f 2) (f 3) (f 4) := rfl
/-- What carried answers, by rows. -/
def carr (f : Nat → Int) : Nat → Int := lf (carriedZ (f 0) (f 1) (f 2) (f 3) (f 4))
theorem carr_calls (f : Nat → Int) (w : World) (h : ∀ i, i < 5 → 0 ≤ f i ∧ f i ≤ 9223372036854775808) :
    Calls Try.prog 34 #[.agg (FR .u64 5 f)] w fun e w' => e = .returned (.agg (FR .u64 5 (carr f))) ∧ Below w.heap.size w w' :=
  carried_calls (f 0) (f 1) (f 2) (f 3) (f 4) w (h 0 (by omega)) (h 1 (by omega)) (h 2 (by omega)) (h 3 (by omega)) (h 4 (by omega))
/-- The number of five limbs. -/
def V51 (f : Nat → Int) : Int := f 0 + f 1 * 2251799813685248 + f 2 * 5070602400912917605986812821504 + f 3 * 11417981541647679048466287755595961091061972992 + f 4 * 25711008708143844408671393477458601640355247900524685364822016
theorem V51_val (f : Nat → Int) : V51 f = val 2251799813685248 f 5 := by
  simp [V51, val]
theorem PP_M51 : (25711008708143844408671393477458601640355247900524685364822016 : Int) * 2251799813685248 = PP + 19 := by decide
theorem carr_eq (f : Nat → Int) : carr f 0 = (f 0 + 19 * (f 4 / 2251799813685248)) % 2251799813685248 ∧
    carr f 1 = (f 1 + (f 0 + 19 * (f 4 / 2251799813685248)) / 2251799813685248) % 2251799813685248 ∧
    carr f 2 = (f 2 + (f 1 + (f 0 + 19 * (f 4 / 2251799813685248)) / 2251799813685248) / 2251799813685248) % 2251799813685248 ∧
    carr f 3 = (f 3 + (f 2 + (f 1 + (f 0 + 19 * (f 4 / 2251799813685248)) / 2251799813685248) / 2251799813685248) / 2251799813685248) % 2251799813685248 ∧
    carr f 4 = f 4 % 2251799813685248 + (f 3 + (f 2 + (f 1 + (f 0 + 19 * (f 4 / 2251799813685248)) / 2251799813685248) / 2251799813685248) / 2251799813685248) / 2251799813685248 := ⟨rfl, rfl, rfl, rfl, rfl⟩
/-- Limbs as the program keeps them. -/
def Lm (f : Nat → Int) : Prop := (∀ i, i < 4 → 0 ≤ f i ∧ f i < 2251799813685248) ∧ 0 ≤ f 4 ∧ f 4 < 2251799813693440
theorem Lm.b {f : Nat → Int} (h : Lm f) (i : Nat) (hi : i < 5) : 0 ≤ f i ∧ f i < 4503599627370496 := by
  rcases Nat.lt_or_ge i 4 with h4 | h4
  · have := h.1 i h4; omega
  · obtain rfl : i = 4 := by omega
    have := h.2; omega
theorem carr_Lm (f : Nat → Int) (h : ∀ i, i < 5 → 0 ≤ f i ∧ f i ≤ 9223372036854775808) : Lm (carr f) := by
  obtain ⟨e0, e1, e2, e3, e4⟩ := carr_eq f
  have h0 := h 0 (by omega); have h1 := h 1 (by omega); have h2 := h 2 (by omega); have h3 := h 3 (by omega); have h4 := h 4 (by omega)
  refine ⟨fun i hi => ?_, ?_⟩
  · have hc : i = 0 ∨ i = 1 ∨ i = 2 ∨ i = 3 := by omega
    rcases hc with rfl | rfl | rfl | rfl
    · rw [e0]; omega
    · rw [e1]; omega
    · rw [e2]; omega
    · rw [e3]; omega
  · rw [e4]; omega
theorem carr_V (f : Nat → Int) : V51 (carr f) = V51 f - PP * (f 4 / 2251799813685248) := by
  obtain ⟨e0, e1, e2, e3, e4⟩ := carr_eq f
  unfold V51 PP
  rw [e0, e1, e2, e3, e4]
  omega
theorem carr_mod (f : Nat → Int) : V51 (carr f) % PP = V51 f % PP := by
  rw [carr_V, Int.sub_mul_emod_self_left]
/-- Behind two more the limbs are right digits. -/
theorem carr_two (f : Nat → Int) (h : Lm f) : ∀ i, i < 5 → 0 ≤ carr f i ∧ carr f i < 2251799813685248 := by
  obtain ⟨e0, e1, e2, e3, e4⟩ := carr_eq f
  have h0 := h.1 0 (by omega); have h1 := h.1 1 (by omega); have h2 := h.1 2 (by omega); have h3 := h.1 3 (by omega); have h4 := h.2
  intro i hi
  have hc : i = 0 ∨ i = 1 ∨ i = 2 ∨ i = 3 ∨ i = 4 := by omega
  rcases hc with rfl | rfl | rfl | rfl | rfl
  · rw [e0]; omega
  · rw [e1]; omega
  · rw [e2]; omega
  · rw [e3]; omega
  · rw [e4]; omega
/-- The quotient that Bytes finds. -/
def plus19 (f : Nat → Int) : Nat → Int := upd f 0 (f 0 + 19)
theorem val_upd0 (B : Int) (f : Nat → Int) (x : Int) : ∀ n, val B (upd f 0 x) (n + 1) = val B f (n + 1) + (x - f 0)
  | 0 => by simp [val, upd]; omega
  | n + 1 => by
    have ih := val_upd0 B f x n
    rw [val, ih, upd_other _ _ _ _ (by omega)]
    show _ = val B f (n + 1) + f (n + 1) * B ^ (n + 1) + (x - f 0)
    omega
def quo (f : Nat → Int) : Int := cy 2251799813685248 (plus19 f) 5
theorem quo_eq (f : Nat → Int) : quo f = (V51 f + 19) / 57896044618658097711785492504343953926634992332820282019728792003956564819968 := by
  unfold quo
  rw [(cy_div 2251799813685248 (by omega) (plus19 f) 5).1]
  unfold plus19
  rw [val_upd0, V51_val]
  have e : val 2251799813685248 f (4 + 1) = val 2251799813685248 f 5 := rfl
  have e5 : (2251799813685248 : Int) ^ (4 + 1) = 57896044618658097711785492504343953926634992332820282019728792003956564819968 := by decide
  rw [e]
  congr 1
  omega
def topped (f : Nat → Int) : Nat → Int := upd f 0 (f 0 + 19 * quo f)
/-- The limbs of the least number. -/
def leastL (f : Nat → Int) (i : Nat) : Int := (topped f i + cy 2251799813685248 (topped f) i) % 2251799813685248
theorem leastL_V (f : Nat → Int) (h : ∀ i, i < 5 → 0 ≤ f i ∧ f i < 2251799813685248) : val 2251799813685248 (leastL f) 5 = V51 f % PP := by
  have h2 := (cy_div 2251799813685248 (by omega) (topped f) 5).2
  have hb := val_b 2251799813685248 (by omega) f 5 h
  rw [← V51_val] at hb
  have hq := quo_eq f
  have e : val 2251799813685248 (leastL f) 5 = val 2251799813685248 (topped f) 5 % 2251799813685248 ^ 5 := h2
  rw [e]
  unfold topped
  rw [val_upd0, ← V51_val]
  generalize quo f = q at *
  generalize V51 f = x at *
  have e5 : (2251799813685248 : Int) ^ 5 = 57896044618658097711785492504343953926634992332820282019728792003956564819968 := by decide
  rw [e5] at hb ⊢
  have hq' : q = 0 ∨ q = 1 := by omega
  unfold PP
  have e0 : x + (f 0 + 19 * q - f 0) = x + 19 * q := by omega
  rw [e0]
  clear e e0 e5 h2
  rcases hq' with rfl | rfl <;> omega
theorem leastL_b (f : Nat → Int) (i : Nat) : 0 ≤ leastL f i ∧ leastL f i < 2251799813685248 := by unfold leastL; omega
theorem quo_b (f : Nat → Int) (h : ∀ i, i < 5 → 0 ≤ f i ∧ f i < 2251799813685248) : ∀ i, i ≤ 5 → 0 ≤ cy 2251799813685248 (plus19 f) i ∧ cy 2251799813685248 (plus19 f) i ≤ 1
  | 0, _ => by simp [cy]
  | i + 1, hi => by
    have ih := quo_b f h i (by omega)
    have e : cy 2251799813685248 (plus19 f) (i + 1) = (plus19 f i + cy 2251799813685248 (plus19 f) i) / 2251799813685248 := rfl
    have hx : 0 ≤ plus19 f i ∧ plus19 f i ≤ 2251799813685248 + 18 := by
      have := h i (by omega)
      unfold plus19 upd
      split
      · rename_i h0; subst h0; omega
      · omega
    have hy : 0 < i → plus19 f i < 2251799813685248 := fun h0 => by
      have := h i (by omega)
      unfold plus19; rw [upd_other _ _ _ _ (by omega)]; omega
    rw [e]
    rcases Nat.eq_zero_or_pos i with h0 | h0
    · subst h0
      have : cy 2251799813685248 (plus19 f) 0 = 0 := rfl
      omega
    · have := hy h0
      omega
end Go.Proofs.Ythonoagpiofojaa.P
