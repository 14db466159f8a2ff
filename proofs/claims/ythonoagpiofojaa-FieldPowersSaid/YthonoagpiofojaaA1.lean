/- Numbers by their digits; what the document's carry does to a number. -/
import Derived.Test.YthonoagpiofojaaC4
namespace Go.Proofs.Ythonoagpiofojaa.P
set_option linter.unusedVariables false
set_option linter.unusedSimpArgs false
/-- The number that n digits are, the lowest first. -/
def val (B : Int) (f : Nat → Int) : Nat → Int
  | 0 => 0
  | n + 1 => val B f n + f n * B ^ n
/-- A number's digit. -/
def dig (B N : Int) (i : Nat) : Int := N / B ^ i % B
theorem val_congr (B : Int) (f g : Nat → Int) : ∀ n, (∀ i, i < n → f i = g i) → val B f n = val B g n
  | 0, _ => rfl
  | n + 1, h => by rw [val, val, val_congr B f g n (fun i hi => h i (by omega)), h n (by omega)]
theorem val_add (B : Int) (f g : Nat → Int) : ∀ n, val B (fun i => f i + g i) n = val B f n + val B g n
  | 0 => rfl
  | n + 1 => by
    have := val_add B f g n
    simp only [val, this]; grind
theorem val_sub (B : Int) (f g : Nat → Int) : ∀ n, val B (fun i => f i - g i) n = val B f n - val B g n
  | 0 => rfl
  | n + 1 => by
    have := val_sub B f g n
    simp only [val, this]; grind
theorem pow_pos' (B : Int) (hB : 0 < B) (n : Nat) : 0 < B ^ n := Int.pow_pos hB
theorem val_b (B : Int) (hB : 0 < B) (f : Nat → Int) : ∀ n, (∀ i, i < n → 0 ≤ f i ∧ f i < B) → 0 ≤ val B f n ∧ val B f n < B ^ n
  | 0, _ => by simp [val]
  | n + 1, h => by
    have h1 := val_b B hB f n (fun i hi => h i (by omega))
    have h2 := h n (by omega)
    have h3 := pow_pos' B hB n
    have h4 : 0 ≤ f n * B ^ n := Int.mul_nonneg h2.1 (by omega)
    have h5 : (f n + 1) * B ^ n ≤ B * B ^ n := Int.mul_le_mul_of_nonneg_right (by omega) (by omega)
    rw [val, Int.pow_succ]
    have h6 : (f n + 1) * B ^ n = f n * B ^ n + B ^ n := by grind
    have h7 : B ^ n * B = B * B ^ n := by grind
    omega
/-- The carry into digit i. -/
def cy (B : Int) (f : Nat → Int) : Nat → Int
  | 0 => 0
  | i + 1 => (f i + cy B f i) / B
theorem cy_val (B : Int) (hB : 0 < B) (f : Nat → Int) : ∀ n, val B (fun i => (f i + cy B f i) % B) n + cy B f n * B ^ n = val B f n
  | 0 => by simp [val, cy]
  | n + 1 => by
    have h1 := cy_val B hB f n
    have h2 := Int.emod_add_mul_ediv (f n + cy B f n) B
    have e : cy B f (n + 1) = (f n + cy B f n) / B := rfl
    rw [val, e, Int.pow_succ]
    show val B (fun i => (f i + cy B f i) % B) n + (f n + cy B f n) % B * B ^ n + (f n + cy B f n) / B * (B ^ n * B) = val B f n + f n * B ^ n
    grind
theorem cy_div (B : Int) (hB : 0 < B) (f : Nat → Int) (n : Nat) : cy B f n = val B f n / B ^ n ∧ val B (fun i => (f i + cy B f i) % B) n = val B f n % B ^ n := by
  have h1 := cy_val B hB f n
  have h2 := val_b B hB (fun i => (f i + cy B f i) % B) n (fun i _ => ⟨Int.emod_nonneg _ (by omega), Int.emod_lt_of_pos _ hB⟩)
  have h3 := pow_pos' B hB n
  have e : val B f n = val B (fun i => (f i + cy B f i) % B) n + B ^ n * cy B f n := by rw [← h1]; grind
  rw [e]
  constructor
  · rw [Int.add_mul_ediv_left _ _ (by omega), Int.ediv_eq_zero_of_lt h2.1 h2.2, Int.zero_add]
  · rw [Int.add_mul_emod_self_left, Int.emod_eq_of_lt h2.1 h2.2]
theorem val_dig (B : Int) (hB : 0 < B) (N : Int) : ∀ n, val B (dig B N) n = N % B ^ n
  | 0 => by simp [val, Int.emod_one]
  | n + 1 => by
    rw [val, val_dig B hB N n, Int.pow_succ]
    have h1 := Int.emod_add_mul_ediv N (B ^ n)
    have h2 := Int.emod_add_mul_ediv (N / B ^ n) B
    have h3 := pow_pos' B hB n
    have b1 := Int.emod_nonneg N (show B ^ n ≠ 0 by omega)
    have b2 := Int.emod_lt_of_pos N h3
    have b3 := Int.emod_nonneg (N / B ^ n) (show B ≠ 0 by omega)
    have b4 := Int.emod_lt_of_pos (N / B ^ n) hB
    unfold dig
    have e : N = (N % B ^ n + N / B ^ n % B * B ^ n) + (B ^ n * B) * (N / B ^ n / B) := by grind
    have b5 : 0 ≤ N / B ^ n % B * B ^ n := Int.mul_nonneg b3 (by omega)
    have b6 : (N / B ^ n % B + 1) * B ^ n ≤ B * B ^ n := Int.mul_le_mul_of_nonneg_right (by omega) (by omega)
    have b7 : (N / B ^ n % B + 1) * B ^ n = N / B ^ n % B * B ^ n + B ^ n := by grind
    have b8 : B ^ n * B = B * B ^ n := by grind
    have e2 : N % (B ^ n * B) = (N % B ^ n + N / B ^ n % B * B ^ n) := by
      conv => lhs; rw [e]
      rw [Int.add_mul_emod_self_left, Int.emod_eq_of_lt (by omega) (by omega)]
    rw [e2]
theorem dig_b (B : Int) (hB : 0 < B) (N : Int) (i : Nat) : 0 ≤ dig B N i ∧ dig B N i < B := ⟨Int.emod_nonneg _ (by omega), Int.emod_lt_of_pos _ hB⟩
/-- Right digits are the number's digits. -/
theorem dig_val (B : Int) (hB : 0 < B) (f : Nat → Int) : ∀ n, (∀ i, i < n → 0 ≤ f i ∧ f i < B) → ∀ i, i < n → f i = dig B (val B f n) i
  | 0, _ => fun i hi => absurd hi (by omega)
  | n + 1, h => fun i hi => by
    have h1 := val_b B hB f n (fun i hi => h i (by omega))
    have h2 := h n (by omega)
    have h3 := pow_pos' B hB n
    by_cases hin : i = n
    · subst hin
      unfold dig
      rw [val, Int.add_mul_ediv_right _ _ (by omega), Int.ediv_eq_zero_of_lt h1.1 h1.2, Int.zero_add, Int.emod_eq_of_lt h2.1 h2.2]
    · have ih := dig_val B hB f n (fun i hi => h i (by omega)) i (by omega)
      rw [ih]
      unfold dig
      obtain ⟨k, rfl⟩ : ∃ k, n = i + 1 + k := ⟨n - (i + 1), by omega⟩
      have hp := pow_pos' B hB i
      have e : f (i + 1 + k) * B ^ (i + 1 + k) = (f (i + 1 + k) * B ^ k * B) * B ^ i := by
        rw [Int.pow_add, Int.pow_add]; grind
      rw [val, e, Int.add_mul_ediv_right _ _ (by omega), Int.add_mul_emod_self_right]
end Go.Proofs.Ythonoagpiofojaa.P
