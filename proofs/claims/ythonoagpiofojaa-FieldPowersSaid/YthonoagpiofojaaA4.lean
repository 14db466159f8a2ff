/- A number's bits into bytes. -/
import Derived.Test.YthonoagpiofojaaA3
import Derived.Laws.BitsAllLaws
namespace Go.Proofs.Ythonoagpiofojaa.P
set_option linter.unusedVariables false
set_option linter.unusedSimpArgs false
open Go.RowKit
/-- The number's byte j, as far as its first i bits go. -/
def outB (N : Int) (i j : Nat) : Int := N / 256 ^ j % 2 ^ (min 8 (i - 8 * j))
theorem div_pow (N : Int) (a b : Nat) : N / 2 ^ a / 2 ^ b = N / 2 ^ (a + b) := by
  rw [Int.ediv_ediv_of_nonneg (Int.le_of_lt (Int.pow_pos (by omega))), ← Int.pow_add]
theorem pow256 (j : Nat) : (256 : Int) ^ j = 2 ^ (8 * j) := by
  rw [Int.pow_mul]; rfl
theorem powB (k : Nat) : (2251799813685248 : Int) ^ k = 2 ^ (51 * k) := by
  rw [Int.pow_mul]; rfl
theorem mod_pow_div (x : Int) (n s : Nat) (h : s < n) : x % 2 ^ n / 2 ^ s % 2 = x / 2 ^ s % 2 := by
  obtain ⟨m, rfl⟩ : ∃ m, n = s + (m + 1) := ⟨n - s - 1, by omega⟩
  have hp : (0 : Int) < 2 ^ s := Int.pow_pos (by omega)
  have e := Int.emod_add_mul_ediv x (2 ^ (s + (m + 1)))
  generalize x % 2 ^ (s + (m + 1)) = r at *
  generalize x / 2 ^ (s + (m + 1)) = q at *
  have e2 : (2 : Int) ^ (s + (m + 1)) * q = 2 ^ s * (2 * (2 ^ m * q)) := by rw [Int.pow_add, Int.pow_succ]; grind
  rw [e2] at e
  rw [← e, Int.add_mul_ediv_left _ _ (by omega)]
  omega
/-- The bit that the limbs show is the number's. -/
theorem limb_bit (N : Int) (i : Nat) : dig 2251799813685248 N (i / 51) / 2 ^ (i % 51) % 2 = N / 2 ^ i % 2 := by
  unfold dig
  have e : (2251799813685248 : Int) = 2 ^ 51 := by decide
  rw [powB, e, mod_pow_div _ 51 _ (by omega), div_pow]
  congr 3
  omega
theorem mod_succ (x : Int) (r : Nat) : x % 2 ^ (r + 1) = x % 2 ^ r + x / 2 ^ r % 2 * 2 ^ r := by
  have hp : (0 : Int) < 2 ^ r := Int.pow_pos (by omega)
  have h1 := Int.emod_add_mul_ediv x (2 ^ r)
  have h2 := Int.emod_add_mul_ediv (x / 2 ^ r) 2
  have b1 := Int.emod_nonneg x (show (2 : Int) ^ r ≠ 0 by omega)
  have b2 := Int.emod_lt_of_pos x hp
  have hc : x / 2 ^ r % 2 = 0 ∨ x / 2 ^ r % 2 = 1 := by omega
  rw [Int.pow_succ]
  have e : x = (x % 2 ^ r + x / 2 ^ r % 2 * 2 ^ r) + (2 ^ r * 2) * (x / 2 ^ r / 2) := by grind
  have e2 : x % (2 ^ r * 2) = (x % 2 ^ r + x / 2 ^ r % 2 * 2 ^ r) := by
    conv => lhs; rw [e]
    rw [Int.add_mul_emod_self_left]
    apply Int.emod_eq_of_lt
    · rcases hc with h | h <;> rw [h] <;> omega
    · rcases hc with h | h <;> rw [h] <;> omega
  exact e2
theorem outB_step (N : Int) (i j : Nat) : outB N (i + 1) j = upd (outB N i) (i / 8) (outB N i (i / 8) + N / 2 ^ i % 2 * 2 ^ (i % 8)) j := by
  by_cases h : j = i / 8
  · subst h
    rw [upd_same]
    unfold outB
    rw [show min 8 (i + 1 - 8 * (i / 8)) = i % 8 + 1 by omega, show min 8 (i - 8 * (i / 8)) = i % 8 by omega, mod_succ, pow256, div_pow, show 8 * (i / 8) + i % 8 = i by omega]
  · rw [upd_other _ _ _ _ h]
    unfold outB
    rw [show min 8 (i + 1 - 8 * j) = min 8 (i - 8 * j) by omega]
theorem and1 (x : Int) (h0 : 0 ≤ x) (h1 : x < 18446744073709551616) : Go.bits .and .u64 x 1 = x % 2 := by
  rw [u64_and _ _ h0 h1 (by omega) (by omega), show (1 : Int).toNat = 2 ^ 1 - 1 from rfl, Nat.and_two_pow_sub_one_eq_mod]
  omega
theorem or_bit (x b : Int) (r : Nat) (hr : r < 8) (hx : 0 ≤ x ∧ x < 2 ^ r) (hb : b = 0 ∨ b = 1) : Go.bits .or .u8 x (b % 256 * 2 ^ r % 256) = x + b * 2 ^ r := by
  have hp : (0 : Int) < 2 ^ r := Int.pow_pos (by omega)
  have h8 : (2 : Int) ^ r ≤ 128 := by
    have hc : r = 0 ∨ r = 1 ∨ r = 2 ∨ r = 3 ∨ r = 4 ∨ r = 5 ∨ r = 6 ∨ r = 7 := by omega
    rcases hc with h | h | h | h | h | h | h | h <;> subst h <;> decide
  have hv : b % 256 * 2 ^ r % 256 = b * 2 ^ r := by
    rcases hb with h | h
    · subst h; simp
    · subst h; rw [Int.emod_eq_of_lt (show (0 : Int) ≤ 1 % 256 * 2 ^ r by omega) (by omega)]; rfl
  rw [hv]
  have hb2 : 0 ≤ b * 2 ^ r ∧ b * 2 ^ r ≤ 128 := by rcases hb with h | h <;> subst h <;> omega
  rw [u8_or _ _ hx.1 (by omega) hb2.1 (by omega)]
  have e : (b * 2 ^ r).toNat = 2 ^ r * b.toNat := by
    rcases hb with h | h
    · subst h; simp
    · subst h; rw [Int.one_mul, Int.toNat_pow_of_nonneg (by omega)]; simp
  have hxn : x.toNat < 2 ^ r := by
    have : ((2 ^ r : Nat) : Int) = 2 ^ r := by simp
    omega
  rw [e, Nat.or_comm, ← Nat.two_pow_add_eq_or_of_lt hxn]
  rcases hb with h | h
  · subst h; simp; omega
  · subst h
    have : ((2 ^ r : Nat) : Int) = 2 ^ r := by simp
    simp; omega
/-- The step of the loop over the bits. -/
theorem bit_step (f : Nat → Int) (hf : ∀ i, i < 5 → 0 ≤ f i ∧ f i < 2251799813685248) (N : Int) (hN : val 2251799813685248 f 5 = N) (i : Nat) (hi : i < 255) :
    Go.bits .or .u8 (outB N i (i / 8)) (Go.bits .and .u64 (f (i / 51) / 2 ^ (i % 51)) 1 % 256 * 2 ^ (i % 8) % 256) = outB N i (i / 8) + N / 2 ^ i % 2 * 2 ^ (i % 8) := by
  have hp : (0 : Int) < 2 ^ (i % 51) := Int.pow_pos (by omega)
  have hb := hf (i / 51) (by omega)
  have h0 : 0 ≤ f (i / 51) / 2 ^ (i % 51) := Int.ediv_nonneg hb.1 (by omega)
  have h1 : f (i / 51) / 2 ^ (i % 51) ≤ f (i / 51) := Int.ediv_le_self _ hb.1
  rw [and1 _ h0 (by omega), dig_val 2251799813685248 (by omega) f 5 hf (i / 51) (by omega), hN, limb_bit]
  apply or_bit _ _ _ (by omega)
  · unfold outB
    rw [show min 8 (i - 8 * (i / 8)) = i % 8 by omega]
    have hp8 : (0 : Int) < 2 ^ (i % 8) := Int.pow_pos (by omega)
    exact ⟨Int.emod_nonneg _ (by omega), Int.emod_lt_of_pos _ hp8⟩
  · omega
theorem outB_end (N : Int) (h0 : 0 ≤ N) (h1 : N < 57896044618658097711785492504343953926634992332820282019728792003956564819968) (j : Nat) (hj : j < 32) : outB N 255 j = dig 256 N j := by
  unfold outB dig
  by_cases h : j = 31
  · subst h
    have e : (256 : Int) ^ 31 = 452312848583266388373324160190187140051835877600158453279131187530910662656 := by decide
    rw [e, show min 8 (255 - 8 * 31) = 7 by omega, show (2 : Int) ^ 7 = 128 by decide]
    omega
  · rw [show min 8 (255 - 8 * j) = 8 by omega]; rfl
end Go.Proofs.Ythonoagpiofojaa.P
