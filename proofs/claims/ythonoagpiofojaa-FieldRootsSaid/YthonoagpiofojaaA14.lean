/- Roots in plain. -/
import Derived.Test.YthonoagpiofojaaR2
namespace Go.Proofs.Ythonoagpiofojaa.P
set_option linter.unusedVariables false
set_option linter.unusedSimpArgs false
open Go.RowKit
/-- The first try at a root. -/
def x0N (n : Int) : Int := n ^ ((PN + 3) / 8)
def sq0 (n : Int) : Bool := decide (x0N n * x0N n % PP = n % PP)
/-- The second; i: a root of what makes 1 and it nought. -/
def x1N (i n : Int) : Int := if sq0 n then x0N n else x0N n * i
def rOk (i n : Int) : Bool := decide (x1N i n * x1N i n % PP = n % PP)
def rOdd (i n : Int) : Bool := decide (x1N i n % PP % 2 = 1)
def rN (i n : Int) : Int := if rOk i n then (if rOdd i n then 0 - x1N i n else x1N i n) else 0
theorem rN_sq {i n : Int} (h : rOk i n = true) : rN i n * rN i n % PP = n % PP := by
  have h1 : x1N i n * x1N i n % PP = n % PP := of_decide_eq_true h
  unfold rN
  rw [if_pos h]
  split
  · rw [show (0 - x1N i n) * (0 - x1N i n) = x1N i n * x1N i n by grind]; exact h1
  · exact h1
theorem rN_even (i n : Int) : decide (rN i n % PP % 2 = 1) = false := by
  rw [decide_eq_false_iff_not]
  unfold rN
  split
  · split
    · rename_i h1 h2
      have h3 : x1N i n % PP % 2 = 1 := of_decide_eq_true h2
      have e : (0 - x1N i n) % PP = (0 - x1N i n % PP) % PP := by
        rw [Int.sub_emod, Int.sub_emod 0 (x1N i n % PP), Int.emod_emod_of_dvd _ (Int.dvd_refl _)]
      have hb := modP_b (x1N i n)
      rw [e]
      clear e h2
      generalize x1N i n % PP = y at *
      have e2 : (0 - y) % PP = PP - y := by
        rw [show 0 - y = (PP - y) + PP * (-1) by unfold PP; omega, Int.add_mul_emod_self_left]
        exact Int.emod_eq_of_lt (by unfold PP; omega) (by omega)
      rw [e2]
      unfold PP
      omega
    · rename_i h1 h2
      have h3 : ¬ x1N i n % PP % 2 = 1 := fun h => h2 (decide_eq_true h)
      exact h3
  · decide
theorem sub_zero_mod {a b : Int} (h : a % PP = b % PP) : (a - b) % PP = 0 := by
  rw [Int.sub_emod, h]; simp
theorem mod_of_sub {a b : Int} (h : (a - b) % PP = 0) : a % PP = b % PP := by
  have h0 : (a - b) % PP = 0 % PP := by rw [h]; rfl
  have := mod_add h0 (rfl : b % PP = b % PP)
  rw [show a - b + b = a by omega, show 0 + b = b by omega] at this
  exact this
theorem sq_same {a b : Int} (h : a * a % PP = b * b % PP) : a % PP = b % PP ∨ a % PP = (0 - b) % PP := by
  have h1 := sub_zero_mod h
  rw [show a * a - b * b = (a - b) * (a + b) by grind] at h1
  rcases mul_zero_mod h1 with h2 | h2
  · exact Or.inl (mod_of_sub h2)
  · right
    apply mod_of_sub
    rw [show a - (0 - b) = a + b by omega]; exact h2
theorem half_pow (n : Int) (h : n % PP ≠ 0) : n ^ ((PN - 1) / 2) % PP = 1 % PP ∨ n ^ ((PN - 1) / 2) % PP = (0 - 1) % PP := by
  have e : n ^ ((PN - 1) / 2) * n ^ ((PN - 1) / 2) = n ^ (PN - 1) := by
    rw [← Int.pow_add, show (PN - 1) / 2 + (PN - 1) / 2 = PN - 1 by unfold PN; omega]
  have h1 := ferm1 n h
  apply sq_same
  rw [e, h1]; rfl
/-- A square has a root. -/
theorem rOk_sq (i : Int) (hi : i * i % PP = (0 - 1) % PP) (n : Int) : rOk i (n * n) = true := by
  unfold rOk
  rw [decide_eq_true_eq]
  unfold x1N
  by_cases h0 : sq0 (n * n) = true
  · rw [if_pos h0]
    exact of_decide_eq_true h0
  · rw [if_neg h0]
    by_cases hz : n % PP = 0
    · exfalso
      apply h0
      unfold sq0
      rw [decide_eq_true_eq]
      have hz2 : n * n % PP = 0 := by rw [Int.mul_emod, hz]; rfl
      have h1 : x0N (n * n) % PP = 0 := zero_pow _ hz2 _ (by decide)
      rw [hz2, Int.mul_emod, h1]; rfl
    · have e : x0N (n * n) * x0N (n * n) = n * n * n ^ ((PN - 1) / 2) := by
        unfold x0N
        rw [← Int.pow_add, show n * n = n ^ 2 by rw [Int.pow_succ, Int.pow_succ, Int.pow_zero, Int.one_mul], ← Int.pow_mul, ← Int.pow_add, show 2 * ((PN + 3) / 8 + (PN + 3) / 8) = 2 + (PN - 1) / 2 by unfold PN; omega]
      rcases half_pow n hz with h1 | h1
      · exfalso
        apply h0
        unfold sq0
        rw [decide_eq_true_eq, e]
        have := mod_mul (rfl : n * n % PP = n * n % PP) h1
        rw [this, Int.mul_one]
      · have e2 : x0N (n * n) * i * (x0N (n * n) * i) = n * n * n ^ ((PN - 1) / 2) * (i * i) := by
          rw [← e]; grind
        rw [e2]
        have h2 := mod_mul (mod_mul (rfl : n * n % PP = n * n % PP) h1) hi
        rw [h2]
        congr 1; grind
theorem root_i (a : Nat) (ha : a = 2) : a ^ ((PN - 1) / 2) % PN = PN - 1 := by
  rw [← pm_eq PN 255 a _ (by decide)]
  subst ha
  decide +kernel
theorem iN_sq (s : Int) (hs : s = 2) : s ^ ((PN - 1) / 4) * s ^ ((PN - 1) / 4) % PP = (0 - 1) % PP := by
  rw [← Int.pow_add, show (PN - 1) / 4 + (PN - 1) / 4 = (PN - 1) / 2 by decide, pow_cast]
  have e : (s % PP).toNat = 2 := by subst hs; decide
  rw [root_i _ e]
  decide
end Go.Proofs.Ythonoagpiofojaa.P
