/- Products in plain: the program's columns. -/
import Derived.Test.YthonoagpiofojaaA7
namespace Go.Proofs.Ythonoagpiofojaa.P
set_option linter.unusedVariables false
set_option linter.unusedSimpArgs false
open Go.RowKit
/-- The factor that a column's product has. -/
def xk (f : Nat → Int) (i k : Nat) : Int := if 5 ≤ i + k then f i * 19 else f i
/-- The columns behind s steps. -/
def sN (f g : Nat → Int) : Nat → Nat → Int
  | 0 => fun _ => 0
  | s + 1 => upd (sN f g s) ((s / 5 + s % 5) % 5) (sN f g s ((s / 5 + s % 5) % 5) + xk f (s / 5) (s % 5) * g (s % 5))
theorem sN_succ (f g : Nat → Int) (s : Nat) : sN f g (s + 1) = upd (sN f g s) ((s / 5 + s % 5) % 5) (sN f g s ((s / 5 + s % 5) % 5) + xk f (s / 5) (s % 5) * g (s % 5)) := rfl
theorem sN_step (f g : Nat → Int) (i k : Nat) (hk : k < 5) : sN f g (5 * i + (k + 1)) = upd (sN f g (5 * i + k)) ((i + k) % 5) (sN f g (5 * i + k) ((i + k) % 5) + xk f i k * g k) := by
  have e1 : (5 * i + k) / 5 = i := by omega
  have e2 : (5 * i + k) % 5 = k := by omega
  have h := sN_succ f g (5 * i + k)
  rw [e1, e2] at h
  exact h
theorem xk_b {f : Nat → Int} (hf : Lm f) (i k : Nat) (hi : i < 5) : 0 ≤ xk f i k ∧ xk f i k ≤ 85568392920039424 := by
  have h := hf.b i hi
  unfold xk
  split <;> omega
theorem xprod_b {x y : Int} (hx : 0 ≤ x ∧ x ≤ 85568392920039424) (hy : 0 ≤ y ∧ y < 4503599627370496) : 0 ≤ x * y ∧ x * y ≤ 385365782469703125063557837455360 := by
  have h0 : 0 ≤ x * y := Int.mul_nonneg hx.1 hy.1
  have h1 : x * y ≤ 85568392920039424 * 4503599627370496 := Int.mul_le_mul hx.2 (by omega) hy.1 (by omega)
  omega
theorem sN_b (f g : Nat → Int) (hf : Lm f) (hg : Lm g) : ∀ s : Nat, s ≤ 25 → ∀ j, 0 ≤ sN f g s j ∧ sN f g s j ≤ (s : Int) * 385365782469703125063557837455360
  | 0, _, j => by simp [sN]
  | s + 1, hs, j => by
    have ih := sN_b f g hf hg s (by omega)
    have hp := xprod_b (xk_b hf (s / 5) (s % 5) (by omega)) (hg.b (s % 5) (by omega))
    have h1 := ih j
    have h2 := ih ((s / 5 + s % 5) % 5)
    rw [sN_succ]
    unfold upd
    split
    · constructor <;> push_cast <;> omega
    · constructor <;> push_cast <;> omega
theorem pow5 : (2251799813685248 : Int) ^ 5 = PP + 19 := by decide
theorem wrap_pow (x : Int) (n : Nat) : (x * 19 * 2251799813685248 ^ n) % PP = (x * 2251799813685248 ^ (n + 5)) % PP := by
  rw [Int.pow_add, pow5, show x * (2251799813685248 ^ n * (PP + 19)) = x * 19 * 2251799813685248 ^ n + PP * (x * 2251799813685248 ^ n) by grind, Int.add_mul_emod_self_left]
theorem xk_pow (f g : Nat → Int) (i k : Nat) (hi : i < 5) (hk : k < 5) : (xk f i k * g k * 2251799813685248 ^ ((i + k) % 5)) % PP = (f i * g k * 2251799813685248 ^ (i + k)) % PP := by
  unfold xk
  split
  · rename_i h
    obtain ⟨n, hn⟩ : ∃ n, i + k = n + 5 := ⟨i + k - 5, by omega⟩
    rw [show (i + k) % 5 = n by omega, hn, ← wrap_pow]
    congr 1; grind
  · rw [show (i + k) % 5 = i + k by omega]
theorem sN_val (f g : Nat → Int) : val 2251799813685248 (sN f g 25) 5 % PP = (V51 f * V51 g) % PP := by
  have row : ∀ i, i < 5 → val 2251799813685248 (sN f g (5 * i)) 5 % PP = (val 2251799813685248 f i * val 2251799813685248 g 5) % PP → ∀ k, k ≤ 5 → val 2251799813685248 (sN f g (5 * i + k)) 5 % PP = (val 2251799813685248 f i * val 2251799813685248 g 5 + f i * 2251799813685248 ^ i * val 2251799813685248 g k) % PP := by
    intro i hi h0 k
    induction k with
    | zero => intro _; show val 2251799813685248 (sN f g (5 * i)) 5 % PP = _; rw [h0]; simp [val]
    | succ k ih =>
      intro hk
      rw [sN_step f g i k (by omega), val_upd 2251799813685248 _ _ _ 5 (by omega), val_succ 2251799813685248 g k]
      rw [mod_add (ih (by omega)) (xk_pow f g i k hi (by omega)), Int.pow_add]
      congr 1; grind
  have col : ∀ i, i ≤ 5 → val 2251799813685248 (sN f g (5 * i)) 5 % PP = (val 2251799813685248 f i * val 2251799813685248 g 5) % PP := by
    intro i
    induction i with
    | zero => intro _; show val 2251799813685248 (fun _ => 0) 5 % PP = _; simp [val]
    | succ i ih =>
      intro hi
      have h := row i (by omega) (ih (by omega)) 5 (by omega)
      rw [show 5 * (i + 1) = 5 * i + 5 by omega, h, val_succ 2251799813685248 f i]
      congr 1; grind
  have h := col 5 (by omega)
  rw [V51_val, V51_val]
  exact h
/-- The columns' carries. -/
def mc (f g : Nat → Int) (i : Nat) : Int := cy 2251799813685248 (sN f g 25) i
def mulL (f g : Nat → Int) (i : Nat) : Int := (sN f g 25 i + mc f g i) % 2251799813685248
def mulE (f g : Nat → Int) : Nat → Int := carr (upd (mulL f g) 0 (mulL f g 0 + 19 * mc f g 5))
theorem mc_succ (f g : Nat → Int) (i : Nat) : mc f g (i + 1) = (sN f g 25 i + mc f g i) / 2251799813685248 := rfl
theorem mc_b (f g : Nat → Int) (hf : Lm f) (hg : Lm g) : ∀ i, i ≤ 5 → 0 ≤ mc f g i ∧ mc f g i ≤ 9223372036854775808
  | 0, _ => by simp [mc, cy]
  | i + 1, hi => by
    have ih := mc_b f g hf hg i (by omega)
    have h := sN_b f g hf hg 25 (by omega) i
    rw [mc_succ]
    omega
theorem pb {x y : Int} (hx : 0 ≤ x ∧ x < 4503599627370496) (hy : 0 ≤ y ∧ y < 4503599627370496) : 0 ≤ x * y ∧ x * y ≤ 20282409603651670423947251286016 := by
  have h0 : 0 ≤ x * y := Int.mul_nonneg hx.1 hy.1
  have h1 : x * y ≤ 4503599627370496 * 4503599627370496 := Int.mul_le_mul (by omega) (by omega) hy.1 (by omega)
  omega
theorem sN_four (f g : Nat → Int) : sN f g 25 4 = f 0 * g 4 + f 1 * g 3 + f 2 * g 2 + f 3 * g 1 + f 4 * g 0 := by
  simp [sN, upd, xk]
theorem mc_five (f g : Nat → Int) (hf : Lm f) (hg : Lm g) : 0 ≤ mc f g 5 ∧ mc f g 5 ≤ 144115188075855872 := by
  have h4 := mc_b f g hf hg 4 (by omega)
  have e : mc f g 5 = (sN f g 25 4 + mc f g 4) / 2251799813685248 := rfl
  have p0 := pb (hf.b 0 (by omega)) (hg.b 4 (by omega))
  have p1 := pb (hf.b 1 (by omega)) (hg.b 3 (by omega))
  have p2 := pb (hf.b 2 (by omega)) (hg.b 2 (by omega))
  have p3 := pb (hf.b 3 (by omega)) (hg.b 1 (by omega))
  have p4 := pb (hf.b 4 (by omega)) (hg.b 0 (by omega))
  rw [e, sN_four]
  omega
theorem mulL_b (f g : Nat → Int) (i : Nat) : 0 ≤ mulL f g i ∧ mulL f g i < 2251799813685248 := by unfold mulL; omega
theorem mulS_b (f g : Nat → Int) (hf : Lm f) (hg : Lm g) : ∀ i, i < 5 → 0 ≤ upd (mulL f g) 0 (mulL f g 0 + 19 * mc f g 5) i ∧ upd (mulL f g) 0 (mulL f g 0 + 19 * mc f g 5) i ≤ 9223372036854775808 := by
  intro i hi
  have h5 := mc_five f g hf hg
  have h0 := mulL_b f g 0
  have h1 := mulL_b f g i
  unfold upd
  split <;> omega
theorem Fe.mul {f g : Nat → Int} {n m : Int} (hf : Fe f n) (hg : Fe g m) : Fe (mulE f g) (n * m) := by
  refine ⟨carr_Lm _ (mulS_b f g hf.1 hg.1), ?_⟩
  unfold mulE
  rw [carr_mod, V51_val, val_upd0]
  have h1 := cy_val 2251799813685248 (by omega) (sN f g 25) 5
  have h2 : val 2251799813685248 (mulL f g) 5 + mc f g 5 * 2251799813685248 ^ 5 = val 2251799813685248 (sN f g 25) 5 := h1
  have e : val 2251799813685248 (mulL f g) (4 + 1) = val 2251799813685248 (mulL f g) 5 := rfl
  rw [e]
  have h3 : val 2251799813685248 (mulL f g) 5 + (mulL f g 0 + 19 * mc f g 5 - mulL f g 0) = val 2251799813685248 (sN f g 25) 5 + PP * (- mc f g 5) := by
    rw [← h2, pow5]; grind
  rw [h3, Int.add_mul_emod_self_left, sN_val]
  exact mod_mul hf.2 hg.2
end Go.Proofs.Ythonoagpiofojaa.P
