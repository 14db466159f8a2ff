/- Products of bytes, digit by digit; scalar.MulAdd, by its walk. -/
import Derived.Test.YtchokhakdnjfmaaDoorSe
import Derived.Laws.AppendOwn
namespace Go.Proofs.YtchokhakdnjfmaaDoor.P
set_option linter.unusedVariables false
set_option linter.unusedSimpArgs false
open Go.RowKit Go.Proofs.YtchokhakdnjfmaaDoorW.PrintWords Go.Proofs.YtchokhakdnjfmaaDoorW.PrintLast Go.Proofs.YtchokhakdnjfmaaDoorW.PrintMore
attribute [local go_sem] setCell_drewN
/-- The columns' sums behind s of the products of 32 bytes with 32. -/
def pS (f g : Nat → Int) : Nat → Nat → Int
  | 0 => fun _ => 0
  | s + 1 => upd (pS f g s) (s / 32 + s % 32) (pS f g s (s / 32 + s % 32) + f (s / 32) * g (s % 32))
theorem pS_step (f g : Nat → Int) (i k : Nat) (hk : k < 32) : pS f g (32 * i + (k + 1)) = upd (pS f g (32 * i + k)) (i + k) (pS f g (32 * i + k) (i + k) + f i * g k) := by
  have e1 : (32 * i + k) / 32 = i := by omega
  have e2 : (32 * i + k) % 32 = k := by omega
  have h : pS f g (32 * i + k + 1) = upd (pS f g (32 * i + k)) ((32 * i + k) / 32 + (32 * i + k) % 32) (pS f g (32 * i + k) ((32 * i + k) / 32 + (32 * i + k) % 32) + f ((32 * i + k) / 32) * g ((32 * i + k) % 32)) := rfl
  rw [e1, e2] at h
  exact h
theorem byte_mul {x y : Int} (hx : 0 ≤ x ∧ x < 256) (hy : 0 ≤ y ∧ y < 256) : 0 ≤ x * y ∧ x * y ≤ 65025 :=
  ⟨Int.mul_nonneg hx.1 hy.1, Int.le_trans (Int.mul_le_mul_of_nonneg_right (show x ≤ 255 by omega) hy.1) (by omega)⟩
theorem pS_b (f g : Nat → Int) (hf : By f) (hg : By g) : ∀ s : Nat, s ≤ 1024 → ∀ j, 0 ≤ pS f g s j ∧ pS f g s j ≤ (s : Int) * 65025
  | 0, _, j => by simp [pS]
  | s + 1, hs, j => by
    have ih := pS_b f g hf hg s (by omega)
    have hp := byte_mul (hf (s / 32) (by omega)) (hg (s % 32) (by omega))
    have h1 := ih j
    have h2 := ih (s / 32 + s % 32)
    rw [pS]
    unfold upd
    split
    · constructor <;> push_cast <;> omega
    · constructor <;> push_cast <;> omega
theorem pS_val (N : Nat) (hN : 63 ≤ N) (f g : Nat → Int) : ∀ i, i ≤ 32 → val 256 (pS f g (32 * i)) N = val 256 f i * val 256 g 32 := by
  have row : ∀ i, i < 32 → val 256 (pS f g (32 * i)) N = val 256 f i * val 256 g 32 → ∀ k, k ≤ 32 → val 256 (pS f g (32 * i + k)) N = val 256 f i * val 256 g 32 + f i * 256 ^ i * val 256 g k := by
    intro i hi h0 k
    induction k with
    | zero => intro _; show val 256 (pS f g (32 * i)) N = _; rw [h0]; simp [val]
    | succ k ih =>
      intro hk
      rw [pS_step f g i k (by omega), val_upd 256 _ _ _ N (by omega), ih (by omega), val_succ 256 g k, Int.pow_add]
      grind
  intro i
  induction i with
  | zero =>
    intro _
    show val 256 (fun _ => 0) N = _
    have : ∀ n, val 256 (fun _ => 0) n = 0 := fun n => by induction n with
      | zero => rfl
      | succ n ih => rw [val, ih]; simp
    rw [this]; simp [val]
  | succ i ih =>
    intro hi
    have h := row i (by omega) (ih (by omega)) 32 (by omega)
    rw [show 32 * (i + 1) = 32 * i + 32 by omega, h, val_succ 256 f i]
    grind
/-- The sums, with the third number's bytes. -/
def pH (f g c : Nat → Int) (j : Nat) : Int := pS f g 1024 j + if j < 32 then c j else 0
theorem val_ext0 (B : Int) (c : Nat → Int) (m : Nat) : ∀ n, m ≤ n → val B (fun j => if j < m then c j else 0) n = val B c m
  | 0, h => by obtain rfl : m = 0 := by omega
               rfl
  | n + 1, h => by
    by_cases e : m = n + 1
    · subst e
      exact val_congr B _ _ _ (fun j hj => if_pos hj)
    · rw [val, val_ext0 B c m n (by omega), if_neg (by omega)]
      simp
theorem pH_val (f g c : Nat → Int) : val 256 (pH f g c) 64 = N32 f * N32 g + N32 c := by
  have h1 := pS_val 64 (by omega) f g 32 (by omega)
  have h2 := val_ext0 256 c 32 64 (by omega)
  have h3 : val 256 (pH f g c) 64 = val 256 (pS f g 1024) 64 + val 256 (fun j => if j < 32 then c j else 0) 64 := val_add 256 _ _ 64
  rw [h3, h2]
  show _ = val 256 f 32 * val 256 g 32 + val 256 c 32
  rw [← h1]
theorem pH_b (f g c : Nat → Int) (hf : By f) (hg : By g) (hc : By c) (j : Nat) : 0 ≤ pH f g c j ∧ pH f g c j ≤ 66586000 := by
  have h1 := pS_b f g hf hg 1024 (by omega) j
  unfold pH
  split
  · have := hc j (by omega); omega
  · omega
theorem cyH_b (f g c : Nat → Int) (hf : By f) (hg : By g) (hc : By c) : ∀ i, 0 ≤ cy 256 (pH f g c) i ∧ cy 256 (pH f g c) i ≤ 300000
  | 0 => by simp [cy]
  | i + 1 => by
    have h1 := cyH_b f g c hf hg hc i
    have h2 := pH_b f g c hf hg hc i
    show 0 ≤ (pH f g c i + cy 256 (pH f g c) i) / 256 ∧ _
    have e : cy 256 (pH f g c) (i + 1) = (pH f g c i + cy 256 (pH f g c) i) / 256 := rfl
    rw [e]; omega
/-- The bytes that MulAdd hands to Rest. -/
def mB (f g c : Nat → Int) (j : Nat) : Int := if j < 64 then (pH f g c j + cy 256 (pH f g c) j) % 256 else if j = 64 then cy 256 (pH f g c) 64 % 256 else cy 256 (pH f g c) 64 / 256 % 256
theorem mB_b (f g c : Nat → Int) (j : Nat) : 0 ≤ mB f g c j ∧ mB f g c j < 256 := by
  unfold mB; split
  · omega
  · split <;> omega
theorem cy64_b (f g c : Nat → Int) (hf : By f) (hg : By g) (hc : By c) : cy 256 (pH f g c) 64 < 65536 := by
  have h := (cy_div 256 (by omega) (pH f g c) 64).1
  rw [pH_val] at h
  have ha := N32_b f hf
  have hb := N32_b g hg
  have hcc := N32_b c hc
  have hm : N32 f * N32 g ≤ 256 ^ 32 * 256 ^ 32 := Int.le_trans (Int.mul_le_mul_of_nonneg_right (Int.le_of_lt ha.2) hb.1) (Int.mul_le_mul_of_nonneg_left (Int.le_of_lt hb.2) (by decide))
  have e1 : (256 : Int) ^ 32 = 115792089237316195423570985008687907853269984665640564039457584007913129639936 := by decide
  have e2 : (256 : Int) ^ 64 = 13407807929942597099574024998205846127479365820592393377723561443721764030073546976801874298166903427690031858186486050853753882811946569946433649006084096 := by decide
  rw [h, e2]
  rw [e1] at hm hcc
  generalize N32 f * N32 g = p at *
  omega
theorem mB_val (f g c : Nat → Int) (hf : By f) (hg : By g) (hc : By c) : val 256 (mB f g c) 66 = N32 f * N32 g + N32 c := by
  have h1 := cy_val 256 (by omega) (pH f g c) 64
  rw [pH_val] at h1
  have h2 := cy64_b f g c hf hg hc
  have h3 := (cyH_b f g c hf hg hc 64).1
  have e1 : val 256 (mB f g c) 64 = val 256 (fun i => (pH f g c i + cy 256 (pH f g c) i) % 256) 64 := val_congr 256 _ _ 64 (fun j hj => if_pos hj)
  have e2 : mB f g c 64 = cy 256 (pH f g c) 64 % 256 := by unfold mB; rw [if_neg (by omega), if_pos rfl]
  have e3 : mB f g c 65 = cy 256 (pH f g c) 64 / 256 % 256 := by unfold mB; rw [if_neg (by omega), if_neg (by omega)]
  rw [val_succ, val_succ, e1, e2, e3, ← h1]
  generalize val 256 (fun i => (pH f g c i + cy 256 (pH f g c) i) % 256) 64 = v
  generalize cy 256 (pH f g c) 64 = y at *
  have e4 : (256 : Int) ^ 65 = 256 ^ 64 * 256 := Int.pow_succ 256 64
  rw [e4]
  generalize (256 : Int) ^ 64 = q
  have e5 : y / 256 % 256 = y / 256 := by omega
  have e6 : y = y % 256 + 256 * (y / 256) := by omega
  rw [e5]
  generalize y % 256 = a at *
  generalize y / 256 = b at *
  subst e6
  grind
end Go.Proofs.YtchokhakdnjfmaaDoor.P
