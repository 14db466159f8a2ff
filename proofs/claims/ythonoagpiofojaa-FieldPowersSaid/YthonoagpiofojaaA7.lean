/- Products in plain: the document's columns. -/
import Derived.Test.YthonoagpiofojaaA6
namespace Go.Proofs.Ythonoagpiofojaa.P
set_option linter.unusedVariables false
set_option linter.unusedSimpArgs false
open Go.RowKit
theorem val_upd (B : Int) (f : Nat → Int) (j : Nat) (x : Int) : ∀ n, j < n → val B (upd f j (f j + x)) n = val B f n + x * B ^ j
  | 0, h => absurd h (by omega)
  | n + 1, h => by
    rw [val, val]
    by_cases hj : j = n
    · subst hj
      rw [upd_same, val_congr B (upd f j (f j + x)) f j (fun i hi => upd_other _ _ _ _ (by omega))]
      grind
    · rw [val_upd B f j x n (by omega), upd_other _ _ _ _ (fun e => hj e.symm)]
      omega
/-- The columns behind s steps. -/
def tN (f g : Nat → Int) : Nat → Nat → Int
  | 0 => fun _ => 0
  | s + 1 => upd (tN f g s) (s / 16 + s % 16) (tN f g s (s / 16 + s % 16) + f (s / 16) * g (s % 16))
theorem tN_succ (f g : Nat → Int) (s : Nat) : tN f g (s + 1) = upd (tN f g s) (s / 16 + s % 16) (tN f g s (s / 16 + s % 16) + f (s / 16) * g (s % 16)) := rfl
theorem tN_step (f g : Nat → Int) (i k : Nat) (hk : k < 16) : tN f g (16 * i + (k + 1)) = upd (tN f g (16 * i + k)) (i + k) (tN f g (16 * i + k) (i + k) + f i * g k) := by
  have e1 : (16 * i + k) / 16 = i := by omega
  have e2 : (16 * i + k) % 16 = k := by omega
  have h := tN_succ f g (16 * i + k)
  rw [e1, e2] at h
  exact h
theorem val_succ (B : Int) (f : Nat → Int) (n : Nat) : val B f (n + 1) = val B f n + f n * B ^ n := rfl
theorem prod_b {x y : Int} (hx : -100000 ≤ x ∧ x ≤ 200000) (hy : -100000 ≤ y ∧ y ≤ 200000) : -40000000000 ≤ x * y ∧ x * y ≤ 40000000000 := by
  have h1 : x.natAbs ≤ 200000 := by omega
  have h2 : y.natAbs ≤ 200000 := by omega
  have h3 : x.natAbs * y.natAbs ≤ 200000 * 200000 := Nat.mul_le_mul h1 h2
  have h4 : (x * y).natAbs = x.natAbs * y.natAbs := Int.natAbs_mul x y
  omega
theorem tN_b (f g : Nat → Int) (hf : Rn f) (hg : Rn g) : ∀ s : Nat, s ≤ 256 → ∀ j, - ((s : Int) * 40000000000) ≤ tN f g s j ∧ tN f g s j ≤ (s : Int) * 40000000000
  | 0, _, j => by simp [tN]
  | s + 1, hs, j => by
    have ih := tN_b f g hf hg s (by omega)
    have hp := prod_b (hf.b (s / 16) (by omega)) (hg.b (s % 16) (by omega))
    have h1 := ih j
    have h2 := ih (s / 16 + s % 16)
    rw [tN_succ]
    unfold upd
    split
    · constructor <;> push_cast <;> omega
    · constructor <;> push_cast <;> omega
theorem tN_val (f g : Nat → Int) : ∀ i, i ≤ 16 → ∀ k, k ≤ 16 → val 65536 (tN f g (16 * i + k)) 31 = val 65536 f i * val 65536 g 16 + f i * 65536 ^ i * val 65536 g k ∨ (i = 16 ∧ 0 < k) := by
  have row : ∀ i, i < 16 → val 65536 (tN f g (16 * i)) 31 = val 65536 f i * val 65536 g 16 → ∀ k, k ≤ 16 → val 65536 (tN f g (16 * i + k)) 31 = val 65536 f i * val 65536 g 16 + f i * 65536 ^ i * val 65536 g k := by
    intro i hi h0 k
    induction k with
    | zero => intro _; show val 65536 (tN f g (16 * i)) 31 = _; rw [h0]; simp [val]
    | succ k ih =>
      intro hk
      rw [tN_step f g i k (by omega), val_upd 65536 _ _ _ 31 (by omega), ih (by omega), val_succ 65536 g k, Int.pow_add]
      grind
  have col : ∀ i, i ≤ 16 → val 65536 (tN f g (16 * i)) 31 = val 65536 f i * val 65536 g 16 := by
    intro i
    induction i with
    | zero => intro _; show val 65536 (fun _ => 0) 31 = _; simp [val]
    | succ i ih =>
      intro hi
      have h := row i (by omega) (ih (by omega)) 16 (by omega)
      rw [show 16 * (i + 1) = 16 * i + 16 by omega, h, val_succ 65536 f i]
      grind
  intro i hi k hk
  by_cases h : i = 16
  · subst h
    rcases Nat.eq_zero_or_pos k with h0 | h0
    · subst h0
      left
      rw [show 16 * 16 + 0 = 16 * 16 by omega, col 16 (by omega)]
      simp [val]
    · right; exact ⟨rfl, h0⟩
  · left; exact row i (by omega) (col i (by omega)) k hk
/-- What carries are taken of. -/
def outR (f g : Nat → Int) (i : Nat) : Int := if i < 15 then tN f g 256 i + 38 * tN f g 256 (i + 16) else tN f g 256 i
def mulR (f g : Nat → Int) : Nat → Int := carryN (carryN (outR f g) 16) 16
theorem outR_V (f g : Nat → Int) : V16 (outR f g) % PP = (V16 f * V16 g) % PP := by
  have h := tN_val f g 16 (by omega) 0 (by omega)
  have h1 : val 65536 (tN f g 256) 31 = V16 f * V16 g := by
    rcases h with h | h
    · have e : val 65536 (tN f g 256) 31 = val 65536 f 16 * val 65536 g 16 + f 16 * 65536 ^ 16 * val 65536 g 0 := h
      rw [e]; show V16 f * V16 g + f 16 * 65536 ^ 16 * 0 = _; omega
    · omega
  have h2 := val_split 65536 (tN f g 256) 16 15
  have e1 : V16 (outR f g) = val 65536 (tN f g 256) 16 + 38 * val 65536 (fun j => tN f g 256 (16 + j)) 15 := by
    rw [V16_eq]
    simp only [outR, val, Nat.reduceLT, Nat.reduceAdd, ↓reduceIte, if_true, if_false]
    omega
  rw [e1, ← h1, h2, QQ_pow, QQ_PP]
  generalize val 65536 (tN f g 256) 16 = x
  generalize val 65536 (fun j => tN f g 256 (16 + j)) 15 = y
  rw [show x + (2 * PP + 38) * y = (x + 38 * y) + PP * (2 * y) by grind, Int.add_mul_emod_self_left]
theorem outR_b (f g : Nat → Int) (hf : Rn f) (hg : Rn g) : CB (outR f g) := fun j hj => by
  have h1 := tN_b f g hf hg 256 (by omega) j
  have h2 := tN_b f g hf hg 256 (by omega) (j + 16)
  unfold outR
  split <;> omega
theorem Re.mul {f g : Nat → Int} {n m : Int} (hf : Re f n) (hg : Re g m) : Re (mulR f g) (n * m) := by
  have h1 := carry_CB1 _ (outR_b f g hf.1 hg.1)
  have h2 := V16_b1 _ h1
  refine ⟨carry_Rn _ (by unfold QQ at *; omega), ?_⟩
  unfold mulR
  rw [V16_carry_mod, V16_carry_mod, outR_V]
  exact mod_mul hf.2 hg.2
end Go.Proofs.Ythonoagpiofojaa.P
