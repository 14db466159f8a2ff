/- Powers in plain. -/
import Derived.Test.YthonoagpiofojaaA8
namespace Go.Proofs.Ythonoagpiofojaa.P
set_option linter.unusedVariables false
set_option linter.unusedSimpArgs false
open Go.RowKit
/-- A bit of a number in bytes. -/
def bitB (e : Nat → Int) (i : Nat) : Bool := e (i / 8) / 2 ^ (i % 8) % 2 == 1
/-- The exponent that the bits 255 .. i are. -/
def expN (e : Nat → Int) : Nat → Nat
  | 0 => 0
  | s + 1 => 2 * expN e s + (if bitB e (255 - s) then 1 else 0)
def powE (f e : Nat → Int) : Nat → (Nat → Int)
  | 0 => smL 1
  | s + 1 => if bitB e (255 - s) then mulE (mulE (powE f e s) (powE f e s)) f else mulE (powE f e s) (powE f e s)
def powR (g e : Nat → Int) : Nat → (Nat → Int)
  | 0 => carryN (fun i => if i = 0 then 1 else 0) 16
  | s + 1 => if bitB e (255 - s) then mulR (mulR (powR g e s) (powR g e s)) g else mulR (powR g e s) (powR g e s)
theorem pow_two_mul (n : Int) (k : Nat) : n ^ (2 * k) = n ^ k * n ^ k := by rw [Nat.two_mul, Int.pow_add]
theorem Fe.pow {f : Nat → Int} {n : Int} (hf : Fe f n) (e : Nat → Int) : ∀ s, Fe (powE f e s) (n ^ expN e s)
  | 0 => by simpa [powE, expN] using Fe.small 1 (by omega)
  | s + 1 => by
    have ih := Fe.pow hf e s
    have h2 := ih.mul ih
    unfold powE expN
    by_cases hb : bitB e (255 - s) = true
    · rw [if_pos hb, if_pos hb, Int.pow_succ, pow_two_mul]; exact h2.mul hf
    · rw [if_neg hb, if_neg hb, Nat.add_zero, pow_two_mul]; exact h2
theorem Re.pow {g : Nat → Int} {n : Int} (hg : Re g n) (e : Nat → Int) : ∀ s, Re (powR g e s) (n ^ expN e s)
  | 0 => by simpa [powR, expN] using Re.small 1 (by omega)
  | s + 1 => by
    have ih := Re.pow hg e s
    have h2 := ih.mul ih
    unfold powR expN
    by_cases hb : bitB e (255 - s) = true
    · rw [if_pos hb, if_pos hb, Int.pow_succ, pow_two_mul]; exact h2.mul hg
    · rw [if_neg hb, if_neg hb, Nat.add_zero, pow_two_mul]; exact h2
/-- The bytes of 2 to this power, less k (as the code reckons them). -/
def expB (p : Nat) (k : Int) (j : Nat) : Int := if j = 0 then ((2 ^ (min 8 p) - 1) - k) % 256 else 2 ^ (min 8 (p - 8 * j)) - 1
def onesB (p j : Nat) : Int := 2 ^ (min 8 (p - 8 * j)) - 1
theorem onesB_step (i j : Nat) : onesB (i + 1) j = upd (onesB i) (i / 8) (onesB i (i / 8) + 2 ^ (i % 8)) j := by
  by_cases h : j = i / 8
  · subst h
    rw [upd_same]
    unfold onesB
    rw [show min 8 (i + 1 - 8 * (i / 8)) = i % 8 + 1 by omega, show min 8 (i - 8 * (i / 8)) = i % 8 by omega, Int.pow_succ]
    omega
  · rw [upd_other _ _ _ _ h]
    unfold onesB
    rw [show min 8 (i + 1 - 8 * j) = min 8 (i - 8 * j) by omega]
theorem pow8_le (r : Nat) (h : r ≤ 8) : (1 : Int) ≤ 2 ^ r ∧ (2 : Int) ^ r ≤ 256 := by
  have hc : r = 0 ∨ r = 1 ∨ r = 2 ∨ r = 3 ∨ r = 4 ∨ r = 5 ∨ r = 6 ∨ r = 7 ∨ r = 8 := by omega
  rcases hc with h | h | h | h | h | h | h | h | h <;> subst h <;> decide
theorem onesB_b (p j : Nat) : 0 ≤ onesB p j ∧ onesB p j < 256 := by
  have := pow8_le (min 8 (p - 8 * j)) (by omega)
  unfold onesB; omega
theorem ones_or (i : Nat) : Go.bits .or .u8 (onesB i (i / 8)) (2 ^ (i % 8)) = onesB i (i / 8) + 2 ^ (i % 8) := by
  have h := or_bit (onesB i (i / 8)) 1 (i % 8) (by omega) (by
    unfold onesB
    rw [show min 8 (i - 8 * (i / 8)) = i % 8 by omega]
    have := pow8_le (i % 8) (by omega)
    omega) (Or.inr rfl)
  have hp := pow8_le (i % 8) (by omega)
  have h8 : (2 : Int) ^ (i % 8) ≤ 128 := by
    have hc : i % 8 = 0 ∨ i % 8 = 1 ∨ i % 8 = 2 ∨ i % 8 = 3 ∨ i % 8 = 4 ∨ i % 8 = 5 ∨ i % 8 = 6 ∨ i % 8 = 7 := by omega
    rcases hc with h | h | h | h | h | h | h | h <;> rw [h] <;> decide
  have e : (1 : Int) % 256 * 2 ^ (i % 8) % 256 = 2 ^ (i % 8) := by
    rw [show (1 : Int) % 256 = 1 by decide, Int.one_mul, Int.emod_eq_of_lt (by omega) (by omega)]
  rw [e, Int.one_mul] at h
  exact h
end Go.Proofs.Ythonoagpiofojaa.P
