/- What carrying thrice does to a number of 16 digits. -/
import Derived.Test.YthonoagpiofojaaA1
namespace Go.Proofs.Ythonoagpiofojaa.P
set_option linter.unusedVariables false
set_option linter.unusedSimpArgs false
theorem carryN_eq (f : Nat → Int) : ∀ i, i ≤ 15 → ∀ j, carryN f i j = if j < i then (f j + cy 65536 f j) % 65536 else if j = i then f j + cy 65536 f j else f j
  | 0, _, j => by
    rw [if_neg (by omega)]
    show f j = _
    split
    · rename_i h; subst h; simp [cy]
    · rfl
  | i + 1, hi, j => by
    have ih := carryN_eq f i (by omega)
    have e : carryN f (i + 1) = upd (upd (carryN f i) i (carryN f i i - carryN f i i / 65536 * 65536)) (i + 1) (carryN f i (i + 1) + carryN f i i / 65536) := by
      show cstep (carryN f i) i = _
      unfold cstep; rw [if_pos (by omega)]
    have e1 : carryN f i i = f i + cy 65536 f i := by rw [ih i, if_neg (by omega), if_pos rfl]
    have e2 : carryN f i (i + 1) = f (i + 1) := by rw [ih (i + 1), if_neg (by omega), if_neg (by omega)]
    rw [e, e1, e2]
    by_cases h1 : j = i + 1
    · subst h1
      rw [upd_same, if_neg (by omega), if_pos rfl]; rfl
    · rw [upd_other _ _ _ _ h1]
      by_cases h2 : j = i
      · subst h2
        rw [upd_same, if_pos (by omega)]; omega
      · rw [upd_other _ _ _ _ h2, ih j]
        by_cases h3 : j < i
        · rw [if_pos h3, if_pos (by omega)]
        · rw [if_neg h3, if_neg h2, if_neg (by omega), if_neg h1]
theorem carry16 (f : Nat → Int) (j : Nat) (hj : j < 16) : carryN f 16 j = (f j + cy 65536 f j) % 65536 + (if j = 0 then 38 * cy 65536 f 16 else 0) := by
  have ih := carryN_eq f 15 (by omega)
  have e : carryN f 16 = upd (upd (carryN f 15) 15 (carryN f 15 15 - carryN f 15 15 / 65536 * 65536)) 0 (carryN f 15 0 + 38 * (carryN f 15 15 / 65536)) := rfl
  have e1 : carryN f 15 15 = f 15 + cy 65536 f 15 := by rw [ih 15, if_neg (by omega), if_pos rfl]
  have e2 : carryN f 15 0 = (f 0 + cy 65536 f 0) % 65536 := by rw [ih 0, if_pos (by omega)]
  have e3 : cy 65536 f 16 = (f 15 + cy 65536 f 15) / 65536 := rfl
  rw [e, e1, e2, e3]
  by_cases h0 : j = 0
  · subst h0; rw [upd_same, if_pos rfl]
  · rw [upd_other _ _ _ _ h0, if_neg h0]
    by_cases h1 : j = 15
    · subst h1; rw [upd_same]; omega
    · rw [upd_other _ _ _ _ h1, ih j, if_pos (by omega)]; omega
/-- The number of 16 digits of 16 bits. -/
def V16 (f : Nat → Int) : Int := val 65536 f 16
theorem V16_eq (f : Nat → Int) : V16 f = f 0 + f 1 * 65536 ^ 1 + f 2 * 65536 ^ 2 + f 3 * 65536 ^ 3 + f 4 * 65536 ^ 4 + f 5 * 65536 ^ 5 + f 6 * 65536 ^ 6 + f 7 * 65536 ^ 7 + f 8 * 65536 ^ 8 + f 9 * 65536 ^ 9 + f 10 * 65536 ^ 10 + f 11 * 65536 ^ 11 + f 12 * 65536 ^ 12 + f 13 * 65536 ^ 13 + f 14 * 65536 ^ 14 + f 15 * 65536 ^ 15 := by
  simp [V16, val]
def QQ : Int := 115792089237316195423570985008687907853269984665640564039457584007913129639936
def PP : Int := 57896044618658097711785492504343953926634992332820282019728792003956564819949
theorem QQ_pow : (65536 : Int) ^ 16 = QQ := by decide
theorem QQ_PP : QQ = 2 * PP + 38 := by decide
theorem V16_carry (f : Nat → Int) : V16 (carryN f 16) = V16 f % QQ + 38 * (V16 f / QQ) := by
  have h := cy_div 65536 (by omega) f 16
  unfold V16
  rw [val_congr 65536 _ _ 16 (fun i hi => carry16 f i hi), val_add 65536 (fun j => (f j + cy 65536 f j) % 65536) (fun j => if j = 0 then 38 * cy 65536 f 16 else 0), h.2, h.1, QQ_pow]
  congr 1
  simp [val]
theorem V16_carry_mod (f : Nat → Int) : V16 (carryN f 16) % PP = V16 f % PP := by
  rw [V16_carry]
  generalize V16 f = x
  have h := Int.emod_add_mul_ediv x QQ
  have e : x = (x % QQ + 38 * (x / QQ)) + PP * (2 * (x / QQ)) := by
    conv => lhs; rw [← h]
    rw [QQ_PP]; grind
  conv => rhs; rw [e]
  rw [Int.add_mul_emod_self_left]
theorem V16_b (f : Nat → Int) (hf : CB f) : -68719476736 * QQ ≤ V16 f ∧ V16 f ≤ 68719476736 * QQ := by
  rw [V16_eq]
  have h0 := hf 0 (by omega); have h1 := hf 1 (by omega); have h2 := hf 2 (by omega); have h3 := hf 3 (by omega)
  have h4 := hf 4 (by omega); have h5 := hf 5 (by omega); have h6 := hf 6 (by omega); have h7 := hf 7 (by omega)
  have h8 := hf 8 (by omega); have h9 := hf 9 (by omega); have h10 := hf 10 (by omega); have h11 := hf 11 (by omega)
  have h12 := hf 12 (by omega); have h13 := hf 13 (by omega); have h14 := hf 14 (by omega); have h15 := hf 15 (by omega)
  unfold QQ
  omega
/-- The digits but the lowest are right, the lowest is within 2^42. -/
def CB1 (f : Nat → Int) : Prop := (∀ j, j < 16 → j ≠ 0 → 0 ≤ f j ∧ f j < 65536) ∧ (-4398046511104 ≤ f 0 ∧ f 0 ≤ 4398046511104)
theorem CB1.cb {f : Nat → Int} (h : CB1 f) : CB f := fun j hj => by
  by_cases h0 : j = 0
  · subst h0; have := h.2; omega
  · have := h.1 j hj h0; omega
theorem carry_digits (f : Nat → Int) (j : Nat) (hj : j < 16) (h0 : j ≠ 0) : 0 ≤ carryN f 16 j ∧ carryN f 16 j < 65536 := by
  rw [carry16 f j hj, if_neg h0]; omega
theorem carry_zero (f : Nat → Int) : carryN f 16 0 = f 0 % 65536 + 38 * (V16 f / QQ) := by
  have h := (cy_div 65536 (by omega) f 16).1
  rw [QQ_pow] at h
  rw [carry16 f 0 (by omega), if_pos rfl, h]
  show (f 0 + 0) % 65536 + 38 * (V16 f / QQ) = _
  rw [Int.add_zero]
theorem carry_CB1 (f : Nat → Int) (hf : CB f) : CB1 (carryN f 16) := by
  refine ⟨carry_digits f, ?_⟩
  have h := V16_b f hf
  rw [carry_zero]
  generalize V16 f = x at *
  unfold QQ at *
  omega
theorem V16_b1 (f : Nat → Int) (hf : CB1 f) : -4398046511104 ≤ V16 f ∧ V16 f ≤ QQ + 4398046511104 := by
  rw [V16_eq]
  have h0 := hf.2
  have h1 := hf.1 1 (by omega) (by omega); have h2 := hf.1 2 (by omega) (by omega); have h3 := hf.1 3 (by omega) (by omega)
  have h4 := hf.1 4 (by omega) (by omega); have h5 := hf.1 5 (by omega) (by omega); have h6 := hf.1 6 (by omega) (by omega); have h7 := hf.1 7 (by omega) (by omega)
  have h8 := hf.1 8 (by omega) (by omega); have h9 := hf.1 9 (by omega) (by omega); have h10 := hf.1 10 (by omega) (by omega); have h11 := hf.1 11 (by omega) (by omega)
  have h12 := hf.1 12 (by omega) (by omega); have h13 := hf.1 13 (by omega) (by omega); have h14 := hf.1 14 (by omega) (by omega); have h15 := hf.1 15 (by omega) (by omega)
  unfold QQ
  omega
theorem carry2_V (f : Nat → Int) (hf : CB1 f) : 0 ≤ V16 (carryN f 16) ∧ V16 (carryN f 16) < QQ := by
  have h := V16_b1 f hf
  rw [V16_carry]
  generalize V16 f = x at *
  unfold QQ at *
  omega
theorem carry3_digits (f : Nat → Int) (h : 0 ≤ V16 f ∧ V16 f < QQ) (j : Nat) (hj : j < 16) : 0 ≤ carryN f 16 j ∧ carryN f 16 j < 65536 := by
  by_cases h0 : j = 0
  · subst h0
    rw [carry_zero, Int.ediv_eq_zero_of_lt h.1 h.2]; omega
  · exact carry_digits f j hj h0
/-- Behind three carries. -/
theorem carry_thrice (f : Nat → Int) (hf : CB f) :
    CB (carryN f 16) ∧ CB (carryN (carryN f 16) 16) ∧ (∀ j, j < 16 → 0 ≤ carryN (carryN (carryN f 16) 16) 16 j ∧ carryN (carryN (carryN f 16) 16) 16 j < 65536) ∧ V16 (carryN (carryN (carryN f 16) 16) 16) % PP = V16 f % PP := by
  have h1 := carry_CB1 f hf
  have h2 := carry_CB1 _ h1.cb
  have h3 := carry2_V _ h1
  exact ⟨h1.cb, h2.cb, carry3_digits _ h3, by rw [V16_carry_mod, V16_carry_mod, V16_carry_mod]⟩
theorem V16_pD : V16 pD = PP := by decide
/-- Right digits that are below the prime's are a number below it. -/
theorem belowN_val (f : Nat → Int) : ∀ n, (∀ j, j < n → 0 ≤ f j ∧ f j < 65536) → belowN f n = decide (val 65536 f n < val 65536 pD n)
  | 0, _ => by simp [belowN, val]
  | n + 1, h => by
    have ih := belowN_val f n (fun j hj => h j (by omega))
    have b1 := val_b 65536 (by omega) f n (fun j hj => h j (by omega))
    have b2 := val_b 65536 (by omega) pD n (fun j hj => by have := pD_b j; omega)
    have hp := pow_pos' 65536 (by omega) n
    rw [belowN, val, val]
    by_cases he : f n = pD n
    · rw [if_pos he, ih, he]
      congr 1
      apply propext
      omega
    · rw [if_neg he]
      congr 1
      apply propext
      constructor
      · intro hl
        have : (f n + 1) * 65536 ^ n ≤ pD n * 65536 ^ n := Int.mul_le_mul_of_nonneg_right (by omega) (by omega)
        have e : (f n + 1) * (65536 : Int) ^ n = f n * 65536 ^ n + 65536 ^ n := by grind
        omega
      · intro hl
        rcases Int.lt_or_gt_of_ne he with hlt | hgt
        · exact hlt
        · exfalso
          have : (pD n + 1) * 65536 ^ n ≤ f n * 65536 ^ n := Int.mul_le_mul_of_nonneg_right (by omega) (by omega)
          have e : (pD n + 1) * (65536 : Int) ^ n = pD n * 65536 ^ n + 65536 ^ n := by grind
          omega
theorem belowN16 (f : Nat → Int) (h : ∀ j, j < 16 → 0 ≤ f j ∧ f j < 65536) : belowN f 16 = decide (V16 f < PP) := by
  rw [belowN_val f 16 h]; rw [← V16_pD]; rfl
/-- The digits of a number less the prime. -/
def lessD (f : Nat → Int) (i : Nat) : Int := (f i - pD i + cy 65536 (fun j => f j - pD j) i) % 65536
theorem lessD_V (f : Nat → Int) (h : ∀ j, j < 16 → 0 ≤ f j ∧ f j < 65536) (hb : belowN f 16 = false) : V16 (lessD f) = V16 f - PP ∧ (∀ j, j < 16 → 0 ≤ lessD f j ∧ lessD f j < 65536) := by
  have e := belowN16 f h
  rw [hb] at e
  have hge : PP ≤ V16 f := by simpa using e
  have hlt := (val_b 65536 (by omega) f 16 h).2
  have h2 := (cy_div 65536 (by omega) (fun j => f j - pD j) 16).2
  refine ⟨?_, fun j hj => ⟨Int.emod_nonneg _ (by omega), Int.emod_lt_of_pos _ (by omega)⟩⟩
  show val 65536 (fun i => (f i - pD i + cy 65536 (fun j => f j - pD j) i) % 65536) 16 = _
  rw [h2, val_sub, QQ_pow]
  show (V16 f - V16 pD) % QQ = _
  rw [V16_pD]
  rw [QQ_pow] at hlt
  have hlt' : V16 f < QQ := hlt
  exact Int.emod_eq_of_lt (by omega) (by unfold PP QQ at *; omega)
end Go.Proofs.Ythonoagpiofojaa.P
