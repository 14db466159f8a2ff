/- Texts A10, A11, A12, A13 of this session, in one (wip/tools/merge.py). -/
import Derived.KernelRfl
import Derived.Test.YthonoagpiofojaaU4
namespace Go.Proofs.Ythonoagpiofojaa.P
section
set_option linter.unusedVariables false
set_option linter.unusedSimpArgs false
def Prime (p : Nat) : Prop := 1 < p ∧ ∀ d, d ∣ p → d = 1 ∨ d = p
theorem Prime.coprime {q x : Nat} (hq : Prime q) (h : ¬ q ∣ x) : Nat.Coprime q x := by
  rcases hq.2 (Nat.gcd q x) (Nat.gcd_dvd_left q x) with h1 | h1
  · exact h1
  · exact absurd (h1 ▸ Nat.gcd_dvd_right q x) h
theorem Prime.dvd_mul {q x y : Nat} (hq : Prime q) (h : q ∣ x * y) : q ∣ x ∨ q ∣ y := by
  by_cases hx : q ∣ x
  · exact Or.inl hx
  · exact Or.inr ((hq.coprime hx).dvd_of_dvd_mul_left h)
/-- Pascal's numbers. -/
def ch : Nat → Nat → Nat
  | _, 0 => 1
  | 0, _ + 1 => 0
  | n + 1, k + 1 => ch n k + ch n (k + 1)
theorem ch_zero (n : Nat) : ch n 0 = 1 := by cases n <;> rfl
theorem ch_succ (n k : Nat) : ch (n + 1) (k + 1) = ch n k + ch n (k + 1) := rfl
theorem ch_lt : ∀ n k, n < k → ch n k = 0
  | n, 0, h => absurd h (by omega)
  | 0, k + 1, _ => rfl
  | n + 1, k + 1, h => by rw [ch_succ, ch_lt n k (by omega), ch_lt n (k + 1) (by omega)]
theorem ch_self : ∀ n, ch n n = 1
  | 0 => rfl
  | n + 1 => by rw [ch_succ, ch_self n, ch_lt n (n + 1) (by omega)]
theorem ch_mul : ∀ n k, (k + 1) * ch (n + 1) (k + 1) = (n + 1) * ch n k
  | 0, 0 => rfl
  | 0, k + 1 => by rw [ch_lt 1 (k + 1 + 1) (by omega), ch_lt 0 (k + 1) (by omega)]; simp
  | n + 1, 0 => by
    have h := ch_mul n 0
    rw [ch_succ, ch_zero]
    rw [ch_zero] at h
    omega
  | n + 1, k + 1 => by
    have h1 := ch_mul n k
    have h2 := ch_mul n (k + 1)
    have e1 := ch_succ (n + 1) (k + 1)
    have e2 := ch_succ n k
    rw [e1, Nat.mul_add, h2]
    have e3 : (k + 1 + 1) * ch (n + 1) (k + 1) = (k + 1) * ch (n + 1) (k + 1) + ch (n + 1) (k + 1) := by rw [Nat.add_mul (k + 1) 1]; omega
    rw [e3, h1]
    have e4 : (n + 1 + 1) * ch (n + 1) (k + 1) = (n + 1) * ch (n + 1) (k + 1) + ch (n + 1) (k + 1) := by rw [Nat.add_mul (n + 1) 1]; omega
    rw [e4, e2, Nat.mul_add]
    omega
def bsum (a n : Nat) : Nat → Nat
  | 0 => 0
  | m + 1 => bsum a n m + ch n m * a ^ m
theorem bsum_succ (a n m : Nat) : bsum a n (m + 1) = bsum a n m + ch n m * a ^ m := rfl
theorem bsum_step (a n : Nat) : ∀ m, bsum a (n + 1) (m + 1) = a * bsum a n m + bsum a n (m + 1)
  | 0 => by simp [bsum, ch_zero]
  | m + 1 => by
    rw [bsum_succ a (n + 1) (m + 1), bsum_step a n m, ch_succ, bsum_succ a n (m + 1), bsum_succ a n m, Nat.pow_succ]
    grind
theorem binom (a : Nat) : ∀ n, (a + 1) ^ n = bsum a n (n + 1)
  | 0 => by simp [bsum, ch_zero]
  | n + 1 => by
    rw [Nat.pow_succ, binom a n, bsum_step, bsum_succ a n (n + 1), ch_lt n (n + 1) (by omega)]
    grind
theorem ch_dvd {p : Nat} (hp : Prime p) (k : Nat) (h0 : 0 < k) (hk : k < p) : p ∣ ch p k := by
  obtain ⟨j, rfl⟩ : ∃ j, k = j + 1 := ⟨k - 1, by omega⟩
  obtain ⟨q, rfl⟩ : ∃ q, p = q + 1 := ⟨p - 1, by omega⟩
  have h := ch_mul q j
  have hd : (q + 1) ∣ (j + 1) * ch (q + 1) (j + 1) := ⟨ch q j, h⟩
  rcases hp.dvd_mul hd with h1 | h1
  · exact absurd (Nat.le_of_dvd (by omega) h1) (by omega)
  · exact h1
theorem bsum_mod {p : Nat} (hp : Prime p) (a : Nat) : ∀ m, m < p → bsum a p (m + 1) % p = 1 % p
  | 0, _ => by simp [bsum, ch_zero]
  | m + 1, h => by
    obtain ⟨c, hc⟩ := ch_dvd hp (m + 1) (by omega) h
    rw [bsum_succ, hc, Nat.mul_assoc, Nat.add_mul_mod_self_left, bsum_mod hp a m (by omega)]
theorem fermat_all {p : Nat} (hp : Prime p) : ∀ a, a ^ p % p = a % p
  | 0 => by rw [Nat.zero_pow (by have := hp.1; omega)]
  | a + 1 => by
    have ih := fermat_all hp a
    have h1 := hp.1
    obtain ⟨q, hq⟩ : ∃ q, p = q + 1 := ⟨p - 1, by omega⟩
    have h2 := bsum_mod hp a q (by omega)
    rw [binom, bsum_succ, ch_self, Nat.one_mul]
    have e : bsum a p p = bsum a p (q + 1) := by rw [← hq]
    rw [e, Nat.add_mod, h2, ih, ← Nat.add_mod, Nat.add_comm]
theorem fermat {p : Nat} (hp : Prime p) (a : Nat) (ha : ¬ p ∣ a) : a ^ (p - 1) % p = 1 := by
  have h1 := hp.1
  have h := fermat_all hp a
  have hpos : 1 ≤ a ^ (p - 1) := by
    have : 0 < a := by
      rcases Nat.eq_zero_or_pos a with h0 | h0
      · subst h0; exact absurd (Nat.dvd_zero p) ha
      · exact h0
    exact Nat.one_le_iff_ne_zero.2 (by have := Nat.pow_pos (n := p - 1) this; omega)
  have e : a ^ p = a * a ^ (p - 1) := by
    conv => lhs; rw [show p = (p - 1) + 1 by omega, Nat.pow_succ]
    exact Nat.mul_comm _ _
  have hd : p ∣ a * (a ^ (p - 1) - 1) := by
    rw [Nat.mul_sub, Nat.mul_one, ← e]
    exact Nat.dvd_of_mod_eq_zero (Nat.sub_mod_eq_zero_of_mod_eq h)
  rcases hp.dvd_mul hd with h2 | h2
  · exact absurd h2 ha
  · obtain ⟨c, hc⟩ := h2
    have : a ^ (p - 1) = 1 + p * c := by omega
    rw [this, Nat.add_mul_mod_self_left, Nat.mod_eq_of_lt h1]
end
section
set_option linter.unusedVariables false
set_option linter.unusedSimpArgs false
/-- A power's rest. -/
def pm (m : Nat) : Nat → Nat → Nat → Nat
  | 0, _, _ => 1 % m
  | f + 1, a, e => if e = 0 then 1 % m else (if e % 2 = 1 then a * pm m f (a * a % m) (e / 2) % m else pm m f (a * a % m) (e / 2))
theorem pm_eq (m : Nat) : ∀ f a e, e < 2 ^ f → pm m f a e = a ^ e % m
  | 0, a, e, h => by
    have : e = 0 := by simpa using h
    subst this; simp [pm]
  | f + 1, a, e, h => by
    have ih := pm_eq m f (a * a % m) (e / 2) (by rw [Nat.pow_succ] at h; omega)
    unfold pm
    split
    · subst_vars; simp
    · have e2 : (a * a % m) ^ (e / 2) % m = a ^ (2 * (e / 2)) % m := by rw [← Nat.pow_mod, Nat.pow_mul, Nat.pow_two]
      split
      · rename_i h0 h1
        rw [ih, e2, Nat.mul_mod_mod, ← Nat.pow_succ']
        congr 2; omega
      · rename_i h0 h1
        rw [ih, e2]
        congr 2; omega
theorem pow_gcd {r a : Nat} (h1 : 1 < r) : ∀ m n, a ^ m % r = 1 → a ^ n % r = 1 → a ^ Nat.gcd m n % r = 1 := by
  intro m n
  induction m, n using Nat.gcd.induction with
  | H0 n => intro _ h; rw [Nat.gcd_zero_left]; exact h
  | H1 m n hm ih =>
    intro hm1 hn1
    rw [Nat.gcd_rec]
    apply ih
    · have e : a ^ n = (a ^ m) ^ (n / m) * a ^ (n % m) := by rw [← Nat.pow_mul, ← Nat.pow_add, Nat.div_add_mod]
      have e2 : (a ^ m) ^ (n / m) % r = 1 := by rw [Nat.pow_mod, hm1, Nat.one_pow, Nat.mod_eq_of_lt h1]
      rw [e, Nat.mul_mod, e2, Nat.one_mul, Nat.mod_mod] at hn1
      exact hn1
    · exact hm1
/-- One step of Pocklington's test. -/
theorem pock {r N q M a : Nat} (hr : Prime r) (hrN : r ∣ N) (hq : Prime q) (hN : N = q * M + 1) (h1 : a ^ (q * M) % N = 1) (h2 : Nat.gcd (a ^ M % N + (N - 1)) N = 1) : q ∣ r - 1 := by
  refine Classical.byContradiction fun hnd => ?_
  have hr1 := hr.1
  obtain ⟨c, hc⟩ := hrN
  have h1r : a ^ (q * M) % r = 1 := by
    have : a ^ (q * M) % N % r = a ^ (q * M) % r := Nat.mod_mod_of_dvd _ ⟨c, hc⟩
    rw [← this, h1, Nat.mod_eq_of_lt hr1]
  have hra : ¬ r ∣ a := by
    intro hd
    have hqM : 0 < q * M := by
      rcases Nat.eq_zero_or_pos (q * M) with h0 | h0
      · rw [h0] at hN; subst hN; exact absurd (Nat.dvd_one.1 ⟨c, hc⟩) (by omega)
      · exact h0
    obtain ⟨k, hk⟩ : ∃ k, q * M = k + 1 := ⟨q * M - 1, by omega⟩
    rw [hk, Nat.pow_succ] at h1r
    have : a ^ k * a % r = 0 := Nat.mod_eq_zero_of_dvd (Nat.dvd_trans hd (Nat.dvd_mul_left a _))
    omega
  have hf := fermat hr a hra
  have hg := pow_gcd hr1 _ _ h1r hf
  have hcop : Nat.Coprime (Nat.gcd (q * M) (r - 1)) q :=
    (Nat.Coprime.coprime_dvd_right (Nat.gcd_dvd_right _ _) (hq.coprime hnd)).symm
  have hgM : Nat.gcd (q * M) (r - 1) ∣ M := hcop.dvd_of_dvd_mul_left (Nat.gcd_dvd_left _ _)
  obtain ⟨k, hk⟩ := hgM
  have hM : a ^ M % r = 1 := by
    rw [hk, Nat.pow_mul, Nat.pow_mod, hg, Nat.one_pow, Nat.mod_eq_of_lt hr1]
  have hz : (a ^ M % N + (N - 1)) % r = 0 := by
    have e : a ^ M % N % r = a ^ M % r := Nat.mod_mod_of_dvd _ ⟨c, hc⟩
    have hNr : (1 + (N - 1)) % r = 0 := by
      rw [show 1 + (N - 1) = N by omega, hc, Nat.mul_mod_right]
    rw [Nat.add_mod, e, hM]
    rw [Nat.add_mod, Nat.mod_eq_of_lt hr1] at hNr
    exact hNr
  have hd : r ∣ Nat.gcd (a ^ M % N + (N - 1)) N := Nat.dvd_gcd (Nat.dvd_of_mod_eq_zero hz) ⟨c, hc⟩
  rw [h2] at hd
  exact absurd (Nat.dvd_one.1 hd) (by omega)
/-- Each number beyond 1 has a prime that divides it. -/
theorem has_prime : ∀ n, 1 < n → ∃ r, Prime r ∧ r ∣ n := by
  intro n
  induction n using Nat.strongRecOn with
  | ind n ih =>
    intro hn
    by_cases hp : Prime n
    · exact ⟨n, hp, Nat.dvd_refl n⟩
    · have : ∃ d, d ∣ n ∧ d ≠ 1 ∧ d ≠ n := Classical.byContradiction fun h => hp ⟨hn, fun d hd => Classical.byContradiction fun h2 => h ⟨d, hd, fun e => h2 (Or.inl e), fun e => h2 (Or.inr e)⟩⟩
      obtain ⟨d, hd, h1, h2⟩ := this
      have hle := Nat.le_of_dvd (by omega) hd
      have h0 : d ≠ 0 := by rintro rfl; exact absurd (Nat.eq_zero_of_zero_dvd hd) (by omega)
      obtain ⟨r, hr, hrd⟩ := ih d (by omega) (by omega)
      exact ⟨r, hr, Nat.dvd_trans hrd hd⟩
/-- A number without a prime up to its root is prime. -/
theorem prime_of {n : Nat} (hn : 1 < n) (h : ∀ r, Prime r → r ∣ n → n < r * r) : Prime n := by
  refine ⟨hn, fun d hd => Classical.byContradiction fun hne => ?_⟩
  have h1 : d ≠ 1 := fun e => hne (Or.inl e)
  have h2 : d ≠ n := fun e => hne (Or.inr e)
  obtain ⟨c, hc⟩ := hd
  have hd0 : d ≠ 0 := by rintro rfl; omega
  have hc0 : c ≠ 0 := by rintro rfl; omega
  have hc1 : c ≠ 1 := by rintro rfl; omega
  obtain ⟨r, hr, hrd⟩ := has_prime d (by omega)
  obtain ⟨s, hs, hsc⟩ := has_prime c (by omega)
  have h3 := h r hr (Nat.dvd_trans hrd ⟨c, hc⟩)
  have h4 := h s hs (Nat.dvd_trans hsc ⟨d, by rw [hc, Nat.mul_comm]⟩)
  have h5 := Nat.le_of_dvd (by omega) hrd
  have h6 := Nat.le_of_dvd (by omega) hsc
  have h7 : r * s ≤ n := by rw [hc]; exact Nat.mul_le_mul h5 h6
  rcases Nat.le_total r s with h8 | h8
  · have : r * r ≤ r * s := Nat.mul_le_mul_left r h8
    omega
  · have : s * s ≤ r * s := Nat.mul_le_mul_right s h8
    omega
def noDiv (n : Nat) : Nat → Bool
  | 0 => true
  | k + 1 => n % (k + 2) != 0 && noDiv n k
theorem noDiv_of (n : Nat) : ∀ k, noDiv n k = true → ∀ d, 2 ≤ d → d < k + 2 → ¬ d ∣ n
  | 0, _, d, h1, h2 => absurd h1 (by omega)
  | k + 1, h, d, h1, h2 => by
    simp only [noDiv, Bool.and_eq_true, bne_iff_ne] at h
    intro hd
    by_cases he : d = k + 2
    · subst he; exact h.1 (Nat.mod_eq_zero_of_dvd hd)
    · exact noDiv_of n k h.2 d h1 (by omega) hd
theorem prime_small {n k : Nat} (hn : 1 < n) (h : noDiv n k = true) (hk : n < (k + 2) * (k + 2)) : Prime n :=
  prime_of hn fun r hr hd => by
    have h1 := hr.1
    have h2 : ¬ r < k + 2 := fun hlt => noDiv_of n k h r (by omega) hlt hd
    have : (k + 2) * (k + 2) ≤ r * r := Nat.mul_le_mul (by omega) (by omega)
    omega
theorem prime_two {N q1 q2 : Nat} (hN : 1 < N) (h : ∀ r, Prime r → r ∣ N → q1 ∣ r - 1 ∧ q2 ∣ r - 1) (hc : Nat.Coprime q1 q2) (hlt : N < (q1 * q2) * (q1 * q2)) : Prime N :=
  prime_of hN fun r hr hd => by
    obtain ⟨h1, h2⟩ := h r hr hd
    have h3 := Nat.le_of_dvd (by have := hr.1; omega) (Nat.Coprime.mul_dvd_of_dvd_of_dvd hc h1 h2)
    have : (q1 * q2) * (q1 * q2) ≤ r * r := Nat.mul_le_mul (by omega) (by omega)
    omega
end
section
set_option linter.unusedVariables false
set_option linter.unusedSimpArgs false
set_option maxRecDepth 100000
theorem pock2 {r N q M a f : Nat} (hr : Prime r) (hrN : r ∣ N) (hq : Prime q) (hN : N = q * M + 1) (hf : q * M < 2 ^ f) (hf2 : M < 2 ^ f) (h1 : pm N f a (q * M) = 1) (h2 : Nat.gcd (pm N f a M + (N - 1)) N = 1) : q ∣ r - 1 := by
  rw [pm_eq N f a _ hf] at h1
  rw [pm_eq N f a _ hf2] at h2
  exact pock hr hrN hq hN h1 h2
theorem prime_3 : Prime 3 := prime_small (k := 1) (by decide) (by decide +kernel) (by decide)
theorem prime_47 : Prime 47 := prime_small (k := 6) (by decide) (by decide +kernel) (by decide)
theorem prime_353 : Prime 353 := prime_small (k := 18) (by decide) (by decide +kernel) (by decide)
theorem prime_75707 : Prime 75707 := prime_small (k := 275) (by decide) (by decide +kernel) (by decide)
theorem prime_8574133 : Prime 8574133 := prime_small (k := 2928) (by decide) (by decide +kernel) (by decide)
theorem prime_s1 : Prime 1919519569386763 :=
  prime_two (q1 := 8574133) (q2 := 47) (by decide) (fun r hr hd => ⟨pock2 (q := 8574133) (M := 223873314) (a := 2) (f := 51) hr hd prime_8574133 (by decide) (by decide) (by decide) (by decide +kernel) (by decide +kernel),
    pock2 (q := 47) (M := 40840841901846) (a := 2) (f := 51) hr hd prime_47 (by decide) (by decide) (by decide) (by decide +kernel) (by decide +kernel)⟩) (by decide +kernel) (by decide)
theorem prime_r1 : Prime 75445702479781427272750846543864801 :=
  prime_two (q1 := 1919519569386763) (q2 := 75707) (by decide) (fun r hr hd => ⟨pock2 (q := 1919519569386763) (M := 39304471641247389600) (a := 2) (f := 116) hr hd prime_s1 (by decide) (by decide) (by decide) (by decide +kernel) (by decide +kernel),
    pock2 (q := 75707) (M := 996548568557483816196003626400) (a := 2) (f := 116) hr hd prime_75707 (by decide) (by decide) (by decide) (by decide +kernel) (by decide +kernel)⟩) (by decide +kernel) (by decide)
theorem prime_q0 : Prime 74058212732561358302231226437062788676166966415465897661863160754340907 :=
  prime_two (q1 := 75445702479781427272750846543864801) (q2 := 353) (by decide) (fun r hr hd => ⟨pock2 (q := 75445702479781427272750846543864801) (M := 981609426360740691344999861639072106) (a := 2) (f := 236) hr hd prime_r1 (by decide) (by decide) (by decide) (by decide +kernel) (by decide +kernel),
    pock2 (q := 353) (M := 209796636636151156663544550813209033076960244803019540118592523383402) (a := 2) (f := 236) hr hd prime_353 (by decide) (by decide) (by decide) (by decide +kernel) (by decide +kernel)⟩) (by decide +kernel) (by decide)
theorem prime_p : Prime 57896044618658097711785492504343953926634992332820282019728792003956564819949 :=
  prime_two (q1 := 74058212732561358302231226437062788676166966415465897661863160754340907) (q2 := 3) (by decide) (fun r hr hd => ⟨pock2 (q := 74058212732561358302231226437062788676166966415465897661863160754340907) (M := 781764) (a := 2) (f := 255) hr hd prime_q0 (by decide) (by decide) (by decide) (by decide +kernel) (by decide +kernel),
    pock2 (q := 3) (M := 19298681539552699237261830834781317975544997444273427339909597334652188273316) (a := 2) (f := 255) hr hd prime_3 (by decide) (by decide) (by decide) (by decide +kernel) (by decide +kernel)⟩) (by decide +kernel) (by decide)
#print axioms prime_p
end
section
set_option linter.unusedVariables false
set_option linter.unusedSimpArgs false
open Go.RowKit
def PN : Nat := 57896044618658097711785492504343953926634992332820282019728792003956564819949
theorem PN_PP : (PN : Int) = PP := by decide
theorem PN_prime : Prime PN := prime_p
theorem pow_mod_int (n : Int) : ∀ k : Nat, n ^ k % PP = (n % PP) ^ k % PP
  | 0 => by simp
  | k + 1 => by
    rw [Int.pow_succ, Int.pow_succ]
    exact mod_mul (pow_mod_int n k) (by rw [Int.emod_emod_of_dvd _ (Int.dvd_refl _)])
theorem pow_same {a b : Int} (h : a % PP = b % PP) (k : Nat) : a ^ k % PP = b ^ k % PP := by rw [pow_mod_int a, pow_mod_int b, h]
theorem pow_cast (n : Int) (k : Nat) : n ^ k % PP = (((n % PP).toNat ^ k % PN : Nat) : Int) := by
  have h := modP_b n
  rw [pow_mod_int n k, Int.natCast_emod, Int.natCast_pow, Int.toNat_of_nonneg h.1, PN_PP]
theorem toNat_lt (n : Int) : (n % PP).toNat < PN := by
  have h := modP_b n
  unfold PN; omega
theorem not_dvd_of (n : Int) (h : n % PP ≠ 0) : ¬ PN ∣ (n % PP).toNat := by
  intro hd
  have h1 := modP_b n
  have h2 := toNat_lt n
  have := Nat.eq_zero_of_dvd_of_lt hd h2
  omega
theorem ferm1 (n : Int) (h : n % PP ≠ 0) : n ^ (PN - 1) % PP = 1 := by
  rw [pow_cast, fermat PN_prime _ (not_dvd_of n h)]; rfl
theorem ferm0 (n : Int) : n ^ PN % PP = n % PP := by
  have h := modP_b n
  rw [pow_cast, fermat_all PN_prime, Nat.mod_eq_of_lt (toNat_lt n), Int.toNat_of_nonneg h.1]
theorem zero_pow (n : Int) (h : n % PP = 0) (k : Nat) (hk : 0 < k) : n ^ k % PP = 0 := by
  rw [pow_mod_int, h, Int.zero_pow (by omega)]; rfl
/-- No two numbers but nought's make nought. -/
theorem mul_zero_mod {a b : Int} (h : a * b % PP = 0) : a % PP = 0 ∨ b % PP = 0 := by
  have h1 := modP_b a
  have h2 := modP_b b
  have hd : PN ∣ (a % PP).toNat * (b % PP).toNat := by
    apply Nat.dvd_of_mod_eq_zero
    have e : (((a % PP).toNat * (b % PP).toNat % PN : Nat) : Int) = a * b % PP := by
      rw [Int.natCast_emod, Int.natCast_mul, Int.toNat_of_nonneg h1.1, Int.toNat_of_nonneg h2.1, PN_PP, ← Int.mul_emod]
    rw [h] at e; omega
  rcases PN_prime.dvd_mul hd with h3 | h3
  · left
    have := Nat.eq_zero_of_dvd_of_lt h3 (toNat_lt a); omega
  · right
    have := Nat.eq_zero_of_dvd_of_lt h3 (toNat_lt b); omega
/-- The law's prime in bytes, less what k takes from the first. -/
def pB (b0 : Int) (j : Nat) : Int := if j = 0 then b0 else if j < 31 then 255 else 127
theorem pB_By (b0 : Int) (h : 0 ≤ b0 ∧ b0 < 256) : By (pB b0) := fun j hj => by
  unfold pB; repeat' split
  all_goals omega
theorem exp_p : expN (pB 237) 256 = PN := by decide +kernel
theorem exp_p1 : expN (pB 236) 256 = PN - 1 := by decide +kernel
theorem exp_0 : expN (fun _ => 0) 256 = 0 := by decide +kernel
theorem exp_inv : expN (exB 255 21) 256 = PN - 2 := by decide +kernel
theorem exp_root : expN (exB 252 2) 256 = (PN + 3) / 8 := by decide +kernel
theorem exp_i : expN (exB 253 5) 256 = (PN - 1) / 4 := by decide +kernel
end
end Go.Proofs.Ythonoagpiofojaa.P
