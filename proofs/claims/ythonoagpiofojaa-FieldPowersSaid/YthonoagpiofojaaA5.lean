/- Of, num, Small in plain: which numbers they answer. -/
import Derived.Test.YthonoagpiofojaaF6
import Derived.Test.YthonoagpiofojaaP2
namespace Go.Proofs.Ythonoagpiofojaa.P
set_option linter.unusedVariables false
set_option linter.unusedSimpArgs false
open Go.RowKit
theorem val_split (B : Int) (f : Nat → Int) (a : Nat) : ∀ n, val B f (a + n) = val B f a + B ^ a * val B (fun j => f (a + j)) n
  | 0 => by simp [val]
  | n + 1 => by
    have ih := val_split B f a n
    show val B f (a + n) + f (a + n) * B ^ (a + n) = val B f a + B ^ a * (val B (fun j => f (a + j)) n + f (a + n) * B ^ n)
    rw [ih, Int.pow_add]; grind
theorem val_nonneg (B : Int) (hB : 0 < B) (f : Nat → Int) : ∀ n, (∀ i, i < n → 0 ≤ f i) → 0 ≤ val B f n
  | 0, _ => by simp [val]
  | n + 1, h => by
    have h1 := val_nonneg B hB f n (fun i hi => h i (by omega))
    have h2 : 0 ≤ f n * B ^ n := Int.mul_nonneg (h n (by omega)) (Int.le_of_lt (pow_pos' B hB n))
    rw [val]; omega
theorem L8_val (b : Nat → Int) (k : Nat) : L8 b k = val 256 (fun j => b (k + j)) 8 := by
  simp only [L8, ldZ, val, Nat.reduceSub]
  omega
/-- The limbs that Of hands to carried. -/
def ofL (b : Nat → Int) : Nat → Int
  | 0 => L8 b 0 % 2251799813685248 + 19 * (b 31 / 128)
  | 1 => L8 b 6 / 8 % 2251799813685248
  | 2 => L8 b 12 / 64 % 2251799813685248
  | 3 => L8 b 19 / 2 % 2251799813685248
  | _ => L8 b 24 / 4096 % 2251799813685248
/-- Numbers that are bytes. -/
def By (b : Nat → Int) : Prop := ∀ j, j < 32 → 0 ≤ b j ∧ b j < 256
theorem Of_elem_calls (b : Nat → Int) (w : World) (hb : By b) :
    Calls Try.prog 13 #[.agg (FR .u8 32 b)] w fun e w' => e = .returned (.agg (FR .u64 5 (carr (ofL b)))) ∧ Below w.heap.size w w' := of_calls b w hb
def N32 (b : Nat → Int) : Int := val 256 b 32
theorem N32_b (b : Nat → Int) (hb : By b) : 0 ≤ N32 b ∧ N32 b < 115792089237316195423570985008687907853269984665640564039457584007913129639936 := by
  have h := val_b 256 (by omega) b 32 hb
  have e : (256 : Int) ^ 32 = 115792089237316195423570985008687907853269984665640564039457584007913129639936 := by decide
  rw [e] at h; exact h
theorem N32_parts (b : Nat → Int) (hb : By b) (k : Nat) (hk : k + 8 ≤ 32) : ∃ A R, 0 ≤ A ∧ A < 256 ^ k ∧ 0 ≤ R ∧ (0 ≤ L8 b k ∧ L8 b k < 18446744073709551616) ∧ N32 b = A + 256 ^ k * (L8 b k + 18446744073709551616 * R) := by
  have h1 := val_b 256 (by omega) b k (fun i hi => hb i (by omega))
  refine ⟨val 256 b k, val 256 (fun j => b (k + (8 + j))) (24 - k), h1.1, h1.2, val_nonneg 256 (by omega) _ _ (fun i hi => (hb _ (by omega)).1), L8_b b hb k hk, ?_⟩
  have e1 := val_split 256 b k (32 - k)
  have e2 := val_split 256 (fun j => b (k + j)) 8 (24 - k)
  rw [show k + (32 - k) = 32 by omega] at e1
  rw [show 8 + (24 - k) = 32 - k by omega] at e2
  unfold N32
  rw [e1, e2, L8_val]
  rfl
theorem ofL_dig (b : Nat → Int) (hb : By b) : (∀ i, i < 5 → (if i = 0 then ofL b 0 - 19 * (b 31 / 128) else ofL b i) = dig 2251799813685248 (N32 b) i) := by
  intro i hi
  have hc : i = 0 ∨ i = 1 ∨ i = 2 ∨ i = 3 ∨ i = 4 := by omega
  rcases hc with rfl | rfl | rfl | rfl | rfl
  · obtain ⟨A, R, h1, h2, h3, h4, e⟩ := N32_parts b hb 0 (by omega)
    rw [if_pos rfl]
    show L8 b 0 % 2251799813685248 + 19 * (b 31 / 128) - 19 * (b 31 / 128) = N32 b / 1 % 2251799813685248
    simp only [Int.pow_zero] at h2 e
    omega
  · obtain ⟨A, R, h1, h2, h3, h4, e⟩ := N32_parts b hb 6 (by omega)
    rw [if_neg (by omega)]
    show L8 b 6 / 8 % 2251799813685248 = N32 b / 2251799813685248 ^ 1 % 2251799813685248
    rw [show (256 : Int) ^ 6 = 281474976710656 by decide] at h2 e
    rw [show (2251799813685248 : Int) ^ 1 = 2251799813685248 by decide]
    omega
  · obtain ⟨A, R, h1, h2, h3, h4, e⟩ := N32_parts b hb 12 (by omega)
    rw [if_neg (by omega)]
    show L8 b 12 / 64 % 2251799813685248 = N32 b / 2251799813685248 ^ 2 % 2251799813685248
    rw [show (256 : Int) ^ 12 = 79228162514264337593543950336 by decide] at h2 e
    rw [show (2251799813685248 : Int) ^ 2 = 5070602400912917605986812821504 by decide]
    omega
  · obtain ⟨A, R, h1, h2, h3, h4, e⟩ := N32_parts b hb 19 (by omega)
    rw [if_neg (by omega)]
    show L8 b 19 / 2 % 2251799813685248 = N32 b / 2251799813685248 ^ 3 % 2251799813685248
    rw [show (256 : Int) ^ 19 = 5708990770823839524233143877797980545530986496 by decide] at h2 e
    rw [show (2251799813685248 : Int) ^ 3 = 11417981541647679048466287755595961091061972992 by decide]
    omega
  · obtain ⟨A, R, h1, h2, h3, h4, e⟩ := N32_parts b hb 24 (by omega)
    rw [if_neg (by omega)]
    show L8 b 24 / 4096 % 2251799813685248 = N32 b / 2251799813685248 ^ 4 % 2251799813685248
    rw [show (256 : Int) ^ 24 = 6277101735386680763835789423207666416102355444464034512896 by decide] at h2 e
    rw [show (2251799813685248 : Int) ^ 4 = 25711008708143844408671393477458601640355247900524685364822016 by decide]
    omega
theorem ofL_b (b : Nat → Int) (hb : By b) : ∀ i, i < 5 → 0 ≤ ofL b i ∧ ofL b i ≤ 9223372036854775808 := by
  intro i hi
  have h := ofL_dig b hb i hi
  have hd := dig_b 2251799813685248 (by omega) (N32 b) i
  have h31 := hb 31 (by omega)
  split at h
  · rename_i h0; subst h0; omega
  · omega
theorem ofL_V (b : Nat → Int) (hb : By b) : V51 (ofL b) = N32 b - PP * (b 31 / 128) := by
  have h := ofL_dig b hb
  have e1 := val_congr 2251799813685248 _ _ 5 h
  rw [val_dig 2251799813685248 (by omega)] at e1
  have e2 : val 2251799813685248 (fun i => if i = 0 then ofL b 0 - 19 * (b 31 / 128) else ofL b i) 5 = V51 (ofL b) - 19 * (b 31 / 128) := by
    simp [val, V51]; omega
  rw [e2, show (2251799813685248 : Int) ^ 5 = 57896044618658097711785492504343953926634992332820282019728792003956564819968 by decide] at e1
  have hA := val_b 256 (by omega) b 31 (fun i hi => hb i (by omega))
  have hN : N32 b = val 256 b 31 + b 31 * 256 ^ 31 := rfl
  have h31 := hb 31 (by omega)
  rw [show (256 : Int) ^ 31 = 452312848583266388373324160190187140051835877600158453279131187530910662656 by decide] at hA hN
  unfold PP
  generalize V51 (ofL b) = x at *
  generalize val 256 b 31 = y at *
  generalize b 31 = z at *
  omega
theorem of_mod (b : Nat → Int) (hb : By b) : V51 (carr (ofL b)) % PP = N32 b % PP := by
  rw [carr_mod, ofL_V b hb, Int.sub_mul_emod_self_left]
theorem of_Lm (b : Nat → Int) (hb : By b) : Lm (carr (ofL b)) := carr_Lm _ (ofL_b b hb)
/-- The digits that num answers. -/
def numD (b : Nat → Int) (i : Nat) : Int := b (2 * i) + 256 * b (2 * i + 1)
theorem numD_val (b : Nat → Int) : ∀ n, val 65536 (numD b) n = val 256 b (2 * n)
  | 0 => rfl
  | n + 1 => by
    have e : (256 : Int) ^ (2 * n) = 65536 ^ n := by rw [Int.pow_mul]; rfl
    show val 65536 (numD b) n + (b (2 * n) + 256 * b (2 * n + 1)) * 65536 ^ n = val 256 b (2 * n) + b (2 * n) * 256 ^ (2 * n) + b (2 * n + 1) * 256 ^ (2 * n + 1)
    rw [numD_val b n, Int.pow_succ, e]; grind
theorem numD_V (b : Nat → Int) : V16 (numD b) = N32 b := numD_val b 16
theorem numD_D (b : Nat → Int) (hb : By b) : D16 (numD b) := fun j hj => by
  have h1 := hb (2 * j) (by omega)
  have h2 := hb (2 * j + 1) (by omega)
  unfold numD; omega
theorem D16.cb {f : Nat → Int} (h : D16 f) : CB f := fun j hj => by have := h j hj; omega
theorem D16.cb0 {f : Nat → Int} (h : D16 f) : CB0 f := fun j hj => by have := h j hj; omega
theorem Lm.c {f : Nat → Int} (h : Lm f) : ∀ i, i < 5 → 0 ≤ f i ∧ f i ≤ 9223372036854775808 := fun i hi => by have := h.b i hi; omega
/-- The limbs of a small number. -/
def smL (n : Int) (i : Nat) : Int := if i = 0 then n else 0
theorem small_elem_calls (n : Int) (w : World) (h : 0 ≤ n ∧ n < 4294967296) : Calls Try.prog 11 #[.int .u32 n] w fun e w' => e = .returned (.agg (FR .u64 5 (smL n))) ∧ Below w.heap.size w w' := small_calls n w h.1 h.2
theorem smL_V (n : Int) : V51 (smL n) = n := by simp [V51, smL]
theorem smL_Lm (n : Int) (h : 0 ≤ n ∧ n < 4294967296) : Lm (smL n) := by
  refine ⟨fun i hi => ?_, ?_⟩
  · unfold smL; split <;> omega
  · unfold smL; rw [if_neg (by omega)]; omega
theorem small_ref (n : Int) (h : 0 ≤ n ∧ n < 4294967296) : CB (carryN (fun i => if i = 0 then n else 0) 16) ∧ V16 (carryN (fun i => if i = 0 then n else 0) 16) % PP = n % PP := by
  refine ⟨(carry_CB1 _ (fun j hj => by split <;> omega)).cb, ?_⟩
  rw [V16_carry_mod]
  congr 1
  simp [V16, val]
theorem num_calls' (b : Nat → Int) (w : World) (hb : By b) : Calls Try.prog 15 #[.agg (FR .u8 32 b)] w fun e w' => e = .returned (.agg (FR .i64 16 (numD b))) ∧ Below w.heap.size w w' := num_calls b w hb
theorem dig_By (N : Int) : By (dig 256 N) := fun j _ => dig_b 256 (by omega) N j
theorem N32_dig (N : Int) (h : 0 ≤ N ∧ N < 256 ^ 32) : N32 (dig 256 N) = N := by
  unfold N32; rw [val_dig 256 (by omega), Int.emod_eq_of_lt h.1 h.2]
end Go.Proofs.Ythonoagpiofojaa.P
