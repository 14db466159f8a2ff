/- Sums and differences in plain; numbers that limbs and digits stand for. -/
import Derived.Test.YthonoagpiofojaaA5
namespace Go.Proofs.Ythonoagpiofojaa.P
set_option linter.unusedVariables false
set_option linter.unusedSimpArgs false
open Go.RowKit
/-- Limbs that stand for the number n's rest. -/
def Fe (f : Nat → Int) (n : Int) : Prop := Lm f ∧ V51 f % PP = n % PP
/-- Digits as the document keeps them. -/
def Rn (g : Nat → Int) : Prop := (∀ j, j < 16 → j ≠ 0 → 0 ≤ g j ∧ g j < 65536) ∧ (-100000 ≤ g 0 ∧ g 0 ≤ 200000)
/-- Digits that stand for the number n's rest. -/
def Re (g : Nat → Int) (n : Int) : Prop := Rn g ∧ V16 g % PP = n % PP
theorem mod_add {a b n m : Int} (h1 : a % PP = n % PP) (h2 : b % PP = m % PP) : (a + b) % PP = (n + m) % PP := by rw [Int.add_emod, h1, h2, ← Int.add_emod]
theorem mod_sub {a b n m : Int} (h1 : a % PP = n % PP) (h2 : b % PP = m % PP) : (a - b) % PP = (n - m) % PP := by rw [Int.sub_emod, h1, h2, ← Int.sub_emod]
theorem mod_mul {a b n m : Int} (h1 : a % PP = n % PP) (h2 : b % PP = m % PP) : (a * b) % PP = (n * m) % PP := by rw [Int.mul_emod, h1, h2, ← Int.mul_emod]
theorem Rn.b {g : Nat → Int} (h : Rn g) (j : Nat) (hj : j < 16) : -100000 ≤ g j ∧ g j ≤ 200000 := by
  by_cases h0 : j = 0
  · subst h0; exact h.2
  · have := h.1 j hj h0; omega
theorem Rn.cb {g : Nat → Int} (h : Rn g) : CB g := fun j hj => by have := h.b j hj; omega
theorem Rn.cb0 {g : Nat → Int} (h : Rn g) : CB0 g := fun j hj => by have := h.b j hj; omega
theorem D16.rn {g : Nat → Int} (h : D16 g) : Rn g := ⟨fun j hj _ => h j hj, by have := h 0 (by omega); omega⟩
theorem V16_small (f : Nat → Int) (hf : ∀ j, j < 16 → -400000 ≤ f j ∧ f j ≤ 400000) : -10 * QQ ≤ V16 f ∧ V16 f ≤ 10 * QQ := by
  rw [V16_eq]
  have h0 := hf 0 (by omega); have h1 := hf 1 (by omega); have h2 := hf 2 (by omega); have h3 := hf 3 (by omega)
  have h4 := hf 4 (by omega); have h5 := hf 5 (by omega); have h6 := hf 6 (by omega); have h7 := hf 7 (by omega)
  have h8 := hf 8 (by omega); have h9 := hf 9 (by omega); have h10 := hf 10 (by omega); have h11 := hf 11 (by omega)
  have h12 := hf 12 (by omega); have h13 := hf 13 (by omega); have h14 := hf 14 (by omega); have h15 := hf 15 (by omega)
  unfold QQ
  omega
theorem carry_Rn (f : Nat → Int) (hV : -10 * QQ ≤ V16 f ∧ V16 f ≤ 10 * QQ) : Rn (carryN f 16) := by
  refine ⟨carry_digits f, ?_⟩
  rw [carry_zero]
  generalize V16 f = x at *
  unfold QQ at *
  omega
def addR (f g : Nat → Int) : Nat → Int := carryN (fun i => f i + g i) 16
def subR (f g : Nat → Int) : Nat → Int := carryN (fun i => f i - g i) 16
theorem addR_c (f g : Nat → Int) (w : World) (hf : Rn f) (hg : Rn g) : Calls Try.prog 21 #[.agg (FR .i64 16 f), .agg (FR .i64 16 g)] w fun e w' => e = .returned (.agg (FR .i64 16 (addR f g))) ∧ Below w.heap.size w w' := addR_calls f g w hf.cb0 hg.cb0
theorem subR_c (f g : Nat → Int) (w : World) (hf : Rn f) (hg : Rn g) : Calls Try.prog 23 #[.agg (FR .i64 16 f), .agg (FR .i64 16 g)] w fun e w' => e = .returned (.agg (FR .i64 16 (subR f g))) ∧ Below w.heap.size w w' := subR_calls f g w hf.cb0 hg.cb0
theorem Re.add {f g : Nat → Int} {n m : Int} (hf : Re f n) (hg : Re g m) : Re (addR f g) (n + m) := by
  refine ⟨carry_Rn _ (V16_small _ (fun j hj => by have := hf.1.b j hj; have := hg.1.b j hj; omega)), ?_⟩
  unfold addR
  rw [V16_carry_mod]
  have e : V16 (fun i => f i + g i) = V16 f + V16 g := val_add 65536 f g 16
  rw [e]; exact mod_add hf.2 hg.2
theorem Re.sub {f g : Nat → Int} {n m : Int} (hf : Re f n) (hg : Re g m) : Re (subR f g) (n - m) := by
  refine ⟨carry_Rn _ (V16_small _ (fun j hj => by have := hf.1.b j hj; have := hg.1.b j hj; omega)), ?_⟩
  unfold subR
  rw [V16_carry_mod]
  have e : V16 (fun i => f i - g i) = V16 f - V16 g := val_sub 65536 f g 16
  rw [e]; exact mod_sub hf.2 hg.2
theorem Re.num (b : Nat → Int) (hb : By b) : Re (numD b) (N32 b) := ⟨(numD_D b hb).rn, by rw [numD_V]⟩
theorem Re.zero : Re (fun _ => 0) 0 := ⟨⟨fun j _ _ => by show 0 ≤ (0 : Int) ∧ (0 : Int) < 65536; omega, by show -100000 ≤ (0 : Int) ∧ (0 : Int) ≤ 200000; omega⟩, by decide⟩
theorem Re.small (n : Int) (h : 0 ≤ n ∧ n < 4294967296) : Re (carryN (fun i => if i = 0 then n else 0) 16) n := by
  have e : V16 (fun i => if i = 0 then n else 0) = n := by simp [V16, val]
  refine ⟨carry_Rn _ (by rw [e]; unfold QQ; omega), (small_ref n h).2⟩
def addE (f g : Nat → Int) : Nat → Int := carr (fun i => f i + g i)
def subM : Nat → Int
  | 0 => 9007199254740916
  | _ => 9007199254740988
def subE (f g : Nat → Int) : Nat → Int := carr (fun i => f i + (subM i - g i))
def negE (g : Nat → Int) : Nat → Int := carr (fun i => 0 + (subM i - g i))
theorem five_of {f : Nat → Int} (h : Lm f) : ∀ x ∈ [f 0, f 1, f 2, f 3, f 4], 0 ≤ x ∧ x < 4503599627370496 := by
  have h0 := h.b 0 (by omega); have h1 := h.b 1 (by omega); have h2 := h.b 2 (by omega); have h3 := h.b 3 (by omega); have h4 := h.b 4 (by omega)
  intro x hx
  simp only [List.mem_cons, List.not_mem_nil, or_false] at hx
  rcases hx with rfl | rfl | rfl | rfl | rfl <;> assumption
theorem addE_c (f g : Nat → Int) (w : World) (hf : Lm f) (hg : Lm g) : Calls Try.prog 20 #[.agg (FR .u64 5 f), .agg (FR .u64 5 g)] w fun e w' => e = .returned (.agg (FR .u64 5 (addE f g))) ∧ Below w.heap.size w w' := add_calls _ _ _ _ _ _ _ _ _ _ w (five_of hf) (five_of hg)
theorem subE_c (f g : Nat → Int) (w : World) (hf : Lm f) (hg : Lm g) : Calls Try.prog 22 #[.agg (FR .u64 5 f), .agg (FR .u64 5 g)] w fun e w' => e = .returned (.agg (FR .u64 5 (subE f g))) ∧ Below w.heap.size w w' := sub_calls _ _ _ _ _ _ _ _ _ _ w (five_of hf) (five_of hg)
theorem negE_c (g : Nat → Int) (w : World) (hg : Lm g) : Calls Try.prog 24 #[.agg (FR .u64 5 g)] w fun e w' => e = .returned (.agg (FR .u64 5 (negE g))) ∧ Below w.heap.size w w' := neg_calls _ _ _ _ _ w (five_of hg)
theorem Fe.add {f g : Nat → Int} {n m : Int} (hf : Fe f n) (hg : Fe g m) : Fe (addE f g) (n + m) := by
  refine ⟨carr_Lm _ (fun i hi => by have := hf.1.b i hi; have := hg.1.b i hi; omega), ?_⟩
  unfold addE
  rw [carr_mod]
  have e : V51 (fun i => f i + g i) = V51 f + V51 g := by unfold V51; dsimp only; omega
  rw [e]; exact mod_add hf.2 hg.2
theorem subM_V (f g : Nat → Int) : V51 (fun i => f i + (subM i - g i)) = V51 f - V51 g + PP * 4 := by
  unfold V51 PP
  simp only [subM]
  omega
theorem Fe.sub {f g : Nat → Int} {n m : Int} (hf : Fe f n) (hg : Fe g m) : Fe (subE f g) (n - m) := by
  refine ⟨carr_Lm _ (fun i hi => by have := hf.1.b i hi; have := hg.1.b i hi; unfold subM; split <;> omega), ?_⟩
  unfold subE
  rw [carr_mod, subM_V, Int.add_mul_emod_self_left]
  exact mod_sub hf.2 hg.2
theorem Fe.neg {g : Nat → Int} {m : Int} (hg : Fe g m) : Fe (negE g) (0 - m) := by
  refine ⟨carr_Lm _ (fun i hi => by have := hg.1.b i hi; unfold subM; split <;> omega), ?_⟩
  unfold negE
  rw [carr_mod, subM_V (fun _ => 0) g, Int.add_mul_emod_self_left]
  exact mod_sub (by decide) hg.2
theorem Fe.of (b : Nat → Int) (hb : By b) : Fe (carr (ofL b)) (N32 b) := ⟨of_Lm b hb, of_mod b hb⟩
theorem Fe.small (n : Int) (h : 0 ≤ n ∧ n < 4294967296) : Fe (smL n) n := ⟨smL_Lm n h, by rw [smL_V]⟩
end Go.Proofs.Ythonoagpiofojaa.P
