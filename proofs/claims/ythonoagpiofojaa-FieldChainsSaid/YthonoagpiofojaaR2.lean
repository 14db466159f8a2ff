/- The law's words over numbers, once more. -/
import Derived.Test.YthonoagpiofojaaU4
import Derived.Test.YthonoagpiofojaaU5
namespace Go.Proofs.Ythonoagpiofojaa.P
set_option linter.unusedVariables false
set_option linter.unusedSimpArgs false
open Go.RowKit
theorem is_true_of2 {f g : Nat → Int} {n m : Int} (hf : Fe f n) (hg : Re g m) (h : n % PP = m % PP) (w : World) : Calls Try.prog 14 #[.agg (FR .u64 5 f), .agg (FR .i64 16 g)] w fun e w' => e = .returned (.bool true) ∧ Below w.heap.size w w' :=
  law_is_true f g hf.1 hg.1.cb (by rw [hf.2, hg.2, h]) w
theorem is_bool2 {f g : Nat → Int} {n m : Int} (hf : Fe f n) (hg : Fe g m) (r : Bool) (h : decide (n % PP = m % PP) = r) (w : World) : Calls Try.prog 17 #[.agg (FR .u64 5 f), .agg (FR .u64 5 g)] w fun e w' => e = .returned (.bool r) ∧ Below w.heap.size w w' :=
  elem_is_bool f g hf.1 hg.1 r (by rw [hf.2, hg.2]; exact h) w
theorem is_same {f g : Nat → Int} {n m : Int} (hf : Fe f n) (hg : Fe g m) (h : n % PP = m % PP) (w : World) : Calls Try.prog 17 #[.agg (FR .u64 5 f), .agg (FR .u64 5 g)] w fun e w' => e = .returned (.bool true) ∧ Below w.heap.size w w' :=
  is_bool2 hf hg true (decide_eq_true h) w
theorem Fe.zero : Fe (fun _ => 0) 0 := ⟨⟨fun i _ => by show 0 ≤ (0 : Int) ∧ (0 : Int) < _; omega, by show 0 ≤ (0 : Int) ∧ (0 : Int) < _; omega⟩, by decide⟩
theorem By_zero : By (fun _ => 0) := fun j _ => by show 0 ≤ (0 : Int) ∧ (0 : Int) < 256; omega
theorem Fe.inv {f : Nat → Int} {n : Int} (hf : Fe f n) : Fe (invE f) (n ^ (PN - 2)) := by
  have h := Fe.pow hf (exB 255 21) 256
  rw [exp_inv] at h
  exact h
theorem inv_mul (n : Int) : decide (n * n ^ (PN - 2) % PP = 1 % PP) = !decide (n % PP = 0) := by
  have e : n * n ^ (PN - 2) = n ^ (PN - 1) := by
    rw [Int.mul_comm, ← Int.pow_succ]
    rfl
  rw [e]
  by_cases h : n % PP = 0
  · rw [zero_pow _ h _ (by decide)]; simp [h]; decide
  · rw [ferm1 _ h]; simp [h]; decide
theorem inv_zero : (0 : Int) ^ (PN - 2) % PP = 0 % PP := by
  rw [zero_pow 0 (by decide) _ (by decide)]; rfl
end Go.Proofs.Ythonoagpiofojaa.P
