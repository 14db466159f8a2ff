/- field.load by its walk. -/
import Derived.Test.YthonoagpiofojaaF4
namespace Go.Proofs.Ythonoagpiofojaa.P
set_option linter.unusedVariables false
set_option linter.unusedSimpArgs false
open Go.RowKit
attribute [local go_sem] setCell_drewN
/-- Behind the bytes 7, 6 .. i: their number. -/
def ldZ (b : Nat → Int) : Nat → Int
  | 0 => 0
  | k + 1 => ldZ b k * 256 + b (7 - k)
theorem ldZ_b (b : Nat → Int) (hb : ∀ j, j < 8 → 0 ≤ b j ∧ b j < 256) : ∀ k : Nat, k ≤ 8 → 0 ≤ ldZ b k ∧ ldZ b k < 256 ^ k
  | 0, _ => ⟨by simp [ldZ], by simp [ldZ]⟩
  | k + 1, h => by
    have h1 := ldZ_b b hb k (by omega)
    have h2 := hb (7 - k) (by omega)
    have e : ldZ b (k + 1) = ldZ b k * 256 + b (7 - k) := rfl
    rw [e, Int.pow_succ]
    omega
theorem or256 (x y : Int) (h0 : 0 ≤ x ∧ x < 72057594037927936) (h1 : 0 ≤ y) (h2 : y < 256) : Go.bits .or .u64 (x * 256) y = x * 256 + y := by
  rw [u64_or _ _ (by omega) (by omega) (by omega) (by omega)]
  have e : (x * 256).toNat ||| y.toNat = x.toNat * 2 ^ 8 + y.toNat := by
    have : (x * 256).toNat = x.toNat * 2 ^ 8 := by omega
    rw [this, Nat.mul_comm, ← Nat.two_pow_add_eq_or_of_lt (by omega)]
  rw [e]
  omega
def LRel (b : Nat → Int) (w : World) (v4 v3 : Value) (wr : World) : Prop := ∃ i : Nat, i ≤ 8 ∧ v4 = .int .i64 (7 - (i : Int)) ∧ v3 = .int .u64 (ldZ b i) ∧ wr = w
theorem load_calls (b : Nat → Int) (g off n c : Nat) (w : World) (hn : 8 ≤ n) (hb : ∀ j, j < 8 → 0 ≤ b j ∧ b j < 256) (hc : ∀ j, j < 8 → w.cell? ⟨g, off + j, none⟩ = some (.int .u8 (b j))) :
    Calls Try.prog 35 #[.slice (some ⟨g, off, none⟩) n c] w fun e w' => e = .returned (.int .u64 (ldZ b 8)) ∧ w' = w := by
  go_enter Try.func35, Try.ntmps35
  go_wp2
  go_loopw [3, 4] (fun v3 v4 wr => LRel b w v4 v3 wr) (fun _ v _ => ((intOf v) + 1).toNat)
  case atStart => exact ⟨0, by omega, rfl, rfl, rfl⟩
  case round =>
    obtain ⟨i, hi, rfl, rfl, rfl⟩ := hrel
    have hcase : i = 0 ∨ i = 1 ∨ i = 2 ∨ i = 3 ∨ i = 4 ∨ i = 5 ∨ i = 6 ∨ i = 7 ∨ i = 8 := by omega
    rcases hcase with rfl | rfl | rfl | rfl | rfl | rfl | rfl | rfl | rfl
    · have hcj := hc 7 (by omega)
      have hbj := hb 7 (by omega)
      have hlt : ((7 : Int) < (n : Int)) = True := eq_true (by omega)
      have hX := ldZ_b b hb 0 (by omega)
      have e1 : ldZ b 1 = ldZ b 0 * 256 + b 7 := rfl
      have hw1 : IntKind.u64.wrap (ldZ b 0 * 256) = ldZ b 0 * 256 := u64w _ (by omega) (by omega)
      have hw2 : IntKind.u64.wrap (b 7) = b 7 := u64w _ (by omega) (by omega)
      have hor := or256 (ldZ b 0) (b 7) (by omega) (by omega) (by omega)
      have HE := Aside0.mk e1
      clear hX hbj hb hc e1
      go_wp2_with fail
      exact ⟨⟨1, by omega, rfl, by rw [HE.out], rfl⟩, by decide⟩
    · have hcj := hc 6 (by omega)
      have hbj := hb 6 (by omega)
      have hlt : ((6 : Int) < (n : Int)) = True := eq_true (by omega)
      have hX := ldZ_b b hb 1 (by omega)
      have e1 : ldZ b 2 = ldZ b 1 * 256 + b 6 := rfl
      have hw1 : IntKind.u64.wrap (ldZ b 1 * 256) = ldZ b 1 * 256 := u64w _ (by omega) (by omega)
      have hw2 : IntKind.u64.wrap (b 6) = b 6 := u64w _ (by omega) (by omega)
      have hor := or256 (ldZ b 1) (b 6) (by omega) (by omega) (by omega)
      have HE := Aside0.mk e1
      clear hX hbj hb hc e1
      go_wp2_with fail
      exact ⟨⟨2, by omega, rfl, by rw [HE.out], rfl⟩, by decide⟩
    · have hcj := hc 5 (by omega)
      have hbj := hb 5 (by omega)
      have hlt : ((5 : Int) < (n : Int)) = True := eq_true (by omega)
      have hX := ldZ_b b hb 2 (by omega)
      have e1 : ldZ b 3 = ldZ b 2 * 256 + b 5 := rfl
      have hw1 : IntKind.u64.wrap (ldZ b 2 * 256) = ldZ b 2 * 256 := u64w _ (by omega) (by omega)
      have hw2 : IntKind.u64.wrap (b 5) = b 5 := u64w _ (by omega) (by omega)
      have hor := or256 (ldZ b 2) (b 5) (by omega) (by omega) (by omega)
      have HE := Aside0.mk e1
      clear hX hbj hb hc e1
      go_wp2_with fail
      exact ⟨⟨3, by omega, rfl, by rw [HE.out], rfl⟩, by decide⟩
    · have hcj := hc 4 (by omega)
      have hbj := hb 4 (by omega)
      have hlt : ((4 : Int) < (n : Int)) = True := eq_true (by omega)
      have hX := ldZ_b b hb 3 (by omega)
      have e1 : ldZ b 4 = ldZ b 3 * 256 + b 4 := rfl
      have hw1 : IntKind.u64.wrap (ldZ b 3 * 256) = ldZ b 3 * 256 := u64w _ (by omega) (by omega)
      have hw2 : IntKind.u64.wrap (b 4) = b 4 := u64w _ (by omega) (by omega)
      have hor := or256 (ldZ b 3) (b 4) (by omega) (by omega) (by omega)
      have HE := Aside0.mk e1
      clear hX hbj hb hc e1
      go_wp2_with fail
      exact ⟨⟨4, by omega, rfl, by rw [HE.out], rfl⟩, by decide⟩
    · have hcj := hc 3 (by omega)
      have hbj := hb 3 (by omega)
      have hlt : ((3 : Int) < (n : Int)) = True := eq_true (by omega)
      have hX := ldZ_b b hb 4 (by omega)
      have e1 : ldZ b 5 = ldZ b 4 * 256 + b 3 := rfl
      have hw1 : IntKind.u64.wrap (ldZ b 4 * 256) = ldZ b 4 * 256 := u64w _ (by omega) (by omega)
      have hw2 : IntKind.u64.wrap (b 3) = b 3 := u64w _ (by omega) (by omega)
      have hor := or256 (ldZ b 4) (b 3) (by omega) (by omega) (by omega)
      have HE := Aside0.mk e1
      clear hX hbj hb hc e1
      go_wp2_with fail
      exact ⟨⟨5, by omega, rfl, by rw [HE.out], rfl⟩, by decide⟩
    · have hcj := hc 2 (by omega)
      have hbj := hb 2 (by omega)
      have hlt : ((2 : Int) < (n : Int)) = True := eq_true (by omega)
      have hX := ldZ_b b hb 5 (by omega)
      have e1 : ldZ b 6 = ldZ b 5 * 256 + b 2 := rfl
      have hw1 : IntKind.u64.wrap (ldZ b 5 * 256) = ldZ b 5 * 256 := u64w _ (by omega) (by omega)
      have hw2 : IntKind.u64.wrap (b 2) = b 2 := u64w _ (by omega) (by omega)
      have hor := or256 (ldZ b 5) (b 2) (by omega) (by omega) (by omega)
      have HE := Aside0.mk e1
      clear hX hbj hb hc e1
      go_wp2_with fail
      exact ⟨⟨6, by omega, rfl, by rw [HE.out], rfl⟩, by decide⟩
    · have hcj := hc 1 (by omega)
      have hbj := hb 1 (by omega)
      have hlt : ((1 : Int) < (n : Int)) = True := eq_true (by omega)
      have hX := ldZ_b b hb 6 (by omega)
      have e1 : ldZ b 7 = ldZ b 6 * 256 + b 1 := rfl
      have hw1 : IntKind.u64.wrap (ldZ b 6 * 256) = ldZ b 6 * 256 := u64w _ (by omega) (by omega)
      have hw2 : IntKind.u64.wrap (b 1) = b 1 := u64w _ (by omega) (by omega)
      have hor := or256 (ldZ b 6) (b 1) (by omega) (by omega) (by omega)
      have HE := Aside0.mk e1
      clear hX hbj hb hc e1
      go_wp2_with fail
      exact ⟨⟨7, by omega, rfl, by rw [HE.out], rfl⟩, by decide⟩
    · have hcj : wr.cell? ⟨g, off, none⟩ = some (.int .u8 (b 0)) := hc 0 (by omega)
      have hbj := hb 0 (by omega)
      have hlt : ((0 : Int) < (n : Int)) = True := eq_true (by omega)
      have hX := ldZ_b b hb 7 (by omega)
      have e1 : ldZ b 8 = ldZ b 7 * 256 + b 0 := rfl
      have hw1 : IntKind.u64.wrap (ldZ b 7 * 256) = ldZ b 7 * 256 := u64w _ (by omega) (by omega)
      have hw2 : IntKind.u64.wrap (b 0) = b 0 := u64w _ (by omega) (by omega)
      have hor := or256 (ldZ b 7) (b 0) (by omega) (by omega) (by omega)
      have HE := Aside0.mk e1
      clear hX hbj hb hc e1
      go_wp2_with fail
      exact ⟨⟨8, by omega, rfl, by rw [HE.out], rfl⟩, by decide⟩
    · go_wp2_with fail
      go_ret
      exact ⟨rfl, rfl⟩
end Go.Proofs.Ythonoagpiofojaa.P
