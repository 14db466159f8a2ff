/- wide.plus by its walk. -/
import Derived.Test.YthonoagpiofojaaM1
namespace Go.Proofs.Ythonoagpiofojaa.P
set_option linter.unusedVariables false
set_option linter.unusedSimpArgs false
open Go.RowKit
attribute [local go_sem] setCell_drewN
/-- A number of 128 bits in two words. -/
def wd (W : Int) (i : Nat) : Int := if i = 0 then W / 18446744073709551616 else W % 18446744073709551616
theorem info62 : (Try.prog.info? 62).map (·.size) = some 2 := by kernel_rfl
theorem plus_calls (W : Int) (x y : Nat) (w : World) (hx : x < 18446744073709551616) (hy : y < 18446744073709551616) (hW : 0 ≤ W) (hs : W + (x : Int) * (y : Int) < 340282366920938463463374607431768211456) :
    Calls Try.prog 40 #[.agg (FR .u64 2 (wd W)), .int .u64 (x : Int), .int .u64 (y : Int)] w fun e w' => e = .returned (.agg (FR .u64 2 (wd (W + (x : Int) * (y : Int))))) ∧ Below w.heap.size w w' := by
  have HM := Aside0.mk (fun w => mul64_calls x y hx hy w)
  obtain ⟨H, hH⟩ : ∃ H, x * y / 18446744073709551616 = H := ⟨_, rfl⟩
  obtain ⟨L, hL⟩ : ∃ L, x * y % 18446744073709551616 = L := ⟨_, rfl⟩
  have hxy : (x : Int) * (y : Int) = ((x * y : Nat) : Int) := by simp
  rw [hxy] at hs ⊢
  rw [hH, hL] at HM
  have hsum : x * y = H * 18446744073709551616 + L := by omega
  have hLb : L < 18446744073709551616 := by omega
  rw [hsum] at hs ⊢
  clear hH hL hxy hsum
  have hw0 : wd W 0 = W / 18446744073709551616 := rfl
  have hw1 : wd W 1 = W % 18446744073709551616 := rfl
  have b0 : 0 ≤ wd W 0 ∧ wd W 0 < 18446744073709551616 := by omega
  have b1 : 0 ≤ wd W 1 ∧ wd W 1 < 18446744073709551616 := by omega
  have c1 := add64_run (wd W 1) (L : Int) 0 b1.1 (by omega) (by omega) (by omega)
  have c2 := add64_run (wd W 0) (H : Int) ((wd W 1 + (L : Int)) / 18446744073709551616) b0.1 (by omega) (by omega) (by omega)
  have HV : Aside0 (∀ i, i < 2 → (if i = 0 then (wd W 0 + (H : Int) + (wd W 1 + (L : Int)) / 18446744073709551616) % 18446744073709551616 else (wd W 1 + (L : Int)) % 18446744073709551616) = wd (W + ((H * 18446744073709551616 + L : Nat) : Int)) i) := ⟨fun i hi => by
    unfold wd
    split
    · subst_vars; rw [if_pos rfl, if_neg (by omega)]; omega
    · rw [if_neg (by omega)]; omega⟩
  have HR0 := Row.new w .u64 2 (wd W) 62
  have k0 := fun o => (HR0.alloc o).cell 0 (by omega)
  have k1 := fun o => (HR0.alloc o).cell 1 (by omega)
  clear hW hs b0 b1 hw0 hw1 HR0
  go_enter Try.func40, Try.ntmps40
  go_wp2_with fail
  refine (HM.out _).mono ?_
  rintro e w1 ⟨rfl, rfl⟩
  go_wp2_with fail
  have e : (#[.int .u64 ((wd W 0 + (H : Int) + (wd W 1 + (L : Int)) / 18446744073709551616) % 18446744073709551616), .int .u64 ((wd W 1 + (L : Int)) % 18446744073709551616)] : Array Value) = FR .u64 2 (wd (W + ((H * 18446744073709551616 + L : Nat) : Int))) := by
    rw [← FR_congr .u64 2 _ _ HV.out]; rfl
  rw [e]
  refine bodyPost_ret (row_results rfl (heap_alloc2_new _ _ _) rfl Try.underlying62 rfl info62) rfl ?_
  exact ⟨rfl, bel_two _ _ _⟩
end Go.Proofs.Ythonoagpiofojaa.P
