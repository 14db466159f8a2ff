/- The document's carry by its walk. -/
import Derived.Test.YthonoagpiofojaaR0
namespace Go.Proofs.Ythonoagpiofojaa.P
set_option linter.unusedVariables false
set_option linter.unusedSimpArgs false
open Go.RowKit
attribute [local go_sem] setCell_drewN
/-- One step of carry. -/
def cstep (f : Nat → Int) (i : Nat) : Nat → Int :=
  if i < 15 then upd (upd f i (f i - f i / 65536 * 65536)) (i + 1) (f (i + 1) + f i / 65536) else upd (upd f i (f i - f i / 65536 * 65536)) 0 (f 0 + 38 * (f i / 65536))
def carryN (f : Nat → Int) : Nat → Nat → Int
  | 0 => f
  | i + 1 => cstep (carryN f i) i
/-- Each of 16 digits is within 2^51 of nought. -/
def CB (f : Nat → Int) : Prop := ∀ j, j < 16 → - 2251799813685248 ≤ f j ∧ f j ≤ 2251799813685248
theorem carryN_b (f : Nat → Int) (hf : CB f) : ∀ i, i ≤ 15 → (∀ j, j < i → 0 ≤ carryN f i j ∧ carryN f i j < 65536) ∧ (-2251868533161984 ≤ carryN f i i ∧ carryN f i i ≤ 2251868533161984) ∧ ∀ j, i < j → carryN f i j = f j
  | 0, _ => ⟨fun j h => absurd h (by omega), by have := hf 0 (by omega); simp only [carryN]; omega, fun j _ => rfl⟩
  | i + 1, hi => by
    obtain ⟨h1, h2, h3⟩ := carryN_b f hf i (by omega)
    have e : carryN f (i + 1) = upd (upd (carryN f i) i (carryN f i i - carryN f i i / 65536 * 65536)) (i + 1) (carryN f i (i + 1) + carryN f i i / 65536) := by
      show cstep (carryN f i) i = _
      unfold cstep; rw [if_pos (by omega)]
    refine ⟨fun j hj => ?_, ?_, fun j hj => ?_⟩
    · rw [e, upd_other _ _ _ _ (by omega)]
      by_cases hji : j = i
      · subst hji; rw [upd_same]; omega
      · rw [upd_other _ _ _ _ hji]; exact h1 j (by omega)
    · rw [e, upd_same, h3 (i + 1) (by omega)]
      have := hf (i + 1) (by omega)
      omega
    · rw [e, upd_other _ _ _ _ (by omega), upd_other _ _ _ _ (by omega)]; exact h3 j (by omega)
def KRel (w : World) (f : Nat → Int) (v3 : Value) (wr : World) : Prop :=
  ∃ (i : Nat), i ≤ 16 ∧ v3 = .int .i64 (i : Int) ∧ Below w.heap.size w wr ∧ Row wr w.heap.size .i64 16 (carryN f i) 33 ∧ Row wr (w.heap.size + 1) .i64 16 (fun _ => 0) 33
theorem w64 (n : Int) (h : -9223372036854775808 ≤ n ∧ n ≤ 9223372036854775807) : wrap64 n = n := by unfold wrap64; omega
theorem meas_up (n : Nat) (i : Nat) (h : i < n) : n - (intOf (Value.int IntKind.i64 ((i : Int) + 1))).toNat < n - (intOf (Value.int IntKind.i64 (i : Int))).toNat := by
  have e1 : intOf (Value.int IntKind.i64 ((i : Int) + 1)) = (i : Int) + 1 := rfl
  have e2 : intOf (Value.int IntKind.i64 (i : Int)) = (i : Int) := rfl
  rw [e1, e2]; omega
theorem info33 : (Try.prog.info? 33).map (·.size) = some 16 := by kernel_rfl
theorem carry_calls (f : Nat → Int) (w : World) (hf : CB f) :
    Calls Try.prog 38 #[.agg (FR .i64 16 f)] w fun e w' => e = .returned (.agg (FR .i64 16 (carryN f 16))) ∧ Below w.heap.size w w' := by
  have HF := Aside0.mk hf
  clear hf
  go_enter Try.func38, Try.ntmps38
  go_wp2
  go_loopw [3] (fun v3 wr => KRel w f v3 wr) (fun v _ => 16 - (intOf v).toNat)
  case atStart => exact ⟨0, by omega, rfl, bel_two w _ _, Row.alloc (Row.new w .i64 16 f 33) _, heap_alloc2_new w _ _⟩
  case round =>
    obtain ⟨i, hi, rfl, hb, hr, hr2⟩ := hrel
    have HB := Aside0.mk hb
    have HR := Aside0.mk hr
    have HR2 := Aside0.mk hr2
    have hlt1 : w.heap.size < wr.heap.size := hr.lt
    have hlt2 : w.heap.size + 1 < wr.heap.size := hr2.lt
    clear hb
    rcases Nat.lt_or_ge i 15 with h15 | h15
    · have hx := carryN_b f HF.out i (by omega)
      have hy := HF.out (i + 1) (by omega)
      have hlt : ((i : Int) < 16) = True := eq_true (by omega)
      have hlt2 : ((i : Int) < 15) = True := eq_true (by omega)
      have e1 := hx.2.2 (i + 1) (by omega)
      have k0 := hr.cell i (by omega)
      have k1 := hr.cell (i + 1) (by omega)
      have f0 := hr.fro i
      have f1 := hr.fro (i + 1)
      have HE := Aside0.mk (show carryN f (i + 1) = upd (upd (carryN f i) i (carryN f i i - carryN f i i / 65536 * 65536)) (i + 1) (carryN f i (i + 1) + carryN f i i / 65536) by
        show cstep (carryN f i) i = _
        unfold cstep; rw [if_pos (by omega)])
      have HS := Aside0.mk ((hr.set i (carryN f i i - carryN f i i / 65536 * 65536) (by omega)).set (i + 1) (carryN f i (i + 1) + carryN f i i / 65536) (by omega))
      have hb2 := hx.2.1
      rw [← e1] at hy
      generalize carryN f i i = x at *
      generalize carryN f i (i + 1) = y at *
      have w1 : wrap64 (x / 65536 * 65536) = x / 65536 * 65536 := w64 _ (by omega)
      have w2 : wrap64 (x - x / 65536 * 65536) = x - x / 65536 * 65536 := w64 _ (by omega)
      have w3 : wrap64 (y + x / 65536) = y + x / 65536 := w64 _ (by omega)
      clear hx hr hr2 hb2 hy e1
      go_wp2_with fail
      refine ⟨⟨i + 1, by omega, rfl, bel_set (bel_set HB.out _ _ (Nat.le_refl _)) _ _ (Nat.le_refl _), ?_, ?_⟩, meas_up 16 i (by omega)⟩
      · rw [HE.out]; exact HS.out
      · exact (HR2.out.other _ _ (show w.heap.size + 1 ≠ w.heap.size by omega)).other _ _ (show w.heap.size + 1 ≠ w.heap.size by omega)
    · rcases Nat.lt_or_ge i 16 with h16 | h16
      · obtain rfl : i = 15 := by omega
        have hx := carryN_b f HF.out 15 (by omega)
        have hy := hx.1 0 (by omega)
        have k0 := hr.cell 15 (by omega)
        have k1 := hr.cell 0 (by omega)
        have f0 := hr.fro 15
        have f1 := hr.fro 0
        have HE := Aside0.mk (show carryN f 16 = upd (upd (carryN f 15) 15 (carryN f 15 15 - carryN f 15 15 / 65536 * 65536)) 0 (carryN f 15 0 + 38 * (carryN f 15 15 / 65536)) from rfl)
        have HS := Aside0.mk ((hr.set 15 (carryN f 15 15 - carryN f 15 15 / 65536 * 65536) (by omega)).set 0 (carryN f 15 0 + 38 * (carryN f 15 15 / 65536)) (by omega))
        have hb2 := hx.2.1
        generalize carryN f 15 15 = x at *
        generalize carryN f 15 0 = y at *
        have w1 : wrap64 (x / 65536 * 65536) = x / 65536 * 65536 := w64 _ (by omega)
        have w2 : wrap64 (x - x / 65536 * 65536) = x - x / 65536 * 65536 := w64 _ (by omega)
        have w3 : wrap64 (38 * (x / 65536)) = 38 * (x / 65536) := w64 _ (by omega)
        have w4 : wrap64 (y + 38 * (x / 65536)) = y + 38 * (x / 65536) := w64 _ (by omega)
        clear hx hr hr2 hb2 hy
        go_wp2_with fail
        refine ⟨⟨16, by omega, rfl, bel_set (bel_set HB.out _ _ (Nat.le_refl _)) _ _ (Nat.le_refl _), ?_, ?_⟩, by decide⟩
        · rw [HE.out]; exact HS.out
        · exact (HR2.out.other _ _ (show w.heap.size + 1 ≠ w.heap.size by omega)).other _ _ (show w.heap.size + 1 ≠ w.heap.size by omega)
      · obtain rfl : i = 16 := by omega
        clear hr hr2 hlt1 hlt2
        go_wp2_with (first | refine step_load HR.out Try.underlying33 info33 rfl rfl rfl rfl ?_ | refine step_store (carryN f 16) HR2.out info33 rfl rfl rfl rfl rfl ?_)
        refine bodyPost_ret (row_results rfl (HR2.out.all) rfl Try.underlying33 rfl info33) rfl ?_
        exact ⟨rfl, bel_setCells (by omega) _ _ _ HB.out⟩
end Go.Proofs.Ythonoagpiofojaa.P
