/- The document's below by its walk. -/
import Derived.Test.YthonoagpiofojaaC2
namespace Go.Proofs.Ythonoagpiofojaa.P
set_option linter.unusedVariables false
set_option linter.unusedSimpArgs false
open Go.RowKit
attribute [local go_sem] setCell_drewN
/-- Below the prime, digit by digit, from digit i - 1 down. -/
def belowN (f : Nat → Int) : Nat → Bool
  | 0 => false
  | i + 1 => if f i = pD i then belowN f i else decide (f i < pD i)
theorem pD_b (i : Nat) : 0 ≤ pD i ∧ pD i ≤ 65535 := by
  unfold pD; split <;> (try split) <;> omega
def BRel (f : Nat → Int) (w : World) (v4 : Value) (gp : Nat) (wr : World) : Prop :=
  ∃ (i : Nat), i ≤ 16 ∧ v4 = .int .i64 ((i : Int) - 1) ∧ belowN f i = belowN f 16 ∧ Below w.heap.size w wr ∧ Row wr w.heap.size .i64 16 f 33 ∧ Row wr gp .i64 16 pD 33
theorem below_calls (f : Nat → Int) (w : World) :
    Calls Try.prog 45 #[.agg (FR .i64 16 f)] w fun e w' => e = .returned (.bool (belowN f 16)) ∧ Below w.heap.size w w' := by
  go_enter Try.func45, Try.ntmps45
  go_wp2_with fail
  refine (P_calls _).mono ?_
  rintro e w1 ⟨rfl, hb⟩
  have hr := Row.below (Row.new w .i64 16 f 33) hb (by simp)
  have HR := Aside0.mk hr
  have hb2 := (Below.refl w.heap.size w).alloc (Nat.le_refl _) (.cells (FR .i64 16 f) 33)
  have HB := Aside0.mk (hb2.trans (hb.mono (by simp)))
  have hlt := hr.lt
  clear hb hb2 hr
  have HN := Aside0.mk (Row.new w1 .i64 16 (fun _ => 0) 33)
  go_wp2_with (refine step_store pD HN.out info33 rfl rfl rfl rfl rfl ?_)
  have HB2 := Aside0.mk (bel_setCells (show w.heap.size ≤ w1.heap.size by omega) (FR .i64 16 pD).toList 0 _ (HB.out.alloc (by omega) (.cells (FR .i64 16 fun _ => 0) 33)))
  have HR2 := Aside0.mk ((HR.out.alloc (.cells (FR .i64 16 fun _ => 0) 33)).cells_other (FR .i64 16 pD).toList (show w.heap.size ≠ w1.heap.size by omega))
  have HP := Aside0.mk (HN.out.all (f' := pD))
  go_loopw [4, 2] (fun v4 v2 wr => v2 = .bool false ∧ BRel f w v4 w1.heap.size wr) (fun v _ _ => ((intOf v) + 1).toNat)
  case atStart => exact ⟨rfl, 16, by omega, rfl, rfl, HB2.out, HR2.out, HP.out⟩
  case round =>
    obtain ⟨rfl, i, hi, rfl, he, hb, hr, hp⟩ := hrel
    have HB3 := Aside0.mk hb
    have HE := Aside0.mk he
    have HR3 := Aside0.mk hr
    have HP3 := Aside0.mk hp
    rcases Nat.lt_or_ge 0 i with h15 | h15
    · obtain ⟨j, rfl⟩ : ∃ j, i = j + 1 := ⟨i - 1, by omega⟩
      have e1 : ((j + 1 : Nat) : Int) - 1 = (j : Int) := by omega
      rw [e1]
      have hge : ((j : Int) ≥ 0) = True := eq_true (by omega)
      have hlt : ((j : Int) < 16) = True := eq_true (by omega)
      have k0 := hr.cell j (by omega)
      have k1 := hp.cell j (by omega)
      clear hb hr hp he
      by_cases hq : f j = pD j
      · have HQ := Aside0.mk hq
        have hd : (f j != pD j) = false := by simp [hq]
        have hd2 : (f j = pD j) = True := eq_true hq
        clear hq
        go_wp2_with fail
        go_region
        all_goals go_wp2_with fail
        refine ⟨⟨rfl, j, by omega, rfl, ?_, HB3.out.drew, HR3.out, HP3.out⟩, by simp only [intOf]; omega⟩
        rw [← HE.out]; show _ = if f j = pD j then belowN f j else _
        rw [if_pos HQ.out]
      · have HQ := Aside0.mk hq
        have hd : (f j != pD j) = true := by simp [hq]
        have hd2 : (f j = pD j) = False := eq_false hq
        clear hq
        go_wp2_with fail
        go_region
        all_goals go_wp2_with fail
        go_region
        all_goals go_wp2_with fail
        go_ret
        refine ⟨?_, HB3.out.drew.drew⟩
        rw [← HE.out]; show _ = Ending.returned (Value.bool (if f j = pD j then belowN f j else _))
        rw [if_neg HQ.out]; rfl
    · obtain rfl : i = 0 := by omega
      clear hb hr hp he
      go_wp2_with fail
      go_ret
      refine ⟨?_, HB3.out⟩
      rw [← HE.out]; rfl
end Go.Proofs.Ythonoagpiofojaa.P
