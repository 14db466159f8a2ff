-- Written by wip/tools/myprint.py of this session, over the kit's printer. Not trusted: Lean checks it.
import Derived.Test.YtboelmakccaenaaG0
namespace Go.Proofs.Ytboelmakccaenaa.P
open Go.RowKit Go.Proofs.YtboelmakccaenaaW.PrintWords Go.Proofs.YtboelmakccaenaaW.PrintLast Go.Proofs.YtboelmakccaenaaW.PrintMore
attribute [local go_sem] max2_int min2_int max_two min_two max_three min_three max_four min_four   -- for this text's walks alone
set_option linter.unusedVariables false
set_option linter.unusedSimpArgs false

/-! ### hustingsref01_Letter: function 69 -/
def hustingsref01_Letter.f (a0 : Int) (a1 : Bool) : Option (Int) := if a0 < 26 then (some ((65 + ((a0) % 256)) % 256)) else (if a0 < 52 then (some ((97 + ((wrap64 (a0 - 26)) % 256)) % 256)) else (if a0 < 62 then (some ((48 + ((wrap64 (a0 - 52)) % 256)) % 256)) else (if a1 = true then (if 0 ≤ (wrap64 (a0 - 62)) then (if (wrap64 (a0 - 62)) < 2 then (some (bt (⟨#[45, 95]⟩ : ByteArray) (wrap64 (a0 - 62)))) else (none)) else (none)) else (if 0 ≤ (wrap64 (a0 - 62)) then (if (wrap64 (a0 - 62)) < 2 then (some (bt (⟨#[43, 47]⟩ : ByteArray) (wrap64 (a0 - 62)))) else (none)) else (none)))))
set_option maxHeartbeats 8000000 in
set_option maxRecDepth 100000 in
theorem hustingsref01_Letter.calls (a0 : Int) (a1 : Bool) (r : Int) (w : World) (h : hustingsref01_Letter.f a0 a1 = some r) :
    Calls Try.prog 69 #[.int .i64 a0, .bool a1] w fun e w' => e = .returned (.int .u8 r) ∧ Drawn0 w w' := by
  have H : (if a0 < 26 then (some ((65 + ((a0) % 256)) % 256)) else (if a0 < 52 then (some ((97 + ((wrap64 (a0 - 26)) % 256)) % 256)) else (if a0 < 62 then (some ((48 + ((wrap64 (a0 - 52)) % 256)) % 256)) else (if a1 = true then (if 0 ≤ (wrap64 (a0 - 62)) then (if (wrap64 (a0 - 62)) < 2 then (some (bt (⟨#[45, 95]⟩ : ByteArray) (wrap64 (a0 - 62)))) else (none)) else (none)) else (if 0 ≤ (wrap64 (a0 - 62)) then (if (wrap64 (a0 - 62)) < 2 then (some (bt (⟨#[43, 47]⟩ : ByteArray) (wrap64 (a0 - 62)))) else (none)) else (none)))))) = some r := h
  clear h
  by_cases c3 : a0 < 26
  · rw [if_pos c3] at H
    have c3b0 : decide (a0 < 26) = true := decide_eq_true c3
    clear c3
    obtain rfl := Option.some.inj H
    go_enter Try.func69, Try.ntmps69
    go_wp2
    go_ret
    exact ⟨by first | rfl | (simp; done) | (simp [*]; done), by repeat (first | exact Drawn0.refl _ | apply Drawn0.step)⟩
  · rw [if_neg c3] at H
    have c3b0 : decide (a0 < 26) = false := decide_eq_false c3
    clear c3
    by_cases c4 : a0 < 52
    · rw [if_pos c4] at H
      have c4b0 : decide (a0 < 52) = true := decide_eq_true c4
      clear c4
      obtain rfl := Option.some.inj H
      go_enter Try.func69, Try.ntmps69
      go_wp2
      go_ret
      exact ⟨by first | rfl | (simp; done) | (simp [*]; done), by repeat (first | exact Drawn0.refl _ | apply Drawn0.step)⟩
    · rw [if_neg c4] at H
      have c4b0 : decide (a0 < 52) = false := decide_eq_false c4
      clear c4
      by_cases c5 : a0 < 62
      · rw [if_pos c5] at H
        have c5b0 : decide (a0 < 62) = true := decide_eq_true c5
        clear c5
        obtain rfl := Option.some.inj H
        go_enter Try.func69, Try.ntmps69
        go_wp2
        go_ret
        exact ⟨by first | rfl | (simp; done) | (simp [*]; done), by repeat (first | exact Drawn0.refl _ | apply Drawn0.step)⟩
      · rw [if_neg c5] at H
        have c5b0 : decide (a0 < 62) = false := decide_eq_false c5
        clear c5
        by_cases c6 : a1 = true
        · subst c6
          have H1 : (if 0 ≤ (wrap64 (a0 - 62)) then (if (wrap64 (a0 - 62)) < 2 then (some (bt (⟨#[45, 95]⟩ : ByteArray) (wrap64 (a0 - 62)))) else (none)) else (none)) = some r := by rw [if_pos rfl] at H; exact H
          clear H
          have H := H1
          clear H1
          obtain ⟨ji7, hji7⟩ : ∃ j_ : Int, (wrap64 (a0 - 62)) = j_ := ⟨_, rfl⟩
          replace H : (if 0 ≤ (ji7) then (if (ji7) < 2 then (some (bt (⟨#[45, 95]⟩ : ByteArray) (ji7))) else (none)) else (none)) = some r := by first | (rw [hji7] at H; exact H) | (simp only [hji7] at H ⊢; exact H)
          have hji7w : (IntKind.i64.wrap (a0 - 62)) = ji7 := (i64_w _).trans hji7
          by_cases c8 : 0 ≤ (ji7)
          · rw [if_pos c8] at H
            have c8b0 : decide (0 ≤ (ji7)) = true := decide_eq_true c8
            clear c8
            by_cases c9 : (ji7) < 2
            · rw [if_pos c9] at H
              have c9b0 : decide ((ji7) < 2) = true := decide_eq_true c9
              clear c9
              obtain rfl := Option.some.inj H
              have p10 : 0 ≤ ((ji7) : Int) := of_decide_eq_true (by first | (with_reducible assumption) | assumption)
              have q10 : (ji7) < (2 : Int) := of_decide_eq_true (by first | (with_reducible assumption) | assumption)
              have hx10 := bt_at (⟨#[45, 95]⟩ : ByteArray) (ji7)
              replace p10 := eq_true p10
              replace q10 := eq_true q10
              go_enter Try.func69, Try.ntmps69
              go_wp2
              go_ret
              exact ⟨by first | rfl | (simp; done) | (simp only [← hji7] <;> (first | rfl | simp)) | (simp [*]; done), by repeat (first | exact Drawn0.refl _ | apply Drawn0.step)⟩
            · rw [if_neg c9] at H
              exact absurd H (by simp)
          · rw [if_neg c8] at H
            exact absurd H (by simp)
        · replace c6 := Bool.eq_false_iff.mpr c6
          subst c6
          have H1 : (if 0 ≤ (wrap64 (a0 - 62)) then (if (wrap64 (a0 - 62)) < 2 then (some (bt (⟨#[43, 47]⟩ : ByteArray) (wrap64 (a0 - 62)))) else (none)) else (none)) = some r := by rw [if_neg (show ¬ (false = true) by decide)] at H; exact H
          clear H
          have H := H1
          clear H1
          obtain ⟨ji11, hji11⟩ : ∃ j_ : Int, (wrap64 (a0 - 62)) = j_ := ⟨_, rfl⟩
          replace H : (if 0 ≤ (ji11) then (if (ji11) < 2 then (some (bt (⟨#[43, 47]⟩ : ByteArray) (ji11))) else (none)) else (none)) = some r := by first | (rw [hji11] at H; exact H) | (simp only [hji11] at H ⊢; exact H)
          have hji11w : (IntKind.i64.wrap (a0 - 62)) = ji11 := (i64_w _).trans hji11
          by_cases c12 : 0 ≤ (ji11)
          · rw [if_pos c12] at H
            have c12b0 : decide (0 ≤ (ji11)) = true := decide_eq_true c12
            clear c12
            by_cases c13 : (ji11) < 2
            · rw [if_pos c13] at H
              have c13b0 : decide ((ji11) < 2) = true := decide_eq_true c13
              clear c13
              obtain rfl := Option.some.inj H
              have p14 : 0 ≤ ((ji11) : Int) := of_decide_eq_true (by first | (with_reducible assumption) | assumption)
              have q14 : (ji11) < (2 : Int) := of_decide_eq_true (by first | (with_reducible assumption) | assumption)
              have hx14 := bt_at (⟨#[43, 47]⟩ : ByteArray) (ji11)
              replace p14 := eq_true p14
              replace q14 := eq_true q14
              go_enter Try.func69, Try.ntmps69
              go_wp2
              go_ret
              exact ⟨by first | rfl | (simp; done) | (simp only [← hji11] <;> (first | rfl | simp)) | (simp [*]; done), by repeat (first | exact Drawn0.refl _ | apply Drawn0.step)⟩
            · rw [if_neg c13] at H
              exact absurd H (by simp)
          · rw [if_neg c12] at H
            exact absurd H (by simp)

end Go.Proofs.Ytboelmakccaenaa.P
