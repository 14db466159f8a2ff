-- Written by wip/tools/myprint.py of this session, over the kit's printer. Not trusted: Lean checks it.
import Derived.Test.YtboelmakccaenaaG0
import Derived.Test.YtboelmakccaenaaG76
namespace Go.Proofs.Ytboelmakccaenaa.P
open Go.RowKit Go.Proofs.YtboelmakccaenaaW.PrintWords Go.Proofs.YtboelmakccaenaaW.PrintLast Go.Proofs.YtboelmakccaenaaW.PrintMore
attribute [local go_sem] max2_int min2_int max_two min_two max_three min_three max_four min_four   -- for this text's walks alone
set_option linter.unusedVariables false
set_option linter.unusedSimpArgs false

/-! ### hustingsref10_Key: function 27 -/
def hustingsref10_Key.f (k : Nat) (a0 : ByteArray) : Option (Bool) := if (a0.size : Int) ≤ 255 then (if (a0.size : Int) > 8 then (if 0 ≤ 8 then (if 8 ≤ (a0.size : Int) then (if (a0.extract 0 8).toList = ([101, 100, 50, 53, 53, 49, 57, 58] : List UInt8) then ((hustingsref10_of.f k (a0.extract 8 a0.size) (⟨#[97, 65, 48]⟩ : ByteArray) (⟨#[95]⟩ : ByteArray)).bind fun t27001 => (some t27001)) else (some false)) else (none)) else (none)) else (some false)) else (some false)
theorem hustingsref10_Key.mono : ∀ a0 k, LeO (hustingsref10_Key.f k a0) (hustingsref10_Key.f (k + 1) a0) := by
  intro a0 k
  unfold hustingsref10_Key.f
  repeat' first
      | (with_reducible exact hustingsref10_of.mono _ _ _ _)
      | (with_reducible exact LeO.refl _)
      | (with_reducible exact LeO.none _)
      | (with_reducible refine LeO.ite ?_ ?_)
      | (with_reducible refine LeO.bind ?_ (fun _ => ?_))
      | exact hustingsref10_of.mono _ _ _ _
      | exact LeO.none _
      | refine LeO.ite ?_ ?_
      | refine LeO.bind ?_ (fun _ => ?_)
set_option maxHeartbeats 8000000 in
set_option maxRecDepth 100000 in
theorem hustingsref10_Key.calls (k : Nat) (a0 : ByteArray) (r : Bool) (w : World) (h : hustingsref10_Key.f k a0 = some r) :
    Calls Try.prog 27 #[.string a0] w fun e w' => e = .returned (.bool r) ∧ Drawn0 w w' := by
  have H : (if (a0.size : Int) ≤ 255 then (if (a0.size : Int) > 8 then (if 0 ≤ 8 then (if 8 ≤ (a0.size : Int) then (if (a0.extract 0 8).toList = ([101, 100, 50, 53, 53, 49, 57, 58] : List UInt8) then ((hustingsref10_of.f k (a0.extract 8 a0.size) (⟨#[97, 65, 48]⟩ : ByteArray) (⟨#[95]⟩ : ByteArray)).bind fun t27001 => (some t27001)) else (some false)) else (none)) else (none)) else (some false)) else (some false)) = some r := h
  clear h
  by_cases c2 : (a0.size : Int) ≤ 255
  · rw [if_pos c2] at H
    have c2b0 : decide ((a0.size : Int) ≤ 255) = true := decide_eq_true c2
    have c2b1 : decide (a0.size ≤ 255) = true := decide_eq_true (by omega)
    clear c2
    by_cases c3 : (a0.size : Int) > 8
    · rw [if_pos c3] at H
      have c3b0 : decide (8 < (a0.size : Int)) = true := decide_eq_true c3
      have c3b1 : decide (8 < a0.size) = true := decide_eq_true (by omega)
      clear c3
      by_cases c4 : 0 ≤ 8
      · rw [if_pos c4] at H
        have c4b0 := eq_true c4
        have c4b1 : decide (0 ≤ 8) = true := decide_eq_true c4
        clear c4
        by_cases c5 : 8 ≤ (a0.size : Int)
        · rw [if_pos c5] at H
          have c5b0 := eq_true c5
          have c5b1 : decide (8 ≤ (a0.size : Int)) = true := decide_eq_true c5
          clear c5
          by_cases c6 : (a0.extract 0 8).toList = ([101, 100, 50, 53, 53, 49, 57, 58] : List UInt8)
          · rw [if_pos c6] at H
            have c6b0 : ((a0.extract 0 8).toList == ([101, 100, 50, 53, 53, 49, 57, 58] : List UInt8)) = true := beq_iff_eq.mpr c6
            have c6b1 : ((a0.extract 0 8).toList != ([101, 100, 50, 53, 53, 49, 57, 58] : List UInt8)) = false := bne_eq_false_iff_eq.mpr c6
            clear c6
            have c7b0 := eq_true (of_decide_eq_true (by first | (with_reducible assumption) | assumption) : 8 ≤ (a0.size : Int))
            replace H := Option.bind_eq_some_iff.mp H
            obtain ⟨t27001, A80, H⟩ := H
            replace H : (some t27001) = some r := H
            have A8 := Aside0.mk A80
            clear A80
            obtain rfl := Option.some.inj H
            go_enter Try.func27, Try.ntmps27
            go_wp2_with (first | (go_at_call 76; (with_reducible refine (hustingsref10_of.calls k (a0.extract 8 a0.size) (⟨#[97, 65, 48]⟩ : ByteArray) (⟨#[95]⟩ : ByteArray) t27001 _ A8.out).mono ?_); rintro e w' ⟨rfl, ⟨nd, rfl⟩⟩))
            go_ret
            exact ⟨by first | rfl | (simp; done) | (simp [*]; done), by repeat (first | exact Drawn0.refl _ | apply Drawn0.step)⟩
          · rw [if_neg c6] at H
            have c6b0 : ((a0.extract 0 8).toList == ([101, 100, 50, 53, 53, 49, 57, 58] : List UInt8)) = false := beq_eq_false_iff_ne.mpr c6
            have c6b1 : ((a0.extract 0 8).toList != ([101, 100, 50, 53, 53, 49, 57, 58] : List UInt8)) = true := bne_iff_ne.mpr c6
            obtain rfl := Option.some.inj H
            go_enter Try.func27, Try.ntmps27
            go_wp2
            go_ret
            exact ⟨by first | rfl | (simp; done) | (simp [*]; done), by repeat (first | exact Drawn0.refl _ | apply Drawn0.step)⟩
        · rw [if_neg c5] at H
          exact absurd H (by simp)
      · rw [if_neg c4] at H
        exact absurd H (by simp)
    · rw [if_neg c3] at H
      have c3b0 : decide (8 < (a0.size : Int)) = false := decide_eq_false c3
      have c3b1 : decide (8 < a0.size) = false := decide_eq_false (by omega)
      clear c3
      obtain rfl := Option.some.inj H
      go_enter Try.func27, Try.ntmps27
      go_wp2
      go_ret
      exact ⟨by first | rfl | (simp; done) | (simp [*]; done), by repeat (first | exact Drawn0.refl _ | apply Drawn0.step)⟩
  · rw [if_neg c2] at H
    have c2b0 : decide ((a0.size : Int) ≤ 255) = false := decide_eq_false c2
    have c2b1 : decide (a0.size ≤ 255) = false := decide_eq_false (by omega)
    clear c2
    obtain rfl := Option.some.inj H
    go_enter Try.func27, Try.ntmps27
    go_wp2
    go_ret
    exact ⟨by first | rfl | (simp; done) | (simp [*]; done), by repeat (first | exact Drawn0.refl _ | apply Drawn0.step)⟩

end Go.Proofs.Ytboelmakccaenaa.P
