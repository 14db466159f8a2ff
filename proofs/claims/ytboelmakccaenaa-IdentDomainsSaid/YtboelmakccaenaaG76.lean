-- Written by wip/tools/myprint.py of this session, over the kit's printer. Not trusted: Lean checks it.
import Derived.Test.YtboelmakccaenaaG0
namespace Go.Proofs.Ytboelmakccaenaa.P
open Go.RowKit Go.Proofs.YtboelmakccaenaaW.PrintWords Go.Proofs.YtboelmakccaenaaW.PrintLast Go.Proofs.YtboelmakccaenaaW.PrintMore
attribute [local go_sem] max2_int min2_int max_two min_two max_three min_three max_four min_four   -- for this text's walks alone
set_option linter.unusedVariables false
set_option linter.unusedSimpArgs false

/-! ### hustingsref10_of: function 76 -/
mutual
def hustingsref10_of.l0 : Nat → ByteArray → ByteArray → ByteArray → Int → Option (Bool)
  | 0, _, _, _, _ => none
  | k + 1, x0, x1, x2, x7 => if x7 < (x0.size : Int) then (if 0 ≤ x7 then (hustingsref10_of.l1 k x0 x1 x2 x7 (bt x0 x7) false 0) else (none)) else (some (x0.toList != ([] : List UInt8)))
def hustingsref10_of.l1 : Nat → ByteArray → ByteArray → ByteArray → Int → Int → Bool → Int → Option (Bool)
  | 0, _, _, _, _, _, _, _ => none
  | k + 1, x0, x1, x2, x7, x8, x9, x10 => if x10 < (x1.size : Int) then (if x9 = true then (hustingsref10_of.l1 k x0 x1 x2 x7 x8 true (wrap64 (x10 + 1))) else (if 0 ≤ x10 then (if (bt x1 x10) = 97 then (if x8 ≥ 97 then (if x8 ≤ 122 then (hustingsref10_of.l1 k x0 x1 x2 x7 x8 true (wrap64 (x10 + 1))) else (if (bt x1 x10) = 65 then (if x8 ≥ 65 then (if x8 ≤ 90 then (hustingsref10_of.l1 k x0 x1 x2 x7 x8 true (wrap64 (x10 + 1))) else (if (bt x1 x10) = 48 then (if x8 ≥ 48 then (hustingsref10_of.l1 k x0 x1 x2 x7 x8 (decide (x8 ≤ 57)) (wrap64 (x10 + 1))) else (hustingsref10_of.l1 k x0 x1 x2 x7 x8 false (wrap64 (x10 + 1)))) else (hustingsref10_of.l1 k x0 x1 x2 x7 x8 false (wrap64 (x10 + 1))))) else (if (bt x1 x10) = 48 then (if x8 ≥ 48 then (hustingsref10_of.l1 k x0 x1 x2 x7 x8 (decide (x8 ≤ 57)) (wrap64 (x10 + 1))) else (hustingsref10_of.l1 k x0 x1 x2 x7 x8 false (wrap64 (x10 + 1)))) else (hustingsref10_of.l1 k x0 x1 x2 x7 x8 false (wrap64 (x10 + 1))))) else (if (bt x1 x10) = 48 then (if x8 ≥ 48 then (hustingsref10_of.l1 k x0 x1 x2 x7 x8 (decide (x8 ≤ 57)) (wrap64 (x10 + 1))) else (hustingsref10_of.l1 k x0 x1 x2 x7 x8 false (wrap64 (x10 + 1)))) else (hustingsref10_of.l1 k x0 x1 x2 x7 x8 false (wrap64 (x10 + 1)))))) else (if (bt x1 x10) = 65 then (if x8 ≥ 65 then (if x8 ≤ 90 then (hustingsref10_of.l1 k x0 x1 x2 x7 x8 true (wrap64 (x10 + 1))) else (if (bt x1 x10) = 48 then (if x8 ≥ 48 then (hustingsref10_of.l1 k x0 x1 x2 x7 x8 (decide (x8 ≤ 57)) (wrap64 (x10 + 1))) else (hustingsref10_of.l1 k x0 x1 x2 x7 x8 false (wrap64 (x10 + 1)))) else (hustingsref10_of.l1 k x0 x1 x2 x7 x8 false (wrap64 (x10 + 1))))) else (if (bt x1 x10) = 48 then (if x8 ≥ 48 then (hustingsref10_of.l1 k x0 x1 x2 x7 x8 (decide (x8 ≤ 57)) (wrap64 (x10 + 1))) else (hustingsref10_of.l1 k x0 x1 x2 x7 x8 false (wrap64 (x10 + 1)))) else (hustingsref10_of.l1 k x0 x1 x2 x7 x8 false (wrap64 (x10 + 1))))) else (if (bt x1 x10) = 48 then (if x8 ≥ 48 then (hustingsref10_of.l1 k x0 x1 x2 x7 x8 (decide (x8 ≤ 57)) (wrap64 (x10 + 1))) else (hustingsref10_of.l1 k x0 x1 x2 x7 x8 false (wrap64 (x10 + 1)))) else (hustingsref10_of.l1 k x0 x1 x2 x7 x8 false (wrap64 (x10 + 1)))))) else (if (bt x1 x10) = 65 then (if x8 ≥ 65 then (if x8 ≤ 90 then (hustingsref10_of.l1 k x0 x1 x2 x7 x8 true (wrap64 (x10 + 1))) else (if (bt x1 x10) = 48 then (if x8 ≥ 48 then (hustingsref10_of.l1 k x0 x1 x2 x7 x8 (decide (x8 ≤ 57)) (wrap64 (x10 + 1))) else (hustingsref10_of.l1 k x0 x1 x2 x7 x8 false (wrap64 (x10 + 1)))) else (hustingsref10_of.l1 k x0 x1 x2 x7 x8 false (wrap64 (x10 + 1))))) else (if (bt x1 x10) = 48 then (if x8 ≥ 48 then (hustingsref10_of.l1 k x0 x1 x2 x7 x8 (decide (x8 ≤ 57)) (wrap64 (x10 + 1))) else (hustingsref10_of.l1 k x0 x1 x2 x7 x8 false (wrap64 (x10 + 1)))) else (hustingsref10_of.l1 k x0 x1 x2 x7 x8 false (wrap64 (x10 + 1))))) else (if (bt x1 x10) = 48 then (if x8 ≥ 48 then (hustingsref10_of.l1 k x0 x1 x2 x7 x8 (decide (x8 ≤ 57)) (wrap64 (x10 + 1))) else (hustingsref10_of.l1 k x0 x1 x2 x7 x8 false (wrap64 (x10 + 1)))) else (hustingsref10_of.l1 k x0 x1 x2 x7 x8 false (wrap64 (x10 + 1)))))) else (none))) else (hustingsref10_of.l2 k x0 x1 x2 x7 x8 x9 0)
def hustingsref10_of.l2 : Nat → ByteArray → ByteArray → ByteArray → Int → Int → Bool → Int → Option (Bool)
  | 0, _, _, _, _, _, _, _ => none
  | k + 1, x0, x1, x2, x7, x8, x9, x11 => if x11 < (x2.size : Int) then (if x9 = true then (hustingsref10_of.l2 k x0 x1 x2 x7 x8 true (wrap64 (x11 + 1))) else (if 0 ≤ x11 then (hustingsref10_of.l2 k x0 x1 x2 x7 x8 ((bt x2 x11) == x8) (wrap64 (x11 + 1))) else (none))) else (if x9 = true then (hustingsref10_of.l0 k x0 x1 x2 (wrap64 (x7 + 1))) else (some false))
end
def hustingsref10_of.f (k : Nat) (a0 : ByteArray) (a1 : ByteArray) (a2 : ByteArray) : Option (Bool) := hustingsref10_of.l0 k a0 a1 a2 0
theorem hustingsref10_of.mono_l : ∀ k, (∀ y0 y1 y2 y3, LeO (hustingsref10_of.l0 k y0 y1 y2 y3) (hustingsref10_of.l0 (k + 1) y0 y1 y2 y3)) ∧ (∀ y0 y1 y2 y3 y4 y5 y6, LeO (hustingsref10_of.l1 k y0 y1 y2 y3 y4 y5 y6) (hustingsref10_of.l1 (k + 1) y0 y1 y2 y3 y4 y5 y6)) ∧ (∀ y0 y1 y2 y3 y4 y5 y6, LeO (hustingsref10_of.l2 k y0 y1 y2 y3 y4 y5 y6) (hustingsref10_of.l2 (k + 1) y0 y1 y2 y3 y4 y5 y6))
  | 0 => ⟨fun _ _ _ _ r h => by simp [hustingsref10_of.l0] at h, fun _ _ _ _ _ _ _ r h => by simp [hustingsref10_of.l1] at h, fun _ _ _ _ _ _ _ r h => by simp [hustingsref10_of.l2] at h⟩
  | k + 1 => by
    obtain ⟨ih0, ih1, ih2⟩ := hustingsref10_of.mono_l k
    refine ⟨?_, ?_, ?_⟩
    · intro y0 y1 y2 y3
      unfold hustingsref10_of.l0
      repeat' first
      | (with_reducible exact ih0 _ _ _ _)
      | (with_reducible exact ih1 _ _ _ _ _ _ _)
      | (with_reducible exact ih2 _ _ _ _ _ _ _)
      | (with_reducible exact LeO.refl _)
      | (with_reducible exact LeO.none _)
      | (with_reducible refine LeO.ite ?_ ?_)
      | (with_reducible refine LeO.bind ?_ (fun _ => ?_))
      | exact ih0 _ _ _ _
      | exact ih1 _ _ _ _ _ _ _
      | exact ih2 _ _ _ _ _ _ _
      | exact LeO.none _
      | refine LeO.ite ?_ ?_
      | refine LeO.bind ?_ (fun _ => ?_)
    · intro y0 y1 y2 y3 y4 y5 y6
      unfold hustingsref10_of.l1
      repeat' first
      | (with_reducible exact ih0 _ _ _ _)
      | (with_reducible exact ih1 _ _ _ _ _ _ _)
      | (with_reducible exact ih2 _ _ _ _ _ _ _)
      | (with_reducible exact LeO.refl _)
      | (with_reducible exact LeO.none _)
      | (with_reducible refine LeO.ite ?_ ?_)
      | (with_reducible refine LeO.bind ?_ (fun _ => ?_))
      | exact ih0 _ _ _ _
      | exact ih1 _ _ _ _ _ _ _
      | exact ih2 _ _ _ _ _ _ _
      | exact LeO.none _
      | refine LeO.ite ?_ ?_
      | refine LeO.bind ?_ (fun _ => ?_)
    · intro y0 y1 y2 y3 y4 y5 y6
      unfold hustingsref10_of.l2
      repeat' first
      | (with_reducible exact ih0 _ _ _ _)
      | (with_reducible exact ih1 _ _ _ _ _ _ _)
      | (with_reducible exact ih2 _ _ _ _ _ _ _)
      | (with_reducible exact LeO.refl _)
      | (with_reducible exact LeO.none _)
      | (with_reducible refine LeO.ite ?_ ?_)
      | (with_reducible refine LeO.bind ?_ (fun _ => ?_))
      | exact ih0 _ _ _ _
      | exact ih1 _ _ _ _ _ _ _
      | exact ih2 _ _ _ _ _ _ _
      | exact LeO.none _
      | refine LeO.ite ?_ ?_
      | refine LeO.bind ?_ (fun _ => ?_)
theorem hustingsref10_of.mono : ∀ a0 a1 a2 k, LeO (hustingsref10_of.f k a0 a1 a2) (hustingsref10_of.f (k + 1) a0 a1 a2) := by
  intro a0 a1 a2 k
  obtain ⟨ih0, ih1, ih2⟩ := hustingsref10_of.mono_l k
  unfold hustingsref10_of.f
  repeat' first
      | (with_reducible exact ih0 _ _ _ _)
      | (with_reducible exact ih1 _ _ _ _ _ _ _)
      | (with_reducible exact ih2 _ _ _ _ _ _ _)
      | (with_reducible exact LeO.refl _)
      | (with_reducible exact LeO.none _)
      | (with_reducible refine LeO.ite ?_ ?_)
      | (with_reducible refine LeO.bind ?_ (fun _ => ?_))
      | exact ih0 _ _ _ _
      | exact ih1 _ _ _ _ _ _ _
      | exact ih2 _ _ _ _ _ _ _
      | exact LeO.none _
      | refine LeO.ite ?_ ?_
      | refine LeO.bind ?_ (fun _ => ?_)
set_option maxHeartbeats 8000000 in
set_option maxRecDepth 100000 in
theorem hustingsref10_of.calls (k : Nat) (a0 : ByteArray) (a1 : ByteArray) (a2 : ByteArray) (r : Bool) (w : World) (h : hustingsref10_of.f k a0 a1 a2 = some r) :
    Calls Try.prog 76 #[.string a0, .string a1, .string a2] w fun e w' => e = .returned (.bool r) ∧ Drawn0 w w' := by
  have H : (hustingsref10_of.l0 k a0 a1 a2 0) = some r := h
  clear h
  have H' := Aside0.mk H
  clear H
  go_enter Try.func76, Try.ntmps76
  go_wp2
  go_loopg [7] k (fun kq v7 w' => ∃ (x7_1 : Int), v7 = .int .i64 x7_1 ∧ Aside0 (hustingsref10_of.l0 kq a0 a1 a2 x7_1 = some r) ∧ Aside0 (kq ≤ k) ∧ Drawn0 w w')
  case atStart => exact ⟨(0), (by first | rfl | (simp; done) | (simp [*]; done)), H', ⟨Nat.le_refl _⟩, by repeat (first | exact Drawn0.refl _ | apply Drawn0.step)⟩
  case round =>
    clear H'
    try clear p2
    obtain ⟨x7_1, rfl, HA, HK1, ⟨m1, rfl⟩⟩ := hrel
    cases gk with
    | zero => exact absurd HA.out (by simp [hustingsref10_of.l0])
    | succ k1 =>
      have H := HA.out
      clear HA
      simp only [hustingsref10_of.l0] at H
      by_cases c4 : x7_1 < (a0.size : Int)
      · rw [if_pos c4] at H
        have c4b0 : decide (x7_1 < (a0.size : Int)) = true := decide_eq_true c4
        clear c4
        by_cases c5 : 0 ≤ x7_1
        · rw [if_pos c5] at H
          have c5b0 : decide (0 ≤ x7_1) = true := decide_eq_true c5
          clear c5
          have H' := Aside0.mk H
          clear H
          have p6 : 0 ≤ (x7_1 : Int) := of_decide_eq_true (by first | (with_reducible assumption) | assumption)
          have q6 : x7_1 < (a0.size : Int) := of_decide_eq_true (by first | (with_reducible assumption) | assumption)
          have hx6 := bt_at a0 x7_1
          replace p6 := eq_true p6
          replace q6 := eq_true q6
          go_wp2
          go_loopg [9, 10] k1 (fun kq v9 v10 w' => ∃ (x9_2 : Bool) (x10_2 : Int), v9 = .bool x9_2 ∧ v10 = .int .i64 x10_2 ∧ Aside0 (hustingsref10_of.l1 kq a0 a1 a2 x7_1 (bt a0 x7_1) x9_2 x10_2 = some r) ∧ Aside0 (kq ≤ k1) ∧ Drawn0 w w')
          case atStart => exact ⟨(false), (0), (by first | rfl | (simp; done) | (simp [*]; done)), (by first | rfl | (simp; done) | (simp [*]; done)), H', ⟨Nat.le_refl _⟩, by repeat (first | exact Drawn0.refl _ | apply Drawn0.step)⟩
          case round =>
            clear H'
            try clear p2
            try clear c4
            try clear c4b0
            try clear c5
            try clear c5b0
            try clear p6
            try clear q6
            try clear hx6
            try clear p2
            try clear p6
            try clear q6
            obtain ⟨x9_2, x10_2, rfl, rfl, HA, HK2, ⟨m2, rfl⟩⟩ := hrel
            cases gk with
            | zero => exact absurd HA.out (by simp [hustingsref10_of.l1])
            | succ k2 =>
              have H := HA.out
              clear HA
              simp only [hustingsref10_of.l1] at H
              by_cases c7 : x10_2 < (a1.size : Int)
              · rw [if_pos c7] at H
                have c7b0 : decide (x10_2 < (a1.size : Int)) = true := decide_eq_true c7
                clear c7
                by_cases c8 : x9_2 = true
                · subst c8
                  have H1 : (hustingsref10_of.l1 k2 a0 a1 a2 x7_1 (bt a0 x7_1) true (wrap64 (x10_2 + 1))) = some r := by rw [if_pos rfl] at H; exact H
                  clear H
                  have H := H1
                  clear H1
                  have H' := Aside0.mk H
                  clear H
                  go_wp2
                  go_roundg k2
                  case measure => have := HK1.out; have := HK2.out; omega
                  case rel => exact ⟨(true), (wrap64 (x10_2 + 1)), (by first | rfl | (simp; done) | (simp [*]; done)), (by first | rfl | (simp; done) | (simp [*]; done)), H', ⟨by have := HK1.out; have := HK2.out; omega⟩, by repeat (first | exact Drawn0.refl _ | apply Drawn0.step)⟩
                · replace c8 := Bool.eq_false_iff.mpr c8
                  subst c8
                  have H1 : (if 0 ≤ x10_2 then (if (bt a1 x10_2) = 97 then (if (bt a0 x7_1) ≥ 97 then (if (bt a0 x7_1) ≤ 122 then (hustingsref10_of.l1 k2 a0 a1 a2 x7_1 (bt a0 x7_1) true (wrap64 (x10_2 + 1))) else (if (bt a1 x10_2) = 65 then (if (bt a0 x7_1) ≥ 65 then (if (bt a0 x7_1) ≤ 90 then (hustingsref10_of.l1 k2 a0 a1 a2 x7_1 (bt a0 x7_1) true (wrap64 (x10_2 + 1))) else (if (bt a1 x10_2) = 48 then (if (bt a0 x7_1) ≥ 48 then (hustingsref10_of.l1 k2 a0 a1 a2 x7_1 (bt a0 x7_1) (decide ((bt a0 x7_1) ≤ 57)) (wrap64 (x10_2 + 1))) else (hustingsref10_of.l1 k2 a0 a1 a2 x7_1 (bt a0 x7_1) false (wrap64 (x10_2 + 1)))) else (hustingsref10_of.l1 k2 a0 a1 a2 x7_1 (bt a0 x7_1) false (wrap64 (x10_2 + 1))))) else (if (bt a1 x10_2) = 48 then (if (bt a0 x7_1) ≥ 48 then (hustingsref10_of.l1 k2 a0 a1 a2 x7_1 (bt a0 x7_1) (decide ((bt a0 x7_1) ≤ 57)) (wrap64 (x10_2 + 1))) else (hustingsref10_of.l1 k2 a0 a1 a2 x7_1 (bt a0 x7_1) false (wrap64 (x10_2 + 1)))) else (hustingsref10_of.l1 k2 a0 a1 a2 x7_1 (bt a0 x7_1) false (wrap64 (x10_2 + 1))))) else (if (bt a1 x10_2) = 48 then (if (bt a0 x7_1) ≥ 48 then (hustingsref10_of.l1 k2 a0 a1 a2 x7_1 (bt a0 x7_1) (decide ((bt a0 x7_1) ≤ 57)) (wrap64 (x10_2 + 1))) else (hustingsref10_of.l1 k2 a0 a1 a2 x7_1 (bt a0 x7_1) false (wrap64 (x10_2 + 1)))) else (hustingsref10_of.l1 k2 a0 a1 a2 x7_1 (bt a0 x7_1) false (wrap64 (x10_2 + 1)))))) else (if (bt a1 x10_2) = 65 then (if (bt a0 x7_1) ≥ 65 then (if (bt a0 x7_1) ≤ 90 then (hustingsref10_of.l1 k2 a0 a1 a2 x7_1 (bt a0 x7_1) true (wrap64 (x10_2 + 1))) else (if (bt a1 x10_2) = 48 then (if (bt a0 x7_1) ≥ 48 then (hustingsref10_of.l1 k2 a0 a1 a2 x7_1 (bt a0 x7_1) (decide ((bt a0 x7_1) ≤ 57)) (wrap64 (x10_2 + 1))) else (hustingsref10_of.l1 k2 a0 a1 a2 x7_1 (bt a0 x7_1) false (wrap64 (x10_2 + 1)))) else (hustingsref10_of.l1 k2 a0 a1 a2 x7_1 (bt a0 x7_1) false (wrap64 (x10_2 + 1))))) else (if (bt a1 x10_2) = 48 then (if (bt a0 x7_1) ≥ 48 then (hustingsref10_of.l1 k2 a0 a1 a2 x7_1 (bt a0 x7_1) (decide ((bt a0 x7_1) ≤ 57)) (wrap64 (x10_2 + 1))) else (hustingsref10_of.l1 k2 a0 a1 a2 x7_1 (bt a0 x7_1) false (wrap64 (x10_2 + 1)))) else (hustingsref10_of.l1 k2 a0 a1 a2 x7_1 (bt a0 x7_1) false (wrap64 (x10_2 + 1))))) else (if (bt a1 x10_2) = 48 then (if (bt a0 x7_1) ≥ 48 then (hustingsref10_of.l1 k2 a0 a1 a2 x7_1 (bt a0 x7_1) (decide ((bt a0 x7_1) ≤ 57)) (wrap64 (x10_2 + 1))) else (hustingsref10_of.l1 k2 a0 a1 a2 x7_1 (bt a0 x7_1) false (wrap64 (x10_2 + 1)))) else (hustingsref10_of.l1 k2 a0 a1 a2 x7_1 (bt a0 x7_1) false (wrap64 (x10_2 + 1)))))) else (if (bt a1 x10_2) = 65 then (if (bt a0 x7_1) ≥ 65 then (if (bt a0 x7_1) ≤ 90 then (hustingsref10_of.l1 k2 a0 a1 a2 x7_1 (bt a0 x7_1) true (wrap64 (x10_2 + 1))) else (if (bt a1 x10_2) = 48 then (if (bt a0 x7_1) ≥ 48 then (hustingsref10_of.l1 k2 a0 a1 a2 x7_1 (bt a0 x7_1) (decide ((bt a0 x7_1) ≤ 57)) (wrap64 (x10_2 + 1))) else (hustingsref10_of.l1 k2 a0 a1 a2 x7_1 (bt a0 x7_1) false (wrap64 (x10_2 + 1)))) else (hustingsref10_of.l1 k2 a0 a1 a2 x7_1 (bt a0 x7_1) false (wrap64 (x10_2 + 1))))) else (if (bt a1 x10_2) = 48 then (if (bt a0 x7_1) ≥ 48 then (hustingsref10_of.l1 k2 a0 a1 a2 x7_1 (bt a0 x7_1) (decide ((bt a0 x7_1) ≤ 57)) (wrap64 (x10_2 + 1))) else (hustingsref10_of.l1 k2 a0 a1 a2 x7_1 (bt a0 x7_1) false (wrap64 (x10_2 + 1)))) else (hustingsref10_of.l1 k2 a0 a1 a2 x7_1 (bt a0 x7_1) false (wrap64 (x10_2 + 1))))) else (if (bt a1 x10_2) = 48 then (if (bt a0 x7_1) ≥ 48 then (hustingsref10_of.l1 k2 a0 a1 a2 x7_1 (bt a0 x7_1) (decide ((bt a0 x7_1) ≤ 57)) (wrap64 (x10_2 + 1))) else (hustingsref10_of.l1 k2 a0 a1 a2 x7_1 (bt a0 x7_1) false (wrap64 (x10_2 + 1)))) else (hustingsref10_of.l1 k2 a0 a1 a2 x7_1 (bt a0 x7_1) false (wrap64 (x10_2 + 1)))))) else (none)) = some r := by rw [if_neg (show ¬ (false = true) by decide)] at H; exact H
                  clear H
                  have H := H1
                  clear H1
                  by_cases c9 : 0 ≤ x10_2
                  · rw [if_pos c9] at H
                    have c9b0 : decide (0 ≤ x10_2) = true := decide_eq_true c9
                    clear c9
                    by_cases c11 : (bt a1 x10_2) = 97
                    · rw [if_pos c11] at H
                      have c11b0 : ((bt a1 x10_2) == 97) = true := beq_iff_eq.mpr c11
                      have c11b1 : ((bt a1 x10_2) != 97) = false := bne_eq_false_iff_eq.mpr c11
                      clear c11
                      by_cases c12 : (bt a0 x7_1) ≥ 97
                      · rw [if_pos c12] at H
                        have c12b0 : decide (97 ≤ (bt a0 x7_1)) = true := decide_eq_true c12
                        clear c12
                        by_cases c13 : (bt a0 x7_1) ≤ 122
                        · rw [if_pos c13] at H
                          have c13b0 : decide ((bt a0 x7_1) ≤ 122) = true := decide_eq_true c13
                          clear c13
                          have H' := Aside0.mk H
                          clear H
                          have p10 : 0 ≤ (x10_2 : Int) := of_decide_eq_true (by first | (with_reducible assumption) | assumption)
                          have q10 : x10_2 < (a1.size : Int) := of_decide_eq_true (by first | (with_reducible assumption) | assumption)
                          have hx10 := bt_at a1 x10_2
                          replace p10 := eq_true p10
                          replace q10 := eq_true q10
                          go_wp2
                          go_roundg k2
                          case measure => have := HK1.out; have := HK2.out; omega
                          case rel => exact ⟨(true), (wrap64 (x10_2 + 1)), (by first | rfl | (simp; done) | (simp [*]; done)), (by first | rfl | (simp; done) | (simp [*]; done)), H', ⟨by have := HK1.out; have := HK2.out; omega⟩, by repeat (first | exact Drawn0.refl _ | apply Drawn0.step)⟩
                        · rw [if_neg c13] at H
                          have c13b0 : decide ((bt a0 x7_1) ≤ 122) = false := decide_eq_false c13
                          clear c13
                          by_cases c15 : (bt a1 x10_2) = 65
                          · rw [if_pos c15] at H
                            have c15b0 : ((bt a1 x10_2) == 65) = true := beq_iff_eq.mpr c15
                            have c15b1 : ((bt a1 x10_2) != 65) = false := bne_eq_false_iff_eq.mpr c15
                            clear c15
                            by_cases c16 : (bt a0 x7_1) ≥ 65
                            · rw [if_pos c16] at H
                              have c16b0 : decide (65 ≤ (bt a0 x7_1)) = true := decide_eq_true c16
                              clear c16
                              by_cases c17 : (bt a0 x7_1) ≤ 90
                              · rw [if_pos c17] at H
                                have c17b0 : decide ((bt a0 x7_1) ≤ 90) = true := decide_eq_true c17
                                clear c17
                                have H' := Aside0.mk H
                                clear H
                                have p10 : 0 ≤ (x10_2 : Int) := of_decide_eq_true (by first | (with_reducible assumption) | assumption)
                                have q10 : x10_2 < (a1.size : Int) := of_decide_eq_true (by first | (with_reducible assumption) | assumption)
                                have hx10 := bt_at a1 x10_2
                                replace p10 := eq_true p10
                                replace q10 := eq_true q10
                                have p14 : 0 ≤ (x10_2 : Int) := of_decide_eq_true (by first | (with_reducible assumption) | assumption)
                                have q14 : x10_2 < (a1.size : Int) := of_decide_eq_true (by first | (with_reducible assumption) | assumption)
                                have hx14 := bt_at a1 x10_2
                                replace p14 := eq_true p14
                                replace q14 := eq_true q14
                                go_wp2
                                go_roundg k2
                                case measure => have := HK1.out; have := HK2.out; omega
                                case rel => exact ⟨(true), (wrap64 (x10_2 + 1)), (by first | rfl | (simp; done) | (simp [*]; done)), (by first | rfl | (simp; done) | (simp [*]; done)), H', ⟨by have := HK1.out; have := HK2.out; omega⟩, by repeat (first | exact Drawn0.refl _ | apply Drawn0.step)⟩
                              · rw [if_neg c17] at H
                                have c17b0 : decide ((bt a0 x7_1) ≤ 90) = false := decide_eq_false c17
                                clear c17
                                by_cases c19 : (bt a1 x10_2) = 48
                                · rw [if_pos c19] at H
                                  have c19b0 : ((bt a1 x10_2) == 48) = true := beq_iff_eq.mpr c19
                                  have c19b1 : ((bt a1 x10_2) != 48) = false := bne_eq_false_iff_eq.mpr c19
                                  clear c19
                                  by_cases c20 : (bt a0 x7_1) ≥ 48
                                  · rw [if_pos c20] at H
                                    have c20b0 : decide (48 ≤ (bt a0 x7_1)) = true := decide_eq_true c20
                                    clear c20
                                    have H' := Aside0.mk H
                                    clear H
                                    have p10 : 0 ≤ (x10_2 : Int) := of_decide_eq_true (by first | (with_reducible assumption) | assumption)
                                    have q10 : x10_2 < (a1.size : Int) := of_decide_eq_true (by first | (with_reducible assumption) | assumption)
                                    have hx10 := bt_at a1 x10_2
                                    replace p10 := eq_true p10
                                    replace q10 := eq_true q10
                                    have p14 : 0 ≤ (x10_2 : Int) := of_decide_eq_true (by first | (with_reducible assumption) | assumption)
                                    have q14 : x10_2 < (a1.size : Int) := of_decide_eq_true (by first | (with_reducible assumption) | assumption)
                                    have hx14 := bt_at a1 x10_2
                                    replace p14 := eq_true p14
                                    replace q14 := eq_true q14
                                    have p18 : 0 ≤ (x10_2 : Int) := of_decide_eq_true (by first | (with_reducible assumption) | assumption)
                                    have q18 : x10_2 < (a1.size : Int) := of_decide_eq_true (by first | (with_reducible assumption) | assumption)
                                    have hx18 := bt_at a1 x10_2
                                    replace p18 := eq_true p18
                                    replace q18 := eq_true q18
                                    go_wp2
                                    go_roundg k2
                                    case measure => have := HK1.out; have := HK2.out; omega
                                    case rel => exact ⟨(decide ((bt a0 x7_1) ≤ 57)), (wrap64 (x10_2 + 1)), (by first | rfl | (simp; done) | (simp [*]; done)), (by first | rfl | (simp; done) | (simp [*]; done)), H', ⟨by have := HK1.out; have := HK2.out; omega⟩, by repeat (first | exact Drawn0.refl _ | apply Drawn0.step)⟩
                                  · rw [if_neg c20] at H
                                    have c20b0 : decide (48 ≤ (bt a0 x7_1)) = false := decide_eq_false c20
                                    clear c20
                                    have H' := Aside0.mk H
                                    clear H
                                    have p10 : 0 ≤ (x10_2 : Int) := of_decide_eq_true (by first | (with_reducible assumption) | assumption)
                                    have q10 : x10_2 < (a1.size : Int) := of_decide_eq_true (by first | (with_reducible assumption) | assumption)
                                    have hx10 := bt_at a1 x10_2
                                    replace p10 := eq_true p10
                                    replace q10 := eq_true q10
                                    have p14 : 0 ≤ (x10_2 : Int) := of_decide_eq_true (by first | (with_reducible assumption) | assumption)
                                    have q14 : x10_2 < (a1.size : Int) := of_decide_eq_true (by first | (with_reducible assumption) | assumption)
                                    have hx14 := bt_at a1 x10_2
                                    replace p14 := eq_true p14
                                    replace q14 := eq_true q14
                                    have p18 : 0 ≤ (x10_2 : Int) := of_decide_eq_true (by first | (with_reducible assumption) | assumption)
                                    have q18 : x10_2 < (a1.size : Int) := of_decide_eq_true (by first | (with_reducible assumption) | assumption)
                                    have hx18 := bt_at a1 x10_2
                                    replace p18 := eq_true p18
                                    replace q18 := eq_true q18
                                    go_wp2
                                    go_roundg k2
                                    case measure => have := HK1.out; have := HK2.out; omega
                                    case rel => exact ⟨(false), (wrap64 (x10_2 + 1)), (by first | rfl | (simp; done) | (simp [*]; done)), (by first | rfl | (simp; done) | (simp [*]; done)), H', ⟨by have := HK1.out; have := HK2.out; omega⟩, by repeat (first | exact Drawn0.refl _ | apply Drawn0.step)⟩
                                · rw [if_neg c19] at H
                                  have c19b0 : ((bt a1 x10_2) == 48) = false := beq_eq_false_iff_ne.mpr c19
                                  have c19b1 : ((bt a1 x10_2) != 48) = true := bne_iff_ne.mpr c19
                                  have H' := Aside0.mk H
                                  clear H
                                  have p10 : 0 ≤ (x10_2 : Int) := of_decide_eq_true (by first | (with_reducible assumption) | assumption)
                                  have q10 : x10_2 < (a1.size : Int) := of_decide_eq_true (by first | (with_reducible assumption) | assumption)
                                  have hx10 := bt_at a1 x10_2
                                  replace p10 := eq_true p10
                                  replace q10 := eq_true q10
                                  have p14 : 0 ≤ (x10_2 : Int) := of_decide_eq_true (by first | (with_reducible assumption) | assumption)
                                  have q14 : x10_2 < (a1.size : Int) := of_decide_eq_true (by first | (with_reducible assumption) | assumption)
                                  have hx14 := bt_at a1 x10_2
                                  replace p14 := eq_true p14
                                  replace q14 := eq_true q14
                                  have p18 : 0 ≤ (x10_2 : Int) := of_decide_eq_true (by first | (with_reducible assumption) | assumption)
                                  have q18 : x10_2 < (a1.size : Int) := of_decide_eq_true (by first | (with_reducible assumption) | assumption)
                                  have hx18 := bt_at a1 x10_2
                                  replace p18 := eq_true p18
                                  replace q18 := eq_true q18
                                  go_wp2
                                  go_roundg k2
                                  case measure => have := HK1.out; have := HK2.out; omega
                                  case rel => exact ⟨(false), (wrap64 (x10_2 + 1)), (by first | rfl | (simp; done) | (simp [*]; done)), (by first | rfl | (simp; done) | (simp [*]; done)), H', ⟨by have := HK1.out; have := HK2.out; omega⟩, by repeat (first | exact Drawn0.refl _ | apply Drawn0.step)⟩
                            · rw [if_neg c16] at H
                              have c16b0 : decide (65 ≤ (bt a0 x7_1)) = false := decide_eq_false c16
                              clear c16
                              by_cases c22 : (bt a1 x10_2) = 48
                              · rw [if_pos c22] at H
                                have c22b0 : ((bt a1 x10_2) == 48) = true := beq_iff_eq.mpr c22
                                have c22b1 : ((bt a1 x10_2) != 48) = false := bne_eq_false_iff_eq.mpr c22
                                clear c22
                                by_cases c23 : (bt a0 x7_1) ≥ 48
                                · rw [if_pos c23] at H
                                  have c23b0 : decide (48 ≤ (bt a0 x7_1)) = true := decide_eq_true c23
                                  clear c23
                                  have H' := Aside0.mk H
                                  clear H
                                  have p10 : 0 ≤ (x10_2 : Int) := of_decide_eq_true (by first | (with_reducible assumption) | assumption)
                                  have q10 : x10_2 < (a1.size : Int) := of_decide_eq_true (by first | (with_reducible assumption) | assumption)
                                  have hx10 := bt_at a1 x10_2
                                  replace p10 := eq_true p10
                                  replace q10 := eq_true q10
                                  have p14 : 0 ≤ (x10_2 : Int) := of_decide_eq_true (by first | (with_reducible assumption) | assumption)
                                  have q14 : x10_2 < (a1.size : Int) := of_decide_eq_true (by first | (with_reducible assumption) | assumption)
                                  have hx14 := bt_at a1 x10_2
                                  replace p14 := eq_true p14
                                  replace q14 := eq_true q14
                                  have p21 : 0 ≤ (x10_2 : Int) := of_decide_eq_true (by first | (with_reducible assumption) | assumption)
                                  have q21 : x10_2 < (a1.size : Int) := of_decide_eq_true (by first | (with_reducible assumption) | assumption)
                                  have hx21 := bt_at a1 x10_2
                                  replace p21 := eq_true p21
                                  replace q21 := eq_true q21
                                  go_wp2
                                  go_roundg k2
                                  case measure => have := HK1.out; have := HK2.out; omega
                                  case rel => exact ⟨(decide ((bt a0 x7_1) ≤ 57)), (wrap64 (x10_2 + 1)), (by first | rfl | (simp; done) | (simp [*]; done)), (by first | rfl | (simp; done) | (simp [*]; done)), H', ⟨by have := HK1.out; have := HK2.out; omega⟩, by repeat (first | exact Drawn0.refl _ | apply Drawn0.step)⟩
                                · rw [if_neg c23] at H
                                  have c23b0 : decide (48 ≤ (bt a0 x7_1)) = false := decide_eq_false c23
                                  clear c23
                                  have H' := Aside0.mk H
                                  clear H
                                  have p10 : 0 ≤ (x10_2 : Int) := of_decide_eq_true (by first | (with_reducible assumption) | assumption)
                                  have q10 : x10_2 < (a1.size : Int) := of_decide_eq_true (by first | (with_reducible assumption) | assumption)
                                  have hx10 := bt_at a1 x10_2
                                  replace p10 := eq_true p10
                                  replace q10 := eq_true q10
                                  have p14 : 0 ≤ (x10_2 : Int) := of_decide_eq_true (by first | (with_reducible assumption) | assumption)
                                  have q14 : x10_2 < (a1.size : Int) := of_decide_eq_true (by first | (with_reducible assumption) | assumption)
                                  have hx14 := bt_at a1 x10_2
                                  replace p14 := eq_true p14
                                  replace q14 := eq_true q14
                                  have p21 : 0 ≤ (x10_2 : Int) := of_decide_eq_true (by first | (with_reducible assumption) | assumption)
                                  have q21 : x10_2 < (a1.size : Int) := of_decide_eq_true (by first | (with_reducible assumption) | assumption)
                                  have hx21 := bt_at a1 x10_2
                                  replace p21 := eq_true p21
                                  replace q21 := eq_true q21
                                  go_wp2
                                  go_roundg k2
                                  case measure => have := HK1.out; have := HK2.out; omega
                                  case rel => exact ⟨(false), (wrap64 (x10_2 + 1)), (by first | rfl | (simp; done) | (simp [*]; done)), (by first | rfl | (simp; done) | (simp [*]; done)), H', ⟨by have := HK1.out; have := HK2.out; omega⟩, by repeat (first | exact Drawn0.refl _ | apply Drawn0.step)⟩
                              · rw [if_neg c22] at H
                                have c22b0 : ((bt a1 x10_2) == 48) = false := beq_eq_false_iff_ne.mpr c22
                                have c22b1 : ((bt a1 x10_2) != 48) = true := bne_iff_ne.mpr c22
                                have H' := Aside0.mk H
                                clear H
                                have p10 : 0 ≤ (x10_2 : Int) := of_decide_eq_true (by first | (with_reducible assumption) | assumption)
                                have q10 : x10_2 < (a1.size : Int) := of_decide_eq_true (by first | (with_reducible assumption) | assumption)
                                have hx10 := bt_at a1 x10_2
                                replace p10 := eq_true p10
                                replace q10 := eq_true q10
                                have p14 : 0 ≤ (x10_2 : Int) := of_decide_eq_true (by first | (with_reducible assumption) | assumption)
                                have q14 : x10_2 < (a1.size : Int) := of_decide_eq_true (by first | (with_reducible assumption) | assumption)
                                have hx14 := bt_at a1 x10_2
                                replace p14 := eq_true p14
                                replace q14 := eq_true q14
                                have p21 : 0 ≤ (x10_2 : Int) := of_decide_eq_true (by first | (with_reducible assumption) | assumption)
                                have q21 : x10_2 < (a1.size : Int) := of_decide_eq_true (by first | (with_reducible assumption) | assumption)
                                have hx21 := bt_at a1 x10_2
                                replace p21 := eq_true p21
                                replace q21 := eq_true q21
                                go_wp2
                                go_roundg k2
                                case measure => have := HK1.out; have := HK2.out; omega
                                case rel => exact ⟨(false), (wrap64 (x10_2 + 1)), (by first | rfl | (simp; done) | (simp [*]; done)), (by first | rfl | (simp; done) | (simp [*]; done)), H', ⟨by have := HK1.out; have := HK2.out; omega⟩, by repeat (first | exact Drawn0.refl _ | apply Drawn0.step)⟩
                          · rw [if_neg c15] at H
                            have c15b0 : ((bt a1 x10_2) == 65) = false := beq_eq_false_iff_ne.mpr c15
                            have c15b1 : ((bt a1 x10_2) != 65) = true := bne_iff_ne.mpr c15
                            by_cases c25 : (bt a1 x10_2) = 48
                            · rw [if_pos c25] at H
                              have c25b0 : ((bt a1 x10_2) == 48) = true := beq_iff_eq.mpr c25
                              have c25b1 : ((bt a1 x10_2) != 48) = false := bne_eq_false_iff_eq.mpr c25
                              clear c25
                              by_cases c26 : (bt a0 x7_1) ≥ 48
                              · rw [if_pos c26] at H
                                have c26b0 : decide (48 ≤ (bt a0 x7_1)) = true := decide_eq_true c26
                                clear c26
                                have H' := Aside0.mk H
                                clear H
                                have p10 : 0 ≤ (x10_2 : Int) := of_decide_eq_true (by first | (with_reducible assumption) | assumption)
                                have q10 : x10_2 < (a1.size : Int) := of_decide_eq_true (by first | (with_reducible assumption) | assumption)
                                have hx10 := bt_at a1 x10_2
                                replace p10 := eq_true p10
                                replace q10 := eq_true q10
                                have p14 : 0 ≤ (x10_2 : Int) := of_decide_eq_true (by first | (with_reducible assumption) | assumption)
                                have q14 : x10_2 < (a1.size : Int) := of_decide_eq_true (by first | (with_reducible assumption) | assumption)
                                have hx14 := bt_at a1 x10_2
                                replace p14 := eq_true p14
                                replace q14 := eq_true q14
                                have p24 : 0 ≤ (x10_2 : Int) := of_decide_eq_true (by first | (with_reducible assumption) | assumption)
                                have q24 : x10_2 < (a1.size : Int) := of_decide_eq_true (by first | (with_reducible assumption) | assumption)
                                have hx24 := bt_at a1 x10_2
                                replace p24 := eq_true p24
                                replace q24 := eq_true q24
                                go_wp2
                                go_roundg k2
                                case measure => have := HK1.out; have := HK2.out; omega
                                case rel => exact ⟨(decide ((bt a0 x7_1) ≤ 57)), (wrap64 (x10_2 + 1)), (by first | rfl | (simp; done) | (simp [*]; done)), (by first | rfl | (simp; done) | (simp [*]; done)), H', ⟨by have := HK1.out; have := HK2.out; omega⟩, by repeat (first | exact Drawn0.refl _ | apply Drawn0.step)⟩
                              · rw [if_neg c26] at H
                                have c26b0 : decide (48 ≤ (bt a0 x7_1)) = false := decide_eq_false c26
                                clear c26
                                have H' := Aside0.mk H
                                clear H
                                have p10 : 0 ≤ (x10_2 : Int) := of_decide_eq_true (by first | (with_reducible assumption) | assumption)
                                have q10 : x10_2 < (a1.size : Int) := of_decide_eq_true (by first | (with_reducible assumption) | assumption)
                                have hx10 := bt_at a1 x10_2
                                replace p10 := eq_true p10
                                replace q10 := eq_true q10
                                have p14 : 0 ≤ (x10_2 : Int) := of_decide_eq_true (by first | (with_reducible assumption) | assumption)
                                have q14 : x10_2 < (a1.size : Int) := of_decide_eq_true (by first | (with_reducible assumption) | assumption)
                                have hx14 := bt_at a1 x10_2
                                replace p14 := eq_true p14
                                replace q14 := eq_true q14
                                have p24 : 0 ≤ (x10_2 : Int) := of_decide_eq_true (by first | (with_reducible assumption) | assumption)
                                have q24 : x10_2 < (a1.size : Int) := of_decide_eq_true (by first | (with_reducible assumption) | assumption)
                                have hx24 := bt_at a1 x10_2
                                replace p24 := eq_true p24
                                replace q24 := eq_true q24
                                go_wp2
                                go_roundg k2
                                case measure => have := HK1.out; have := HK2.out; omega
                                case rel => exact ⟨(false), (wrap64 (x10_2 + 1)), (by first | rfl | (simp; done) | (simp [*]; done)), (by first | rfl | (simp; done) | (simp [*]; done)), H', ⟨by have := HK1.out; have := HK2.out; omega⟩, by repeat (first | exact Drawn0.refl _ | apply Drawn0.step)⟩
                            · rw [if_neg c25] at H
                              have c25b0 : ((bt a1 x10_2) == 48) = false := beq_eq_false_iff_ne.mpr c25
                              have c25b1 : ((bt a1 x10_2) != 48) = true := bne_iff_ne.mpr c25
                              have H' := Aside0.mk H
                              clear H
                              have p10 : 0 ≤ (x10_2 : Int) := of_decide_eq_true (by first | (with_reducible assumption) | assumption)
                              have q10 : x10_2 < (a1.size : Int) := of_decide_eq_true (by first | (with_reducible assumption) | assumption)
                              have hx10 := bt_at a1 x10_2
                              replace p10 := eq_true p10
                              replace q10 := eq_true q10
                              have p14 : 0 ≤ (x10_2 : Int) := of_decide_eq_true (by first | (with_reducible assumption) | assumption)
                              have q14 : x10_2 < (a1.size : Int) := of_decide_eq_true (by first | (with_reducible assumption) | assumption)
                              have hx14 := bt_at a1 x10_2
                              replace p14 := eq_true p14
                              replace q14 := eq_true q14
                              have p24 : 0 ≤ (x10_2 : Int) := of_decide_eq_true (by first | (with_reducible assumption) | assumption)
                              have q24 : x10_2 < (a1.size : Int) := of_decide_eq_true (by first | (with_reducible assumption) | assumption)
                              have hx24 := bt_at a1 x10_2
                              replace p24 := eq_true p24
                              replace q24 := eq_true q24
                              go_wp2
                              go_roundg k2
                              case measure => have := HK1.out; have := HK2.out; omega
                              case rel => exact ⟨(false), (wrap64 (x10_2 + 1)), (by first | rfl | (simp; done) | (simp [*]; done)), (by first | rfl | (simp; done) | (simp [*]; done)), H', ⟨by have := HK1.out; have := HK2.out; omega⟩, by repeat (first | exact Drawn0.refl _ | apply Drawn0.step)⟩
                      · rw [if_neg c12] at H
                        have c12b0 : decide (97 ≤ (bt a0 x7_1)) = false := decide_eq_false c12
                        clear c12
                        by_cases c28 : (bt a1 x10_2) = 65
                        · rw [if_pos c28] at H
                          have c28b0 : ((bt a1 x10_2) == 65) = true := beq_iff_eq.mpr c28
                          have c28b1 : ((bt a1 x10_2) != 65) = false := bne_eq_false_iff_eq.mpr c28
                          clear c28
                          by_cases c29 : (bt a0 x7_1) ≥ 65
                          · rw [if_pos c29] at H
                            have c29b0 : decide (65 ≤ (bt a0 x7_1)) = true := decide_eq_true c29
                            clear c29
                            by_cases c30 : (bt a0 x7_1) ≤ 90
                            · rw [if_pos c30] at H
                              have c30b0 : decide ((bt a0 x7_1) ≤ 90) = true := decide_eq_true c30
                              clear c30
                              have H' := Aside0.mk H
                              clear H
                              have p10 : 0 ≤ (x10_2 : Int) := of_decide_eq_true (by first | (with_reducible assumption) | assumption)
                              have q10 : x10_2 < (a1.size : Int) := of_decide_eq_true (by first | (with_reducible assumption) | assumption)
                              have hx10 := bt_at a1 x10_2
                              replace p10 := eq_true p10
                              replace q10 := eq_true q10
                              have p27 : 0 ≤ (x10_2 : Int) := of_decide_eq_true (by first | (with_reducible assumption) | assumption)
                              have q27 : x10_2 < (a1.size : Int) := of_decide_eq_true (by first | (with_reducible assumption) | assumption)
                              have hx27 := bt_at a1 x10_2
                              replace p27 := eq_true p27
                              replace q27 := eq_true q27
                              go_wp2
                              go_roundg k2
                              case measure => have := HK1.out; have := HK2.out; omega
                              case rel => exact ⟨(true), (wrap64 (x10_2 + 1)), (by first | rfl | (simp; done) | (simp [*]; done)), (by first | rfl | (simp; done) | (simp [*]; done)), H', ⟨by have := HK1.out; have := HK2.out; omega⟩, by repeat (first | exact Drawn0.refl _ | apply Drawn0.step)⟩
                            · rw [if_neg c30] at H
                              have c30b0 : decide ((bt a0 x7_1) ≤ 90) = false := decide_eq_false c30
                              clear c30
                              by_cases c32 : (bt a1 x10_2) = 48
                              · rw [if_pos c32] at H
                                have c32b0 : ((bt a1 x10_2) == 48) = true := beq_iff_eq.mpr c32
                                have c32b1 : ((bt a1 x10_2) != 48) = false := bne_eq_false_iff_eq.mpr c32
                                clear c32
                                by_cases c33 : (bt a0 x7_1) ≥ 48
                                · rw [if_pos c33] at H
                                  have c33b0 : decide (48 ≤ (bt a0 x7_1)) = true := decide_eq_true c33
                                  clear c33
                                  have H' := Aside0.mk H
                                  clear H
                                  have p10 : 0 ≤ (x10_2 : Int) := of_decide_eq_true (by first | (with_reducible assumption) | assumption)
                                  have q10 : x10_2 < (a1.size : Int) := of_decide_eq_true (by first | (with_reducible assumption) | assumption)
                                  have hx10 := bt_at a1 x10_2
                                  replace p10 := eq_true p10
                                  replace q10 := eq_true q10
                                  have p27 : 0 ≤ (x10_2 : Int) := of_decide_eq_true (by first | (with_reducible assumption) | assumption)
                                  have q27 : x10_2 < (a1.size : Int) := of_decide_eq_true (by first | (with_reducible assumption) | assumption)
                                  have hx27 := bt_at a1 x10_2
                                  replace p27 := eq_true p27
                                  replace q27 := eq_true q27
                                  have p31 : 0 ≤ (x10_2 : Int) := of_decide_eq_true (by first | (with_reducible assumption) | assumption)
                                  have q31 : x10_2 < (a1.size : Int) := of_decide_eq_true (by first | (with_reducible assumption) | assumption)
                                  have hx31 := bt_at a1 x10_2
                                  replace p31 := eq_true p31
                                  replace q31 := eq_true q31
                                  go_wp2
                                  go_roundg k2
                                  case measure => have := HK1.out; have := HK2.out; omega
                                  case rel => exact ⟨(decide ((bt a0 x7_1) ≤ 57)), (wrap64 (x10_2 + 1)), (by first | rfl | (simp; done) | (simp [*]; done)), (by first | rfl | (simp; done) | (simp [*]; done)), H', ⟨by have := HK1.out; have := HK2.out; omega⟩, by repeat (first | exact Drawn0.refl _ | apply Drawn0.step)⟩
                                · rw [if_neg c33] at H
                                  have c33b0 : decide (48 ≤ (bt a0 x7_1)) = false := decide_eq_false c33
                                  clear c33
                                  have H' := Aside0.mk H
                                  clear H
                                  have p10 : 0 ≤ (x10_2 : Int) := of_decide_eq_true (by first | (with_reducible assumption) | assumption)
                                  have q10 : x10_2 < (a1.size : Int) := of_decide_eq_true (by first | (with_reducible assumption) | assumption)
                                  have hx10 := bt_at a1 x10_2
                                  replace p10 := eq_true p10
                                  replace q10 := eq_true q10
                                  have p27 : 0 ≤ (x10_2 : Int) := of_decide_eq_true (by first | (with_reducible assumption) | assumption)
                                  have q27 : x10_2 < (a1.size : Int) := of_decide_eq_true (by first | (with_reducible assumption) | assumption)
                                  have hx27 := bt_at a1 x10_2
                                  replace p27 := eq_true p27
                                  replace q27 := eq_true q27
                                  have p31 : 0 ≤ (x10_2 : Int) := of_decide_eq_true (by first | (with_reducible assumption) | assumption)
                                  have q31 : x10_2 < (a1.size : Int) := of_decide_eq_true (by first | (with_reducible assumption) | assumption)
                                  have hx31 := bt_at a1 x10_2
                                  replace p31 := eq_true p31
                                  replace q31 := eq_true q31
                                  go_wp2
                                  go_roundg k2
                                  case measure => have := HK1.out; have := HK2.out; omega
                                  case rel => exact ⟨(false), (wrap64 (x10_2 + 1)), (by first | rfl | (simp; done) | (simp [*]; done)), (by first | rfl | (simp; done) | (simp [*]; done)), H', ⟨by have := HK1.out; have := HK2.out; omega⟩, by repeat (first | exact Drawn0.refl _ | apply Drawn0.step)⟩
                              · rw [if_neg c32] at H
                                have c32b0 : ((bt a1 x10_2) == 48) = false := beq_eq_false_iff_ne.mpr c32
                                have c32b1 : ((bt a1 x10_2) != 48) = true := bne_iff_ne.mpr c32
                                have H' := Aside0.mk H
                                clear H
                                have p10 : 0 ≤ (x10_2 : Int) := of_decide_eq_true (by first | (with_reducible assumption) | assumption)
                                have q10 : x10_2 < (a1.size : Int) := of_decide_eq_true (by first | (with_reducible assumption) | assumption)
                                have hx10 := bt_at a1 x10_2
                                replace p10 := eq_true p10
                                replace q10 := eq_true q10
                                have p27 : 0 ≤ (x10_2 : Int) := of_decide_eq_true (by first | (with_reducible assumption) | assumption)
                                have q27 : x10_2 < (a1.size : Int) := of_decide_eq_true (by first | (with_reducible assumption) | assumption)
                                have hx27 := bt_at a1 x10_2
                                replace p27 := eq_true p27
                                replace q27 := eq_true q27
                                have p31 : 0 ≤ (x10_2 : Int) := of_decide_eq_true (by first | (with_reducible assumption) | assumption)
                                have q31 : x10_2 < (a1.size : Int) := of_decide_eq_true (by first | (with_reducible assumption) | assumption)
                                have hx31 := bt_at a1 x10_2
                                replace p31 := eq_true p31
                                replace q31 := eq_true q31
                                go_wp2
                                go_roundg k2
                                case measure => have := HK1.out; have := HK2.out; omega
                                case rel => exact ⟨(false), (wrap64 (x10_2 + 1)), (by first | rfl | (simp; done) | (simp [*]; done)), (by first | rfl | (simp; done) | (simp [*]; done)), H', ⟨by have := HK1.out; have := HK2.out; omega⟩, by repeat (first | exact Drawn0.refl _ | apply Drawn0.step)⟩
                          · rw [if_neg c29] at H
                            have c29b0 : decide (65 ≤ (bt a0 x7_1)) = false := decide_eq_false c29
                            clear c29
                            by_cases c35 : (bt a1 x10_2) = 48
                            · rw [if_pos c35] at H
                              have c35b0 : ((bt a1 x10_2) == 48) = true := beq_iff_eq.mpr c35
                              have c35b1 : ((bt a1 x10_2) != 48) = false := bne_eq_false_iff_eq.mpr c35
                              clear c35
                              by_cases c36 : (bt a0 x7_1) ≥ 48
                              · rw [if_pos c36] at H
                                have c36b0 : decide (48 ≤ (bt a0 x7_1)) = true := decide_eq_true c36
                                clear c36
                                have H' := Aside0.mk H
                                clear H
                                have p10 : 0 ≤ (x10_2 : Int) := of_decide_eq_true (by first | (with_reducible assumption) | assumption)
                                have q10 : x10_2 < (a1.size : Int) := of_decide_eq_true (by first | (with_reducible assumption) | assumption)
                                have hx10 := bt_at a1 x10_2
                                replace p10 := eq_true p10
                                replace q10 := eq_true q10
                                have p27 : 0 ≤ (x10_2 : Int) := of_decide_eq_true (by first | (with_reducible assumption) | assumption)
                                have q27 : x10_2 < (a1.size : Int) := of_decide_eq_true (by first | (with_reducible assumption) | assumption)
                                have hx27 := bt_at a1 x10_2
                                replace p27 := eq_true p27
                                replace q27 := eq_true q27
                                have p34 : 0 ≤ (x10_2 : Int) := of_decide_eq_true (by first | (with_reducible assumption) | assumption)
                                have q34 : x10_2 < (a1.size : Int) := of_decide_eq_true (by first | (with_reducible assumption) | assumption)
                                have hx34 := bt_at a1 x10_2
                                replace p34 := eq_true p34
                                replace q34 := eq_true q34
                                go_wp2
                                go_roundg k2
                                case measure => have := HK1.out; have := HK2.out; omega
                                case rel => exact ⟨(decide ((bt a0 x7_1) ≤ 57)), (wrap64 (x10_2 + 1)), (by first | rfl | (simp; done) | (simp [*]; done)), (by first | rfl | (simp; done) | (simp [*]; done)), H', ⟨by have := HK1.out; have := HK2.out; omega⟩, by repeat (first | exact Drawn0.refl _ | apply Drawn0.step)⟩
                              · rw [if_neg c36] at H
                                have c36b0 : decide (48 ≤ (bt a0 x7_1)) = false := decide_eq_false c36
                                clear c36
                                have H' := Aside0.mk H
                                clear H
                                have p10 : 0 ≤ (x10_2 : Int) := of_decide_eq_true (by first | (with_reducible assumption) | assumption)
                                have q10 : x10_2 < (a1.size : Int) := of_decide_eq_true (by first | (with_reducible assumption) | assumption)
                                have hx10 := bt_at a1 x10_2
                                replace p10 := eq_true p10
                                replace q10 := eq_true q10
                                have p27 : 0 ≤ (x10_2 : Int) := of_decide_eq_true (by first | (with_reducible assumption) | assumption)
                                have q27 : x10_2 < (a1.size : Int) := of_decide_eq_true (by first | (with_reducible assumption) | assumption)
                                have hx27 := bt_at a1 x10_2
                                replace p27 := eq_true p27
                                replace q27 := eq_true q27
                                have p34 : 0 ≤ (x10_2 : Int) := of_decide_eq_true (by first | (with_reducible assumption) | assumption)
                                have q34 : x10_2 < (a1.size : Int) := of_decide_eq_true (by first | (with_reducible assumption) | assumption)
                                have hx34 := bt_at a1 x10_2
                                replace p34 := eq_true p34
                                replace q34 := eq_true q34
                                go_wp2
                                go_roundg k2
                                case measure => have := HK1.out; have := HK2.out; omega
                                case rel => exact ⟨(false), (wrap64 (x10_2 + 1)), (by first | rfl | (simp; done) | (simp [*]; done)), (by first | rfl | (simp; done) | (simp [*]; done)), H', ⟨by have := HK1.out; have := HK2.out; omega⟩, by repeat (first | exact Drawn0.refl _ | apply Drawn0.step)⟩
                            · rw [if_neg c35] at H
                              have c35b0 : ((bt a1 x10_2) == 48) = false := beq_eq_false_iff_ne.mpr c35
                              have c35b1 : ((bt a1 x10_2) != 48) = true := bne_iff_ne.mpr c35
                              have H' := Aside0.mk H
                              clear H
                              have p10 : 0 ≤ (x10_2 : Int) := of_decide_eq_true (by first | (with_reducible assumption) | assumption)
                              have q10 : x10_2 < (a1.size : Int) := of_decide_eq_true (by first | (with_reducible assumption) | assumption)
                              have hx10 := bt_at a1 x10_2
                              replace p10 := eq_true p10
                              replace q10 := eq_true q10
                              have p27 : 0 ≤ (x10_2 : Int) := of_decide_eq_true (by first | (with_reducible assumption) | assumption)
                              have q27 : x10_2 < (a1.size : Int) := of_decide_eq_true (by first | (with_reducible assumption) | assumption)
                              have hx27 := bt_at a1 x10_2
                              replace p27 := eq_true p27
                              replace q27 := eq_true q27
                              have p34 : 0 ≤ (x10_2 : Int) := of_decide_eq_true (by first | (with_reducible assumption) | assumption)
                              have q34 : x10_2 < (a1.size : Int) := of_decide_eq_true (by first | (with_reducible assumption) | assumption)
                              have hx34 := bt_at a1 x10_2
                              replace p34 := eq_true p34
                              replace q34 := eq_true q34
                              go_wp2
                              go_roundg k2
                              case measure => have := HK1.out; have := HK2.out; omega
                              case rel => exact ⟨(false), (wrap64 (x10_2 + 1)), (by first | rfl | (simp; done) | (simp [*]; done)), (by first | rfl | (simp; done) | (simp [*]; done)), H', ⟨by have := HK1.out; have := HK2.out; omega⟩, by repeat (first | exact Drawn0.refl _ | apply Drawn0.step)⟩
                        · rw [if_neg c28] at H
                          have c28b0 : ((bt a1 x10_2) == 65) = false := beq_eq_false_iff_ne.mpr c28
                          have c28b1 : ((bt a1 x10_2) != 65) = true := bne_iff_ne.mpr c28
                          by_cases c38 : (bt a1 x10_2) = 48
                          · rw [if_pos c38] at H
                            have c38b0 : ((bt a1 x10_2) == 48) = true := beq_iff_eq.mpr c38
                            have c38b1 : ((bt a1 x10_2) != 48) = false := bne_eq_false_iff_eq.mpr c38
                            clear c38
                            by_cases c39 : (bt a0 x7_1) ≥ 48
                            · rw [if_pos c39] at H
                              have c39b0 : decide (48 ≤ (bt a0 x7_1)) = true := decide_eq_true c39
                              clear c39
                              have H' := Aside0.mk H
                              clear H
                              have p10 : 0 ≤ (x10_2 : Int) := of_decide_eq_true (by first | (with_reducible assumption) | assumption)
                              have q10 : x10_2 < (a1.size : Int) := of_decide_eq_true (by first | (with_reducible assumption) | assumption)
                              have hx10 := bt_at a1 x10_2
                              replace p10 := eq_true p10
                              replace q10 := eq_true q10
                              have p27 : 0 ≤ (x10_2 : Int) := of_decide_eq_true (by first | (with_reducible assumption) | assumption)
                              have q27 : x10_2 < (a1.size : Int) := of_decide_eq_true (by first | (with_reducible assumption) | assumption)
                              have hx27 := bt_at a1 x10_2
                              replace p27 := eq_true p27
                              replace q27 := eq_true q27
                              have p37 : 0 ≤ (x10_2 : Int) := of_decide_eq_true (by first | (with_reducible assumption) | assumption)
                              have q37 : x10_2 < (a1.size : Int) := of_decide_eq_true (by first | (with_reducible assumption) | assumption)
                              have hx37 := bt_at a1 x10_2
                              replace p37 := eq_true p37
                              replace q37 := eq_true q37
                              go_wp2
                              go_roundg k2
                              case measure => have := HK1.out; have := HK2.out; omega
                              case rel => exact ⟨(decide ((bt a0 x7_1) ≤ 57)), (wrap64 (x10_2 + 1)), (by first | rfl | (simp; done) | (simp [*]; done)), (by first | rfl | (simp; done) | (simp [*]; done)), H', ⟨by have := HK1.out; have := HK2.out; omega⟩, by repeat (first | exact Drawn0.refl _ | apply Drawn0.step)⟩
                            · rw [if_neg c39] at H
                              have c39b0 : decide (48 ≤ (bt a0 x7_1)) = false := decide_eq_false c39
                              clear c39
                              have H' := Aside0.mk H
                              clear H
                              have p10 : 0 ≤ (x10_2 : Int) := of_decide_eq_true (by first | (with_reducible assumption) | assumption)
                              have q10 : x10_2 < (a1.size : Int) := of_decide_eq_true (by first | (with_reducible assumption) | assumption)
                              have hx10 := bt_at a1 x10_2
                              replace p10 := eq_true p10
                              replace q10 := eq_true q10
                              have p27 : 0 ≤ (x10_2 : Int) := of_decide_eq_true (by first | (with_reducible assumption) | assumption)
                              have q27 : x10_2 < (a1.size : Int) := of_decide_eq_true (by first | (with_reducible assumption) | assumption)
                              have hx27 := bt_at a1 x10_2
                              replace p27 := eq_true p27
                              replace q27 := eq_true q27
                              have p37 : 0 ≤ (x10_2 : Int) := of_decide_eq_true (by first | (with_reducible assumption) | assumption)
                              have q37 : x10_2 < (a1.size : Int) := of_decide_eq_true (by first | (with_reducible assumption) | assumption)
                              have hx37 := bt_at a1 x10_2
                              replace p37 := eq_true p37
                              replace q37 := eq_true q37
                              go_wp2
                              go_roundg k2
                              case measure => have := HK1.out; have := HK2.out; omega
                              case rel => exact ⟨(false), (wrap64 (x10_2 + 1)), (by first | rfl | (simp; done) | (simp [*]; done)), (by first | rfl | (simp; done) | (simp [*]; done)), H', ⟨by have := HK1.out; have := HK2.out; omega⟩, by repeat (first | exact Drawn0.refl _ | apply Drawn0.step)⟩
                          · rw [if_neg c38] at H
                            have c38b0 : ((bt a1 x10_2) == 48) = false := beq_eq_false_iff_ne.mpr c38
                            have c38b1 : ((bt a1 x10_2) != 48) = true := bne_iff_ne.mpr c38
                            have H' := Aside0.mk H
                            clear H
                            have p10 : 0 ≤ (x10_2 : Int) := of_decide_eq_true (by first | (with_reducible assumption) | assumption)
                            have q10 : x10_2 < (a1.size : Int) := of_decide_eq_true (by first | (with_reducible assumption) | assumption)
                            have hx10 := bt_at a1 x10_2
                            replace p10 := eq_true p10
                            replace q10 := eq_true q10
                            have p27 : 0 ≤ (x10_2 : Int) := of_decide_eq_true (by first | (with_reducible assumption) | assumption)
                            have q27 : x10_2 < (a1.size : Int) := of_decide_eq_true (by first | (with_reducible assumption) | assumption)
                            have hx27 := bt_at a1 x10_2
                            replace p27 := eq_true p27
                            replace q27 := eq_true q27
                            have p37 : 0 ≤ (x10_2 : Int) := of_decide_eq_true (by first | (with_reducible assumption) | assumption)
                            have q37 : x10_2 < (a1.size : Int) := of_decide_eq_true (by first | (with_reducible assumption) | assumption)
                            have hx37 := bt_at a1 x10_2
                            replace p37 := eq_true p37
                            replace q37 := eq_true q37
                            go_wp2
                            go_roundg k2
                            case measure => have := HK1.out; have := HK2.out; omega
                            case rel => exact ⟨(false), (wrap64 (x10_2 + 1)), (by first | rfl | (simp; done) | (simp [*]; done)), (by first | rfl | (simp; done) | (simp [*]; done)), H', ⟨by have := HK1.out; have := HK2.out; omega⟩, by repeat (first | exact Drawn0.refl _ | apply Drawn0.step)⟩
                    · rw [if_neg c11] at H
                      have c11b0 : ((bt a1 x10_2) == 97) = false := beq_eq_false_iff_ne.mpr c11
                      have c11b1 : ((bt a1 x10_2) != 97) = true := bne_iff_ne.mpr c11
                      by_cases c41 : (bt a1 x10_2) = 65
                      · rw [if_pos c41] at H
                        have c41b0 : ((bt a1 x10_2) == 65) = true := beq_iff_eq.mpr c41
                        have c41b1 : ((bt a1 x10_2) != 65) = false := bne_eq_false_iff_eq.mpr c41
                        clear c41
                        by_cases c42 : (bt a0 x7_1) ≥ 65
                        · rw [if_pos c42] at H
                          have c42b0 : decide (65 ≤ (bt a0 x7_1)) = true := decide_eq_true c42
                          clear c42
                          by_cases c43 : (bt a0 x7_1) ≤ 90
                          · rw [if_pos c43] at H
                            have c43b0 : decide ((bt a0 x7_1) ≤ 90) = true := decide_eq_true c43
                            clear c43
                            have H' := Aside0.mk H
                            clear H
                            have p10 : 0 ≤ (x10_2 : Int) := of_decide_eq_true (by first | (with_reducible assumption) | assumption)
                            have q10 : x10_2 < (a1.size : Int) := of_decide_eq_true (by first | (with_reducible assumption) | assumption)
                            have hx10 := bt_at a1 x10_2
                            replace p10 := eq_true p10
                            replace q10 := eq_true q10
                            have p40 : 0 ≤ (x10_2 : Int) := of_decide_eq_true (by first | (with_reducible assumption) | assumption)
                            have q40 : x10_2 < (a1.size : Int) := of_decide_eq_true (by first | (with_reducible assumption) | assumption)
                            have hx40 := bt_at a1 x10_2
                            replace p40 := eq_true p40
                            replace q40 := eq_true q40
                            go_wp2
                            go_roundg k2
                            case measure => have := HK1.out; have := HK2.out; omega
                            case rel => exact ⟨(true), (wrap64 (x10_2 + 1)), (by first | rfl | (simp; done) | (simp [*]; done)), (by first | rfl | (simp; done) | (simp [*]; done)), H', ⟨by have := HK1.out; have := HK2.out; omega⟩, by repeat (first | exact Drawn0.refl _ | apply Drawn0.step)⟩
                          · rw [if_neg c43] at H
                            have c43b0 : decide ((bt a0 x7_1) ≤ 90) = false := decide_eq_false c43
                            clear c43
                            by_cases c45 : (bt a1 x10_2) = 48
                            · rw [if_pos c45] at H
                              have c45b0 : ((bt a1 x10_2) == 48) = true := beq_iff_eq.mpr c45
                              have c45b1 : ((bt a1 x10_2) != 48) = false := bne_eq_false_iff_eq.mpr c45
                              clear c45
                              by_cases c46 : (bt a0 x7_1) ≥ 48
                              · rw [if_pos c46] at H
                                have c46b0 : decide (48 ≤ (bt a0 x7_1)) = true := decide_eq_true c46
                                clear c46
                                have H' := Aside0.mk H
                                clear H
                                have p10 : 0 ≤ (x10_2 : Int) := of_decide_eq_true (by first | (with_reducible assumption) | assumption)
                                have q10 : x10_2 < (a1.size : Int) := of_decide_eq_true (by first | (with_reducible assumption) | assumption)
                                have hx10 := bt_at a1 x10_2
                                replace p10 := eq_true p10
                                replace q10 := eq_true q10
                                have p40 : 0 ≤ (x10_2 : Int) := of_decide_eq_true (by first | (with_reducible assumption) | assumption)
                                have q40 : x10_2 < (a1.size : Int) := of_decide_eq_true (by first | (with_reducible assumption) | assumption)
                                have hx40 := bt_at a1 x10_2
                                replace p40 := eq_true p40
                                replace q40 := eq_true q40
                                have p44 : 0 ≤ (x10_2 : Int) := of_decide_eq_true (by first | (with_reducible assumption) | assumption)
                                have q44 : x10_2 < (a1.size : Int) := of_decide_eq_true (by first | (with_reducible assumption) | assumption)
                                have hx44 := bt_at a1 x10_2
                                replace p44 := eq_true p44
                                replace q44 := eq_true q44
                                go_wp2
                                go_roundg k2
                                case measure => have := HK1.out; have := HK2.out; omega
                                case rel => exact ⟨(decide ((bt a0 x7_1) ≤ 57)), (wrap64 (x10_2 + 1)), (by first | rfl | (simp; done) | (simp [*]; done)), (by first | rfl | (simp; done) | (simp [*]; done)), H', ⟨by have := HK1.out; have := HK2.out; omega⟩, by repeat (first | exact Drawn0.refl _ | apply Drawn0.step)⟩
                              · rw [if_neg c46] at H
                                have c46b0 : decide (48 ≤ (bt a0 x7_1)) = false := decide_eq_false c46
                                clear c46
                                have H' := Aside0.mk H
                                clear H
                                have p10 : 0 ≤ (x10_2 : Int) := of_decide_eq_true (by first | (with_reducible assumption) | assumption)
                                have q10 : x10_2 < (a1.size : Int) := of_decide_eq_true (by first | (with_reducible assumption) | assumption)
                                have hx10 := bt_at a1 x10_2
                                replace p10 := eq_true p10
                                replace q10 := eq_true q10
                                have p40 : 0 ≤ (x10_2 : Int) := of_decide_eq_true (by first | (with_reducible assumption) | assumption)
                                have q40 : x10_2 < (a1.size : Int) := of_decide_eq_true (by first | (with_reducible assumption) | assumption)
                                have hx40 := bt_at a1 x10_2
                                replace p40 := eq_true p40
                                replace q40 := eq_true q40
                                have p44 : 0 ≤ (x10_2 : Int) := of_decide_eq_true (by first | (with_reducible assumption) | assumption)
                                have q44 : x10_2 < (a1.size : Int) := of_decide_eq_true (by first | (with_reducible assumption) | assumption)
                                have hx44 := bt_at a1 x10_2
                                replace p44 := eq_true p44
                                replace q44 := eq_true q44
                                go_wp2
                                go_roundg k2
                                case measure => have := HK1.out; have := HK2.out; omega
                                case rel => exact ⟨(false), (wrap64 (x10_2 + 1)), (by first | rfl | (simp; done) | (simp [*]; done)), (by first | rfl | (simp; done) | (simp [*]; done)), H', ⟨by have := HK1.out; have := HK2.out; omega⟩, by repeat (first | exact Drawn0.refl _ | apply Drawn0.step)⟩
                            · rw [if_neg c45] at H
                              have c45b0 : ((bt a1 x10_2) == 48) = false := beq_eq_false_iff_ne.mpr c45
                              have c45b1 : ((bt a1 x10_2) != 48) = true := bne_iff_ne.mpr c45
                              have H' := Aside0.mk H
                              clear H
                              have p10 : 0 ≤ (x10_2 : Int) := of_decide_eq_true (by first | (with_reducible assumption) | assumption)
                              have q10 : x10_2 < (a1.size : Int) := of_decide_eq_true (by first | (with_reducible assumption) | assumption)
                              have hx10 := bt_at a1 x10_2
                              replace p10 := eq_true p10
                              replace q10 := eq_true q10
                              have p40 : 0 ≤ (x10_2 : Int) := of_decide_eq_true (by first | (with_reducible assumption) | assumption)
                              have q40 : x10_2 < (a1.size : Int) := of_decide_eq_true (by first | (with_reducible assumption) | assumption)
                              have hx40 := bt_at a1 x10_2
                              replace p40 := eq_true p40
                              replace q40 := eq_true q40
                              have p44 : 0 ≤ (x10_2 : Int) := of_decide_eq_true (by first | (with_reducible assumption) | assumption)
                              have q44 : x10_2 < (a1.size : Int) := of_decide_eq_true (by first | (with_reducible assumption) | assumption)
                              have hx44 := bt_at a1 x10_2
                              replace p44 := eq_true p44
                              replace q44 := eq_true q44
                              go_wp2
                              go_roundg k2
                              case measure => have := HK1.out; have := HK2.out; omega
                              case rel => exact ⟨(false), (wrap64 (x10_2 + 1)), (by first | rfl | (simp; done) | (simp [*]; done)), (by first | rfl | (simp; done) | (simp [*]; done)), H', ⟨by have := HK1.out; have := HK2.out; omega⟩, by repeat (first | exact Drawn0.refl _ | apply Drawn0.step)⟩
                        · rw [if_neg c42] at H
                          have c42b0 : decide (65 ≤ (bt a0 x7_1)) = false := decide_eq_false c42
                          clear c42
                          by_cases c48 : (bt a1 x10_2) = 48
                          · rw [if_pos c48] at H
                            have c48b0 : ((bt a1 x10_2) == 48) = true := beq_iff_eq.mpr c48
                            have c48b1 : ((bt a1 x10_2) != 48) = false := bne_eq_false_iff_eq.mpr c48
                            clear c48
                            by_cases c49 : (bt a0 x7_1) ≥ 48
                            · rw [if_pos c49] at H
                              have c49b0 : decide (48 ≤ (bt a0 x7_1)) = true := decide_eq_true c49
                              clear c49
                              have H' := Aside0.mk H
                              clear H
                              have p10 : 0 ≤ (x10_2 : Int) := of_decide_eq_true (by first | (with_reducible assumption) | assumption)
                              have q10 : x10_2 < (a1.size : Int) := of_decide_eq_true (by first | (with_reducible assumption) | assumption)
                              have hx10 := bt_at a1 x10_2
                              replace p10 := eq_true p10
                              replace q10 := eq_true q10
                              have p40 : 0 ≤ (x10_2 : Int) := of_decide_eq_true (by first | (with_reducible assumption) | assumption)
                              have q40 : x10_2 < (a1.size : Int) := of_decide_eq_true (by first | (with_reducible assumption) | assumption)
                              have hx40 := bt_at a1 x10_2
                              replace p40 := eq_true p40
                              replace q40 := eq_true q40
                              have p47 : 0 ≤ (x10_2 : Int) := of_decide_eq_true (by first | (with_reducible assumption) | assumption)
                              have q47 : x10_2 < (a1.size : Int) := of_decide_eq_true (by first | (with_reducible assumption) | assumption)
                              have hx47 := bt_at a1 x10_2
                              replace p47 := eq_true p47
                              replace q47 := eq_true q47
                              go_wp2
                              go_roundg k2
                              case measure => have := HK1.out; have := HK2.out; omega
                              case rel => exact ⟨(decide ((bt a0 x7_1) ≤ 57)), (wrap64 (x10_2 + 1)), (by first | rfl | (simp; done) | (simp [*]; done)), (by first | rfl | (simp; done) | (simp [*]; done)), H', ⟨by have := HK1.out; have := HK2.out; omega⟩, by repeat (first | exact Drawn0.refl _ | apply Drawn0.step)⟩
                            · rw [if_neg c49] at H
                              have c49b0 : decide (48 ≤ (bt a0 x7_1)) = false := decide_eq_false c49
                              clear c49
                              have H' := Aside0.mk H
                              clear H
                              have p10 : 0 ≤ (x10_2 : Int) := of_decide_eq_true (by first | (with_reducible assumption) | assumption)
                              have q10 : x10_2 < (a1.size : Int) := of_decide_eq_true (by first | (with_reducible assumption) | assumption)
                              have hx10 := bt_at a1 x10_2
                              replace p10 := eq_true p10
                              replace q10 := eq_true q10
                              have p40 : 0 ≤ (x10_2 : Int) := of_decide_eq_true (by first | (with_reducible assumption) | assumption)
                              have q40 : x10_2 < (a1.size : Int) := of_decide_eq_true (by first | (with_reducible assumption) | assumption)
                              have hx40 := bt_at a1 x10_2
                              replace p40 := eq_true p40
                              replace q40 := eq_true q40
                              have p47 : 0 ≤ (x10_2 : Int) := of_decide_eq_true (by first | (with_reducible assumption) | assumption)
                              have q47 : x10_2 < (a1.size : Int) := of_decide_eq_true (by first | (with_reducible assumption) | assumption)
                              have hx47 := bt_at a1 x10_2
                              replace p47 := eq_true p47
                              replace q47 := eq_true q47
                              go_wp2
                              go_roundg k2
                              case measure => have := HK1.out; have := HK2.out; omega
                              case rel => exact ⟨(false), (wrap64 (x10_2 + 1)), (by first | rfl | (simp; done) | (simp [*]; done)), (by first | rfl | (simp; done) | (simp [*]; done)), H', ⟨by have := HK1.out; have := HK2.out; omega⟩, by repeat (first | exact Drawn0.refl _ | apply Drawn0.step)⟩
                          · rw [if_neg c48] at H
                            have c48b0 : ((bt a1 x10_2) == 48) = false := beq_eq_false_iff_ne.mpr c48
                            have c48b1 : ((bt a1 x10_2) != 48) = true := bne_iff_ne.mpr c48
                            have H' := Aside0.mk H
                            clear H
                            have p10 : 0 ≤ (x10_2 : Int) := of_decide_eq_true (by first | (with_reducible assumption) | assumption)
                            have q10 : x10_2 < (a1.size : Int) := of_decide_eq_true (by first | (with_reducible assumption) | assumption)
                            have hx10 := bt_at a1 x10_2
                            replace p10 := eq_true p10
                            replace q10 := eq_true q10
                            have p40 : 0 ≤ (x10_2 : Int) := of_decide_eq_true (by first | (with_reducible assumption) | assumption)
                            have q40 : x10_2 < (a1.size : Int) := of_decide_eq_true (by first | (with_reducible assumption) | assumption)
                            have hx40 := bt_at a1 x10_2
                            replace p40 := eq_true p40
                            replace q40 := eq_true q40
                            have p47 : 0 ≤ (x10_2 : Int) := of_decide_eq_true (by first | (with_reducible assumption) | assumption)
                            have q47 : x10_2 < (a1.size : Int) := of_decide_eq_true (by first | (with_reducible assumption) | assumption)
                            have hx47 := bt_at a1 x10_2
                            replace p47 := eq_true p47
                            replace q47 := eq_true q47
                            go_wp2
                            go_roundg k2
                            case measure => have := HK1.out; have := HK2.out; omega
                            case rel => exact ⟨(false), (wrap64 (x10_2 + 1)), (by first | rfl | (simp; done) | (simp [*]; done)), (by first | rfl | (simp; done) | (simp [*]; done)), H', ⟨by have := HK1.out; have := HK2.out; omega⟩, by repeat (first | exact Drawn0.refl _ | apply Drawn0.step)⟩
                      · rw [if_neg c41] at H
                        have c41b0 : ((bt a1 x10_2) == 65) = false := beq_eq_false_iff_ne.mpr c41
                        have c41b1 : ((bt a1 x10_2) != 65) = true := bne_iff_ne.mpr c41
                        by_cases c51 : (bt a1 x10_2) = 48
                        · rw [if_pos c51] at H
                          have c51b0 : ((bt a1 x10_2) == 48) = true := beq_iff_eq.mpr c51
                          have c51b1 : ((bt a1 x10_2) != 48) = false := bne_eq_false_iff_eq.mpr c51
                          clear c51
                          by_cases c52 : (bt a0 x7_1) ≥ 48
                          · rw [if_pos c52] at H
                            have c52b0 : decide (48 ≤ (bt a0 x7_1)) = true := decide_eq_true c52
                            clear c52
                            have H' := Aside0.mk H
                            clear H
                            have p10 : 0 ≤ (x10_2 : Int) := of_decide_eq_true (by first | (with_reducible assumption) | assumption)
                            have q10 : x10_2 < (a1.size : Int) := of_decide_eq_true (by first | (with_reducible assumption) | assumption)
                            have hx10 := bt_at a1 x10_2
                            replace p10 := eq_true p10
                            replace q10 := eq_true q10
                            have p40 : 0 ≤ (x10_2 : Int) := of_decide_eq_true (by first | (with_reducible assumption) | assumption)
                            have q40 : x10_2 < (a1.size : Int) := of_decide_eq_true (by first | (with_reducible assumption) | assumption)
                            have hx40 := bt_at a1 x10_2
                            replace p40 := eq_true p40
                            replace q40 := eq_true q40
                            have p50 : 0 ≤ (x10_2 : Int) := of_decide_eq_true (by first | (with_reducible assumption) | assumption)
                            have q50 : x10_2 < (a1.size : Int) := of_decide_eq_true (by first | (with_reducible assumption) | assumption)
                            have hx50 := bt_at a1 x10_2
                            replace p50 := eq_true p50
                            replace q50 := eq_true q50
                            go_wp2
                            go_roundg k2
                            case measure => have := HK1.out; have := HK2.out; omega
                            case rel => exact ⟨(decide ((bt a0 x7_1) ≤ 57)), (wrap64 (x10_2 + 1)), (by first | rfl | (simp; done) | (simp [*]; done)), (by first | rfl | (simp; done) | (simp [*]; done)), H', ⟨by have := HK1.out; have := HK2.out; omega⟩, by repeat (first | exact Drawn0.refl _ | apply Drawn0.step)⟩
                          · rw [if_neg c52] at H
                            have c52b0 : decide (48 ≤ (bt a0 x7_1)) = false := decide_eq_false c52
                            clear c52
                            have H' := Aside0.mk H
                            clear H
                            have p10 : 0 ≤ (x10_2 : Int) := of_decide_eq_true (by first | (with_reducible assumption) | assumption)
                            have q10 : x10_2 < (a1.size : Int) := of_decide_eq_true (by first | (with_reducible assumption) | assumption)
                            have hx10 := bt_at a1 x10_2
                            replace p10 := eq_true p10
                            replace q10 := eq_true q10
                            have p40 : 0 ≤ (x10_2 : Int) := of_decide_eq_true (by first | (with_reducible assumption) | assumption)
                            have q40 : x10_2 < (a1.size : Int) := of_decide_eq_true (by first | (with_reducible assumption) | assumption)
                            have hx40 := bt_at a1 x10_2
                            replace p40 := eq_true p40
                            replace q40 := eq_true q40
                            have p50 : 0 ≤ (x10_2 : Int) := of_decide_eq_true (by first | (with_reducible assumption) | assumption)
                            have q50 : x10_2 < (a1.size : Int) := of_decide_eq_true (by first | (with_reducible assumption) | assumption)
                            have hx50 := bt_at a1 x10_2
                            replace p50 := eq_true p50
                            replace q50 := eq_true q50
                            go_wp2
                            go_roundg k2
                            case measure => have := HK1.out; have := HK2.out; omega
                            case rel => exact ⟨(false), (wrap64 (x10_2 + 1)), (by first | rfl | (simp; done) | (simp [*]; done)), (by first | rfl | (simp; done) | (simp [*]; done)), H', ⟨by have := HK1.out; have := HK2.out; omega⟩, by repeat (first | exact Drawn0.refl _ | apply Drawn0.step)⟩
                        · rw [if_neg c51] at H
                          have c51b0 : ((bt a1 x10_2) == 48) = false := beq_eq_false_iff_ne.mpr c51
                          have c51b1 : ((bt a1 x10_2) != 48) = true := bne_iff_ne.mpr c51
                          have H' := Aside0.mk H
                          clear H
                          have p10 : 0 ≤ (x10_2 : Int) := of_decide_eq_true (by first | (with_reducible assumption) | assumption)
                          have q10 : x10_2 < (a1.size : Int) := of_decide_eq_true (by first | (with_reducible assumption) | assumption)
                          have hx10 := bt_at a1 x10_2
                          replace p10 := eq_true p10
                          replace q10 := eq_true q10
                          have p40 : 0 ≤ (x10_2 : Int) := of_decide_eq_true (by first | (with_reducible assumption) | assumption)
                          have q40 : x10_2 < (a1.size : Int) := of_decide_eq_true (by first | (with_reducible assumption) | assumption)
                          have hx40 := bt_at a1 x10_2
                          replace p40 := eq_true p40
                          replace q40 := eq_true q40
                          have p50 : 0 ≤ (x10_2 : Int) := of_decide_eq_true (by first | (with_reducible assumption) | assumption)
                          have q50 : x10_2 < (a1.size : Int) := of_decide_eq_true (by first | (with_reducible assumption) | assumption)
                          have hx50 := bt_at a1 x10_2
                          replace p50 := eq_true p50
                          replace q50 := eq_true q50
                          go_wp2
                          go_roundg k2
                          case measure => have := HK1.out; have := HK2.out; omega
                          case rel => exact ⟨(false), (wrap64 (x10_2 + 1)), (by first | rfl | (simp; done) | (simp [*]; done)), (by first | rfl | (simp; done) | (simp [*]; done)), H', ⟨by have := HK1.out; have := HK2.out; omega⟩, by repeat (first | exact Drawn0.refl _ | apply Drawn0.step)⟩
                  · rw [if_neg c9] at H
                    exact absurd H (by simp)
              · rw [if_neg c7] at H
                have c7b0 : decide (x10_2 < (a1.size : Int)) = false := decide_eq_false c7
                clear c7
                have H' := Aside0.mk H
                clear H
                go_wp2
                go_loopg [9, 11] k2 (fun kq v9 v11 w' => ∃ (x9_3 : Bool) (x11_3 : Int), v9 = .bool x9_3 ∧ v11 = .int .i64 x11_3 ∧ Aside0 (hustingsref10_of.l2 kq a0 a1 a2 x7_1 (bt a0 x7_1) x9_3 x11_3 = some r) ∧ Aside0 (kq ≤ k2) ∧ Drawn0 w w')
                case atStart => exact ⟨(x9_2), (0), (by first | rfl | (simp; done) | (simp [*]; done)), (by first | rfl | (simp; done) | (simp [*]; done)), H', ⟨Nat.le_refl _⟩, by repeat (first | exact Drawn0.refl _ | apply Drawn0.step)⟩
                case round =>
                  clear H'
                  try clear c1
                  try clear p1
                  try clear q1
                  try clear hx1
                  try clear c2
                  try clear p2
                  try clear q2
                  try clear hx2
                  try clear c3
                  try clear p3
                  try clear q3
                  try clear hx3
                  try clear c4
                  try clear p4
                  try clear q4
                  try clear hx4
                  try clear c5
                  try clear p5
                  try clear q5
                  try clear hx5
                  try clear p6
                  try clear c7
                  try clear c7b0
                  try clear c9
                  try clear p10
                  try clear q10
                  try clear hx10
                  try clear c11
                  try clear c11b0
                  try clear c11b1
                  try clear c12
                  try clear c12b0
                  try clear p14
                  try clear q14
                  try clear hx14
                  try clear p24
                  try clear q24
                  try clear hx24
                  try clear c25
                  try clear c25b0
                  try clear c25b1
                  try clear p27
                  try clear q27
                  try clear hx27
                  try clear c28
                  try clear c28b0
                  try clear c28b1
                  try clear c29
                  try clear c29b0
                  try clear c30
                  try clear c30b0
                  try clear p31
                  try clear q31
                  try clear hx31
                  try clear c32
                  try clear c32b0
                  try clear c32b1
                  try clear c33
                  try clear c33b0
                  try clear p34
                  try clear q34
                  try clear hx34
                  try clear c35
                  try clear c35b0
                  try clear c35b1
                  try clear c36
                  try clear c36b0
                  try clear p37
                  try clear q37
                  try clear hx37
                  try clear c38
                  try clear c38b0
                  try clear c38b1
                  try clear c39
                  try clear c39b0
                  try clear p40
                  try clear q40
                  try clear hx40
                  try clear c41
                  try clear c41b0
                  try clear c41b1
                  try clear c42
                  try clear c42b0
                  try clear c43
                  try clear c43b0
                  try clear p44
                  try clear q44
                  try clear hx44
                  try clear c45
                  try clear c45b0
                  try clear c45b1
                  try clear c46
                  try clear c46b0
                  try clear p47
                  try clear q47
                  try clear hx47
                  try clear c48
                  try clear c48b0
                  try clear c48b1
                  try clear c49
                  try clear c49b0
                  try clear p50
                  try clear q50
                  try clear hx50
                  try clear c51
                  try clear c51b0
                  try clear c51b1
                  try clear c52
                  try clear c52b0
                  try clear p10
                  try clear p14
                  try clear p24
                  try clear p27
                  try clear p31
                  try clear p34
                  try clear p37
                  try clear p40
                  try clear p44
                  try clear p47
                  try clear p50
                  try clear q10
                  try clear q14
                  try clear q24
                  try clear q27
                  try clear q31
                  try clear q34
                  try clear q37
                  try clear q40
                  try clear q44
                  try clear q47
                  try clear q50
                  obtain ⟨x9_3, x11_3, rfl, rfl, HA, HK3, ⟨m3, rfl⟩⟩ := hrel
                  cases gk with
                  | zero => exact absurd HA.out (by simp [hustingsref10_of.l2])
                  | succ k3 =>
                    have H := HA.out
                    clear HA
                    simp only [hustingsref10_of.l2] at H
                    by_cases c53 : x11_3 < (a2.size : Int)
                    · rw [if_pos c53] at H
                      have c53b0 : decide (x11_3 < (a2.size : Int)) = true := decide_eq_true c53
                      clear c53
                      by_cases c54 : x9_3 = true
                      · subst c54
                        have H1 : (hustingsref10_of.l2 k3 a0 a1 a2 x7_1 (bt a0 x7_1) true (wrap64 (x11_3 + 1))) = some r := by rw [if_pos rfl] at H; exact H
                        clear H
                        have H := H1
                        clear H1
                        have H' := Aside0.mk H
                        clear H
                        go_wp2
                        go_roundg k3
                        case measure => have := HK1.out; have := HK2.out; have := HK3.out; omega
                        case rel => exact ⟨(true), (wrap64 (x11_3 + 1)), (by first | rfl | (simp; done) | (simp [*]; done)), (by first | rfl | (simp; done) | (simp [*]; done)), H', ⟨by have := HK1.out; have := HK2.out; have := HK3.out; omega⟩, by repeat (first | exact Drawn0.refl _ | apply Drawn0.step)⟩
                      · replace c54 := Bool.eq_false_iff.mpr c54
                        subst c54
                        have H1 : (if 0 ≤ x11_3 then (hustingsref10_of.l2 k3 a0 a1 a2 x7_1 (bt a0 x7_1) ((bt a2 x11_3) == (bt a0 x7_1)) (wrap64 (x11_3 + 1))) else (none)) = some r := by rw [if_neg (show ¬ (false = true) by decide)] at H; exact H
                        clear H
                        have H := H1
                        clear H1
                        by_cases c55 : 0 ≤ x11_3
                        · rw [if_pos c55] at H
                          have c55b0 : decide (0 ≤ x11_3) = true := decide_eq_true c55
                          clear c55
                          have H' := Aside0.mk H
                          clear H
                          have p56 : 0 ≤ (x11_3 : Int) := of_decide_eq_true (by first | (with_reducible assumption) | assumption)
                          have q56 : x11_3 < (a2.size : Int) := of_decide_eq_true (by first | (with_reducible assumption) | assumption)
                          have hx56 := bt_at a2 x11_3
                          replace p56 := eq_true p56
                          replace q56 := eq_true q56
                          go_wp2
                          go_roundg k3
                          case measure => have := HK1.out; have := HK2.out; have := HK3.out; omega
                          case rel => exact ⟨(((bt a2 x11_3) == (bt a0 x7_1))), (wrap64 (x11_3 + 1)), (by first | rfl | (simp; done) | (simp [*]; done)), (by first | rfl | (simp; done) | (simp [*]; done)), H', ⟨by have := HK1.out; have := HK2.out; have := HK3.out; omega⟩, by repeat (first | exact Drawn0.refl _ | apply Drawn0.step)⟩
                        · rw [if_neg c55] at H
                          exact absurd H (by simp)
                    · rw [if_neg c53] at H
                      have c53b0 : decide (x11_3 < (a2.size : Int)) = false := decide_eq_false c53
                      clear c53
                      by_cases c57 : x9_3 = true
                      · subst c57
                        have H1 : (hustingsref10_of.l0 k3 a0 a1 a2 (wrap64 (x7_1 + 1))) = some r := by rw [if_pos rfl] at H; exact H
                        clear H
                        have H := H1
                        clear H1
                        have H' := Aside0.mk H
                        clear H
                        go_wp2
                        go_roundg k3
                        case measure => have := HK1.out; have := HK2.out; have := HK3.out; omega
                        case rel => exact ⟨(wrap64 (x7_1 + 1)), (by first | rfl | (simp; done) | (simp [*]; done)), H', ⟨by have := HK1.out; have := HK2.out; have := HK3.out; omega⟩, by repeat (first | exact Drawn0.refl _ | apply Drawn0.step)⟩
                      · replace c57 := Bool.eq_false_iff.mpr c57
                        subst c57
                        have H1 : (some false) = some r := by rw [if_neg (show ¬ (false = true) by decide)] at H; exact H
                        clear H
                        have H := H1
                        clear H1
                        obtain rfl := Option.some.inj H
                        go_wp2
                        go_ret
                        exact ⟨by first | rfl | (simp; done) | (simp [*]; done) | (cases a0.toList <;> rfl), by repeat (first | exact Drawn0.refl _ | apply Drawn0.step)⟩
        · rw [if_neg c5] at H
          exact absurd H (by simp)
      · rw [if_neg c4] at H
        have c4b0 : decide (x7_1 < (a0.size : Int)) = false := decide_eq_false c4
        clear c4
        obtain rfl := Option.some.inj H
        go_wp2
        go_ret
        exact ⟨by first | rfl | (simp; done) | (simp [*]; done) | (cases a0.toList <;> rfl), by repeat (first | exact Drawn0.refl _ | apply Drawn0.step)⟩

end Go.Proofs.Ytboelmakccaenaa.P
