/- Merged of the texts: G33, G32, Ig, G34, G26, G16, Ih, Ui (trim.py). -/
import Derived.Test.YtlfplmlehbomlaaDoorYa2
section
namespace Go.Proofs.YtlfplmlehbomlaaDoor.P
open Go.RowKit Go.Proofs.YtlfplmlehbomlaaDoorW.PrintWords Go.Proofs.YtlfplmlehbomlaaDoorW.PrintLast Go.Proofs.YtlfplmlehbomlaaDoorW.PrintMore
set_option linter.unusedVariables false
set_option linter.unusedSimpArgs false
mutual
def hustingsref10_of.l0 : Nat → ByteArray → ByteArray → ByteArray → Int → Option (Bool)
  | 0, _, _, _, _ => none
  | k + 1, x0, x1, x2, x7 => if x7 < (x0.size : Int) then (if 0 ≤ x7 then (hustingsref10_of.l1 k x0 x1 x2 x7 (bt x0 x7) false 0) else (none)) else (some (x0.toList != ([] : List UInt8)))
def hustingsref10_of.l1 : Nat → ByteArray → ByteArray → ByteArray → Int → Int → Bool → Int → Option (Bool)
  | 0, _, _, _, _, _, _, _ => none
  | k + 1, x0, x1, x2, x7, x8, x9, x10 => if x10 < (x1.size : Int) then (if x9 = true then (hustingsref10_of.l1 k x0 x1 x2 x7 x8 true (wrap64 (x10 + 1))) else (if 0 ≤ x10 then (if (bt x1 x10) = 97 then (if x8 ≥ 97 then (if x8 ≤ 122 then (hustingsref10_of.l1 k x0 x1 x2 x7 x8 true (wrap64 (x10 + 1))) else (if (bt x1 x10) = 65 then (if x8 ≥ 65 then (if x8 ≤ 90 then (hustingsref10_of.l1 k x0 x1 x2 x7 x8 true (wrap64 (x10 + 1))) else (if (bt x1 x10) = 48 then (if x8 ≥ 48 then (hustingsref10_of.l1 k x0 x1 x2 x7 x8 (decide (x8 ≤ 57)) (wrap64 (x10 + 1))) else (hustingsref10_of.l1 k x0 x1 x2 x7 x8 false (wrap64 (x10 + 1)))) else (hustingsref10_of.l1 k x0 x1 x2 x7 x8 false (wrap64 (x10 + 1))))) else (if (bt x1 x10) = 48 then (if x8 ≥ 48 then (hustingsref10_of.l1 k x0 x1 x2 x7 x8 (decide (x8 ≤ 57)) (wrap64 (x10 + 1))) else (hustingsref10_of.l1 k x0 x1 x2 x7 x8 false (wrap64 (x10 + 1)))) else (hustingsref10_of.l1 k x0 x1 x2 x7 x8 false (wrap64 (x10 + 1))))) else (if (bt x1 x10) = 48 then (if x8 ≥ 48 then (hustingsref10_of.l1 k x0 x1 x2 x7 x8 (decide (x8 ≤ 57)) (wrap64 (x10 + 1))) else (hustingsref10_of.l1 k x0 x1 x2 x7 x8 false (wrap64 (x10 + 1)))) else (hustingsref10_of.l1 k x0 x1 x2 x7 x8 false (wrap64 (x10 + 1)))))) else (if (bt x1 x10) = 65 then (if x8 ≥ 65 then (if x8 ≤ 90 then (hustingsref10_of.l1 k x0 x1 x2 x7 x8 true (wrap64 (x10 + 1))) else (if (bt x1 x10) = 48 then (if x8 ≥ 48 then (hustingsref10_of.l1 k x0 x1 x2 x7 x8 (decide (x8 ≤ 57)) (wrap64 (x10 + 1))) else (hustingsref10_of.l1 k x0 x1 x2 x7 x8 false (wrap64 (x10 + 1)))) else (hustingsref10_of.l1 k x0 x1 x2 x7 x8 false (wrap64 (x10 + 1))))) else (if (bt x1 x10) = 48 then (if x8 ≥ 48 then (hustingsref10_of.l1 k x0 x1 x2 x7 x8 (decide (x8 ≤ 57)) (wrap64 (x10 + 1))) else (hustingsref10_of.l1 k x0 x1 x2 x7 x8 false (wrap64 (x10 + 1)))) else (hustingsref10_of.l1 k x0 x1 x2 x7 x8 false (wrap64 (x10 + 1))))) else (if (bt x1 x10) = 48 then (if x8 ≥ 48 then (hustingsref10_of.l1 k x0 x1 x2 x7 x8 (decide (x8 ≤ 57)) (wrap64 (x10 + 1))) else (hustingsref10_of.l1 k x0 x1 x2 x7 x8 false (wrap64 (x10 + 1)))) else (hustingsref10_of.l1 k x0 x1 x2 x7 x8 false (wrap64 (x10 + 1)))))) else (if (bt x1 x10) = 65 then (if x8 ≥ 65 then (if x8 ≤ 90 then (hustingsref10_of.l1 k x0 x1 x2 x7 x8 true (wrap64 (x10 + 1))) else (if (bt x1 x10) = 48 then (if x8 ≥ 48 then (hustingsref10_of.l1 k x0 x1 x2 x7 x8 (decide (x8 ≤ 57)) (wrap64 (x10 + 1))) else (hustingsref10_of.l1 k x0 x1 x2 x7 x8 false (wrap64 (x10 + 1)))) else (hustingsref10_of.l1 k x0 x1 x2 x7 x8 false (wrap64 (x10 + 1))))) else (if (bt x1 x10) = 48 then (if x8 ≥ 48 then (hustingsref10_of.l1 k x0 x1 x2 x7 x8 (decide (x8 ≤ 57)) (wrap64 (x10 + 1))) else (hustingsref10_of.l1 k x0 x1 x2 x7 x8 false (wrap64 (x10 + 1)))) else (hustingsref10_of.l1 k x0 x1 x2 x7 x8 false (wrap64 (x10 + 1))))) else (if (bt x1 x10) = 48 then (if x8 ≥ 48 then (hustingsref10_of.l1 k x0 x1 x2 x7 x8 (decide (x8 ≤ 57)) (wrap64 (x10 + 1))) else (hustingsref10_of.l1 k x0 x1 x2 x7 x8 false (wrap64 (x10 + 1)))) else (hustingsref10_of.l1 k x0 x1 x2 x7 x8 false (wrap64 (x10 + 1)))))) else (none))) else (hustingsref10_of.l2 k x0 x1 x2 x7 x8 x9 0)
def hustingsref10_of.l2 : Nat → ByteArray → ByteArray → ByteArray → Int → Int → Bool → Int → Option (Bool)
  | 0, _, _, _, _, _, _, _ => none
  | k + 1, x0, x1, x2, x7, x8, x9, x11 => if x11 < (x2.size : Int) then (if x9 = true then (hustingsref10_of.l2 k x0 x1 x2 x7 x8 true (wrap64 (x11 + 1))) else (if 0 ≤ x11 then (hustingsref10_of.l2 k x0 x1 x2 x7 x8 ((bt x2 x11) == x8) (wrap64 (x11 + 1))) else (none))) else (if x9 = true then (hustingsref10_of.l0 k x0 x1 x2 (wrap64 (x7 + 1))) else (some false))
end
def hustingsref10_of.f (k : Nat) (a0 : ByteArray) (a1 : ByteArray) (a2 : ByteArray) : Option (Bool) := hustingsref10_of.l0 k a0 a1 a2 0
theorem hustingsref10_of.mono_l : ∀ k, (∀ y0 y1 y2 y3, LeO (hustingsref10_of.l0 k y0 y1 y2 y3) (hustingsref10_of.l0 (k + 1) y0 y1 y2 y3)) ∧ (∀ y0 y1 y2 y3 y4 y5 y6, LeO (hustingsref10_of.l1 k y0 y1 y2 y3 y4 y5 y6) (hustingsref10_of.l1 (k + 1) y0 y1 y2 y3 y4 y5 y6)) ∧ (∀ y0 y1 y2 y3 y4 y5 y6, LeO (hustingsref10_of.l2 k y0 y1 y2 y3 y4 y5 y6) (hustingsref10_of.l2 (k + 1) y0 y1 y2 y3 y4 y5 y6))
  | 0 => ⟨fun _ _ _ _ r h => by simp [hustingsref10_of.l0] at h, fun _ _ _ _ _ _ _ r h => by simp [hustingsref10_of.l1] at h, fun _ _ _ _ _ _ _ r h => by simp [hustingsref10_of.l2] at h⟩
  | k + 1 => by
    obtain ⟨ih0, ih1, ih2⟩ := hustingsref10_of.mono_l k
    refine ⟨?_, ?_, ?_⟩
    · intro y0 y1 y2 y3
      unfold hustingsref10_of.l0
      repeat' first
      | (with_reducible exact ih0 _ _ _ _)
      | (with_reducible exact ih1 _ _ _ _ _ _ _)
      | (with_reducible exact ih2 _ _ _ _ _ _ _)
      | (with_reducible exact LeO.refl _)
      | (with_reducible exact LeO.none _)
      | (with_reducible refine LeO.ite ?_ ?_)
      | (with_reducible refine LeO.bind ?_ (fun _ => ?_))
      | exact ih0 _ _ _ _
      | exact ih1 _ _ _ _ _ _ _
      | exact ih2 _ _ _ _ _ _ _
      | exact LeO.none _
      | refine LeO.ite ?_ ?_
      | refine LeO.bind ?_ (fun _ => ?_)
    · intro y0 y1 y2 y3 y4 y5 y6
      unfold hustingsref10_of.l1
      repeat' first
      | (with_reducible exact ih0 _ _ _ _)
      | (with_reducible exact ih1 _ _ _ _ _ _ _)
      | (with_reducible exact ih2 _ _ _ _ _ _ _)
      | (with_reducible exact LeO.refl _)
      | (with_reducible exact LeO.none _)
      | (with_reducible refine LeO.ite ?_ ?_)
      | (with_reducible refine LeO.bind ?_ (fun _ => ?_))
      | exact ih0 _ _ _ _
      | exact ih1 _ _ _ _ _ _ _
      | exact ih2 _ _ _ _ _ _ _
      | exact LeO.none _
      | refine LeO.ite ?_ ?_
      | refine LeO.bind ?_ (fun _ => ?_)
    · intro y0 y1 y2 y3 y4 y5 y6
      unfold hustingsref10_of.l2
      repeat' first
      | (with_reducible exact ih0 _ _ _ _)
      | (with_reducible exact ih1 _ _ _ _ _ _ _)
      | (with_reducible exact ih2 _ _ _ _ _ _ _)
      | (with_reducible exact LeO.refl _)
      | (with_reducible exact LeO.none _)
      | (with_reducible refine LeO.ite ?_ ?_)
      | (with_reducible refine LeO.bind ?_ (fun _ => ?_))
      | exact ih0 _ _ _ _
      | exact ih1 _ _ _ _ _ _ _
      | exact ih2 _ _ _ _ _ _ _
      | exact LeO.none _
      | refine LeO.ite ?_ ?_
      | refine LeO.bind ?_ (fun _ => ?_)
theorem hustingsref10_of.mono : ∀ a0 a1 a2 k, LeO (hustingsref10_of.f k a0 a1 a2) (hustingsref10_of.f (k + 1) a0 a1 a2) := by
  intro a0 a1 a2 k
  obtain ⟨ih0, ih1, ih2⟩ := hustingsref10_of.mono_l k
  unfold hustingsref10_of.f
  repeat' first
      | (with_reducible exact ih0 _ _ _ _)
      | (with_reducible exact ih1 _ _ _ _ _ _ _)
      | (with_reducible exact ih2 _ _ _ _ _ _ _)
      | (with_reducible exact LeO.refl _)
      | (with_reducible exact LeO.none _)
      | (with_reducible refine LeO.ite ?_ ?_)
      | (with_reducible refine LeO.bind ?_ (fun _ => ?_))
      | exact ih0 _ _ _ _
      | exact ih1 _ _ _ _ _ _ _
      | exact ih2 _ _ _ _ _ _ _
      | exact LeO.none _
      | refine LeO.ite ?_ ?_
      | refine LeO.bind ?_ (fun _ => ?_)
set_option maxHeartbeats 8000000 in
set_option maxRecDepth 100000 in
theorem hustingsref10_of.calls (k : Nat) (a0 : ByteArray) (a1 : ByteArray) (a2 : ByteArray) (r : Bool) (w : World) (h : hustingsref10_of.f k a0 a1 a2 = some r) :
    Calls Tryd.prog 33 #[.string a0, .string a1, .string a2] w fun e w' => e = .returned (.bool r) ∧ zI w w' := by
  have H : (hustingsref10_of.l0 k a0 a1 a2 0) = some r := h
  clear h
  have H' := Aside0.mk H
  clear H
  go_enter Tryd.func33, Tryd.ntmps33
  go_wp2
  go_loopg [7] k (fun kq v7 w' => ∃ (x7_1 : Int), v7 = .int .i64 x7_1 ∧ Aside0 (hustingsref10_of.l0 kq a0 a1 a2 x7_1 = some r) ∧ Aside0 (kq ≤ k) ∧ zI w w')
  case atStart => exact ⟨(0), (by first | rfl | (simp; done) | (simp [*]; done)), H', ⟨Nat.le_refl _⟩, by repeat (first | exact zI.refl _ | apply zI.step)⟩
  case round =>
    clear H'
    try clear p2
    try clear c3
    obtain ⟨x7_1, rfl, HA, HK1, ⟨m1, rfl⟩⟩ := hrel
    cases gk with
    | zero => exact absurd HA.out (by simp [hustingsref10_of.l0])
    | succ k1 =>
      have H := HA.out
      clear HA
      simp only [hustingsref10_of.l0] at H
      by_cases c4 : x7_1 < (a0.size : Int)
      · rw [if_pos c4] at H
        have c4b0 : decide (x7_1 < (a0.size : Int)) = true := decide_eq_true c4
        clear c4
        by_cases c5 : 0 ≤ x7_1
        · rw [if_pos c5] at H
          have c5b0 : decide (0 ≤ x7_1) = true := decide_eq_true c5
          clear c5
          have H' := Aside0.mk H
          clear H
          have p6 : 0 ≤ (x7_1 : Int) := of_decide_eq_true (by first | (with_reducible assumption) | assumption)
          have q6 : x7_1 < (a0.size : Int) := of_decide_eq_true (by first | (with_reducible assumption) | assumption)
          have hx6 := zR a0 x7_1
          replace p6 := eq_true p6
          replace q6 := eq_true q6
          go_wp2
          go_loopg [9, 10] k1 (fun kq v9 v10 w' => ∃ (x9_2 : Bool) (x10_2 : Int), v9 = .bool x9_2 ∧ v10 = .int .i64 x10_2 ∧ Aside0 (hustingsref10_of.l1 kq a0 a1 a2 x7_1 (bt a0 x7_1) x9_2 x10_2 = some r) ∧ Aside0 (kq ≤ k1) ∧ zI w w')
          case atStart => exact ⟨(false), (0), (by first | rfl | (simp; done) | (simp [*]; done)), (by first | rfl | (simp; done) | (simp [*]; done)), H', ⟨Nat.le_refl _⟩, by repeat (first | exact zI.refl _ | apply zI.step)⟩
          case round =>
            clear H'
            try clear p2
            try clear c3
            try clear c4
            try clear c4b0
            try clear c5
            try clear c5b0
            try clear p6
            try clear q6
            try clear hx6
            try clear p2
            try clear p6
            try clear q6
            obtain ⟨x9_2, x10_2, rfl, rfl, HA, HK2, ⟨m2, rfl⟩⟩ := hrel
            cases gk with
            | zero => exact absurd HA.out (by simp [hustingsref10_of.l1])
            | succ k2 =>
              have H := HA.out
              clear HA
              simp only [hustingsref10_of.l1] at H
              by_cases c7 : x10_2 < (a1.size : Int)
              · rw [if_pos c7] at H
                have c7b0 : decide (x10_2 < (a1.size : Int)) = true := decide_eq_true c7
                clear c7
                by_cases c8 : x9_2 = true
                · subst c8
                  have H1 : (hustingsref10_of.l1 k2 a0 a1 a2 x7_1 (bt a0 x7_1) true (wrap64 (x10_2 + 1))) = some r := by rw [if_pos rfl] at H; exact H
                  clear H
                  have H := H1
                  clear H1
                  have H' := Aside0.mk H
                  clear H
                  go_wp2
                  go_roundg k2
                  case measure => have := HK1.out; have := HK2.out; omega
                  case rel => exact ⟨(true), (wrap64 (x10_2 + 1)), (by first | rfl | (simp; done) | (simp [*]; done)), (by first | rfl | (simp; done) | (simp [*]; done)), H', ⟨by have := HK1.out; have := HK2.out; omega⟩, by repeat (first | exact zI.refl _ | apply zI.step)⟩
                · replace c8 := Bool.eq_false_iff.mpr c8
                  subst c8
                  have H1 : (if 0 ≤ x10_2 then (if (bt a1 x10_2) = 97 then (if (bt a0 x7_1) ≥ 97 then (if (bt a0 x7_1) ≤ 122 then (hustingsref10_of.l1 k2 a0 a1 a2 x7_1 (bt a0 x7_1) true (wrap64 (x10_2 + 1))) else (if (bt a1 x10_2) = 65 then (if (bt a0 x7_1) ≥ 65 then (if (bt a0 x7_1) ≤ 90 then (hustingsref10_of.l1 k2 a0 a1 a2 x7_1 (bt a0 x7_1) true (wrap64 (x10_2 + 1))) else (if (bt a1 x10_2) = 48 then (if (bt a0 x7_1) ≥ 48 then (hustingsref10_of.l1 k2 a0 a1 a2 x7_1 (bt a0 x7_1) (decide ((bt a0 x7_1) ≤ 57)) (wrap64 (x10_2 + 1))) else (hustingsref10_of.l1 k2 a0 a1 a2 x7_1 (bt a0 x7_1) false (wrap64 (x10_2 + 1)))) else (hustingsref10_of.l1 k2 a0 a1 a2 x7_1 (bt a0 x7_1) false (wrap64 (x10_2 + 1))))) else (if (bt a1 x10_2) = 48 then (if (bt a0 x7_1) ≥ 48 then (hustingsref10_of.l1 k2 a0 a1 a2 x7_1 (bt a0 x7_1) (decide ((bt a0 x7_1) ≤ 57)) (wrap64 (x10_2 + 1))) else (hustingsref10_of.l1 k2 a0 a1 a2 x7_1 (bt a0 x7_1) false (wrap64 (x10_2 + 1)))) else (hustingsref10_of.l1 k2 a0 a1 a2 x7_1 (bt a0 x7_1) false (wrap64 (x10_2 + 1))))) else (if (bt a1 x10_2) = 48 then (if (bt a0 x7_1) ≥ 48 then (hustingsref10_of.l1 k2 a0 a1 a2 x7_1 (bt a0 x7_1) (decide ((bt a0 x7_1) ≤ 57)) (wrap64 (x10_2 + 1))) else (hustingsref10_of.l1 k2 a0 a1 a2 x7_1 (bt a0 x7_1) false (wrap64 (x10_2 + 1)))) else (hustingsref10_of.l1 k2 a0 a1 a2 x7_1 (bt a0 x7_1) false (wrap64 (x10_2 + 1)))))) else (if (bt a1 x10_2) = 65 then (if (bt a0 x7_1) ≥ 65 then (if (bt a0 x7_1) ≤ 90 then (hustingsref10_of.l1 k2 a0 a1 a2 x7_1 (bt a0 x7_1) true (wrap64 (x10_2 + 1))) else (if (bt a1 x10_2) = 48 then (if (bt a0 x7_1) ≥ 48 then (hustingsref10_of.l1 k2 a0 a1 a2 x7_1 (bt a0 x7_1) (decide ((bt a0 x7_1) ≤ 57)) (wrap64 (x10_2 + 1))) else (hustingsref10_of.l1 k2 a0 a1 a2 x7_1 (bt a0 x7_1) false (wrap64 (x10_2 + 1)))) else (hustingsref10_of.l1 k2 a0 a1 a2 x7_1 (bt a0 x7_1) false (wrap64 (x10_2 + 1))))) else (if (bt a1 x10_2) = 48 then (if (bt a0 x7_1) ≥ 48 then (hustingsref10_of.l1 k2 a0 a1 a2 x7_1 (bt a0 x7_1) (decide ((bt a0 x7_1) ≤ 57)) (wrap64 (x10_2 + 1))) else (hustingsref10_of.l1 k2 a0 a1 a2 x7_1 (bt a0 x7_1) false (wrap64 (x10_2 + 1)))) else (hustingsref10_of.l1 k2 a0 a1 a2 x7_1 (bt a0 x7_1) false (wrap64 (x10_2 + 1))))) else (if (bt a1 x10_2) = 48 then (if (bt a0 x7_1) ≥ 48 then (hustingsref10_of.l1 k2 a0 a1 a2 x7_1 (bt a0 x7_1) (decide ((bt a0 x7_1) ≤ 57)) (wrap64 (x10_2 + 1))) else (hustingsref10_of.l1 k2 a0 a1 a2 x7_1 (bt a0 x7_1) false (wrap64 (x10_2 + 1)))) else (hustingsref10_of.l1 k2 a0 a1 a2 x7_1 (bt a0 x7_1) false (wrap64 (x10_2 + 1)))))) else (if (bt a1 x10_2) = 65 then (if (bt a0 x7_1) ≥ 65 then (if (bt a0 x7_1) ≤ 90 then (hustingsref10_of.l1 k2 a0 a1 a2 x7_1 (bt a0 x7_1) true (wrap64 (x10_2 + 1))) else (if (bt a1 x10_2) = 48 then (if (bt a0 x7_1) ≥ 48 then (hustingsref10_of.l1 k2 a0 a1 a2 x7_1 (bt a0 x7_1) (decide ((bt a0 x7_1) ≤ 57)) (wrap64 (x10_2 + 1))) else (hustingsref10_of.l1 k2 a0 a1 a2 x7_1 (bt a0 x7_1) false (wrap64 (x10_2 + 1)))) else (hustingsref10_of.l1 k2 a0 a1 a2 x7_1 (bt a0 x7_1) false (wrap64 (x10_2 + 1))))) else (if (bt a1 x10_2) = 48 then (if (bt a0 x7_1) ≥ 48 then (hustingsref10_of.l1 k2 a0 a1 a2 x7_1 (bt a0 x7_1) (decide ((bt a0 x7_1) ≤ 57)) (wrap64 (x10_2 + 1))) else (hustingsref10_of.l1 k2 a0 a1 a2 x7_1 (bt a0 x7_1) false (wrap64 (x10_2 + 1)))) else (hustingsref10_of.l1 k2 a0 a1 a2 x7_1 (bt a0 x7_1) false (wrap64 (x10_2 + 1))))) else (if (bt a1 x10_2) = 48 then (if (bt a0 x7_1) ≥ 48 then (hustingsref10_of.l1 k2 a0 a1 a2 x7_1 (bt a0 x7_1) (decide ((bt a0 x7_1) ≤ 57)) (wrap64 (x10_2 + 1))) else (hustingsref10_of.l1 k2 a0 a1 a2 x7_1 (bt a0 x7_1) false (wrap64 (x10_2 + 1)))) else (hustingsref10_of.l1 k2 a0 a1 a2 x7_1 (bt a0 x7_1) false (wrap64 (x10_2 + 1)))))) else (none)) = some r := by rw [if_neg (show ¬ (false = true) by decide)] at H; exact H
                  clear H
                  have H := H1
                  clear H1
                  by_cases c9 : 0 ≤ x10_2
                  · rw [if_pos c9] at H
                    have c9b0 : decide (0 ≤ x10_2) = true := decide_eq_true c9
                    clear c9
                    by_cases c11 : (bt a1 x10_2) = 97
                    · rw [if_pos c11] at H
                      have c11b0 : ((bt a1 x10_2) == 97) = true := beq_iff_eq.mpr c11
                      have c11b1 : ((bt a1 x10_2) != 97) = false := bne_eq_false_iff_eq.mpr c11
                      clear c11
                      by_cases c12 : (bt a0 x7_1) ≥ 97
                      · rw [if_pos c12] at H
                        have c12b0 : decide (97 ≤ (bt a0 x7_1)) = true := decide_eq_true c12
                        clear c12
                        by_cases c13 : (bt a0 x7_1) ≤ 122
                        · rw [if_pos c13] at H
                          have c13b0 : decide ((bt a0 x7_1) ≤ 122) = true := decide_eq_true c13
                          clear c13
                          have H' := Aside0.mk H
                          clear H
                          have p10 : 0 ≤ (x10_2 : Int) := of_decide_eq_true (by first | (with_reducible assumption) | assumption)
                          have q10 : x10_2 < (a1.size : Int) := of_decide_eq_true (by first | (with_reducible assumption) | assumption)
                          have hx10 := zR a1 x10_2
                          replace p10 := eq_true p10
                          replace q10 := eq_true q10
                          go_wp2
                          go_roundg k2
                          case measure => have := HK1.out; have := HK2.out; omega
                          case rel => exact ⟨(true), (wrap64 (x10_2 + 1)), (by first | rfl | (simp; done) | (simp [*]; done)), (by first | rfl | (simp; done) | (simp [*]; done)), H', ⟨by have := HK1.out; have := HK2.out; omega⟩, by repeat (first | exact zI.refl _ | apply zI.step)⟩
                        · rw [if_neg c13] at H
                          have c13b0 : decide ((bt a0 x7_1) ≤ 122) = false := decide_eq_false c13
                          clear c13
                          by_cases c15 : (bt a1 x10_2) = 65
                          · rw [if_pos c15] at H
                            have c15b0 : ((bt a1 x10_2) == 65) = true := beq_iff_eq.mpr c15
                            have c15b1 : ((bt a1 x10_2) != 65) = false := bne_eq_false_iff_eq.mpr c15
                            clear c15
                            by_cases c16 : (bt a0 x7_1) ≥ 65
                            · rw [if_pos c16] at H
                              have c16b0 : decide (65 ≤ (bt a0 x7_1)) = true := decide_eq_true c16
                              clear c16
                              by_cases c17 : (bt a0 x7_1) ≤ 90
                              · rw [if_pos c17] at H
                                have c17b0 : decide ((bt a0 x7_1) ≤ 90) = true := decide_eq_true c17
                                clear c17
                                have H' := Aside0.mk H
                                clear H
                                have p10 : 0 ≤ (x10_2 : Int) := of_decide_eq_true (by first | (with_reducible assumption) | assumption)
                                have q10 : x10_2 < (a1.size : Int) := of_decide_eq_true (by first | (with_reducible assumption) | assumption)
                                have hx10 := zR a1 x10_2
                                replace p10 := eq_true p10
                                replace q10 := eq_true q10
                                have p14 : 0 ≤ (x10_2 : Int) := of_decide_eq_true (by first | (with_reducible assumption) | assumption)
                                have q14 : x10_2 < (a1.size : Int) := of_decide_eq_true (by first | (with_reducible assumption) | assumption)
                                have hx14 := zR a1 x10_2
                                replace p14 := eq_true p14
                                replace q14 := eq_true q14
                                go_wp2
                                go_roundg k2
                                case measure => have := HK1.out; have := HK2.out; omega
                                case rel => exact ⟨(true), (wrap64 (x10_2 + 1)), (by first | rfl | (simp; done) | (simp [*]; done)), (by first | rfl | (simp; done) | (simp [*]; done)), H', ⟨by have := HK1.out; have := HK2.out; omega⟩, by repeat (first | exact zI.refl _ | apply zI.step)⟩
                              · rw [if_neg c17] at H
                                have c17b0 : decide ((bt a0 x7_1) ≤ 90) = false := decide_eq_false c17
                                clear c17
                                by_cases c19 : (bt a1 x10_2) = 48
                                · rw [if_pos c19] at H
                                  have c19b0 : ((bt a1 x10_2) == 48) = true := beq_iff_eq.mpr c19
                                  have c19b1 : ((bt a1 x10_2) != 48) = false := bne_eq_false_iff_eq.mpr c19
                                  clear c19
                                  by_cases c20 : (bt a0 x7_1) ≥ 48
                                  · rw [if_pos c20] at H
                                    have c20b0 : decide (48 ≤ (bt a0 x7_1)) = true := decide_eq_true c20
                                    clear c20
                                    have H' := Aside0.mk H
                                    clear H
                                    have p10 : 0 ≤ (x10_2 : Int) := of_decide_eq_true (by first | (with_reducible assumption) | assumption)
                                    have q10 : x10_2 < (a1.size : Int) := of_decide_eq_true (by first | (with_reducible assumption) | assumption)
                                    have hx10 := zR a1 x10_2
                                    replace p10 := eq_true p10
                                    replace q10 := eq_true q10
                                    have p14 : 0 ≤ (x10_2 : Int) := of_decide_eq_true (by first | (with_reducible assumption) | assumption)
                                    have q14 : x10_2 < (a1.size : Int) := of_decide_eq_true (by first | (with_reducible assumption) | assumption)
                                    have hx14 := zR a1 x10_2
                                    replace p14 := eq_true p14
                                    replace q14 := eq_true q14
                                    have p18 : 0 ≤ (x10_2 : Int) := of_decide_eq_true (by first | (with_reducible assumption) | assumption)
                                    have q18 : x10_2 < (a1.size : Int) := of_decide_eq_true (by first | (with_reducible assumption) | assumption)
                                    have hx18 := zR a1 x10_2
                                    replace p18 := eq_true p18
                                    replace q18 := eq_true q18
                                    go_wp2
                                    go_roundg k2
                                    case measure => have := HK1.out; have := HK2.out; omega
                                    case rel => exact ⟨(decide ((bt a0 x7_1) ≤ 57)), (wrap64 (x10_2 + 1)), (by first | rfl | (simp; done) | (simp [*]; done)), (by first | rfl | (simp; done) | (simp [*]; done)), H', ⟨by have := HK1.out; have := HK2.out; omega⟩, by repeat (first | exact zI.refl _ | apply zI.step)⟩
                                  · rw [if_neg c20] at H
                                    have c20b0 : decide (48 ≤ (bt a0 x7_1)) = false := decide_eq_false c20
                                    clear c20
                                    have H' := Aside0.mk H
                                    clear H
                                    have p10 : 0 ≤ (x10_2 : Int) := of_decide_eq_true (by first | (with_reducible assumption) | assumption)
                                    have q10 : x10_2 < (a1.size : Int) := of_decide_eq_true (by first | (with_reducible assumption) | assumption)
                                    have hx10 := zR a1 x10_2
                                    replace p10 := eq_true p10
                                    replace q10 := eq_true q10
                                    have p14 : 0 ≤ (x10_2 : Int) := of_decide_eq_true (by first | (with_reducible assumption) | assumption)
                                    have q14 : x10_2 < (a1.size : Int) := of_decide_eq_true (by first | (with_reducible assumption) | assumption)
                                    have hx14 := zR a1 x10_2
                                    replace p14 := eq_true p14
                                    replace q14 := eq_true q14
                                    have p18 : 0 ≤ (x10_2 : Int) := of_decide_eq_true (by first | (with_reducible assumption) | assumption)
                                    have q18 : x10_2 < (a1.size : Int) := of_decide_eq_true (by first | (with_reducible assumption) | assumption)
                                    have hx18 := zR a1 x10_2
                                    replace p18 := eq_true p18
                                    replace q18 := eq_true q18
                                    go_wp2
                                    go_roundg k2
                                    case measure => have := HK1.out; have := HK2.out; omega
                                    case rel => exact ⟨(false), (wrap64 (x10_2 + 1)), (by first | rfl | (simp; done) | (simp [*]; done)), (by first | rfl | (simp; done) | (simp [*]; done)), H', ⟨by have := HK1.out; have := HK2.out; omega⟩, by repeat (first | exact zI.refl _ | apply zI.step)⟩
                                · rw [if_neg c19] at H
                                  have c19b0 : ((bt a1 x10_2) == 48) = false := beq_eq_false_iff_ne.mpr c19
                                  have c19b1 : ((bt a1 x10_2) != 48) = true := bne_iff_ne.mpr c19
                                  have H' := Aside0.mk H
                                  clear H
                                  have p10 : 0 ≤ (x10_2 : Int) := of_decide_eq_true (by first | (with_reducible assumption) | assumption)
                                  have q10 : x10_2 < (a1.size : Int) := of_decide_eq_true (by first | (with_reducible assumption) | assumption)
                                  have hx10 := zR a1 x10_2
                                  replace p10 := eq_true p10
                                  replace q10 := eq_true q10
                                  have p14 : 0 ≤ (x10_2 : Int) := of_decide_eq_true (by first | (with_reducible assumption) | assumption)
                                  have q14 : x10_2 < (a1.size : Int) := of_decide_eq_true (by first | (with_reducible assumption) | assumption)
                                  have hx14 := zR a1 x10_2
                                  replace p14 := eq_true p14
                                  replace q14 := eq_true q14
                                  have p18 : 0 ≤ (x10_2 : Int) := of_decide_eq_true (by first | (with_reducible assumption) | assumption)
                                  have q18 : x10_2 < (a1.size : Int) := of_decide_eq_true (by first | (with_reducible assumption) | assumption)
                                  have hx18 := zR a1 x10_2
                                  replace p18 := eq_true p18
                                  replace q18 := eq_true q18
                                  go_wp2
                                  go_roundg k2
                                  case measure => have := HK1.out; have := HK2.out; omega
                                  case rel => exact ⟨(false), (wrap64 (x10_2 + 1)), (by first | rfl | (simp; done) | (simp [*]; done)), (by first | rfl | (simp; done) | (simp [*]; done)), H', ⟨by have := HK1.out; have := HK2.out; omega⟩, by repeat (first | exact zI.refl _ | apply zI.step)⟩
                            · rw [if_neg c16] at H
                              have c16b0 : decide (65 ≤ (bt a0 x7_1)) = false := decide_eq_false c16
                              clear c16
                              by_cases c22 : (bt a1 x10_2) = 48
                              · rw [if_pos c22] at H
                                have c22b0 : ((bt a1 x10_2) == 48) = true := beq_iff_eq.mpr c22
                                have c22b1 : ((bt a1 x10_2) != 48) = false := bne_eq_false_iff_eq.mpr c22
                                clear c22
                                by_cases c23 : (bt a0 x7_1) ≥ 48
                                · rw [if_pos c23] at H
                                  have c23b0 : decide (48 ≤ (bt a0 x7_1)) = true := decide_eq_true c23
                                  clear c23
                                  have H' := Aside0.mk H
                                  clear H
                                  have p10 : 0 ≤ (x10_2 : Int) := of_decide_eq_true (by first | (with_reducible assumption) | assumption)
                                  have q10 : x10_2 < (a1.size : Int) := of_decide_eq_true (by first | (with_reducible assumption) | assumption)
                                  have hx10 := zR a1 x10_2
                                  replace p10 := eq_true p10
                                  replace q10 := eq_true q10
                                  have p14 : 0 ≤ (x10_2 : Int) := of_decide_eq_true (by first | (with_reducible assumption) | assumption)
                                  have q14 : x10_2 < (a1.size : Int) := of_decide_eq_true (by first | (with_reducible assumption) | assumption)
                                  have hx14 := zR a1 x10_2
                                  replace p14 := eq_true p14
                                  replace q14 := eq_true q14
                                  have p21 : 0 ≤ (x10_2 : Int) := of_decide_eq_true (by first | (with_reducible assumption) | assumption)
                                  have q21 : x10_2 < (a1.size : Int) := of_decide_eq_true (by first | (with_reducible assumption) | assumption)
                                  have hx21 := zR a1 x10_2
                                  replace p21 := eq_true p21
                                  replace q21 := eq_true q21
                                  go_wp2
                                  go_roundg k2
                                  case measure => have := HK1.out; have := HK2.out; omega
                                  case rel => exact ⟨(decide ((bt a0 x7_1) ≤ 57)), (wrap64 (x10_2 + 1)), (by first | rfl | (simp; done) | (simp [*]; done)), (by first | rfl | (simp; done) | (simp [*]; done)), H', ⟨by have := HK1.out; have := HK2.out; omega⟩, by repeat (first | exact zI.refl _ | apply zI.step)⟩
                                · rw [if_neg c23] at H
                                  have c23b0 : decide (48 ≤ (bt a0 x7_1)) = false := decide_eq_false c23
                                  clear c23
                                  have H' := Aside0.mk H
                                  clear H
                                  have p10 : 0 ≤ (x10_2 : Int) := of_decide_eq_true (by first | (with_reducible assumption) | assumption)
                                  have q10 : x10_2 < (a1.size : Int) := of_decide_eq_true (by first | (with_reducible assumption) | assumption)
                                  have hx10 := zR a1 x10_2
                                  replace p10 := eq_true p10
                                  replace q10 := eq_true q10
                                  have p14 : 0 ≤ (x10_2 : Int) := of_decide_eq_true (by first | (with_reducible assumption) | assumption)
                                  have q14 : x10_2 < (a1.size : Int) := of_decide_eq_true (by first | (with_reducible assumption) | assumption)
                                  have hx14 := zR a1 x10_2
                                  replace p14 := eq_true p14
                                  replace q14 := eq_true q14
                                  have p21 : 0 ≤ (x10_2 : Int) := of_decide_eq_true (by first | (with_reducible assumption) | assumption)
                                  have q21 : x10_2 < (a1.size : Int) := of_decide_eq_true (by first | (with_reducible assumption) | assumption)
                                  have hx21 := zR a1 x10_2
                                  replace p21 := eq_true p21
                                  replace q21 := eq_true q21
                                  go_wp2
                                  go_roundg k2
                                  case measure => have := HK1.out; have := HK2.out; omega
                                  case rel => exact ⟨(false), (wrap64 (x10_2 + 1)), (by first | rfl | (simp; done) | (simp [*]; done)), (by first | rfl | (simp; done) | (simp [*]; done)), H', ⟨by have := HK1.out; have := HK2.out; omega⟩, by repeat (first | exact zI.refl _ | apply zI.step)⟩
                              · rw [if_neg c22] at H
                                have c22b0 : ((bt a1 x10_2) == 48) = false := beq_eq_false_iff_ne.mpr c22
                                have c22b1 : ((bt a1 x10_2) != 48) = true := bne_iff_ne.mpr c22
                                have H' := Aside0.mk H
                                clear H
                                have p10 : 0 ≤ (x10_2 : Int) := of_decide_eq_true (by first | (with_reducible assumption) | assumption)
                                have q10 : x10_2 < (a1.size : Int) := of_decide_eq_true (by first | (with_reducible assumption) | assumption)
                                have hx10 := zR a1 x10_2
                                replace p10 := eq_true p10
                                replace q10 := eq_true q10
                                have p14 : 0 ≤ (x10_2 : Int) := of_decide_eq_true (by first | (with_reducible assumption) | assumption)
                                have q14 : x10_2 < (a1.size : Int) := of_decide_eq_true (by first | (with_reducible assumption) | assumption)
                                have hx14 := zR a1 x10_2
                                replace p14 := eq_true p14
                                replace q14 := eq_true q14
                                have p21 : 0 ≤ (x10_2 : Int) := of_decide_eq_true (by first | (with_reducible assumption) | assumption)
                                have q21 : x10_2 < (a1.size : Int) := of_decide_eq_true (by first | (with_reducible assumption) | assumption)
                                have hx21 := zR a1 x10_2
                                replace p21 := eq_true p21
                                replace q21 := eq_true q21
                                go_wp2
                                go_roundg k2
                                case measure => have := HK1.out; have := HK2.out; omega
                                case rel => exact ⟨(false), (wrap64 (x10_2 + 1)), (by first | rfl | (simp; done) | (simp [*]; done)), (by first | rfl | (simp; done) | (simp [*]; done)), H', ⟨by have := HK1.out; have := HK2.out; omega⟩, by repeat (first | exact zI.refl _ | apply zI.step)⟩
                          · rw [if_neg c15] at H
                            have c15b0 : ((bt a1 x10_2) == 65) = false := beq_eq_false_iff_ne.mpr c15
                            have c15b1 : ((bt a1 x10_2) != 65) = true := bne_iff_ne.mpr c15
                            by_cases c25 : (bt a1 x10_2) = 48
                            · rw [if_pos c25] at H
                              have c25b0 : ((bt a1 x10_2) == 48) = true := beq_iff_eq.mpr c25
                              have c25b1 : ((bt a1 x10_2) != 48) = false := bne_eq_false_iff_eq.mpr c25
                              clear c25
                              by_cases c26 : (bt a0 x7_1) ≥ 48
                              · rw [if_pos c26] at H
                                have c26b0 : decide (48 ≤ (bt a0 x7_1)) = true := decide_eq_true c26
                                clear c26
                                have H' := Aside0.mk H
                                clear H
                                have p10 : 0 ≤ (x10_2 : Int) := of_decide_eq_true (by first | (with_reducible assumption) | assumption)
                                have q10 : x10_2 < (a1.size : Int) := of_decide_eq_true (by first | (with_reducible assumption) | assumption)
                                have hx10 := zR a1 x10_2
                                replace p10 := eq_true p10
                                replace q10 := eq_true q10
                                have p14 : 0 ≤ (x10_2 : Int) := of_decide_eq_true (by first | (with_reducible assumption) | assumption)
                                have q14 : x10_2 < (a1.size : Int) := of_decide_eq_true (by first | (with_reducible assumption) | assumption)
                                have hx14 := zR a1 x10_2
                                replace p14 := eq_true p14
                                replace q14 := eq_true q14
                                have p24 : 0 ≤ (x10_2 : Int) := of_decide_eq_true (by first | (with_reducible assumption) | assumption)
                                have q24 : x10_2 < (a1.size : Int) := of_decide_eq_true (by first | (with_reducible assumption) | assumption)
                                have hx24 := zR a1 x10_2
                                replace p24 := eq_true p24
                                replace q24 := eq_true q24
                                go_wp2
                                go_roundg k2
                                case measure => have := HK1.out; have := HK2.out; omega
                                case rel => exact ⟨(decide ((bt a0 x7_1) ≤ 57)), (wrap64 (x10_2 + 1)), (by first | rfl | (simp; done) | (simp [*]; done)), (by first | rfl | (simp; done) | (simp [*]; done)), H', ⟨by have := HK1.out; have := HK2.out; omega⟩, by repeat (first | exact zI.refl _ | apply zI.step)⟩
                              · rw [if_neg c26] at H
                                have c26b0 : decide (48 ≤ (bt a0 x7_1)) = false := decide_eq_false c26
                                clear c26
                                have H' := Aside0.mk H
                                clear H
                                have p10 : 0 ≤ (x10_2 : Int) := of_decide_eq_true (by first | (with_reducible assumption) | assumption)
                                have q10 : x10_2 < (a1.size : Int) := of_decide_eq_true (by first | (with_reducible assumption) | assumption)
                                have hx10 := zR a1 x10_2
                                replace p10 := eq_true p10
                                replace q10 := eq_true q10
                                have p14 : 0 ≤ (x10_2 : Int) := of_decide_eq_true (by first | (with_reducible assumption) | assumption)
                                have q14 : x10_2 < (a1.size : Int) := of_decide_eq_true (by first | (with_reducible assumption) | assumption)
                                have hx14 := zR a1 x10_2
                                replace p14 := eq_true p14
                                replace q14 := eq_true q14
                                have p24 : 0 ≤ (x10_2 : Int) := of_decide_eq_true (by first | (with_reducible assumption) | assumption)
                                have q24 : x10_2 < (a1.size : Int) := of_decide_eq_true (by first | (with_reducible assumption) | assumption)
                                have hx24 := zR a1 x10_2
                                replace p24 := eq_true p24
                                replace q24 := eq_true q24
                                go_wp2
                                go_roundg k2
                                case measure => have := HK1.out; have := HK2.out; omega
                                case rel => exact ⟨(false), (wrap64 (x10_2 + 1)), (by first | rfl | (simp; done) | (simp [*]; done)), (by first | rfl | (simp; done) | (simp [*]; done)), H', ⟨by have := HK1.out; have := HK2.out; omega⟩, by repeat (first | exact zI.refl _ | apply zI.step)⟩
                            · rw [if_neg c25] at H
                              have c25b0 : ((bt a1 x10_2) == 48) = false := beq_eq_false_iff_ne.mpr c25
                              have c25b1 : ((bt a1 x10_2) != 48) = true := bne_iff_ne.mpr c25
                              have H' := Aside0.mk H
                              clear H
                              have p10 : 0 ≤ (x10_2 : Int) := of_decide_eq_true (by first | (with_reducible assumption) | assumption)
                              have q10 : x10_2 < (a1.size : Int) := of_decide_eq_true (by first | (with_reducible assumption) | assumption)
                              have hx10 := zR a1 x10_2
                              replace p10 := eq_true p10
                              replace q10 := eq_true q10
                              have p14 : 0 ≤ (x10_2 : Int) := of_decide_eq_true (by first | (with_reducible assumption) | assumption)
                              have q14 : x10_2 < (a1.size : Int) := of_decide_eq_true (by first | (with_reducible assumption) | assumption)
                              have hx14 := zR a1 x10_2
                              replace p14 := eq_true p14
                              replace q14 := eq_true q14
                              have p24 : 0 ≤ (x10_2 : Int) := of_decide_eq_true (by first | (with_reducible assumption) | assumption)
                              have q24 : x10_2 < (a1.size : Int) := of_decide_eq_true (by first | (with_reducible assumption) | assumption)
                              have hx24 := zR a1 x10_2
                              replace p24 := eq_true p24
                              replace q24 := eq_true q24
                              go_wp2
                              go_roundg k2
                              case measure => have := HK1.out; have := HK2.out; omega
                              case rel => exact ⟨(false), (wrap64 (x10_2 + 1)), (by first | rfl | (simp; done) | (simp [*]; done)), (by first | rfl | (simp; done) | (simp [*]; done)), H', ⟨by have := HK1.out; have := HK2.out; omega⟩, by repeat (first | exact zI.refl _ | apply zI.step)⟩
                      · rw [if_neg c12] at H
                        have c12b0 : decide (97 ≤ (bt a0 x7_1)) = false := decide_eq_false c12
                        clear c12
                        by_cases c28 : (bt a1 x10_2) = 65
                        · rw [if_pos c28] at H
                          have c28b0 : ((bt a1 x10_2) == 65) = true := beq_iff_eq.mpr c28
                          have c28b1 : ((bt a1 x10_2) != 65) = false := bne_eq_false_iff_eq.mpr c28
                          clear c28
                          by_cases c29 : (bt a0 x7_1) ≥ 65
                          · rw [if_pos c29] at H
                            have c29b0 : decide (65 ≤ (bt a0 x7_1)) = true := decide_eq_true c29
                            clear c29
                            by_cases c30 : (bt a0 x7_1) ≤ 90
                            · rw [if_pos c30] at H
                              have c30b0 : decide ((bt a0 x7_1) ≤ 90) = true := decide_eq_true c30
                              clear c30
                              have H' := Aside0.mk H
                              clear H
                              have p10 : 0 ≤ (x10_2 : Int) := of_decide_eq_true (by first | (with_reducible assumption) | assumption)
                              have q10 : x10_2 < (a1.size : Int) := of_decide_eq_true (by first | (with_reducible assumption) | assumption)
                              have hx10 := zR a1 x10_2
                              replace p10 := eq_true p10
                              replace q10 := eq_true q10
                              have p27 : 0 ≤ (x10_2 : Int) := of_decide_eq_true (by first | (with_reducible assumption) | assumption)
                              have q27 : x10_2 < (a1.size : Int) := of_decide_eq_true (by first | (with_reducible assumption) | assumption)
                              have hx27 := zR a1 x10_2
                              replace p27 := eq_true p27
                              replace q27 := eq_true q27
                              go_wp2
                              go_roundg k2
                              case measure => have := HK1.out; have := HK2.out; omega
                              case rel => exact ⟨(true), (wrap64 (x10_2 + 1)), (by first | rfl | (simp; done) | (simp [*]; done)), (by first | rfl | (simp; done) | (simp [*]; done)), H', ⟨by have := HK1.out; have := HK2.out; omega⟩, by repeat (first | exact zI.refl _ | apply zI.step)⟩
                            · rw [if_neg c30] at H
                              have c30b0 : decide ((bt a0 x7_1) ≤ 90) = false := decide_eq_false c30
                              clear c30
                              by_cases c32 : (bt a1 x10_2) = 48
                              · rw [if_pos c32] at H
                                have c32b0 : ((bt a1 x10_2) == 48) = true := beq_iff_eq.mpr c32
                                have c32b1 : ((bt a1 x10_2) != 48) = false := bne_eq_false_iff_eq.mpr c32
                                clear c32
                                by_cases c33 : (bt a0 x7_1) ≥ 48
                                · rw [if_pos c33] at H
                                  have c33b0 : decide (48 ≤ (bt a0 x7_1)) = true := decide_eq_true c33
                                  clear c33
                                  have H' := Aside0.mk H
                                  clear H
                                  have p10 : 0 ≤ (x10_2 : Int) := of_decide_eq_true (by first | (with_reducible assumption) | assumption)
                                  have q10 : x10_2 < (a1.size : Int) := of_decide_eq_true (by first | (with_reducible assumption) | assumption)
                                  have hx10 := zR a1 x10_2
                                  replace p10 := eq_true p10
                                  replace q10 := eq_true q10
                                  have p27 : 0 ≤ (x10_2 : Int) := of_decide_eq_true (by first | (with_reducible assumption) | assumption)
                                  have q27 : x10_2 < (a1.size : Int) := of_decide_eq_true (by first | (with_reducible assumption) | assumption)
                                  have hx27 := zR a1 x10_2
                                  replace p27 := eq_true p27
                                  replace q27 := eq_true q27
                                  have p31 : 0 ≤ (x10_2 : Int) := of_decide_eq_true (by first | (with_reducible assumption) | assumption)
                                  have q31 : x10_2 < (a1.size : Int) := of_decide_eq_true (by first | (with_reducible assumption) | assumption)
                                  have hx31 := zR a1 x10_2
                                  replace p31 := eq_true p31
                                  replace q31 := eq_true q31
                                  go_wp2
                                  go_roundg k2
                                  case measure => have := HK1.out; have := HK2.out; omega
                                  case rel => exact ⟨(decide ((bt a0 x7_1) ≤ 57)), (wrap64 (x10_2 + 1)), (by first | rfl | (simp; done) | (simp [*]; done)), (by first | rfl | (simp; done) | (simp [*]; done)), H', ⟨by have := HK1.out; have := HK2.out; omega⟩, by repeat (first | exact zI.refl _ | apply zI.step)⟩
                                · rw [if_neg c33] at H
                                  have c33b0 : decide (48 ≤ (bt a0 x7_1)) = false := decide_eq_false c33
                                  clear c33
                                  have H' := Aside0.mk H
                                  clear H
                                  have p10 : 0 ≤ (x10_2 : Int) := of_decide_eq_true (by first | (with_reducible assumption) | assumption)
                                  have q10 : x10_2 < (a1.size : Int) := of_decide_eq_true (by first | (with_reducible assumption) | assumption)
                                  have hx10 := zR a1 x10_2
                                  replace p10 := eq_true p10
                                  replace q10 := eq_true q10
                                  have p27 : 0 ≤ (x10_2 : Int) := of_decide_eq_true (by first | (with_reducible assumption) | assumption)
                                  have q27 : x10_2 < (a1.size : Int) := of_decide_eq_true (by first | (with_reducible assumption) | assumption)
                                  have hx27 := zR a1 x10_2
                                  replace p27 := eq_true p27
                                  replace q27 := eq_true q27
                                  have p31 : 0 ≤ (x10_2 : Int) := of_decide_eq_true (by first | (with_reducible assumption) | assumption)
                                  have q31 : x10_2 < (a1.size : Int) := of_decide_eq_true (by first | (with_reducible assumption) | assumption)
                                  have hx31 := zR a1 x10_2
                                  replace p31 := eq_true p31
                                  replace q31 := eq_true q31
                                  go_wp2
                                  go_roundg k2
                                  case measure => have := HK1.out; have := HK2.out; omega
                                  case rel => exact ⟨(false), (wrap64 (x10_2 + 1)), (by first | rfl | (simp; done) | (simp [*]; done)), (by first | rfl | (simp; done) | (simp [*]; done)), H', ⟨by have := HK1.out; have := HK2.out; omega⟩, by repeat (first | exact zI.refl _ | apply zI.step)⟩
                              · rw [if_neg c32] at H
                                have c32b0 : ((bt a1 x10_2) == 48) = false := beq_eq_false_iff_ne.mpr c32
                                have c32b1 : ((bt a1 x10_2) != 48) = true := bne_iff_ne.mpr c32
                                have H' := Aside0.mk H
                                clear H
                                have p10 : 0 ≤ (x10_2 : Int) := of_decide_eq_true (by first | (with_reducible assumption) | assumption)
                                have q10 : x10_2 < (a1.size : Int) := of_decide_eq_true (by first | (with_reducible assumption) | assumption)
                                have hx10 := zR a1 x10_2
                                replace p10 := eq_true p10
                                replace q10 := eq_true q10
                                have p27 : 0 ≤ (x10_2 : Int) := of_decide_eq_true (by first | (with_reducible assumption) | assumption)
                                have q27 : x10_2 < (a1.size : Int) := of_decide_eq_true (by first | (with_reducible assumption) | assumption)
                                have hx27 := zR a1 x10_2
                                replace p27 := eq_true p27
                                replace q27 := eq_true q27
                                have p31 : 0 ≤ (x10_2 : Int) := of_decide_eq_true (by first | (with_reducible assumption) | assumption)
                                have q31 : x10_2 < (a1.size : Int) := of_decide_eq_true (by first | (with_reducible assumption) | assumption)
                                have hx31 := zR a1 x10_2
                                replace p31 := eq_true p31
                                replace q31 := eq_true q31
                                go_wp2
                                go_roundg k2
                                case measure => have := HK1.out; have := HK2.out; omega
                                case rel => exact ⟨(false), (wrap64 (x10_2 + 1)), (by first | rfl | (simp; done) | (simp [*]; done)), (by first | rfl | (simp; done) | (simp [*]; done)), H', ⟨by have := HK1.out; have := HK2.out; omega⟩, by repeat (first | exact zI.refl _ | apply zI.step)⟩
                          · rw [if_neg c29] at H
                            have c29b0 : decide (65 ≤ (bt a0 x7_1)) = false := decide_eq_false c29
                            clear c29
                            by_cases c35 : (bt a1 x10_2) = 48
                            · rw [if_pos c35] at H
                              have c35b0 : ((bt a1 x10_2) == 48) = true := beq_iff_eq.mpr c35
                              have c35b1 : ((bt a1 x10_2) != 48) = false := bne_eq_false_iff_eq.mpr c35
                              clear c35
                              by_cases c36 : (bt a0 x7_1) ≥ 48
                              · rw [if_pos c36] at H
                                have c36b0 : decide (48 ≤ (bt a0 x7_1)) = true := decide_eq_true c36
                                clear c36
                                have H' := Aside0.mk H
                                clear H
                                have p10 : 0 ≤ (x10_2 : Int) := of_decide_eq_true (by first | (with_reducible assumption) | assumption)
                                have q10 : x10_2 < (a1.size : Int) := of_decide_eq_true (by first | (with_reducible assumption) | assumption)
                                have hx10 := zR a1 x10_2
                                replace p10 := eq_true p10
                                replace q10 := eq_true q10
                                have p27 : 0 ≤ (x10_2 : Int) := of_decide_eq_true (by first | (with_reducible assumption) | assumption)
                                have q27 : x10_2 < (a1.size : Int) := of_decide_eq_true (by first | (with_reducible assumption) | assumption)
                                have hx27 := zR a1 x10_2
                                replace p27 := eq_true p27
                                replace q27 := eq_true q27
                                have p34 : 0 ≤ (x10_2 : Int) := of_decide_eq_true (by first | (with_reducible assumption) | assumption)
                                have q34 : x10_2 < (a1.size : Int) := of_decide_eq_true (by first | (with_reducible assumption) | assumption)
                                have hx34 := zR a1 x10_2
                                replace p34 := eq_true p34
                                replace q34 := eq_true q34
                                go_wp2
                                go_roundg k2
                                case measure => have := HK1.out; have := HK2.out; omega
                                case rel => exact ⟨(decide ((bt a0 x7_1) ≤ 57)), (wrap64 (x10_2 + 1)), (by first | rfl | (simp; done) | (simp [*]; done)), (by first | rfl | (simp; done) | (simp [*]; done)), H', ⟨by have := HK1.out; have := HK2.out; omega⟩, by repeat (first | exact zI.refl _ | apply zI.step)⟩
                              · rw [if_neg c36] at H
                                have c36b0 : decide (48 ≤ (bt a0 x7_1)) = false := decide_eq_false c36
                                clear c36
                                have H' := Aside0.mk H
                                clear H
                                have p10 : 0 ≤ (x10_2 : Int) := of_decide_eq_true (by first | (with_reducible assumption) | assumption)
                                have q10 : x10_2 < (a1.size : Int) := of_decide_eq_true (by first | (with_reducible assumption) | assumption)
                                have hx10 := zR a1 x10_2
                                replace p10 := eq_true p10
                                replace q10 := eq_true q10
                                have p27 : 0 ≤ (x10_2 : Int) := of_decide_eq_true (by first | (with_reducible assumption) | assumption)
                                have q27 : x10_2 < (a1.size : Int) := of_decide_eq_true (by first | (with_reducible assumption) | assumption)
                                have hx27 := zR a1 x10_2
                                replace p27 := eq_true p27
                                replace q27 := eq_true q27
                                have p34 : 0 ≤ (x10_2 : Int) := of_decide_eq_true (by first | (with_reducible assumption) | assumption)
                                have q34 : x10_2 < (a1.size : Int) := of_decide_eq_true (by first | (with_reducible assumption) | assumption)
                                have hx34 := zR a1 x10_2
                                replace p34 := eq_true p34
                                replace q34 := eq_true q34
                                go_wp2
                                go_roundg k2
                                case measure => have := HK1.out; have := HK2.out; omega
                                case rel => exact ⟨(false), (wrap64 (x10_2 + 1)), (by first | rfl | (simp; done) | (simp [*]; done)), (by first | rfl | (simp; done) | (simp [*]; done)), H', ⟨by have := HK1.out; have := HK2.out; omega⟩, by repeat (first | exact zI.refl _ | apply zI.step)⟩
                            · rw [if_neg c35] at H
                              have c35b0 : ((bt a1 x10_2) == 48) = false := beq_eq_false_iff_ne.mpr c35
                              have c35b1 : ((bt a1 x10_2) != 48) = true := bne_iff_ne.mpr c35
                              have H' := Aside0.mk H
                              clear H
                              have p10 : 0 ≤ (x10_2 : Int) := of_decide_eq_true (by first | (with_reducible assumption) | assumption)
                              have q10 : x10_2 < (a1.size : Int) := of_decide_eq_true (by first | (with_reducible assumption) | assumption)
                              have hx10 := zR a1 x10_2
                              replace p10 := eq_true p10
                              replace q10 := eq_true q10
                              have p27 : 0 ≤ (x10_2 : Int) := of_decide_eq_true (by first | (with_reducible assumption) | assumption)
                              have q27 : x10_2 < (a1.size : Int) := of_decide_eq_true (by first | (with_reducible assumption) | assumption)
                              have hx27 := zR a1 x10_2
                              replace p27 := eq_true p27
                              replace q27 := eq_true q27
                              have p34 : 0 ≤ (x10_2 : Int) := of_decide_eq_true (by first | (with_reducible assumption) | assumption)
                              have q34 : x10_2 < (a1.size : Int) := of_decide_eq_true (by first | (with_reducible assumption) | assumption)
                              have hx34 := zR a1 x10_2
                              replace p34 := eq_true p34
                              replace q34 := eq_true q34
                              go_wp2
                              go_roundg k2
                              case measure => have := HK1.out; have := HK2.out; omega
                              case rel => exact ⟨(false), (wrap64 (x10_2 + 1)), (by first | rfl | (simp; done) | (simp [*]; done)), (by first | rfl | (simp; done) | (simp [*]; done)), H', ⟨by have := HK1.out; have := HK2.out; omega⟩, by repeat (first | exact zI.refl _ | apply zI.step)⟩
                        · rw [if_neg c28] at H
                          have c28b0 : ((bt a1 x10_2) == 65) = false := beq_eq_false_iff_ne.mpr c28
                          have c28b1 : ((bt a1 x10_2) != 65) = true := bne_iff_ne.mpr c28
                          by_cases c38 : (bt a1 x10_2) = 48
                          · rw [if_pos c38] at H
                            have c38b0 : ((bt a1 x10_2) == 48) = true := beq_iff_eq.mpr c38
                            have c38b1 : ((bt a1 x10_2) != 48) = false := bne_eq_false_iff_eq.mpr c38
                            clear c38
                            by_cases c39 : (bt a0 x7_1) ≥ 48
                            · rw [if_pos c39] at H
                              have c39b0 : decide (48 ≤ (bt a0 x7_1)) = true := decide_eq_true c39
                              clear c39
                              have H' := Aside0.mk H
                              clear H
                              have p10 : 0 ≤ (x10_2 : Int) := of_decide_eq_true (by first | (with_reducible assumption) | assumption)
                              have q10 : x10_2 < (a1.size : Int) := of_decide_eq_true (by first | (with_reducible assumption) | assumption)
                              have hx10 := zR a1 x10_2
                              replace p10 := eq_true p10
                              replace q10 := eq_true q10
                              have p27 : 0 ≤ (x10_2 : Int) := of_decide_eq_true (by first | (with_reducible assumption) | assumption)
                              have q27 : x10_2 < (a1.size : Int) := of_decide_eq_true (by first | (with_reducible assumption) | assumption)
                              have hx27 := zR a1 x10_2
                              replace p27 := eq_true p27
                              replace q27 := eq_true q27
                              have p37 : 0 ≤ (x10_2 : Int) := of_decide_eq_true (by first | (with_reducible assumption) | assumption)
                              have q37 : x10_2 < (a1.size : Int) := of_decide_eq_true (by first | (with_reducible assumption) | assumption)
                              have hx37 := zR a1 x10_2
                              replace p37 := eq_true p37
                              replace q37 := eq_true q37
                              go_wp2
                              go_roundg k2
                              case measure => have := HK1.out; have := HK2.out; omega
                              case rel => exact ⟨(decide ((bt a0 x7_1) ≤ 57)), (wrap64 (x10_2 + 1)), (by first | rfl | (simp; done) | (simp [*]; done)), (by first | rfl | (simp; done) | (simp [*]; done)), H', ⟨by have := HK1.out; have := HK2.out; omega⟩, by repeat (first | exact zI.refl _ | apply zI.step)⟩
                            · rw [if_neg c39] at H
                              have c39b0 : decide (48 ≤ (bt a0 x7_1)) = false := decide_eq_false c39
                              clear c39
                              have H' := Aside0.mk H
                              clear H
                              have p10 : 0 ≤ (x10_2 : Int) := of_decide_eq_true (by first | (with_reducible assumption) | assumption)
                              have q10 : x10_2 < (a1.size : Int) := of_decide_eq_true (by first | (with_reducible assumption) | assumption)
                              have hx10 := zR a1 x10_2
                              replace p10 := eq_true p10
                              replace q10 := eq_true q10
                              have p27 : 0 ≤ (x10_2 : Int) := of_decide_eq_true (by first | (with_reducible assumption) | assumption)
                              have q27 : x10_2 < (a1.size : Int) := of_decide_eq_true (by first | (with_reducible assumption) | assumption)
                              have hx27 := zR a1 x10_2
                              replace p27 := eq_true p27
                              replace q27 := eq_true q27
                              have p37 : 0 ≤ (x10_2 : Int) := of_decide_eq_true (by first | (with_reducible assumption) | assumption)
                              have q37 : x10_2 < (a1.size : Int) := of_decide_eq_true (by first | (with_reducible assumption) | assumption)
                              have hx37 := zR a1 x10_2
                              replace p37 := eq_true p37
                              replace q37 := eq_true q37
                              go_wp2
                              go_roundg k2
                              case measure => have := HK1.out; have := HK2.out; omega
                              case rel => exact ⟨(false), (wrap64 (x10_2 + 1)), (by first | rfl | (simp; done) | (simp [*]; done)), (by first | rfl | (simp; done) | (simp [*]; done)), H', ⟨by have := HK1.out; have := HK2.out; omega⟩, by repeat (first | exact zI.refl _ | apply zI.step)⟩
                          · rw [if_neg c38] at H
                            have c38b0 : ((bt a1 x10_2) == 48) = false := beq_eq_false_iff_ne.mpr c38
                            have c38b1 : ((bt a1 x10_2) != 48) = true := bne_iff_ne.mpr c38
                            have H' := Aside0.mk H
                            clear H
                            have p10 : 0 ≤ (x10_2 : Int) := of_decide_eq_true (by first | (with_reducible assumption) | assumption)
                            have q10 : x10_2 < (a1.size : Int) := of_decide_eq_true (by first | (with_reducible assumption) | assumption)
                            have hx10 := zR a1 x10_2
                            replace p10 := eq_true p10
                            replace q10 := eq_true q10
                            have p27 : 0 ≤ (x10_2 : Int) := of_decide_eq_true (by first | (with_reducible assumption) | assumption)
                            have q27 : x10_2 < (a1.size : Int) := of_decide_eq_true (by first | (with_reducible assumption) | assumption)
                            have hx27 := zR a1 x10_2
                            replace p27 := eq_true p27
                            replace q27 := eq_true q27
                            have p37 : 0 ≤ (x10_2 : Int) := of_decide_eq_true (by first | (with_reducible assumption) | assumption)
                            have q37 : x10_2 < (a1.size : Int) := of_decide_eq_true (by first | (with_reducible assumption) | assumption)
                            have hx37 := zR a1 x10_2
                            replace p37 := eq_true p37
                            replace q37 := eq_true q37
                            go_wp2
                            go_roundg k2
                            case measure => have := HK1.out; have := HK2.out; omega
                            case rel => exact ⟨(false), (wrap64 (x10_2 + 1)), (by first | rfl | (simp; done) | (simp [*]; done)), (by first | rfl | (simp; done) | (simp [*]; done)), H', ⟨by have := HK1.out; have := HK2.out; omega⟩, by repeat (first | exact zI.refl _ | apply zI.step)⟩
                    · rw [if_neg c11] at H
                      have c11b0 : ((bt a1 x10_2) == 97) = false := beq_eq_false_iff_ne.mpr c11
                      have c11b1 : ((bt a1 x10_2) != 97) = true := bne_iff_ne.mpr c11
                      by_cases c41 : (bt a1 x10_2) = 65
                      · rw [if_pos c41] at H
                        have c41b0 : ((bt a1 x10_2) == 65) = true := beq_iff_eq.mpr c41
                        have c41b1 : ((bt a1 x10_2) != 65) = false := bne_eq_false_iff_eq.mpr c41
                        clear c41
                        by_cases c42 : (bt a0 x7_1) ≥ 65
                        · rw [if_pos c42] at H
                          have c42b0 : decide (65 ≤ (bt a0 x7_1)) = true := decide_eq_true c42
                          clear c42
                          by_cases c43 : (bt a0 x7_1) ≤ 90
                          · rw [if_pos c43] at H
                            have c43b0 : decide ((bt a0 x7_1) ≤ 90) = true := decide_eq_true c43
                            clear c43
                            have H' := Aside0.mk H
                            clear H
                            have p10 : 0 ≤ (x10_2 : Int) := of_decide_eq_true (by first | (with_reducible assumption) | assumption)
                            have q10 : x10_2 < (a1.size : Int) := of_decide_eq_true (by first | (with_reducible assumption) | assumption)
                            have hx10 := zR a1 x10_2
                            replace p10 := eq_true p10
                            replace q10 := eq_true q10
                            have p40 : 0 ≤ (x10_2 : Int) := of_decide_eq_true (by first | (with_reducible assumption) | assumption)
                            have q40 : x10_2 < (a1.size : Int) := of_decide_eq_true (by first | (with_reducible assumption) | assumption)
                            have hx40 := zR a1 x10_2
                            replace p40 := eq_true p40
                            replace q40 := eq_true q40
                            go_wp2
                            go_roundg k2
                            case measure => have := HK1.out; have := HK2.out; omega
                            case rel => exact ⟨(true), (wrap64 (x10_2 + 1)), (by first | rfl | (simp; done) | (simp [*]; done)), (by first | rfl | (simp; done) | (simp [*]; done)), H', ⟨by have := HK1.out; have := HK2.out; omega⟩, by repeat (first | exact zI.refl _ | apply zI.step)⟩
                          · rw [if_neg c43] at H
                            have c43b0 : decide ((bt a0 x7_1) ≤ 90) = false := decide_eq_false c43
                            clear c43
                            by_cases c45 : (bt a1 x10_2) = 48
                            · rw [if_pos c45] at H
                              have c45b0 : ((bt a1 x10_2) == 48) = true := beq_iff_eq.mpr c45
                              have c45b1 : ((bt a1 x10_2) != 48) = false := bne_eq_false_iff_eq.mpr c45
                              clear c45
                              by_cases c46 : (bt a0 x7_1) ≥ 48
                              · rw [if_pos c46] at H
                                have c46b0 : decide (48 ≤ (bt a0 x7_1)) = true := decide_eq_true c46
                                clear c46
                                have H' := Aside0.mk H
                                clear H
                                have p10 : 0 ≤ (x10_2 : Int) := of_decide_eq_true (by first | (with_reducible assumption) | assumption)
                                have q10 : x10_2 < (a1.size : Int) := of_decide_eq_true (by first | (with_reducible assumption) | assumption)
                                have hx10 := zR a1 x10_2
                                replace p10 := eq_true p10
                                replace q10 := eq_true q10
                                have p40 : 0 ≤ (x10_2 : Int) := of_decide_eq_true (by first | (with_reducible assumption) | assumption)
                                have q40 : x10_2 < (a1.size : Int) := of_decide_eq_true (by first | (with_reducible assumption) | assumption)
                                have hx40 := zR a1 x10_2
                                replace p40 := eq_true p40
                                replace q40 := eq_true q40
                                have p44 : 0 ≤ (x10_2 : Int) := of_decide_eq_true (by first | (with_reducible assumption) | assumption)
                                have q44 : x10_2 < (a1.size : Int) := of_decide_eq_true (by first | (with_reducible assumption) | assumption)
                                have hx44 := zR a1 x10_2
                                replace p44 := eq_true p44
                                replace q44 := eq_true q44
                                go_wp2
                                go_roundg k2
                                case measure => have := HK1.out; have := HK2.out; omega
                                case rel => exact ⟨(decide ((bt a0 x7_1) ≤ 57)), (wrap64 (x10_2 + 1)), (by first | rfl | (simp; done) | (simp [*]; done)), (by first | rfl | (simp; done) | (simp [*]; done)), H', ⟨by have := HK1.out; have := HK2.out; omega⟩, by repeat (first | exact zI.refl _ | apply zI.step)⟩
                              · rw [if_neg c46] at H
                                have c46b0 : decide (48 ≤ (bt a0 x7_1)) = false := decide_eq_false c46
                                clear c46
                                have H' := Aside0.mk H
                                clear H
                                have p10 : 0 ≤ (x10_2 : Int) := of_decide_eq_true (by first | (with_reducible assumption) | assumption)
                                have q10 : x10_2 < (a1.size : Int) := of_decide_eq_true (by first | (with_reducible assumption) | assumption)
                                have hx10 := zR a1 x10_2
                                replace p10 := eq_true p10
                                replace q10 := eq_true q10
                                have p40 : 0 ≤ (x10_2 : Int) := of_decide_eq_true (by first | (with_reducible assumption) | assumption)
                                have q40 : x10_2 < (a1.size : Int) := of_decide_eq_true (by first | (with_reducible assumption) | assumption)
                                have hx40 := zR a1 x10_2
                                replace p40 := eq_true p40
                                replace q40 := eq_true q40
                                have p44 : 0 ≤ (x10_2 : Int) := of_decide_eq_true (by first | (with_reducible assumption) | assumption)
                                have q44 : x10_2 < (a1.size : Int) := of_decide_eq_true (by first | (with_reducible assumption) | assumption)
                                have hx44 := zR a1 x10_2
                                replace p44 := eq_true p44
                                replace q44 := eq_true q44
                                go_wp2
                                go_roundg k2
                                case measure => have := HK1.out; have := HK2.out; omega
                                case rel => exact ⟨(false), (wrap64 (x10_2 + 1)), (by first | rfl | (simp; done) | (simp [*]; done)), (by first | rfl | (simp; done) | (simp [*]; done)), H', ⟨by have := HK1.out; have := HK2.out; omega⟩, by repeat (first | exact zI.refl _ | apply zI.step)⟩
                            · rw [if_neg c45] at H
                              have c45b0 : ((bt a1 x10_2) == 48) = false := beq_eq_false_iff_ne.mpr c45
                              have c45b1 : ((bt a1 x10_2) != 48) = true := bne_iff_ne.mpr c45
                              have H' := Aside0.mk H
                              clear H
                              have p10 : 0 ≤ (x10_2 : Int) := of_decide_eq_true (by first | (with_reducible assumption) | assumption)
                              have q10 : x10_2 < (a1.size : Int) := of_decide_eq_true (by first | (with_reducible assumption) | assumption)
                              have hx10 := zR a1 x10_2
                              replace p10 := eq_true p10
                              replace q10 := eq_true q10
                              have p40 : 0 ≤ (x10_2 : Int) := of_decide_eq_true (by first | (with_reducible assumption) | assumption)
                              have q40 : x10_2 < (a1.size : Int) := of_decide_eq_true (by first | (with_reducible assumption) | assumption)
                              have hx40 := zR a1 x10_2
                              replace p40 := eq_true p40
                              replace q40 := eq_true q40
                              have p44 : 0 ≤ (x10_2 : Int) := of_decide_eq_true (by first | (with_reducible assumption) | assumption)
                              have q44 : x10_2 < (a1.size : Int) := of_decide_eq_true (by first | (with_reducible assumption) | assumption)
                              have hx44 := zR a1 x10_2
                              replace p44 := eq_true p44
                              replace q44 := eq_true q44
                              go_wp2
                              go_roundg k2
                              case measure => have := HK1.out; have := HK2.out; omega
                              case rel => exact ⟨(false), (wrap64 (x10_2 + 1)), (by first | rfl | (simp; done) | (simp [*]; done)), (by first | rfl | (simp; done) | (simp [*]; done)), H', ⟨by have := HK1.out; have := HK2.out; omega⟩, by repeat (first | exact zI.refl _ | apply zI.step)⟩
                        · rw [if_neg c42] at H
                          have c42b0 : decide (65 ≤ (bt a0 x7_1)) = false := decide_eq_false c42
                          clear c42
                          by_cases c48 : (bt a1 x10_2) = 48
                          · rw [if_pos c48] at H
                            have c48b0 : ((bt a1 x10_2) == 48) = true := beq_iff_eq.mpr c48
                            have c48b1 : ((bt a1 x10_2) != 48) = false := bne_eq_false_iff_eq.mpr c48
                            clear c48
                            by_cases c49 : (bt a0 x7_1) ≥ 48
                            · rw [if_pos c49] at H
                              have c49b0 : decide (48 ≤ (bt a0 x7_1)) = true := decide_eq_true c49
                              clear c49
                              have H' := Aside0.mk H
                              clear H
                              have p10 : 0 ≤ (x10_2 : Int) := of_decide_eq_true (by first | (with_reducible assumption) | assumption)
                              have q10 : x10_2 < (a1.size : Int) := of_decide_eq_true (by first | (with_reducible assumption) | assumption)
                              have hx10 := zR a1 x10_2
                              replace p10 := eq_true p10
                              replace q10 := eq_true q10
                              have p40 : 0 ≤ (x10_2 : Int) := of_decide_eq_true (by first | (with_reducible assumption) | assumption)
                              have q40 : x10_2 < (a1.size : Int) := of_decide_eq_true (by first | (with_reducible assumption) | assumption)
                              have hx40 := zR a1 x10_2
                              replace p40 := eq_true p40
                              replace q40 := eq_true q40
                              have p47 : 0 ≤ (x10_2 : Int) := of_decide_eq_true (by first | (with_reducible assumption) | assumption)
                              have q47 : x10_2 < (a1.size : Int) := of_decide_eq_true (by first | (with_reducible assumption) | assumption)
                              have hx47 := zR a1 x10_2
                              replace p47 := eq_true p47
                              replace q47 := eq_true q47
                              go_wp2
                              go_roundg k2
                              case measure => have := HK1.out; have := HK2.out; omega
                              case rel => exact ⟨(decide ((bt a0 x7_1) ≤ 57)), (wrap64 (x10_2 + 1)), (by first | rfl | (simp; done) | (simp [*]; done)), (by first | rfl | (simp; done) | (simp [*]; done)), H', ⟨by have := HK1.out; have := HK2.out; omega⟩, by repeat (first | exact zI.refl _ | apply zI.step)⟩
                            · rw [if_neg c49] at H
                              have c49b0 : decide (48 ≤ (bt a0 x7_1)) = false := decide_eq_false c49
                              clear c49
                              have H' := Aside0.mk H
                              clear H
                              have p10 : 0 ≤ (x10_2 : Int) := of_decide_eq_true (by first | (with_reducible assumption) | assumption)
                              have q10 : x10_2 < (a1.size : Int) := of_decide_eq_true (by first | (with_reducible assumption) | assumption)
                              have hx10 := zR a1 x10_2
                              replace p10 := eq_true p10
                              replace q10 := eq_true q10
                              have p40 : 0 ≤ (x10_2 : Int) := of_decide_eq_true (by first | (with_reducible assumption) | assumption)
                              have q40 : x10_2 < (a1.size : Int) := of_decide_eq_true (by first | (with_reducible assumption) | assumption)
                              have hx40 := zR a1 x10_2
                              replace p40 := eq_true p40
                              replace q40 := eq_true q40
                              have p47 : 0 ≤ (x10_2 : Int) := of_decide_eq_true (by first | (with_reducible assumption) | assumption)
                              have q47 : x10_2 < (a1.size : Int) := of_decide_eq_true (by first | (with_reducible assumption) | assumption)
                              have hx47 := zR a1 x10_2
                              replace p47 := eq_true p47
                              replace q47 := eq_true q47
                              go_wp2
                              go_roundg k2
                              case measure => have := HK1.out; have := HK2.out; omega
                              case rel => exact ⟨(false), (wrap64 (x10_2 + 1)), (by first | rfl | (simp; done) | (simp [*]; done)), (by first | rfl | (simp; done) | (simp [*]; done)), H', ⟨by have := HK1.out; have := HK2.out; omega⟩, by repeat (first | exact zI.refl _ | apply zI.step)⟩
                          · rw [if_neg c48] at H
                            have c48b0 : ((bt a1 x10_2) == 48) = false := beq_eq_false_iff_ne.mpr c48
                            have c48b1 : ((bt a1 x10_2) != 48) = true := bne_iff_ne.mpr c48
                            have H' := Aside0.mk H
                            clear H
                            have p10 : 0 ≤ (x10_2 : Int) := of_decide_eq_true (by first | (with_reducible assumption) | assumption)
                            have q10 : x10_2 < (a1.size : Int) := of_decide_eq_true (by first | (with_reducible assumption) | assumption)
                            have hx10 := zR a1 x10_2
                            replace p10 := eq_true p10
                            replace q10 := eq_true q10
                            have p40 : 0 ≤ (x10_2 : Int) := of_decide_eq_true (by first | (with_reducible assumption) | assumption)
                            have q40 : x10_2 < (a1.size : Int) := of_decide_eq_true (by first | (with_reducible assumption) | assumption)
                            have hx40 := zR a1 x10_2
                            replace p40 := eq_true p40
                            replace q40 := eq_true q40
                            have p47 : 0 ≤ (x10_2 : Int) := of_decide_eq_true (by first | (with_reducible assumption) | assumption)
                            have q47 : x10_2 < (a1.size : Int) := of_decide_eq_true (by first | (with_reducible assumption) | assumption)
                            have hx47 := zR a1 x10_2
                            replace p47 := eq_true p47
                            replace q47 := eq_true q47
                            go_wp2
                            go_roundg k2
                            case measure => have := HK1.out; have := HK2.out; omega
                            case rel => exact ⟨(false), (wrap64 (x10_2 + 1)), (by first | rfl | (simp; done) | (simp [*]; done)), (by first | rfl | (simp; done) | (simp [*]; done)), H', ⟨by have := HK1.out; have := HK2.out; omega⟩, by repeat (first | exact zI.refl _ | apply zI.step)⟩
                      · rw [if_neg c41] at H
                        have c41b0 : ((bt a1 x10_2) == 65) = false := beq_eq_false_iff_ne.mpr c41
                        have c41b1 : ((bt a1 x10_2) != 65) = true := bne_iff_ne.mpr c41
                        by_cases c51 : (bt a1 x10_2) = 48
                        · rw [if_pos c51] at H
                          have c51b0 : ((bt a1 x10_2) == 48) = true := beq_iff_eq.mpr c51
                          have c51b1 : ((bt a1 x10_2) != 48) = false := bne_eq_false_iff_eq.mpr c51
                          clear c51
                          by_cases c52 : (bt a0 x7_1) ≥ 48
                          · rw [if_pos c52] at H
                            have c52b0 : decide (48 ≤ (bt a0 x7_1)) = true := decide_eq_true c52
                            clear c52
                            have H' := Aside0.mk H
                            clear H
                            have p10 : 0 ≤ (x10_2 : Int) := of_decide_eq_true (by first | (with_reducible assumption) | assumption)
                            have q10 : x10_2 < (a1.size : Int) := of_decide_eq_true (by first | (with_reducible assumption) | assumption)
                            have hx10 := zR a1 x10_2
                            replace p10 := eq_true p10
                            replace q10 := eq_true q10
                            have p40 : 0 ≤ (x10_2 : Int) := of_decide_eq_true (by first | (with_reducible assumption) | assumption)
                            have q40 : x10_2 < (a1.size : Int) := of_decide_eq_true (by first | (with_reducible assumption) | assumption)
                            have hx40 := zR a1 x10_2
                            replace p40 := eq_true p40
                            replace q40 := eq_true q40
                            have p50 : 0 ≤ (x10_2 : Int) := of_decide_eq_true (by first | (with_reducible assumption) | assumption)
                            have q50 : x10_2 < (a1.size : Int) := of_decide_eq_true (by first | (with_reducible assumption) | assumption)
                            have hx50 := zR a1 x10_2
                            replace p50 := eq_true p50
                            replace q50 := eq_true q50
                            go_wp2
                            go_roundg k2
                            case measure => have := HK1.out; have := HK2.out; omega
                            case rel => exact ⟨(decide ((bt a0 x7_1) ≤ 57)), (wrap64 (x10_2 + 1)), (by first | rfl | (simp; done) | (simp [*]; done)), (by first | rfl | (simp; done) | (simp [*]; done)), H', ⟨by have := HK1.out; have := HK2.out; omega⟩, by repeat (first | exact zI.refl _ | apply zI.step)⟩
                          · rw [if_neg c52] at H
                            have c52b0 : decide (48 ≤ (bt a0 x7_1)) = false := decide_eq_false c52
                            clear c52
                            have H' := Aside0.mk H
                            clear H
                            have p10 : 0 ≤ (x10_2 : Int) := of_decide_eq_true (by first | (with_reducible assumption) | assumption)
                            have q10 : x10_2 < (a1.size : Int) := of_decide_eq_true (by first | (with_reducible assumption) | assumption)
                            have hx10 := zR a1 x10_2
                            replace p10 := eq_true p10
                            replace q10 := eq_true q10
                            have p40 : 0 ≤ (x10_2 : Int) := of_decide_eq_true (by first | (with_reducible assumption) | assumption)
                            have q40 : x10_2 < (a1.size : Int) := of_decide_eq_true (by first | (with_reducible assumption) | assumption)
                            have hx40 := zR a1 x10_2
                            replace p40 := eq_true p40
                            replace q40 := eq_true q40
                            have p50 : 0 ≤ (x10_2 : Int) := of_decide_eq_true (by first | (with_reducible assumption) | assumption)
                            have q50 : x10_2 < (a1.size : Int) := of_decide_eq_true (by first | (with_reducible assumption) | assumption)
                            have hx50 := zR a1 x10_2
                            replace p50 := eq_true p50
                            replace q50 := eq_true q50
                            go_wp2
                            go_roundg k2
                            case measure => have := HK1.out; have := HK2.out; omega
                            case rel => exact ⟨(false), (wrap64 (x10_2 + 1)), (by first | rfl | (simp; done) | (simp [*]; done)), (by first | rfl | (simp; done) | (simp [*]; done)), H', ⟨by have := HK1.out; have := HK2.out; omega⟩, by repeat (first | exact zI.refl _ | apply zI.step)⟩
                        · rw [if_neg c51] at H
                          have c51b0 : ((bt a1 x10_2) == 48) = false := beq_eq_false_iff_ne.mpr c51
                          have c51b1 : ((bt a1 x10_2) != 48) = true := bne_iff_ne.mpr c51
                          have H' := Aside0.mk H
                          clear H
                          have p10 : 0 ≤ (x10_2 : Int) := of_decide_eq_true (by first | (with_reducible assumption) | assumption)
                          have q10 : x10_2 < (a1.size : Int) := of_decide_eq_true (by first | (with_reducible assumption) | assumption)
                          have hx10 := zR a1 x10_2
                          replace p10 := eq_true p10
                          replace q10 := eq_true q10
                          have p40 : 0 ≤ (x10_2 : Int) := of_decide_eq_true (by first | (with_reducible assumption) | assumption)
                          have q40 : x10_2 < (a1.size : Int) := of_decide_eq_true (by first | (with_reducible assumption) | assumption)
                          have hx40 := zR a1 x10_2
                          replace p40 := eq_true p40
                          replace q40 := eq_true q40
                          have p50 : 0 ≤ (x10_2 : Int) := of_decide_eq_true (by first | (with_reducible assumption) | assumption)
                          have q50 : x10_2 < (a1.size : Int) := of_decide_eq_true (by first | (with_reducible assumption) | assumption)
                          have hx50 := zR a1 x10_2
                          replace p50 := eq_true p50
                          replace q50 := eq_true q50
                          go_wp2
                          go_roundg k2
                          case measure => have := HK1.out; have := HK2.out; omega
                          case rel => exact ⟨(false), (wrap64 (x10_2 + 1)), (by first | rfl | (simp; done) | (simp [*]; done)), (by first | rfl | (simp; done) | (simp [*]; done)), H', ⟨by have := HK1.out; have := HK2.out; omega⟩, by repeat (first | exact zI.refl _ | apply zI.step)⟩
                  · rw [if_neg c9] at H
                    exact absurd H (by simp)
              · rw [if_neg c7] at H
                have c7b0 : decide (x10_2 < (a1.size : Int)) = false := decide_eq_false c7
                clear c7
                have H' := Aside0.mk H
                clear H
                go_wp2
                go_loopg [9, 11] k2 (fun kq v9 v11 w' => ∃ (x9_3 : Bool) (x11_3 : Int), v9 = .bool x9_3 ∧ v11 = .int .i64 x11_3 ∧ Aside0 (hustingsref10_of.l2 kq a0 a1 a2 x7_1 (bt a0 x7_1) x9_3 x11_3 = some r) ∧ Aside0 (kq ≤ k2) ∧ zI w w')
                case atStart => exact ⟨(x9_2), (0), (by first | rfl | (simp; done) | (simp [*]; done)), (by first | rfl | (simp; done) | (simp [*]; done)), H', ⟨Nat.le_refl _⟩, by repeat (first | exact zI.refl _ | apply zI.step)⟩
                case round =>
                  clear H'
                  try clear c1
                  try clear p1
                  try clear q1
                  try clear hx1
                  try clear c2
                  try clear p2
                  try clear q2
                  try clear hx2
                  try clear c3
                  try clear p3
                  try clear q3
                  try clear hx3
                  try clear c4
                  try clear p4
                  try clear q4
                  try clear hx4
                  try clear c5
                  try clear p5
                  try clear q5
                  try clear hx5
                  try clear p6
                  try clear c7
                  try clear c7b0
                  try clear c9
                  try clear p10
                  try clear q10
                  try clear hx10
                  try clear c11
                  try clear c11b0
                  try clear c11b1
                  try clear c12
                  try clear c12b0
                  try clear p14
                  try clear q14
                  try clear hx14
                  try clear p24
                  try clear q24
                  try clear hx24
                  try clear c25
                  try clear c25b0
                  try clear c25b1
                  try clear p27
                  try clear q27
                  try clear hx27
                  try clear c28
                  try clear c28b0
                  try clear c28b1
                  try clear c29
                  try clear c29b0
                  try clear c30
                  try clear c30b0
                  try clear p31
                  try clear q31
                  try clear hx31
                  try clear c32
                  try clear c32b0
                  try clear c32b1
                  try clear c33
                  try clear c33b0
                  try clear p34
                  try clear q34
                  try clear hx34
                  try clear c35
                  try clear c35b0
                  try clear c35b1
                  try clear c36
                  try clear c36b0
                  try clear p37
                  try clear q37
                  try clear hx37
                  try clear c38
                  try clear c38b0
                  try clear c38b1
                  try clear c39
                  try clear c39b0
                  try clear p40
                  try clear q40
                  try clear hx40
                  try clear c41
                  try clear c41b0
                  try clear c41b1
                  try clear c42
                  try clear c42b0
                  try clear c43
                  try clear c43b0
                  try clear p44
                  try clear q44
                  try clear hx44
                  try clear c45
                  try clear c45b0
                  try clear c45b1
                  try clear c46
                  try clear c46b0
                  try clear p47
                  try clear q47
                  try clear hx47
                  try clear c48
                  try clear c48b0
                  try clear c48b1
                  try clear c49
                  try clear c49b0
                  try clear p50
                  try clear q50
                  try clear hx50
                  try clear c51
                  try clear c51b0
                  try clear c51b1
                  try clear c52
                  try clear c52b0
                  try clear p10
                  try clear p14
                  try clear p24
                  try clear p27
                  try clear p31
                  try clear p34
                  try clear p37
                  try clear p40
                  try clear p44
                  try clear p47
                  try clear p50
                  try clear q10
                  try clear q14
                  try clear q24
                  try clear q27
                  try clear q31
                  try clear q34
                  try clear q37
                  try clear q40
                  try clear q44
                  try clear q47
                  try clear q50
                  obtain ⟨x9_3, x11_3, rfl, rfl, HA, HK3, ⟨m3, rfl⟩⟩ := hrel
                  cases gk with
                  | zero => exact absurd HA.out (by simp [hustingsref10_of.l2])
                  | succ k3 =>
                    have H := HA.out
                    clear HA
                    simp only [hustingsref10_of.l2] at H
                    by_cases c53 : x11_3 < (a2.size : Int)
                    · rw [if_pos c53] at H
                      have c53b0 : decide (x11_3 < (a2.size : Int)) = true := decide_eq_true c53
                      clear c53
                      by_cases c54 : x9_3 = true
                      · subst c54
                        have H1 : (hustingsref10_of.l2 k3 a0 a1 a2 x7_1 (bt a0 x7_1) true (wrap64 (x11_3 + 1))) = some r := by rw [if_pos rfl] at H; exact H
                        clear H
                        have H := H1
                        clear H1
                        have H' := Aside0.mk H
                        clear H
                        go_wp2
                        go_roundg k3
                        case measure => have := HK1.out; have := HK2.out; have := HK3.out; omega
                        case rel => exact ⟨(true), (wrap64 (x11_3 + 1)), (by first | rfl | (simp; done) | (simp [*]; done)), (by first | rfl | (simp; done) | (simp [*]; done)), H', ⟨by have := HK1.out; have := HK2.out; have := HK3.out; omega⟩, by repeat (first | exact zI.refl _ | apply zI.step)⟩
                      · replace c54 := Bool.eq_false_iff.mpr c54
                        subst c54
                        have H1 : (if 0 ≤ x11_3 then (hustingsref10_of.l2 k3 a0 a1 a2 x7_1 (bt a0 x7_1) ((bt a2 x11_3) == (bt a0 x7_1)) (wrap64 (x11_3 + 1))) else (none)) = some r := by rw [if_neg (show ¬ (false = true) by decide)] at H; exact H
                        clear H
                        have H := H1
                        clear H1
                        by_cases c55 : 0 ≤ x11_3
                        · rw [if_pos c55] at H
                          have c55b0 : decide (0 ≤ x11_3) = true := decide_eq_true c55
                          clear c55
                          have H' := Aside0.mk H
                          clear H
                          have p56 : 0 ≤ (x11_3 : Int) := of_decide_eq_true (by first | (with_reducible assumption) | assumption)
                          have q56 : x11_3 < (a2.size : Int) := of_decide_eq_true (by first | (with_reducible assumption) | assumption)
                          have hx56 := zR a2 x11_3
                          replace p56 := eq_true p56
                          replace q56 := eq_true q56
                          go_wp2
                          go_roundg k3
                          case measure => have := HK1.out; have := HK2.out; have := HK3.out; omega
                          case rel => exact ⟨(((bt a2 x11_3) == (bt a0 x7_1))), (wrap64 (x11_3 + 1)), (by first | rfl | (simp; done) | (simp [*]; done)), (by first | rfl | (simp; done) | (simp [*]; done)), H', ⟨by have := HK1.out; have := HK2.out; have := HK3.out; omega⟩, by repeat (first | exact zI.refl _ | apply zI.step)⟩
                        · rw [if_neg c55] at H
                          exact absurd H (by simp)
                    · rw [if_neg c53] at H
                      have c53b0 : decide (x11_3 < (a2.size : Int)) = false := decide_eq_false c53
                      clear c53
                      by_cases c57 : x9_3 = true
                      · subst c57
                        have H1 : (hustingsref10_of.l0 k3 a0 a1 a2 (wrap64 (x7_1 + 1))) = some r := by rw [if_pos rfl] at H; exact H
                        clear H
                        have H := H1
                        clear H1
                        have H' := Aside0.mk H
                        clear H
                        go_wp2
                        go_roundg k3
                        case measure => have := HK1.out; have := HK2.out; have := HK3.out; omega
                        case rel => exact ⟨(wrap64 (x7_1 + 1)), (by first | rfl | (simp; done) | (simp [*]; done)), H', ⟨by have := HK1.out; have := HK2.out; have := HK3.out; omega⟩, by repeat (first | exact zI.refl _ | apply zI.step)⟩
                      · replace c57 := Bool.eq_false_iff.mpr c57
                        subst c57
                        have H1 : (some false) = some r := by rw [if_neg (show ¬ (false = true) by decide)] at H; exact H
                        clear H
                        have H := H1
                        clear H1
                        obtain rfl := Option.some.inj H
                        go_wp2
                        go_ret
                        exact ⟨by first | rfl | (simp; done) | (simp [*]; done) | (cases a0.toList <;> rfl), by repeat (first | exact zI.refl _ | apply zI.step)⟩
        · rw [if_neg c5] at H
          exact absurd H (by simp)
      · rw [if_neg c4] at H
        have c4b0 : decide (x7_1 < (a0.size : Int)) = false := decide_eq_false c4
        clear c4
        obtain rfl := Option.some.inj H
        go_wp2
        go_ret
        exact ⟨by first | rfl | (simp; done) | (simp [*]; done) | (cases a0.toList <;> rfl), by repeat (first | exact zI.refl _ | apply zI.step)⟩
def hustingsref10_colon.l0 : Nat → ByteArray → Int → Option (Int)
  | 0, _, _ => none
  | k + 1, x0, x3 => if x3 < (x0.size : Int) then (if 0 ≤ x3 then (if (bt x0 x3) = 58 then (some x3) else (hustingsref10_colon.l0 k x0 (wrap64 (x3 + 1)))) else (none)) else (some (x0.size : Int))
def hustingsref10_colon.f (k : Nat) (a0 : ByteArray) : Option (Int) := hustingsref10_colon.l0 k a0 0
theorem hustingsref10_colon.mono_l : ∀ k, (∀ y0 y1, LeO (hustingsref10_colon.l0 k y0 y1) (hustingsref10_colon.l0 (k + 1) y0 y1))
  | 0 => fun _ _ r h => by simp [hustingsref10_colon.l0] at h
  | k + 1 => by
    have ih0 := hustingsref10_colon.mono_l k
    · intro y0 y1
      unfold hustingsref10_colon.l0
      repeat' first
      | (with_reducible exact ih0 _ _)
      | (with_reducible exact LeO.refl _)
      | (with_reducible exact LeO.none _)
      | (with_reducible refine LeO.ite ?_ ?_)
      | (with_reducible refine LeO.bind ?_ (fun _ => ?_))
      | exact ih0 _ _
      | exact LeO.none _
      | refine LeO.ite ?_ ?_
      | refine LeO.bind ?_ (fun _ => ?_)
theorem hustingsref10_colon.mono : ∀ a0 k, LeO (hustingsref10_colon.f k a0) (hustingsref10_colon.f (k + 1) a0) := by
  intro a0 k
  have ih0 := hustingsref10_colon.mono_l k
  unfold hustingsref10_colon.f
  repeat' first
      | (with_reducible exact ih0 _ _)
      | (with_reducible exact LeO.refl _)
      | (with_reducible exact LeO.none _)
      | (with_reducible refine LeO.ite ?_ ?_)
      | (with_reducible refine LeO.bind ?_ (fun _ => ?_))
      | exact ih0 _ _
      | exact LeO.none _
      | refine LeO.ite ?_ ?_
      | refine LeO.bind ?_ (fun _ => ?_)
set_option maxHeartbeats 8000000 in
set_option maxRecDepth 100000 in
theorem hustingsref10_colon.calls (k : Nat) (a0 : ByteArray) (r : Int) (w : World) (h : hustingsref10_colon.f k a0 = some r) :
    Calls Tryd.prog 32 #[.string a0] w fun e w' => e = .returned (.int .i64 r) ∧ zI w w' := by
  have H : (hustingsref10_colon.l0 k a0 0) = some r := h
  clear h
  have H' := Aside0.mk H
  clear H
  go_enter Tryd.func32, Tryd.ntmps32
  go_wp2
  go_loopg [3] k (fun kq v3 w' => ∃ (x3_1 : Int), v3 = .int .i64 x3_1 ∧ Aside0 (hustingsref10_colon.l0 kq a0 x3_1 = some r) ∧ Aside0 (kq ≤ k) ∧ zI w w')
  case atStart => exact ⟨(0), (by first | rfl | (simp; done) | (simp [*]; done)), H', ⟨Nat.le_refl _⟩, by repeat (first | exact zI.refl _ | apply zI.step)⟩
  case round =>
    clear H'
    obtain ⟨x3_1, rfl, HA, HK1, ⟨m1, rfl⟩⟩ := hrel
    cases gk with
    | zero => exact absurd HA.out (by simp [hustingsref10_colon.l0])
    | succ k1 =>
      have H := HA.out
      clear HA
      simp only [hustingsref10_colon.l0] at H
      by_cases c2 : x3_1 < (a0.size : Int)
      · rw [if_pos c2] at H
        have c2b0 : decide (x3_1 < (a0.size : Int)) = true := decide_eq_true c2
        clear c2
        by_cases c3 : 0 ≤ x3_1
        · rw [if_pos c3] at H
          have c3b0 : decide (0 ≤ x3_1) = true := decide_eq_true c3
          clear c3
          by_cases c5 : (bt a0 x3_1) = 58
          · rw [if_pos c5] at H
            have c5b0 : ((bt a0 x3_1) == 58) = true := beq_iff_eq.mpr c5
            have c5b1 : ((bt a0 x3_1) != 58) = false := bne_eq_false_iff_eq.mpr c5
            clear c5
            obtain rfl := Option.some.inj H
            have p4 : 0 ≤ (x3_1 : Int) := of_decide_eq_true (by first | (with_reducible assumption) | assumption)
            have q4 : x3_1 < (a0.size : Int) := of_decide_eq_true (by first | (with_reducible assumption) | assumption)
            have hx4 := zR a0 x3_1
            replace p4 := eq_true p4
            replace q4 := eq_true q4
            go_wp2
            go_ret
            exact ⟨by first | rfl | (simp; done) | (simp [*]; done), by repeat (first | exact zI.refl _ | apply zI.step)⟩
          · rw [if_neg c5] at H
            have c5b0 : ((bt a0 x3_1) == 58) = false := beq_eq_false_iff_ne.mpr c5
            have c5b1 : ((bt a0 x3_1) != 58) = true := bne_iff_ne.mpr c5
            have H' := Aside0.mk H
            clear H
            have p4 : 0 ≤ (x3_1 : Int) := of_decide_eq_true (by first | (with_reducible assumption) | assumption)
            have q4 : x3_1 < (a0.size : Int) := of_decide_eq_true (by first | (with_reducible assumption) | assumption)
            have hx4 := zR a0 x3_1
            replace p4 := eq_true p4
            replace q4 := eq_true q4
            go_wp2
            go_roundg k1
            case measure => have := HK1.out; omega
            case rel => exact ⟨(wrap64 (x3_1 + 1)), (by first | rfl | (simp; done) | (simp [*]; done)), H', ⟨by have := HK1.out; omega⟩, by repeat (first | exact zI.refl _ | apply zI.step)⟩
        · rw [if_neg c3] at H
          exact absurd H (by simp)
      · rw [if_neg c2] at H
        have c2b0 : decide (x3_1 < (a0.size : Int)) = false := decide_eq_false c2
        clear c2
        obtain rfl := Option.some.inj H
        go_wp2
        go_ret
        exact ⟨by first | rfl | (simp; done) | (simp [*]; done), by repeat (first | exact zI.refl _ | apply zI.step)⟩
end Go.Proofs.YtlfplmlehbomlaaDoor.P
end

section
namespace Go.Proofs.YtlfplmlehbomlaaDoor.I
set_option linter.unusedVariables false
set_option linter.unusedSimpArgs false
open Go.RowKit Go.Proofs.YtlfplmlehbomlaaDoorW.PrintWords Go.Proofs.YtlfplmlehbomlaaDoorW.PrintLast Go.Proofs.YtlfplmlehbomlaaDoorW.PrintMore Go.Proofs.YtlfplmlehbomlaaDoor.P
theorem w64b (x : Int) (h0 : -9223372036854775808 ≤ x) (h1 : x ≤ 9223372036854775807) : wrap64 x = x := by unfold wrap64; omega
def kindQ (q c : Int) : Bool := (decide (q = 97) && decide (97 ≤ c) && decide (c ≤ 122)) || (decide (q = 65) && decide (65 ≤ c) && decide (c ≤ 90)) || (decide (q = 48) && decide (48 ≤ c) && decide (c ≤ 57))
theorem kq_t {q c : Int} (h : (q = 97 ∧ 97 ≤ c ∧ c ≤ 122) ∨ (q = 65 ∧ 65 ≤ c ∧ c ≤ 90) ∨ (q = 48 ∧ 48 ≤ c ∧ c ≤ 57)) : true = kindQ q c := by
  unfold kindQ; simp only [Bool.true_eq, Bool.or_eq_true, Bool.and_eq_true, decide_eq_true_eq]; omega
theorem kq_f {q c : Int} (h : ¬ ((q = 97 ∧ 97 ≤ c ∧ c ≤ 122) ∨ (q = 65 ∧ 65 ≤ c ∧ c ≤ 90) ∨ (q = 48 ∧ 48 ≤ c ∧ c ≤ 57))) : false = kindQ q c := by
  have : ¬ kindQ q c = true := by unfold kindQ; simp only [Bool.or_eq_true, Bool.and_eq_true, decide_eq_true_eq]; omega
  cases h : kindQ q c
  · rfl
  · exact absurd h this
theorem kq_d {q c : Int} (h : q = 48 ∧ 48 ≤ c) : decide (c ≤ 57) = kindQ q c := by
  by_cases h2 : c ≤ 57
  · rw [decide_eq_true h2]; exact kq_t (by omega)
  · rw [decide_eq_false h2]; exact kq_f (by omega)
theorem of_l1_step (s K S : ByteArray) (i c j : Int) (b : Bool) (k : Nat) (h0 : 0 ≤ j) (hj : j < (K.size : Int)) :
    hustingsref10_of.l1 (k + 1) s K S i c b j = hustingsref10_of.l1 k s K S i c (b || kindQ (bt K j) c) (wrap64 (j + 1)) := by
  simp only [hustingsref10_of.l1]
  rw [if_pos hj]
  cases b
  · rw [if_neg (by decide), if_pos h0, Bool.false_or]
    generalize bt K j = q
    repeat' split
    all_goals congr 1
    all_goals first | exact kq_t (by omega) | exact kq_f (by omega) | exact kq_d (by omega)
  · rw [if_pos rfl, Bool.true_or]
theorem of_l1 (s K S : ByteArray) (i c : Int) (hK : K.size ≤ 1000) : ∀ (n j : Nat) (b : Bool) (k : Nat), j + n = K.size →
    hustingsref10_of.l1 (k + n + 1) s K S i c b (j : Int) = hustingsref10_of.l2 k s K S i c (b || ((bytesOf K).drop j).any (kindQ · c)) 0
  | 0, j, b, k, h => by
    have : (bytesOf K).drop j = [] := List.drop_eq_nil_of_le (by rw [zN]; omega)
    rw [this]
    simp only [hustingsref10_of.l1]
    rw [if_neg (by omega)]
    simp
  | n + 1, j, b, k, h => by
    obtain ⟨hj, t, ht, ht2⟩ | ⟨hj, _⟩ := drop_shape K j
    · obtain ⟨_, hb, _⟩ := bt_drop K j _ _ ht
      rw [show k + (n + 1) + 1 = (k + n + 1) + 1 by omega, of_l1_step s K S i c j b _ (by omega) (by omega), w64b _ (by omega) (by omega)]
      have := of_l1 s K S i c hK n (j + 1) (b || kindQ (bt K (j : Int)) c) k (by omega)
      rw [show ((j : Int) + 1) = ((j + 1 : Nat) : Int) by omega, this, ht, List.any_cons, ht2, hb, Bool.or_assoc]
    · omega
theorem of_l2_step (s K S : ByteArray) (i c j : Int) (b : Bool) (k : Nat) (h0 : 0 ≤ j) (hj : j < (S.size : Int)) :
    hustingsref10_of.l2 (k + 1) s K S i c b j = hustingsref10_of.l2 k s K S i c (b || (bt S j == c)) (wrap64 (j + 1)) := by
  simp only [hustingsref10_of.l2]
  rw [if_pos hj]
  cases b
  · rw [if_neg (by decide), if_pos h0, Bool.false_or]
  · rw [if_pos rfl, Bool.true_or]
theorem of_l2 (s K S : ByteArray) (i c : Int) (hS : S.size ≤ 1000) : ∀ (n j : Nat) (b : Bool) (k : Nat), j + n = S.size →
    hustingsref10_of.l2 (k + n + 1) s K S i c b (j : Int) = if (b || ((bytesOf S).drop j).any (· == c)) = true then hustingsref10_of.l0 k s K S (wrap64 (i + 1)) else some false
  | 0, j, b, k, h => by
    have : (bytesOf S).drop j = [] := List.drop_eq_nil_of_le (by rw [zN]; omega)
    rw [this]
    simp only [hustingsref10_of.l2]
    rw [if_neg (by omega)]
    simp
  | n + 1, j, b, k, h => by
    obtain ⟨hj, t, ht, ht2⟩ | ⟨hj, _⟩ := drop_shape S j
    · obtain ⟨_, hb, _⟩ := bt_drop S j _ _ ht
      rw [show k + (n + 1) + 1 = (k + n + 1) + 1 by omega, of_l2_step s K S i c j b _ (by omega) (by omega), w64b _ (by omega) (by omega)]
      have := of_l2 s K S i c hS n (j + 1) (b || (bt S (j : Int) == c)) k (by omega)
      rw [show ((j : Int) + 1) = ((j + 1 : Nat) : Int) by omega, this, ht, List.any_cons, ht2, hb, Bool.or_assoc]
    · omega
def ofK (K S : List Int) (c : Int) : Bool := K.any (kindQ · c) || S.any (· == c)
theorem of_l0 (s K S : ByteArray) (hs : s.size ≤ 140737488351232) (hK : K.size ≤ 1000) (hS : S.size ≤ 1000) : ∀ (n j k : Nat), j + n = s.size → n * (K.size + S.size + 3) + 1 ≤ k →
    hustingsref10_of.l0 k s K S (j : Int) = some (((bytesOf s).drop j).all (ofK (bytesOf K) (bytesOf S)) && (s.toList != ([] : List UInt8)))
  | 0, j, k, h, hk => by
    obtain ⟨k, rfl⟩ : ∃ m, k = m + 1 := ⟨k - 1, by omega⟩
    have : (bytesOf s).drop j = [] := List.drop_eq_nil_of_le (by rw [zN]; omega)
    rw [this]
    simp only [hustingsref10_of.l0]
    rw [if_neg (by omega)]
    simp
  | n + 1, j, k, h, hk => by
    obtain ⟨hj, t, ht, ht2⟩ | ⟨hj, _⟩ := drop_shape s j
    · obtain ⟨_, hb, _⟩ := bt_drop s j _ _ ht
      rw [Nat.succ_mul] at hk
      obtain ⟨k, rfl⟩ : ∃ m, k = ((m + S.size + 1) + K.size + 1) + 1 := ⟨k - (S.size + K.size + 3), by omega⟩
      have h1 := of_l1 s K S (j : Int) (bt s (j : Int)) hK K.size 0 false (k + S.size + 1) (by omega)
      have h2 := of_l2 s K S (j : Int) (bt s (j : Int)) hS S.size 0 (((bytesOf K).drop 0).any (kindQ · (bt s (j : Int)))) k (by omega)
      rw [Bool.false_or] at h1
      simp only [hustingsref10_of.l0]
      rw [if_pos (by omega), if_pos (by omega)]
      refine (h1.trans h2).trans ?_
      rw [w64b _ (by omega) (by omega), show ((j : Int) + 1) = ((j + 1 : Nat) : Int) by omega, of_l0 s K S hs hK hS n (j + 1) k (by omega) (by omega), ht, List.all_cons, ht2, ← hb]
      have e : ((((bytesOf K).drop 0).any (kindQ · (bt s (j : Int)))) || (((bytesOf S).drop 0).any (· == bt s (j : Int)))) = ofK (bytesOf K) (bytesOf S) (bt s (j : Int)) := rfl
      rw [e]
      cases ofK (bytesOf K) (bytesOf S) (bt s (j : Int))
      · rw [if_neg (by decide)]; rfl
      · rw [if_pos rfl, Bool.true_and]
    · omega
theorem ne_empty (s : ByteArray) : (s.toList != ([] : List UInt8)) = !(bytesOf s).isEmpty := by
  rw [size_isEmpty, ← toList_isEmpty]
  cases s.toList <;> rfl
theorem of_f (s K S : ByteArray) (k : Nat) (hs : s.size ≤ 140737488351232) (hK : K.size + S.size ≤ 17) (hk : s.size * 20 + 1 ≤ k) :
    hustingsref10_of.f k s K S = some (allL (ofK (bytesOf K) (bytesOf S)) (bytesOf s)) := by
  unfold hustingsref10_of.f
  have h : s.size * (K.size + S.size + 3) ≤ s.size * 20 := Nat.mul_le_mul_left _ (by omega)
  have := of_l0 s K S hs (by omega) (by omega) s.size 0 k (by omega) (by omega)
  rw [show ((0 : Nat) : Int) = 0 from rfl] at this
  rw [this, ne_empty, List.drop_zero]
  rfl
theorem colon_l0 (s : ByteArray) (hs : s.size ≤ 140737488351232) : ∀ (n j k : Nat), j + n = s.size → n + 1 ≤ k →
    hustingsref10_colon.l0 k s (j : Int) = some ((j : Int) + (colonN ((bytesOf s).drop j) : Int))
  | 0, j, k, h, hk => by
    obtain ⟨k, rfl⟩ : ∃ m, k = m + 1 := ⟨k - 1, by omega⟩
    have : (bytesOf s).drop j = [] := List.drop_eq_nil_of_le (by rw [zN]; omega)
    rw [this]
    simp only [hustingsref10_colon.l0]
    rw [if_neg (by omega)]
    have : (s.size : Int) = (j : Int) + ((0 : Nat) : Int) := by omega
    exact congrArg some this
  | n + 1, j, k, h, hk => by
    obtain ⟨k, rfl⟩ : ∃ m, k = m + 1 := ⟨k - 1, by omega⟩
    obtain ⟨hj, t, ht, ht2⟩ | ⟨hj, _⟩ := drop_shape s j
    · obtain ⟨_, hb, _⟩ := bt_drop s j _ _ ht
      simp only [hustingsref10_colon.l0]
      rw [if_pos (by omega), if_pos (by omega), ht, ← hb]
      simp only [colonN]
      by_cases hc : bt s (j : Int) = 58
      · rw [if_pos hc, if_pos hc]; simp
      · rw [if_neg hc, if_neg hc, w64b _ (by omega) (by omega), show ((j : Int) + 1) = ((j + 1 : Nat) : Int) by omega, colon_l0 s hs n (j + 1) k (by omega) (by omega), ht2]
        congr 1
        omega
    · omega
theorem colon_f (s : ByteArray) (k : Nat) (hs : s.size ≤ 140737488351232) (hk : s.size + 1 ≤ k) : hustingsref10_colon.f k s = some (colonN (bytesOf s) : Int) := by
  unfold hustingsref10_colon.f
  have := colon_l0 s hs s.size 0 k (by omega) hk
  rw [show ((0 : Nat) : Int) = 0 from rfl] at this
  rw [this, List.drop_zero]
  simp
end Go.Proofs.YtlfplmlehbomlaaDoor.I
end

section
namespace Go.Proofs.YtlfplmlehbomlaaDoor.P
open Go.RowKit Go.Proofs.YtlfplmlehbomlaaDoorW.PrintWords Go.Proofs.YtlfplmlehbomlaaDoorW.PrintLast Go.Proofs.YtlfplmlehbomlaaDoorW.PrintMore
set_option linter.unusedVariables false
set_option linter.unusedSimpArgs false
def hustingsref10_Server.f (k : Nat) (a0 : ByteArray) : Option (Bool) := (hustingsref10_colon.f k a0).bind fun t34001 => (if (a0.size : Int) > 255 then (some false) else (if 0 ≤ t34001 then (if t34001 ≤ (a0.size : Int) then ((hustingsref10_of.f k (a0.extract 0 (t34001 : Int).toNat) (⟨#[97, 48]⟩ : ByteArray) (⟨#[46, 45]⟩ : ByteArray)).bind fun t34002 => (if t34002 = true then (if t34001 = (a0.size : Int) then (some true) else (if (wrap64 ((a0.size : Int) - t34001)) ≤ 6 then (if 0 ≤ (wrap64 (t34001 + 1)) then (if (wrap64 (t34001 + 1)) ≤ (a0.size : Int) then ((hustingsref10_of.f k (a0.extract ((wrap64 (t34001 + 1)) : Int).toNat a0.size) (⟨#[48]⟩ : ByteArray) (⟨#[]⟩ : ByteArray)).bind fun t34003 => (some t34003)) else (none)) else (none)) else (some false))) else (some false))) else (none)) else (none)))
theorem hustingsref10_Server.mono : ∀ a0 k, LeO (hustingsref10_Server.f k a0) (hustingsref10_Server.f (k + 1) a0) := by
  intro a0 k
  unfold hustingsref10_Server.f
  repeat' first
      | (with_reducible exact hustingsref10_colon.mono _ _)
      | (with_reducible exact hustingsref10_of.mono _ _ _ _)
      | (with_reducible exact LeO.refl _)
      | (with_reducible exact LeO.none _)
      | (with_reducible refine LeO.ite ?_ ?_)
      | (with_reducible refine LeO.bind ?_ (fun _ => ?_))
      | exact hustingsref10_colon.mono _ _
      | exact hustingsref10_of.mono _ _ _ _
      | exact LeO.none _
      | refine LeO.ite ?_ ?_
      | refine LeO.bind ?_ (fun _ => ?_)
set_option maxHeartbeats 8000000 in
set_option maxRecDepth 100000 in
theorem hustingsref10_Server.calls (k : Nat) (a0 : ByteArray) (r : Bool) (w : World) (h : hustingsref10_Server.f k a0 = some r) :
    Calls Tryd.prog 34 #[.string a0] w fun e w' => e = .returned (.bool r) ∧ zI w w' := by
  have H : ((hustingsref10_colon.f k a0).bind fun t34001 => (if (a0.size : Int) > 255 then (some false) else (if 0 ≤ t34001 then (if t34001 ≤ (a0.size : Int) then ((hustingsref10_of.f k (a0.extract 0 (t34001 : Int).toNat) (⟨#[97, 48]⟩ : ByteArray) (⟨#[46, 45]⟩ : ByteArray)).bind fun t34002 => (if t34002 = true then (if t34001 = (a0.size : Int) then (some true) else (if (wrap64 ((a0.size : Int) - t34001)) ≤ 6 then (if 0 ≤ (wrap64 (t34001 + 1)) then (if (wrap64 (t34001 + 1)) ≤ (a0.size : Int) then ((hustingsref10_of.f k (a0.extract ((wrap64 (t34001 + 1)) : Int).toNat a0.size) (⟨#[48]⟩ : ByteArray) (⟨#[]⟩ : ByteArray)).bind fun t34003 => (some t34003)) else (none)) else (none)) else (some false))) else (some false))) else (none)) else (none)))) = some r := h
  clear h
  replace H := Option.bind_eq_some_iff.mp H
  obtain ⟨t34001, A20, H⟩ := H
  replace H : (if (a0.size : Int) > 255 then (some false) else (if 0 ≤ t34001 then (if t34001 ≤ (a0.size : Int) then ((hustingsref10_of.f k (a0.extract 0 (t34001 : Int).toNat) (⟨#[97, 48]⟩ : ByteArray) (⟨#[46, 45]⟩ : ByteArray)).bind fun t34002 => (if t34002 = true then (if t34001 = (a0.size : Int) then (some true) else (if (wrap64 ((a0.size : Int) - t34001)) ≤ 6 then (if 0 ≤ (wrap64 (t34001 + 1)) then (if (wrap64 (t34001 + 1)) ≤ (a0.size : Int) then ((hustingsref10_of.f k (a0.extract ((wrap64 (t34001 + 1)) : Int).toNat a0.size) (⟨#[48]⟩ : ByteArray) (⟨#[]⟩ : ByteArray)).bind fun t34003 => (some t34003)) else (none)) else (none)) else (some false))) else (some false))) else (none)) else (none))) = some r := H
  have A2 := Aside0.mk A20
  clear A20
  by_cases c3 : (a0.size : Int) > 255
  · rw [if_pos c3] at H
    have c3b0 : decide (255 < (a0.size : Int)) = true := decide_eq_true c3
    have c3b1 : decide (255 < a0.size) = true := decide_eq_true (by omega)
    clear c3
    obtain rfl := Option.some.inj H
    go_enter Tryd.func34, Tryd.ntmps34
    go_wp2_with (first | ((with_reducible refine gate_callee (f := 32) rfl ?_); refine goesL_ (some 5) rfl rfl Tryd.func32 (by kernel_rfl) rfl #[.string a0] rfl (by (try simp only [List.map_toArray, List.map_cons, List.map_nil]); first | done | rfl | (simp only [List.length_drop, List.length_take]; rfl)) ?_; (with_reducible refine (hustingsref10_colon.calls k a0 t34001 _ A2.out).mono ?_); rintro e w' ⟨rfl, ⟨nd, rfl⟩⟩; refine ⟨_, rfl, ?_⟩))
    go_ret
    exact ⟨by first | rfl | (simp; done) | (simp [*]; done), by repeat (first | exact zI.refl _ | apply zI.step)⟩
  · rw [if_neg c3] at H
    have c3b0 : decide (255 < (a0.size : Int)) = false := decide_eq_false c3
    have c3b1 : decide (255 < a0.size) = false := decide_eq_false (by omega)
    clear c3
    by_cases c4 : 0 ≤ t34001
    · rw [if_pos c4] at H
      have c4b0 := eq_true c4
      have c4b1 : decide (0 ≤ t34001) = true := decide_eq_true c4
      clear c4
      by_cases c5 : t34001 ≤ (a0.size : Int)
      · rw [if_pos c5] at H
        have c5b0 := eq_true c5
        have c5b1 : decide (t34001 ≤ (a0.size : Int)) = true := decide_eq_true c5
        clear c5
        replace H := Option.bind_eq_some_iff.mp H
        obtain ⟨t34002, A60, H⟩ := H
        replace H : (if t34002 = true then (if t34001 = (a0.size : Int) then (some true) else (if (wrap64 ((a0.size : Int) - t34001)) ≤ 6 then (if 0 ≤ (wrap64 (t34001 + 1)) then (if (wrap64 (t34001 + 1)) ≤ (a0.size : Int) then ((hustingsref10_of.f k (a0.extract ((wrap64 (t34001 + 1)) : Int).toNat a0.size) (⟨#[48]⟩ : ByteArray) (⟨#[]⟩ : ByteArray)).bind fun t34003 => (some t34003)) else (none)) else (none)) else (some false))) else (some false)) = some r := H
        have A6 := Aside0.mk A60
        clear A60
        by_cases c7 : t34002 = true
        · subst c7
          have H1 : (if t34001 = (a0.size : Int) then (some true) else (if (wrap64 ((a0.size : Int) - t34001)) ≤ 6 then (if 0 ≤ (wrap64 (t34001 + 1)) then (if (wrap64 (t34001 + 1)) ≤ (a0.size : Int) then ((hustingsref10_of.f k (a0.extract ((wrap64 (t34001 + 1)) : Int).toNat a0.size) (⟨#[48]⟩ : ByteArray) (⟨#[]⟩ : ByteArray)).bind fun t34003 => (some t34003)) else (none)) else (none)) else (some false))) = some r := by rw [if_pos rfl] at H; exact H
          clear H
          have H := H1
          clear H1
          by_cases c8 : t34001 = (a0.size : Int)
          · rw [if_pos c8] at H
            have c8b0 : (t34001 == (a0.size : Int)) = true := beq_iff_eq.mpr c8
            have c8b1 : (t34001 != (a0.size : Int)) = false := bne_eq_false_iff_eq.mpr c8
            clear c8
            obtain rfl := Option.some.inj H
            go_enter Tryd.func34, Tryd.ntmps34
            go_wp2_with (first | ((with_reducible refine gate_callee (f := 32) rfl ?_); refine goesL_ (some 5) rfl rfl Tryd.func32 (by kernel_rfl) rfl #[.string a0] rfl (by (try simp only [List.map_toArray, List.map_cons, List.map_nil]); first | done | rfl | (simp only [List.length_drop, List.length_take]; rfl)) ?_; (with_reducible refine (hustingsref10_colon.calls k a0 t34001 _ A2.out).mono ?_); rintro e w' ⟨rfl, ⟨nd, rfl⟩⟩; refine ⟨_, rfl, ?_⟩) | (go_at_call 33; (with_reducible refine (hustingsref10_of.calls k (a0.extract 0 (t34001 : Int).toNat) (⟨#[97, 48]⟩ : ByteArray) (⟨#[46, 45]⟩ : ByteArray) true _ A6.out).mono ?_); rintro e w' ⟨rfl, ⟨nd, rfl⟩⟩))
            go_ret
            exact ⟨by first | rfl | (simp; done) | (simp [*]; done), by repeat (first | exact zI.refl _ | apply zI.step)⟩
          · rw [if_neg c8] at H
            have c8b0 : (t34001 == (a0.size : Int)) = false := beq_eq_false_iff_ne.mpr c8
            have c8b1 : (t34001 != (a0.size : Int)) = true := bne_iff_ne.mpr c8
            by_cases c9 : (wrap64 ((a0.size : Int) - t34001)) ≤ 6
            · rw [if_pos c9] at H
              have c9b0 : decide ((wrap64 ((a0.size : Int) - t34001)) ≤ 6) = true := decide_eq_true c9
              clear c9
              obtain ⟨ji10, hji10⟩ : ∃ j_ : Int, (wrap64 (t34001 + 1)) = j_ := ⟨_, rfl⟩
              replace H : (if 0 ≤ (ji10) then (if (ji10) ≤ (a0.size : Int) then ((hustingsref10_of.f k (a0.extract ((ji10) : Int).toNat a0.size) (⟨#[48]⟩ : ByteArray) (⟨#[]⟩ : ByteArray)).bind fun t34003 => (some t34003)) else (none)) else (none)) = some r := by first | (rw [hji10] at H; exact H) | (simp only [hji10] at H ⊢; exact H)
              (try rw [hji10] at A2)
              (try rw [hji10] at A6)
              have hji10w : (IntKind.i64.wrap (t34001 + 1)) = ji10 := (i64_w _).trans hji10
              by_cases c11 : 0 ≤ (ji10)
              · rw [if_pos c11] at H
                have c11b0 := eq_true c11
                have c11b1 : decide (0 ≤ (ji10)) = true := decide_eq_true c11
                clear c11
                by_cases c12 : (ji10) ≤ (a0.size : Int)
                · rw [if_pos c12] at H
                  have c12b0 := eq_true c12
                  have c12b1 : decide ((ji10) ≤ (a0.size : Int)) = true := decide_eq_true c12
                  clear c12
                  replace H := Option.bind_eq_some_iff.mp H
                  obtain ⟨t34003, A130, H⟩ := H
                  replace H : (some t34003) = some r := H
                  have A13 := Aside0.mk A130
                  clear A130
                  obtain rfl := Option.some.inj H
                  go_enter Tryd.func34, Tryd.ntmps34
                  go_wp2_with (first | ((with_reducible refine gate_callee (f := 32) rfl ?_); refine goesL_ (some 5) rfl rfl Tryd.func32 (by kernel_rfl) rfl #[.string a0] rfl (by (try simp only [List.map_toArray, List.map_cons, List.map_nil]); first | done | rfl | (simp only [List.length_drop, List.length_take]; rfl)) ?_; (with_reducible refine (hustingsref10_colon.calls k a0 t34001 _ A2.out).mono ?_); rintro e w' ⟨rfl, ⟨nd, rfl⟩⟩; refine ⟨_, rfl, ?_⟩) | (go_at_call 33; (with_reducible refine (hustingsref10_of.calls k (a0.extract 0 (t34001 : Int).toNat) (⟨#[97, 48]⟩ : ByteArray) (⟨#[46, 45]⟩ : ByteArray) true _ A6.out).mono ?_); rintro e w' ⟨rfl, ⟨nd, rfl⟩⟩) | (go_at_call 33; (with_reducible refine (hustingsref10_of.calls k (a0.extract ((ji10) : Int).toNat a0.size) (⟨#[48]⟩ : ByteArray) (⟨#[]⟩ : ByteArray) t34003 _ A13.out).mono ?_); rintro e w' ⟨rfl, ⟨nd, rfl⟩⟩))
                  go_ret
                  exact ⟨by first | rfl | (simp; done) | (simp only [← hji10] <;> (first | rfl | simp)) | (simp [*]; done), by repeat (first | exact zI.refl _ | apply zI.step)⟩
                · rw [if_neg c12] at H
                  exact absurd H (by simp)
              · rw [if_neg c11] at H
                exact absurd H (by simp)
            · rw [if_neg c9] at H
              have c9b0 : decide ((wrap64 ((a0.size : Int) - t34001)) ≤ 6) = false := decide_eq_false c9
              clear c9
              obtain rfl := Option.some.inj H
              go_enter Tryd.func34, Tryd.ntmps34
              go_wp2_with (first | ((with_reducible refine gate_callee (f := 32) rfl ?_); refine goesL_ (some 5) rfl rfl Tryd.func32 (by kernel_rfl) rfl #[.string a0] rfl (by (try simp only [List.map_toArray, List.map_cons, List.map_nil]); first | done | rfl | (simp only [List.length_drop, List.length_take]; rfl)) ?_; (with_reducible refine (hustingsref10_colon.calls k a0 t34001 _ A2.out).mono ?_); rintro e w' ⟨rfl, ⟨nd, rfl⟩⟩; refine ⟨_, rfl, ?_⟩) | (go_at_call 33; (with_reducible refine (hustingsref10_of.calls k (a0.extract 0 (t34001 : Int).toNat) (⟨#[97, 48]⟩ : ByteArray) (⟨#[46, 45]⟩ : ByteArray) true _ A6.out).mono ?_); rintro e w' ⟨rfl, ⟨nd, rfl⟩⟩))
              go_ret
              exact ⟨by first | rfl | (simp; done) | (simp [*]; done), by repeat (first | exact zI.refl _ | apply zI.step)⟩
        · replace c7 := Bool.eq_false_iff.mpr c7
          subst c7
          have H1 : (some false) = some r := by rw [if_neg (show ¬ (false = true) by decide)] at H; exact H
          clear H
          have H := H1
          clear H1
          obtain rfl := Option.some.inj H
          go_enter Tryd.func34, Tryd.ntmps34
          go_wp2_with (first | ((with_reducible refine gate_callee (f := 32) rfl ?_); refine goesL_ (some 5) rfl rfl Tryd.func32 (by kernel_rfl) rfl #[.string a0] rfl (by (try simp only [List.map_toArray, List.map_cons, List.map_nil]); first | done | rfl | (simp only [List.length_drop, List.length_take]; rfl)) ?_; (with_reducible refine (hustingsref10_colon.calls k a0 t34001 _ A2.out).mono ?_); rintro e w' ⟨rfl, ⟨nd, rfl⟩⟩; refine ⟨_, rfl, ?_⟩) | (go_at_call 33; (with_reducible refine (hustingsref10_of.calls k (a0.extract 0 (t34001 : Int).toNat) (⟨#[97, 48]⟩ : ByteArray) (⟨#[46, 45]⟩ : ByteArray) false _ A6.out).mono ?_); rintro e w' ⟨rfl, ⟨nd, rfl⟩⟩))
          go_ret
          exact ⟨by first | rfl | (simp; done) | (simp [*]; done), by repeat (first | exact zI.refl _ | apply zI.step)⟩
      · rw [if_neg c5] at H
        exact absurd H (by simp)
    · rw [if_neg c4] at H
      exact absurd H (by simp)
def hustingsref10_named.f (k : Nat) (a0 : ByteArray) (a1 : Int) (a2 : ByteArray) (a3 : ByteArray) : Option (Bool) := (hustingsref10_colon.f k a0).bind fun t26001 => (if (a0.size : Int) ≤ 255 then (if t26001 < (a0.size : Int) then (if t26001 > 0 then (if 0 < (a0.size : Int) then (if (bt a0 0) = a1 then (if 1 ≤ t26001 then (if t26001 ≤ (a0.size : Int) then ((hustingsref10_of.f k (a0.extract 1 (t26001 : Int).toNat) a2 a3).bind fun t26002 => (if t26002 = true then (if 0 ≤ (wrap64 (t26001 + 1)) then (if (wrap64 (t26001 + 1)) ≤ (a0.size : Int) then ((hustingsref10_Server.f k (a0.extract ((wrap64 (t26001 + 1)) : Int).toNat a0.size)).bind fun t26003 => (some t26003)) else (none)) else (none)) else (some false))) else (none)) else (none)) else (some false)) else (none)) else (some false)) else (some false)) else (some false))
theorem hustingsref10_named.mono : ∀ a0 a1 a2 a3 k, LeO (hustingsref10_named.f k a0 a1 a2 a3) (hustingsref10_named.f (k + 1) a0 a1 a2 a3) := by
  intro a0 a1 a2 a3 k
  unfold hustingsref10_named.f
  repeat' first
      | (with_reducible exact hustingsref10_Server.mono _ _)
      | (with_reducible exact hustingsref10_colon.mono _ _)
      | (with_reducible exact hustingsref10_of.mono _ _ _ _)
      | (with_reducible exact LeO.refl _)
      | (with_reducible exact LeO.none _)
      | (with_reducible refine LeO.ite ?_ ?_)
      | (with_reducible refine LeO.bind ?_ (fun _ => ?_))
      | exact hustingsref10_Server.mono _ _
      | exact hustingsref10_colon.mono _ _
      | exact hustingsref10_of.mono _ _ _ _
      | exact LeO.none _
      | refine LeO.ite ?_ ?_
      | refine LeO.bind ?_ (fun _ => ?_)
set_option maxHeartbeats 8000000 in
set_option maxRecDepth 100000 in
theorem hustingsref10_named.calls (k : Nat) (a0 : ByteArray) (a1 : Int) (a2 : ByteArray) (a3 : ByteArray) (r : Bool) (w : World) (h : hustingsref10_named.f k a0 a1 a2 a3 = some r) :
    Calls Tryd.prog 26 #[.string a0, .int .u8 a1, .string a2, .string a3] w fun e w' => e = .returned (.bool r) ∧ zI w w' := by
  have H : ((hustingsref10_colon.f k a0).bind fun t26001 => (if (a0.size : Int) ≤ 255 then (if t26001 < (a0.size : Int) then (if t26001 > 0 then (if 0 < (a0.size : Int) then (if (bt a0 0) = a1 then (if 1 ≤ t26001 then (if t26001 ≤ (a0.size : Int) then ((hustingsref10_of.f k (a0.extract 1 (t26001 : Int).toNat) a2 a3).bind fun t26002 => (if t26002 = true then (if 0 ≤ (wrap64 (t26001 + 1)) then (if (wrap64 (t26001 + 1)) ≤ (a0.size : Int) then ((hustingsref10_Server.f k (a0.extract ((wrap64 (t26001 + 1)) : Int).toNat a0.size)).bind fun t26003 => (some t26003)) else (none)) else (none)) else (some false))) else (none)) else (none)) else (some false)) else (none)) else (some false)) else (some false)) else (some false))) = some r := h
  clear h
  replace H := Option.bind_eq_some_iff.mp H
  obtain ⟨t26001, A50, H⟩ := H
  replace H : (if (a0.size : Int) ≤ 255 then (if t26001 < (a0.size : Int) then (if t26001 > 0 then (if 0 < (a0.size : Int) then (if (bt a0 0) = a1 then (if 1 ≤ t26001 then (if t26001 ≤ (a0.size : Int) then ((hustingsref10_of.f k (a0.extract 1 (t26001 : Int).toNat) a2 a3).bind fun t26002 => (if t26002 = true then (if 0 ≤ (wrap64 (t26001 + 1)) then (if (wrap64 (t26001 + 1)) ≤ (a0.size : Int) then ((hustingsref10_Server.f k (a0.extract ((wrap64 (t26001 + 1)) : Int).toNat a0.size)).bind fun t26003 => (some t26003)) else (none)) else (none)) else (some false))) else (none)) else (none)) else (some false)) else (none)) else (some false)) else (some false)) else (some false)) = some r := H
  have A5 := Aside0.mk A50
  clear A50
  by_cases c6 : (a0.size : Int) ≤ 255
  · rw [if_pos c6] at H
    have c6b0 : decide ((a0.size : Int) ≤ 255) = true := decide_eq_true c6
    have c6b1 : decide (a0.size ≤ 255) = true := decide_eq_true (by omega)
    clear c6
    by_cases c7 : t26001 < (a0.size : Int)
    · rw [if_pos c7] at H
      have c7b0 : decide (t26001 < (a0.size : Int)) = true := decide_eq_true c7
      clear c7
      by_cases c8 : t26001 > 0
      · rw [if_pos c8] at H
        have c8b0 : decide (0 < t26001) = true := decide_eq_true c8
        clear c8
        by_cases c9 : 0 < (a0.size : Int)
        · rw [if_pos c9] at H
          have c9b0 : decide (0 < (a0.size : Int)) = true := decide_eq_true c9
          have c9b1 : decide (0 < a0.size) = true := decide_eq_true (by omega)
          clear c9
          by_cases c11 : (bt a0 0) = a1
          · rw [if_pos c11] at H
            have c11b0 : ((bt a0 0) == a1) = true := beq_iff_eq.mpr c11
            have c11b1 : ((bt a0 0) != a1) = false := bne_eq_false_iff_eq.mpr c11
            clear c11
            by_cases c12 : 1 ≤ t26001
            · rw [if_pos c12] at H
              have c12b0 := eq_true c12
              have c12b1 : decide (1 ≤ t26001) = true := decide_eq_true c12
              clear c12
              by_cases c13 : t26001 ≤ (a0.size : Int)
              · rw [if_pos c13] at H
                have c13b0 := eq_true c13
                have c13b1 : decide (t26001 ≤ (a0.size : Int)) = true := decide_eq_true c13
                clear c13
                replace H := Option.bind_eq_some_iff.mp H
                obtain ⟨t26002, A140, H⟩ := H
                replace H : (if t26002 = true then (if 0 ≤ (wrap64 (t26001 + 1)) then (if (wrap64 (t26001 + 1)) ≤ (a0.size : Int) then ((hustingsref10_Server.f k (a0.extract ((wrap64 (t26001 + 1)) : Int).toNat a0.size)).bind fun t26003 => (some t26003)) else (none)) else (none)) else (some false)) = some r := H
                have A14 := Aside0.mk A140
                clear A140
                by_cases c15 : t26002 = true
                · subst c15
                  have H1 : (if 0 ≤ (wrap64 (t26001 + 1)) then (if (wrap64 (t26001 + 1)) ≤ (a0.size : Int) then ((hustingsref10_Server.f k (a0.extract ((wrap64 (t26001 + 1)) : Int).toNat a0.size)).bind fun t26003 => (some t26003)) else (none)) else (none)) = some r := by rw [if_pos rfl] at H; exact H
                  clear H
                  have H := H1
                  clear H1
                  obtain ⟨ji16, hji16⟩ : ∃ j_ : Int, (wrap64 (t26001 + 1)) = j_ := ⟨_, rfl⟩
                  replace H : (if 0 ≤ (ji16) then (if (ji16) ≤ (a0.size : Int) then ((hustingsref10_Server.f k (a0.extract ((ji16) : Int).toNat a0.size)).bind fun t26003 => (some t26003)) else (none)) else (none)) = some r := by first | (rw [hji16] at H; exact H) | (simp only [hji16] at H ⊢; exact H)
                  (try rw [hji16] at A5)
                  (try rw [hji16] at A14)
                  have hji16w : (IntKind.i64.wrap (t26001 + 1)) = ji16 := (i64_w _).trans hji16
                  by_cases c17 : 0 ≤ (ji16)
                  · rw [if_pos c17] at H
                    have c17b0 := eq_true c17
                    have c17b1 : decide (0 ≤ (ji16)) = true := decide_eq_true c17
                    clear c17
                    by_cases c18 : (ji16) ≤ (a0.size : Int)
                    · rw [if_pos c18] at H
                      have c18b0 := eq_true c18
                      have c18b1 : decide ((ji16) ≤ (a0.size : Int)) = true := decide_eq_true c18
                      clear c18
                      replace H := Option.bind_eq_some_iff.mp H
                      obtain ⟨t26003, A190, H⟩ := H
                      replace H : (some t26003) = some r := H
                      have A19 := Aside0.mk A190
                      clear A190
                      obtain rfl := Option.some.inj H
                      go_enter Tryd.func26, Tryd.ntmps26
                      go_wp2_with (first | ((with_reducible refine gate_callee (f := 32) rfl ?_); refine goesL_ (some 11) rfl rfl Tryd.func32 (by kernel_rfl) rfl #[.string a0] rfl (by (try simp only [List.map_toArray, List.map_cons, List.map_nil]); first | done | rfl | (simp only [List.length_drop, List.length_take]; rfl)) ?_; (with_reducible refine (hustingsref10_colon.calls k a0 t26001 _ A5.out).mono ?_); rintro e w' ⟨rfl, ⟨nd, rfl⟩⟩; refine ⟨_, rfl, ?_⟩; have p10 : 0 ≤ (0 : Int) := (by omega); have q10 : 0 < a0.size := (by have : (0 : Int) < (a0.size : Int) := of_decide_eq_true (by first | (with_reducible assumption) | assumption); omega); have hx10 : ∀ h : 0 < a0.size, ((a0[0]'h).toNat : Int) = bt a0 0 := zR a0 0; clear p10; have qi10 : (0 < (a0.size : Int)) = True := eq_true (of_decide_eq_true (by first | (with_reducible assumption) | assumption)); replace q10 := eq_true q10) | (go_at_call 33; (with_reducible refine (hustingsref10_of.calls k (a0.extract 1 (t26001 : Int).toNat) a2 a3 true _ A14.out).mono ?_); rintro e w' ⟨rfl, ⟨nd, rfl⟩⟩) | (go_at_call 34; (with_reducible refine (hustingsref10_Server.calls k (a0.extract ((ji16) : Int).toNat a0.size) t26003 _ A19.out).mono ?_); rintro e w' ⟨rfl, ⟨nd, rfl⟩⟩))
                      go_ret
                      exact ⟨by first | rfl | (simp; done) | (simp only [← hji16] <;> (first | rfl | simp)) | (simp [*]; done), by repeat (first | exact zI.refl _ | apply zI.step)⟩
                    · rw [if_neg c18] at H
                      exact absurd H (by simp)
                  · rw [if_neg c17] at H
                    exact absurd H (by simp)
                · replace c15 := Bool.eq_false_iff.mpr c15
                  subst c15
                  have H1 : (some false) = some r := by rw [if_neg (show ¬ (false = true) by decide)] at H; exact H
                  clear H
                  have H := H1
                  clear H1
                  obtain rfl := Option.some.inj H
                  go_enter Tryd.func26, Tryd.ntmps26
                  go_wp2_with (first | ((with_reducible refine gate_callee (f := 32) rfl ?_); refine goesL_ (some 11) rfl rfl Tryd.func32 (by kernel_rfl) rfl #[.string a0] rfl (by (try simp only [List.map_toArray, List.map_cons, List.map_nil]); first | done | rfl | (simp only [List.length_drop, List.length_take]; rfl)) ?_; (with_reducible refine (hustingsref10_colon.calls k a0 t26001 _ A5.out).mono ?_); rintro e w' ⟨rfl, ⟨nd, rfl⟩⟩; refine ⟨_, rfl, ?_⟩; have p10 : 0 ≤ (0 : Int) := (by omega); have q10 : 0 < a0.size := (by have : (0 : Int) < (a0.size : Int) := of_decide_eq_true (by first | (with_reducible assumption) | assumption); omega); have hx10 : ∀ h : 0 < a0.size, ((a0[0]'h).toNat : Int) = bt a0 0 := zR a0 0; clear p10; have qi10 : (0 < (a0.size : Int)) = True := eq_true (of_decide_eq_true (by first | (with_reducible assumption) | assumption)); replace q10 := eq_true q10) | (go_at_call 33; (with_reducible refine (hustingsref10_of.calls k (a0.extract 1 (t26001 : Int).toNat) a2 a3 false _ A14.out).mono ?_); rintro e w' ⟨rfl, ⟨nd, rfl⟩⟩))
                  go_ret
                  exact ⟨by first | rfl | (simp; done) | (simp [*]; done), by repeat (first | exact zI.refl _ | apply zI.step)⟩
              · rw [if_neg c13] at H
                exact absurd H (by simp)
            · rw [if_neg c12] at H
              exact absurd H (by simp)
          · rw [if_neg c11] at H
            have c11b0 : ((bt a0 0) == a1) = false := beq_eq_false_iff_ne.mpr c11
            have c11b1 : ((bt a0 0) != a1) = true := bne_iff_ne.mpr c11
            obtain rfl := Option.some.inj H
            go_enter Tryd.func26, Tryd.ntmps26
            go_wp2_with (first | ((with_reducible refine gate_callee (f := 32) rfl ?_); refine goesL_ (some 11) rfl rfl Tryd.func32 (by kernel_rfl) rfl #[.string a0] rfl (by (try simp only [List.map_toArray, List.map_cons, List.map_nil]); first | done | rfl | (simp only [List.length_drop, List.length_take]; rfl)) ?_; (with_reducible refine (hustingsref10_colon.calls k a0 t26001 _ A5.out).mono ?_); rintro e w' ⟨rfl, ⟨nd, rfl⟩⟩; refine ⟨_, rfl, ?_⟩; have p10 : 0 ≤ (0 : Int) := (by omega); have q10 : 0 < a0.size := (by have : (0 : Int) < (a0.size : Int) := of_decide_eq_true (by first | (with_reducible assumption) | assumption); omega); have hx10 : ∀ h : 0 < a0.size, ((a0[0]'h).toNat : Int) = bt a0 0 := zR a0 0; clear p10; have qi10 : (0 < (a0.size : Int)) = True := eq_true (of_decide_eq_true (by first | (with_reducible assumption) | assumption)); replace q10 := eq_true q10))
            go_ret
            exact ⟨by first | rfl | (simp; done) | (simp [*]; done), by repeat (first | exact zI.refl _ | apply zI.step)⟩
        · rw [if_neg c9] at H
          exact absurd H (by simp)
      · rw [if_neg c8] at H
        have c8b0 : decide (0 < t26001) = false := decide_eq_false c8
        clear c8
        obtain rfl := Option.some.inj H
        go_enter Tryd.func26, Tryd.ntmps26
        go_wp2_with (first | ((with_reducible refine gate_callee (f := 32) rfl ?_); refine goesL_ (some 11) rfl rfl Tryd.func32 (by kernel_rfl) rfl #[.string a0] rfl (by (try simp only [List.map_toArray, List.map_cons, List.map_nil]); first | done | rfl | (simp only [List.length_drop, List.length_take]; rfl)) ?_; (with_reducible refine (hustingsref10_colon.calls k a0 t26001 _ A5.out).mono ?_); rintro e w' ⟨rfl, ⟨nd, rfl⟩⟩; refine ⟨_, rfl, ?_⟩))
        go_ret
        exact ⟨by first | rfl | (simp; done) | (simp [*]; done), by repeat (first | exact zI.refl _ | apply zI.step)⟩
    · rw [if_neg c7] at H
      have c7b0 : decide (t26001 < (a0.size : Int)) = false := decide_eq_false c7
      clear c7
      obtain rfl := Option.some.inj H
      go_enter Tryd.func26, Tryd.ntmps26
      go_wp2_with (first | ((with_reducible refine gate_callee (f := 32) rfl ?_); refine goesL_ (some 11) rfl rfl Tryd.func32 (by kernel_rfl) rfl #[.string a0] rfl (by (try simp only [List.map_toArray, List.map_cons, List.map_nil]); first | done | rfl | (simp only [List.length_drop, List.length_take]; rfl)) ?_; (with_reducible refine (hustingsref10_colon.calls k a0 t26001 _ A5.out).mono ?_); rintro e w' ⟨rfl, ⟨nd, rfl⟩⟩; refine ⟨_, rfl, ?_⟩))
      go_ret
      exact ⟨by first | rfl | (simp; done) | (simp [*]; done), by repeat (first | exact zI.refl _ | apply zI.step)⟩
  · rw [if_neg c6] at H
    have c6b0 : decide ((a0.size : Int) ≤ 255) = false := decide_eq_false c6
    have c6b1 : decide (a0.size ≤ 255) = false := decide_eq_false (by omega)
    clear c6
    obtain rfl := Option.some.inj H
    go_enter Tryd.func26, Tryd.ntmps26
    go_wp2_with (first | ((with_reducible refine gate_callee (f := 32) rfl ?_); refine goesL_ (some 11) rfl rfl Tryd.func32 (by kernel_rfl) rfl #[.string a0] rfl (by (try simp only [List.map_toArray, List.map_cons, List.map_nil]); first | done | rfl | (simp only [List.length_drop, List.length_take]; rfl)) ?_; (with_reducible refine (hustingsref10_colon.calls k a0 t26001 _ A5.out).mono ?_); rintro e w' ⟨rfl, ⟨nd, rfl⟩⟩; refine ⟨_, rfl, ?_⟩))
    go_ret
    exact ⟨by first | rfl | (simp; done) | (simp [*]; done), by repeat (first | exact zI.refl _ | apply zI.step)⟩
def hustingsref10_User.f (k : Nat) (a0 : ByteArray) : Option (Bool) := (hustingsref10_named.f k a0 64 (⟨#[97, 48]⟩ : ByteArray) (⟨#[46, 95, 61, 45, 47, 43]⟩ : ByteArray)).bind fun t16001 => (some t16001)
theorem hustingsref10_User.mono : ∀ a0 k, LeO (hustingsref10_User.f k a0) (hustingsref10_User.f (k + 1) a0) := by
  intro a0 k
  unfold hustingsref10_User.f
  repeat' first
      | (with_reducible exact hustingsref10_named.mono _ _ _ _ _)
      | (with_reducible exact LeO.refl _)
      | (with_reducible exact LeO.none _)
      | (with_reducible refine LeO.ite ?_ ?_)
      | (with_reducible refine LeO.bind ?_ (fun _ => ?_))
      | exact hustingsref10_named.mono _ _ _ _ _
      | exact LeO.none _
      | refine LeO.ite ?_ ?_
      | refine LeO.bind ?_ (fun _ => ?_)
set_option maxHeartbeats 8000000 in
set_option maxRecDepth 100000 in
theorem hustingsref10_User.calls (k : Nat) (a0 : ByteArray) (r : Bool) (w : World) (h : hustingsref10_User.f k a0 = some r) :
    Calls Tryd.prog 16 #[.string a0] w fun e w' => e = .returned (.bool r) ∧ zI w w' := by
  have H : ((hustingsref10_named.f k a0 64 (⟨#[97, 48]⟩ : ByteArray) (⟨#[46, 95, 61, 45, 47, 43]⟩ : ByteArray)).bind fun t16001 => (some t16001)) = some r := h
  clear h
  replace H := Option.bind_eq_some_iff.mp H
  obtain ⟨t16001, A20, H⟩ := H
  replace H : (some t16001) = some r := H
  have A2 := Aside0.mk A20
  clear A20
  obtain rfl := Option.some.inj H
  go_enter Tryd.func16, Tryd.ntmps16
  go_wp2_with (first | ((with_reducible refine gate_callee (f := 26) rfl ?_); refine goesL_ (some 4) rfl rfl Tryd.func26 (by kernel_rfl) rfl #[.string a0, .int .u8 64, .string (⟨#[97, 48]⟩ : ByteArray), .string (⟨#[46, 95, 61, 45, 47, 43]⟩ : ByteArray)] rfl (by (try simp only [List.map_toArray, List.map_cons, List.map_nil]); first | done | rfl | (simp only [List.length_drop, List.length_take]; rfl)) ?_; (with_reducible refine (hustingsref10_named.calls k a0 64 (⟨#[97, 48]⟩ : ByteArray) (⟨#[46, 95, 61, 45, 47, 43]⟩ : ByteArray) t16001 _ A2.out).mono ?_); rintro e w' ⟨rfl, ⟨nd, rfl⟩⟩; refine ⟨_, rfl, ?_⟩))
  go_ret
  exact ⟨by first | rfl | (simp; done) | (simp [*]; done), by repeat (first | exact zI.refl _ | apply zI.step)⟩
end Go.Proofs.YtlfplmlehbomlaaDoor.P
end

section
namespace Go.Proofs.YtlfplmlehbomlaaDoor.I
set_option linter.unusedVariables false
set_option linter.unusedSimpArgs false
open Go.RowKit Go.Proofs.YtlfplmlehbomlaaDoorW.PrintWords Go.Proofs.YtlfplmlehbomlaaDoorW.PrintLast Go.Proofs.YtlfplmlehbomlaaDoorW.PrintMore Go.Proofs.YtlfplmlehbomlaaDoor.P
theorem bytes_ext (s : ByteArray) (a b : Nat) : bytesOf (s.extract a b) = ((bytesOf s).drop a).take (b - a) := by
  unfold bytesOf
  rw [ByteArray.data_extract, Array.toList_extract, List.extract_eq_take_drop, List.map_take, List.map_drop]
def serverL (l : List Int) : Bool :=
  if colonN l < l.length then allL kHost (l.take (colonN l)) && decide (l.length ≤ 255) && (decide ((l.drop (colonN l + 1)).length ≤ 5) && allL kDigit (l.drop (colonN l + 1)))
  else allL kHost l && decide (l.length ≤ 255)
theorem dec_int (n m : Nat) : decide ((n : Int) ≤ (m : Int)) = decide (n ≤ m) := by
  by_cases h : n ≤ m
  · rw [decide_eq_true h, decide_eq_true (by omega)]
  · rw [decide_eq_false h, decide_eq_false (by omega)]
theorem serverS_L (s : ByteArray) : serverS s = serverL (bytesOf s) := by
  unfold serverS serverL cutS
  rw [zN]
  split
  · rename_i h
    simp only [bytes_ext, Nat.sub_zero, List.drop_zero, Bool.not_true, Bool.false_or, List.length_drop, zN, ByteArray.size_extract]
    have e1 : decide ((s.size : Int) ≤ 255) = decide (s.size ≤ 255) := dec_int s.size 255
    have e2 : decide (((min s.size s.size - (colonN (bytesOf s) + 1) : Nat) : Int) ≤ 5) = decide (s.size - (colonN (bytesOf s) + 1) ≤ 5) := by rw [Nat.min_self]; exact dec_int _ 5
    rw [e1, e2, List.take_of_length_le (l := (bytesOf s).drop _) (by rw [List.length_drop, zN]; exact Nat.le_refl _)]
  · simp only [Bool.not_false, Bool.true_or, Bool.and_true]
    have e1 : decide ((s.size : Int) ≤ 255) = decide (s.size ≤ 255) := dec_int s.size 255
    rw [e1]
def namedL (k : Int → Bool) (sign : Int) (l : List Int) : Bool :=
  decide (l.head? = some sign) && decide (l.length ≤ 255) && decide (colonN (l.drop 1) < (l.drop 1).length) && (serverL ((l.drop 1).drop (colonN (l.drop 1) + 1)) && allL k ((l.drop 1).take (colonN (l.drop 1))))
theorem head_bt (s : ByteArray) (sign : Int) : (0 < s.size ∧ bt s 0 = sign) ↔ (bytesOf s).head? = some sign := by
  obtain ⟨hj, t, ht, ht2⟩ | ⟨hj, h⟩ := drop_shape s 0
  · obtain ⟨_, hb, _⟩ := bt_drop s 0 _ _ ht
    rw [List.drop_zero] at ht
    rw [ht, List.head?_cons, ← hb]
    constructor
    · rintro ⟨_, h⟩; rw [← h]; rfl
    · intro h; exact ⟨hj, Option.some.inj h⟩
  · rw [List.drop_zero] at h
    rw [h]
    constructor
    · rintro ⟨h, _⟩; omega
    · intro h; cases h
theorem namedS_L (k : Int → Bool) (s : ByteArray) (sign : Int) : namedS k s sign = namedL k sign (bytesOf s) := by
  unfold namedS namedL partsS
  by_cases h : (bytesOf s).head? = some sign
  · obtain ⟨h1, h2⟩ := (head_bt s sign).mpr h
    by_cases hl : s.size ≤ 255
    · rw [if_pos ⟨h1, h2, hl⟩, decide_eq_true h, zN, decide_eq_true hl]
      simp only [serverS_L]
      have e : bytesOf (s.extract 1 s.size) = (bytesOf s).drop 1 := bytes_extract s 1
      unfold cutS
      rw [e]
      have es : (s.extract 1 s.size).size = ((bytesOf s).drop 1).length := by rw [← e, zN]
      rw [es]
      by_cases hc : colonN ((bytesOf s).drop 1) < ((bytesOf s).drop 1).length
      · rw [if_pos hc, decide_eq_true hc]
        simp only [Bool.true_and]
        have e3 : bytesOf ((s.extract 1 s.size).extract (colonN ((bytesOf s).drop 1) + 1) ((bytesOf s).drop 1).length) = ((bytesOf s).drop 1).drop (colonN ((bytesOf s).drop 1) + 1) := by rw [← es, bytes_extract, e]
        have e4 : bytesOf ((s.extract 1 s.size).extract 0 (colonN ((bytesOf s).drop 1))) = ((bytesOf s).drop 1).take (colonN ((bytesOf s).drop 1)) := by rw [bytes_take, e]
        rw [e3, e4]
      · rw [if_neg hc, decide_eq_false hc]
        simp
    · rw [if_neg (by omega), zN, decide_eq_false hl]
      simp
  · rw [if_neg (fun hh => h ((head_bt s sign).mp ⟨hh.1, hh.2.1⟩)), decide_eq_false h]
    simp
theorem kinds_host : ofK [97, 48] [46, 45] = kHost := by
  funext c
  rw [Bool.eq_iff_iff]
  simp [ofK, kindQ, kHost, kSmall, kDigit]
  omega
theorem kinds_digit : ofK [48] [] = kDigit := by
  funext c
  rw [Bool.eq_iff_iff]
  simp [ofK, kindQ, kDigit]
theorem kinds_user : ofK [97, 48] [46, 95, 61, 45, 47, 43] = kUser := by
  funext c
  rw [Bool.eq_iff_iff]
  simp [ofK, kindQ, kUser, kSmall, kSign, kDigit]
  omega
theorem ref_server (s : ByteArray) (k : Nat) (hs : s.size ≤ 140737488351232) (hk : s.size * 20 + 20 ≤ k) : hustingsref10_Server.f k s = some (serverL (bytesOf s)) := by
  have hn : colonN (bytesOf s) ≤ s.size := by have := colonN_le (bytesOf s); rw [zN] at this; exact this
  unfold hustingsref10_Server.f
  rw [colon_f s k hs (by omega), Option.bind_some]
  unfold serverL
  rw [zN]
  generalize hnn : colonN (bytesOf s) = n at hn
  by_cases hl : (s.size : Int) > 255
  · rw [if_pos hl]
    have : decide (s.size ≤ 255) = false := decide_eq_false (by omega)
    rw [this]
    simp
  · have hd : decide (s.size ≤ 255) = true := decide_eq_true (by omega)
    rw [if_neg hl, if_pos (by omega), if_pos (by omega), Int.toNat_natCast, hd]
    obtain ⟨z, hz⟩ : ∃ z : ByteArray, z = ⟨#[97, 48]⟩ := ⟨_, rfl⟩
    obtain ⟨y, hy⟩ : ∃ y : ByteArray, y = ⟨#[46, 45]⟩ := ⟨_, rfl⟩
    obtain ⟨x, hx⟩ : ∃ x : ByteArray, x = ⟨#[48]⟩ := ⟨_, rfl⟩
    obtain ⟨v, hv⟩ : ∃ v : ByteArray, v = ⟨#[]⟩ := ⟨_, rfl⟩
    rw [← hz, ← hy, ← hx, ← hv]
    have sz : z.size = 2 := by rw [hz]; rfl
    have sy : y.size = 2 := by rw [hy]; rfl
    have sx : x.size = 1 := by rw [hx]; rfl
    have sv : v.size = 0 := by rw [hv]; rfl
    have bz : bytesOf z = [97, 48] := by rw [hz]; rfl
    have bys : bytesOf y = [46, 45] := by rw [hy]; rfl
    have bx : bytesOf x = [48] := by rw [hx]; rfl
    have bv : bytesOf v = [] := by rw [hv]; rfl
    have hsz : (s.extract 0 n).size ≤ s.size := by simp only [ByteArray.size_extract]; omega
    rw [of_f (s.extract 0 n) z y k (by omega) (by omega) (by omega), Option.bind_some, bz, bys, kinds_host, bytes_take]
    by_cases hc : n < s.size
    · rw [if_pos hc]
      have hsz2 : (s.extract (n + 1) s.size).size ≤ s.size := by simp only [ByteArray.size_extract]; omega
      have hof := of_f (s.extract (n + 1) s.size) x v k (by omega) (by omega) (by omega)
      rw [bx, bv, kinds_digit, bytes_extract] at hof
      cases allL kHost ((bytesOf s).take n)
      · rw [if_neg (by decide)]; rfl
      · rw [if_pos rfl, if_neg (by omega), w64b _ (by omega) (by omega)]
        have e : (((n : Int) + 1)).toNat = n + 1 := by omega
        by_cases h5 : (s.size : Int) - n ≤ 6
        · rw [if_pos h5, w64b _ (by omega) (by omega), if_pos (by omega), if_pos (by omega), e, hof, Option.bind_some, List.length_drop, zN]
          have : decide (s.size - (n + 1) ≤ 5) = true := decide_eq_true (by omega)
          rw [this]
          simp
        · rw [if_neg h5, List.length_drop, zN]
          have : decide (s.size - (n + 1) ≤ 5) = false := decide_eq_false (by omega)
          rw [this]
          simp
    · rw [if_neg hc, List.take_of_length_le (by rw [zN]; omega)]
      cases allL kHost (bytesOf s)
      · rw [if_neg (by decide)]; rfl
      · rw [if_pos rfl, if_pos (by omega)]; rfl
theorem ref_named (s K S : ByteArray) (sign : Int) (kk : Int → Bool) (k : Nat) (hs : s.size ≤ 140737488351232) (hk : s.size * 20 + 20 ≤ k) (hsg : sign ≠ 58)
    (hKS : K.size + S.size ≤ 17) (hkk : ofK (bytesOf K) (bytesOf S) = kk) : hustingsref10_named.f k s sign K S = some (namedL kk sign (bytesOf s)) := by
  unfold hustingsref10_named.f
  rw [colon_f s k hs (by omega), Option.bind_some]
  have hlen := zN s
  obtain ⟨hj, t, ht, ht2⟩ | ⟨hj, h⟩ := drop_shape s 0
  · obtain ⟨_, hb, _⟩ := bt_drop s 0 _ _ ht
    rw [List.drop_zero] at ht
    have hb' : bt s 0 = ((s.get! 0).toNat : Int) := hb
    generalize hc : ((s.get! 0).toNat : Int) = c at hb' ht
    have e1 : (bytesOf s).drop 1 = t := by rw [ht]; rfl
    rw [ht] at hlen
    rw [List.length_cons] at hlen
    unfold namedL
    rw [e1, ht, List.head?_cons, List.length_cons, hlen]
    by_cases hl : (s.size : Int) ≤ 255
    · rw [if_pos hl]
      have hd : decide (s.size ≤ 255) = true := decide_eq_true (by omega)
      rw [hd]
      by_cases h58 : c = 58
      · have hn : colonN (c :: t) = 0 := by simp only [colonN]; rw [if_pos h58]
        have hd2 : decide (some c = some sign) = false := decide_eq_false (fun h => hsg (by rw [← Option.some.inj h]; exact h58))
        rw [hn, if_pos (by omega), if_neg (by omega), hd2]
        simp
      · have hn : colonN (c :: t) = colonN t + 1 := by simp only [colonN]; rw [if_neg h58]
        rw [hn]
        have hle := colonN_le t
        generalize hm : colonN t = m at hle
        by_cases hlt : m < t.length
        · have hd3 : decide (m < t.length) = true := decide_eq_true hlt
          rw [if_pos (by omega), if_pos (by omega), if_pos (by omega), hb', hd3]
          by_cases hcs : c = sign
          · have hd2 : decide (some c = some sign) = true := decide_eq_true (by rw [hcs])
            have hx : (s.extract 1 (m + 1)).size ≤ s.size := by simp only [ByteArray.size_extract]; omega
            have hof := of_f (s.extract 1 (m + 1)) K S k (by omega) hKS (by omega)
            rw [hkk, bytes_ext, e1, show m + 1 - 1 = m by omega] at hof
            have hy : (s.extract (m + 1 + 1) s.size).size ≤ s.size := by simp only [ByteArray.size_extract]; omega
            have hsv := ref_server (s.extract (m + 1 + 1) s.size) k (by omega) (by omega)
            rw [bytes_extract, show m + 1 + 1 = 1 + (m + 1) by omega, ← List.drop_drop, e1] at hsv
            rw [if_pos hcs, if_pos (by omega), if_pos (by omega), Int.toNat_natCast, hof, Option.bind_some, hd2]
            cases allL kk (t.take m)
            · rw [if_neg (by decide)]; simp
            · rw [if_pos rfl, w64b _ (by omega) (by omega), if_pos (by omega), if_pos (by omega), show (((m + 1 : Nat) : Int) + 1).toNat = 1 + (m + 1) by omega, hsv, Option.bind_some]
              simp
          · have hd2 : decide (some c = some sign) = false := decide_eq_false (fun h => hcs (Option.some.inj h))
            rw [if_neg hcs, hd2]
            simp
        · have hd3 : decide (m < t.length) = false := decide_eq_false hlt
          rw [if_neg (by omega), hd3]
          simp
    · rw [if_neg hl]
      have hd : decide (s.size ≤ 255) = false := decide_eq_false (by omega)
      rw [hd]
      simp
  · rw [List.drop_zero] at h
    have hh : namedL kk sign (bytesOf s) = false := by unfold namedL; rw [h]; simp
    have h0 : colonN (bytesOf s) = 0 := by rw [h]; rfl
    rw [hh, h0, if_pos (by omega), if_neg (by omega)]
theorem ref_user (s : ByteArray) (k : Nat) (hs : s.size ≤ 140737488351232) (hk : s.size * 20 + 20 ≤ k) : hustingsref10_User.f k s = some (namedL kUser 64 (bytesOf s)) := by
  obtain ⟨z, hz⟩ : ∃ z : ByteArray, z = ⟨#[97, 48]⟩ := ⟨_, rfl⟩
  obtain ⟨y, hy⟩ : ∃ y : ByteArray, y = ⟨#[46, 95, 61, 45, 47, 43]⟩ := ⟨_, rfl⟩
  have sz : z.size = 2 := by rw [hz]; rfl
  have sy : y.size = 6 := by rw [hy]; rfl
  have bz : bytesOf z = [97, 48] := by rw [hz]; rfl
  have bys : bytesOf y = [46, 95, 61, 45, 47, 43] := by rw [hy]; rfl
  unfold hustingsref10_User.f
  rw [← hz, ← hy, ref_named s z y 64 kUser k hs hk (by decide) (by omega) (by rw [bz, bys, kinds_user]), Option.bind_some]
end Go.Proofs.YtlfplmlehbomlaaDoor.I
end

section
namespace Go.Proofs.YtlfplmlehbomlaaDoor.P
set_option linter.unusedVariables false
set_option linter.unusedSimpArgs false
open Go.RowKit Go.ChangeShapes Go.WideShapes Go.Proofs.YtlfplmlehbomlaaDoorW.PrintWords Go.Proofs.YtlfplmlehbomlaaDoorW.PrintLast Go.Proofs.YtlfplmlehbomlaaDoorW.PrintMore
def zY (s : ByteArray) : Bool := I.namedS I.kUser s 64
theorem isuser_calls (s : ByteArray) (w : World) (hs : s.size ≤ 140737488351232) : Calls Tryd.prog 12 #[.string s] w fun e w' => e = .returned (.bool (zY s)) ∧ Below w.heap.size w w' := I.user_calls s w hs
theorem risuser_calls (s : ByteArray) (w : World) (hs : s.size ≤ 140737488351232) : Calls Tryd.prog 16 #[.string s] w fun e w' => e = .returned (.bool (zY s)) ∧ Below w.heap.size w w' :=
  (hustingsref10_User.calls (s.size * 20 + 20) s (zY s) w (by rw [I.ref_user s _ hs (Nat.le_refl _)]; unfold zY; rw [I.namedS_L])).mono (by
    rintro e w' ⟨h, m, rfl⟩
    exact ⟨h, zX (Below.refl _ _) m⟩)
theorem row_str {w : World} {g : Nat} {s : ByteArray} {t : TypeId} (h : Row w g () 1 (lsc [.s s]) t) : w.cell? ⟨g, 0, none⟩ = some (.string s) := h.cell 0 (by decide)
def badV (key : ByteArray) (x : T) (k : Nat) : Bool := ((x.mem k).kind != 2) || (decide (key = k_users) && !zY (x.key k))
theorem bool_ret {b c : Bool} (h : c = b) : Ending.returned (.bool b) = .returned (.bool c) := by rw [h]
theorem law_ret {b : Bool} (h : b = true) : Ending.returned (.bool b) = .returned (.bool true) := by rw [h]
def ent (i : Nat) : List SC := [.s (NM i), .i .i64 (LV i)]
theorem Tab.at {W : World} {a : Addr} (h : ∀ i, i < 7 → W.cell? (a.add (i * 2)) = some (.string (NM i)) ∧ W.cell? (a.add (i * 2 + 1)) = some (.int .i64 (LV i))) {i : Nat} (hi : i < 7) : ∀ j, j < 2 → W.cell? ((a.add (i * 2)).add j) = some (mkc () (lsc (ent i) j)) := by
  intro j hj
  rw [Go.Deep.add_add]
  match j, hj with
  | 0, _ => exact (h i hi).1
  | 1, _ => exact (h i hi).2
theorem Tab.below {W W' : World} (h : Tab W) (hb : Below W.heap.size W W') : Tab W' := by
  obtain ⟨a, c, h1, h2⟩ := h
  exact ⟨a, c, bel_kept hb _ _ h1, fun i hi => ⟨bel_kept hb _ _ (h2 i hi).1, bel_kept hb _ _ (h2 i hi).2⟩⟩
theorem tt_below {W W' : World} {a : Addr} (h : ∀ i, i < 7 → W.cell? (a.add (i * 2)) = some (.string (NM i)) ∧ W.cell? (a.add (i * 2 + 1)) = some (.int .i64 (LV i))) (hb : Below W.heap.size W W') : ∀ i, i < 7 → W'.cell? (a.add (i * 2)) = some (.string (NM i)) ∧ W'.cell? (a.add (i * 2 + 1)) = some (.int .i64 (LV i)) :=
  fun i hi => ⟨bel_kept hb _ _ (h i hi).1, bel_kept hb _ _ (h i hi).2⟩
theorem valid1_calls {w : World} {ad : Addr} (k key : ByteArray) (m : T) (hk : k.size ≤ 140737488351232) (hc : w.cell? ad = some (.string key)) : Calls Tryd.prog 11 #[.agg (FR () 7 (msc (k) (m))), .pointer (some (ad))] w fun e w' => e = .returned (.bool ((m.kind != 2) || (decide (key = k_users) && !zY k))) ∧ Below w.heap.size w w' := by
  refine enter_ 18 Tryd.func11 rfl rfl (fun a0 hS => ?_)
  have HS0 : Sl a0 18 [(0, .agg (FR () 7 (msc (k) (m)))), (1, .pointer (some (ad)))] := hS
  have HH0 : Held w w [] := Held.first w
  clear hS
  refine wp_seq ?_
  have hLo : LOk [(0, 2, .new 0 (fun g => .pointer (some ⟨g, 0, none⟩))), (1, 3, .val (.bool false))] := lok (by rfl) (by rfl)
  refine zK (wE := w) (sz := 18) (n := 2) [0, 1] [(0, .val (.agg (FR () 7 (msc (k) (m))))), (1, .val (.pointer (some (ad)))), (2, .new 0 (fun g => .pointer (some ⟨g, 0, none⟩))), (3, .val (.bool false))] [(0, 2, .new 0 (fun g => .pointer (some ⟨g, 0, none⟩))), (1, 3, .val (.bool false))] [⟨0, some 0, none, (), 7, msc (k) (m), msc (k) (m), 36⟩] rfl (by rfl) HH0 rfl rfl hLo rfl HS0 (slS 0 rfl rfl (slS 1 rfl rfl (slL 0 (d := 0) rfl (slL 1 (d := 1) rfl (trivial))))) ?_ ?_
  · show ∀ i ∈ [0, 1], _
    refine zA (st_alloc 0 0 () 7 36 none _ _ rfl rfl (fun _ _ _ _ => rfl) rfl hLo rfl rfl rfl rfl (by rfl) (fun b G w hb ho => exec_box rfl (zG rfl (HS0.get 0 rfl)) (by kernel_rfl))) ?_
    refine zA (zC 1 _ rfl rfl hLo rfl rfl (fun _ _ _ _ => rfl) (fun b G w hb ho => zD (.inr rfl) (rfl))) ?_
    exact zF
  clear hLo
  intro G a1 w1 hS hH
  have HS1 : Sl a1 18 [(0, .agg (FR () 7 (msc (k) (m)))), (1, .pointer (some (ad))), (2, .pointer (some ⟨(G 0), 0, none⟩)), (3, .bool false)] := hS
  have HH1 : Held w w1 [⟨(G 0), (), 7, msc (k) (m), 36⟩] := hH
  clear hS hH HS0 HH0
  generalize G 0 = g1_0 at HS1 HH1
  refine then_ ?_
  obtain ⟨r1, hr1⟩ : ∃ r : Bool, ((((m).kind : Int) != 2)) = r := ⟨_, rfl⟩
  cases r1
  · skip
    obtain ⟨r2, hr2⟩ : ∃ r : Bool, (decide ((key : ByteArray) = k_users)) = r := ⟨_, rfl⟩
    cases r2
    · skip
      refine wp_seq ?_
      have hLo : LOk [(0, 4, .val (.pointer (some ⟨g1_0, 1, none⟩))), (1, 5, .val (.pointer (some ⟨g1_0, 1, none⟩))), (2, 6, .val (.int .i64 ((m).kind))), (3, 7, .val (.bool false)), (4, 8, .val (.bool false)), (5, 9, .val (.string (key))), (6, 10, .val (.bool false)), (7, 11, .val (.bool false)), (8, 12, .val (undef)), (9, 13, .val (undef)), (10, 14, .val (undef)), (11, 15, .val (undef)), (12, 16, .val (.bool false)), (13, 17, .val (.bool false)), (14, 3, .val (.bool false))] := lok (by rfl) (by rfl)
      refine zK (wE := w) (sz := 18) (n := 15) [0, 1, 3, 7, 15, 31, 63, 127, 255, 511, 1023, 2047, 4095, 8191, 16383] [(0, .val (.agg (FR () 7 (msc (k) (m))))), (1, .val (.pointer (some (ad)))), (2, .val (.pointer (some ⟨g1_0, 0, none⟩))), (3, .val (.bool false))] [(0, 4, .val (.pointer (some ⟨g1_0, 1, none⟩))), (1, 5, .val (.pointer (some ⟨g1_0, 1, none⟩))), (2, 6, .val (.int .i64 ((m).kind))), (3, 7, .val (.bool false)), (4, 8, .val (.bool false)), (5, 9, .val (.string (key))), (6, 10, .val (.bool false)), (7, 11, .val (.bool false)), (8, 12, .val (undef)), (9, 13, .val (undef)), (10, 14, .val (undef)), (11, 15, .val (undef)), (12, 16, .val (.bool false)), (13, 17, .val (.bool false)), (14, 3, .val (.bool false))] [⟨g1_0, none, none, (), 7, msc (k) (m), msc (k) (m), 36⟩] rfl (by rfl) HH1 rfl rfl hLo rfl HS1 (slS 0 rfl rfl (slS 1 rfl rfl (slS 2 rfl rfl (slL 14 (d := 14) rfl (trivial))))) ?_ ?_
      · show ∀ i ∈ [0, 1, 2, 3, 4, 5, 6, 7, 8, 9, 10, 11, 12, 13, 14], _
        refine zA (zC 0 _ rfl rfl hLo rfl rfl (fun _ _ _ _ => rfl) (fun b G w hb ho => zH rfl (zG rfl (HS1.get 2 rfl)) (by kernel_rfl))) ?_
        refine zA (zC 1 _ rfl rfl hLo rfl rfl (fun _ _ _ _ => rfl) (fun b G w hb ho => zH rfl (zB hLo 0 rfl HS1.1 rfl (hb 0 (by rfl))) (by kernel_rfl))) ?_
        refine zA (zW 2 0 _ _ rfl rfl rfl hLo rfl rfl (fun _ _ _ _ => rfl) (by rfl) (by rfl) (fun b G w hb ho hr => zP hr (Nat.le_of_ble_eq_true rfl) Tryd.underlying3 rfl rfl (zB hLo 1 rfl HS1.1 rfl (hb 1 (by rfl))))) ?_
        refine zA (zC 3 _ rfl rfl hLo rfl rfl (fun _ _ _ _ => rfl) (fun b G w hb ho => zJ rfl (zB hLo 2 rfl HS1.1 rfl (hb 2 (by rfl))) (rfl) (rb_neq hr1 _ _ _))) ?_
        refine zA (zC 4 _ rfl rfl hLo rfl rfl (fun _ _ _ _ => rfl) (fun b G w hb ho => zD (.inl rfl) (zB hLo 3 rfl HS1.1 rfl (hb 3 (by rfl))))) ?_
        refine zA (st_at1 5 (ad) _ rfl rfl rfl (fun b G hb ho => zE rfl rfl rfl HS1.1 rfl (zB hLo 4 rfl HS1.1 rfl (hb 4 (by rfl))) rfl) hLo rfl rfl Tryd.underlying9 rfl (hc) (fun b G hb ho => zG rfl (HS1.get 1 rfl))) ?_
        refine zA (zC 6 _ rfl rfl hLo rfl rfl (fun b G hb ho => zE rfl rfl rfl HS1.1 rfl (zB hLo 4 rfl HS1.1 rfl (hb 4 (by rfl))) rfl) (fun b G w hb ho => zJ rfl (zB hLo 5 rfl HS1.1 rfl (hb 5 (by rfl))) (rfl) (rb_seql hr2 _ _ _))) ?_
        refine zA (zC 7 _ rfl rfl hLo rfl rfl (fun b G hb ho => zE rfl rfl rfl HS1.1 rfl (zB hLo 4 rfl HS1.1 rfl (hb 4 (by rfl))) rfl) (fun b G w hb ho => zD (.inl rfl) (zB hLo 6 rfl HS1.1 rfl (hb 6 (by rfl))))) ?_
        refine zA (zL 8 rfl rfl hLo rfl rfl (fun b G hb ho => zE rfl rfl rfl HS1.1 rfl (zB hLo 7 rfl HS1.1 rfl (hb 7 (by rfl))) rfl)) ?_
        refine zA (zL 9 rfl rfl hLo rfl rfl (fun b G hb ho => zE rfl rfl rfl HS1.1 rfl (zB hLo 7 rfl HS1.1 rfl (hb 7 (by rfl))) rfl)) ?_
        refine zA (zL 10 rfl rfl hLo rfl rfl (fun b G hb ho => zE rfl rfl rfl HS1.1 rfl (zB hLo 7 rfl HS1.1 rfl (hb 7 (by rfl))) rfl)) ?_
        refine zA (zL 11 rfl rfl hLo rfl rfl (fun b G hb ho => zE rfl rfl rfl HS1.1 rfl (zB hLo 7 rfl HS1.1 rfl (hb 7 (by rfl))) rfl)) ?_
        refine zA (zC 12 _ rfl rfl hLo rfl rfl (fun b G hb ho => zE rfl rfl rfl HS1.1 rfl (zB hLo 4 rfl HS1.1 rfl (hb 4 (by rfl))) rfl) (fun b G w hb ho => zO rfl (zB hLo 7 rfl HS1.1 rfl (hb 7 (by rfl))) (rfl))) ?_
        refine zA (zC 13 _ rfl rfl hLo rfl rfl (fun _ _ _ _ => rfl) (fun b G w hb ho => zO rfl (zB hLo 4 rfl HS1.1 rfl (hb 4 (by rfl))) (zB hLo 12 rfl HS1.1 rfl (hb 12 (by rfl))))) ?_
        refine zA (zC 14 _ rfl rfl hLo rfl rfl (fun _ _ _ _ => rfl) (fun b G w hb ho => zD (.inr rfl) (zB hLo 13 rfl HS1.1 rfl (hb 13 (by rfl))))) ?_
        exact zF
      clear hLo
      intro G a2 w2 hS hH
      have HS2 : Sl a2 18 [(0, .agg (FR () 7 (msc (k) (m)))), (1, .pointer (some (ad))), (2, .pointer (some ⟨g1_0, 0, none⟩)), (3, .bool false)] := hS
      have HH2 : Held w w2 [⟨g1_0, (), 7, msc (k) (m), 36⟩] := hH
      clear hS hH HS1 HH1
      refine then_ ?_
      refine wp_ret ?_
      repeat (first | refine zS ?_ | refine zM ?_)
      exact b_tmp rfl HS2.2.1 (HS2.get 3 rfl) ⟨bool_ret (by simp only [hr1, hr2]; try rfl), HH2.1⟩
    · skip
      obtain ⟨r3, hr3⟩ : ∃ r : Bool, (zY (k)) = r := ⟨_, rfl⟩
      refine wp_seq ?_
      have hLo : LOk [(0, 4, .val (.pointer (some ⟨g1_0, 1, none⟩))), (1, 5, .val (.pointer (some ⟨g1_0, 1, none⟩))), (2, 6, .val (.int .i64 ((m).kind))), (3, 7, .val (.bool false)), (4, 8, .val (.bool false)), (5, 9, .val (.string (key))), (6, 10, .val (.bool true)), (7, 11, .val (.bool true)), (8, 12, .val (.pointer (some ⟨g1_0, 0, none⟩))), (9, 13, .val (.string (k))), (10, 14, .val (.bool r3)), (11, 15, .val (.bool (!r3))), (12, 16, .val (.bool (!r3))), (13, 17, .val (.bool (!r3))), (14, 3, .val (.bool (!r3)))] := lok (by rfl) (by rfl)
      refine zK (wE := w) (sz := 18) (n := 15) [0, 1, 3, 7, 15, 31, 63, 127, 255, 511, 1023, 2047, 4095, 8191, 16383] [(0, .val (.agg (FR () 7 (msc (k) (m))))), (1, .val (.pointer (some (ad)))), (2, .val (.pointer (some ⟨g1_0, 0, none⟩))), (3, .val (.bool (!r3)))] [(0, 4, .val (.pointer (some ⟨g1_0, 1, none⟩))), (1, 5, .val (.pointer (some ⟨g1_0, 1, none⟩))), (2, 6, .val (.int .i64 ((m).kind))), (3, 7, .val (.bool false)), (4, 8, .val (.bool false)), (5, 9, .val (.string (key))), (6, 10, .val (.bool true)), (7, 11, .val (.bool true)), (8, 12, .val (.pointer (some ⟨g1_0, 0, none⟩))), (9, 13, .val (.string (k))), (10, 14, .val (.bool r3)), (11, 15, .val (.bool (!r3))), (12, 16, .val (.bool (!r3))), (13, 17, .val (.bool (!r3))), (14, 3, .val (.bool (!r3)))] [⟨g1_0, none, none, (), 7, msc (k) (m), msc (k) (m), 36⟩] rfl (by rfl) HH1 rfl rfl hLo rfl HS1 (slS 0 rfl rfl (slS 1 rfl rfl (slS 2 rfl rfl (slL 14 (d := 14) rfl (trivial))))) ?_ ?_
      · show ∀ i ∈ [0, 1, 2, 3, 4, 5, 6, 7, 8, 9, 10, 11, 12, 13, 14], _
        refine zA (zC 0 _ rfl rfl hLo rfl rfl (fun _ _ _ _ => rfl) (fun b G w hb ho => zH rfl (zG rfl (HS1.get 2 rfl)) (by kernel_rfl))) ?_
        refine zA (zC 1 _ rfl rfl hLo rfl rfl (fun _ _ _ _ => rfl) (fun b G w hb ho => zH rfl (zB hLo 0 rfl HS1.1 rfl (hb 0 (by rfl))) (by kernel_rfl))) ?_
        refine zA (zW 2 0 _ _ rfl rfl rfl hLo rfl rfl (fun _ _ _ _ => rfl) (by rfl) (by rfl) (fun b G w hb ho hr => zP hr (Nat.le_of_ble_eq_true rfl) Tryd.underlying3 rfl rfl (zB hLo 1 rfl HS1.1 rfl (hb 1 (by rfl))))) ?_
        refine zA (zC 3 _ rfl rfl hLo rfl rfl (fun _ _ _ _ => rfl) (fun b G w hb ho => zJ rfl (zB hLo 2 rfl HS1.1 rfl (hb 2 (by rfl))) (rfl) (rb_neq hr1 _ _ _))) ?_
        refine zA (zC 4 _ rfl rfl hLo rfl rfl (fun _ _ _ _ => rfl) (fun b G w hb ho => zD (.inl rfl) (zB hLo 3 rfl HS1.1 rfl (hb 3 (by rfl))))) ?_
        refine zA (st_at1 5 (ad) _ rfl rfl rfl (fun b G hb ho => zE rfl rfl rfl HS1.1 rfl (zB hLo 4 rfl HS1.1 rfl (hb 4 (by rfl))) rfl) hLo rfl rfl Tryd.underlying9 rfl (hc) (fun b G hb ho => zG rfl (HS1.get 1 rfl))) ?_
        refine zA (zC 6 _ rfl rfl hLo rfl rfl (fun b G hb ho => zE rfl rfl rfl HS1.1 rfl (zB hLo 4 rfl HS1.1 rfl (hb 4 (by rfl))) rfl) (fun b G w hb ho => zJ rfl (zB hLo 5 rfl HS1.1 rfl (hb 5 (by rfl))) (rfl) (rb_seql hr2 _ _ _))) ?_
        refine zA (zC 7 _ rfl rfl hLo rfl rfl (fun b G hb ho => zE rfl rfl rfl HS1.1 rfl (zB hLo 4 rfl HS1.1 rfl (hb 4 (by rfl))) rfl) (fun b G w hb ho => zD (.inl rfl) (zB hLo 6 rfl HS1.1 rfl (hb 6 (by rfl))))) ?_
        refine zA (zC 8 _ rfl rfl hLo rfl rfl (fun b G hb ho => zE rfl rfl rfl HS1.1 rfl (zB hLo 7 rfl HS1.1 rfl (hb 7 (by rfl))) rfl) (fun b G w hb ho => zH rfl (zG rfl (HS1.get 2 rfl)) (by kernel_rfl))) ?_
        refine zA (zW 9 0 _ _ rfl rfl rfl hLo rfl rfl (fun b G hb ho => zE rfl rfl rfl HS1.1 rfl (zB hLo 7 rfl HS1.1 rfl (hb 7 (by rfl))) rfl) (by rfl) (by rfl) (fun b G w hb ho hr => zP hr (Nat.le_of_ble_eq_true rfl) Tryd.underlying9 rfl rfl (zB hLo 8 rfl HS1.1 rfl (hb 8 (by rfl))))) ?_
        refine zA (st_call 10 _ #[.string (k)] rfl rfl rfl (fun b G hb ho => zE rfl rfl rfl HS1.1 rfl (zB hLo 7 rfl HS1.1 rfl (hb 7 (by rfl))) rfl) hLo rfl rfl Tryd.func12 rfl rfl (fun b G hb ho => args1 (zB hLo 9 rfl HS1.1 rfl (hb 9 (by rfl)))) (fun w hw => (by have hq := isuser_calls (k) w hk; rw [hr3] at hq; exact hq))) ?_
        refine zA (zC 11 _ rfl rfl hLo rfl rfl (fun b G hb ho => zE rfl rfl rfl HS1.1 rfl (zB hLo 7 rfl HS1.1 rfl (hb 7 (by rfl))) rfl) (fun b G w hb ho => exec_un rfl (zB hLo 10 rfl HS1.1 rfl (hb 10 (by rfl))) (ru_not _))) ?_
        refine zA (zC 12 _ rfl rfl hLo rfl rfl (fun b G hb ho => zE rfl rfl rfl HS1.1 rfl (zB hLo 4 rfl HS1.1 rfl (hb 4 (by rfl))) rfl) (fun b G w hb ho => zO rfl (zB hLo 7 rfl HS1.1 rfl (hb 7 (by rfl))) (zB hLo 11 rfl HS1.1 rfl (hb 11 (by rfl))))) ?_
        refine zA (zC 13 _ rfl rfl hLo rfl rfl (fun _ _ _ _ => rfl) (fun b G w hb ho => zO rfl (zB hLo 4 rfl HS1.1 rfl (hb 4 (by rfl))) (zB hLo 12 rfl HS1.1 rfl (hb 12 (by rfl))))) ?_
        refine zA (zC 14 _ rfl rfl hLo rfl rfl (fun _ _ _ _ => rfl) (fun b G w hb ho => zD (.inr rfl) (zB hLo 13 rfl HS1.1 rfl (hb 13 (by rfl))))) ?_
        exact zF
      clear hLo
      intro G a3 w3 hS hH
      have HS3 : Sl a3 18 [(0, .agg (FR () 7 (msc (k) (m)))), (1, .pointer (some (ad))), (2, .pointer (some ⟨g1_0, 0, none⟩)), (3, .bool (!r3))] := hS
      have HH3 : Held w w3 [⟨g1_0, (), 7, msc (k) (m), 36⟩] := hH
      clear hS hH HS1 HH1
      refine then_ ?_
      refine wp_ret ?_
      repeat (first | refine zS ?_ | refine zM ?_)
      exact b_tmp rfl HS3.2.1 (HS3.get 3 rfl) ⟨bool_ret (by simp only [hr1, hr2, hr3]; try rfl), HH3.1⟩
  · skip
    refine wp_seq ?_
    have hLo : LOk [(0, 4, .val (.pointer (some ⟨g1_0, 1, none⟩))), (1, 5, .val (.pointer (some ⟨g1_0, 1, none⟩))), (2, 6, .val (.int .i64 ((m).kind))), (3, 7, .val (.bool true)), (4, 8, .val (.bool true)), (5, 9, .val (undef)), (6, 10, .val (undef)), (7, 11, .val (undef)), (8, 12, .val (undef)), (9, 13, .val (undef)), (10, 14, .val (undef)), (11, 15, .val (undef)), (12, 16, .val (undef)), (13, 17, .val (.bool true)), (14, 3, .val (.bool true))] := lok (by rfl) (by rfl)
    refine zK (wE := w) (sz := 18) (n := 15) [0, 1, 3, 7, 15, 31, 63, 127, 255, 511, 1023, 2047, 4095, 8191, 16383] [(0, .val (.agg (FR () 7 (msc (k) (m))))), (1, .val (.pointer (some (ad)))), (2, .val (.pointer (some ⟨g1_0, 0, none⟩))), (3, .val (.bool true))] [(0, 4, .val (.pointer (some ⟨g1_0, 1, none⟩))), (1, 5, .val (.pointer (some ⟨g1_0, 1, none⟩))), (2, 6, .val (.int .i64 ((m).kind))), (3, 7, .val (.bool true)), (4, 8, .val (.bool true)), (5, 9, .val (undef)), (6, 10, .val (undef)), (7, 11, .val (undef)), (8, 12, .val (undef)), (9, 13, .val (undef)), (10, 14, .val (undef)), (11, 15, .val (undef)), (12, 16, .val (undef)), (13, 17, .val (.bool true)), (14, 3, .val (.bool true))] [⟨g1_0, none, none, (), 7, msc (k) (m), msc (k) (m), 36⟩] rfl (by rfl) HH1 rfl rfl hLo rfl HS1 (slS 0 rfl rfl (slS 1 rfl rfl (slS 2 rfl rfl (slL 14 (d := 14) rfl (trivial))))) ?_ ?_
    · show ∀ i ∈ [0, 1, 2, 3, 4, 5, 6, 7, 8, 9, 10, 11, 12, 13, 14], _
      refine zA (zC 0 _ rfl rfl hLo rfl rfl (fun _ _ _ _ => rfl) (fun b G w hb ho => zH rfl (zG rfl (HS1.get 2 rfl)) (by kernel_rfl))) ?_
      refine zA (zC 1 _ rfl rfl hLo rfl rfl (fun _ _ _ _ => rfl) (fun b G w hb ho => zH rfl (zB hLo 0 rfl HS1.1 rfl (hb 0 (by rfl))) (by kernel_rfl))) ?_
      refine zA (zW 2 0 _ _ rfl rfl rfl hLo rfl rfl (fun _ _ _ _ => rfl) (by rfl) (by rfl) (fun b G w hb ho hr => zP hr (Nat.le_of_ble_eq_true rfl) Tryd.underlying3 rfl rfl (zB hLo 1 rfl HS1.1 rfl (hb 1 (by rfl))))) ?_
      refine zA (zC 3 _ rfl rfl hLo rfl rfl (fun _ _ _ _ => rfl) (fun b G w hb ho => zJ rfl (zB hLo 2 rfl HS1.1 rfl (hb 2 (by rfl))) (rfl) (rb_neq hr1 _ _ _))) ?_
      refine zA (zC 4 _ rfl rfl hLo rfl rfl (fun _ _ _ _ => rfl) (fun b G w hb ho => zD (.inl rfl) (zB hLo 3 rfl HS1.1 rfl (hb 3 (by rfl))))) ?_
      refine zA (zL 5 rfl rfl hLo rfl rfl (fun b G hb ho => zE rfl rfl rfl HS1.1 rfl (zB hLo 4 rfl HS1.1 rfl (hb 4 (by rfl))) rfl)) ?_
      refine zA (zL 6 rfl rfl hLo rfl rfl (fun b G hb ho => zE rfl rfl rfl HS1.1 rfl (zB hLo 4 rfl HS1.1 rfl (hb 4 (by rfl))) rfl)) ?_
      refine zA (zL 7 rfl rfl hLo rfl rfl (fun b G hb ho => zE rfl rfl rfl HS1.1 rfl (zB hLo 4 rfl HS1.1 rfl (hb 4 (by rfl))) rfl)) ?_
      refine zA (zL 8 rfl rfl hLo rfl rfl (fun b G hb ho => wanted_un rfl rfl rfl HS1.1 rfl (zB hLo 7 rfl HS1.1 rfl (hb 7 (by rfl))))) ?_
      refine zA (zL 9 rfl rfl hLo rfl rfl (fun b G hb ho => wanted_un rfl rfl rfl HS1.1 rfl (zB hLo 7 rfl HS1.1 rfl (hb 7 (by rfl))))) ?_
      refine zA (zL 10 rfl rfl hLo rfl rfl (fun b G hb ho => wanted_un rfl rfl rfl HS1.1 rfl (zB hLo 7 rfl HS1.1 rfl (hb 7 (by rfl))))) ?_
      refine zA (zL 11 rfl rfl hLo rfl rfl (fun b G hb ho => wanted_un rfl rfl rfl HS1.1 rfl (zB hLo 7 rfl HS1.1 rfl (hb 7 (by rfl))))) ?_
      refine zA (zL 12 rfl rfl hLo rfl rfl (fun b G hb ho => zE rfl rfl rfl HS1.1 rfl (zB hLo 4 rfl HS1.1 rfl (hb 4 (by rfl))) rfl)) ?_
      refine zA (zC 13 _ rfl rfl hLo rfl rfl (fun _ _ _ _ => rfl) (fun b G w hb ho => zO rfl (zB hLo 4 rfl HS1.1 rfl (hb 4 (by rfl))) (rfl))) ?_
      refine zA (zC 14 _ rfl rfl hLo rfl rfl (fun _ _ _ _ => rfl) (fun b G w hb ho => zD (.inr rfl) (zB hLo 13 rfl HS1.1 rfl (hb 13 (by rfl))))) ?_
      exact zF
    clear hLo
    intro G a4 w4 hS hH
    have HS4 : Sl a4 18 [(0, .agg (FR () 7 (msc (k) (m)))), (1, .pointer (some (ad))), (2, .pointer (some ⟨g1_0, 0, none⟩)), (3, .bool true)] := hS
    have HH4 : Held w w4 [⟨g1_0, (), 7, msc (k) (m), 36⟩] := hH
    clear hS hH HS1 HH1
    refine then_ ?_
    refine wp_ret ?_
    repeat (first | refine zS ?_ | refine zM ?_)
    exact b_tmp rfl HS4.2.1 (HS4.get 3 rfl) ⟨bool_ret (by simp only [hr1]; try rfl), HH4.1⟩
theorem ixm_calls {w : World} {ad : Addr} {x : T} (key : ByteArray) (hIn : In w x) (hc : w.cell? ad = some (.string key)) : Calls Tryd.prog 18 #[.slice (x.xm) (x.ml) (x.cm), .func (.func 11) #[] #[.pointer (some (ad))]] w fun e w' => (∃ z : Int, e = .returned (.int .i64 z) ∧ (allB (memV zY key x) x.ml = true → z < 0) ∧ (allB (memV zY key x) x.ml = false → 0 ≤ z)) ∧ Below w.heap.size w w' := by
  have hb47 := hIn.own.2.2.2.2.1
  unfold reach47 at hb47
  refine enter_ 19 Tryd.func18 rfl rfl (fun a0 hS => ?_)
  have HS0 : Sl a0 19 [(0, .slice (x.xm) (x.ml) (x.cm)), (1, .func (.func 11) #[] #[.pointer (some (ad))])] := hS
  have HH0 : Held w w [] := Held.first w
  clear hS
  refine wp_seq ?_
  have hLo : LOk [(0, 4, .val (.int .i64 (0)))] := lok (by rfl) (by rfl)
  refine zK (wE := w) (sz := 19) (n := 1) [0] [(0, .val (.slice (x.xm) (x.ml) (x.cm))), (1, .val (.func (.func 11) #[] #[.pointer (some (ad))])), (4, .val (.int .i64 (0)))] [(0, 4, .val (.int .i64 (0)))] [] rfl (by rfl) HH0 rfl rfl hLo rfl HS0 (slS 0 rfl rfl (slS 1 rfl rfl (slL 0 (d := 0) rfl (trivial)))) ?_ ?_
  · show ∀ i ∈ [0], _
    refine zA (zC 0 _ rfl rfl hLo rfl rfl (fun _ _ _ _ => rfl) (fun b G w hb ho => zD (.inr rfl) (rfl))) ?_
    exact zF
  clear hLo
  intro G a1 w1 hS hH
  have HS1 : Sl a1 19 [(0, .slice (x.xm) (x.ml) (x.cm)), (1, .func (.func 11) #[] #[.pointer (some (ad))]), (4, .int .i64 (0))] := hS
  have HH1 : Held w w1 [] := hH
  clear hS hH HS0 HH0
  refine then_ ?_
  refine wp_seq ?_
  refine wp_seq ?_
  have hLo : LOk [(0, 6, .val (.slice (x.xm) (x.ml) (x.cm))), (1, 7, .val (.int .i64 ((x.ml : Int)))), (2, 8, .val (.int .i64 (0)))] := lok (by rfl) (by rfl)
  refine zK (wE := w) (sz := 19) (n := 3) [0, 1, 3] [(0, .val (.slice (x.xm) (x.ml) (x.cm))), (1, .val (.func (.func 11) #[] #[.pointer (some (ad))])), (4, .val (.int .i64 (0))), (7, .val (.int .i64 ((x.ml : Int)))), (8, .val (.int .i64 (0)))] [(0, 6, .val (.slice (x.xm) (x.ml) (x.cm))), (1, 7, .val (.int .i64 ((x.ml : Int)))), (2, 8, .val (.int .i64 (0)))] [] rfl (by rfl) HH1 rfl rfl hLo rfl HS1 (slS 0 rfl rfl (slS 1 rfl rfl (slS 2 rfl rfl (slL 1 (d := 1) rfl (slL 2 (d := 2) rfl (trivial)))))) ?_ ?_
  · show ∀ i ∈ [0, 1, 2], _
    refine zA (zC 0 _ rfl rfl hLo rfl rfl (fun _ _ _ _ => rfl) (fun b G w hb ho => zD (.inl rfl) (zG rfl (HS1.get 0 rfl)))) ?_
    refine zA (zC 1 _ rfl rfl hLo rfl rfl (fun _ _ _ _ => rfl) (fun b G w hb ho => exec_lenL Tryd.underlying23 rfl (zB hLo 0 rfl HS1.1 rfl (hb 0 (by rfl))))) ?_
    refine zA (zC 2 _ rfl rfl hLo rfl rfl (fun _ _ _ _ => rfl) (fun b G w hb ho => zD (.inl rfl) (rfl))) ?_
    exact zF
  clear hLo
  intro G a2 w2 hS hH
  have HS2 : Sl a2 19 [(0, .slice (x.xm) (x.ml) (x.cm)), (1, .func (.func 11) #[] #[.pointer (some (ad))]), (4, .int .i64 (0)), (7, .int .i64 ((x.ml : Int))), (8, .int .i64 (0))] := hS
  have HH2 : Held w w2 [] := hH
  clear hS hH HS1 HH1
  refine then_ ?_
  refine wp_block ?_
  have hSq0 : Sl _ 19 [(0, .slice (x.xm) (x.ml) (x.cm)), (1, .func (.func 11) #[] #[.pointer (some (ad))]), (7, .int .i64 ((x.ml : Int))), (8, .int .i64 (0))] := sl_keep HS2 [0, 1, 3, 4] (by rfl)
  refine wp_loop (fun a w' => ∃ i : Nat, i ≤ x.ml ∧ allB (memV zY key x) i = true ∧ Sl a 19 [(0, .slice (x.xm) (x.ml) (x.cm)), (1, .func (.func 11) #[] #[.pointer (some (ad))]), (7, .int .i64 ((x.ml : Int))), (8, .int .i64 ((i : Int)))] ∧ Held w w' []) (fun a w' => x.ml - (intOf (a.eval (.tmp 8))).toNat) ⟨0, Nat.zero_le _, rfl, hSq0, HH2⟩ ?_
  clear hSq0 HS2 HH2
  rintro aq0 wq0 ⟨i, hi, hL, HSq0, HHq0⟩
  have hm : (intOf (aq0.eval (.tmp 8))).toNat = i := by rw [(HSq0.get 3 rfl)]; rfl
  rw [hm]
  clear hm
  obtain ⟨r1, hr1⟩ : ∃ r : Bool, (decide (((i : Int) : Int) < (x.ml : Int))) = r := ⟨_, rfl⟩
  refine wp_seq ?_
  have hLo : LOk [(0, 9, .val (.bool r1))] := lok (by rfl) (by rfl)
  refine zK (wE := w) (sz := 19) (n := 1) [0] [(0, .val (.slice (x.xm) (x.ml) (x.cm))), (1, .val (.func (.func 11) #[] #[.pointer (some (ad))])), (7, .val (.int .i64 ((x.ml : Int)))), (8, .val (.int .i64 ((i : Int)))), (9, .val (.bool r1))] [(0, 9, .val (.bool r1))] [] rfl (by rfl) HHq0 rfl rfl hLo rfl HSq0 (slS 0 rfl rfl (slS 1 rfl rfl (slS 2 rfl rfl (slS 3 rfl rfl (slL 0 (d := 0) rfl (trivial)))))) ?_ ?_
  · show ∀ i ∈ [0], _
    refine zA (zC 0 _ rfl rfl hLo rfl rfl (fun _ _ _ _ => rfl) (fun b G w hb ho => zJ rfl (zG rfl (HSq0.get 3 rfl)) (zG rfl (HSq0.get 2 rfl)) (rb_lss hr1 _ _ _))) ?_
    exact zF
  clear hLo
  intro G a3 w3 hS hH
  have HS3 : Sl a3 19 [(0, .slice (x.xm) (x.ml) (x.cm)), (1, .func (.func 11) #[] #[.pointer (some (ad))]), (7, .int .i64 ((x.ml : Int))), (8, .int .i64 ((i : Int))), (9, .bool r1)] := hS
  have HH3 : Held w w3 [] := hH
  clear hS hH HSq0 HHq0
  refine then_ ?_
  refine wp_seq ?_
  cases r1
  · skip
    have hend : i = x.ml := by have := of_decide_eq_false hr1; omega
    rw [hend] at hL
    refine wp_cond_false (HS3.get 4 rfl) ?_
    refine wp_exit ?_
    refine zV ?_
    refine zV ?_
    refine inBlock_exit ?_
    refine then_ ?_
    refine wp_seq ?_
    have hLo : LOk [(0, 4, .val (.int .i64 (-1)))] := lok (by rfl) (by rfl)
    refine zK (wE := w) (sz := 19) (n := 1) [0] [(0, .val (.slice (x.xm) (x.ml) (x.cm))), (1, .val (.func (.func 11) #[] #[.pointer (some (ad))])), (7, .val (.int .i64 ((x.ml : Int)))), (8, .val (.int .i64 ((i : Int)))), (9, .val (.bool false)), (4, .val (.int .i64 (-1)))] [(0, 4, .val (.int .i64 (-1)))] [] rfl (by rfl) HH3 rfl rfl hLo rfl HS3 (slS 0 rfl rfl (slS 1 rfl rfl (slS 2 rfl rfl (slS 3 rfl rfl (slS 4 rfl rfl (slL 0 (d := 0) rfl (trivial))))))) ?_ ?_
    · show ∀ i ∈ [0], _
      refine zA (zC 0 _ rfl rfl hLo rfl rfl (fun _ _ _ _ => rfl) (fun b G w hb ho => zD (.inr rfl) (rfl))) ?_
      exact zF
    clear hLo
    intro G a4 w4 hS hH
    have HS4 : Sl a4 19 [(0, .slice (x.xm) (x.ml) (x.cm)), (1, .func (.func 11) #[] #[.pointer (some (ad))]), (7, .int .i64 ((x.ml : Int))), (8, .int .i64 ((i : Int))), (9, .bool false), (4, .int .i64 (-1))] := hS
    have HH4 : Held w w4 [] := hH
    clear hS hH HS3 HH3
    refine then_ ?_
    refine wp_ret ?_
    repeat (first | refine zS ?_ | refine zM ?_)
    exact b_tmp rfl HS4.2.1 (HS4.get 5 rfl) ⟨⟨-1, rfl, (fun _ => by decide), (fun q => by rw [hL] at q; cases q)⟩, HH4.1⟩
  · skip
    have hlt : i < x.ml := by have := of_decide_eq_true hr1; omega
    refine wp_cond_true (HS3.get 4 rfl) ?_
    refine wp_skip ?_
    refine then_ ?_
    refine wp_seq ?_
    refine wp_block ?_
    refine wp_seq ?_
    have hLo : LOk [(0, 10, .val (.int .i64 ((i : Int)))), (1, 5, .val (.int .i64 ((i : Int))))] := lok (by rfl) (by rfl)
    refine zK (wE := w) (sz := 19) (n := 2) [0, 1] [(0, .val (.slice (x.xm) (x.ml) (x.cm))), (1, .val (.func (.func 11) #[] #[.pointer (some (ad))])), (7, .val (.int .i64 ((x.ml : Int)))), (8, .val (.int .i64 ((i : Int)))), (9, .val (.bool true)), (5, .val (.int .i64 ((i : Int))))] [(0, 10, .val (.int .i64 ((i : Int)))), (1, 5, .val (.int .i64 ((i : Int))))] [] rfl (by rfl) HH3 rfl rfl hLo rfl HS3 (slS 0 rfl rfl (slS 1 rfl rfl (slS 2 rfl rfl (slS 3 rfl rfl (slS 4 rfl rfl (slL 1 (d := 1) rfl (trivial))))))) ?_ ?_
    · show ∀ i ∈ [0, 1], _
      refine zA (zC 0 _ rfl rfl hLo rfl rfl (fun _ _ _ _ => rfl) (fun b G w hb ho => zD (.inl rfl) (zG rfl (HS3.get 3 rfl)))) ?_
      refine zA (zC 1 _ rfl rfl hLo rfl rfl (fun _ _ _ _ => rfl) (fun b G w hb ho => zD (.inr rfl) (zB hLo 0 rfl HS3.1 rfl (hb 0 (by rfl))))) ?_
      exact zF
    clear hLo
    intro G a5 w5 hS hH
    have HS5 : Sl a5 19 [(0, .slice (x.xm) (x.ml) (x.cm)), (1, .func (.func 11) #[] #[.pointer (some (ad))]), (7, .int .i64 ((x.ml : Int))), (8, .int .i64 ((i : Int))), (9, .bool true), (5, .int .i64 ((i : Int)))] := hS
    have HH5 : Held w w5 [] := hH
    clear hS hH HS3 HH3
    refine then_ ?_
    obtain ⟨⟨a1, hx1, hk1, hv1⟩, _, _⟩ := (hIn).mems (i := i) (hlt)
    obtain ⟨r2, hr2⟩ : ∃ r : Bool, (badV key x i) = r := ⟨_, rfl⟩
    refine wp_seq ?_
    have hLo : LOk [(0, 11, .val (.func (.func 11) #[] #[.pointer (some (ad))])), (1, 12, .val (.slice (x.xm) (x.ml) (x.cm))), (2, 13, .val (.int .i64 ((i : Int)))), (3, 14, .val (.pointer (some (a1.add (i * 7))))), (4, 15, .val (.agg (FR () 7 (msc ((x).key (i)) ((x).mem (i)))))), (5, 16, .val (.bool r2))] := lok (by rfl) (by rfl)
    refine zK (wE := w) (sz := 19) (n := 6) [0, 1, 3, 7, 15, 31] [(0, .val (.slice (x.xm) (x.ml) (x.cm))), (1, .val (.func (.func 11) #[] #[.pointer (some (ad))])), (7, .val (.int .i64 ((x.ml : Int)))), (8, .val (.int .i64 ((i : Int)))), (9, .val (.bool true)), (5, .val (.int .i64 ((i : Int)))), (16, .val (.bool r2))] [(0, 11, .val (.func (.func 11) #[] #[.pointer (some (ad))])), (1, 12, .val (.slice (x.xm) (x.ml) (x.cm))), (2, 13, .val (.int .i64 ((i : Int)))), (3, 14, .val (.pointer (some (a1.add (i * 7))))), (4, 15, .val (.agg (FR () 7 (msc ((x).key (i)) ((x).mem (i)))))), (5, 16, .val (.bool r2))] [] rfl (by rfl) HH5 rfl rfl hLo rfl HS5 (slS 0 rfl rfl (slS 1 rfl rfl (slS 2 rfl rfl (slS 3 rfl rfl (slS 4 rfl rfl (slS 5 rfl rfl (slL 5 (d := 5) rfl (trivial)))))))) ?_ ?_
    · show ∀ i ∈ [0, 1, 2, 3, 4, 5], _
      refine zA (zC 0 _ rfl rfl hLo rfl rfl (fun _ _ _ _ => rfl) (fun b G w hb ho => zD (.inl rfl) (zG rfl (HS5.get 1 rfl)))) ?_
      refine zA (zC 1 _ rfl rfl hLo rfl rfl (fun _ _ _ _ => rfl) (fun b G w hb ho => zD (.inl rfl) (zG rfl (HS5.get 0 rfl)))) ?_
      refine zA (zC 2 _ rfl rfl hLo rfl rfl (fun _ _ _ _ => rfl) (fun b G w hb ho => zD (.inl rfl) (zG rfl (HS5.get 5 rfl)))) ?_
      refine zA (zC 3 _ rfl rfl hLo rfl rfl (fun _ _ _ _ => rfl) (fun b G w hb ho => zU rfl (zB hLo 1 rfl HS5.1 rfl (hb 1 (by rfl))) (zB hLo 2 rfl HS5.1 rfl (hb 2 (by rfl))) (index_sl Tryd.underlying23 (by kernel_rfl) hx1 (hlt) _))) ?_
      refine zA (st_at 4 (a1.add (i * 7)) rfl rfl rfl (fun _ _ _ _ => rfl) hLo rfl rfl Tryd.underlying36 (by kernel_rfl) rfl (at7 hk1 hv1) (fun b G hb ho => zB hLo 3 rfl HS5.1 rfl (hb 3 (by rfl)))) ?_
      refine zA (st_callV 5 _ #[.agg (FR () 7 (msc ((x).key (i)) ((x).mem (i))))] #[.pointer (some (ad))] rfl rfl rfl (fun _ _ _ _ => rfl) hLo rfl rfl Tryd.func11 rfl rfl (fun b G hb ho => zB hLo 0 rfl HS5.1 rfl (hb 0 (by rfl))) (fun b G hb ho => args1 (zB hLo 4 rfl HS5.1 rfl (hb 4 (by rfl)))) (fun w hw => (by have hq := valid1_calls ((x).key (i)) key ((x).mem (i)) (hIn.mems hlt).2.1 (bel_kept hw _ _ hc); rw [show ((((x).mem (i)).kind != 2) || (decide (key = k_users) && !zY ((x).key (i)))) = badV key x i from rfl, hr2] at hq; exact hq))) ?_
      exact zF
    clear hLo
    intro G a6 w6 hS hH
    have HS6 : Sl a6 19 [(0, .slice (x.xm) (x.ml) (x.cm)), (1, .func (.func 11) #[] #[.pointer (some (ad))]), (7, .int .i64 ((x.ml : Int))), (8, .int .i64 ((i : Int))), (9, .bool true), (5, .int .i64 ((i : Int))), (16, .bool r2)] := hS
    have HH6 : Held w w6 [] := hH
    clear hS hH HS5 HH5
    refine then_ ?_
    cases r2
    · skip
      refine wp_cond_false (HS6.get 6 rfl) ?_
      refine wp_skip ?_
      refine zT ?_
      refine then_ ?_
      have hLo : LOk [(0, 18, .val (.int .i64 (((i + 1 : Nat) : Int)))), (1, 8, .val (.int .i64 (((i + 1 : Nat) : Int))))] := lok (by rfl) (by rfl)
      refine zK (wE := w) (sz := 19) (n := 2) [0, 1] [(0, .val (.slice (x.xm) (x.ml) (x.cm))), (1, .val (.func (.func 11) #[] #[.pointer (some (ad))])), (7, .val (.int .i64 ((x.ml : Int)))), (9, .val (.bool true)), (5, .val (.int .i64 ((i : Int)))), (16, .val (.bool false)), (8, .val (.int .i64 (((i + 1 : Nat) : Int))))] [(0, 18, .val (.int .i64 (((i + 1 : Nat) : Int)))), (1, 8, .val (.int .i64 (((i + 1 : Nat) : Int))))] [] rfl (by rfl) HH6 rfl rfl hLo rfl HS6 (slS 0 rfl rfl (slS 1 rfl rfl (slS 2 rfl rfl (slS 4 rfl rfl (slS 5 rfl rfl (slS 6 rfl rfl (slL 1 (d := 1) rfl (trivial)))))))) ?_ ?_
      · show ∀ i ∈ [0, 1], _
        refine zA (zC 0 _ rfl rfl hLo rfl rfl (fun _ _ _ _ => rfl) (fun b G w hb ho => zJ rfl (ev_pre hLo 1 rfl (ho 1 (by rfl)) (HS6.get 3 rfl)) (rfl) (rb_add (w_nat (by omega) (by omega)) _ _ _))) ?_
        refine zA (zC 1 _ rfl rfl hLo rfl rfl (fun _ _ _ _ => rfl) (fun b G w hb ho => zD (.inl rfl) (zB hLo 0 rfl HS6.1 rfl (hb 0 (by rfl))))) ?_
        exact zF
      clear hLo
      intro G a7 w7 hS hH
      have HS7 : Sl a7 19 [(0, .slice (x.xm) (x.ml) (x.cm)), (1, .func (.func 11) #[] #[.pointer (some (ad))]), (7, .int .i64 ((x.ml : Int))), (9, .bool true), (5, .int .i64 ((i : Int))), (16, .bool false), (8, .int .i64 (((i + 1 : Nat) : Int)))] := hS
      have HH7 : Held w w7 [] := hH
      clear hS hH HS6 HH6
      refine then_ ?_
      have hSq0' : Sl _ 19 [(0, .slice (x.xm) (x.ml) (x.cm)), (1, .func (.func 11) #[] #[.pointer (some (ad))]), (7, .int .i64 ((x.ml : Int))), (8, .int .i64 (((i + 1 : Nat) : Int)))] := sl_keep HS7 [0, 1, 2, 6] (by rfl)
      have hHq0' : Held w _ [] := held_keep HH7 0 rfl
      exact ⟨⟨i + 1, by omega, allB_step hL (by show (!badV key x i) = true; rw [hr2]; rfl), hSq0', hHq0'⟩, by rw [(hSq0'.get 3 rfl)]; show x.ml - (((i + 1 : Nat) : Int)).toNat < x.ml - i; omega⟩
    · skip
      refine wp_cond_true (HS6.get 6 rfl) ?_
      refine wp_seq ?_
      have hLo : LOk [(0, 17, .val (.int .i64 ((i : Int)))), (1, 4, .val (.int .i64 ((i : Int))))] := lok (by rfl) (by rfl)
      refine zK (wE := w) (sz := 19) (n := 2) [0, 1] [(0, .val (.slice (x.xm) (x.ml) (x.cm))), (1, .val (.func (.func 11) #[] #[.pointer (some (ad))])), (7, .val (.int .i64 ((x.ml : Int)))), (8, .val (.int .i64 ((i : Int)))), (9, .val (.bool true)), (5, .val (.int .i64 ((i : Int)))), (16, .val (.bool true)), (4, .val (.int .i64 ((i : Int))))] [(0, 17, .val (.int .i64 ((i : Int)))), (1, 4, .val (.int .i64 ((i : Int))))] [] rfl (by rfl) HH6 rfl rfl hLo rfl HS6 (slS 0 rfl rfl (slS 1 rfl rfl (slS 2 rfl rfl (slS 3 rfl rfl (slS 4 rfl rfl (slS 5 rfl rfl (slS 6 rfl rfl (slL 1 (d := 1) rfl (trivial))))))))) ?_ ?_
      · show ∀ i ∈ [0, 1], _
        refine zA (zC 0 _ rfl rfl hLo rfl rfl (fun _ _ _ _ => rfl) (fun b G w hb ho => zD (.inl rfl) (zG rfl (HS6.get 5 rfl)))) ?_
        refine zA (zC 1 _ rfl rfl hLo rfl rfl (fun _ _ _ _ => rfl) (fun b G w hb ho => zD (.inr rfl) (zB hLo 0 rfl HS6.1 rfl (hb 0 (by rfl))))) ?_
        exact zF
      clear hLo
      intro G a8 w8 hS hH
      have HS8 : Sl a8 19 [(0, .slice (x.xm) (x.ml) (x.cm)), (1, .func (.func 11) #[] #[.pointer (some (ad))]), (7, .int .i64 ((x.ml : Int))), (8, .int .i64 ((i : Int))), (9, .bool true), (5, .int .i64 ((i : Int))), (16, .bool true), (4, .int .i64 ((i : Int)))] := hS
      have HH8 : Held w w8 [] := hH
      clear hS hH HS6 HH6
      refine then_ ?_
      refine wp_ret ?_
      repeat (first | refine zS ?_ | refine zM ?_)
      exact b_tmp rfl HS8.2.1 (HS8.get 7 rfl) ⟨⟨(i : Int), rfl, (fun q => by rw [allB_no hlt (by show (!badV key x i) = false; rw [hr2]; rfl)] at q; cases q), (fun _ => by omega)⟩, HH8.1⟩
theorem ctf_calls {w : World} {ad : Addr} {x : T} (key : ByteArray) (hIn : In w x) (hc : w.cell? ad = some (.string key)) : Calls Tryd.prog 10 #[.slice (x.xm) (x.ml) (x.cm), .func (.func 11) #[] #[.pointer (some (ad))]] w fun e w' => e = .returned (.bool (!allB (memV zY key x) x.ml)) ∧ Below w.heap.size w w' := by
  refine enter_ 9 Tryd.func10 rfl rfl (fun a0 hS => ?_)
  have HS0 : Sl a0 9 [(0, .slice (x.xm) (x.ml) (x.cm)), (1, .func (.func 11) #[] #[.pointer (some (ad))])] := hS
  have HH0 : Held w w [] := Held.first w
  clear hS
  refine wp_seq ?_
  have hLo : LOk [(0, 4, .val (.bool false))] := lok (by rfl) (by rfl)
  refine zK (wE := w) (sz := 9) (n := 1) [0] [(0, .val (.slice (x.xm) (x.ml) (x.cm))), (1, .val (.func (.func 11) #[] #[.pointer (some (ad))])), (4, .val (.bool false))] [(0, 4, .val (.bool false))] [] rfl (by rfl) HH0 rfl rfl hLo rfl HS0 (slS 0 rfl rfl (slS 1 rfl rfl (slL 0 (d := 0) rfl (trivial)))) ?_ ?_
  · show ∀ i ∈ [0], _
    refine zA (zC 0 _ rfl rfl hLo rfl rfl (fun _ _ _ _ => rfl) (fun b G w hb ho => zD (.inr rfl) (rfl))) ?_
    exact zF
  clear hLo
  intro G a1 w1 hS hH
  have HS1 : Sl a1 9 [(0, .slice (x.xm) (x.ml) (x.cm)), (1, .func (.func 11) #[] #[.pointer (some (ad))]), (4, .bool false)] := hS
  have HH1 : Held w w1 [] := hH
  clear hS hH HS0 HH0
  refine then_ ?_
  refine wp_seq ?_
  refine whole_ ?_
  have hLo : LOk [(0, 5, .val (.slice (x.xm) (x.ml) (x.cm))), (1, 6, .val (.func (.func 11) #[] #[.pointer (some (ad))]))] := lok (by rfl) (by rfl)
  refine part_ (wE := w) (sz := 9) (n := 5) 0 2 [0, 1, 3, 7, 15] [(0, .val (.slice (x.xm) (x.ml) (x.cm))), (1, .val (.func (.func 11) #[] #[.pointer (some (ad))])), (4, .val (.bool false)), (5, .val (.slice (x.xm) (x.ml) (x.cm))), (6, .val (.func (.func 11) #[] #[.pointer (some (ad))]))] [(0, 5, .val (.slice (x.xm) (x.ml) (x.cm))), (1, 6, .val (.func (.func 11) #[] #[.pointer (some (ad))]))] [] rfl rfl (by rfl) HH1 rfl rfl hLo rfl HS1 (slS 0 rfl rfl (slS 1 rfl rfl (slS 2 rfl rfl (slL 0 (d := 0) rfl (slL 1 (d := 1) rfl (trivial)))))) ?_ ?_
  · show ∀ i ∈ [0, 1], _
    refine zA (zC 0 _ rfl rfl hLo rfl rfl (fun _ _ _ _ => rfl) (fun b G w hb ho => zD (.inl rfl) (zG rfl (HS1.get 0 rfl)))) ?_
    refine zA (zC 1 _ rfl rfl hLo rfl rfl (fun _ _ _ _ => rfl) (fun b G w hb ho => zD (.inl rfl) (zG rfl (HS1.get 1 rfl)))) ?_
    exact zF
  clear hLo
  intro G a2 w2 hS hH
  have HS2 : Sl a2 9 [(0, .slice (x.xm) (x.ml) (x.cm)), (1, .func (.func 11) #[] #[.pointer (some (ad))]), (4, .bool false), (5, .slice (x.xm) (x.ml) (x.cm)), (6, .func (.func 11) #[] #[.pointer (some (ad))])] := hS
  have HH2 : Held w w2 [] := hH
  clear hS hH HS1 HH1
  have hIn' := hIn.below HH2.1
  have hc' := bel_kept HH2.1 _ _ hc
  refine cut_call _ rfl rfl rfl rfl Tryd.func18 rfl rfl (args2 (HS2.get 3 rfl) (HS2.get 4 rfl)) (ixm_calls key hIn' hc') HS2 rfl ?_
  rintro e3 w3 ⟨⟨z, rfl, hz1, hz2⟩, hbz⟩
  refine ⟨_, rfl, fun a3 hS => ?_⟩
  have HS4 : Sl a3 9 [(7, .int .i64 (z)), (0, .slice (x.xm) (x.ml) (x.cm)), (1, .func (.func 11) #[] #[.pointer (some (ad))]), (4, .bool false), (5, .slice (x.xm) (x.ml) (x.cm)), (6, .func (.func 11) #[] #[.pointer (some (ad))])] := hS
  have HH4 : Held w w3 [] := HH2.call hbz
  clear hS
  obtain ⟨r1, hr1⟩ : ∃ r : Bool, (decide ((0 : Int) ≤ z)) = r := ⟨_, rfl⟩
  have hLo : LOk [(3, 8, .val (.bool r1)), (4, 4, .val (.bool r1))] := lok (by rfl) (by rfl)
  refine part_ (wE := w) (sz := 9) (n := 5) 3 5 [0, 1, 3, 7, 15] [(0, .val (.slice (x.xm) (x.ml) (x.cm))), (1, .val (.func (.func 11) #[] #[.pointer (some (ad))])), (4, .val (.bool r1))] [(3, 8, .val (.bool r1)), (4, 4, .val (.bool r1))] [] rfl rfl (by rfl) HH4 rfl rfl hLo rfl HS4 (slS 1 rfl rfl (slS 2 rfl rfl (slL 1 (d := 4) rfl (trivial)))) ?_ ?_
  · show ∀ i ∈ [3, 4], _
    refine zA (zC 0 _ rfl rfl hLo rfl rfl (fun _ _ _ _ => rfl) (fun b G w hb ho => zJ rfl (zG rfl (HS4.get 0 rfl)) (rfl) (rb_geq hr1 _ _ _))) ?_
    refine zA (zC 1 _ rfl rfl hLo rfl rfl (fun _ _ _ _ => rfl) (fun b G w hb ho => zD (.inr rfl) (zB hLo 0 rfl HS4.1 rfl (hb 3 (by rfl))))) ?_
    exact zF
  clear hLo
  intro G a5 w5 hS hH
  have HS5 : Sl a5 9 [(0, .slice (x.xm) (x.ml) (x.cm)), (1, .func (.func 11) #[] #[.pointer (some (ad))]), (4, .bool r1)] := hS
  have HH5 : Held w w5 [] := hH
  clear hS hH HS4 HH4
  refine end_ rfl ?_
  refine then_ ?_
  refine wp_ret ?_
  repeat (first | refine zS ?_ | refine zM ?_)
  exact b_tmp rfl HS5.2.1 (HS5.get 2 rfl) ⟨bool_ret (by rw [← hr1]; cases e : allB (memV zY key x) x.ml with | true => rw [decide_eq_false (by have := hz1 e; omega)]; rfl | false => rw [decide_eq_true (hz2 e)]; rfl), HH5.1⟩
end Go.Proofs.YtlfplmlehbomlaaDoor.P
end
