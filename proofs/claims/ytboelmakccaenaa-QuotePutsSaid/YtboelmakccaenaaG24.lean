-- Written by wip/tools/myprint.py of this session, over the kit's printer. Not trusted: Lean checks it.
import Derived.Test.YtboelmakccaenaaG0
import Derived.Test.YtboelmakccaenaaG67
namespace Go.Proofs.Ytboelmakccaenaa.P
open Go.RowKit Go.Proofs.YtboelmakccaenaaW.PrintWords Go.Proofs.YtboelmakccaenaaW.PrintLast Go.Proofs.YtboelmakccaenaaW.PrintMore
attribute [local go_sem] max2_int min2_int max_two min_two max_three min_three max_four min_four   -- for this text's walks alone
set_option linter.unusedVariables false
set_option linter.unusedSimpArgs false

/-! ### letters_Encode: function 24 -/
mutual
def letters_Encode.l0 : Nat → ByteArray → List Int → Int → Int → List Int → Int → Int → Option (ByteArray)
  | 0, _, _, _, _, _, _, _ => none
  | k + 1, x5, x6, x7, x8, x13, x14, x15 => if x15 < x14 then (if 0 ≤ x15 then (if x15 < (x13.length : Int) then (letters_Encode.l1 k x5 x6 (Go.bits .or .u64 (IntKind.u64.wrap (x7 * 256)) (IntKind.u64.wrap (rd x13 x15))) (wrap64 (x8 + 8)) x13 x14 x15) else (none)) else (none)) else (if x8 > 0 then (if 0 ≤ (wrap64 (6 - x8)) then (if 0 ≤ (Go.bits .and .u64 (shl .u64 x7 (wrap64 (6 - x8))) 63) then (if (Go.bits .and .u64 (shl .u64 x7 (wrap64 (6 - x8))) 63) < (x5.size : Int) then (if x6.length < 140737488355328 then (some (strOfNums (x6 ++ [bt x5 (Go.bits .and .u64 (shl .u64 x7 (wrap64 (6 - x8))) 63)]))) else (none)) else (none)) else (none)) else (none)) else (some (strOfNums x6)))
def letters_Encode.l1 : Nat → ByteArray → List Int → Int → Int → List Int → Int → Int → Option (ByteArray)
  | 0, _, _, _, _, _, _, _ => none
  | k + 1, x5, x6, x7, x8, x13, x14, x15 => if x8 ≥ 6 then (if 0 ≤ (wrap64 (x8 - 6)) then (if 0 ≤ (Go.bits .and .u64 (shr .u64 x7 (wrap64 (x8 - 6))) 63) then (if (Go.bits .and .u64 (shr .u64 x7 (wrap64 (x8 - 6))) 63) < (x5.size : Int) then (if x6.length < 140737488355328 then (letters_Encode.l1 k x5 (x6 ++ [bt x5 (Go.bits .and .u64 (shr .u64 x7 (wrap64 (x8 - 6))) 63)]) x7 (wrap64 (x8 - 6)) x13 x14 x15) else (none)) else (none)) else (none)) else (none)) else (letters_Encode.l0 k x5 x6 x7 x8 x13 x14 (wrap64 (x15 + 1)))
end
def letters_Encode.f (k : Nat) (l0 : List Int) (a1 : Bool) : Option (ByteArray) := (letters_alphabet.f a1).bind fun t24001 => (letters_Encode.l0 k t24001 ([] : List Int) 0 0 l0 (l0.length : Int) 0)
theorem letters_Encode.mono_l : ∀ k, (∀ y0 y1 y2 y3 y4 y5 y6, LeO (letters_Encode.l0 k y0 y1 y2 y3 y4 y5 y6) (letters_Encode.l0 (k + 1) y0 y1 y2 y3 y4 y5 y6)) ∧ (∀ y0 y1 y2 y3 y4 y5 y6, LeO (letters_Encode.l1 k y0 y1 y2 y3 y4 y5 y6) (letters_Encode.l1 (k + 1) y0 y1 y2 y3 y4 y5 y6))
  | 0 => ⟨fun _ _ _ _ _ _ _ r h => by simp [letters_Encode.l0] at h, fun _ _ _ _ _ _ _ r h => by simp [letters_Encode.l1] at h⟩
  | k + 1 => by
    obtain ⟨ih0, ih1⟩ := letters_Encode.mono_l k
    refine ⟨?_, ?_⟩
    · intro y0 y1 y2 y3 y4 y5 y6
      unfold letters_Encode.l0
      repeat' first
      | (with_reducible exact ih0 _ _ _ _ _ _ _)
      | (with_reducible exact ih1 _ _ _ _ _ _ _)
      | (with_reducible exact LeO.refl _)
      | (with_reducible exact LeO.none _)
      | (with_reducible refine LeO.ite ?_ ?_)
      | (with_reducible refine LeO.bind ?_ (fun _ => ?_))
      | exact ih0 _ _ _ _ _ _ _
      | exact ih1 _ _ _ _ _ _ _
      | exact LeO.none _
      | refine LeO.ite ?_ ?_
      | refine LeO.bind ?_ (fun _ => ?_)
    · intro y0 y1 y2 y3 y4 y5 y6
      unfold letters_Encode.l1
      repeat' first
      | (with_reducible exact ih0 _ _ _ _ _ _ _)
      | (with_reducible exact ih1 _ _ _ _ _ _ _)
      | (with_reducible exact LeO.refl _)
      | (with_reducible exact LeO.none _)
      | (with_reducible refine LeO.ite ?_ ?_)
      | (with_reducible refine LeO.bind ?_ (fun _ => ?_))
      | exact ih0 _ _ _ _ _ _ _
      | exact ih1 _ _ _ _ _ _ _
      | exact LeO.none _
      | refine LeO.ite ?_ ?_
      | refine LeO.bind ?_ (fun _ => ?_)
theorem letters_Encode.mono : ∀ a0 a1 k, LeO (letters_Encode.f k a0 a1) (letters_Encode.f (k + 1) a0 a1) := by
  intro a0 a1 k
  obtain ⟨ih0, ih1⟩ := letters_Encode.mono_l k
  unfold letters_Encode.f
  repeat' first
      | (with_reducible exact ih0 _ _ _ _ _ _ _)
      | (with_reducible exact ih1 _ _ _ _ _ _ _)
      | (with_reducible exact LeO.refl _)
      | (with_reducible exact LeO.none _)
      | (with_reducible refine LeO.ite ?_ ?_)
      | (with_reducible refine LeO.bind ?_ (fun _ => ?_))
      | exact ih0 _ _ _ _ _ _ _
      | exact ih1 _ _ _ _ _ _ _
      | exact LeO.none _
      | refine LeO.ite ?_ ?_
      | refine LeO.bind ?_ (fun _ => ?_)
set_option maxHeartbeats 8000000 in
set_option maxRecDepth 100000 in
theorem letters_Encode.calls (k : Nat) (A0 : Option Addr) (c0 : Nat) (l0 : List Int) (a1 : Bool) (r : ByteArray) (w : World) (hr0 : Kd.C (Kd.int .u8) w A0 l0.length l0) (hc0 : l0.length ≤ c0) (h : letters_Encode.f k l0 a1 = some r) :
    Calls Try.prog 24 #[.slice A0 l0.length c0, .bool a1] w fun e w' => e = .returned (.string r) ∧ Below w.heap.size w w' := by
  have HR0 := Aside0.mk hr0
  have HC0 := Aside0.mk hc0
  clear hr0 hc0
  have HB := Aside0.mk (Below.refl w.heap.size w)
  have H : ((letters_alphabet.f a1).bind fun t24001 => (letters_Encode.l0 k t24001 ([] : List Int) 0 0 l0 (l0.length : Int) 0)) = some r := h
  clear h
  replace H := Option.bind_eq_some_iff.mp H
  obtain ⟨t24001, A30, H⟩ := H
  replace H : (letters_Encode.l0 k t24001 ([] : List Int) 0 0 l0 (l0.length : Int) 0) = some r := H
  have A3 := Aside0.mk A30
  clear A30
  have H' := Aside0.mk H
  clear H
  go_enter Try.func24, Try.ntmps24
  go_wp2_with (first | ((with_reducible refine gate_callee (f := 67) rfl ?_); refine goesL_ (some 12) rfl rfl Try.func67 (by kernel_rfl) rfl #[.bool a1] rfl (by (try simp only [List.map_toArray, List.map_cons, List.map_nil]); first | done | rfl | (simp only [List.length_drop, List.length_take]; rfl)) ?_; (with_reducible refine (letters_alphabet.calls a1 t24001 _ A3.out).mono ?_); rintro e w' ⟨rfl, ⟨nd, rfl⟩⟩; refine ⟨_, rfl, ?_⟩))
  go_loopg [6, 7, 8, 15] k (fun kq v6 v7 v8 v15 w' => ∃ (x6_1 : List Int) (x7_1 : Int) (x8_1 : Int) (x15_1 : Int), v7 = .int .u64 x7_1 ∧ v8 = .int .i64 x8_1 ∧ v15 = .int .i64 x15_1 ∧ Aside0 (letters_Encode.l0 kq t24001 x6_1 x7_1 x8_1 l0 (l0.length : Int) x15_1 = some r) ∧ Aside0 (kq ≤ k) ∧ Aside0 (Kd.R (Kd.int .u8) 5 w' w.heap.size (fun _ => True) v6 x6_1) ∧ Aside0 (Below w.heap.size w w'))
  case atStart => exact ⟨(([] : List Int)), (0), (0), (0), (by first | rfl | (simp; done) | (simp [*]; done)), (by first | rfl | (simp; done) | (simp [*]; done)), (by first | rfl | (simp; done) | (simp [*]; done)), H', ⟨Nat.le_refl _⟩, ⟨by first | exact Kd.R_nil _ _ _ _ _ | exact Kd.N_nil _ _ _ _ _ | exact Kd.V_nil _ _ _ _ _ | exact Kd.Q_nil _ _ _ _ _ | exact Kd.S_nil _ _ _ _ _⟩, ⟨by repeat (first | (with_reducible first | exact HB.out | apply below_alloc | apply pw_below_drewN | apply below_drew1) | exact HB.out)⟩⟩
  case round =>
    clear H'
    try clear c2
    try clear p2
    obtain ⟨x6_1, x7_1, x8_1, x15_1, rfl, rfl, rfl, HA, HK1, HO_6, HB⟩ := hrel
    cases gk with
    | zero => exact absurd HA.out (by simp [letters_Encode.l0])
    | succ k1 =>
      have H := HA.out
      clear HA
      simp only [letters_Encode.l0] at H
      by_cases c4 : x15_1 < (l0.length : Int)
      · rw [if_pos c4] at H
        have c4b0 : decide (x15_1 < (l0.length : Int)) = true := decide_eq_true c4
        clear c4
        by_cases c5 : 0 ≤ x15_1
        · rw [if_pos c5] at H
          have c5b0 : decide (0 ≤ x15_1) = true := decide_eq_true c5
          clear c5
          by_cases c6 : x15_1 < (l0.length : Int)
          · rw [if_pos c6] at H
            have c6b0 : decide (x15_1 < (l0.length : Int)) = true := decide_eq_true c6
            clear c6
            have H' := Aside0.mk H
            clear H
            have p24005 : 0 ≤ (x15_1 : Int) := of_decide_eq_true (by first | (with_reducible assumption) | assumption)
            have q24005 : x15_1 < (l0.length : Int) := of_decide_eq_true (by first | (with_reducible assumption) | assumption)
            obtain ⟨ad24005, e24005, hx24005_0⟩ := Kd.at_int HR0.out x15_1 p24005 q24005
            cases e24005
            replace hx24005_0 := (HB.out.cell (World.block_lt_of_cell? w _ hx24005_0)).trans hx24005_0
            replace p24005 := eq_true p24005
            replace q24005 := eq_true q24005
            go_wp2
            go_loopg [6, 8] k1 (fun kq v6 v8 w' => ∃ (x6_2 : List Int) (x8_2 : Int), v8 = .int .i64 x8_2 ∧ Aside0 (letters_Encode.l1 kq t24001 x6_2 (Go.bits .or .u64 (IntKind.u64.wrap (x7_1 * 256)) (IntKind.u64.wrap (rd l0 x15_1))) x8_2 l0 (l0.length : Int) x15_1 = some r) ∧ Aside0 (kq ≤ k1) ∧ Aside0 (Kd.R (Kd.int .u8) 5 w' w.heap.size (fun _ => True) v6 x6_2) ∧ Aside0 (Below w.heap.size w w'))
            case atStart => exact ⟨(x6_1), (wrap64 (x8_1 + 8)), (by first | rfl | (simp; done) | (simp [*]; done)), H', ⟨Nat.le_refl _⟩, ⟨by (with_reducible repeat (first | apply Kd.R_alloc | apply Kd.R_drewN | apply Kd.R_drew)); exact HO_6.out⟩, ⟨by repeat (first | (with_reducible first | exact HB.out | apply below_alloc | apply pw_below_drewN | apply below_drew1) | exact HB.out)⟩⟩
            case round =>
              clear H'
              try clear c2
              try clear p2
              try clear q2
              try clear hx2
              try clear c4
              try clear c4b0
              try clear c5
              try clear c5b0
              try clear c6
              try clear c6b0
              try clear p6
              try clear hx24005_0
              try clear p2
              try clear p24005
              try clear q24005
              obtain ⟨x6_2, x8_2, rfl, HA, HK2, HO_6, HB⟩ := hrel
              cases gk with
              | zero => exact absurd HA.out (by simp [letters_Encode.l1])
              | succ k2 =>
                have H := HA.out
                clear HA
                simp only [letters_Encode.l1] at H
                by_cases c7 : x8_2 ≥ 6
                · rw [if_pos c7] at H
                  have c7b0 : decide (6 ≤ x8_2) = true := decide_eq_true c7
                  clear c7
                  obtain ⟨ji8, hji8⟩ : ∃ j_ : Int, (wrap64 (x8_2 - 6)) = j_ := ⟨_, rfl⟩
                  replace H : (if 0 ≤ (ji8) then (if 0 ≤ (Go.bits .and .u64 (shr .u64 (Go.bits .or .u64 (IntKind.u64.wrap (x7_1 * 256)) (IntKind.u64.wrap (rd l0 x15_1))) (ji8)) 63) then (if (Go.bits .and .u64 (shr .u64 (Go.bits .or .u64 (IntKind.u64.wrap (x7_1 * 256)) (IntKind.u64.wrap (rd l0 x15_1))) (ji8)) 63) < (t24001.size : Int) then (if x6_2.length < 140737488355328 then (letters_Encode.l1 k2 t24001 (x6_2 ++ [bt t24001 (Go.bits .and .u64 (shr .u64 (Go.bits .or .u64 (IntKind.u64.wrap (x7_1 * 256)) (IntKind.u64.wrap (rd l0 x15_1))) (ji8)) 63)]) (Go.bits .or .u64 (IntKind.u64.wrap (x7_1 * 256)) (IntKind.u64.wrap (rd l0 x15_1))) ji8 l0 (l0.length : Int) x15_1) else (none)) else (none)) else (none)) else (none)) = some r := by first | (rw [hji8] at H; exact H) | (simp only [hji8] at H ⊢; exact H)
                  have hji8w : (IntKind.i64.wrap (x8_2 - 6)) = ji8 := (i64_w _).trans hji8
                  by_cases c9 : 0 ≤ (ji8)
                  · rw [if_pos c9] at H
                    have c9b0 := eq_true c9
                    have c9b1 : decide (0 ≤ (ji8)) = true := decide_eq_true c9
                    clear c9
                    obtain ⟨ji10, hji10⟩ : ∃ j_ : Int, (shr .u64 (Go.bits .or .u64 (IntKind.u64.wrap (x7_1 * 256)) (IntKind.u64.wrap (rd l0 x15_1))) (ji8)) = j_ := ⟨_, rfl⟩
                    replace H : (if 0 ≤ (Go.bits .and .u64 (ji10) 63) then (if (Go.bits .and .u64 (ji10) 63) < (t24001.size : Int) then (if x6_2.length < 140737488355328 then (letters_Encode.l1 k2 t24001 (x6_2 ++ [bt t24001 (Go.bits .and .u64 (ji10) 63)]) (Go.bits .or .u64 (IntKind.u64.wrap (x7_1 * 256)) (IntKind.u64.wrap (rd l0 x15_1))) ji8 l0 (l0.length : Int) x15_1) else (none)) else (none)) else (none)) = some r := by first | (rw [hji10] at H; exact H) | (simp only [hji10] at H ⊢; exact H)
                    have hji10_ : ((Go.bits .or .u64 (IntKind.u64.wrap (x7_1 * 256)) (IntKind.u64.wrap (rd l0 x15_1))) / 2 ^ min (ji8).toNat 64) = ji10 := hji10
                    have hji10z : (ji8) ≤ 64 → ((Go.bits .or .u64 (IntKind.u64.wrap (x7_1 * 256)) (IntKind.u64.wrap (rd l0 x15_1))) / 2 ^ (ji8).toNat) = ji10 := shr_small hji10
                    by_cases c11 : 0 ≤ (Go.bits .and .u64 (ji10) 63)
                    · rw [if_pos c11] at H
                      have c11b0 : decide (0 ≤ (Go.bits .and .u64 (ji10) 63)) = true := decide_eq_true c11
                      clear c11
                      by_cases c12 : (Go.bits .and .u64 (ji10) 63) < (t24001.size : Int)
                      · rw [if_pos c12] at H
                        have c12b0 : decide ((Go.bits .and .u64 (ji10) 63) < (t24001.size : Int)) = true := decide_eq_true c12
                        clear c12
                        by_cases c14 : x6_2.length < 140737488355328
                        · rw [if_pos c14] at H
                          have LMc14 := Aside0.mk c14
                          clear c14
                          obtain ⟨y24006, hy24006⟩ : ∃ y_ : List Int, y_ = (x6_2 ++ [bt t24001 (Go.bits .and .u64 (ji10) 63)]) := ⟨_, rfl⟩
                          replace H : (letters_Encode.l1 k2 t24001 y24006 (Go.bits .or .u64 (IntKind.u64.wrap (x7_1 * 256)) (IntKind.u64.wrap (rd l0 x15_1))) ji8 l0 (l0.length : Int) x15_1) = some r := by first | (rw [hy24006]; with_reducible exact H) | (have H2_ := (Option.bind_some _ _).symm.trans H; rw [hy24006]; with_reducible exact H2_) | (have H2_ := (Option.bind_some _ _).symm.trans H; with_reducible exact H2_) | with_reducible exact H | (rw [hy24006]; exact H) | exact H
                          have Ny24006 := Aside0.mk hy24006
                          clear hy24006
                          have H' := Aside0.mk H
                          clear H
                          have p13 : 0 ≤ ((Go.bits .and .u64 (ji10) 63) : Int) := of_decide_eq_true (by first | (with_reducible assumption) | assumption)
                          have q13 : (Go.bits .and .u64 (ji10) 63) < (t24001.size : Int) := of_decide_eq_true (by first | (with_reducible assumption) | assumption)
                          have hx13 := bt_at t24001 (Go.bits .and .u64 (ji10) 63)
                          replace p13 := eq_true p13
                          replace q13 := eq_true q13
                          go_wp2_with (first | ((with_reducible refine gate_builtin (b := .append) (xs := #[.tmp 30, .tmp 37]) rfl ?_); at_builtin; refine Kd.R_append (Kd.int .u8) (w0 := w) w.heap.size rfl (.tmp 30) (.tmp 37) 23 5 (.int .u8 0) 1 rfl Try.underlying23 info5 rfl (by decide) (by omega) u6 x6_2 (bt t24001 (Go.bits .and .u64 (ji10) 63)) [.int .u8 (bt t24001 (Go.bits .and .u64 (ji10) 63))] (fun _ => True) (fun _ => False) rfl rfl ?aP (fun _ hk => hk.elim) ?aF ?aO ?aB ?aS ?aL ?_; (case aP => exact rfl); (case aB => exact (by repeat (first | (with_reducible first | exact HB.out | apply below_alloc | apply pw_below_drewN | apply below_drew1) | exact HB.out))); (case aF => exact (fun _ _ => trivial)); (case aO => exact (by (with_reducible repeat (first | apply Kd.R_alloc | apply Kd.R_drewN | apply Kd.R_drew)); exact HO_6.out)); (case aS => exact (below_size (by repeat (first | (with_reducible first | exact HB.out | apply below_alloc | apply pw_below_drewN | apply below_drew1) | exact HB.out)))); (case aL => have := LMc14.out; omega); intro v24007 w15 ho hb hg hat; rw [← Ny24006.out] at ho; have n0_ := Aside0.mk (hb); have n1_ := Aside0.mk (ho); clear HB; clear HO_6; have HB := n0_; have HO24008 := n1_; clear n0_ n1_; clear ho hb hg hat))
                          go_roundg k2
                          case measure => have := HK1.out; have := HK2.out; omega
                          case rel => exact ⟨(y24006), (ji8), (by first | rfl | (simp; done) | (simp only [← hji8] <;> (first | rfl | simp)) | (simp [*]; done)), H', ⟨by have := HK1.out; have := HK2.out; omega⟩, ⟨by (with_reducible repeat (first | apply Kd.R_alloc | apply Kd.R_drewN | apply Kd.R_drew)); exact HO24008.out⟩, ⟨by repeat (first | (with_reducible first | exact HB.out | apply below_alloc | apply pw_below_drewN | apply below_drew1) | exact HB.out)⟩⟩
                        · rw [if_neg c14] at H
                          exact absurd H (by simp)
                      · rw [if_neg c12] at H
                        exact absurd H (by simp)
                    · rw [if_neg c11] at H
                      exact absurd H (by simp)
                  · rw [if_neg c9] at H
                    exact absurd H (by simp)
                · rw [if_neg c7] at H
                  have c7b0 : decide (6 ≤ x8_2) = false := decide_eq_false c7
                  clear c7
                  have H' := Aside0.mk H
                  clear H
                  go_wp2
                  go_roundg k2
                  case measure => have := HK1.out; have := HK2.out; omega
                  case rel => exact ⟨(x6_2), ((Go.bits .or .u64 (IntKind.u64.wrap (x7_1 * 256)) (IntKind.u64.wrap (rd l0 x15_1)))), (x8_2), (wrap64 (x15_1 + 1)), (by first | rfl | (simp; done) | (simp [*]; done)), (by first | rfl | (simp; done) | (simp [*]; done)), (by first | rfl | (simp; done) | (simp [*]; done)), H', ⟨by have := HK1.out; have := HK2.out; omega⟩, ⟨by (with_reducible repeat (first | apply Kd.R_alloc | apply Kd.R_drewN | apply Kd.R_drew)); exact HO_6.out⟩, ⟨by repeat (first | (with_reducible first | exact HB.out | apply below_alloc | apply pw_below_drewN | apply below_drew1) | exact HB.out)⟩⟩
          · rw [if_neg c6] at H
            exact absurd H (by simp)
        · rw [if_neg c5] at H
          exact absurd H (by simp)
      · rw [if_neg c4] at H
        have c4b0 : decide (x15_1 < (l0.length : Int)) = false := decide_eq_false c4
        clear c4
        by_cases c16 : x8_1 > 0
        · rw [if_pos c16] at H
          have c16b0 : decide (0 < x8_1) = true := decide_eq_true c16
          clear c16
          obtain ⟨ji17, hji17⟩ : ∃ j_ : Int, (wrap64 (6 - x8_1)) = j_ := ⟨_, rfl⟩
          replace H : (if 0 ≤ (ji17) then (if 0 ≤ (Go.bits .and .u64 (shl .u64 x7_1 (ji17)) 63) then (if (Go.bits .and .u64 (shl .u64 x7_1 (ji17)) 63) < (t24001.size : Int) then (if x6_1.length < 140737488355328 then (some (strOfNums (x6_1 ++ [bt t24001 (Go.bits .and .u64 (shl .u64 x7_1 (ji17)) 63)]))) else (none)) else (none)) else (none)) else (none)) = some r := by first | (rw [hji17] at H; exact H) | (simp only [hji17] at H ⊢; exact H)
          have hji17w : (IntKind.i64.wrap (6 - x8_1)) = ji17 := (i64_w _).trans hji17
          by_cases c18 : 0 ≤ (ji17)
          · rw [if_pos c18] at H
            have c18b0 := eq_true c18
            have c18b1 : decide (0 ≤ (ji17)) = true := decide_eq_true c18
            clear c18
            obtain ⟨ji19, hji19⟩ : ∃ j_ : Int, (shl .u64 x7_1 (ji17)) = j_ := ⟨_, rfl⟩
            replace H : (if 0 ≤ (Go.bits .and .u64 (ji19) 63) then (if (Go.bits .and .u64 (ji19) 63) < (t24001.size : Int) then (if x6_1.length < 140737488355328 then (some (strOfNums (x6_1 ++ [bt t24001 (Go.bits .and .u64 (ji19) 63)]))) else (none)) else (none)) else (none)) = some r := by first | (rw [hji19] at H; exact H) | (simp only [hji19] at H ⊢; exact H)
            have hji19_ : (IntKind.u64.wrap (x7_1 * 2 ^ min (ji17).toNat 64)) = ji19 := hji19
            have hji19z : (ji17) ≤ 64 → (IntKind.u64.wrap (x7_1 * 2 ^ (ji17).toNat)) = ji19 := shl_small hji19
            by_cases c20 : 0 ≤ (Go.bits .and .u64 (ji19) 63)
            · rw [if_pos c20] at H
              have c20b0 : decide (0 ≤ (Go.bits .and .u64 (ji19) 63)) = true := decide_eq_true c20
              clear c20
              by_cases c21 : (Go.bits .and .u64 (ji19) 63) < (t24001.size : Int)
              · rw [if_pos c21] at H
                have c21b0 : decide ((Go.bits .and .u64 (ji19) 63) < (t24001.size : Int)) = true := decide_eq_true c21
                clear c21
                by_cases c23 : x6_1.length < 140737488355328
                · rw [if_pos c23] at H
                  have LMc23 := Aside0.mk c23
                  clear c23
                  obtain ⟨y24002, hy24002⟩ : ∃ y_ : List Int, y_ = (x6_1 ++ [bt t24001 (Go.bits .and .u64 (ji19) 63)]) := ⟨_, rfl⟩
                  replace H : (some (strOfNums y24002)) = some r := by first | (rw [hy24002]; with_reducible exact H) | (have H2_ := (Option.bind_some _ _).symm.trans H; rw [hy24002]; with_reducible exact H2_) | (have H2_ := (Option.bind_some _ _).symm.trans H; with_reducible exact H2_) | with_reducible exact H | (rw [hy24002]; exact H) | exact H
                  have Ny24002 := Aside0.mk hy24002
                  clear hy24002
                  obtain rfl := Option.some.inj H
                  have p22 : 0 ≤ ((Go.bits .and .u64 (ji19) 63) : Int) := of_decide_eq_true (by first | (with_reducible assumption) | assumption)
                  have q22 : (Go.bits .and .u64 (ji19) 63) < (t24001.size : Int) := of_decide_eq_true (by first | (with_reducible assumption) | assumption)
                  have hx22 := bt_at t24001 (Go.bits .and .u64 (ji19) 63)
                  replace p22 := eq_true p22
                  replace q22 := eq_true q22
                  go_wp2_with (first | ((with_reducible refine gate_builtin (b := .append) (xs := #[.tmp 42, .tmp 50]) rfl ?_); at_builtin; refine Kd.R_append (Kd.int .u8) (w0 := w) w.heap.size rfl (.tmp 42) (.tmp 50) 23 5 (.int .u8 0) 1 rfl Try.underlying23 info5 rfl (by decide) (by omega) u6 x6_1 (bt t24001 (Go.bits .and .u64 (ji19) 63)) [.int .u8 (bt t24001 (Go.bits .and .u64 (ji19) 63))] (fun _ => True) (fun _ => False) rfl rfl ?aP (fun _ hk => hk.elim) ?aF ?aO ?aB ?aS ?aL ?_; (case aP => exact rfl); (case aB => exact (by repeat (first | (with_reducible first | exact HB.out | apply below_alloc | apply pw_below_drewN | apply below_drew1) | exact HB.out))); (case aF => exact (fun _ _ => trivial)); (case aO => exact (by (with_reducible repeat (first | apply Kd.R_alloc | apply Kd.R_drewN | apply Kd.R_drew)); exact HO_6.out)); (case aS => exact (below_size (by repeat (first | (with_reducible first | exact HB.out | apply below_alloc | apply pw_below_drewN | apply below_drew1) | exact HB.out)))); (case aL => have := LMc23.out; omega); intro v24003 w24 ho hb hg hat; rw [← Ny24002.out] at ho; have n0_ := Aside0.mk (hb); have n1_ := Aside0.mk (ho); clear HB; clear HO_6; have HB := n0_; have HO24004 := n1_; clear n0_ n1_; clear ho hb hg hat; have hcv25 := own_string (P := Try.prog) Try.underlying23 Try.underlying5 Try.underlying9 (Kd.own_of_R HO24004.out)))
                  go_ret
                  exact ⟨by first | rfl | (simp [errW_none, errW_some] <;> rfl) | (simp only [← hji17, ← hji19]; first | rfl | (simp [errW_none, errW_some] <;> rfl)) | (simp [*, errW_none, errW_some] <;> rfl), by repeat (first | (with_reducible first | exact HB.out | apply below_alloc | apply pw_below_drewN | apply below_drew1) | exact HB.out)⟩
                · rw [if_neg c23] at H
                  exact absurd H (by simp)
              · rw [if_neg c21] at H
                exact absurd H (by simp)
            · rw [if_neg c20] at H
              exact absurd H (by simp)
          · rw [if_neg c18] at H
            exact absurd H (by simp)
        · rw [if_neg c16] at H
          have c16b0 : decide (0 < x8_1) = false := decide_eq_false c16
          clear c16
          obtain rfl := Option.some.inj H
          have hcv26 := own_string (P := Try.prog) Try.underlying23 Try.underlying5 Try.underlying9 (Kd.own_of_R HO_6.out)
          go_wp2
          go_ret
          exact ⟨by first | rfl | (simp [errW_none, errW_some] <;> rfl) | (simp [*, errW_none, errW_some] <;> rfl), by repeat (first | (with_reducible first | exact HB.out | apply below_alloc | apply pw_below_drewN | apply below_drew1) | exact HB.out)⟩

end Go.Proofs.Ytboelmakccaenaa.P
