-- Written by wip/tools/myprint.py of this session, over the kit's printer. Not trusted: Lean checks it.
import Derived.Test.YtboelmakccaenaaG0
import Derived.Test.YtboelmakccaenaaG30
import Derived.Test.YtboelmakccaenaaH29
namespace Go.Proofs.Ytboelmakccaenaa.P
open Go.RowKit Go.Proofs.YtboelmakccaenaaW.PrintWords Go.Proofs.YtboelmakccaenaaW.PrintLast Go.Proofs.YtboelmakccaenaaW.PrintMore
attribute [local go_sem] max2_int min2_int max_two min_two max_three min_three max_four min_four   -- for this text's walks alone
set_option linter.unusedVariables false
set_option linter.unusedSimpArgs false

/-! ### hustingslaw01_LettersReads: function 7 -/
def hustingslaw01_LettersReads.j0 : Nat → ByteArray → Bool → Bool → Option (Bool)
  | 0, _, _, _ => none
  | k + 1, x0, x1, x22 => if x22 = true then (some false) else (if (x0.size : Int) > 16384 then (some true) else ((letters_Decode.f x0 x1).bind fun bt7005 => ((hustingsref01_Decode.f k x0 x1).bind fun bt7009 => (if (strOfNums bt7005.1).toList = (strOfNums bt7009.1).toList then (some (bt7005.2 == bt7009.2)) else (some false)))))
def hustingslaw01_LettersReads.f (k : Nat) (a0 : ByteArray) (a1 : Bool) : Option (Bool) := (letters_Decode.f (⟨#[90, 109, 56]⟩ : ByteArray) a1).bind fun bt7001 => (if (strOfNums bt7001.1).toList = ([102, 111] : List UInt8) then (hustingslaw01_LettersReads.j0 k a0 a1 (!bt7001.2)) else (hustingslaw01_LettersReads.j0 k a0 a1 true))
theorem hustingslaw01_LettersReads.mono_l : ∀ k, (∀ y0 y1 y2, LeO (hustingslaw01_LettersReads.j0 k y0 y1 y2) (hustingslaw01_LettersReads.j0 (k + 1) y0 y1 y2))
  | 0 => fun _ _ _ r h => by simp [hustingslaw01_LettersReads.j0] at h
  | k + 1 => by
    have ih0 := hustingslaw01_LettersReads.mono_l k
    · intro y0 y1 y2
      unfold hustingslaw01_LettersReads.j0
      repeat' first
      | (with_reducible exact ih0 _ _ _)
      | (with_reducible exact hustingsref01_Decode.mono _ _ _)
      | (with_reducible exact LeO.refl _)
      | (with_reducible exact LeO.none _)
      | (with_reducible refine LeO.ite ?_ ?_)
      | (with_reducible refine LeO.bind ?_ (fun _ => ?_))
      | exact ih0 _ _ _
      | exact hustingsref01_Decode.mono _ _ _
      | exact LeO.none _
      | refine LeO.ite ?_ ?_
      | refine LeO.bind ?_ (fun _ => ?_)
theorem hustingslaw01_LettersReads.mono : ∀ a0 a1 k, LeO (hustingslaw01_LettersReads.f k a0 a1) (hustingslaw01_LettersReads.f (k + 1) a0 a1) := by
  intro a0 a1 k
  have ih0 := hustingslaw01_LettersReads.mono_l k
  unfold hustingslaw01_LettersReads.f
  repeat' first
      | (with_reducible exact ih0 _ _ _)
      | (with_reducible exact hustingsref01_Decode.mono _ _ _)
      | (with_reducible exact LeO.refl _)
      | (with_reducible exact LeO.none _)
      | (with_reducible refine LeO.ite ?_ ?_)
      | (with_reducible refine LeO.bind ?_ (fun _ => ?_))
      | exact ih0 _ _ _
      | exact hustingsref01_Decode.mono _ _ _
      | exact LeO.none _
      | refine LeO.ite ?_ ?_
      | refine LeO.bind ?_ (fun _ => ?_)
set_option maxHeartbeats 8000000 in
set_option maxRecDepth 100000 in
theorem hustingslaw01_LettersReads.calls (k : Nat) (a0 : ByteArray) (a1 : Bool) (r : Bool) (w : World) (h : hustingslaw01_LettersReads.f k a0 a1 = some r) :
    Calls Try.prog 7 #[.string a0, .bool a1] w fun e w' => e = .returned (.bool r) ∧ Below w.heap.size w w' := by
  have HB := Aside0.mk (Below.refl w.heap.size w)
  have H : ((letters_Decode.f (⟨#[90, 109, 56]⟩ : ByteArray) a1).bind fun bt7001 => (if (strOfNums bt7001.1).toList = ([102, 111] : List UInt8) then (hustingslaw01_LettersReads.j0 k a0 a1 (!bt7001.2)) else (hustingslaw01_LettersReads.j0 k a0 a1 true))) = some r := h
  clear h
  replace H := Option.bind_eq_some_iff.mp H
  obtain ⟨⟨t7001, t7002⟩, A30, H⟩ := H
  replace H : (if (strOfNums t7001).toList = ([102, 111] : List UInt8) then (hustingslaw01_LettersReads.j0 k a0 a1 (!t7002)) else (hustingslaw01_LettersReads.j0 k a0 a1 true)) = some r := H
  have A3 := Aside0.mk A30
  clear A30
  have HC4 := Aside0.mk H
  clear H
  go_enter Try.func7, Try.ntmps7
  go_upto_region 2 with (first | ((with_reducible refine gate_callee (f := 29) rfl ?_); refine goesL_ (some 13) rfl rfl Try.func29 (by kernel_rfl) rfl #[.string (⟨#[90, 109, 56]⟩ : ByteArray), .bool a1] rfl (by (try simp only [List.map_toArray, List.map_cons, List.map_nil]); first | done | rfl | (simp only [List.length_drop, List.length_take]; rfl)) ?_; (with_reducible refine (letters_Decode.calls (⟨#[90, 109, 56]⟩ : ByteArray) a1 t7001 t7002 _ A3.out).mono ?_); rintro e w5 ⟨v7003, rfl, ho0, hb⟩; refine ⟨_, rfl, ?_⟩; have n0_ := Aside0.mk (Kd.R_lower ho0 (below_size (by repeat (first | (with_reducible first | exact HB.out | apply below_alloc | apply pw_below_drewN | apply below_drew1) | exact HB.out)))); have n1_ := Aside0.mk (below_step (by repeat (first | (with_reducible first | exact HB.out | apply below_alloc | apply pw_below_drewN | apply below_drew1) | exact HB.out)) hb); clear HB; have HO7004 := n0_; have HB := n1_; clear n0_ n1_; (try clear hb); (try clear hb2); (try clear hk); (try clear hi); (try clear ho0)))
  (try simp only [Act.put, List.setIfInBounds_toArray, List.set_cons_zero, List.set_cons_succ])
  go_cut [22] (fun v22 wc => ∃ (kq : Nat) (x22_3 : Bool), v22 = .bool x22_3 ∧ Aside0 (hustingslaw01_LettersReads.j0 kq a0 a1 x22_3 = some r) ∧ Aside0 (kq ≤ k) ∧ Aside0 (Below w.heap.size w wc))
  case first =>
    have H := HC4.out
    clear HC4
    by_cases c6 : (strOfNums t7001).toList = ([102, 111] : List UInt8)
    · rw [if_pos c6] at H
      have c6b0 : ((strOfNums t7001).toList == ([102, 111] : List UInt8)) = true := beq_iff_eq.mpr c6
      have c6b1 : ((strOfNums t7001).toList != ([102, 111] : List UInt8)) = false := bne_eq_false_iff_eq.mpr c6
      clear c6
      (first | rw [c6b0] | (simp only [i64_w, i32_w]; rw [c6b0]) | skip)
      have H' := Aside0.mk H
      clear H
      have hcv7 := own_string (P := Try.prog) Try.underlying23 Try.underlying5 Try.underlying9 (Kd.own_of_R HO7004.out)
      go_wp2
      go_meet
      case rel => exact ⟨_, (!t7002), (by first | rfl | (simp; done) | (simp [*]; done)), H', ⟨by first | omega | exact Nat.le_refl _⟩, ⟨by repeat (first | (with_reducible first | exact HB.out | apply below_alloc | apply pw_below_drewN | apply below_drew1) | exact HB.out)⟩⟩
    · rw [if_neg c6] at H
      have c6b0 : ((strOfNums t7001).toList == ([102, 111] : List UInt8)) = false := beq_eq_false_iff_ne.mpr c6
      have c6b1 : ((strOfNums t7001).toList != ([102, 111] : List UInt8)) = true := bne_iff_ne.mpr c6
      (first | rw [c6b0] | (simp only [i64_w, i32_w]; rw [c6b0]) | skip)
      have H' := Aside0.mk H
      clear H
      have hcv8 := own_string (P := Try.prog) Try.underlying23 Try.underlying5 Try.underlying9 (Kd.own_of_R HO7004.out)
      go_wp2
      go_meet
      case rel => exact ⟨_, (true), (by first | rfl | (simp; done) | (simp [*]; done)), H', ⟨by first | omega | exact Nat.le_refl _⟩, ⟨by repeat (first | (with_reducible first | exact HB.out | apply below_alloc | apply pw_below_drewN | apply below_drew1) | exact HB.out)⟩⟩
  case rest =>
    clear HC4
    try clear c2
    try clear p2
    try clear c6
    try clear c6b0
    try clear c6b1
    try clear c7
    try clear hcv7
    try clear hcv8
    obtain ⟨kq, x22_3, rfl, HA, HJ3, HB⟩ := hcut
    cases kq with
    | zero => exact absurd HA.out (by simp [hustingslaw01_LettersReads.j0])
    | succ kj3 =>
      have H := HA.out
      clear HA
      simp only [hustingslaw01_LettersReads.j0] at H
      by_cases c9 : x22_3 = true
      · subst c9
        have H1 : (some false) = some r := by rw [if_pos rfl] at H; exact H
        clear H
        have H := H1
        clear H1
        obtain rfl := Option.some.inj H
        go_wp2
        go_ret
        exact ⟨by first | rfl | (simp [errW_none, errW_some] <;> rfl) | (simp [*, errW_none, errW_some] <;> rfl), by repeat (first | (with_reducible first | exact HB.out | apply below_alloc | apply pw_below_drewN | apply below_drew1) | exact HB.out)⟩
      · replace c9 := Bool.eq_false_iff.mpr c9
        subst c9
        have H1 : (if (a0.size : Int) > 16384 then (some true) else ((letters_Decode.f a0 a1).bind fun bt7005 => ((hustingsref01_Decode.f kj3 a0 a1).bind fun bt7009 => (if (strOfNums bt7005.1).toList = (strOfNums bt7009.1).toList then (some (bt7005.2 == bt7009.2)) else (some false))))) = some r := by rw [if_neg (show ¬ (false = true) by decide)] at H; exact H
        clear H
        have H := H1
        clear H1
        by_cases c10 : (a0.size : Int) > 16384
        · rw [if_pos c10] at H
          have c10b0 : decide (16384 < (a0.size : Int)) = true := decide_eq_true c10
          have c10b1 : decide (16384 < a0.size) = true := decide_eq_true (by omega)
          clear c10
          obtain rfl := Option.some.inj H
          go_wp2
          go_ret
          exact ⟨by first | rfl | (simp [errW_none, errW_some] <;> rfl) | (simp [*, errW_none, errW_some] <;> rfl), by repeat (first | (with_reducible first | exact HB.out | apply below_alloc | apply pw_below_drewN | apply below_drew1) | exact HB.out)⟩
        · rw [if_neg c10] at H
          have c10b0 : decide (16384 < (a0.size : Int)) = false := decide_eq_false c10
          have c10b1 : decide (16384 < a0.size) = false := decide_eq_false (by omega)
          clear c10
          replace H := Option.bind_eq_some_iff.mp H
          obtain ⟨⟨t7005, t7006⟩, A110, H⟩ := H
          replace H : ((hustingsref01_Decode.f kj3 a0 a1).bind fun bt7009 => (if (strOfNums t7005).toList = (strOfNums bt7009.1).toList then (some (t7006 == bt7009.2)) else (some false))) = some r := H
          have A11 := Aside0.mk A110
          clear A110
          replace H := Option.bind_eq_some_iff.mp H
          obtain ⟨⟨t7009, t7010⟩, A120, H⟩ := H
          replace H : (if (strOfNums t7005).toList = (strOfNums t7009).toList then (some (t7006 == t7010)) else (some false)) = some r := H
          have A12 := Aside0.mk A120
          clear A120
          by_cases c13 : (strOfNums t7005).toList = (strOfNums t7009).toList
          · rw [if_pos c13] at H
            have c13b0 : ((strOfNums t7005).toList == (strOfNums t7009).toList) = true := beq_iff_eq.mpr c13
            have c13b1 : ((strOfNums t7005).toList != (strOfNums t7009).toList) = false := bne_eq_false_iff_eq.mpr c13
            clear c13
            obtain rfl := Option.some.inj H
            go_wp2_with (first | ((with_reducible refine gate_callee (f := 29) rfl ?_); refine goesL_ (some 29) rfl rfl Try.func29 (by kernel_rfl) rfl #[.string a0, .bool a1] rfl (by (try simp only [List.map_toArray, List.map_cons, List.map_nil]); first | done | rfl | (simp only [List.length_drop, List.length_take]; rfl)) ?_; (with_reducible refine (letters_Decode.calls a0 a1 t7005 t7006 _ A11.out).mono ?_); rintro e w14 ⟨v7007, rfl, ho0, hb⟩; refine ⟨_, rfl, ?_⟩; have n0_ := Aside0.mk (Kd.R_lower ho0 (below_size (by repeat (first | (with_reducible first | exact HB.out | apply below_alloc | apply pw_below_drewN | apply below_drew1) | exact HB.out)))); have n1_ := Aside0.mk (below_step (by repeat (first | (with_reducible first | exact HB.out | apply below_alloc | apply pw_below_drewN | apply below_drew1) | exact HB.out)) hb); clear HB; have HO7008 := n0_; have HB := n1_; clear n0_ n1_; (try clear hb); (try clear hb2); (try clear hk); (try clear hi); (try clear ho0)) | ((with_reducible refine gate_callee (f := 30) rfl ?_); refine goesL_ (some 35) rfl rfl Try.func30 (by kernel_rfl) rfl #[.string a0, .bool a1] rfl (by (try simp only [List.map_toArray, List.map_cons, List.map_nil]); first | done | rfl | (simp only [List.length_drop, List.length_take]; rfl)) ?_; (with_reducible refine (hustingsref01_Decode.calls kj3 a0 a1 t7009 t7010 _ A12.out).mono ?_); rintro e w15 ⟨v7011, rfl, ho0, hb⟩; refine ⟨_, rfl, ?_⟩; have n0_ := Aside0.mk (Kd.R_elder' (by (with_reducible repeat (first | apply Kd.R_alloc | apply Kd.R_drewN | apply Kd.R_drew)); exact HO7008.out) (Kd.R_base ho0) hb); have n1_ := Aside0.mk (Kd.R_lower (Kd.R_new' ho0 (Kd.R_lt (by (with_reducible repeat (first | apply Kd.R_alloc | apply Kd.R_drewN | apply Kd.R_drew)); exact HO7008.out))) (below_size (by repeat (first | (with_reducible first | exact HB.out | apply below_alloc | apply pw_below_drewN | apply below_drew1) | exact HB.out)))); have n2_ := Aside0.mk (below_step (by repeat (first | (with_reducible first | exact HB.out | apply below_alloc | apply pw_below_drewN | apply below_drew1) | exact HB.out)) hb); clear HO7008; clear HB; have HO7008 := n0_; have HO7012 := n1_; have HB := n2_; clear n0_ n1_ n2_; (try clear hb); (try clear hb2); (try clear hk); (try clear hi); (try clear ho0); have hcv16 := own_string (P := Try.prog) Try.underlying23 Try.underlying5 Try.underlying9 (Kd.own_of_R HO7008.out); have hcv17 := own_string (P := Try.prog) Try.underlying23 Try.underlying5 Try.underlying9 (Kd.own_of_R HO7012.out)))
            go_ret
            exact ⟨by first | rfl | (simp [errW_none, errW_some] <;> rfl) | (simp [*, errW_none, errW_some] <;> rfl), by repeat (first | (with_reducible first | exact HB.out | apply below_alloc | apply pw_below_drewN | apply below_drew1) | exact HB.out)⟩
          · rw [if_neg c13] at H
            have c13b0 : ((strOfNums t7005).toList == (strOfNums t7009).toList) = false := beq_eq_false_iff_ne.mpr c13
            have c13b1 : ((strOfNums t7005).toList != (strOfNums t7009).toList) = true := bne_iff_ne.mpr c13
            obtain rfl := Option.some.inj H
            go_wp2_with (first | ((with_reducible refine gate_callee (f := 29) rfl ?_); refine goesL_ (some 29) rfl rfl Try.func29 (by kernel_rfl) rfl #[.string a0, .bool a1] rfl (by (try simp only [List.map_toArray, List.map_cons, List.map_nil]); first | done | rfl | (simp only [List.length_drop, List.length_take]; rfl)) ?_; (with_reducible refine (letters_Decode.calls a0 a1 t7005 t7006 _ A11.out).mono ?_); rintro e w18 ⟨v7007, rfl, ho0, hb⟩; refine ⟨_, rfl, ?_⟩; have n0_ := Aside0.mk (Kd.R_lower ho0 (below_size (by repeat (first | (with_reducible first | exact HB.out | apply below_alloc | apply pw_below_drewN | apply below_drew1) | exact HB.out)))); have n1_ := Aside0.mk (below_step (by repeat (first | (with_reducible first | exact HB.out | apply below_alloc | apply pw_below_drewN | apply below_drew1) | exact HB.out)) hb); clear HB; have HO7008 := n0_; have HB := n1_; clear n0_ n1_; (try clear hb); (try clear hb2); (try clear hk); (try clear hi); (try clear ho0)) | ((with_reducible refine gate_callee (f := 30) rfl ?_); refine goesL_ (some 35) rfl rfl Try.func30 (by kernel_rfl) rfl #[.string a0, .bool a1] rfl (by (try simp only [List.map_toArray, List.map_cons, List.map_nil]); first | done | rfl | (simp only [List.length_drop, List.length_take]; rfl)) ?_; (with_reducible refine (hustingsref01_Decode.calls kj3 a0 a1 t7009 t7010 _ A12.out).mono ?_); rintro e w19 ⟨v7011, rfl, ho0, hb⟩; refine ⟨_, rfl, ?_⟩; have n0_ := Aside0.mk (Kd.R_elder' (by (with_reducible repeat (first | apply Kd.R_alloc | apply Kd.R_drewN | apply Kd.R_drew)); exact HO7008.out) (Kd.R_base ho0) hb); have n1_ := Aside0.mk (Kd.R_lower (Kd.R_new' ho0 (Kd.R_lt (by (with_reducible repeat (first | apply Kd.R_alloc | apply Kd.R_drewN | apply Kd.R_drew)); exact HO7008.out))) (below_size (by repeat (first | (with_reducible first | exact HB.out | apply below_alloc | apply pw_below_drewN | apply below_drew1) | exact HB.out)))); have n2_ := Aside0.mk (below_step (by repeat (first | (with_reducible first | exact HB.out | apply below_alloc | apply pw_below_drewN | apply below_drew1) | exact HB.out)) hb); clear HO7008; clear HB; have HO7008 := n0_; have HO7012 := n1_; have HB := n2_; clear n0_ n1_ n2_; (try clear hb); (try clear hb2); (try clear hk); (try clear hi); (try clear ho0); have hcv20 := own_string (P := Try.prog) Try.underlying23 Try.underlying5 Try.underlying9 (Kd.own_of_R HO7008.out); have hcv21 := own_string (P := Try.prog) Try.underlying23 Try.underlying5 Try.underlying9 (Kd.own_of_R HO7012.out)))
            go_ret
            exact ⟨by first | rfl | (simp [errW_none, errW_some] <;> rfl) | (simp [*, errW_none, errW_some] <;> rfl), by repeat (first | (with_reducible first | exact HB.out | apply below_alloc | apply pw_below_drewN | apply below_drew1) | exact HB.out)⟩

/-- THE ONE PURE STATEMENT of hustingslaw01_LettersReads: yours. -/
def hustingslaw01_LettersReads.Pure : Prop := ∀ (a0 : ByteArray) (a1 : Bool), a0.size ≤ 140737488351232 → ∃ k, hustingslaw01_LettersReads.f k a0 a1 = some true
theorem hustingslaw01_LettersReads.walk (P : hustingslaw01_LettersReads.Pure) (a0 : ByteArray) (a1 : Bool) (w : World) (w0 : a0.size ≤ 140737488351232) :
    Calls Try.prog 7 #[.string a0, .bool a1] w fun e w' => e = .returned (.bool true) ∧ Below w.heap.size w w' := by
  obtain ⟨k, h⟩ := P a0 a1 w0
  refine (hustingslaw01_LettersReads.calls k a0 a1 true w h).mono ?_
  rintro e w' ⟨rfl, hd⟩
  exact ⟨rfl, hd⟩

end Go.Proofs.Ytboelmakccaenaa.P
