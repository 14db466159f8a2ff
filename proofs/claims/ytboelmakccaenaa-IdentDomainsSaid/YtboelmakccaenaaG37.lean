-- Written by wip/tools/myprint.py of this session, over the kit's printer. Not trusted: Lean checks it.
import Derived.Test.YtboelmakccaenaaG0
import Derived.Test.YtboelmakccaenaaG76
import Derived.Test.YtboelmakccaenaaG82
namespace Go.Proofs.Ytboelmakccaenaa.P
open Go.RowKit Go.Proofs.YtboelmakccaenaaW.PrintWords Go.Proofs.YtboelmakccaenaaW.PrintLast Go.Proofs.YtboelmakccaenaaW.PrintMore
attribute [local go_sem] max2_int min2_int max_two min_two max_three min_three max_four min_four   -- for this text's walks alone
set_option linter.unusedVariables false
set_option linter.unusedSimpArgs false

/-! ### hustingsref10_Server: function 37 -/
def hustingsref10_Server.f (k : Nat) (a0 : ByteArray) : Option (Bool) := (hustingsref10_colon.f k a0).bind fun t37001 => (if (a0.size : Int) > 255 then (some false) else (if 0 ≤ t37001 then (if t37001 ≤ (a0.size : Int) then ((hustingsref10_of.f k (a0.extract 0 (t37001 : Int).toNat) (⟨#[97, 48]⟩ : ByteArray) (⟨#[46, 45]⟩ : ByteArray)).bind fun t37002 => (if t37002 = true then (if t37001 = (a0.size : Int) then (some true) else (if (wrap64 ((a0.size : Int) - t37001)) ≤ 6 then (if 0 ≤ (wrap64 (t37001 + 1)) then (if (wrap64 (t37001 + 1)) ≤ (a0.size : Int) then ((hustingsref10_of.f k (a0.extract ((wrap64 (t37001 + 1)) : Int).toNat a0.size) (⟨#[48]⟩ : ByteArray) (⟨#[]⟩ : ByteArray)).bind fun t37003 => (some t37003)) else (none)) else (none)) else (some false))) else (some false))) else (none)) else (none)))
theorem hustingsref10_Server.mono : ∀ a0 k, LeO (hustingsref10_Server.f k a0) (hustingsref10_Server.f (k + 1) a0) := by
  intro a0 k
  unfold hustingsref10_Server.f
  repeat' first
      | (with_reducible exact hustingsref10_colon.mono _ _)
      | (with_reducible exact hustingsref10_of.mono _ _ _ _)
      | (with_reducible exact LeO.refl _)
      | (with_reducible exact LeO.none _)
      | (with_reducible refine LeO.ite ?_ ?_)
      | (with_reducible refine LeO.bind ?_ (fun _ => ?_))
      | exact hustingsref10_colon.mono _ _
      | exact hustingsref10_of.mono _ _ _ _
      | exact LeO.none _
      | refine LeO.ite ?_ ?_
      | refine LeO.bind ?_ (fun _ => ?_)
set_option maxHeartbeats 8000000 in
set_option maxRecDepth 100000 in
theorem hustingsref10_Server.calls (k : Nat) (a0 : ByteArray) (r : Bool) (w : World) (h : hustingsref10_Server.f k a0 = some r) :
    Calls Try.prog 37 #[.string a0] w fun e w' => e = .returned (.bool r) ∧ Drawn0 w w' := by
  have H : ((hustingsref10_colon.f k a0).bind fun t37001 => (if (a0.size : Int) > 255 then (some false) else (if 0 ≤ t37001 then (if t37001 ≤ (a0.size : Int) then ((hustingsref10_of.f k (a0.extract 0 (t37001 : Int).toNat) (⟨#[97, 48]⟩ : ByteArray) (⟨#[46, 45]⟩ : ByteArray)).bind fun t37002 => (if t37002 = true then (if t37001 = (a0.size : Int) then (some true) else (if (wrap64 ((a0.size : Int) - t37001)) ≤ 6 then (if 0 ≤ (wrap64 (t37001 + 1)) then (if (wrap64 (t37001 + 1)) ≤ (a0.size : Int) then ((hustingsref10_of.f k (a0.extract ((wrap64 (t37001 + 1)) : Int).toNat a0.size) (⟨#[48]⟩ : ByteArray) (⟨#[]⟩ : ByteArray)).bind fun t37003 => (some t37003)) else (none)) else (none)) else (some false))) else (some false))) else (none)) else (none)))) = some r := h
  clear h
  replace H := Option.bind_eq_some_iff.mp H
  obtain ⟨t37001, A20, H⟩ := H
  replace H : (if (a0.size : Int) > 255 then (some false) else (if 0 ≤ t37001 then (if t37001 ≤ (a0.size : Int) then ((hustingsref10_of.f k (a0.extract 0 (t37001 : Int).toNat) (⟨#[97, 48]⟩ : ByteArray) (⟨#[46, 45]⟩ : ByteArray)).bind fun t37002 => (if t37002 = true then (if t37001 = (a0.size : Int) then (some true) else (if (wrap64 ((a0.size : Int) - t37001)) ≤ 6 then (if 0 ≤ (wrap64 (t37001 + 1)) then (if (wrap64 (t37001 + 1)) ≤ (a0.size : Int) then ((hustingsref10_of.f k (a0.extract ((wrap64 (t37001 + 1)) : Int).toNat a0.size) (⟨#[48]⟩ : ByteArray) (⟨#[]⟩ : ByteArray)).bind fun t37003 => (some t37003)) else (none)) else (none)) else (some false))) else (some false))) else (none)) else (none))) = some r := H
  have A2 := Aside0.mk A20
  clear A20
  by_cases c3 : (a0.size : Int) > 255
  · rw [if_pos c3] at H
    have c3b0 : decide (255 < (a0.size : Int)) = true := decide_eq_true c3
    have c3b1 : decide (255 < a0.size) = true := decide_eq_true (by omega)
    clear c3
    obtain rfl := Option.some.inj H
    go_enter Try.func37, Try.ntmps37
    go_wp2_with (first | ((with_reducible refine gate_callee (f := 82) rfl ?_); refine goesL_ (some 5) rfl rfl Try.func82 (by kernel_rfl) rfl #[.string a0] rfl (by (try simp only [List.map_toArray, List.map_cons, List.map_nil]); first | done | rfl | (simp only [List.length_drop, List.length_take]; rfl)) ?_; (with_reducible refine (hustingsref10_colon.calls k a0 t37001 _ A2.out).mono ?_); rintro e w' ⟨rfl, ⟨nd, rfl⟩⟩; refine ⟨_, rfl, ?_⟩))
    go_ret
    exact ⟨by first | rfl | (simp; done) | (simp [*]; done), by repeat (first | exact Drawn0.refl _ | apply Drawn0.step)⟩
  · rw [if_neg c3] at H
    have c3b0 : decide (255 < (a0.size : Int)) = false := decide_eq_false c3
    have c3b1 : decide (255 < a0.size) = false := decide_eq_false (by omega)
    clear c3
    by_cases c4 : 0 ≤ t37001
    · rw [if_pos c4] at H
      have c4b0 := eq_true c4
      have c4b1 : decide (0 ≤ t37001) = true := decide_eq_true c4
      clear c4
      by_cases c5 : t37001 ≤ (a0.size : Int)
      · rw [if_pos c5] at H
        have c5b0 := eq_true c5
        have c5b1 : decide (t37001 ≤ (a0.size : Int)) = true := decide_eq_true c5
        clear c5
        replace H := Option.bind_eq_some_iff.mp H
        obtain ⟨t37002, A60, H⟩ := H
        replace H : (if t37002 = true then (if t37001 = (a0.size : Int) then (some true) else (if (wrap64 ((a0.size : Int) - t37001)) ≤ 6 then (if 0 ≤ (wrap64 (t37001 + 1)) then (if (wrap64 (t37001 + 1)) ≤ (a0.size : Int) then ((hustingsref10_of.f k (a0.extract ((wrap64 (t37001 + 1)) : Int).toNat a0.size) (⟨#[48]⟩ : ByteArray) (⟨#[]⟩ : ByteArray)).bind fun t37003 => (some t37003)) else (none)) else (none)) else (some false))) else (some false)) = some r := H
        have A6 := Aside0.mk A60
        clear A60
        by_cases c7 : t37002 = true
        · subst c7
          have H1 : (if t37001 = (a0.size : Int) then (some true) else (if (wrap64 ((a0.size : Int) - t37001)) ≤ 6 then (if 0 ≤ (wrap64 (t37001 + 1)) then (if (wrap64 (t37001 + 1)) ≤ (a0.size : Int) then ((hustingsref10_of.f k (a0.extract ((wrap64 (t37001 + 1)) : Int).toNat a0.size) (⟨#[48]⟩ : ByteArray) (⟨#[]⟩ : ByteArray)).bind fun t37003 => (some t37003)) else (none)) else (none)) else (some false))) = some r := by rw [if_pos rfl] at H; exact H
          clear H
          have H := H1
          clear H1
          by_cases c8 : t37001 = (a0.size : Int)
          · rw [if_pos c8] at H
            have c8b0 : (t37001 == (a0.size : Int)) = true := beq_iff_eq.mpr c8
            have c8b1 : (t37001 != (a0.size : Int)) = false := bne_eq_false_iff_eq.mpr c8
            clear c8
            obtain rfl := Option.some.inj H
            go_enter Try.func37, Try.ntmps37
            go_wp2_with (first | ((with_reducible refine gate_callee (f := 82) rfl ?_); refine goesL_ (some 5) rfl rfl Try.func82 (by kernel_rfl) rfl #[.string a0] rfl (by (try simp only [List.map_toArray, List.map_cons, List.map_nil]); first | done | rfl | (simp only [List.length_drop, List.length_take]; rfl)) ?_; (with_reducible refine (hustingsref10_colon.calls k a0 t37001 _ A2.out).mono ?_); rintro e w' ⟨rfl, ⟨nd, rfl⟩⟩; refine ⟨_, rfl, ?_⟩) | (go_at_call 76; (with_reducible refine (hustingsref10_of.calls k (a0.extract 0 (t37001 : Int).toNat) (⟨#[97, 48]⟩ : ByteArray) (⟨#[46, 45]⟩ : ByteArray) true _ A6.out).mono ?_); rintro e w' ⟨rfl, ⟨nd, rfl⟩⟩))
            go_ret
            exact ⟨by first | rfl | (simp; done) | (simp [*]; done), by repeat (first | exact Drawn0.refl _ | apply Drawn0.step)⟩
          · rw [if_neg c8] at H
            have c8b0 : (t37001 == (a0.size : Int)) = false := beq_eq_false_iff_ne.mpr c8
            have c8b1 : (t37001 != (a0.size : Int)) = true := bne_iff_ne.mpr c8
            by_cases c9 : (wrap64 ((a0.size : Int) - t37001)) ≤ 6
            · rw [if_pos c9] at H
              have c9b0 : decide ((wrap64 ((a0.size : Int) - t37001)) ≤ 6) = true := decide_eq_true c9
              clear c9
              obtain ⟨ji10, hji10⟩ : ∃ j_ : Int, (wrap64 (t37001 + 1)) = j_ := ⟨_, rfl⟩
              replace H : (if 0 ≤ (ji10) then (if (ji10) ≤ (a0.size : Int) then ((hustingsref10_of.f k (a0.extract ((ji10) : Int).toNat a0.size) (⟨#[48]⟩ : ByteArray) (⟨#[]⟩ : ByteArray)).bind fun t37003 => (some t37003)) else (none)) else (none)) = some r := by first | (rw [hji10] at H; exact H) | (simp only [hji10] at H ⊢; exact H)
              (try rw [hji10] at A2)
              (try rw [hji10] at A6)
              have hji10w : (IntKind.i64.wrap (t37001 + 1)) = ji10 := (i64_w _).trans hji10
              by_cases c11 : 0 ≤ (ji10)
              · rw [if_pos c11] at H
                have c11b0 := eq_true c11
                have c11b1 : decide (0 ≤ (ji10)) = true := decide_eq_true c11
                clear c11
                by_cases c12 : (ji10) ≤ (a0.size : Int)
                · rw [if_pos c12] at H
                  have c12b0 := eq_true c12
                  have c12b1 : decide ((ji10) ≤ (a0.size : Int)) = true := decide_eq_true c12
                  clear c12
                  replace H := Option.bind_eq_some_iff.mp H
                  obtain ⟨t37003, A130, H⟩ := H
                  replace H : (some t37003) = some r := H
                  have A13 := Aside0.mk A130
                  clear A130
                  obtain rfl := Option.some.inj H
                  go_enter Try.func37, Try.ntmps37
                  go_wp2_with (first | ((with_reducible refine gate_callee (f := 82) rfl ?_); refine goesL_ (some 5) rfl rfl Try.func82 (by kernel_rfl) rfl #[.string a0] rfl (by (try simp only [List.map_toArray, List.map_cons, List.map_nil]); first | done | rfl | (simp only [List.length_drop, List.length_take]; rfl)) ?_; (with_reducible refine (hustingsref10_colon.calls k a0 t37001 _ A2.out).mono ?_); rintro e w' ⟨rfl, ⟨nd, rfl⟩⟩; refine ⟨_, rfl, ?_⟩) | (go_at_call 76; (with_reducible refine (hustingsref10_of.calls k (a0.extract 0 (t37001 : Int).toNat) (⟨#[97, 48]⟩ : ByteArray) (⟨#[46, 45]⟩ : ByteArray) true _ A6.out).mono ?_); rintro e w' ⟨rfl, ⟨nd, rfl⟩⟩) | (go_at_call 76; (with_reducible refine (hustingsref10_of.calls k (a0.extract ((ji10) : Int).toNat a0.size) (⟨#[48]⟩ : ByteArray) (⟨#[]⟩ : ByteArray) t37003 _ A13.out).mono ?_); rintro e w' ⟨rfl, ⟨nd, rfl⟩⟩))
                  go_ret
                  exact ⟨by first | rfl | (simp; done) | (simp only [← hji10] <;> (first | rfl | simp)) | (simp [*]; done), by repeat (first | exact Drawn0.refl _ | apply Drawn0.step)⟩
                · rw [if_neg c12] at H
                  exact absurd H (by simp)
              · rw [if_neg c11] at H
                exact absurd H (by simp)
            · rw [if_neg c9] at H
              have c9b0 : decide ((wrap64 ((a0.size : Int) - t37001)) ≤ 6) = false := decide_eq_false c9
              clear c9
              obtain rfl := Option.some.inj H
              go_enter Try.func37, Try.ntmps37
              go_wp2_with (first | ((with_reducible refine gate_callee (f := 82) rfl ?_); refine goesL_ (some 5) rfl rfl Try.func82 (by kernel_rfl) rfl #[.string a0] rfl (by (try simp only [List.map_toArray, List.map_cons, List.map_nil]); first | done | rfl | (simp only [List.length_drop, List.length_take]; rfl)) ?_; (with_reducible refine (hustingsref10_colon.calls k a0 t37001 _ A2.out).mono ?_); rintro e w' ⟨rfl, ⟨nd, rfl⟩⟩; refine ⟨_, rfl, ?_⟩) | (go_at_call 76; (with_reducible refine (hustingsref10_of.calls k (a0.extract 0 (t37001 : Int).toNat) (⟨#[97, 48]⟩ : ByteArray) (⟨#[46, 45]⟩ : ByteArray) true _ A6.out).mono ?_); rintro e w' ⟨rfl, ⟨nd, rfl⟩⟩))
              go_ret
              exact ⟨by first | rfl | (simp; done) | (simp [*]; done), by repeat (first | exact Drawn0.refl _ | apply Drawn0.step)⟩
        · replace c7 := Bool.eq_false_iff.mpr c7
          subst c7
          have H1 : (some false) = some r := by rw [if_neg (show ¬ (false = true) by decide)] at H; exact H
          clear H
          have H := H1
          clear H1
          obtain rfl := Option.some.inj H
          go_enter Try.func37, Try.ntmps37
          go_wp2_with (first | ((with_reducible refine gate_callee (f := 82) rfl ?_); refine goesL_ (some 5) rfl rfl Try.func82 (by kernel_rfl) rfl #[.string a0] rfl (by (try simp only [List.map_toArray, List.map_cons, List.map_nil]); first | done | rfl | (simp only [List.length_drop, List.length_take]; rfl)) ?_; (with_reducible refine (hustingsref10_colon.calls k a0 t37001 _ A2.out).mono ?_); rintro e w' ⟨rfl, ⟨nd, rfl⟩⟩; refine ⟨_, rfl, ?_⟩) | (go_at_call 76; (with_reducible refine (hustingsref10_of.calls k (a0.extract 0 (t37001 : Int).toNat) (⟨#[97, 48]⟩ : ByteArray) (⟨#[46, 45]⟩ : ByteArray) false _ A6.out).mono ?_); rintro e w' ⟨rfl, ⟨nd, rfl⟩⟩))
          go_ret
          exact ⟨by first | rfl | (simp; done) | (simp [*]; done), by repeat (first | exact Drawn0.refl _ | apply Drawn0.step)⟩
      · rw [if_neg c5] at H
        exact absurd H (by simp)
    · rw [if_neg c4] at H
      exact absurd H (by simp)

end Go.Proofs.Ytboelmakccaenaa.P
