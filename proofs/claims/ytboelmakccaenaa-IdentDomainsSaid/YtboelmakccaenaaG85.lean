-- Written by wip/tools/myprint.py of this session, over the kit's printer. Not trusted: Lean checks it.
import Derived.Test.YtboelmakccaenaaG0
import Derived.Test.YtboelmakccaenaaG76
import Derived.Test.YtboelmakccaenaaG82
import Derived.Test.YtboelmakccaenaaG37
namespace Go.Proofs.Ytboelmakccaenaa.P
open Go.RowKit Go.Proofs.YtboelmakccaenaaW.PrintWords Go.Proofs.YtboelmakccaenaaW.PrintLast Go.Proofs.YtboelmakccaenaaW.PrintMore
attribute [local go_sem] max2_int min2_int max_two min_two max_three min_three max_four min_four   -- for this text's walks alone
set_option linter.unusedVariables false
set_option linter.unusedSimpArgs false

/-! ### hustingsref10_named: function 85 -/
def hustingsref10_named.f (k : Nat) (a0 : ByteArray) (a1 : Int) (a2 : ByteArray) (a3 : ByteArray) : Option (Bool) := (hustingsref10_colon.f k a0).bind fun t85001 => (if (a0.size : Int) ≤ 255 then (if t85001 < (a0.size : Int) then (if t85001 > 0 then (if 0 < (a0.size : Int) then (if (bt a0 0) = a1 then (if 1 ≤ t85001 then (if t85001 ≤ (a0.size : Int) then ((hustingsref10_of.f k (a0.extract 1 (t85001 : Int).toNat) a2 a3).bind fun t85002 => (if t85002 = true then (if 0 ≤ (wrap64 (t85001 + 1)) then (if (wrap64 (t85001 + 1)) ≤ (a0.size : Int) then ((hustingsref10_Server.f k (a0.extract ((wrap64 (t85001 + 1)) : Int).toNat a0.size)).bind fun t85003 => (some t85003)) else (none)) else (none)) else (some false))) else (none)) else (none)) else (some false)) else (none)) else (some false)) else (some false)) else (some false))
theorem hustingsref10_named.mono : ∀ a0 a1 a2 a3 k, LeO (hustingsref10_named.f k a0 a1 a2 a3) (hustingsref10_named.f (k + 1) a0 a1 a2 a3) := by
  intro a0 a1 a2 a3 k
  unfold hustingsref10_named.f
  repeat' first
      | (with_reducible exact hustingsref10_Server.mono _ _)
      | (with_reducible exact hustingsref10_colon.mono _ _)
      | (with_reducible exact hustingsref10_of.mono _ _ _ _)
      | (with_reducible exact LeO.refl _)
      | (with_reducible exact LeO.none _)
      | (with_reducible refine LeO.ite ?_ ?_)
      | (with_reducible refine LeO.bind ?_ (fun _ => ?_))
      | exact hustingsref10_Server.mono _ _
      | exact hustingsref10_colon.mono _ _
      | exact hustingsref10_of.mono _ _ _ _
      | exact LeO.none _
      | refine LeO.ite ?_ ?_
      | refine LeO.bind ?_ (fun _ => ?_)
set_option maxHeartbeats 8000000 in
set_option maxRecDepth 100000 in
theorem hustingsref10_named.calls (k : Nat) (a0 : ByteArray) (a1 : Int) (a2 : ByteArray) (a3 : ByteArray) (r : Bool) (w : World) (h : hustingsref10_named.f k a0 a1 a2 a3 = some r) :
    Calls Try.prog 85 #[.string a0, .int .u8 a1, .string a2, .string a3] w fun e w' => e = .returned (.bool r) ∧ Drawn0 w w' := by
  have H : ((hustingsref10_colon.f k a0).bind fun t85001 => (if (a0.size : Int) ≤ 255 then (if t85001 < (a0.size : Int) then (if t85001 > 0 then (if 0 < (a0.size : Int) then (if (bt a0 0) = a1 then (if 1 ≤ t85001 then (if t85001 ≤ (a0.size : Int) then ((hustingsref10_of.f k (a0.extract 1 (t85001 : Int).toNat) a2 a3).bind fun t85002 => (if t85002 = true then (if 0 ≤ (wrap64 (t85001 + 1)) then (if (wrap64 (t85001 + 1)) ≤ (a0.size : Int) then ((hustingsref10_Server.f k (a0.extract ((wrap64 (t85001 + 1)) : Int).toNat a0.size)).bind fun t85003 => (some t85003)) else (none)) else (none)) else (some false))) else (none)) else (none)) else (some false)) else (none)) else (some false)) else (some false)) else (some false))) = some r := h
  clear h
  replace H := Option.bind_eq_some_iff.mp H
  obtain ⟨t85001, A50, H⟩ := H
  replace H : (if (a0.size : Int) ≤ 255 then (if t85001 < (a0.size : Int) then (if t85001 > 0 then (if 0 < (a0.size : Int) then (if (bt a0 0) = a1 then (if 1 ≤ t85001 then (if t85001 ≤ (a0.size : Int) then ((hustingsref10_of.f k (a0.extract 1 (t85001 : Int).toNat) a2 a3).bind fun t85002 => (if t85002 = true then (if 0 ≤ (wrap64 (t85001 + 1)) then (if (wrap64 (t85001 + 1)) ≤ (a0.size : Int) then ((hustingsref10_Server.f k (a0.extract ((wrap64 (t85001 + 1)) : Int).toNat a0.size)).bind fun t85003 => (some t85003)) else (none)) else (none)) else (some false))) else (none)) else (none)) else (some false)) else (none)) else (some false)) else (some false)) else (some false)) = some r := H
  have A5 := Aside0.mk A50
  clear A50
  by_cases c6 : (a0.size : Int) ≤ 255
  · rw [if_pos c6] at H
    have c6b0 : decide ((a0.size : Int) ≤ 255) = true := decide_eq_true c6
    have c6b1 : decide (a0.size ≤ 255) = true := decide_eq_true (by omega)
    clear c6
    by_cases c7 : t85001 < (a0.size : Int)
    · rw [if_pos c7] at H
      have c7b0 : decide (t85001 < (a0.size : Int)) = true := decide_eq_true c7
      clear c7
      by_cases c8 : t85001 > 0
      · rw [if_pos c8] at H
        have c8b0 : decide (0 < t85001) = true := decide_eq_true c8
        clear c8
        by_cases c9 : 0 < (a0.size : Int)
        · rw [if_pos c9] at H
          have c9b0 : decide (0 < (a0.size : Int)) = true := decide_eq_true c9
          have c9b1 : decide (0 < a0.size) = true := decide_eq_true (by omega)
          clear c9
          by_cases c11 : (bt a0 0) = a1
          · rw [if_pos c11] at H
            have c11b0 : ((bt a0 0) == a1) = true := beq_iff_eq.mpr c11
            have c11b1 : ((bt a0 0) != a1) = false := bne_eq_false_iff_eq.mpr c11
            clear c11
            by_cases c12 : 1 ≤ t85001
            · rw [if_pos c12] at H
              have c12b0 := eq_true c12
              have c12b1 : decide (1 ≤ t85001) = true := decide_eq_true c12
              clear c12
              by_cases c13 : t85001 ≤ (a0.size : Int)
              · rw [if_pos c13] at H
                have c13b0 := eq_true c13
                have c13b1 : decide (t85001 ≤ (a0.size : Int)) = true := decide_eq_true c13
                clear c13
                replace H := Option.bind_eq_some_iff.mp H
                obtain ⟨t85002, A140, H⟩ := H
                replace H : (if t85002 = true then (if 0 ≤ (wrap64 (t85001 + 1)) then (if (wrap64 (t85001 + 1)) ≤ (a0.size : Int) then ((hustingsref10_Server.f k (a0.extract ((wrap64 (t85001 + 1)) : Int).toNat a0.size)).bind fun t85003 => (some t85003)) else (none)) else (none)) else (some false)) = some r := H
                have A14 := Aside0.mk A140
                clear A140
                by_cases c15 : t85002 = true
                · subst c15
                  have H1 : (if 0 ≤ (wrap64 (t85001 + 1)) then (if (wrap64 (t85001 + 1)) ≤ (a0.size : Int) then ((hustingsref10_Server.f k (a0.extract ((wrap64 (t85001 + 1)) : Int).toNat a0.size)).bind fun t85003 => (some t85003)) else (none)) else (none)) = some r := by rw [if_pos rfl] at H; exact H
                  clear H
                  have H := H1
                  clear H1
                  obtain ⟨ji16, hji16⟩ : ∃ j_ : Int, (wrap64 (t85001 + 1)) = j_ := ⟨_, rfl⟩
                  replace H : (if 0 ≤ (ji16) then (if (ji16) ≤ (a0.size : Int) then ((hustingsref10_Server.f k (a0.extract ((ji16) : Int).toNat a0.size)).bind fun t85003 => (some t85003)) else (none)) else (none)) = some r := by first | (rw [hji16] at H; exact H) | (simp only [hji16] at H ⊢; exact H)
                  (try rw [hji16] at A5)
                  (try rw [hji16] at A14)
                  have hji16w : (IntKind.i64.wrap (t85001 + 1)) = ji16 := (i64_w _).trans hji16
                  by_cases c17 : 0 ≤ (ji16)
                  · rw [if_pos c17] at H
                    have c17b0 := eq_true c17
                    have c17b1 : decide (0 ≤ (ji16)) = true := decide_eq_true c17
                    clear c17
                    by_cases c18 : (ji16) ≤ (a0.size : Int)
                    · rw [if_pos c18] at H
                      have c18b0 := eq_true c18
                      have c18b1 : decide ((ji16) ≤ (a0.size : Int)) = true := decide_eq_true c18
                      clear c18
                      replace H := Option.bind_eq_some_iff.mp H
                      obtain ⟨t85003, A190, H⟩ := H
                      replace H : (some t85003) = some r := H
                      have A19 := Aside0.mk A190
                      clear A190
                      obtain rfl := Option.some.inj H
                      go_enter Try.func85, Try.ntmps85
                      go_wp2_with (first | ((with_reducible refine gate_callee (f := 82) rfl ?_); refine goesL_ (some 11) rfl rfl Try.func82 (by kernel_rfl) rfl #[.string a0] rfl (by (try simp only [List.map_toArray, List.map_cons, List.map_nil]); first | done | rfl | (simp only [List.length_drop, List.length_take]; rfl)) ?_; (with_reducible refine (hustingsref10_colon.calls k a0 t85001 _ A5.out).mono ?_); rintro e w' ⟨rfl, ⟨nd, rfl⟩⟩; refine ⟨_, rfl, ?_⟩; have p10 : 0 ≤ (0 : Int) := (by omega); have q10 : 0 < a0.size := (by have : (0 : Int) < (a0.size : Int) := of_decide_eq_true (by first | (with_reducible assumption) | assumption); omega); have hx10 : ∀ h : 0 < a0.size, ((a0[0]'h).toNat : Int) = bt a0 0 := bt_at a0 0; clear p10; have qi10 : (0 < (a0.size : Int)) = True := eq_true (of_decide_eq_true (by first | (with_reducible assumption) | assumption)); replace q10 := eq_true q10) | (go_at_call 76; (with_reducible refine (hustingsref10_of.calls k (a0.extract 1 (t85001 : Int).toNat) a2 a3 true _ A14.out).mono ?_); rintro e w' ⟨rfl, ⟨nd, rfl⟩⟩) | (go_at_call 37; (with_reducible refine (hustingsref10_Server.calls k (a0.extract ((ji16) : Int).toNat a0.size) t85003 _ A19.out).mono ?_); rintro e w' ⟨rfl, ⟨nd, rfl⟩⟩))
                      go_ret
                      exact ⟨by first | rfl | (simp; done) | (simp only [← hji16] <;> (first | rfl | simp)) | (simp [*]; done), by repeat (first | exact Drawn0.refl _ | apply Drawn0.step)⟩
                    · rw [if_neg c18] at H
                      exact absurd H (by simp)
                  · rw [if_neg c17] at H
                    exact absurd H (by simp)
                · replace c15 := Bool.eq_false_iff.mpr c15
                  subst c15
                  have H1 : (some false) = some r := by rw [if_neg (show ¬ (false = true) by decide)] at H; exact H
                  clear H
                  have H := H1
                  clear H1
                  obtain rfl := Option.some.inj H
                  go_enter Try.func85, Try.ntmps85
                  go_wp2_with (first | ((with_reducible refine gate_callee (f := 82) rfl ?_); refine goesL_ (some 11) rfl rfl Try.func82 (by kernel_rfl) rfl #[.string a0] rfl (by (try simp only [List.map_toArray, List.map_cons, List.map_nil]); first | done | rfl | (simp only [List.length_drop, List.length_take]; rfl)) ?_; (with_reducible refine (hustingsref10_colon.calls k a0 t85001 _ A5.out).mono ?_); rintro e w' ⟨rfl, ⟨nd, rfl⟩⟩; refine ⟨_, rfl, ?_⟩; have p10 : 0 ≤ (0 : Int) := (by omega); have q10 : 0 < a0.size := (by have : (0 : Int) < (a0.size : Int) := of_decide_eq_true (by first | (with_reducible assumption) | assumption); omega); have hx10 : ∀ h : 0 < a0.size, ((a0[0]'h).toNat : Int) = bt a0 0 := bt_at a0 0; clear p10; have qi10 : (0 < (a0.size : Int)) = True := eq_true (of_decide_eq_true (by first | (with_reducible assumption) | assumption)); replace q10 := eq_true q10) | (go_at_call 76; (with_reducible refine (hustingsref10_of.calls k (a0.extract 1 (t85001 : Int).toNat) a2 a3 false _ A14.out).mono ?_); rintro e w' ⟨rfl, ⟨nd, rfl⟩⟩))
                  go_ret
                  exact ⟨by first | rfl | (simp; done) | (simp [*]; done), by repeat (first | exact Drawn0.refl _ | apply Drawn0.step)⟩
              · rw [if_neg c13] at H
                exact absurd H (by simp)
            · rw [if_neg c12] at H
              exact absurd H (by simp)
          · rw [if_neg c11] at H
            have c11b0 : ((bt a0 0) == a1) = false := beq_eq_false_iff_ne.mpr c11
            have c11b1 : ((bt a0 0) != a1) = true := bne_iff_ne.mpr c11
            obtain rfl := Option.some.inj H
            go_enter Try.func85, Try.ntmps85
            go_wp2_with (first | ((with_reducible refine gate_callee (f := 82) rfl ?_); refine goesL_ (some 11) rfl rfl Try.func82 (by kernel_rfl) rfl #[.string a0] rfl (by (try simp only [List.map_toArray, List.map_cons, List.map_nil]); first | done | rfl | (simp only [List.length_drop, List.length_take]; rfl)) ?_; (with_reducible refine (hustingsref10_colon.calls k a0 t85001 _ A5.out).mono ?_); rintro e w' ⟨rfl, ⟨nd, rfl⟩⟩; refine ⟨_, rfl, ?_⟩; have p10 : 0 ≤ (0 : Int) := (by omega); have q10 : 0 < a0.size := (by have : (0 : Int) < (a0.size : Int) := of_decide_eq_true (by first | (with_reducible assumption) | assumption); omega); have hx10 : ∀ h : 0 < a0.size, ((a0[0]'h).toNat : Int) = bt a0 0 := bt_at a0 0; clear p10; have qi10 : (0 < (a0.size : Int)) = True := eq_true (of_decide_eq_true (by first | (with_reducible assumption) | assumption)); replace q10 := eq_true q10))
            go_ret
            exact ⟨by first | rfl | (simp; done) | (simp [*]; done), by repeat (first | exact Drawn0.refl _ | apply Drawn0.step)⟩
        · rw [if_neg c9] at H
          exact absurd H (by simp)
      · rw [if_neg c8] at H
        have c8b0 : decide (0 < t85001) = false := decide_eq_false c8
        clear c8
        obtain rfl := Option.some.inj H
        go_enter Try.func85, Try.ntmps85
        go_wp2_with (first | ((with_reducible refine gate_callee (f := 82) rfl ?_); refine goesL_ (some 11) rfl rfl Try.func82 (by kernel_rfl) rfl #[.string a0] rfl (by (try simp only [List.map_toArray, List.map_cons, List.map_nil]); first | done | rfl | (simp only [List.length_drop, List.length_take]; rfl)) ?_; (with_reducible refine (hustingsref10_colon.calls k a0 t85001 _ A5.out).mono ?_); rintro e w' ⟨rfl, ⟨nd, rfl⟩⟩; refine ⟨_, rfl, ?_⟩))
        go_ret
        exact ⟨by first | rfl | (simp; done) | (simp [*]; done), by repeat (first | exact Drawn0.refl _ | apply Drawn0.step)⟩
    · rw [if_neg c7] at H
      have c7b0 : decide (t85001 < (a0.size : Int)) = false := decide_eq_false c7
      clear c7
      obtain rfl := Option.some.inj H
      go_enter Try.func85, Try.ntmps85
      go_wp2_with (first | ((with_reducible refine gate_callee (f := 82) rfl ?_); refine goesL_ (some 11) rfl rfl Try.func82 (by kernel_rfl) rfl #[.string a0] rfl (by (try simp only [List.map_toArray, List.map_cons, List.map_nil]); first | done | rfl | (simp only [List.length_drop, List.length_take]; rfl)) ?_; (with_reducible refine (hustingsref10_colon.calls k a0 t85001 _ A5.out).mono ?_); rintro e w' ⟨rfl, ⟨nd, rfl⟩⟩; refine ⟨_, rfl, ?_⟩))
      go_ret
      exact ⟨by first | rfl | (simp; done) | (simp [*]; done), by repeat (first | exact Drawn0.refl _ | apply Drawn0.step)⟩
  · rw [if_neg c6] at H
    have c6b0 : decide ((a0.size : Int) ≤ 255) = false := decide_eq_false c6
    have c6b1 : decide (a0.size ≤ 255) = false := decide_eq_false (by omega)
    clear c6
    obtain rfl := Option.some.inj H
    go_enter Try.func85, Try.ntmps85
    go_wp2_with (first | ((with_reducible refine gate_callee (f := 82) rfl ?_); refine goesL_ (some 11) rfl rfl Try.func82 (by kernel_rfl) rfl #[.string a0] rfl (by (try simp only [List.map_toArray, List.map_cons, List.map_nil]); first | done | rfl | (simp only [List.length_drop, List.length_take]; rfl)) ?_; (with_reducible refine (hustingsref10_colon.calls k a0 t85001 _ A5.out).mono ?_); rintro e w' ⟨rfl, ⟨nd, rfl⟩⟩; refine ⟨_, rfl, ?_⟩))
    go_ret
    exact ⟨by first | rfl | (simp; done) | (simp [*]; done), by repeat (first | exact Drawn0.refl _ | apply Drawn0.step)⟩

end Go.Proofs.Ytboelmakccaenaa.P
