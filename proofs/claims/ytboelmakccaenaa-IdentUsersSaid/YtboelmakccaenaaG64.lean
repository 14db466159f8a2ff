-- Written by wip/tools/myprint.py of this session, over the kit's printer. Not trusted: Lean checks it.
import Derived.Test.YtboelmakccaenaaG0
import Derived.Test.YtboelmakccaenaaG82
import Derived.Test.YtboelmakccaenaaG39
import Derived.Test.YtboelmakccaenaaG62
namespace Go.Proofs.Ytboelmakccaenaa.P
open Go.RowKit Go.Proofs.YtboelmakccaenaaW.PrintWords Go.Proofs.YtboelmakccaenaaW.PrintLast Go.Proofs.YtboelmakccaenaaW.PrintMore
attribute [local go_sem] max2_int min2_int max_two min_two max_three min_three max_four min_four   -- for this text's walks alone
set_option linter.unusedVariables false
set_option linter.unusedSimpArgs false

/-! ### hustingsref10_Domain: function 64 -/
def hustingsref10_Domain.f (k : Nat) (a0 : ByteArray) : Option (ByteArray) := (hustingsref10_User.f k a0).bind fun t64001 => (if t64001 = true then ((hustingsref10_colon.f k a0).bind fun t64002 => (if 0 ≤ (wrap64 (t64002 + 1)) then (if (wrap64 (t64002 + 1)) ≤ (a0.size : Int) then (some (a0.extract ((wrap64 (t64002 + 1)) : Int).toNat a0.size)) else (none)) else (none))) else ((hustingsref10_Room.f k a0).bind fun t64003 => (if t64003 = true then ((hustingsref10_colon.f k a0).bind fun t64004 => (if 0 ≤ (wrap64 (t64004 + 1)) then (if (wrap64 (t64004 + 1)) ≤ (a0.size : Int) then (some (a0.extract ((wrap64 (t64004 + 1)) : Int).toNat a0.size)) else (none)) else (none))) else (some (⟨#[]⟩ : ByteArray)))))
theorem hustingsref10_Domain.mono : ∀ a0 k, LeO (hustingsref10_Domain.f k a0) (hustingsref10_Domain.f (k + 1) a0) := by
  intro a0 k
  unfold hustingsref10_Domain.f
  repeat' first
      | (with_reducible exact hustingsref10_Room.mono _ _)
      | (with_reducible exact hustingsref10_User.mono _ _)
      | (with_reducible exact hustingsref10_colon.mono _ _)
      | (with_reducible exact LeO.refl _)
      | (with_reducible exact LeO.none _)
      | (with_reducible refine LeO.ite ?_ ?_)
      | (with_reducible refine LeO.bind ?_ (fun _ => ?_))
      | exact hustingsref10_Room.mono _ _
      | exact hustingsref10_User.mono _ _
      | exact hustingsref10_colon.mono _ _
      | exact LeO.none _
      | refine LeO.ite ?_ ?_
      | refine LeO.bind ?_ (fun _ => ?_)
set_option maxHeartbeats 8000000 in
set_option maxRecDepth 100000 in
theorem hustingsref10_Domain.calls (k : Nat) (a0 : ByteArray) (r : ByteArray) (w : World) (h : hustingsref10_Domain.f k a0 = some r) :
    Calls Try.prog 64 #[.string a0] w fun e w' => e = .returned (.string r) ∧ Drawn0 w w' := by
  have H : ((hustingsref10_User.f k a0).bind fun t64001 => (if t64001 = true then ((hustingsref10_colon.f k a0).bind fun t64002 => (if 0 ≤ (wrap64 (t64002 + 1)) then (if (wrap64 (t64002 + 1)) ≤ (a0.size : Int) then (some (a0.extract ((wrap64 (t64002 + 1)) : Int).toNat a0.size)) else (none)) else (none))) else ((hustingsref10_Room.f k a0).bind fun t64003 => (if t64003 = true then ((hustingsref10_colon.f k a0).bind fun t64004 => (if 0 ≤ (wrap64 (t64004 + 1)) then (if (wrap64 (t64004 + 1)) ≤ (a0.size : Int) then (some (a0.extract ((wrap64 (t64004 + 1)) : Int).toNat a0.size)) else (none)) else (none))) else (some (⟨#[]⟩ : ByteArray)))))) = some r := h
  clear h
  replace H := Option.bind_eq_some_iff.mp H
  obtain ⟨t64001, A20, H⟩ := H
  replace H : (if t64001 = true then ((hustingsref10_colon.f k a0).bind fun t64002 => (if 0 ≤ (wrap64 (t64002 + 1)) then (if (wrap64 (t64002 + 1)) ≤ (a0.size : Int) then (some (a0.extract ((wrap64 (t64002 + 1)) : Int).toNat a0.size)) else (none)) else (none))) else ((hustingsref10_Room.f k a0).bind fun t64003 => (if t64003 = true then ((hustingsref10_colon.f k a0).bind fun t64004 => (if 0 ≤ (wrap64 (t64004 + 1)) then (if (wrap64 (t64004 + 1)) ≤ (a0.size : Int) then (some (a0.extract ((wrap64 (t64004 + 1)) : Int).toNat a0.size)) else (none)) else (none))) else (some (⟨#[]⟩ : ByteArray))))) = some r := H
  have A2 := Aside0.mk A20
  clear A20
  by_cases c3 : t64001 = true
  · subst c3
    have H1 : ((hustingsref10_colon.f k a0).bind fun t64002 => (if 0 ≤ (wrap64 (t64002 + 1)) then (if (wrap64 (t64002 + 1)) ≤ (a0.size : Int) then (some (a0.extract ((wrap64 (t64002 + 1)) : Int).toNat a0.size)) else (none)) else (none))) = some r := by rw [if_pos rfl] at H; exact H
    clear H
    have H := H1
    clear H1
    replace H := Option.bind_eq_some_iff.mp H
    obtain ⟨t64002, A40, H⟩ := H
    replace H : (if 0 ≤ (wrap64 (t64002 + 1)) then (if (wrap64 (t64002 + 1)) ≤ (a0.size : Int) then (some (a0.extract ((wrap64 (t64002 + 1)) : Int).toNat a0.size)) else (none)) else (none)) = some r := H
    have A4 := Aside0.mk A40
    clear A40
    obtain ⟨ji5, hji5⟩ : ∃ j_ : Int, (wrap64 (t64002 + 1)) = j_ := ⟨_, rfl⟩
    replace H : (if 0 ≤ (ji5) then (if (ji5) ≤ (a0.size : Int) then (some (a0.extract ((ji5) : Int).toNat a0.size)) else (none)) else (none)) = some r := by first | (rw [hji5] at H; exact H) | (simp only [hji5] at H ⊢; exact H)
    (try rw [hji5] at A2)
    (try rw [hji5] at A4)
    have hji5w : (IntKind.i64.wrap (t64002 + 1)) = ji5 := (i64_w _).trans hji5
    by_cases c6 : 0 ≤ (ji5)
    · rw [if_pos c6] at H
      have c6b0 := eq_true c6
      have c6b1 : decide (0 ≤ (ji5)) = true := decide_eq_true c6
      clear c6
      by_cases c7 : (ji5) ≤ (a0.size : Int)
      · rw [if_pos c7] at H
        have c7b0 := eq_true c7
        have c7b1 : decide ((ji5) ≤ (a0.size : Int)) = true := decide_eq_true c7
        clear c7
        obtain rfl := Option.some.inj H
        go_enter Try.func64, Try.ntmps64
        go_wp2_with (first | ((with_reducible refine gate_callee (f := 62) rfl ?_); refine goesL_ (some 4) rfl rfl Try.func62 (by kernel_rfl) rfl #[.string a0] rfl (by (try simp only [List.map_toArray, List.map_cons, List.map_nil]); first | done | rfl | (simp only [List.length_drop, List.length_take]; rfl)) ?_; (with_reducible refine (hustingsref10_User.calls k a0 true _ A2.out).mono ?_); rintro e w' ⟨rfl, ⟨nd, rfl⟩⟩; refine ⟨_, rfl, ?_⟩) | ((with_reducible refine gate_callee (f := 82) rfl ?_); refine goesL_ (some 13) rfl rfl Try.func82 (by kernel_rfl) rfl #[.string a0] rfl (by (try simp only [List.map_toArray, List.map_cons, List.map_nil]); first | done | rfl | (simp only [List.length_drop, List.length_take]; rfl)) ?_; (with_reducible refine (hustingsref10_colon.calls k a0 t64002 _ A4.out).mono ?_); rintro e w' ⟨rfl, ⟨nd, rfl⟩⟩; refine ⟨_, rfl, ?_⟩))
        go_ret
        exact ⟨by first | rfl | (simp; done) | (simp only [← hji5] <;> (first | rfl | simp)) | (simp [*]; done), by repeat (first | exact Drawn0.refl _ | apply Drawn0.step)⟩
      · rw [if_neg c7] at H
        exact absurd H (by simp)
    · rw [if_neg c6] at H
      exact absurd H (by simp)
  · replace c3 := Bool.eq_false_iff.mpr c3
    subst c3
    have H1 : ((hustingsref10_Room.f k a0).bind fun t64003 => (if t64003 = true then ((hustingsref10_colon.f k a0).bind fun t64004 => (if 0 ≤ (wrap64 (t64004 + 1)) then (if (wrap64 (t64004 + 1)) ≤ (a0.size : Int) then (some (a0.extract ((wrap64 (t64004 + 1)) : Int).toNat a0.size)) else (none)) else (none))) else (some (⟨#[]⟩ : ByteArray)))) = some r := by rw [if_neg (show ¬ (false = true) by decide)] at H; exact H
    clear H
    have H := H1
    clear H1
    replace H := Option.bind_eq_some_iff.mp H
    obtain ⟨t64003, A80, H⟩ := H
    replace H : (if t64003 = true then ((hustingsref10_colon.f k a0).bind fun t64004 => (if 0 ≤ (wrap64 (t64004 + 1)) then (if (wrap64 (t64004 + 1)) ≤ (a0.size : Int) then (some (a0.extract ((wrap64 (t64004 + 1)) : Int).toNat a0.size)) else (none)) else (none))) else (some (⟨#[]⟩ : ByteArray))) = some r := H
    have A8 := Aside0.mk A80
    clear A80
    by_cases c9 : t64003 = true
    · subst c9
      have H1 : ((hustingsref10_colon.f k a0).bind fun t64004 => (if 0 ≤ (wrap64 (t64004 + 1)) then (if (wrap64 (t64004 + 1)) ≤ (a0.size : Int) then (some (a0.extract ((wrap64 (t64004 + 1)) : Int).toNat a0.size)) else (none)) else (none))) = some r := by rw [if_pos rfl] at H; exact H
      clear H
      have H := H1
      clear H1
      replace H := Option.bind_eq_some_iff.mp H
      obtain ⟨t64004, A100, H⟩ := H
      replace H : (if 0 ≤ (wrap64 (t64004 + 1)) then (if (wrap64 (t64004 + 1)) ≤ (a0.size : Int) then (some (a0.extract ((wrap64 (t64004 + 1)) : Int).toNat a0.size)) else (none)) else (none)) = some r := H
      have A10 := Aside0.mk A100
      clear A100
      obtain ⟨ji11, hji11⟩ : ∃ j_ : Int, (wrap64 (t64004 + 1)) = j_ := ⟨_, rfl⟩
      replace H : (if 0 ≤ (ji11) then (if (ji11) ≤ (a0.size : Int) then (some (a0.extract ((ji11) : Int).toNat a0.size)) else (none)) else (none)) = some r := by first | (rw [hji11] at H; exact H) | (simp only [hji11] at H ⊢; exact H)
      (try rw [hji11] at A2)
      (try rw [hji11] at A8)
      (try rw [hji11] at A10)
      have hji11w : (IntKind.i64.wrap (t64004 + 1)) = ji11 := (i64_w _).trans hji11
      by_cases c12 : 0 ≤ (ji11)
      · rw [if_pos c12] at H
        have c12b0 := eq_true c12
        have c12b1 : decide (0 ≤ (ji11)) = true := decide_eq_true c12
        clear c12
        by_cases c13 : (ji11) ≤ (a0.size : Int)
        · rw [if_pos c13] at H
          have c13b0 := eq_true c13
          have c13b1 : decide ((ji11) ≤ (a0.size : Int)) = true := decide_eq_true c13
          clear c13
          obtain rfl := Option.some.inj H
          go_enter Try.func64, Try.ntmps64
          go_wp2_with (first | ((with_reducible refine gate_callee (f := 62) rfl ?_); refine goesL_ (some 4) rfl rfl Try.func62 (by kernel_rfl) rfl #[.string a0] rfl (by (try simp only [List.map_toArray, List.map_cons, List.map_nil]); first | done | rfl | (simp only [List.length_drop, List.length_take]; rfl)) ?_; (with_reducible refine (hustingsref10_User.calls k a0 false _ A2.out).mono ?_); rintro e w' ⟨rfl, ⟨nd, rfl⟩⟩; refine ⟨_, rfl, ?_⟩) | (go_at_call 39; (with_reducible refine (hustingsref10_Room.calls k a0 true _ A8.out).mono ?_); rintro e w' ⟨rfl, ⟨nd, rfl⟩⟩) | ((with_reducible refine gate_callee (f := 82) rfl ?_); refine goesL_ (some 13) rfl rfl Try.func82 (by kernel_rfl) rfl #[.string a0] rfl (by (try simp only [List.map_toArray, List.map_cons, List.map_nil]); first | done | rfl | (simp only [List.length_drop, List.length_take]; rfl)) ?_; (with_reducible refine (hustingsref10_colon.calls k a0 t64004 _ A10.out).mono ?_); rintro e w' ⟨rfl, ⟨nd, rfl⟩⟩; refine ⟨_, rfl, ?_⟩))
          go_ret
          exact ⟨by first | rfl | (simp; done) | (simp only [← hji11] <;> (first | rfl | simp)) | (simp [*]; done), by repeat (first | exact Drawn0.refl _ | apply Drawn0.step)⟩
        · rw [if_neg c13] at H
          exact absurd H (by simp)
      · rw [if_neg c12] at H
        exact absurd H (by simp)
    · replace c9 := Bool.eq_false_iff.mpr c9
      subst c9
      have H1 : (some (⟨#[]⟩ : ByteArray)) = some r := by rw [if_neg (show ¬ (false = true) by decide)] at H; exact H
      clear H
      have H := H1
      clear H1
      obtain rfl := Option.some.inj H
      go_enter Try.func64, Try.ntmps64
      go_wp2_with (first | ((with_reducible refine gate_callee (f := 62) rfl ?_); refine goesL_ (some 4) rfl rfl Try.func62 (by kernel_rfl) rfl #[.string a0] rfl (by (try simp only [List.map_toArray, List.map_cons, List.map_nil]); first | done | rfl | (simp only [List.length_drop, List.length_take]; rfl)) ?_; (with_reducible refine (hustingsref10_User.calls k a0 false _ A2.out).mono ?_); rintro e w' ⟨rfl, ⟨nd, rfl⟩⟩; refine ⟨_, rfl, ?_⟩) | (go_at_call 39; (with_reducible refine (hustingsref10_Room.calls k a0 false _ A8.out).mono ?_); rintro e w' ⟨rfl, ⟨nd, rfl⟩⟩))
      go_ret
      exact ⟨by first | rfl | (simp; done) | (simp [*]; done), by repeat (first | exact Drawn0.refl _ | apply Drawn0.step)⟩

end Go.Proofs.Ytboelmakccaenaa.P
