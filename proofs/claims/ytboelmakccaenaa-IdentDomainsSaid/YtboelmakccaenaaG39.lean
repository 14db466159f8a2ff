-- Written by wip/tools/myprint.py of this session, over the kit's printer. Not trusted: Lean checks it.
import Derived.Test.YtboelmakccaenaaG0
import Derived.Test.YtboelmakccaenaaG85
namespace Go.Proofs.Ytboelmakccaenaa.P
open Go.RowKit Go.Proofs.YtboelmakccaenaaW.PrintWords Go.Proofs.YtboelmakccaenaaW.PrintLast Go.Proofs.YtboelmakccaenaaW.PrintMore
attribute [local go_sem] max2_int min2_int max_two min_two max_three min_three max_four min_four   -- for this text's walks alone
set_option linter.unusedVariables false
set_option linter.unusedSimpArgs false

/-! ### hustingsref10_Room: function 39 -/
def hustingsref10_Room.f (k : Nat) (a0 : ByteArray) : Option (Bool) := (hustingsref10_named.f k a0 33 (⟨#[97, 65, 48]⟩ : ByteArray) (⟨#[95, 45]⟩ : ByteArray)).bind fun t39001 => (some t39001)
theorem hustingsref10_Room.mono : ∀ a0 k, LeO (hustingsref10_Room.f k a0) (hustingsref10_Room.f (k + 1) a0) := by
  intro a0 k
  unfold hustingsref10_Room.f
  repeat' first
      | (with_reducible exact hustingsref10_named.mono _ _ _ _ _)
      | (with_reducible exact LeO.refl _)
      | (with_reducible exact LeO.none _)
      | (with_reducible refine LeO.ite ?_ ?_)
      | (with_reducible refine LeO.bind ?_ (fun _ => ?_))
      | exact hustingsref10_named.mono _ _ _ _ _
      | exact LeO.none _
      | refine LeO.ite ?_ ?_
      | refine LeO.bind ?_ (fun _ => ?_)
set_option maxHeartbeats 8000000 in
set_option maxRecDepth 100000 in
theorem hustingsref10_Room.calls (k : Nat) (a0 : ByteArray) (r : Bool) (w : World) (h : hustingsref10_Room.f k a0 = some r) :
    Calls Try.prog 39 #[.string a0] w fun e w' => e = .returned (.bool r) ∧ Drawn0 w w' := by
  have H : ((hustingsref10_named.f k a0 33 (⟨#[97, 65, 48]⟩ : ByteArray) (⟨#[95, 45]⟩ : ByteArray)).bind fun t39001 => (some t39001)) = some r := h
  clear h
  replace H := Option.bind_eq_some_iff.mp H
  obtain ⟨t39001, A20, H⟩ := H
  replace H : (some t39001) = some r := H
  have A2 := Aside0.mk A20
  clear A20
  obtain rfl := Option.some.inj H
  go_enter Try.func39, Try.ntmps39
  go_wp2_with (first | ((with_reducible refine gate_callee (f := 85) rfl ?_); refine goesL_ (some 4) rfl rfl Try.func85 (by kernel_rfl) rfl #[.string a0, .int .u8 33, .string (⟨#[97, 65, 48]⟩ : ByteArray), .string (⟨#[95, 45]⟩ : ByteArray)] rfl (by (try simp only [List.map_toArray, List.map_cons, List.map_nil]); first | done | rfl | (simp only [List.length_drop, List.length_take]; rfl)) ?_; (with_reducible refine (hustingsref10_named.calls k a0 33 (⟨#[97, 65, 48]⟩ : ByteArray) (⟨#[95, 45]⟩ : ByteArray) t39001 _ A2.out).mono ?_); rintro e w' ⟨rfl, ⟨nd, rfl⟩⟩; refine ⟨_, rfl, ?_⟩))
  go_ret
  exact ⟨by first | rfl | (simp; done) | (simp [*]; done), by repeat (first | exact Drawn0.refl _ | apply Drawn0.step)⟩

end Go.Proofs.Ytboelmakccaenaa.P
