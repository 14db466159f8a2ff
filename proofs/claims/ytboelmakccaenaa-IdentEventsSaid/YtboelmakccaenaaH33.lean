/- hustingslaw01.alive answers true. -/
import Derived.Test.YtboelmakccaenaaH4
import Derived.Test.YtboelmakccaenaaH29
namespace Go.Proofs.Ytboelmakccaenaa.P
set_option linter.unusedVariables false
open Go.RowKit Go.Proofs.YtboelmakccaenaaW.PrintWords Go.Proofs.YtboelmakccaenaaW.PrintLast Go.Proofs.YtboelmakccaenaaW.PrintMore
theorem dec_Zh : decL false (bytesOf ⟨#[90, 104]⟩) = none := by decide +kernel
theorem enc_fbff : encS [251, 255] true = ⟨#[45, 95, 56]⟩ := by decide +kernel
theorem enc_const2 (w : World) : Calls Try.prog 24 #[.slice (some ⟨w.heap.size, 0, none⟩) 2 2, .bool true] (w.alloc (.cells #[.int .u8 251, .int .u8 255] 5)) fun e w' => e = .returned (.string ⟨#[45, 95, 56]⟩) ∧ Below w.heap.size w w' := by
  have h := enc_calls (some ⟨w.heap.size, 0, none⟩) 2 [251, 255] true _ (const_C w [251, 255] 0 0 (by simp)) (by simp) (by intro x hx; simp at hx; omega) (by simp)
  refine h.mono fun e w' ⟨he, hb⟩ => ⟨by rw [he, enc_fbff], ?_⟩
  exact ((Below.refl _ _).alloc (Nat.le_refl _) _).trans (hb.mono (by simp))
def hustingslaw01_alive.f : Option Bool := some true
theorem hustingslaw01_alive.calls (r : Bool) (w : World) (h : hustingslaw01_alive.f = some r) :
    Calls Try.prog 33 #[] w fun e w' => e = .returned (.bool r) ∧ Below w.heap.size w w' := by
  obtain rfl := Option.some.inj h
  clear h
  have kc := fun (w : World) (C : Array Value) (n c : Nat) => Lib.run_convert_bytes_const (P := Try.prog) w 23 5 C n c Try.underlying23 Try.underlying5
  go_enter Try.func33, Try.ntmps33
  go_wp2_with fail
  refine (letters_Decode.calls ⟨#[90, 104]⟩ false [] false _ (by unfold letters_Decode.f; rw [dec_Zh]; rfl)).mono ?_
  rintro e w1 ⟨v, rfl, hr, hb⟩
  have HB := Aside0.mk hb
  clear hr hb
  go_wp2_with fail
  refine (enc_const _).mono ?_
  rintro e w2 ⟨rfl, hb⟩
  have HB2 := Aside0.mk (below_then HB.out HB.out.size hb)
  clear hb
  go_wp2_with fail
  refine (enc_const2 _).mono ?_
  rintro e w3 ⟨rfl, hb⟩
  have HB3 := Aside0.mk (below_then HB2.out HB2.out.size hb)
  clear hb
  go_wp2_with fail
  go_ret
  exact ⟨rfl, HB3.out⟩
end Go.Proofs.Ytboelmakccaenaa.P
