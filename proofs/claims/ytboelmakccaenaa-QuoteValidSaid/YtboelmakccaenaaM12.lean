/- The statement QuoteValid, over what the calls compute. -/
import Derived.Test.YtboelmakccaenaaM11
import Derived.Test.YtboelmakccaenaaH22
import Derived.Test.YtboelmakccaenaaG3
namespace Go.Proofs.Ytboelmakccaenaa.P
set_option linter.unusedVariables false
open Go.RowKit Go.Proofs.YtboelmakccaenaaW.PrintWords Go.Proofs.YtboelmakccaenaaW.PrintLast Go.Proofs.YtboelmakccaenaaW.PrintMore
theorem valid_f (s : ByteArray) (hs : s.size ≤ 140737488351232) : quote_Valid.f s = some (validL (bytesOf s)) := by
  unfold quote_Valid.f; rw [if_pos hs]
theorem valid_lit (z : ByteArray) (l : List Int) (b : Bool) (hz : bytesOf z = l) (hb : validL l = b) (hl : l.length ≤ 100) : quote_Valid.f z = some b := by
  have hs : z.size ≤ 100 := by rw [← bytesOf_length, hz]; exact hl
  rw [valid_f z (by omega), hz, hb]
theorem QuoteValid_pure : hustingslaw08_QuoteValid.Pure := by
  intro s hs
  obtain ⟨z, hz⟩ : ∃ z : ByteArray, z = ⟨#[195, 169]⟩ := ⟨_, rfl⟩
  obtain ⟨y, hy⟩ : ∃ y : ByteArray, y = ⟨#[255]⟩ := ⟨_, rfl⟩
  have hzf : quote_Valid.f z = some true := valid_lit z [195, 169] true (by rw [hz]; rfl) (by decide) (by decide)
  have hyf : quote_Valid.f y = some false := valid_lit y [255] false (by rw [hy]; rfl) (by decide) (by decide)
  refine ⟨s.size + 14, ?_⟩
  unfold hustingslaw08_QuoteValid.f
  rw [← hz, hzf, Option.bind_some, if_pos rfl, ← hy, hyf, Option.bind_some]
  show hustingslaw08_QuoteValid.j0 (s.size + 13 + 1) s false = some true
  simp only [hustingslaw08_QuoteValid.j0]
  rw [if_neg (by decide)]
  by_cases h : (s.size : Int) > 16384
  · rw [if_pos h]
  · rw [if_neg h, valid_f s hs, Option.bind_some, ref_valid_f s, Option.bind_some]
    simp
end Go.Proofs.Ytboelmakccaenaa.P
