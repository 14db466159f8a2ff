/- The statements on letters, over what the calls compute. -/
import Derived.Test.YtboelmakccaenaaM5
import Derived.Test.YtboelmakccaenaaH4
import Derived.Test.YtboelmakccaenaaG7
import Derived.Test.YtboelmakccaenaaG9
import Derived.Test.YtboelmakccaenaaG10
import Derived.Test.YtboelmakccaenaaG8
import Derived.Lib.Strings
namespace Go.Proofs.Ytboelmakccaenaa.P
set_option linter.unusedVariables false
open Go.RowKit Go.Proofs.YtboelmakccaenaaW.PrintWords Go.Proofs.YtboelmakccaenaaW.PrintLast Go.Proofs.YtboelmakccaenaaW.PrintMore
theorem enc_fo' : encS [102, 111] true = ⟨#[90, 109, 56]⟩ := by decide +kernel
theorem dec_Zm8 (u : Bool) : decL u (bytesOf ⟨#[90, 109, 56]⟩) = some [102, 111] := by
  have h := decL_enc u [102, 111] (by intro x hx; simp at hx; omega)
  have e : encS [102, 111] u = ⟨#[90, 109, 56]⟩ := by cases u; exact enc_fo; exact enc_fo'
  rwa [e] at h
theorem Zm8_f (u : Bool) (z : ByteArray) (hz : z = ⟨#[90, 109, 56]⟩) : letters_Decode.f z u = some ([102, 111], true) := by
  have hs : z.size = 3 := by rw [hz]; rfl
  have hd : decL u (bytesOf z) = some [102, 111] := by rw [hz]; exact dec_Zm8 u
  rw [dec_f u z (by omega), hd]
  rfl
theorem fo_str : (strOfNums [102, 111]).toList = ([102, 111] : List UInt8) := by rw [Lib.toList_data]; rfl
theorem LettersReads_pure : hustingslaw01_LettersReads.Pure := by
  intro s u hs
  obtain ⟨z, hz⟩ : ∃ z : ByteArray, z = ⟨#[90, 109, 56]⟩ := ⟨_, rfl⟩
  have hf := Zm8_f u z hz
  by_cases hg : s.size ≤ 16384
  · obtain ⟨K, hK⟩ := ref_decode_ev u s (by omega)
    refine ⟨K + 1, ?_⟩
    unfold hustingslaw01_LettersReads.f
    rw [← hz, hf]
    simp only [Option.bind_some]
    rw [if_pos fo_str]
    simp only [hustingslaw01_LettersReads.j0, Bool.not_true, Bool.false_eq_true, if_false]
    rw [if_neg (by omega), dec_f u s hs, Option.bind_some, hK, Option.bind_some]
    simp
  · refine ⟨1, ?_⟩
    unfold hustingslaw01_LettersReads.f
    rw [← hz, hf]
    simp only [Option.bind_some]
    rw [if_pos fo_str]
    simp only [hustingslaw01_LettersReads.j0, Bool.not_true, Bool.false_eq_true, if_false]
    rw [if_pos (by omega)]
theorem LettersBack_pure : hustingslaw01_LettersBack.Pure := by
  intro l s u hm hl hw hs
  have hB := bs_of_wf hw
  refine ⟨4 * l.length + 4 * 16384 + 40, ?_⟩
  unfold hustingslaw01_LettersBack.f
  simp only [hustingslaw01_alive.f, Option.bind_some, if_true]
  have hz : ∀ k, hustingslaw01_LettersBack.j0 (k + 1) l s u true = some true := fun k => by simp [hustingslaw01_LettersBack.j0]
  by_cases h1 : (l.length : Int) > 16384
  · rw [if_pos h1]
    exact hz _
  · rw [if_neg h1]
    by_cases h2 : (s.size : Int) > 16384
    · rw [decide_eq_true h2]
      exact hz _
    · rw [decide_eq_false h2]
      simp only [hustingslaw01_LettersBack.j0, Bool.false_eq_true, if_false]
      have hsz := encS_size l u
      rw [encode_eq u l hB (by omega) (by omega)]
      simp only [Option.bind_some]
      rw [dec_f u _ (by omega), decL_enc u l hB]
      simp only [Option.bind_some, Option.getD_some, Option.isSome_some, if_true, bne_self_eq_false]
      simp only [hustingslaw01_LettersBack.j1, Bool.false_eq_true, if_false]
      rw [dec_f u s hs]
      simp only [Option.bind_some]
      rcases hd : decL u (bytesOf s) with _ | y
      · simp
      · obtain ⟨hy, he⟩ := decL_some hd
        have hys := encS_size y u
        rw [he] at hys
        simp only [Option.getD_some, Option.isSome_some, if_true]
        rw [encode_eq u y hy (by omega) (by omega)]
        simp [he]
theorem LettersParts_pure : hustingslaw01_LettersParts.Pure := by
  intro l a u hm hl hw ha
  have hB := bs_of_wf hw
  refine ⟨4 * l.length + 10, ?_⟩
  unfold hustingslaw01_LettersParts.f
  simp only [hustingslaw01_alive.f, Option.bind_some, if_true]
  have hz : ∀ k, hustingslaw01_LettersParts.j0 (k + 1) l a u true = some true := fun k => by simp [hustingslaw01_LettersParts.j0]
  by_cases h1 : (l.length : Int) > 16384
  · rw [if_pos h1]; exact hz _
  · rw [if_neg h1]
    by_cases h2 : a < 0
    · rw [if_pos h2]; exact hz _
    · rw [if_neg h2]
      by_cases h3 : a > (l.length : Int)
      · rw [if_pos h3]; exact hz _
      · rw [if_neg h3]
        by_cases h4 : Int.tmod a 3 = 0
        · rw [h4]
          have hB1 : Bs (l.take a.toNat) := fun x hx => hB x (List.mem_of_mem_take hx)
          have hB2 : Bs (l.drop a.toNat) := fun x hx => hB x (List.mem_of_mem_drop hx)
          have hmod : a % 3 = 0 := by rw [← Int.tmod_eq_emod_of_nonneg (by omega)]; exact h4
          have e1 := encode_eq u (l.take a.toNat) hB1 (by simp; omega) (k := 4 * l.length + 9) (by simp; omega)
          have e2 := encode_eq u (l.drop a.toNat) hB2 (by simp; omega) (k := 4 * l.length + 9) (by simp; omega)
          have e3 := encode_eq u l hB (by omega) (k := 4 * l.length + 9) (by omega)
          have s1 := encS_size (l.take a.toNat) u
          have s2 := encS_size (l.drop a.toNat) u
          rw [List.length_take] at s1
          rw [List.length_drop] at s2
          simp only [hustingslaw01_LettersParts.j0, bne_self_eq_false, Bool.false_eq_true, if_false]
          rw [if_pos (by omega), if_pos (by omega), e1]
          simp only [Option.bind_some]
          rw [e2]
          simp only [Option.bind_some]
          rw [if_pos (by omega), e3]
          simp only [Option.bind_some, Option.some.injEq, beq_iff_eq]
          congr 1
          have hj : enc6 l = enc6 (l.take a.toNat) ++ enc6 (l.drop a.toNat) := by
            rw [← enc6_append _ _ (by rw [List.length_take, Nat.min_eq_left (by omega)]; omega), List.take_append_drop]
          unfold encS
          rw [hj, List.map_append]
          apply ByteArray.ext
          simp [strOfNums]
        · have : (Int.tmod a 3 != 0) = true := by simpa using h4
          rw [this]
          exact hz _
theorem decL_length {u : Bool} {s : ByteArray} {y : List Int} (h : decL u (bytesOf s) = some y) : s.size = y.length / 3 * 4 + (y.length % 3 * 8 + 5) / 6 := by
  obtain ⟨_, he⟩ := decL_some h
  rw [← he]
  exact encS_size y u
end Go.Proofs.Ytboelmakccaenaa.P
