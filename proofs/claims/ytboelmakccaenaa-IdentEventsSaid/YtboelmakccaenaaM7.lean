/- The statement IdentEvents, over what the calls compute. -/
import Derived.Test.YtboelmakccaenaaM5
import Derived.Test.YtboelmakccaenaaM6
import Derived.Test.YtboelmakccaenaaG8
namespace Go.Proofs.Ytboelmakccaenaa.P
set_option linter.unusedVariables false
open Go.RowKit Go.Proofs.YtboelmakccaenaaW.PrintWords Go.Proofs.YtboelmakccaenaaW.PrintLast Go.Proofs.YtboelmakccaenaaW.PrintMore
def tailOf (s : ByteArray) : ByteArray := s.extract 1 s.size
def ev (s : ByteArray) : Bool := if s.toList = [] then false else if bt s 0 = 36 then (if (decL true (bytesOf (tailOf s))).isSome then ((((decL true (bytesOf (tailOf s))).getD []).length : Int) == 32) else false) else false
theorem toList_nil {s : ByteArray} (h : ¬ s.toList = []) : 0 < s.size := by
  rw [Lib.toList_data] at h
  rcases Nat.eq_zero_or_pos s.size with h0 | h0
  · exfalso; apply h
    have : s.data.toList.length = 0 := by rw [Array.length_toList]; exact h0
    exact List.eq_nil_of_length_eq_zero this
  · exact h0
theorem tail_size (s : ByteArray) : (tailOf s).size ≤ s.size := by unfold tailOf; simp
theorem event_f (s : ByteArray) (hs : s.size ≤ 140737488351232) : ident_Event.f s = some (ev s) := by
  have ht := tail_size s
  unfold ident_Event.f ev
  by_cases h : s.toList = []
  · rw [if_pos h, if_pos h]
  · have hp := toList_nil h
    rw [if_neg h, if_neg h, if_pos (by omega)]
    by_cases h36 : bt s 0 = 36
    · rw [if_pos h36, if_pos h36, if_pos (by omega)]
      show (letters_Decode.f (tailOf s) true).bind _ = _
      rw [dec_f true (tailOf s) (by omega), Option.bind_some]
      split <;> rfl
    · rw [if_neg h36, if_neg h36]
theorem ref_event_f (s : ByteArray) (hs : s.size ≤ 1073741824) : ∃ k, ∀ j, k ≤ j → hustingsref10_Event.f j s = some (ev s) := by
  have ht := tail_size s
  obtain ⟨K, hK⟩ := ref_decode_ev true (tailOf s) (by omega)
  refine ⟨K, fun j hj => ?_⟩
  have hJ := at_rounds (hustingsref01_Decode.mono (tailOf s) true) hj hK
  unfold hustingsref10_Event.f ev
  by_cases h : s.toList = []
  · rw [if_pos h, if_pos h]
  · have hp := toList_nil h
    rw [if_neg h, if_neg h, if_pos (by omega)]
    by_cases h36 : bt s 0 = 36
    · rw [if_pos h36, if_pos h36, if_pos (by omega)]
      show (hustingsref01_Decode.f j (tailOf s) true).bind _ = _
      rw [hJ, Option.bind_some]
      split <;> rfl
    · rw [if_neg h36, if_neg h36]
theorem name_tail (t : ByteArray) : tailOf ((⟨#[36]⟩ : ByteArray) ++ t) = t := by
  unfold tailOf
  apply ByteArray.ext
  simp [ByteArray.data_extract]
  right
  show t.size ≤ 1 + t.size - 1
  omega
theorem name_size (t : ByteArray) : ((⟨#[36]⟩ : ByteArray) ++ t).size = 1 + t.size := by simp [ByteArray.size_append]; rfl
theorem name_head (t : ByteArray) : bt ((⟨#[36]⟩ : ByteArray) ++ t) 0 = 36 := by
  unfold bt
  have h : (0 : Int).toNat < ((⟨#[36]⟩ : ByteArray) ++ t).size := by rw [name_size]; simp; omega
  rw [dif_pos h]
  have : ((⟨#[36]⟩ : ByteArray) ++ t)[(0 : Int).toNat]'h = 36 := by
    simp only [Int.toNat_zero]
    rw [ByteArray.getElem_append_left (by decide)]
    rfl
  rw [this]
  rfl
theorem ev_name (l : List Int) (hB : Bs l) : ev ((⟨#[36]⟩ : ByteArray) ++ encS l true) = ((l.length : Int) == 32) := by
  unfold ev
  have hne : ¬ ((⟨#[36]⟩ : ByteArray) ++ encS l true).toList = [] := by
    rw [Lib.toList_data]; simp
  rw [if_neg hne, if_pos (name_head _), name_tail, decL_enc true l hB]
  rfl
theorem ev_a : ev ⟨#[36, 97]⟩ = false := by
  have h : decL true (bytesOf (tailOf ⟨#[36, 97]⟩)) = none := by decide +kernel
  unfold ev
  rw [h]
  split
  · rfl
  · split <;> rfl
theorem IdentEvents_pure : hustingslaw10_IdentEvents.Pure := by
  intro s l hs hm hl hw
  have hB := bs_of_wf hw
  obtain ⟨z, hz⟩ : ∃ z : ByteArray, z = ⟨#[36, 97]⟩ := ⟨_, rfl⟩
  have hzs : z.size = 2 := by rw [hz]; rfl
  have hze : ident_Event.f z = some false := by rw [event_f z (by omega), hz, ev_a]
  have hz0 : ∀ k, hustingslaw10_IdentEvents.j0 (k + 1) s l true = some true := fun k => by simp [hustingslaw10_IdentEvents.j0]
  by_cases h1 : (s.size : Int) > 1024
  · refine ⟨1, ?_⟩
    unfold hustingslaw10_IdentEvents.f
    rw [← hz, hze, Option.bind_some, if_neg (by decide), if_pos h1]
    exact hz0 _
  · by_cases h2 : (l.length : Int) > 1024
    · refine ⟨1, ?_⟩
      unfold hustingslaw10_IdentEvents.f
      rw [← hz, hze, Option.bind_some, if_neg (by decide), if_neg h1, decide_eq_true h2]
      exact hz0 _
    · obtain ⟨K, hK⟩ := ref_event_f s (by omega)
      refine ⟨K + 16 * l.length + 2, ?_⟩
      have hsz := encS_size l true
      have hns := name_size (encS l true)
      unfold hustingslaw10_IdentEvents.f
      rw [← hz, hze, Option.bind_some, if_neg (by decide), if_neg h1, decide_eq_false h2]
      show hustingslaw10_IdentEvents.j0 (K + 16 * l.length + 1 + 1) s l false = some true
      simp only [hustingslaw10_IdentEvents.j0]
      rw [if_neg (by decide), ref_encode_eq true l hB (by omega) (by omega), Option.bind_some, if_pos (by omega), event_f s hs, Option.bind_some, hK _ (by omega), Option.bind_some, if_pos (by simp), event_f _ (by omega), Option.bind_some, ev_name l hB]
      simp
end Go.Proofs.Ytboelmakccaenaa.P
