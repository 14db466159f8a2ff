/- The statement LettersKeeps, over what the calls compute. -/
import Derived.Test.YtboelmakccaenaaM6
import Derived.Test.YtboelmakccaenaaH11
namespace Go.Proofs.Ytboelmakccaenaa.P
set_option linter.unusedVariables false
open Go.RowKit Go.Proofs.YtboelmakccaenaaW.PrintWords Go.Proofs.YtboelmakccaenaaW.PrintLast Go.Proofs.YtboelmakccaenaaW.PrintMore
theorem keeps_loop (l : List Int) (u : Bool) (t : ByteArray) (hd : letters_Decode.f t u = some (l, true)) (n : Nat) (hn : n ≤ 1073741824) :
    ∀ (d i : Nat) (xs : List Int) (k : Nat), xs.length = n → i + d = n → d < k → hustingslaw01_LettersKeeps.l0 k l u t xs n i = some true := by
  intro d
  induction d with
  | zero =>
    intro i xs k hx hi hk
    obtain ⟨k, rfl⟩ : ∃ j, k = j + 1 := ⟨k - 1, by omega⟩
    simp only [hustingslaw01_LettersKeeps.l0]
    rw [if_neg (by omega), hd, Option.bind_some]
    simp
  | succ d ih =>
    intro i xs k hx hi hk
    obtain ⟨k, rfl⟩ : ∃ j, k = j + 1 := ⟨k - 1, by omega⟩
    simp only [hustingslaw01_LettersKeeps.l0]
    rw [if_pos (by omega), if_pos (by omega), if_pos (by omega), wrap_i i (by omega)]
    exact ih (i + 1) _ k (by rw [List.length_set]; exact hx) (by omega) (by omega)
theorem LettersKeeps_pure : hustingslaw01_LettersKeeps.Pure := by
  intro l u hm hl hw
  have hB := bs_of_wf hw
  refine ⟨4 * l.length + 10, ?_⟩
  unfold hustingslaw01_LettersKeeps.f
  simp only [hustingslaw01_alive.f]
  rw [Option.bind_some, if_pos rfl]
  by_cases h1 : (l.length : Int) > 16384
  · rw [if_pos h1]
  · have hsz := encS_size l u
    have hd : letters_Decode.f (encS l u) u = some (l, true) := by
      rw [dec_f u _ (by omega), decL_enc u l hB]; rfl
    rw [if_neg h1, Option.bind_some, List.length_nil, if_pos (by omega), Option.bind_some, List.nil_append, encode_eq u l hB (by omega) (by omega), Option.bind_some, if_pos rfl, hd, Option.bind_some]
    exact keeps_loop l u (encS l u) hd l.length (by omega) l.length 0 l _ rfl (by omega) (by omega)
end Go.Proofs.Ytboelmakccaenaa.P
