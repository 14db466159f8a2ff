/- Texts: bytes that are runes, one behind the other. -/
import Derived.Test.YtboelmakccaenaaM10
import Derived.Test.YtboelmakccaenaaG23
import Derived.Test.YtboelmakccaenaaG65
namespace Go.Proofs.Ytboelmakccaenaa.P
set_option linter.unusedVariables false
open Go.RowKit Go.Proofs.YtboelmakccaenaaW.PrintWords Go.Proofs.YtboelmakccaenaaW.PrintLast Go.Proofs.YtboelmakccaenaaW.PrintMore
def validF : Nat → List Int → Bool
  | 0, _ => true
  | k + 1, l => if l = [] then true else match rune l with | none => false | some (_, n) => validF k (l.drop n)
def validL (l : List Int) : Bool := validF l.length l
theorem Bs.drop {l : List Int} (h : Bs l) (n : Nat) : Bs (l.drop n) := fun x hx => h x (List.mem_of_mem_drop hx)
theorem validF_more : ∀ (k : Nat) (l : List Int), Bs l → l.length ≤ k → ∀ j, l.length ≤ j → validF k l = validF j l := by
  intro k
  induction k with
  | zero =>
    intro l hB hl j hj
    have : l = [] := List.eq_nil_of_length_eq_zero (by omega)
    subst this
    cases j <;> simp [validF]
  | succ k ih =>
    intro l hB hl j hj
    by_cases h0 : l = []
    · subst h0
      cases j <;> simp [validF]
    · have hp : 0 < l.length := List.length_pos_iff.2 h0
      obtain ⟨j, rfl⟩ : ∃ i, j = i + 1 := ⟨j - 1, by omega⟩
      simp only [validF, if_neg h0]
      rcases h : rune l with _ | ⟨v, n⟩
      · rfl
      · have hn := rune_len hB h
        simp only
        exact ih _ (hB.drop n) (by rw [List.length_drop]; omega) j (by rw [List.length_drop]; omega)
theorem validL_nil : validL [] = true := rfl
theorem validL_none {l : List Int} (h0 : l ≠ []) (h : rune l = none) : validL l = false := by
  have hp : 0 < l.length := List.length_pos_iff.2 h0
  unfold validL
  obtain ⟨j, hj⟩ : ∃ i, l.length = i + 1 := ⟨l.length - 1, by omega⟩
  rw [hj]
  simp only [validF, if_neg h0, h]
theorem validL_some {l : List Int} {v : Int} {n : Nat} (hB : Bs l) (h : rune l = some (v, n)) : validL l = validL (l.drop n) := by
  have hn := rune_len hB h
  have h0 : l ≠ [] := fun e => by rw [e] at hn; simp at hn; omega
  unfold validL
  obtain ⟨j, hj⟩ : ∃ i, l.length = i + 1 := ⟨l.length - 1, by omega⟩
  rw [hj]
  simp only [validF, if_neg h0, h]
  exact validF_more _ _ (hB.drop n) (by rw [List.length_drop]; omega) _ (Nat.le_refl _)
theorem bytes_extract (s : ByteArray) (p : Nat) : bytesOf (s.extract p s.size) = (bytesOf s).drop p := by
  unfold bytesOf
  rw [← List.map_drop]
  congr 1
  rw [ByteArray.data_extract, Array.toList_extract, List.extract_eq_take_drop]
  exact List.take_of_length_le (by rw [List.length_drop, Array.length_toList]; exact Nat.le_refl _)
theorem bytes_take (s : ByteArray) (n : Nat) : bytesOf (s.extract 0 n) = (bytesOf s).take n := by
  unfold bytesOf
  rw [← List.map_take]
  congr 1
  rw [ByteArray.data_extract, Array.toList_extract, List.extract_eq_take_drop]
  rfl
theorem toList_bytes (a b : ByteArray) : a.toList = b.toList ↔ bytesOf a = bytesOf b := by
  rw [Lib.toList_data, Lib.toList_data]
  constructor
  · intro h; unfold bytesOf; rw [h]
  · intro h
    have ha := str_bytes a
    have hb := str_bytes b
    rw [h, hb] at ha
    rw [ha]
theorem prefix_f (a p : ByteArray) : strings_HasPrefix.f a p = some (decide ((bytesOf a).take p.size = bytesOf p)) := by
  unfold strings_HasPrefix.f stringslite_HasPrefix.f
  by_cases h : (a.size : Int) ≥ (p.size : Int)
  · rw [if_pos h, if_pos (by omega), if_pos (by omega), Option.bind_some]
    congr 1
    rw [Bool.eq_iff_iff, beq_iff_eq, decide_eq_true_iff, toList_bytes, bytes_take]
    rfl
  · rw [if_neg h, Option.bind_some]
    congr 1
    symm
    rw [decide_eq_false_iff_not]
    intro hh
    have := congrArg List.length hh
    rw [List.length_take, bytesOf_length, bytesOf_length] at this
    omega
theorem rune_fffd {l : List Int} (h : l.take 3 = [239, 191, 189]) : rune l = some (65533, 3) := by
  match l, h with
  | a :: b :: c :: t, h =>
    simp at h
    obtain ⟨rfl, rfl, rfl⟩ := h
    simp [rune, isC, validR]
  | [], h => simp at h
  | [a], h => simp at h
  | [a, b], h => simp at h
theorem fffd_bytes {l : List Int} {n : Nat} (hB : Bs l) (h : rune l = some (65533, n)) : l.take 3 = [239, 191, 189] ∧ n = 3 := by
  obtain ⟨_, h2, h3⟩ := rune_some hB h
  have e : encR 65533 = [239, 191, 189] := by decide
  rw [e] at h2 h3
  refine ⟨?_, h3⟩
  rw [h2]
  rfl
/-- The document's Valid. -/
theorem ref_valid : ∀ (m : Nat) (s : ByteArray), s.size ≤ m → ∀ k, m + 13 ≤ k → hustingsref08_Valid.l0 k s = some (validL (bytesOf s)) := by
  intro m
  induction m with
  | zero =>
    intro s hs k hk
    obtain ⟨k, rfl⟩ : ∃ j, k = j + 1 := ⟨k - 1, by omega⟩
    have h0 : s.toList = [] := by rw [Lib.toList_data]; exact List.eq_nil_of_length_eq_zero (by rw [Array.length_toList]; have : s.data.size = s.size := rfl; omega)
    have h1 : bytesOf s = [] := List.eq_nil_of_length_eq_zero (by rw [bytesOf_length]; omega)
    simp only [hustingsref08_Valid.l0]
    rw [if_pos h0, h1]
    rfl
  | succ m ih =>
    intro s hs k hk
    obtain ⟨k, rfl⟩ : ∃ j, k = j + 1 := ⟨k - 1, by omega⟩
    simp only [hustingsref08_Valid.l0]
    by_cases h0 : s.toList = []
    · have h1 : bytesOf s = [] := by
        rw [Lib.toList_data] at h0
        unfold bytesOf
        rw [h0]; rfl
      rw [if_pos h0, h1]
      rfl
    · have h1 : bytesOf s ≠ [] := by
        intro h; apply h0
        rw [Lib.toList_data]
        unfold bytesOf at h
        simpa using h
      have hB := bs_bytes s
      rw [if_neg h0, show k = (k - 12) + 12 from by omega, ref_rune s (k - 12), Option.bind_some]
      rcases h : rune (bytesOf s) with _ | ⟨v, n⟩
      · simp only [runeA, if_true]
        rw [validL_none h1 h]
      · have hn := rune_len hB h
        rw [bytesOf_length] at hn
        change (if (n : Int) = 0 then some false else if 0 ≤ (n : Int) then (if (n : Int) ≤ (s.size : Int) then hustingsref08_Valid.l0 (k - 12 + 12) (s.extract (n : Int).toNat s.size) else none) else none) = _
        rw [if_neg (by omega), if_pos (by omega), if_pos (by omega), validL_some hB h, ← bytes_extract]
        have e : ((n : Int)).toNat = n := by omega
        rw [e]
        exact ih _ (by simp; omega) _ (by omega)
theorem ref_valid_f (s : ByteArray) : hustingsref08_Valid.f (s.size + 13) s = some (validL (bytesOf s)) := by
  unfold hustingsref08_Valid.f
  exact ref_valid s.size s (Nat.le_refl _) _ (Nat.le_refl _)
end Go.Proofs.Ytboelmakccaenaa.P
