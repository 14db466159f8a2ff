/- The statement QuotePuts, over what the calls compute. -/
import Derived.Test.YtboelmakccaenaaH34
import Derived.Test.YtboelmakccaenaaG12
namespace Go.Proofs.Ytboelmakccaenaa.P
set_option linter.unusedVariables false
set_option linter.unusedSimpArgs false
open Go.RowKit Go.Proofs.YtboelmakccaenaaW.PrintWords Go.Proofs.YtboelmakccaenaaW.PrintLast Go.Proofs.YtboelmakccaenaaW.PrintMore
theorem hexZ (z : ByteArray) (hz : z = ⟨#[48, 49, 50, 51, 52, 53, 54, 55, 56, 57, 97, 98, 99, 100, 101, 102]⟩) (x : Int) (h0 : 0 ≤ x) (h1 : x < 16) : bt z x = hexD x := by
  have h : ∀ x : Fin 16, bt (⟨#[48, 49, 50, 51, 52, 53, 54, 55, 56, 57, 97, 98, 99, 100, 101, 102]⟩ : ByteArray) (x.val : Int) = hexD (x.val : Int) := by decide
  rw [hz]
  exact lift_fin (f := fun y => bt (⟨#[48, 49, 50, 51, 52, 53, 54, 55, 56, 57, 97, 98, 99, 100, 101, 102]⟩ : ByteArray) y) (g := hexD) h x h0 h1
/-- A byte, as the document puts it. -/
theorem ref_put_byte (s z : ByteArray) (hz : z = ⟨#[48, 49, 50, 51, 52, 53, 54, 55, 56, 57, 97, 98, 99, 100, 101, 102]⟩) (sz : z.size = 16) (out : List Int) (i c : Int) (k : Nat) (b : Bool) (hb : b = (c == 34 || c == 92)) (h0 : 0 ≤ c) (h1 : c < 256) (hl : out.length ≤ 140737488355000) :
    hustingsref08_Put.j1 (k + 1) s z out i c b = hustingsref08_Put.l0 k s z (out ++ put1 c) (wrap64 (i + 1)) := by
  simp only [hustingsref08_Put.j1]
  cases b
  · rw [if_neg (by decide)]
    have hb2 : ¬ c = 34 ∧ ¬ c = 92 := by simpa using hb
    obtain ⟨h34, h92⟩ := hb2
    unfold put1 shortV
    rw [if_neg h34, if_neg h92]
    by_cases a1 : c = 8
    · rw [if_pos a1, if_pos a1, Option.bind_some, if_pos (by simp; omega), if_pos (by decide)]
    · rw [if_neg a1, if_neg a1]
      by_cases a2 : c = 9
      · rw [if_pos a2, if_pos a2, Option.bind_some, if_pos (by simp; omega), if_pos (by decide)]
      · rw [if_neg a2, if_neg a2]
        by_cases a3 : c = 10
        · rw [if_pos a3, if_pos a3, Option.bind_some, if_pos (by simp; omega), if_pos (by decide)]
        · rw [if_neg a3, if_neg a3]
          by_cases a4 : c = 12
          · rw [if_pos a4, if_pos a4, Option.bind_some, if_pos (by simp; omega), if_pos (by decide)]
          · rw [if_neg a4, if_neg a4]
            by_cases a5 : c = 13
            · rw [if_pos a5, if_pos a5, Option.bind_some, if_pos (by simp; omega), if_pos (by decide)]
            · rw [if_neg a5, if_neg a5, if_neg (show ¬ (0 : Int) ≠ 0 by simp)]
              by_cases a6 : c < 32
              · have e1 : Int.tdiv c 16 % 256 = c / 16 := by rw [Int.tdiv_eq_ediv_of_nonneg h0]; omega
                have e2 : Int.tmod c 16 = c % 16 := Int.tmod_eq_emod_of_nonneg h0
                rw [if_pos a6, if_pos a6, e1, e2, if_pos (by omega), if_pos (by omega), if_pos (by omega), if_pos (by omega), Option.bind_some, if_pos (by simp; omega), hexZ z hz _ (by omega) (by omega), hexZ z hz _ (by omega) (by omega)]
              · rw [if_neg a6, if_neg a6, if_pos (by omega)]
  · rw [if_pos rfl, Option.bind_some, if_pos (by simp; omega)]
    have hb2 : c = 34 ∨ c = 92 := by simpa using hb
    have e : put1 c = [92, c] := by
      rcases hb2 with rfl | rfl <;> rfl
    rw [e]
theorem ref_put_l0 (s z : ByteArray) (hs : s.size ≤ 16777216) (hz : z = ⟨#[48, 49, 50, 51, 52, 53, 54, 55, 56, 57, 97, 98, 99, 100, 101, 102]⟩) (sz : z.size = 16) : ∀ (n j k : Nat) (out : List Int), j + n = s.size → 2 * n + 1 ≤ k → out.length ≤ 6 * j + 1 →
    hustingsref08_Put.l0 k s z out (j : Int) = some (strOfNums (out ++ putL ((bytesOf s).drop j) ++ [34]), true)
  | 0, j, k, out, h, hk, hl => by
    obtain ⟨k, rfl⟩ : ∃ m, k = m + 1 := ⟨k - 1, by omega⟩
    have : (bytesOf s).drop j = [] := List.drop_eq_nil_of_le (by rw [bytesOf_length]; omega)
    rw [this]
    simp only [hustingsref08_Put.l0]
    rw [if_neg (by omega), if_pos (by omega)]
    show _ = some (strOfNums (out ++ [] ++ [34]), true)
    rw [List.append_nil]
  | n + 1, j, k, out, h, hk, hl => by
    obtain ⟨hj, t, ht, ht2⟩ | ⟨hj, _⟩ := drop_shape s j
    · obtain ⟨_, hb, _⟩ := bt_drop s j _ _ ht
      obtain ⟨k, rfl⟩ : ∃ m, k = (m + 1) + 1 := ⟨k - 2, by omega⟩
      have hr := bt_range s (j : Int)
      have hp : (put1 (bt s (j : Int))).length ≤ 6 := by
        unfold put1
        split
        · simp
        · split <;> simp
      have hif : (if bt s (j : Int) = 34 then hustingsref08_Put.j1 (k + 1) s z out (j : Int) (bt s (j : Int)) true else hustingsref08_Put.j1 (k + 1) s z out (j : Int) (bt s (j : Int)) (bt s (j : Int) == 92)) = hustingsref08_Put.j1 (k + 1) s z out (j : Int) (bt s (j : Int)) (bt s (j : Int) == 34 || bt s (j : Int) == 92) := by
        by_cases h34 : bt s (j : Int) = 34
        · rw [if_pos h34]
          have e : (bt s (j : Int) == 34 || bt s (j : Int) == 92) = true := by simp [h34]
          rw [e]
        · rw [if_neg h34]
          have e : (bt s (j : Int) == 34 || bt s (j : Int) == 92) = (bt s (j : Int) == 92) := by
            have : (bt s (j : Int) == 34) = false := beq_eq_false_iff_ne.mpr h34
            rw [this, Bool.false_or]
          rw [e]
      have hstep := ref_put_byte s z hz sz out (j : Int) (bt s (j : Int)) k _ rfl hr.1 (by omega) (by omega)
      have hrec := ref_put_l0 s z hs hz sz n (j + 1) k (out ++ put1 (bt s (j : Int))) (by omega) (by omega) (by rw [List.length_append]; omega)
      simp only [hustingsref08_Put.l0]
      rw [if_pos (by omega), if_pos (by omega)]
      refine hif.trans (hstep.trans ?_)
      rw [w64 _ (by omega) (by omega), show ((j : Int) + 1) = ((j + 1 : Nat) : Int) by omega, hrec, ht, ht2, ← hb]
      show _ = some (strOfNums (out ++ (put1 (bt s (j : Int)) ++ putL t) ++ [34]), true)
      rw [List.append_assoc out]
    · omega
theorem ref_put (s : ByteArray) (hs : s.size ≤ 16777216) : hustingsref08_Put.f (2 * s.size + 13) s = some (putA s) := by
  obtain ⟨z, hz⟩ : ∃ z : ByteArray, z = ⟨#[48, 49, 50, 51, 52, 53, 54, 55, 56, 57, 97, 98, 99, 100, 101, 102]⟩ := ⟨_, rfl⟩
  have sz : z.size = 16 := by rw [hz]; rfl
  have hv : hustingsref08_Valid.f (2 * s.size + 13) s = some (validL (bytesOf s)) := by
    unfold hustingsref08_Valid.f
    exact ref_valid s.size s (Nat.le_refl _) _ (by omega)
  unfold hustingsref08_Put.f
  rw [hv, Option.bind_some, ← hz]
  unfold putA
  cases validL (bytesOf s)
  · rw [if_neg (by decide), if_neg (by decide)]
  · have := ref_put_l0 s z hs hz sz s.size 0 (2 * s.size + 13) [34] (by omega) (by omega) (by simp)
    rw [show ((0 : Nat) : Int) = 0 from rfl, List.drop_zero] at this
    rw [if_pos rfl, if_pos rfl, this]
    rfl
theorem put_f (s : ByteArray) (hs : s.size ≤ 16777216) : quote_Put.f s = some (putA s) := if_pos hs
theorem QuotePuts_pure : hustingslaw08_QuotePuts.Pure := by
  intro s hs
  obtain ⟨z, hz⟩ : ∃ z : ByteArray, z = ⟨#[97, 34]⟩ := ⟨_, rfl⟩
  have sz : z.size = 2 := by rw [hz]; rfl
  have bz : bytesOf z = [97, 34] := by rw [hz]; rfl
  have hA : putA z = (strOfNums [34, 97, 92, 34, 34], true) := by
    unfold putA
    rw [bz, if_pos (by decide)]
    rfl
  have hl : (strOfNums [34, 97, 92, 34, 34]).toList = ([34, 97, 92, 34, 34] : List UInt8) := by rw [Lib.toList_data]; rfl
  refine ⟨2 * s.size + 13 + 1, ?_⟩
  unfold hustingslaw08_QuotePuts.f
  rw [← hz, put_f z (by omega), Option.bind_some, hA, if_pos hl]
  simp only [hustingslaw08_QuotePuts.j0]
  rw [if_neg (by decide)]
  by_cases h : (s.size : Int) > 16384
  · rw [if_pos h]
  · rw [if_neg h, put_f s (by omega), Option.bind_some, ref_put s (by omega), Option.bind_some, if_pos rfl]
    simp
end Go.Proofs.Ytboelmakccaenaa.P
