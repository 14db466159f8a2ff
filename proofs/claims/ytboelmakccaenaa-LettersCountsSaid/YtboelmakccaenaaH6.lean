/- The law LettersCounts by its walk. -/
import Derived.Test.YtboelmakccaenaaM5
import Derived.Test.YtboelmakccaenaaH4
import Derived.Test.YtboelmakccaenaaG28
namespace Go.Proofs.Ytboelmakccaenaa.P
set_option linter.unusedVariables false
open Go.RowKit Go.Proofs.YtboelmakccaenaaW.PrintWords Go.Proofs.YtboelmakccaenaaW.PrintLast Go.Proofs.YtboelmakccaenaaW.PrintMore
theorem len_pos (n c d : Int) (h0 : 0 < n) (h1 : n < 1152921504606846976) (hc : n % 3 = c) (hd : (c = 0 ∧ d = 0) ∨ (c = 1 ∧ d = 2) ∨ (c = 2 ∧ d = 3)) : letters_Len.f n = some (n / 3 * 4 + d) := by
  unfold letters_Len.f
  rw [if_neg (by omega), Int.tdiv_eq_ediv_of_nonneg (by omega), Int.tmod_eq_emod_of_nonneg (by omega)]
  have e1 : wrap64 (n / 3) = n / 3 := by unfold wrap64; omega
  have e2 : wrap64 (n / 3 * 4) = n / 3 * 4 := by unfold wrap64; omega
  have e3 : wrap64 (n % 3 * 8) = n % 3 * 8 := by unfold wrap64; omega
  have e4 : wrap64 (n % 3 * 8 + 5) = n % 3 * 8 + 5 := by unfold wrap64; omega
  have e5 : wrap64 ((n % 3 * 8 + 5) / 6) = (n % 3 * 8 + 5) / 6 := by unfold wrap64; omega
  rw [e1, e2, e3, e4, Int.tdiv_eq_ediv_of_nonneg (by omega), e5]
  have e6 : wrap64 (n / 3 * 4 + (n % 3 * 8 + 5) / 6) = n / 3 * 4 + (n % 3 * 8 + 5) / 6 := by unfold wrap64; omega
  rw [e6]
  congr 1
  omega
theorem len_neg (n : Int) (h0 : n ≤ 0) : letters_Len.f n = some 0 := by unfold letters_Len.f; rw [if_pos h0]
theorem len_nat (m : Nat) (h : m ≤ 1073741824) : letters_Len.f m = some ((m / 3 * 4 + (m % 3 * 8 + 5) / 6 : Nat) : Int) := by
  by_cases h0 : m = 0
  · subst h0; exact len_neg 0 (by omega)
  · have hm : m % 3 = 0 ∨ m % 3 = 1 ∨ m % 3 = 2 := by omega
    rcases hm with hm | hm | hm
    · rw [len_pos m 0 0 (by omega) (by omega) (by omega) (by omega)]; congr 1; omega
    · rw [len_pos m 1 2 (by omega) (by omega) (by omega) (by omega)]; congr 1; omega
    · rw [len_pos m 2 3 (by omega) (by omega) (by omega) (by omega)]; congr 1; omega
theorem len_any (n : Int) : ∃ K, letters_Len.f n = some K := by unfold letters_Len.f; split <;> exact ⟨_, rfl⟩
/-- What the walks have in common. -/
structure CountsIn (A : Option Addr) (c : Nat) (l0 : List Int) (w : World) : Prop where
  C : Kd.C (Kd.int .u8) w A l0.length l0
  L : l0.length ≤ c
  B : Bs l0
def CountsPost (w : World) (e : Ending) (w' : World) : Prop := e = .returned (.bool true) ∧ Below w.heap.size w w'
theorem len_two : letters_Len.f 2 = some 3 := len_pos 2 2 3 (by omega) (by omega) (by omega) (by omega)
theorem counts_great (A : Option Addr) (c : Nat) (l0 : List Int) (n : Int) (w : World) (H : CountsIn A c l0 w) (h : 16384 < l0.length) : Calls Try.prog 6 #[.slice A l0.length c, .int .i64 n] w (CountsPost w) := by
  have e1 : decide (16384 < (l0.length : Int)) = true := decide_eq_true (by omega)
  have e2 : decide (16384 < l0.length) = true := decide_eq_true h
  clear h
  go_enter Try.func6, Try.ntmps6
  go_wp2_with fail
  refine (letters_Len.calls _ _ _ len_two).mono ?_
  rintro e w1 ⟨rfl, ⟨n1, rfl⟩⟩
  go_wp2_with fail
  go_ret
  exact ⟨rfl, pw_below_drewN (Below.refl _ _) _⟩
theorem counts_neg (A : Option Addr) (c : Nat) (l0 : List Int) (n : Int) (w : World) (H : CountsIn A c l0 w) (h : ¬ 16384 < l0.length) (hn : n ≤ 0) : Calls Try.prog 6 #[.slice A l0.length c, .int .i64 n] w (CountsPost w) := by
  have e1 : decide (16384 < (l0.length : Int)) = false := decide_eq_false (by omega)
  have e2 : decide (16384 < l0.length) = false := decide_eq_false h
  have HN := Aside0.mk (show l0.length ≤ 1073741824 by omega)
  have HC := Aside0.mk H.C
  have HB := Aside0.mk H.B
  have HL := Aside0.mk H.L
  clear h
  go_enter Try.func6, Try.ntmps6
  go_wp2_with fail
  refine (letters_Len.calls _ _ _ len_two).mono ?_
  rintro e w1 ⟨rfl, ⟨n1, rfl⟩⟩
  go_wp2_with fail
  refine (letters_Len.calls _ _ _ (len_neg n hn)).mono ?_
  rintro e w2 ⟨rfl, ⟨n2, rfl⟩⟩
  go_wp2_with fail
  refine (letters_Len.calls _ _ _ (len_nat l0.length HN.out)).mono ?_
  rintro e w4 ⟨rfl, ⟨n4, rfl⟩⟩
  go_wp2_with fail
  refine (enc_calls _ _ _ _ _ (Kd.C_drewN HC.out _) HL.out HB.out HN.out).mono ?_
  rintro e w5 ⟨rfl, hb⟩
  have HW := Aside0.mk hb; clear hb
  have hsz : (((encS l0 false).size : Nat) : Int) = ((l0.length / 3 * 4 + (l0.length % 3 * 8 + 5) / 6 : Nat) : Int) := by rw [encS_size]
  have HS := Aside0.mk hsz
  clear hsz
  go_wp2_with fail
  go_ret
  refine ⟨?_, ?_⟩
  · have := HS.out
    simp [this]
  · exact below_then (pw_below_drewN (Below.refl _ _) _) (Nat.le_refl _) HW.out
theorem counts_far (A : Option Addr) (c : Nat) (l0 : List Int) (n : Int) (w : World) (H : CountsIn A c l0 w) (h : ¬ 16384 < l0.length) (hn : 1152921504606846976 ≤ n) : Calls Try.prog 6 #[.slice A l0.length c, .int .i64 n] w (CountsPost w) := by
  have e1 : decide (16384 < (l0.length : Int)) = false := decide_eq_false (by omega)
  have e2 : decide (16384 < l0.length) = false := decide_eq_false h
  have HN := Aside0.mk (show l0.length ≤ 1073741824 by omega)
  have HC := Aside0.mk H.C
  have HB := Aside0.mk H.B
  have HL := Aside0.mk H.L
  obtain ⟨K, hK⟩ := len_any n
  have HK := Aside0.mk hK
  clear h hK
  go_enter Try.func6, Try.ntmps6
  go_wp2_with fail
  refine (letters_Len.calls _ _ _ len_two).mono ?_
  rintro e w1 ⟨rfl, ⟨n1, rfl⟩⟩
  go_wp2_with fail
  refine (letters_Len.calls _ _ _ HK.out).mono ?_
  rintro e w2 ⟨rfl, ⟨n2, rfl⟩⟩
  go_wp2_with fail
  refine (letters_Len.calls _ _ _ (len_nat l0.length HN.out)).mono ?_
  rintro e w4 ⟨rfl, ⟨n4, rfl⟩⟩
  go_wp2_with fail
  refine (enc_calls _ _ _ _ _ (Kd.C_drewN HC.out _) HL.out HB.out HN.out).mono ?_
  rintro e w5 ⟨rfl, hb⟩
  have HW := Aside0.mk hb; clear hb
  have hsz : (((encS l0 false).size : Nat) : Int) = ((l0.length / 3 * 4 + (l0.length % 3 * 8 + 5) / 6 : Nat) : Int) := by rw [encS_size]
  have HS := Aside0.mk hsz
  clear hsz
  go_wp2_with fail
  go_ret
  refine ⟨?_, ?_⟩
  · have := HS.out
    simp [this]
  · exact below_then (pw_below_drewN (Below.refl _ _) _) (Nat.le_refl _) HW.out
theorem counts_0 (A : Option Addr) (c : Nat) (l0 : List Int) (n : Int) (w : World) (H : CountsIn A c l0 w) (h : ¬ 16384 < l0.length) (hn0 : 0 < n) (hn1 : n < 1152921504606846976) (hc : n % 3 = 0) : Calls Try.prog 6 #[.slice A l0.length c, .int .i64 n] w (CountsPost w) := by
  have e1 : decide (16384 < (l0.length : Int)) = false := decide_eq_false (by omega)
  have e2 : decide (16384 < l0.length) = false := decide_eq_false h
  have HN := Aside0.mk (show l0.length ≤ 1073741824 by omega)
  have HC := Aside0.mk H.C
  have HB := Aside0.mk H.B
  have HL := Aside0.mk H.L
  have HK := Aside0.mk (len_pos n 0 0 hn0 hn1 hc (by omega))
  have i0 : ∀ w, (Instr.index 27 (.agg #[.int .i64 0, .int .i64 2, .int .i64 3]) (.int .i64 0)).run Try.prog w = .ok (.int .i64 0) w := fun _ => by kernel_rfl
  clear h
  go_enter Try.func6, Try.ntmps6
  go_wp2_with fail
  refine (letters_Len.calls _ _ _ len_two).mono ?_
  rintro e w1 ⟨rfl, ⟨n1, rfl⟩⟩
  go_wp2_with fail
  refine (letters_Len.calls _ _ _ HK.out).mono ?_
  rintro e w2 ⟨rfl, ⟨n2, rfl⟩⟩
  go_wp2_with fail
  refine (letters_Len.calls _ _ _ (len_nat l0.length HN.out)).mono ?_
  rintro e w4 ⟨rfl, ⟨n4, rfl⟩⟩
  go_wp2_with fail
  refine (enc_calls _ _ _ _ _ (Kd.C_drewN HC.out _) HL.out HB.out HN.out).mono ?_
  rintro e w5 ⟨rfl, hb⟩
  have HW := Aside0.mk hb; clear hb
  have hsz : (((encS l0 false).size : Nat) : Int) = ((l0.length / 3 * 4 + (l0.length % 3 * 8 + 5) / 6 : Nat) : Int) := by rw [encS_size]
  have HS := Aside0.mk hsz
  clear hsz
  go_wp2_with fail
  go_ret
  refine ⟨?_, ?_⟩
  · have := HS.out
    simp [this]
  · exact below_then (pw_below_drewN (Below.refl _ _) _) (Nat.le_refl _) HW.out
theorem counts_1 (A : Option Addr) (c : Nat) (l0 : List Int) (n : Int) (w : World) (H : CountsIn A c l0 w) (h : ¬ 16384 < l0.length) (hn0 : 0 < n) (hn1 : n < 1152921504606846976) (hc : n % 3 = 1) : Calls Try.prog 6 #[.slice A l0.length c, .int .i64 n] w (CountsPost w) := by
  have e1 : decide (16384 < (l0.length : Int)) = false := decide_eq_false (by omega)
  have e2 : decide (16384 < l0.length) = false := decide_eq_false h
  have HN := Aside0.mk (show l0.length ≤ 1073741824 by omega)
  have HC := Aside0.mk H.C
  have HB := Aside0.mk H.B
  have HL := Aside0.mk H.L
  have HK := Aside0.mk (len_pos n 1 2 hn0 hn1 hc (by omega))
  have i0 : ∀ w, (Instr.index 27 (.agg #[.int .i64 0, .int .i64 2, .int .i64 3]) (.int .i64 1)).run Try.prog w = .ok (.int .i64 2) w := fun _ => by kernel_rfl
  clear h
  go_enter Try.func6, Try.ntmps6
  go_wp2_with fail
  refine (letters_Len.calls _ _ _ len_two).mono ?_
  rintro e w1 ⟨rfl, ⟨n1, rfl⟩⟩
  go_wp2_with fail
  refine (letters_Len.calls _ _ _ HK.out).mono ?_
  rintro e w2 ⟨rfl, ⟨n2, rfl⟩⟩
  go_wp2_with fail
  refine (letters_Len.calls _ _ _ (len_nat l0.length HN.out)).mono ?_
  rintro e w4 ⟨rfl, ⟨n4, rfl⟩⟩
  go_wp2_with fail
  refine (enc_calls _ _ _ _ _ (Kd.C_drewN HC.out _) HL.out HB.out HN.out).mono ?_
  rintro e w5 ⟨rfl, hb⟩
  have HW := Aside0.mk hb; clear hb
  have hsz : (((encS l0 false).size : Nat) : Int) = ((l0.length / 3 * 4 + (l0.length % 3 * 8 + 5) / 6 : Nat) : Int) := by rw [encS_size]
  have HS := Aside0.mk hsz
  clear hsz
  go_wp2_with fail
  go_ret
  refine ⟨?_, ?_⟩
  · have := HS.out
    simp [this]
  · exact below_then (pw_below_drewN (Below.refl _ _) _) (Nat.le_refl _) HW.out
theorem counts_2 (A : Option Addr) (c : Nat) (l0 : List Int) (n : Int) (w : World) (H : CountsIn A c l0 w) (h : ¬ 16384 < l0.length) (hn0 : 0 < n) (hn1 : n < 1152921504606846976) (hc : n % 3 = 2) : Calls Try.prog 6 #[.slice A l0.length c, .int .i64 n] w (CountsPost w) := by
  have e1 : decide (16384 < (l0.length : Int)) = false := decide_eq_false (by omega)
  have e2 : decide (16384 < l0.length) = false := decide_eq_false h
  have HN := Aside0.mk (show l0.length ≤ 1073741824 by omega)
  have HC := Aside0.mk H.C
  have HB := Aside0.mk H.B
  have HL := Aside0.mk H.L
  have HK := Aside0.mk (len_pos n 2 3 hn0 hn1 hc (by omega))
  have i0 : ∀ w, (Instr.index 27 (.agg #[.int .i64 0, .int .i64 2, .int .i64 3]) (.int .i64 2)).run Try.prog w = .ok (.int .i64 3) w := fun _ => by kernel_rfl
  clear h
  go_enter Try.func6, Try.ntmps6
  go_wp2_with fail
  refine (letters_Len.calls _ _ _ len_two).mono ?_
  rintro e w1 ⟨rfl, ⟨n1, rfl⟩⟩
  go_wp2_with fail
  refine (letters_Len.calls _ _ _ HK.out).mono ?_
  rintro e w2 ⟨rfl, ⟨n2, rfl⟩⟩
  go_wp2_with fail
  refine (letters_Len.calls _ _ _ (len_nat l0.length HN.out)).mono ?_
  rintro e w4 ⟨rfl, ⟨n4, rfl⟩⟩
  go_wp2_with fail
  refine (enc_calls _ _ _ _ _ (Kd.C_drewN HC.out _) HL.out HB.out HN.out).mono ?_
  rintro e w5 ⟨rfl, hb⟩
  have HW := Aside0.mk hb; clear hb
  have hsz : (((encS l0 false).size : Nat) : Int) = ((l0.length / 3 * 4 + (l0.length % 3 * 8 + 5) / 6 : Nat) : Int) := by rw [encS_size]
  have HS := Aside0.mk hsz
  clear hsz
  go_wp2_with fail
  go_ret
  refine ⟨?_, ?_⟩
  · have := HS.out
    simp [this]
  · exact below_then (pw_below_drewN (Below.refl _ _) _) (Nat.le_refl _) HW.out
theorem hustingslaw01_LettersCounts.walk (a0 : Option Addr) (len0 cap0 : Nat) (z0 : List Int) (a1 : Int) (w : World) (w0 : (a0 = none ∧ len0 = 0 ∧ cap0 = 0 ∧ z0 = []) ∨ ∃ x, a0 = some x ∧ len0 ≤ cap0 ∧ cap0 ≤ maxLen ∧ z0.length = cap0 ∧ (∀ i, i < z0.length → w.cell? (x.add i) = some (.int .u8 (z0.getD i 0))) ∧ ∀ n ∈ z0, (Lit.int .u8 n).wf = true) (y0 : len0 * 1 ≤ 140737488351232) (w1 : (Lit.int .i64 a1).wf = true) :
    Calls Try.prog 6 #[.slice a0 len0 cap0, .int .i64 a1] w fun e w' => e = .returned (.bool true) ∧ Below w.heap.size w w' := by
  obtain ⟨l0, rfl, hr0, hm0, hw0, hc0⟩ := ReadsInt.ofRowC w0
  have H : CountsIn a0 cap0 l0 w := ⟨Kd.C_of_reads (d := (0 : Int)) (h1 := fun _ => rfl) hr0, hc0, bs_of_wf hw0⟩
  by_cases h : 16384 < l0.length
  · exact counts_great a0 cap0 l0 a1 w H h
  · by_cases hn : a1 ≤ 0
    · exact counts_neg a0 cap0 l0 a1 w H h hn
    · by_cases hf : 1152921504606846976 ≤ a1
      · exact counts_far a0 cap0 l0 a1 w H h hf
      · have hm : a1 % 3 = 0 ∨ a1 % 3 = 1 ∨ a1 % 3 = 2 := by omega
        rcases hm with hm | hm | hm
        · exact counts_0 a0 cap0 l0 a1 w H h (by omega) (by omega) hm
        · exact counts_1 a0 cap0 l0 a1 w H h (by omega) (by omega) hm
        · exact counts_2 a0 cap0 l0 a1 w H h (by omega) (by omega) hm
end Go.Proofs.Ytboelmakccaenaa.P
