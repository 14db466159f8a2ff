/- The document's Rune and Bytes (layer 8), by their walks. -/
import Derived.Test.YtfpgjkaaadnmcaaDoorQg
namespace Go.Proofs.YtfpgjkaaadnmcaaDoor.P
set_option linter.unusedVariables false
set_option linter.unusedSimpArgs false
open Go.RowKit Go.Proofs.YtfpgjkaaadnmcaaDoorW.PrintWords Go.Proofs.YtfpgjkaaadnmcaaDoorW.PrintLast Go.Proofs.YtfpgjkaaadnmcaaDoorW.PrintMore
attribute [local go_sem] setCell_drewN
/-- The number of k bytes behind the first. -/
def contF : Nat → Int → List Int → Option Int
  | 0, x, _ => some x
  | _ + 1, _, [] => none
  | k + 1, x, a :: t => if isC a then contF k (x * 64 + a % 64) t else none
def runeK (k : Nat) (x least : Int) (t : List Int) : Option (Int × Nat) := match contF k x t with
  | none => none
  | some y => if least ≤ y ∧ validR y then some (y, k + 1) else none
theorem runeK_short : ∀ (k : Nat) (x : Int) (t : List Int), t.length < k → contF k x t = none
  | 0, _, _, h => by omega
  | _ + 1, _, [], _ => rfl
  | k + 1, x, a :: t, h => by
    simp only [contF]
    split
    · exact runeK_short k _ t (by simp at h; omega)
    · rfl
theorem runeK_none (k : Nat) (x least : Int) (t : List Int) (h : t.length < k) : none = runeK k x least t := by
  unfold runeK; rw [runeK_short k x t h]
theorem rune_2 {c : Int} {t : List Int} (hB : Bs (c :: t)) (h : 192 ≤ c ∧ c < 224) : rune (c :: t) = runeK 1 (c % 32) 128 t := by
  simp only [rune]
  rw [if_neg (by omega), if_pos h]
  rcases t with _ | ⟨a, t⟩
  · rfl
  · have ha := hB.tail.head
    simp only [runeK, contF]
    by_cases q : isC a
    · rw [if_pos q]
      by_cases q2 : 128 ≤ c % 32 * 64 + a % 64
      · rw [if_pos ⟨q, q2⟩]; simp only; rw [if_pos ⟨q2, by unfold validR; omega⟩]
      · rw [if_neg (fun h => q2 h.2)]; simp only; rw [if_neg (fun h => q2 h.1)]
    · rw [if_neg q, if_neg (fun h => q h.1)]
theorem rune_3 {c : Int} {t : List Int} (hB : Bs (c :: t)) (h : 224 ≤ c ∧ c < 240) : rune (c :: t) = runeK 2 (c % 16) 2048 t := by
  simp only [rune]
  rw [if_neg (by omega), if_neg (by omega), if_pos h]
  rcases t with _ | ⟨a, _ | ⟨b, t⟩⟩
  · rfl
  · exact runeK_none _ _ _ _ (by simp)
  · simp only [runeK, contF]
    by_cases q : isC a
    · rw [if_pos q]
      by_cases q2 : isC b
      · rw [if_pos q2]
        have e : (c % 16 * 64 + a % 64) * 64 + b % 64 = c % 16 * 4096 + a % 64 * 64 + b % 64 := by omega
        rw [e]
        by_cases q3 : 2048 ≤ c % 16 * 4096 + a % 64 * 64 + b % 64 ∧ validR (c % 16 * 4096 + a % 64 * 64 + b % 64)
        · rw [if_pos ⟨q, q2, q3⟩]; simp only; rw [if_pos q3]
        · rw [if_neg (fun h => q3 h.2.2)]; simp only; rw [if_neg q3]
      · rw [if_neg q2, if_neg (fun h => q2 h.2.1)]
    · rw [if_neg q, if_neg (fun h => q h.1)]
theorem rune_4 {c : Int} {t : List Int} (hB : Bs (c :: t)) (h : 240 ≤ c ∧ c < 248) : rune (c :: t) = runeK 3 (c % 8) 65536 t := by
  simp only [rune]
  rw [if_neg (by omega), if_neg (by omega), if_neg (by omega), if_pos h]
  rcases t with _ | ⟨a, _ | ⟨b, _ | ⟨d, t⟩⟩⟩
  · rfl
  · exact runeK_none _ _ _ _ (by simp)
  · exact runeK_none _ _ _ _ (by simp)
  · simp only [runeK, contF]
    by_cases q : isC a
    · rw [if_pos q]
      by_cases q2 : isC b
      · rw [if_pos q2]
        by_cases q4 : isC d
        · rw [if_pos q4]
          have e : ((c % 8 * 64 + a % 64) * 64 + b % 64) * 64 + d % 64 = c % 8 * 262144 + a % 64 * 4096 + b % 64 * 64 + d % 64 := by omega
          rw [e]
          by_cases q3 : 65536 ≤ c % 8 * 262144 + a % 64 * 4096 + b % 64 * 64 + d % 64 ∧ validR (c % 8 * 262144 + a % 64 * 4096 + b % 64 * 64 + d % 64)
          · rw [if_pos ⟨q, q2, q4, q3⟩]; simp only; rw [if_pos q3]
          · rw [if_neg (fun h => q3 h.2.2.2)]; simp only; rw [if_neg q3]
        · rw [if_neg q4, if_neg (fun h => q4 h.2.2.1)]
      · rw [if_neg q2, if_neg (fun h => q2 h.2.1)]
    · rw [if_neg q, if_neg (fun h => q h.1)]
theorem rune_bad {c : Int} {t : List Int} (h1 : 128 ≤ c) (h2 : ¬ (192 ≤ c ∧ c < 248)) : rune (c :: t) = none := by
  simp only [rune]
  rw [if_neg (by omega), if_neg (by omega), if_neg (by omega), if_neg (by omega)]
def RunePost (l : List Int) (w : World) (e : Ending) (w' : World) : Prop := e = .returned (.tuple #[.int .i64 (runeA (rune l)).1, .int .i64 (runeA (rune l)).2]) ∧ w' = w
def RuneRel (s : ByteArray) (n : Nat) (x0 : Int) (t : List Int) (v4 v7 : Value) : Prop :=
  ∃ (i : Nat) (x : Int), 1 ≤ i ∧ i ≤ n ∧ v7 = .int .i64 (i : Int) ∧ v4 = .int .i64 x ∧ 0 ≤ x ∧ x < 64 ^ i ∧ contF (n - 1) x0 t = contF (n - i) x (t.drop (i - 1))
set_option maxRecDepth 100000 in
set_option maxHeartbeats 4000000 in
theorem rune_walk (s : ByteArray) (w : World) (hs : s.size ≤ 140737488351232) : Calls Tryd.prog 17 #[.string s] w (RunePost (bytesOf s) w) := by
  rcases hl : bytesOf s with _ | ⟨c, t⟩
  · have hne : s.toList.isEmpty = true := by
      rw [Lib.toList_data, List.isEmpty_iff]
      have h := congrArg List.length hl
      rw [bytesOf_length] at h
      exact List.eq_nil_of_length_eq_zero (by rw [Array.length_toList]; exact h)
    have hne2 : s.toList = [] := List.isEmpty_iff.1 hne
    clear hl
    go_enter Tryd.func17, Tryd.ntmps17
    go_wp2_with fail
    go_ret2
    exact ⟨rfl, rfl⟩
  · obtain ⟨hs0, hb0, hbt⟩ := bt_head hl
    have hbs : Bs (c :: t) := by rw [← hl]; exact bs_bytes s
    have hc := hbs.head
    have hne : s.toList.isEmpty = false := by
      rw [Lib.toList_data]
      cases h : s.data.toList with
      | nil => exact absurd (by rw [Lib.size_eq, h]; rfl) (Nat.pos_iff_ne_zero.1 hs0)
      | cons _ _ => rfl
    have hx0 : ∀ h : 0 < s.size, ((s[0]'h).toNat : Int) = c := fun h => (bt_at s 0 h).trans hb0
    have hsz : (0 : Int) < (s.size : Int) := by omega
    have hlen : s.size = t.length + 1 := by have h := congrArg List.length hl; rw [bytesOf_length] at h; simpa using h
    have HL := Aside0.mk hl
    have HBS := Aside0.mk hbs
    have hc0 := hc.1
    have q0 : IntKind.i64.wrap c = c := i64w _ (by omega)
    clear hl hb0 hbt
    unfold RunePost
    by_cases h128 : c < 128
    · have hr : rune (c :: t) = some (c, 1) := by simp only [rune]; rw [if_pos h128]
      rw [hr]
      have d1 : (c < 128) = True := eq_true h128
      clear hr h128 hbs hc
      go_enter Tryd.func17, Tryd.ntmps17
      go_wp2_with fail
      go_ret2
      exact ⟨rfl, rfl⟩
    have d1 : (c < 128) = False := eq_false h128
    by_cases hbad : 192 ≤ c ∧ c < 248
    rotate_left
    · rw [rune_bad (by omega) hbad]
      by_cases h192 : 192 ≤ c
      · have e1 : (c ≥ 192) = True := eq_true h192
        have e2 : (c < 224) = False := eq_false (by omega)
        have e3 : (c ≥ 224) = True := eq_true (by omega)
        have e4 : (c < 240) = False := eq_false (by omega)
        have e5 : (c ≥ 240) = True := eq_true (by omega)
        have e6 : (c < 248) = False := eq_false (by omega)
        have e1b : (192 ≤ c) = True := eq_true h192
        have e3b : (224 ≤ c) = True := eq_true (by omega)
        have e5b : (240 ≤ c) = True := eq_true (by omega)
        clear h128 hbad h192 hbs hc
        go_enter Tryd.func17, Tryd.ntmps17
        go_wp2_with fail
        go_ret2
        exact ⟨rfl, rfl⟩
      · have e1 : (c ≥ 192) = False := eq_false h192
        have e3 : (c ≥ 224) = False := eq_false (by omega)
        have e5 : (c ≥ 240) = False := eq_false (by omega)
        have e1b : (192 ≤ c) = False := eq_false h192
        have e3b : (224 ≤ c) = False := eq_false (by omega)
        have e5b : (240 ≤ c) = False := eq_false (by omega)
        clear h128 hbad h192 hbs hc
        go_enter Tryd.func17, Tryd.ntmps17
        go_wp2_with fail
        go_ret2
        exact ⟨rfl, rfl⟩
    by_cases h224 : c < 224
    · rw [rune_2 HBS.out (by omega)]
      have g192 : (c ≥ 192) = True := eq_true (by omega)
      have g192b : (192 ≤ c) = True := eq_true (by omega)
      have l224 : (c < 224) = True := eq_true (by omega)
      clear h224
      have m1 : c % 32 < 32 := Int.emod_lt_of_pos _ (by omega)
      have m0 : 0 ≤ c % 32 := Int.emod_nonneg _ (by omega)
      clear h128 hbad hbs hc
      by_cases hsh : s.size < 2
      · have k1 : ((s.size : Int) < 2) = True := eq_true (by omega)
        rw [← runeK_none 1 _ 128 t (by omega)]
        clear hsh hlen m0 m1
        go_enter Tryd.func17, Tryd.ntmps17
        go_wp2_with fail
        go_ret2
        exact ⟨rfl, rfl⟩
      have k1 : ((s.size : Int) < 2) = False := eq_false (by omega)
      have hsn : 2 ≤ s.size := by omega
      obtain ⟨x0, hx⟩ : ∃ x0, c % 32 = x0 := ⟨_, rfl⟩
      rw [hx] at m0 m1 ⊢
      have HLEN := Aside0.mk hlen
      clear hsh hlen
      go_enter Tryd.func17, Tryd.ntmps17
      go_wp2_with fail
      have HX0 := Aside0.mk hx
      clear hx
      go_loop [4, 7] (fun v4 v7 => RuneRel s 2 x0 t v4 v7) (fun _ v => 2 - (intOf v).toNat)
      case atStart => exact ⟨1, x0, by omega, by omega, rfl, by rw [HX0.out], m0, by omega, rfl⟩
      case round =>
        obtain ⟨i, x, hi1, hi2, rfl, rfl, hy0, hy1, hcf⟩ := hrel
        have HCF := Aside0.mk hcf
        have HY := Aside0.mk hy1
        clear hcf hy1
        by_cases hin : i < 2
        · have k2 : ((i : Int) < 2) = True := eq_true (by omega)
          have hil : i < s.size := by omega
          have k3 : ((i : Int) < (s.size : Int)) = True := eq_true (by omega)
          rcases hd : t.drop (i - 1) with _ | ⟨a, t'⟩
          · have := drop_nil hd; have := HLEN.out; omega
          obtain ⟨_, hba, hd1⟩ := bt_drop s i a t' (by rw [HL.out, show i = (i - 1) + 1 by omega]; exact hd)
          have hxi : ∀ h : i < s.size, ((s[i]'h).toNat : Int) = a := fun h => (bt_at s i h).trans hba
          have hab := (HBS.out.tail.drop (i - 1))
          rw [hd] at hab HCF
          have ha := hab.head
          have hd2 : t.drop (i + 1 - 1) = t' := by rw [show i + 1 - 1 = (i - 1) + 1 by omega, ← List.drop_drop, hd]; rfl
          have HD2 := Aside0.mk hd2
          obtain ⟨kk, hkk⟩ : ∃ kk, 2 - i = kk + 1 := ⟨2 - i - 1, by omega⟩
          rw [hkk] at HCF
          have HKK := Aside0.mk hkk
          clear hd hba hd1 hab hd2 hkk
          by_cases q : isC a
          · have q1 : (a < 128) = False := eq_false (by unfold isC at q; omega)
            have q2 : (a ≥ 192) = False := eq_false (by unfold isC at q; omega)
            have q2b : (192 ≤ a) = False := eq_false (by unfold isC at q; omega)
            have hp : (64 : Int) ^ i ≤ 262144 := by
              have h3 : i = 1 ∨ i = 2 ∨ i = 3 := by omega
              rcases h3 with rfl | rfl | rfl <;> decide
            have hyb : x < 262144 := by have := HY.out; omega
            have r0 : IntKind.i64.wrap a = a := i64w _ (by omega)
            have r1 : IntKind.i64.wrap (x * 64) = x * 64 := i64w _ (by omega)
            have r2 : IntKind.i64.wrap (x * 64 + a % 64) = x * 64 + a % 64 := i64w _ (by omega)
            have r3 : IntKind.i64.wrap ((i : Int) + 1) = (i : Int) + 1 := i64w _ (by omega)
            have HN : Aside0 (contF (2 - 1) x0 t = contF (2 - (i + 1)) (x * 64 + a % 64) (t.drop (i + 1 - 1))) := ⟨by rw [HCF.out, HD2.out, show 2 - (i + 1) = kk by have := HKK.out; omega]; simp only [contF, if_pos q]⟩
            have HYN : Aside0 (x * 64 + a % 64 < 64 ^ (i + 1)) := ⟨by have := HY.out; rw [Int.pow_succ]; omega⟩
            clear q hp
            go_wp2_with fail
            go_round
            case rel => exact ⟨i + 1, x * 64 + a % 64, by omega, by omega, by go_num, rfl, by omega, HYN.out, HN.out⟩
            case measure => simp [intOf]; omega
          · have HN : Aside0 (runeK 1 x0 128 t = none) := ⟨by unfold runeK; rw [show contF 1 x0 t = none by rw [show 1 = 2 - 1 from rfl, HCF.out]; simp only [contF, if_neg q]]⟩
            by_cases q1 : a < 128
            · have q2 : (a < 128) = True := eq_true q1
              clear q q1
              go_wp2_with fail
              go_ret2
              rw [HN.out]
              exact ⟨rfl, rfl⟩
            · have q2 : (a < 128) = False := eq_false q1
              have q3 : (a ≥ 192) = True := eq_true (by unfold isC at q; omega)
              have q3b : (192 ≤ a) = True := eq_true (by unfold isC at q; omega)
              clear q q1
              go_wp2_with fail
              go_ret2
              rw [HN.out]
              exact ⟨rfl, rfl⟩
        · obtain rfl : i = 2 := by omega
          have k2 : (((2 : Nat) : Int) < 2) = False := eq_false (by omega)
          have HX : Aside0 (runeK 1 x0 128 t = if 128 ≤ x ∧ validR x then some (x, 2) else none) := ⟨by unfold runeK; rw [show contF 1 x0 t = some x from HCF.out]⟩
          clear k2 hin hi1 hi2
          have hyb : x < 4096 := by have := HY.out; simpa using this
          by_cases g1 : x < 128
          · have p1 : (x < 128) = True := eq_true g1
            have HX2 := Aside0.mk (HX.out.trans (if_neg (by omega)))
            clear g1
            go_wp2_with fail
            go_ret2
            rw [HX2.out]
            exact ⟨rfl, rfl⟩
          have p1 : (x < 128) = False := eq_false g1
          by_cases g2 : 1114111 < x
          · have p2 : (x > 1114111) = True := eq_true g2
            have p2b : (1114111 < x) = True := eq_true g2
            have HX2 := Aside0.mk (HX.out.trans (if_neg (by unfold validR; omega)))
            clear g1 g2
            go_wp2_with fail
            go_ret2
            rw [HX2.out]
            exact ⟨rfl, rfl⟩
          have p2 : (x > 1114111) = False := eq_false g2
          have p2b : (1114111 < x) = False := eq_false g2
          by_cases g3 : x < 55296
          · have p3 : (x ≥ 55296) = False := eq_false (by omega)
            have p3b : (55296 ≤ x) = False := eq_false (by omega)
            have HX2 := Aside0.mk (HX.out.trans (if_pos ⟨by omega, by unfold validR; omega⟩))
            clear g1 g2 g3
            go_wp2_with fail
            go_ret2
            rw [HX2.out]
            exact ⟨rfl, rfl⟩
          have p3 : (x ≥ 55296) = True := eq_true (by omega)
          have p3b : (55296 ≤ x) = True := eq_true (by omega)
          by_cases g4 : x ≤ 57343
          · have p4 : (x ≤ 57343) = True := eq_true g4
            have HX2 := Aside0.mk (HX.out.trans (if_neg (by unfold validR; omega)))
            clear g1 g2 g3 g4
            go_wp2_with fail
            go_ret2
            rw [HX2.out]
            exact ⟨rfl, rfl⟩
          · have p4 : (x ≤ 57343) = False := eq_false g4
            have HX2 := Aside0.mk (HX.out.trans (if_pos ⟨by omega, by unfold validR; omega⟩))
            clear g1 g2 g3 g4
            go_wp2_with fail
            go_ret2
            rw [HX2.out]
            exact ⟨rfl, rfl⟩
    by_cases h240 : c < 240
    · rw [rune_3 HBS.out (by omega)]
      have g192 : (c ≥ 192) = True := eq_true (by omega)
      have g192b : (192 ≤ c) = True := eq_true (by omega)
      have l224 : (c < 224) = False := eq_false (by omega)
      have g224 : (c ≥ 224) = True := eq_true (by omega)
      have g224b : (224 ≤ c) = True := eq_true (by omega)
      have l240 : (c < 240) = True := eq_true (by omega)
      clear h224 h240
      have m1 : c % 16 < 16 := Int.emod_lt_of_pos _ (by omega)
      have m0 : 0 ≤ c % 16 := Int.emod_nonneg _ (by omega)
      clear h128 hbad hbs hc
      by_cases hsh : s.size < 3
      · have k1 : ((s.size : Int) < 3) = True := eq_true (by omega)
        rw [← runeK_none 2 _ 2048 t (by omega)]
        clear hsh hlen m0 m1
        go_enter Tryd.func17, Tryd.ntmps17
        go_wp2_with fail
        go_ret2
        exact ⟨rfl, rfl⟩
      have k1 : ((s.size : Int) < 3) = False := eq_false (by omega)
      have hsn : 3 ≤ s.size := by omega
      obtain ⟨x0, hx⟩ : ∃ x0, c % 16 = x0 := ⟨_, rfl⟩
      rw [hx] at m0 m1 ⊢
      have HLEN := Aside0.mk hlen
      clear hsh hlen
      go_enter Tryd.func17, Tryd.ntmps17
      go_wp2_with fail
      have HX0 := Aside0.mk hx
      clear hx
      go_loop [4, 7] (fun v4 v7 => RuneRel s 3 x0 t v4 v7) (fun _ v => 3 - (intOf v).toNat)
      case atStart => exact ⟨1, x0, by omega, by omega, rfl, by rw [HX0.out], m0, by omega, rfl⟩
      case round =>
        obtain ⟨i, x, hi1, hi2, rfl, rfl, hy0, hy1, hcf⟩ := hrel
        have HCF := Aside0.mk hcf
        have HY := Aside0.mk hy1
        clear hcf hy1
        by_cases hin : i < 3
        · have k2 : ((i : Int) < 3) = True := eq_true (by omega)
          have hil : i < s.size := by omega
          have k3 : ((i : Int) < (s.size : Int)) = True := eq_true (by omega)
          rcases hd : t.drop (i - 1) with _ | ⟨a, t'⟩
          · have := drop_nil hd; have := HLEN.out; omega
          obtain ⟨_, hba, hd1⟩ := bt_drop s i a t' (by rw [HL.out, show i = (i - 1) + 1 by omega]; exact hd)
          have hxi : ∀ h : i < s.size, ((s[i]'h).toNat : Int) = a := fun h => (bt_at s i h).trans hba
          have hab := (HBS.out.tail.drop (i - 1))
          rw [hd] at hab HCF
          have ha := hab.head
          have hd2 : t.drop (i + 1 - 1) = t' := by rw [show i + 1 - 1 = (i - 1) + 1 by omega, ← List.drop_drop, hd]; rfl
          have HD2 := Aside0.mk hd2
          obtain ⟨kk, hkk⟩ : ∃ kk, 3 - i = kk + 1 := ⟨3 - i - 1, by omega⟩
          rw [hkk] at HCF
          have HKK := Aside0.mk hkk
          clear hd hba hd1 hab hd2 hkk
          by_cases q : isC a
          · have q1 : (a < 128) = False := eq_false (by unfold isC at q; omega)
            have q2 : (a ≥ 192) = False := eq_false (by unfold isC at q; omega)
            have q2b : (192 ≤ a) = False := eq_false (by unfold isC at q; omega)
            have hp : (64 : Int) ^ i ≤ 262144 := by
              have h3 : i = 1 ∨ i = 2 ∨ i = 3 := by omega
              rcases h3 with rfl | rfl | rfl <;> decide
            have hyb : x < 262144 := by have := HY.out; omega
            have r0 : IntKind.i64.wrap a = a := i64w _ (by omega)
            have r1 : IntKind.i64.wrap (x * 64) = x * 64 := i64w _ (by omega)
            have r2 : IntKind.i64.wrap (x * 64 + a % 64) = x * 64 + a % 64 := i64w _ (by omega)
            have r3 : IntKind.i64.wrap ((i : Int) + 1) = (i : Int) + 1 := i64w _ (by omega)
            have HN : Aside0 (contF (3 - 1) x0 t = contF (3 - (i + 1)) (x * 64 + a % 64) (t.drop (i + 1 - 1))) := ⟨by rw [HCF.out, HD2.out, show 3 - (i + 1) = kk by have := HKK.out; omega]; simp only [contF, if_pos q]⟩
            have HYN : Aside0 (x * 64 + a % 64 < 64 ^ (i + 1)) := ⟨by have := HY.out; rw [Int.pow_succ]; omega⟩
            clear q hp
            go_wp2_with fail
            go_round
            case rel => exact ⟨i + 1, x * 64 + a % 64, by omega, by omega, by go_num, rfl, by omega, HYN.out, HN.out⟩
            case measure => simp [intOf]; omega
          · have HN : Aside0 (runeK 2 x0 2048 t = none) := ⟨by unfold runeK; rw [show contF 2 x0 t = none by rw [show 2 = 3 - 1 from rfl, HCF.out]; simp only [contF, if_neg q]]⟩
            by_cases q1 : a < 128
            · have q2 : (a < 128) = True := eq_true q1
              clear q q1
              go_wp2_with fail
              go_ret2
              rw [HN.out]
              exact ⟨rfl, rfl⟩
            · have q2 : (a < 128) = False := eq_false q1
              have q3 : (a ≥ 192) = True := eq_true (by unfold isC at q; omega)
              have q3b : (192 ≤ a) = True := eq_true (by unfold isC at q; omega)
              clear q q1
              go_wp2_with fail
              go_ret2
              rw [HN.out]
              exact ⟨rfl, rfl⟩
        · obtain rfl : i = 3 := by omega
          have k2 : (((3 : Nat) : Int) < 3) = False := eq_false (by omega)
          have HX : Aside0 (runeK 2 x0 2048 t = if 2048 ≤ x ∧ validR x then some (x, 3) else none) := ⟨by unfold runeK; rw [show contF 2 x0 t = some x from HCF.out]⟩
          clear k2 hin hi1 hi2
          have hyb : x < 262144 := by have := HY.out; simpa using this
          by_cases g1 : x < 2048
          · have p1 : (x < 2048) = True := eq_true g1
            have HX2 := Aside0.mk (HX.out.trans (if_neg (by omega)))
            clear g1
            go_wp2_with fail
            go_ret2
            rw [HX2.out]
            exact ⟨rfl, rfl⟩
          have p1 : (x < 2048) = False := eq_false g1
          by_cases g2 : 1114111 < x
          · have p2 : (x > 1114111) = True := eq_true g2
            have p2b : (1114111 < x) = True := eq_true g2
            have HX2 := Aside0.mk (HX.out.trans (if_neg (by unfold validR; omega)))
            clear g1 g2
            go_wp2_with fail
            go_ret2
            rw [HX2.out]
            exact ⟨rfl, rfl⟩
          have p2 : (x > 1114111) = False := eq_false g2
          have p2b : (1114111 < x) = False := eq_false g2
          by_cases g3 : x < 55296
          · have p3 : (x ≥ 55296) = False := eq_false (by omega)
            have p3b : (55296 ≤ x) = False := eq_false (by omega)
            have HX2 := Aside0.mk (HX.out.trans (if_pos ⟨by omega, by unfold validR; omega⟩))
            clear g1 g2 g3
            go_wp2_with fail
            go_ret2
            rw [HX2.out]
            exact ⟨rfl, rfl⟩
          have p3 : (x ≥ 55296) = True := eq_true (by omega)
          have p3b : (55296 ≤ x) = True := eq_true (by omega)
          by_cases g4 : x ≤ 57343
          · have p4 : (x ≤ 57343) = True := eq_true g4
            have HX2 := Aside0.mk (HX.out.trans (if_neg (by unfold validR; omega)))
            clear g1 g2 g3 g4
            go_wp2_with fail
            go_ret2
            rw [HX2.out]
            exact ⟨rfl, rfl⟩
          · have p4 : (x ≤ 57343) = False := eq_false g4
            have HX2 := Aside0.mk (HX.out.trans (if_pos ⟨by omega, by unfold validR; omega⟩))
            clear g1 g2 g3 g4
            go_wp2_with fail
            go_ret2
            rw [HX2.out]
            exact ⟨rfl, rfl⟩
    · rw [rune_4 HBS.out (by omega)]
      have g192 : (c ≥ 192) = True := eq_true (by omega)
      have g192b : (192 ≤ c) = True := eq_true (by omega)
      have l224 : (c < 224) = False := eq_false (by omega)
      have g224 : (c ≥ 224) = True := eq_true (by omega)
      have g224b : (224 ≤ c) = True := eq_true (by omega)
      have l240 : (c < 240) = False := eq_false (by omega)
      have g240 : (c ≥ 240) = True := eq_true (by omega)
      have g240b : (240 ≤ c) = True := eq_true (by omega)
      have l248 : (c < 248) = True := eq_true (by omega)
      clear h224 h240
      have m1 : c % 8 < 8 := Int.emod_lt_of_pos _ (by omega)
      have m0 : 0 ≤ c % 8 := Int.emod_nonneg _ (by omega)
      clear h128 hbad hbs hc
      by_cases hsh : s.size < 4
      · have k1 : ((s.size : Int) < 4) = True := eq_true (by omega)
        rw [← runeK_none 3 _ 65536 t (by omega)]
        clear hsh hlen m0 m1
        go_enter Tryd.func17, Tryd.ntmps17
        go_wp2_with fail
        go_ret2
        exact ⟨rfl, rfl⟩
      have k1 : ((s.size : Int) < 4) = False := eq_false (by omega)
      have hsn : 4 ≤ s.size := by omega
      obtain ⟨x0, hx⟩ : ∃ x0, c % 8 = x0 := ⟨_, rfl⟩
      rw [hx] at m0 m1 ⊢
      have HLEN := Aside0.mk hlen
      clear hsh hlen
      go_enter Tryd.func17, Tryd.ntmps17
      go_wp2_with fail
      have HX0 := Aside0.mk hx
      clear hx
      go_loop [4, 7] (fun v4 v7 => RuneRel s 4 x0 t v4 v7) (fun _ v => 4 - (intOf v).toNat)
      case atStart => exact ⟨1, x0, by omega, by omega, rfl, by rw [HX0.out], m0, by omega, rfl⟩
      case round =>
        obtain ⟨i, x, hi1, hi2, rfl, rfl, hy0, hy1, hcf⟩ := hrel
        have HCF := Aside0.mk hcf
        have HY := Aside0.mk hy1
        clear hcf hy1
        by_cases hin : i < 4
        · have k2 : ((i : Int) < 4) = True := eq_true (by omega)
          have hil : i < s.size := by omega
          have k3 : ((i : Int) < (s.size : Int)) = True := eq_true (by omega)
          rcases hd : t.drop (i - 1) with _ | ⟨a, t'⟩
          · have := drop_nil hd; have := HLEN.out; omega
          obtain ⟨_, hba, hd1⟩ := bt_drop s i a t' (by rw [HL.out, show i = (i - 1) + 1 by omega]; exact hd)
          have hxi : ∀ h : i < s.size, ((s[i]'h).toNat : Int) = a := fun h => (bt_at s i h).trans hba
          have hab := (HBS.out.tail.drop (i - 1))
          rw [hd] at hab HCF
          have ha := hab.head
          have hd2 : t.drop (i + 1 - 1) = t' := by rw [show i + 1 - 1 = (i - 1) + 1 by omega, ← List.drop_drop, hd]; rfl
          have HD2 := Aside0.mk hd2
          obtain ⟨kk, hkk⟩ : ∃ kk, 4 - i = kk + 1 := ⟨4 - i - 1, by omega⟩
          rw [hkk] at HCF
          have HKK := Aside0.mk hkk
          clear hd hba hd1 hab hd2 hkk
          by_cases q : isC a
          · have q1 : (a < 128) = False := eq_false (by unfold isC at q; omega)
            have q2 : (a ≥ 192) = False := eq_false (by unfold isC at q; omega)
            have q2b : (192 ≤ a) = False := eq_false (by unfold isC at q; omega)
            have hp : (64 : Int) ^ i ≤ 262144 := by
              have h3 : i = 1 ∨ i = 2 ∨ i = 3 := by omega
              rcases h3 with rfl | rfl | rfl <;> decide
            have hyb : x < 262144 := by have := HY.out; omega
            have r0 : IntKind.i64.wrap a = a := i64w _ (by omega)
            have r1 : IntKind.i64.wrap (x * 64) = x * 64 := i64w _ (by omega)
            have r2 : IntKind.i64.wrap (x * 64 + a % 64) = x * 64 + a % 64 := i64w _ (by omega)
            have r3 : IntKind.i64.wrap ((i : Int) + 1) = (i : Int) + 1 := i64w _ (by omega)
            have HN : Aside0 (contF (4 - 1) x0 t = contF (4 - (i + 1)) (x * 64 + a % 64) (t.drop (i + 1 - 1))) := ⟨by rw [HCF.out, HD2.out, show 4 - (i + 1) = kk by have := HKK.out; omega]; simp only [contF, if_pos q]⟩
            have HYN : Aside0 (x * 64 + a % 64 < 64 ^ (i + 1)) := ⟨by have := HY.out; rw [Int.pow_succ]; omega⟩
            clear q hp
            go_wp2_with fail
            go_round
            case rel => exact ⟨i + 1, x * 64 + a % 64, by omega, by omega, by go_num, rfl, by omega, HYN.out, HN.out⟩
            case measure => simp [intOf]; omega
          · have HN : Aside0 (runeK 3 x0 65536 t = none) := ⟨by unfold runeK; rw [show contF 3 x0 t = none by rw [show 3 = 4 - 1 from rfl, HCF.out]; simp only [contF, if_neg q]]⟩
            by_cases q1 : a < 128
            · have q2 : (a < 128) = True := eq_true q1
              clear q q1
              go_wp2_with fail
              go_ret2
              rw [HN.out]
              exact ⟨rfl, rfl⟩
            · have q2 : (a < 128) = False := eq_false q1
              have q3 : (a ≥ 192) = True := eq_true (by unfold isC at q; omega)
              have q3b : (192 ≤ a) = True := eq_true (by unfold isC at q; omega)
              clear q q1
              go_wp2_with fail
              go_ret2
              rw [HN.out]
              exact ⟨rfl, rfl⟩
        · obtain rfl : i = 4 := by omega
          have k2 : (((4 : Nat) : Int) < 4) = False := eq_false (by omega)
          have HX : Aside0 (runeK 3 x0 65536 t = if 65536 ≤ x ∧ validR x then some (x, 4) else none) := ⟨by unfold runeK; rw [show contF 3 x0 t = some x from HCF.out]⟩
          clear k2 hin hi1 hi2
          have hyb : x < 16777216 := by have := HY.out; simpa using this
          by_cases g1 : x < 65536
          · have p1 : (x < 65536) = True := eq_true g1
            have HX2 := Aside0.mk (HX.out.trans (if_neg (by omega)))
            clear g1
            go_wp2_with fail
            go_ret2
            rw [HX2.out]
            exact ⟨rfl, rfl⟩
          have p1 : (x < 65536) = False := eq_false g1
          by_cases g2 : 1114111 < x
          · have p2 : (x > 1114111) = True := eq_true g2
            have p2b : (1114111 < x) = True := eq_true g2
            have HX2 := Aside0.mk (HX.out.trans (if_neg (by unfold validR; omega)))
            clear g1 g2
            go_wp2_with fail
            go_ret2
            rw [HX2.out]
            exact ⟨rfl, rfl⟩
          have p2 : (x > 1114111) = False := eq_false g2
          have p2b : (1114111 < x) = False := eq_false g2
          by_cases g3 : x < 55296
          · have p3 : (x ≥ 55296) = False := eq_false (by omega)
            have p3b : (55296 ≤ x) = False := eq_false (by omega)
            have HX2 := Aside0.mk (HX.out.trans (if_pos ⟨by omega, by unfold validR; omega⟩))
            clear g1 g2 g3
            go_wp2_with fail
            go_ret2
            rw [HX2.out]
            exact ⟨rfl, rfl⟩
          have p3 : (x ≥ 55296) = True := eq_true (by omega)
          have p3b : (55296 ≤ x) = True := eq_true (by omega)
          by_cases g4 : x ≤ 57343
          · have p4 : (x ≤ 57343) = True := eq_true g4
            have HX2 := Aside0.mk (HX.out.trans (if_neg (by unfold validR; omega)))
            clear g1 g2 g3 g4
            go_wp2_with fail
            go_ret2
            rw [HX2.out]
            exact ⟨rfl, rfl⟩
          · have p4 : (x ≤ 57343) = False := eq_false g4
            have HX2 := Aside0.mk (HX.out.trans (if_pos ⟨by omega, by unfold validR; omega⟩))
            clear g1 g2 g3 g4
            go_wp2_with fail
            go_ret2
            rw [HX2.out]
            exact ⟨rfl, rfl⟩
end Go.Proofs.YtfpgjkaaadnmcaaDoor.P
