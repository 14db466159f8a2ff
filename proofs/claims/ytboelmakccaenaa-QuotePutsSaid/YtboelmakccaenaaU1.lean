/- Texts M1, M2, M3, H29, M4, M5 of this session, in one (wip/tools/merge.py). -/
import Derived.Test.YtboelmakccaenaaG24
import Derived.Test.YtboelmakccaenaaG25
import Derived.Laws.BitsAllLaws
import Derived.IntWalk
import Derived.Laws.BitsLemmas
import Derived.Test.YtboelmakccaenaaG77
import Derived.Lib.OthersKept
import Derived.Outline
import Derived.Test.YtboelmakccaenaaG30
namespace Go.Proofs.Ytboelmakccaenaa.P
section
set_option linter.unusedVariables false
open Go.RowKit Go.Proofs.YtboelmakccaenaaW.PrintWords Go.Proofs.YtboelmakccaenaaW.PrintLast Go.Proofs.YtboelmakccaenaaW.PrintMore

/-- The numbers of six bits of bytes. -/
def enc6 : List Int → List Int
  | a :: b :: c :: t => a / 4 :: (a % 4 * 16 + b / 16) :: (b % 16 * 4 + c / 64) :: c % 64 :: enc6 t
  | [a, b] => [a / 4, a % 4 * 16 + b / 16, b % 16 * 4]
  | [a] => [a / 4, a % 4 * 16]
  | [] => []
def abc (u : Bool) : ByteArray := if u then ⟨#[65, 66, 67, 68, 69, 70, 71, 72, 73, 74, 75, 76, 77, 78, 79, 80, 81, 82, 83, 84, 85, 86, 87, 88, 89, 90, 97, 98, 99, 100, 101, 102, 103, 104, 105, 106, 107, 108, 109, 110, 111, 112, 113, 114, 115, 116, 117, 118, 119, 120, 121, 122, 48, 49, 50, 51, 52, 53, 54, 55, 56, 57, 45, 95]⟩ else ⟨#[65, 66, 67, 68, 69, 70, 71, 72, 73, 74, 75, 76, 77, 78, 79, 80, 81, 82, 83, 84, 85, 86, 87, 88, 89, 90, 97, 98, 99, 100, 101, 102, 103, 104, 105, 106, 107, 108, 109, 110, 111, 112, 113, 114, 115, 116, 117, 118, 119, 120, 121, 122, 48, 49, 50, 51, 52, 53, 54, 55, 56, 57, 43, 47]⟩
theorem abc_size (u : Bool) : (abc u).size = 64 := by cases u <;> rfl
theorem alphabet_eq (u : Bool) : letters_alphabet.f u = some (abc u) := by cases u <;> rfl
/-- The letter of a number. -/
def ltr (u : Bool) (n : Int) : Int := bt (abc u) n
def encS (l : List Int) (u : Bool) : ByteArray := strOfNums ((enc6 l).map (ltr u))
/-- All are bytes. -/
def Bs (l : List Int) : Prop := ∀ x ∈ l, 0 ≤ x ∧ x ≤ 255
theorem Bs.tail {a : Int} {l : List Int} (h : Bs (a :: l)) : Bs l := fun x hx => h x (List.mem_cons_of_mem _ hx)
theorem Bs.head {a : Int} {l : List Int} (h : Bs (a :: l)) : 0 ≤ a ∧ a ≤ 255 := h a List.mem_cons_self

theorem drop_cons {l : List Int} {i : Nat} {a : Int} {t : List Int} (h : l.drop i = a :: t) : i < l.length ∧ rd l i = a ∧ l.drop (i + 1) = t := by
  have hlt : i < l.length := by
    rcases Nat.lt_or_ge i l.length with h' | h'
    · exact h'
    · rw [List.drop_eq_nil_of_le h'] at h; cases h
  rw [List.drop_eq_getElem_cons hlt] at h
  injection h with h1 h2
  refine ⟨hlt, ?_, h2⟩
  simp [rd, hlt, h1]
theorem drop_nil {l : List Int} {i : Nat} (h : l.drop i = []) : l.length ≤ i := by simpa using h

/-- One byte more in the number that is held. -/
def more (h a : Int) : Int := (h * 256) % 18446744073709551616 + a
theorem more_eq (h a : Int) (ha : 0 ≤ a ∧ a ≤ 255) : Go.bits .or .u64 (IntKind.u64.wrap (h * 256)) (IntKind.u64.wrap a) = more h a := by
  have e1 : IntKind.u64.wrap (h * 256) = (h * 256) % 18446744073709551616 := by simp [IntKind.wrap, IntKind.bits, IntKind.signed]
  have e2 : IntKind.u64.wrap a = a := by simp [IntKind.wrap, IntKind.bits, IntKind.signed]; omega
  rw [e1, e2, u64_or _ _ (by omega) (by omega) (by omega) (by omega)]
  rw [nat_join 8 _ _ (by omega) (by omega)]
  unfold more
  omega
theorem more_range (h a : Int) (ha : 0 ≤ a ∧ a ≤ 255) : 0 ≤ more h a ∧ more h a < 18446744073709551616 := by unfold more; omega
theorem more_mod (h a : Int) : more h a % 65536 = ((h % 256) * 256 + a) % 65536 := by unfold more; omega
theorem and63 (x : Int) (h0 : 0 ≤ x) (h1 : x < 18446744073709551616) : Go.bits .and .u64 x 63 = x % 64 := by
  rw [u64_and _ _ h0 h1 (by omega) (by omega)]
  have : (63 : Int).toNat = 63 := rfl
  rw [this, nat_mask6]
  omega
theorem shr_range (x j : Int) (h0 : 0 ≤ x) (h1 : x < 18446744073709551616) : 0 ≤ shr .u64 x j ∧ shr .u64 x j < 18446744073709551616 := by
  unfold shr
  have hp : (0 : Int) < 2 ^ min j.toNat IntKind.u64.bits := Int.pow_pos (by omega)
  refine ⟨Int.ediv_nonneg h0 (by omega), ?_⟩
  have : x / 2 ^ min j.toNat IntKind.u64.bits ≤ x := Int.ediv_le_self _ h0
  omega
/-- The inner loop's exit, and its round. -/
theorem enc_l1_exit (k : Nat) (A : ByteArray) (out : List Int) (h b : Int) (l : List Int) (n i : Int) (hb : b < 6) :
    letters_Encode.l1 (k + 1) A out h b l n i = letters_Encode.l0 k A out h b l n (wrap64 (i + 1)) := by
  simp only [letters_Encode.l1]
  rw [if_neg (by omega)]
theorem enc_l1_round (k : Nat) (A : ByteArray) (out : List Int) (h b : Int) (l : List Int) (n i : Int) (hA : A.size = 64) (hb : 6 ≤ b) (hb2 : b ≤ 64) (h0 : 0 ≤ h) (h1 : h < 18446744073709551616) (ho : out.length < 140737488355328) :
    letters_Encode.l1 (k + 1) A out h b l n i = letters_Encode.l1 k A (out ++ [bt A (h / 2 ^ (b - 6).toNat % 64)]) h (b - 6) l n i := by
  have hw : wrap64 (b - 6) = b - 6 := by unfold wrap64; omega
  have hs : shr .u64 h (b - 6) = h / 2 ^ (b - 6).toNat := by
    unfold shr; rw [Nat.min_eq_left (by simp [IntKind.bits]; omega)]
  have hr := shr_range h (b - 6) h0 h1
  simp only [letters_Encode.l1]
  rw [if_pos (by omega), hw, if_pos (by omega), hs] at *
  rw [and63 _ hr.1 hr.2, hA, if_pos (by omega), if_pos (by omega), if_pos ho]
theorem enc_l0_round (k : Nat) (A : ByteArray) (out : List Int) (h b : Int) (l : List Int) (i : Nat) (a : Int) (t : List Int) (hd : l.drop i = a :: t) (ha : 0 ≤ a ∧ a ≤ 255) (hb0 : 0 ≤ b) (hb : b < 6) :
    letters_Encode.l0 (k + 1) A out h b l l.length i = letters_Encode.l1 k A out (more h a) (b + 8) l l.length i := by
  obtain ⟨hlt, hrd, _⟩ := drop_cons hd
  have hw : wrap64 (b + 8) = b + 8 := by unfold wrap64; omega
  simp only [letters_Encode.l0]
  rw [if_pos (by omega), if_pos (by omega), if_pos (by omega), hrd, more_eq h a ha, hw]
theorem wrap_i (i : Nat) (hi : i < 140737488355328) : wrap64 ((i : Int) + 1) = ((i + 1 : Nat) : Int) := by unfold wrap64; omega
/-- The loop from a third byte on: what is left is told by its letters. -/
theorem enc_loop (u : Bool) (l : List Int) (hl : l.length ≤ 1099511627776) : ∀ (m : Nat) (t : List Int), t.length ≤ m → Bs t → ∀ (i : Nat) (out : List Int) (h : Int) (k : Nat), l.drop i = t → out.length ≤ 2 * i → 4 * t.length + 5 ≤ k →
    letters_Encode.l0 k (abc u) out h 0 l l.length i = some (strOfNums (out ++ (enc6 t).map (ltr u))) := by
  intro m
  induction m with
  | zero =>
    intro t ht hBt i out h k hd ho hk
    have : t = [] := List.eq_nil_of_length_eq_zero (by omega)
    subst this
    obtain ⟨k, rfl⟩ : ∃ j, k = j + 1 := ⟨k - 1, by omega⟩
    have := drop_nil hd
    simp only [letters_Encode.l0]
    rw [if_neg (by omega), if_neg (by omega)]
    simp [enc6]
  | succ m ih =>
    intro t ht hBt i out h k hd ho hk
    match t, hd, ht, hBt with
    | [], hd, ht, hBt =>
      obtain ⟨k, rfl⟩ : ∃ j, k = j + 1 := ⟨k - 1, by omega⟩
      have := drop_nil hd
      simp only [letters_Encode.l0]
      rw [if_neg (by omega), if_neg (by omega)]
      simp [enc6]
    | a :: t1, hd, ht, hBt =>
      obtain ⟨k, rfl⟩ : ∃ j, k = j + 3 := ⟨k - 3, by simp at hk; omega⟩
      have ha := hBt.head
      obtain ⟨hlt, _, hd1⟩ := drop_cons hd
      have r1 := more_range h a ha
      rw [enc_l0_round (k + 2) (abc u) out h 0 l i a t1 hd ha (by omega) (by omega)]
      rw [enc_l1_round (k + 1) (abc u) out (more h a) (0 + 8) l l.length i (abc_size u) (by omega) (by omega) r1.1 r1.2 (by omega)]
      rw [enc_l1_exit k _ _ _ _ _ _ _ (by omega), wrap_i i (by omega)]
      have v1 : more h a / 2 ^ ((0 : Int) + 8 - 6).toNat % 64 = a / 4 := by
        show more h a / 2 ^ 2 % 64 = _
        unfold more; omega
      rw [v1]
      match t1, hd1, ht, hBt with
      | [], hd1, ht, hBt =>
        obtain ⟨k, rfl⟩ : ∃ j, k = j + 1 := ⟨k - 1, by simp at hk; omega⟩
        have := drop_nil hd1
        simp only [letters_Encode.l0]
        have hw : wrap64 (6 - (0 + 8 - 6)) = 4 := by unfold wrap64; omega
        have hs : shl .u64 (more h a) 4 = (more h a * 16) % 18446744073709551616 := by
          unfold shl; simp [IntKind.wrap, IntKind.bits, IntKind.signed]
        rw [if_neg (by omega), if_pos (by omega), hw, if_pos (by omega), hs, and63 _ (by omega) (by omega), abc_size, if_pos (by omega), if_pos (by omega), if_pos (by simp; omega)]
        have v2 : more h a * 16 % 18446744073709551616 % 64 = a % 4 * 16 := by unfold more; omega
        rw [v2]
        simp [enc6, ltr]
      | b :: t2, hd1, ht, hBt =>
        obtain ⟨k, rfl⟩ : ∃ j, k = j + 3 := ⟨k - 3, by simp at hk; omega⟩
        have hb := hBt.tail.head
        obtain ⟨hlt1, _, hd2⟩ := drop_cons hd1
        have r2 := more_range (more h a) b hb
        rw [enc_l0_round (k + 2) (abc u) _ _ _ l (i + 1) b t2 hd1 hb (by omega) (by omega)]
        rw [enc_l1_round (k + 1) (abc u) _ _ _ l l.length _ (abc_size u) (by omega) (by omega) r2.1 r2.2 (by simp; omega)]
        rw [enc_l1_exit k _ _ _ _ _ _ _ (by omega), wrap_i (i + 1) (by omega)]
        have v2 : more (more h a) b / 2 ^ ((0 : Int) + 8 - 6 + 8 - 6).toNat % 64 = a % 4 * 16 + b / 16 := by
          show more (more h a) b / 2 ^ 4 % 64 = _
          unfold more; omega
        rw [v2]
        match t2, hd2, ht, hBt with
        | [], hd2, ht, hBt =>
          obtain ⟨k, rfl⟩ : ∃ j, k = j + 1 := ⟨k - 1, by simp at hk; omega⟩
          have := drop_nil hd2
          simp only [letters_Encode.l0]
          have hw : wrap64 (6 - (0 + 8 - 6 + 8 - 6)) = 2 := by unfold wrap64; omega
          have hs : shl .u64 (more (more h a) b) 2 = (more (more h a) b * 4) % 18446744073709551616 := by
            unfold shl; simp [IntKind.wrap, IntKind.bits, IntKind.signed]
          rw [if_neg (by omega), if_pos (by omega), hw, if_pos (by omega), hs, and63 _ (by omega) (by omega), abc_size, if_pos (by omega), if_pos (by omega), if_pos (by simp; omega)]
          have v3 : more (more h a) b * 4 % 18446744073709551616 % 64 = b % 16 * 4 := by unfold more; omega
          rw [v3]
          simp [enc6, ltr]
        | c :: t3, hd2, ht, hBt =>
          obtain ⟨k, rfl⟩ : ∃ j, k = j + 4 := ⟨k - 4, by simp at hk; omega⟩
          have hc := hBt.tail.tail.head
          obtain ⟨hlt2, _, hd3⟩ := drop_cons hd2
          have r3 := more_range (more (more h a) b) c hc
          rw [enc_l0_round (k + 3) (abc u) _ _ _ l (i + 1 + 1) c t3 hd2 hc (by omega) (by omega)]
          rw [enc_l1_round (k + 2) (abc u) _ _ _ l l.length _ (abc_size u) (by omega) (by omega) r3.1 r3.2 (by simp; omega)]
          rw [enc_l1_round (k + 1) (abc u) _ _ _ l l.length _ (abc_size u) (by omega) (by omega) r3.1 r3.2 (by simp; omega)]
          rw [enc_l1_exit k _ _ _ _ _ _ _ (by omega), wrap_i (i + 1 + 1) (by omega)]
          have v3 : more (more (more h a) b) c / 2 ^ ((0 : Int) + 8 - 6 + 8 - 6 + 8 - 6).toNat % 64 = b % 16 * 4 + c / 64 := by
            show more (more (more h a) b) c / 2 ^ 6 % 64 = _
            unfold more; omega
          have v4 : more (more (more h a) b) c / 2 ^ ((0 : Int) + 8 - 6 + 8 - 6 + 8 - 6 - 6).toNat % 64 = c % 64 := by
            show more (more (more h a) b) c / 2 ^ 0 % 64 = _
            unfold more; omega
          rw [v3, v4]
          have z : (0 : Int) + 8 - 6 + 8 - 6 + 8 - 6 - 6 = 0 := by omega
          rw [z, ih t3 (by simp at ht; omega) hBt.tail.tail.tail (i + 1 + 1 + 1) _ _ k hd3 (by simp; omega) (by simp at hk; omega)]
          simp [enc6, ltr]
theorem encode_eq (u : Bool) (l : List Int) (hB : Bs l) (hl : l.length ≤ 1099511627776) {k : Nat} (hk : 4 * l.length + 5 ≤ k) : letters_Encode.f k l u = some (encS l u) := by
  unfold letters_Encode.f
  rw [alphabet_eq]
  simp only [Option.bind_some]
  have := enc_loop u l hl l.length l (Nat.le_refl _) hB 0 [] 0 k rfl (by simp) hk
  rw [List.nil_append] at this
  exact this
end
section
set_option linter.unusedVariables false
open Go.RowKit Go.Proofs.YtboelmakccaenaaW.PrintWords Go.Proofs.YtboelmakccaenaaW.PrintLast Go.Proofs.YtboelmakccaenaaW.PrintMore
theorem wraps_i64 (n : Int) (h₀ : 0 ≤ n) (h₁ : n < 2 ^ 62) : IntKind.i64.wrap n = n := by rw [IntKind.wrap_i64]; omega
theorem and1_i64 (x : Int) (h0 : 0 ≤ x) (h1 : x < 4611686018427387904) : Go.bits .and .i64 x 1 = x % 2 := bits_mask .i64 62 (by decide) wraps_i64 1 (by decide) x h0 h1
theorem letter_all : ∀ (u : Bool) (n : Fin 64), hustingsref01_Letter.f (n.val : Int) u = some (ltr u n.val) := by decide +kernel
theorem letter_at (u : Bool) (v : Int) (h0 : 0 ≤ v) (h1 : v < 64) : hustingsref01_Letter.f v u = some (ltr u v) := by
  have h := letter_all u ⟨v.toNat, by omega⟩
  have e : ((v.toNat : Nat) : Int) = v := by omega
  simpa [e] using h
theorem rd_byte {l : List Int} (h : Bs l) (i : Int) : 0 ≤ rd l i ∧ rd l i ≤ 255 := by
  unfold rd
  rcases Nat.lt_or_ge i.toNat l.length with hl | hl
  · rw [List.getD_eq_getElem?_getD, List.getElem?_eq_getElem hl]
    exact h _ (List.getElem_mem hl)
  · rw [List.getD_eq_getElem?_getD, List.getElem?_eq_none hl]
    simp
theorem rd_out {l : List Int} {q : Nat} (h : l.length ≤ q) : rd l q = 0 := by
  simp [rd, h]
theorem shr_u8 (x : Int) (r : Nat) (h0 : 0 ≤ x) (h1 : x ≤ 255) (hr : r < 8) : shr .u8 x ((7 - r : Nat) : Int) = x / 2 ^ (7 - r) := by
  unfold shr
  rw [Nat.min_eq_left (by simp [IntKind.bits]; omega)]
  simp
theorem pow_le (x : Int) (r : Nat) (h0 : 0 ≤ x) (h1 : x ≤ 255) : 0 ≤ x / 2 ^ r ∧ x / 2 ^ r ≤ 255 := by
  have hp : (0 : Int) < 2 ^ r := Int.pow_pos (by omega)
  exact ⟨Int.ediv_nonneg h0 (by omega), Int.le_trans (Int.ediv_le_self _ h0) h1⟩
theorem bit_at {l : List Int} (hB : Bs l) (q r : Nat) (hq : q ≤ 1125899906842624) (hr : r < 8) : hustingsref01_bit.f l ((8 * q + r : Nat) : Int) = some (rd l q / 2 ^ (7 - r) % 2) := by
  have e1 : Int.tdiv ((8 * q + r : Nat) : Int) 8 = (q : Int) := by
    rw [Int.tdiv_eq_ediv_of_nonneg (by omega)]; omega
  have e2 : Int.tmod ((8 * q + r : Nat) : Int) 8 = (r : Int) := by
    rw [Int.tmod_eq_emod_of_nonneg (by omega)]; omega
  have e3 : wrap64 (q : Int) = q := by unfold wrap64; omega
  have e4 : wrap64 (7 - (r : Int)) = ((7 - r : Nat) : Int) := by unfold wrap64; omega
  have e5 : IntKind.u64.wrap ((7 - r : Nat) : Int) = ((7 - r : Nat) : Int) := by simp [IntKind.wrap, IntKind.bits, IntKind.signed]; omega
  have hb := rd_byte hB q
  have hp := pow_le (rd l q) (7 - r) hb.1 hb.2
  simp only [hustingsref01_bit.f, e1, e2, e3, e4, e5]
  by_cases hlt : q < l.length
  · rw [if_neg (by omega), if_pos (by omega), if_pos (by omega), if_pos (by omega), shr_u8 _ r hb.1 hb.2 hr]
    have e6 : wrap64 (rd l q / 2 ^ (7 - r)) = rd l q / 2 ^ (7 - r) := by unfold wrap64; omega
    rw [e6, and1_i64 _ (by omega) (by omega)]
  · rw [if_pos (by omega), rd_out (by omega)]
    simp
/-- Six bits from a place on. -/
def six (f : Nat → Int) (p : Nat) : Int := f p * 32 + f (p + 1) * 16 + f (p + 2) * 8 + f (p + 3) * 4 + f (p + 4) * 2 + f (p + 5)
def bv (l : List Int) (p : Nat) : Int := rd l (p / 8 : Nat) / 2 ^ (7 - p % 8) % 2
theorem bit_bv {l : List Int} (hB : Bs l) (p : Nat) (hp : p ≤ 1125899906842624) : hustingsref01_bit.f l (p : Int) = some (bv l p) := by
  have h := bit_at hB (p / 8) (p % 8) (by omega) (by omega)
  rw [show 8 * (p / 8) + p % 8 = p from by omega] at h
  exact h
theorem bv_range (l : List Int) (p : Nat) : 0 ≤ bv l p ∧ bv l p ≤ 1 := by unfold bv; omega
theorem ref_round {l : List Int} (hB : Bs l) (u : Bool) (k : Nat) (out : List Int) (p : Nat) (hp : p ≤ 1099511627776) (n : Int) (h0 : 0 ≤ n) (h1 : n < 64) (j : Nat) (hj : j < 6) :
    hustingsref01_Encode.l1 (k + 1) l u out p n j = hustingsref01_Encode.l1 k l u out p (2 * n + bv l (p + j)) ((j + 1 : Nat) : Int) := by
  have hb := bv_range l (p + j)
  have e1 : wrap64 ((p : Int) + (j : Int)) = ((p + j : Nat) : Int) := by unfold wrap64; omega
  have e2 : wrap64 (wrap64 (2 * n) + bv l (p + j)) = 2 * n + bv l (p + j) := by unfold wrap64; omega
  have e3 : wrap64 ((j : Int) + 1) = ((j + 1 : Nat) : Int) := by unfold wrap64; omega
  simp only [hustingsref01_Encode.l1]
  rw [if_pos (by omega), e1, bit_bv hB _ (by omega)]
  simp only [Option.bind_some]
  rw [e2, e3]
theorem ref_six {l : List Int} (hB : Bs l) (u : Bool) (k : Nat) (out : List Int) (p : Nat) (hp : p ≤ 1099511627776) (ho : out.length < 140737488355328) :
    hustingsref01_Encode.l1 (k + 7) l u out p 0 0 = hustingsref01_Encode.l0 k l u (out ++ [ltr u (six (bv l) p)]) ((p + 6 : Nat) : Int) := by
  have b0 := bv_range l (p + 0)
  have b1 := bv_range l (p + 1)
  have b2 := bv_range l (p + 2)
  have b3 := bv_range l (p + 3)
  have b4 := bv_range l (p + 4)
  have b5 := bv_range l (p + 5)
  have r0 := ref_round hB u (k + 6) out p hp 0 (by omega) (by omega) 0 (by omega)
  refine r0.trans ?_
  rw [ref_round hB u (k + 5) out p hp _ (by omega) (by omega) 1 (by omega), ref_round hB u (k + 4) out p hp _ (by omega) (by omega) 2 (by omega),
    ref_round hB u (k + 3) out p hp _ (by omega) (by omega) 3 (by omega), ref_round hB u (k + 2) out p hp _ (by omega) (by omega) 4 (by omega), ref_round hB u (k + 1) out p hp _ (by omega) (by omega) 5 (by omega)]
  simp only [hustingsref01_Encode.l1]
  rw [if_neg (by omega), letter_at u _ (by omega) (by omega)]
  simp only [Option.bind_some]
  rw [if_pos ho]
  have e1 : wrap64 ((p : Int) + 6) = ((p + 6 : Nat) : Int) := by unfold wrap64; omega
  rw [e1]
  congr 4
  unfold six
  rw [Nat.add_zero] at *
  omega
theorem ref_l0 {l : List Int} (hB : Bs l) (hl : l.length ≤ 1073741824) (u : Bool) (k : Nat) (out : List Int) (p : Nat) (hp : p < 8 * l.length) (ho : out.length < 140737488355328) :
    hustingsref01_Encode.l0 (k + 8) l u out p = hustingsref01_Encode.l0 k l u (out ++ [ltr u (six (bv l) p)]) ((p + 6 : Nat) : Int) := by
  have e : wrap64 (8 * (l.length : Int)) = 8 * (l.length : Int) := by unfold wrap64; omega
  rw [← ref_six hB u k out p (by omega) ho]
  simp only [hustingsref01_Encode.l0]
  rw [e, if_pos (by omega)]
theorem ref_end {l : List Int} (hl : l.length ≤ 1073741824) (u : Bool) (k : Nat) (out : List Int) (p : Nat) (hp : 8 * l.length ≤ p) :
    hustingsref01_Encode.l0 (k + 1) l u out p = some (strOfNums out) := by
  have e : wrap64 (8 * (l.length : Int)) = 8 * (l.length : Int) := by unfold wrap64; omega
  simp only [hustingsref01_Encode.l0]
  rw [e, if_neg (by omega)]
theorem bv_at (l : List Int) (q r : Nat) (hr : r < 8) : bv l (8 * q + r) = rd l q / 2 ^ (7 - r) % 2 := by
  unfold bv
  rw [show (8 * q + r) / 8 = q from by omega, show (8 * q + r) % 8 = r from by omega]
theorem six0 {l : List Int} (hB : Bs l) (q : Nat) : six (bv l) (8 * q) = rd l q / 4 := by
  have h := rd_byte hB q
  have e := bv_at l q
  have e0 := e 0 (by omega)
  rw [Nat.add_zero] at e0
  unfold six
  rw [e0, e 1 (by omega), e 2 (by omega), e 3 (by omega), e 4 (by omega), e 5 (by omega)]
  simp only [Nat.reduceSub]
  omega
theorem six1 {l : List Int} (hB : Bs l) (q : Nat) : six (bv l) (8 * q + 6) = rd l q % 4 * 16 + rd l (q + 1 : Nat) / 16 := by
  have h := rd_byte hB q
  have h1 := rd_byte hB (q + 1 : Nat)
  unfold six
  rw [bv_at l q 6 (by omega), show 8 * q + 6 + 1 = 8 * q + 7 from rfl, bv_at l q 7 (by omega), show 8 * q + 6 + 2 = 8 * (q + 1) + 0 from by omega, bv_at l (q + 1) 0 (by omega), show 8 * q + 6 + 3 = 8 * (q + 1) + 1 from by omega, bv_at l (q + 1) 1 (by omega),
    show 8 * q + 6 + 4 = 8 * (q + 1) + 2 from by omega, bv_at l (q + 1) 2 (by omega), show 8 * q + 6 + 5 = 8 * (q + 1) + 3 from by omega, bv_at l (q + 1) 3 (by omega)]
  simp only [Nat.reduceSub]
  omega
theorem six2 {l : List Int} (hB : Bs l) (q : Nat) : six (bv l) (8 * q + 4) = rd l q % 16 * 4 + rd l (q + 1 : Nat) / 64 := by
  have h := rd_byte hB q
  have h1 := rd_byte hB (q + 1 : Nat)
  unfold six
  rw [bv_at l q 4 (by omega), show 8 * q + 4 + 1 = 8 * q + 5 from rfl, bv_at l q 5 (by omega), show 8 * q + 4 + 2 = 8 * q + 6 from by omega, bv_at l q 6 (by omega), show 8 * q + 4 + 3 = 8 * q + 7 from by omega, bv_at l q 7 (by omega),
    show 8 * q + 4 + 4 = 8 * (q + 1) + 0 from by omega, bv_at l (q + 1) 0 (by omega), show 8 * q + 4 + 5 = 8 * (q + 1) + 1 from by omega, bv_at l (q + 1) 1 (by omega)]
  simp only [Nat.reduceSub]
  omega
theorem six3 {l : List Int} (hB : Bs l) (q : Nat) : six (bv l) (8 * q + 2) = rd l q % 64 := by
  have h := rd_byte hB q
  unfold six
  rw [bv_at l q 2 (by omega), show 8 * q + 2 + 1 = 8 * q + 3 from rfl, bv_at l q 3 (by omega), show 8 * q + 2 + 2 = 8 * q + 4 from by omega, bv_at l q 4 (by omega), show 8 * q + 2 + 3 = 8 * q + 5 from by omega, bv_at l q 5 (by omega),
    show 8 * q + 2 + 4 = 8 * q + 6 from by omega, bv_at l q 6 (by omega), show 8 * q + 2 + 5 = 8 * q + 7 from by omega, bv_at l q 7 (by omega)]
  simp only [Nat.reduceSub]
  omega
theorem ref_loop (u : Bool) (l : List Int) (hB : Bs l) (hl : l.length ≤ 1073741824) : ∀ (m : Nat) (t : List Int), t.length ≤ m → ∀ (q : Nat) (out : List Int) (k : Nat), l.drop q = t → out.length ≤ 2 * q → 16 * t.length + 1 ≤ k →
    hustingsref01_Encode.l0 k l u out ((8 * q : Nat) : Int) = some (strOfNums (out ++ (enc6 t).map (ltr u))) := by
  intro m
  induction m with
  | zero =>
    intro t ht q out k hd ho hk
    have : t = [] := List.eq_nil_of_length_eq_zero (by omega)
    subst this
    obtain ⟨k, rfl⟩ : ∃ j, k = j + 1 := ⟨k - 1, by omega⟩
    have := drop_nil hd
    rw [ref_end hl u k out _ (by omega)]
    simp [enc6]
  | succ m ih =>
    intro t ht q out k hd ho hk
    match t, hd, ht with
    | [], hd, ht =>
      obtain ⟨k, rfl⟩ : ∃ j, k = j + 1 := ⟨k - 1, by omega⟩
      have := drop_nil hd
      rw [ref_end hl u k out _ (by omega)]
      simp [enc6]
    | [a], hd, ht =>
      obtain ⟨k, rfl⟩ : ∃ j, k = j + 17 := ⟨k - 17, by simp at hk; omega⟩
      obtain ⟨hlt, hra, hd1⟩ := drop_cons hd
      have hn := drop_nil hd1
      rw [show k + 17 = k + 9 + 8 from rfl, ref_l0 hB hl u _ out _ (by omega) (by omega), show k + 9 = k + 1 + 8 from rfl, ref_l0 hB hl u _ _ _ (by omega) (by simp; omega), ref_end hl u _ _ _ (by omega)]
      rw [six0 hB, six1 hB, hra, rd_out (q := q + 1) (by omega)]
      simp [enc6, ltr]
    | [a, b], hd, ht =>
      obtain ⟨k, rfl⟩ : ∃ j, k = j + 25 := ⟨k - 25, by simp at hk; omega⟩
      obtain ⟨hlt, hra, hd1⟩ := drop_cons hd
      obtain ⟨hlt1, hrb, hd2⟩ := drop_cons hd1
      have hn := drop_nil hd2
      rw [show k + 25 = k + 17 + 8 from rfl, ref_l0 hB hl u _ out _ (by omega) (by omega), show k + 17 = k + 9 + 8 from rfl, ref_l0 hB hl u _ _ _ (by omega) (by simp; omega), show k + 9 = k + 1 + 8 from rfl, ref_l0 hB hl u _ _ _ (by omega) (by simp; omega), ref_end hl u _ _ _ (by omega)]
      rw [six0 hB, six1 hB, show 8 * q + 6 + 6 = 8 * (q + 1) + 4 from by omega, six2 hB, hra, hrb, rd_out (q := q + 1 + 1) (by omega)]
      simp [enc6, ltr]
    | a :: b :: c :: t, hd, ht =>
      obtain ⟨k, rfl⟩ : ∃ j, k = j + 32 := ⟨k - 32, by simp at hk; omega⟩
      obtain ⟨hlt, hra, hd1⟩ := drop_cons hd
      obtain ⟨hlt1, hrb, hd2⟩ := drop_cons hd1
      obtain ⟨hlt2, hrc, hd3⟩ := drop_cons hd2
      rw [show k + 32 = k + 24 + 8 from rfl, ref_l0 hB hl u _ out _ (by omega) (by omega), show k + 24 = k + 16 + 8 from rfl, ref_l0 hB hl u _ _ _ (by omega) (by simp; omega), show k + 16 = k + 8 + 8 from rfl, ref_l0 hB hl u _ _ _ (by omega) (by simp; omega), ref_l0 hB hl u _ _ _ (by omega) (by simp; omega)]
      rw [show 8 * q + 6 + 6 + 6 + 6 = 8 * (q + 1 + 1 + 1) from by omega, ih t (by simp at ht; omega) (q + 1 + 1 + 1) _ k hd3 (by simp; omega) (by simp at hk; omega)]
      rw [six0 hB, six1 hB, show 8 * q + 6 + 6 = 8 * (q + 1) + 4 from by omega, six2 hB, show 8 * (q + 1) + 4 + 6 = 8 * (q + 1 + 1) + 2 from by omega, six3 hB, hra, hrb, hrc]
      simp [enc6, ltr]
theorem ref_encode_eq (u : Bool) (l : List Int) (hB : Bs l) (hl : l.length ≤ 1073741824) {k : Nat} (hk : 16 * l.length + 1 ≤ k) : hustingsref01_Encode.f k l u = some (encS l u) := by
  unfold hustingsref01_Encode.f
  have := ref_loop u l hB hl l.length l (Nat.le_refl _) 0 [] k rfl (by simp) hk
  rw [List.nil_append] at this
  exact this
end
section
set_option linter.unusedVariables false
open Go.RowKit Go.Proofs.YtboelmakccaenaaW.PrintWords Go.Proofs.YtboelmakccaenaaW.PrintLast Go.Proofs.YtboelmakccaenaaW.PrintMore
/-- A letter's number. -/
def valOf (u : Bool) (r : Int) : Option Int :=
  if 65 ≤ r ∧ r ≤ 90 then some (r - 65) else if 97 ≤ r ∧ r ≤ 122 then some (r - 71) else if 48 ≤ r ∧ r ≤ 57 then some (r + 4)
  else if r = (if u then 45 else 43) then some 62 else if r = (if u then 95 else 47) then some 63 else none
theorem u64_id (x : Int) (h0 : 0 ≤ x) (h1 : x < 18446744073709551616) : IntKind.u64.wrap x = x := by simp [IntKind.wrap, IntKind.bits, IntKind.signed]; omega
theorem wrap32_id (x : Int) (h0 : -2147483648 ≤ x) (h1 : x ≤ 2147483647) : wrap32 x = x := by unfold wrap32; omega
theorem value_eq (u : Bool) (r : Int) (h0 : 0 ≤ r) (h1 : r ≤ 2147483647) : letters_value.f 7 r u = some ((valOf u r).getD 0, (valOf u r).isSome) := by
  have e1 : 65 ≤ r → IntKind.u64.wrap (wrap32 (r - 65)) = r - 65 := fun h => by rw [wrap32_id _ (by omega) (by omega), u64_id _ (by omega) (by omega)]
  have e2 : 97 ≤ r → IntKind.u64.wrap ((IntKind.u64.wrap (wrap32 (r - 97))) + 26) = r - 71 := fun h => by rw [wrap32_id _ (by omega) (by omega), u64_id (r - 97) (by omega) (by omega), u64_id _ (by omega) (by omega)]; omega
  have e3 : 48 ≤ r → IntKind.u64.wrap ((IntKind.u64.wrap (wrap32 (r - 48))) + 52) = r + 4 := fun h => by rw [wrap32_id _ (by omega) (by omega), u64_id (r - 48) (by omega) (by omega), u64_id _ (by omega) (by omega)]; omega
  unfold valOf
  simp only [letters_value.f, letters_value.j0, letters_value.j1, letters_value.j2, letters_value.j3, letters_value.j4, letters_value.j5]
  by_cases a1 : 65 ≤ r ∧ r ≤ 90
  · obtain ⟨b1, b2⟩ := a1
    simp [b1, b2, e1]
  · by_cases a2 : 97 ≤ r ∧ r ≤ 122
    · obtain ⟨b1, b2⟩ := a2
      have c1 : ¬ r ≤ 90 := by omega
      have c2 : 65 ≤ r := by omega
      simp [b1, b2, c1, c2, e2]
    · by_cases a3 : 48 ≤ r ∧ r ≤ 57
      · obtain ⟨b1, b2⟩ := a3
        have c1 : ¬ 65 ≤ r := by omega
        have c2 : ¬ 97 ≤ r := by omega
        simp [b1, b2, c1, c2, e3]
      · have d1 : 65 ≤ r → ¬ r ≤ 90 := fun h h' => a1 ⟨h, h'⟩
        have d2 : 97 ≤ r → ¬ r ≤ 122 := fun h h' => a2 ⟨h, h'⟩
        have d3 : 48 ≤ r → ¬ r ≤ 57 := fun h h' => a3 ⟨h, h'⟩
        rw [if_neg a1, if_neg a2, if_neg a3]
        have s1 : ∀ X : Option (Int × Bool), (if 65 ≤ r then (if decide (r ≤ 90) = true then X else X) else X) = X := fun X => by split <;> (try split) <;> rfl
        by_cases k1 : 65 ≤ r <;> by_cases k2 : 97 ≤ r <;> by_cases k3 : 48 ≤ r <;> (try (exfalso; omega)) <;> cases u <;> by_cases q1 : r = 43 <;> by_cases q2 : r = 45 <;> by_cases q3 : r = 47 <;> by_cases q4 : r = 95 <;> (try (exfalso; omega)) <;> simp_all <;> (repeat rw [if_neg (by omega)])
theorem value_calls (u : Bool) (r : Int) (w : World) (h0 : 0 ≤ r) (h1 : r ≤ 2147483647) :
    Calls Try.prog 77 #[.int .i32 r, .bool u] w fun e w' => e = .returned (.tuple #[.int .u64 ((valOf u r).getD 0), .bool (valOf u r).isSome]) ∧ Drawn0 w w' :=
  letters_value.calls 7 r u _ _ w (value_eq u r h0 h1)
theorem valOf_range {u : Bool} {r v : Int} (h : valOf u r = some v) : 0 ≤ v ∧ v < 64 ∧ 43 ≤ r ∧ r ≤ 122 := by
  cases u <;> simp only [valOf, if_true, if_false, Bool.false_eq_true] at h
  all_goals
    repeat' split at h
    all_goals first | (injection h with h; omega) | (cases h)
theorem bt_get (s : ByteArray) (pos : Nat) (hp : pos < s.size) : bt s pos = ((s[pos]'hp).toNat : Int) := by
  simp [bt, hp]
theorem valOf_rune (u : Bool) (s : ByteArray) (pos : Nat) (hp : pos < s.size) : valOf u ((Utf8.decode s pos).1 : Int) = valOf u (bt s pos) := by
  rw [bt_get s pos hp]
  by_cases ha : (s[pos]'hp).toNat < 128
  · rw [decode_ascii s pos hp ha]
  · have h1 := (decode_high s pos hp (by omega)).1
    have f1 : valOf u ((Utf8.decode s pos).1 : Int) = none := by
      rcases h : valOf u ((Utf8.decode s pos).1 : Int) with _ | v
      · rfl
      · have := valOf_range h; omega
    have f2 : valOf u ((s[pos]'hp).toNat : Int) = none := by
      rcases h : valOf u ((s[pos]'hp).toNat : Int) with _ | v
      · rfl
      · have := valOf_range h; omega
    rw [f1, f2]
theorem decode_one {u : Bool} {s : ByteArray} {pos : Nat} (hp : pos < s.size) {v : Int} (h : valOf u (bt s pos) = some v) : (Utf8.decode s pos).2 = 1 := by
  have hr := valOf_range h
  rw [bt_get s pos hp] at hr
  rw [decode_ascii s pos hp (by omega)]
/-- The letters that are left, with what was made and what is held. -/
def decGo (u : Bool) : List Int → List Int → Int → Int → Option (List Int)
  | [], out, h, b => if 6 ≤ b ∨ h ≠ 0 then none else some out
  | c :: t, out, h, b =>
    match valOf u c with
    | none => none
    | some v => if 2 ≤ b then decGo u t (out ++ [(h * 64 + v) / 2 ^ (b - 2).toNat]) ((h * 64 + v) % 2 ^ (b - 2).toNat) (b - 2) else decGo u t out (h * 64 + v) (b + 6)
def decL (u : Bool) (l : List Int) : Option (List Int) := decGo u l [] 0 0
theorem drop_bytes (s : ByteArray) (pos : Nat) (hp : pos < s.size) : (bytesOf s).drop pos = bt s pos :: (bytesOf s).drop (pos + 1) := by
  have hl : pos < (bytesOf s).length := by rw [bytesOf_length]; exact hp
  rw [List.drop_eq_getElem_cons hl]
  congr 1
  have := rd_bytesOf s pos
  rw [← this]
  simp [rd, hl]
/-- What is held: b bits, 0, 2, 4 or 6. -/
def Held (h b : Int) : Prop := (b = 0 ∧ h = 0) ∨ (b = 2 ∧ 0 ≤ h ∧ h < 4) ∨ (b = 4 ∧ 0 ≤ h ∧ h < 16) ∨ (b = 6 ∧ 0 ≤ h ∧ h < 64)
theorem join6 {h b v : Int} (hh : Held h b) (hv : 0 ≤ v ∧ v < 64) : Go.bits .or .u64 (IntKind.u64.wrap (h * 64)) v = h * 64 + v := by
  have hr : 0 ≤ h ∧ h < 64 := by unfold Held at hh; omega
  rw [u64_id _ (by omega) (by omega), u64_or _ _ (by omega) (by omega) (by omega) (by omega), nat_join 6 _ _ (by omega) (by omega)]
  omega
end
section
set_option linter.unusedVariables false
open Go.RowKit Go.Proofs.YtboelmakccaenaaW.PrintWords Go.Proofs.YtboelmakccaenaaW.PrintLast Go.Proofs.YtboelmakccaenaaW.PrintMore
def DecPost (u : Bool) (s : ByteArray) (w : World) (e : Ending) (w' : World) : Prop :=
  ∃ v, e = .returned (.tuple #[v, .bool (decL u (bytesOf s)).isSome]) ∧ Kd.R (Kd.int .u8) 5 w' w.heap.size (fun _ => True) v ((decL u (bytesOf s)).getD []) ∧ Below w.heap.size w w'
/-- The relation of the loop. -/
def DecRel (u : Bool) (s : ByteArray) (w : World) (v6 v7 v8 : Value) (wr : World) : Prop :=
  ∃ (pos : Nat) (out : List Int) (h b : Int), pos ≤ s.size ∧ v7 = .int .u64 h ∧ v8 = .int .i64 b ∧ Held h b ∧ decL u (bytesOf s) = decGo u ((bytesOf s).drop pos) out h b ∧ wr.heap[w.heap.size]? = some (.stringIter s pos) ∧
    Kd.R (Kd.int .u8) 5 wr (w.heap.size + 1) (fun _ => True) v6 out ∧ Below w.heap.size w wr ∧ out.length ≤ pos
theorem value_none (u : Bool) (r : Int) (w : World) (h : valOf u r = none) (h0 : 0 ≤ r) (h1 : r ≤ 2147483647) :
    Calls Try.prog 77 #[.int .i32 r, .bool u] w fun e w' => e = .returned (.tuple #[.int .u64 0, .bool false]) ∧ Drawn0 w w' := by
  have := value_calls u r w h0 h1
  rw [h] at this
  exact this
theorem value_some (u : Bool) (r v : Int) (w : World) (h : valOf u r = some v) (h0 : 0 ≤ r) (h1 : r ≤ 2147483647) :
    Calls Try.prog 77 #[.int .i32 r, .bool u] w fun e w' => e = .returned (.tuple #[.int .u64 v, .bool true]) ∧ Drawn0 w w' := by
  have := value_calls u r w h0 h1
  rw [h] at this
  exact this
theorem R_iter {α : Type} {d : Kd α} {e : Nat} {wr : World} {base B : Nat} {ok : Nat → Prop} {v : Value} {xs : List α} {s : ByteArray} {p : Nat} (h : Kd.R d e wr base ok v xs) (hB : B < base) : Kd.R d e (wr.iterAt B s p) base ok v xs :=
  Kd.R_mono (Kd.R_step (Kd.R_bound h) (fun k hk _ => Lib.iterAt_other _ _ _ _ _ (by omega))) (fun k hk => hk.1)
theorem iterPos_of {w : World} {B p : Nat} {s : ByteArray} (h : w.heap[B]? = some (.stringIter s p)) : w.iterPos B = p := by simp [World.iterPos, h]
theorem and_mask (x : Int) (h0 : 0 ≤ x) (h1 : x < 18446744073709551616) (q m : Int) (hq : (q = 1 ∧ m = 0) ∨ (q = 4 ∧ m = 3) ∨ (q = 16 ∧ m = 15)) : Go.bits .and .u64 x m = x % q := by
  rcases hq with ⟨rfl, rfl⟩ | ⟨rfl, rfl⟩ | ⟨rfl, rfl⟩
  · rw [u64_and _ _ h0 h1 (by omega) (by omega)]; simp
  · rw [u64_and _ _ h0 h1 (by omega) (by omega), show (3 : Int).toNat = 3 from rfl, nat_mask2]; omega
  · rw [u64_and _ _ h0 h1 (by omega) (by omega), show (15 : Int).toNat = 15 from rfl, nat_mask4]; omega
set_option maxRecDepth 100000 in
theorem dec_walk (u : Bool) (s : ByteArray) (w : World) (hs : s.size ≤ 140737488351232) : Calls Try.prog 29 #[.string s, .bool u] w (DecPost u s w) := by
  go_enter Try.func29, Try.ntmps29
  go_wp2
  go_loopw [6, 7, 8] (fun v6 v7 v8 wr => DecRel u s w v6 v7 v8 wr) (fun _ _ _ w' => s.size - w'.iterPos w.heap.size)
  case atStart => exact ⟨0, [], 0, 0, by omega, rfl, rfl, .inl ⟨rfl, rfl⟩, rfl, heap_alloc_new w _, Kd.R_nil _ _ _ _ _, (Below.refl _ _).alloc (Nat.le_refl _) _, by simp⟩
  case round =>
    obtain ⟨pos, out, h, b, hpos, rfl, rfl, hh, hd, hit, hown, hbel, hlen⟩ := hrel
    have HH := Aside0.mk hh
    have HD := Aside0.mk hd
    have HI := Aside0.mk hit
    have HO := Aside0.mk hown
    have HB := Aside0.mk hbel
    have HL := Aside0.mk hlen
    clear hh hd hit hown hbel hlen
    by_cases hp : pos < s.size
    · have hnx := fun ty => Lib.run_next_any_at (P := Try.prog) wr w.heap.size s pos ty HI.out hp
      have hle := decode_le s pos
      rcases hv : valOf u (bt s pos) with _ | v
      · have HV := Aside0.mk ((valOf_rune u s pos hp).trans hv)
        have HE := Aside0.mk hv
        clear hv
        go_wp2_with fail
        refine (value_none u _ _ HV.out (by omega) (by omega)).mono ?_
        rintro e w1 ⟨rfl, ⟨n, rfl⟩⟩
        go_wp2_with fail
        go_ret2
        refine ⟨.slice none 0 0, ?_, ?_, ?_⟩
        · rw [HD.out, drop_bytes s pos hp]; simp [decGo, HE.out]
        · rw [HD.out, drop_bytes s pos hp]; simp only [decGo, HE.out]; exact Kd.R_nil _ _ _ _ _
        · exact pw_below_drewN (Lib.below_iterAt HB.out (Nat.le_refl _) _ _) _
      · have HV := Aside0.mk ((valOf_rune u s pos hp).trans hv)
        have HE := Aside0.mk hv
        have h1 := decode_one hp hv
        have hr := valOf_range hv
        have hv0 := hr.1
        have hv1 := hr.2.1
        clear hv hr
        rw [h1] at hnx
        rcases HH.out with ⟨rfl, rfl⟩ | ⟨rfl, hh0, hh1⟩ | ⟨rfl, hh0, hh1⟩ | ⟨rfl, hh0, hh1⟩
        · have hj : Go.bits .or .u64 0 v = v := by
            have := join6 (h := 0) (b := 0) (v := v) (.inl ⟨rfl, rfl⟩) ⟨hv0, hv1⟩
            rw [show IntKind.u64.wrap ((0 : Int) * 64) = 0 from u64_id 0 (by omega) (by omega), show (0 : Int) * 64 + v = v from by omega] at this
            exact this
          go_wp2_with fail
          refine (value_some u _ _ _ HV.out (by omega) (by omega)).mono ?_
          rintro e w1 ⟨rfl, ⟨n, rfl⟩⟩
          go_wp2_with fail
          refine ⟨⟨pos + 1, out, v, 6, by omega, rfl, rfl, .inr (.inr (.inr ⟨rfl, hv0, hv1⟩)), ?_, ?_, ?_, ?_, by have := HL.out; omega⟩, ?_⟩
          · rw [HD.out, drop_bytes s pos hp]; simp [decGo, HE.out]
          · exact Lib.iterAt_heap _ _ _ _ _ HI.out
          · exact Kd.R_drewN (R_iter HO.out (by omega)) _
          · exact pw_below_drewN (Lib.below_iterAt HB.out (Nat.le_refl _) _ _) _
          · rw [iterPos_of (show ((wr.iterAt w.heap.size s (pos + 1)).drewN n).heap[w.heap.size]? = some (.stringIter s (pos + 1)) from Lib.iterAt_heap _ _ _ _ _ HI.out), iterPos_of HI.out]; omega
        · have hj : Go.bits .or .u64 (h * 64) v = h * 64 + v := by have := join6 (h := h) (b := 2) (v := v) (.inr (.inl ⟨rfl, hh0, hh1⟩)) ⟨hv0, hv1⟩; rwa [u64_id _ (by omega) (by omega)] at this
          have hm : Go.bits .and .u64 (h * 64 + v) 0 = (h * 64 + v) % 1 := and_mask (h * 64 + v) (by omega) (by omega) 1 0 (by decide)
          have hsz : w.heap.size < wr.heap.size := (Array.getElem?_eq_some_iff.1 HI.out).1
          go_wp2_with fail
          refine (value_some u _ _ _ HV.out (by omega) (by omega)).mono ?_
          rintro e w1 ⟨rfl, ⟨n, rfl⟩⟩
          go_wp2_with (((with_reducible refine gate_builtin (b := .append) (xs := #[.tmp 36, .tmp 41]) rfl ?_); at_builtin; refine Kd.R_append (Kd.int .u8) (w0 := (wr.iterAt w.heap.size s (pos + 1)).drewN n) (W := (wr.iterAt w.heap.size s (pos + 1)).drewN n) (w.heap.size + 1) rfl (.tmp 36) (.tmp 41) 23 5 (.int .u8 0) 1 rfl Try.underlying23 info5 rfl (by decide) (by omega) u6 out (h * 64 + v) [.int .u8 (h * 64 + v)] (fun _ => True) (fun _ => False) rfl rfl ?aP (fun _ hk => hk.elim) ?aF ?aO (Below.refl _ _) ?aS ?aL ?_; (case aP => exact rfl); (case aF => exact (fun _ _ => trivial)); (case aO => exact Kd.R_drewN (R_iter HO.out (by omega)) _); (case aS => exact (show w.heap.size + 1 ≤ (wr.iterAt w.heap.size s (pos + 1)).heap.size by rw [Lib.iterAt_size]; omega)); (case aL => have := HL.out; omega); intro v1 w1 ho1 hb1 hg1 hat1; have HO1 := Aside0.mk ho1; have HB1 := Aside0.mk hb1; clear ho1 hb1 hg1 hat1))
          have hit1 : w1.heap[w.heap.size]? = some (.stringIter s (pos + 1)) := (HB1.out.block w.heap.size (by omega)).trans (Lib.iterAt_heap _ _ _ _ _ HI.out)
          refine ⟨⟨pos + 1, out ++ [h * 64 + v], 0, 0, by omega, rfl, rfl, .inl ⟨rfl, rfl⟩, ?_, hit1, HO1.out, ?_, by have := HL.out; simp; omega⟩, ?_⟩
          · rw [HD.out, drop_bytes s pos hp]; simp [decGo, HE.out]
          · exact (pw_below_drewN (Lib.below_iterAt HB.out (Nat.le_refl _) s (pos + 1)) n).trans (HB1.out.mono (by omega))
          · rw [iterPos_of hit1, iterPos_of HI.out]; omega
        · have hj : Go.bits .or .u64 (h * 64) v = h * 64 + v := by have := join6 (h := h) (b := 4) (v := v) (.inr (.inr (.inl ⟨rfl, hh0, hh1⟩))) ⟨hv0, hv1⟩; rwa [u64_id _ (by omega) (by omega)] at this
          have hm : Go.bits .and .u64 (h * 64 + v) 3 = (h * 64 + v) % 4 := and_mask (h * 64 + v) (by omega) (by omega) 4 3 (by decide)
          have hsz : w.heap.size < wr.heap.size := (Array.getElem?_eq_some_iff.1 HI.out).1
          go_wp2_with fail
          refine (value_some u _ _ _ HV.out (by omega) (by omega)).mono ?_
          rintro e w1 ⟨rfl, ⟨n, rfl⟩⟩
          go_wp2_with (((with_reducible refine gate_builtin (b := .append) (xs := #[.tmp 36, .tmp 41]) rfl ?_); at_builtin; refine Kd.R_append (Kd.int .u8) (w0 := (wr.iterAt w.heap.size s (pos + 1)).drewN n) (W := (wr.iterAt w.heap.size s (pos + 1)).drewN n) (w.heap.size + 1) rfl (.tmp 36) (.tmp 41) 23 5 (.int .u8 0) 1 rfl Try.underlying23 info5 rfl (by decide) (by omega) u6 out ((h * 64 + v) / 4) [.int .u8 ((h * 64 + v) / 4)] (fun _ => True) (fun _ => False) rfl rfl ?aP (fun _ hk => hk.elim) ?aF ?aO (Below.refl _ _) ?aS ?aL ?_; (case aP => exact rfl); (case aF => exact (fun _ _ => trivial)); (case aO => exact Kd.R_drewN (R_iter HO.out (by omega)) _); (case aS => exact (show w.heap.size + 1 ≤ (wr.iterAt w.heap.size s (pos + 1)).heap.size by rw [Lib.iterAt_size]; omega)); (case aL => have := HL.out; omega); intro v1 w1 ho1 hb1 hg1 hat1; have HO1 := Aside0.mk ho1; have HB1 := Aside0.mk hb1; clear ho1 hb1 hg1 hat1))
          have hit1 : w1.heap[w.heap.size]? = some (.stringIter s (pos + 1)) := (HB1.out.block w.heap.size (by omega)).trans (Lib.iterAt_heap _ _ _ _ _ HI.out)
          refine ⟨⟨pos + 1, out ++ [(h * 64 + v) / 4], (h * 64 + v) % 4, 2, by omega, rfl, rfl, .inr (.inl ⟨rfl, by omega, by omega⟩), ?_, hit1, HO1.out, ?_, by have := HL.out; simp; omega⟩, ?_⟩
          · rw [HD.out, drop_bytes s pos hp]; simp [decGo, HE.out]
          · exact (pw_below_drewN (Lib.below_iterAt HB.out (Nat.le_refl _) s (pos + 1)) n).trans (HB1.out.mono (by omega))
          · rw [iterPos_of hit1, iterPos_of HI.out]; omega
        · have hj : Go.bits .or .u64 (h * 64) v = h * 64 + v := by have := join6 (h := h) (b := 6) (v := v) (.inr (.inr (.inr ⟨rfl, hh0, hh1⟩))) ⟨hv0, hv1⟩; rwa [u64_id _ (by omega) (by omega)] at this
          have hm : Go.bits .and .u64 (h * 64 + v) 15 = (h * 64 + v) % 16 := and_mask (h * 64 + v) (by omega) (by omega) 16 15 (by decide)
          have hsz : w.heap.size < wr.heap.size := (Array.getElem?_eq_some_iff.1 HI.out).1
          go_wp2_with fail
          refine (value_some u _ _ _ HV.out (by omega) (by omega)).mono ?_
          rintro e w1 ⟨rfl, ⟨n, rfl⟩⟩
          go_wp2_with (((with_reducible refine gate_builtin (b := .append) (xs := #[.tmp 36, .tmp 41]) rfl ?_); at_builtin; refine Kd.R_append (Kd.int .u8) (w0 := (wr.iterAt w.heap.size s (pos + 1)).drewN n) (W := (wr.iterAt w.heap.size s (pos + 1)).drewN n) (w.heap.size + 1) rfl (.tmp 36) (.tmp 41) 23 5 (.int .u8 0) 1 rfl Try.underlying23 info5 rfl (by decide) (by omega) u6 out ((h * 64 + v) / 16) [.int .u8 ((h * 64 + v) / 16)] (fun _ => True) (fun _ => False) rfl rfl ?aP (fun _ hk => hk.elim) ?aF ?aO (Below.refl _ _) ?aS ?aL ?_; (case aP => exact rfl); (case aF => exact (fun _ _ => trivial)); (case aO => exact Kd.R_drewN (R_iter HO.out (by omega)) _); (case aS => exact (show w.heap.size + 1 ≤ (wr.iterAt w.heap.size s (pos + 1)).heap.size by rw [Lib.iterAt_size]; omega)); (case aL => have := HL.out; omega); intro v1 w1 ho1 hb1 hg1 hat1; have HO1 := Aside0.mk ho1; have HB1 := Aside0.mk hb1; clear ho1 hb1 hg1 hat1))
          have hit1 : w1.heap[w.heap.size]? = some (.stringIter s (pos + 1)) := (HB1.out.block w.heap.size (by omega)).trans (Lib.iterAt_heap _ _ _ _ _ HI.out)
          refine ⟨⟨pos + 1, out ++ [(h * 64 + v) / 16], (h * 64 + v) % 16, 4, by omega, rfl, rfl, .inr (.inr (.inl ⟨rfl, by omega, by omega⟩)), ?_, hit1, HO1.out, ?_, by have := HL.out; simp; omega⟩, ?_⟩
          · rw [HD.out, drop_bytes s pos hp]; simp [decGo, HE.out]
          · exact (pw_below_drewN (Lib.below_iterAt HB.out (Nat.le_refl _) s (pos + 1)) n).trans (HB1.out.mono (by omega))
          · rw [iterPos_of hit1, iterPos_of HI.out]; omega
    · have hnx := fun ty => Lib.run_next_end_at (P := Try.prog) wr w.heap.size s pos ty HI.out hp
      have hnil : (bytesOf s).drop pos = [] := List.drop_eq_nil_of_le (by rw [bytesOf_length]; omega)
      have HD2 := Aside0.mk (HD.out.trans (by rw [hnil]))
      clear hnil
      by_cases h6 : 6 ≤ b
      · have HZ : Aside0 (decL u (bytesOf s) = none) := ⟨by rw [HD2.out]; simp [decGo, h6]⟩
        go_wp2_with fail
        go_ret2
        refine ⟨.slice none 0 0, ?_, ?_, ?_⟩
        · rw [HZ.out]; rfl
        · rw [HZ.out]; exact Kd.R_nil _ _ _ _ _
        · exact HB.out
      · by_cases h0 : h = 0
        · subst h0
          have HZ : Aside0 (decL u (bytesOf s) = some out) := ⟨by rw [HD2.out]; simp [decGo]; omega⟩
          go_wp2_with fail
          go_ret2
          refine ⟨u6, ?_, ?_, ?_⟩
          · rw [HZ.out]; rfl
          · rw [HZ.out]; exact Kd.R_lower HO.out (by omega)
          · exact HB.out
        · have HZ : Aside0 (decL u (bytesOf s) = none) := ⟨by rw [HD2.out]; simp [decGo, h0]⟩
          have hz0 : (h == 0) = false := by simp [h0]
          have hz1 : (h != 0) = true := by simp [h0]
          go_wp2_with fail
          go_ret2
          refine ⟨.slice none 0 0, ?_, ?_, ?_⟩
          · rw [HZ.out]; rfl
          · rw [HZ.out]; exact Kd.R_nil _ _ _ _ _
          · exact HB.out
/-- The same, in the printer's form. -/
def letters_Decode.f (a0 : ByteArray) (a1 : Bool) : Option (List Int × Bool) := if a0.size ≤ 140737488351232 then some ((decL a1 (bytesOf a0)).getD [], (decL a1 (bytesOf a0)).isSome) else none
theorem letters_Decode.calls (a0 : ByteArray) (a1 : Bool) (r1 : List Int) (r2 : Bool) (w : World) (h : letters_Decode.f a0 a1 = some (r1, r2)) :
    Calls Try.prog 29 #[.string a0, .bool a1] w fun e w' => ∃ v0_ : Value, e = .returned (.tuple #[v0_, .bool r2]) ∧ Kd.R (Kd.int .u8) 5 w' w.heap.size (fun _ => True) v0_ r1 ∧ Below w.heap.size w w' := by
  unfold letters_Decode.f at h
  split at h
  · rename_i hs
    injection h with h
    injection h with h1 h2
    subst h1
    subst h2
    exact dec_walk a1 a0 w hs
  · cases h
end
section
set_option linter.unusedVariables false
open Go.RowKit Go.Proofs.YtboelmakccaenaaW.PrintWords Go.Proofs.YtboelmakccaenaaW.PrintLast Go.Proofs.YtboelmakccaenaaW.PrintMore
theorem val_ltr : ∀ (u : Bool) (n : Fin 64), valOf u (ltr u (n.val : Int)) = some (n.val : Int) := by decide +kernel
theorem ltr_val_all : ∀ (u : Bool) (c : Fin 128), ∀ v, valOf u (c.val : Int) = some v → ltr u v = (c.val : Int) := by
  have h : ∀ (u : Bool) (c : Fin 128), (match valOf u (c.val : Int) with | some v => decide (ltr u v = (c.val : Int)) | none => true) = true := by decide +kernel
  intro u c v hv
  have := h u c
  rw [hv] at this
  simpa using this
theorem ltr_val {u : Bool} {c v : Int} (h : valOf u c = some v) : ltr u v = c := by
  have hr := valOf_range h
  have := ltr_val_all u ⟨c.toNat, by omega⟩ v (by simp; rw [show max c 0 = c from by omega]; exact h)
  simp at this
  omega
/-- The search for a letter. -/
theorem ref_find {u : Bool} {s : ByteArray} {xs : List Int} {i : Nat} (hi : i < s.size) {r : List Int × Bool} (h : Ev (fun k => match valOf u (bt s i) with | some v => hustingsref01_Decode.l2 k s u xs i v 0 | none => some (([] : List Int), false)) r) :
    ∀ (d n : Nat), n + d = 64 → (∀ v, valOf u (bt s i) = some v → (n : Int) ≤ v) → Ev (fun k => hustingsref01_Decode.l1 k s u xs i n) r := by
  intro d
  induction d with
  | zero =>
    intro n hn hv
    have : n = 64 := by omega
    subst this
    refine Ev.step (f := fun k => hustingsref01_Decode.j2 k s u xs i 64) (fun k => by simp only [hustingsref01_Decode.l1]; rw [if_neg (by omega)]; rfl) ?_
    rcases hx : valOf u (bt s i) with _ | v
    · rw [hx] at h
      exact Ev.step (f := fun _ => some (([] : List Int), false)) (fun k => by simp only [hustingsref01_Decode.j2]; rw [if_pos trivial]) h
    · have := hv v hx
      have := valOf_range hx
      omega
  | succ d ih =>
    intro n hn hv
    have hl : hustingsref01_Letter.f (n : Int) u = some (ltr u n) := letter_at u n (by omega) (by omega)
    by_cases he : ltr u n = bt s i
    · have hx : valOf u (bt s i) = some (n : Int) := by rw [← he]; exact val_ltr u ⟨n, by omega⟩
      rw [hx] at h
      refine Ev.step (f := fun k => hustingsref01_Decode.j2 k s u xs i n) (fun k => by simp only [hustingsref01_Decode.l1]; rw [if_pos (by omega), hl]; simp only [Option.bind_some]; rw [if_pos (by omega), if_pos (by omega), if_pos he]) ?_
      exact Ev.step (f := fun k => hustingsref01_Decode.l2 k s u xs i n 0) (fun k => by simp only [hustingsref01_Decode.j2]; rw [if_neg (by omega)]) h
    · refine Ev.step (f := fun k => hustingsref01_Decode.l1 k s u xs i ((n + 1 : Nat) : Int)) (fun k => by simp only [hustingsref01_Decode.l1]; rw [if_pos (by omega), hl]; simp only [Option.bind_some]; rw [if_pos (by omega), if_pos (by omega), if_neg he, show wrap64 ((n : Int) + 1) = ((n + 1 : Nat) : Int) from by unfold wrap64; omega]) ?_
      refine ih (n + 1) (by omega) (fun v hx => ?_)
      have h1 := hv v hx
      by_cases h2 : v = n
      · exfalso; apply he; rw [← h2]; exact ltr_val hx
      · omega
theorem i64_and1 (x : Int) (h0 : 0 ≤ x) (h1 : x < 64) : Go.bits .and .i64 x 1 = x % 2 := and1_i64 x h0 (by omega)
/-- The bit number j of six. -/
def sb (v : Int) (j : Nat) : Int := v / 2 ^ (5 - j) % 2
theorem sb_range (v : Int) (j : Nat) : 0 ≤ sb v j ∧ sb v j ≤ 1 := by unfold sb; omega
theorem ref_bit (v : Int) (j : Nat) (hj : j < 6) (h0 : 0 ≤ v) (h1 : v < 64) : 0 ≤ (IntKind.u64.wrap (wrap64 (5 - (j : Int)))) ∧ Go.bits .and .i64 (shr .i64 v (IntKind.u64.wrap (wrap64 (5 - (j : Int))))) 1 = sb v j := by
  have e1 : wrap64 (5 - (j : Int)) = ((5 - j : Nat) : Int) := by unfold wrap64; omega
  have e2 : IntKind.u64.wrap ((5 - j : Nat) : Int) = ((5 - j : Nat) : Int) := u64_id _ (by omega) (by omega)
  rw [e1, e2]
  have e3 : shr .i64 v ((5 - j : Nat) : Int) = v / 2 ^ (5 - j) := by
    unfold shr; rw [Nat.min_eq_left (by simp [IntKind.bits]; omega)]; simp
  have hp : (0 : Int) < 2 ^ (5 - j) := Int.pow_pos (by omega)
  have a := Int.ediv_nonneg h0 (Int.le_of_lt hp)
  have b := Int.ediv_le_self (2 ^ (5 - j)) h0
  rw [e3, i64_and1 _ a (by omega)]
  exact ⟨by omega, rfl⟩
theorem place (i j : Nat) (hi : i ≤ 1099511627776) (hj : j < 6) : wrap64 ((wrap64 (6 * (i : Int))) + (j : Int)) = ((6 * i + j : Nat) : Int) := by unfold wrap64; omega
theorem place_q (p : Nat) (hp : p ≤ 8796093022208) : wrap64 (Int.tdiv (p : Int) 8) = ((p / 8 : Nat) : Int) := by
  rw [Int.tdiv_eq_ediv_of_nonneg (by omega)]; unfold wrap64; omega
theorem place_r (p : Nat) : IntKind.u64.wrap (Int.tmod (p : Int) 8) = ((p % 8 : Nat) : Int) := by
  rw [Int.tmod_eq_emod_of_nonneg (by omega), u64_id _ (by omega) (by omega)]; omega
theorem shr128 (r : Nat) (hr : r < 8) : shr .u8 128 (r : Int) = 2 ^ (7 - r) := by
  unfold shr
  rw [Nat.min_eq_left (by simp [IntKind.bits]; omega)]
  match r, hr with
  | 0, _ => rfl
  | 1, _ => rfl
  | 2, _ => rfl
  | 3, _ => rfl
  | 4, _ => rfl
  | 5, _ => rfl
  | 6, _ => rfl
  | 7, _ => rfl
theorem or_u8 (y : Int) (r : Nat) (hr : r < 8) (h0 : 0 ≤ y) (h1 : y ≤ 255) (hy : y % 2 ^ (8 - r) = 0) : Go.bits .or .u8 y (2 ^ (7 - r)) = y + 2 ^ (7 - r) := by
  match r, hr, hy with
  | 0, _, hy => exact bits_join .u8 8 (by decide) wraps_u8 8 y 128 h0 (by simpa using hy) (by omega) (by decide) (by decide) (by decide)
  | 1, _, hy => exact bits_join .u8 8 (by decide) wraps_u8 7 y 64 h0 (by simpa using hy) (by omega) (by decide) (by decide) (by decide)
  | 2, _, hy => exact bits_join .u8 8 (by decide) wraps_u8 6 y 32 h0 (by simpa using hy) (by omega) (by decide) (by decide) (by decide)
  | 3, _, hy => exact bits_join .u8 8 (by decide) wraps_u8 5 y 16 h0 (by simpa using hy) (by omega) (by decide) (by decide) (by decide)
  | 4, _, hy => exact bits_join .u8 8 (by decide) wraps_u8 4 y 8 h0 (by simpa using hy) (by omega) (by decide) (by decide) (by decide)
  | 5, _, hy => exact bits_join .u8 8 (by decide) wraps_u8 3 y 4 h0 (by simpa using hy) (by omega) (by decide) (by decide) (by decide)
  | 6, _, hy => exact bits_join .u8 8 (by decide) wraps_u8 2 y 2 h0 (by simpa using hy) (by omega) (by decide) (by decide) (by decide)
  | 7, _, hy => exact bits_join .u8 8 (by decide) wraps_u8 1 y 1 h0 (by simpa using hy) (by omega) (by decide) (by decide) (by decide)
/-- A round inside the bytes. -/
theorem ref_in {u : Bool} {s : ByteArray} {out zs : List Int} {y v : Int} {i j r : Nat} (hi : i ≤ 1099511627776) (hj : j < 6) (hp : 6 * i + j = 8 * out.length + r) (hr : r < 8) (hv0 : 0 ≤ v) (hv1 : v < 64) (h0 : 0 ≤ y) (h1 : y ≤ 255) (hy : y % 2 ^ (8 - r) = 0) (k : Nat) :
    hustingsref01_Decode.l2 (k + 1) s u (out ++ y :: zs) i v j = hustingsref01_Decode.l2 k s u (out ++ (y + sb v j * 2 ^ (7 - r)) :: zs) i v ((j + 1 : Nat) : Int) := by
  have hq : (6 * i + j) / 8 = out.length := by omega
  have hr' : (6 * i + j) % 8 = r := by omega
  have e1 : wrap64 ((j : Int) + 1) = ((j + 1 : Nat) : Int) := by unfold wrap64; omega
  obtain ⟨X, hX⟩ : ∃ X, X = out ++ y :: zs := ⟨_, rfl⟩
  have hl : (out.length : Int) < (X.length : Int) := by rw [hX]; simp; omega
  have hrd : rd X (out.length : Int) = y := by rw [hX]; simp [rd]
  have hset : ∀ z, X.set ((out.length : Int)).toNat z = out ++ z :: zs := fun z => by rw [hX]; simp
  have hl2 : ¬ ((out.length : Int) ≥ (X.length : Int)) := by omega
  have h02 : (0 : Int) ≤ (out.length : Int) := by omega
  have h03 : (0 : Int) ≤ (r : Int) := by omega
  have h04 : (j : Int) < 6 := by omega
  have h05 : 6 * i + j ≤ 8796093022208 := by omega
  have h06 : y + 0 * 2 ^ (7 - r) = y := by rw [Int.zero_mul, Int.add_zero]
  have h07 : y + 1 * 2 ^ (7 - r) = y + 2 ^ (7 - r) := by rw [Int.one_mul]
  have hsb := sb_range v j
  have hb1 : ¬ sb v j = 0 → sb v j = 1 := by omega
  obtain ⟨b0, b1⟩ := ref_bit v j hj hv0 hv1
  by_cases hb : sb v j = 0
  · rw [← hX, hb, h06, ← hX]
    simp only [hustingsref01_Decode.l2]
    rw [if_pos h04, if_pos b0, b1, e1, if_pos hb]
  · rw [hb1 hb, h07, ← or_u8 y r hr h0 h1 hy, ← hset (Go.bits .or .u8 y (2 ^ (7 - r))), ← hX]
    simp only [hustingsref01_Decode.l2]
    rw [if_pos h04, if_pos b0, b1, place i j hi hj, place_q _ h05, place_r, hq, hr', e1, if_neg hb, if_neg hl2, if_pos h02, if_pos hl, if_pos h03, hrd, shr128 r hr]
/-- The rounds behind the bytes. -/
theorem ref_over {u : Bool} {s : ByteArray} {out : List Int} {v : Int} {i : Nat} (hi : i ≤ 1099511627776) (hv0 : 0 ≤ v) (hv1 : v < 64) {res : List Int × Bool} :
    ∀ (m j : Nat), j + m = 6 → 8 * out.length ≤ 6 * i + j →
    Ev (fun k => if v % 2 ^ m = 0 then hustingsref01_Decode.l0 k s u out ((i + 1 : Nat) : Int) else some (([] : List Int), false)) res → Ev (fun k => hustingsref01_Decode.l2 k s u out i v j) res := by
  intro m
  induction m with
  | zero =>
    intro j hj hp h
    refine Ev.step (fun k => ?_) h
    have e1 : wrap64 ((i : Int) + 1) = ((i + 1 : Nat) : Int) := by unfold wrap64; omega
    simp only [hustingsref01_Decode.l2]
    rw [if_neg (by omega), if_pos (by omega), e1]
  | succ m ih =>
    intro j hj hp h
    obtain ⟨b0, b1⟩ := ref_bit v j (by omega) hv0 hv1
    have hsb := sb_range v j
    have e1 : wrap64 ((j : Int) + 1) = ((j + 1 : Nat) : Int) := by unfold wrap64; omega
    have hm : m = 5 - j := by omega
    have hsv : v % 2 ^ (m + 1) = sb v j * 2 ^ m + v % 2 ^ m := by
      unfold sb
      rw [← hm]
      have h6 : m = 0 ∨ m = 1 ∨ m = 2 ∨ m = 3 ∨ m = 4 ∨ m = 5 := by omega
      clear ih hm hj hp h b0 b1 hsb e1
      rcases h6 with rfl | rfl | rfl | rfl | rfl | rfl <;> simp <;> omega
    by_cases hb : sb v j = 0
    · refine Ev.step (f := fun k => hustingsref01_Decode.l2 k s u out i v ((j + 1 : Nat) : Int)) (fun k => ?_) (ih (j + 1) (by omega) (by omega) ?_)
      · simp only [hustingsref01_Decode.l2]
        rw [if_pos (by omega), if_pos b0, b1, if_pos hb, e1]
      · rw [hsv, hb] at h
        simpa using h
    · have hb1 : sb v j = 1 := by omega
      have hpos : (0 : Int) < 2 ^ m := Int.pow_pos (by omega)
      have hnn : 0 ≤ v % 2 ^ m := Int.emod_nonneg _ (by omega)
      rw [hsv, hb1] at h
      have hne : ¬ (1 * 2 ^ m + v % 2 ^ m = 0) := by omega
      simp only [if_neg hne] at h
      refine Ev.step (fun k => ?_) h
      simp only [hustingsref01_Decode.l2]
      rw [if_pos (by omega), if_pos b0, b1, if_neg hb, place i j hi (by omega), place_q _ (by omega), if_pos (by omega)]
theorem ref_in_ev {u : Bool} {s : ByteArray} {out zs : List Int} {y v : Int} {i : Nat} (j r : Nat) (hi : i ≤ 1099511627776) (hj : j < 6) (hp : 6 * i + j = 8 * out.length + r) (hr : r < 8) (hv0 : 0 ≤ v) (hv1 : v < 64) (h0 : 0 ≤ y) (h1 : y ≤ 255) (hy : y % 2 ^ (8 - r) = 0) {res : List Int × Bool}
    (h : Ev (fun k => hustingsref01_Decode.l2 k s u (out ++ (y + sb v j * 2 ^ (7 - r)) :: zs) i v ((j + 1 : Nat) : Int)) res) : Ev (fun k => hustingsref01_Decode.l2 k s u (out ++ y :: zs) i v j) res :=
  Ev.step (fun k => ref_in hi hj hp hr hv0 hv1 h0 h1 hy k) h
theorem ref_exit {u : Bool} {s : ByteArray} {xs : List Int} {v : Int} {i : Nat} (hi : i ≤ 1099511627776) {res : List Int × Bool} (h : Ev (fun k => hustingsref01_Decode.l0 k s u xs ((i + 1 : Nat) : Int)) res) : Ev (fun k => hustingsref01_Decode.l2 k s u xs i v ((6 : Nat) : Int)) res := by
  refine Ev.step (fun k => ?_) h
  have e1 : wrap64 ((i : Int) + 1) = ((i + 1 : Nat) : Int) := by unfold wrap64; omega
  simp only [hustingsref01_Decode.l2]
  rw [if_neg (by omega), e1]
def part (h b : Int) : Nat → List Int
  | 0 => []
  | Z + 1 => (h * 2 ^ (8 - b).toNat) :: List.replicate Z 0
def resOf (o : Option (List Int)) : List Int × Bool := (o.getD [], o.isSome)
theorem sb_all (v : Int) (h0 : 0 ≤ v) (h1 : v < 64) : sb v 0 = v / 32 ∧ sb v 1 = v / 16 % 2 ∧ sb v 2 = v / 8 % 2 ∧ sb v 3 = v / 4 % 2 ∧ sb v 4 = v / 2 % 2 ∧ sb v 5 = v % 2 := by
  unfold sb; simp; omega
set_option maxHeartbeats 2000000 in
theorem ref_dec (u : Bool) (s : ByteArray) (hs : s.size ≤ 1073741824) : ∀ (t : List Int) (i : Nat) (out : List Int) (h b : Int) (Z : Nat), i ≤ s.size → (bytesOf s).drop i = t → Held h b → 6 * (i : Int) = 8 * (out.length : Int) + b →
    8 * (out.length + Z) ≤ 6 * s.size → 6 * s.size < 8 * (out.length + Z) + 8 → (Z = 0 → h = 0) → Ev (fun k => hustingsref01_Decode.l0 k s u (out ++ part h b Z) i) (resOf (decGo u t out h b)) := by
  intro t
  induction t with
  | nil =>
    intro i out h b Z hin hd hh hb hZ0 hZ1 hz
    have hlen := drop_nil hd
    rw [bytesOf_length] at hlen
    have hb6 : 0 ≤ b ∧ b ≤ 6 := by unfold Held at hh; omega
    have hi : i = s.size := by omega
    have hZ : Z = 0 := by omega
    have h0 := hz hZ
    subst hZ
    subst h0
    simp only [part, List.append_nil]
    by_cases hm : (s.size : Int) % 4 = 1
    · have hb' : b = 6 := by unfold Held at hh; omega
      refine Ev.step (f := fun _ => some (([] : List Int), false)) (fun k => ?_) (by subst hb'; exact Ev.now _)
      simp only [hustingsref01_Decode.l0]
      rw [if_neg (by omega), if_pos hm]
    · have hb' : ¬ 6 ≤ b := by unfold Held at hh; omega
      have hdn : decGo u [] out 0 b = some out := by simp [decGo]; omega
      rw [hdn]
      refine Ev.step (f := fun _ => some (out, true)) (fun k => ?_) (Ev.now _)
      simp only [hustingsref01_Decode.l0]
      rw [if_neg (by omega), if_neg hm]
  | cons c t ih =>
    intro i out h b Z hin hd hh hb hZ0 hZ1 hz
    obtain ⟨hlt, hrd, hd1⟩ := drop_cons hd
    rw [bytesOf_length] at hlt
    rw [rd_bytesOf] at hrd
    refine Ev.step (f := fun k => hustingsref01_Decode.l1 k s u (out ++ part h b Z) i ((0 : Nat) : Int)) (fun k => by simp only [hustingsref01_Decode.l0]; rw [if_pos (by omega)]; rfl) ?_
    refine ref_find hlt ?_ 64 0 (by omega) (fun v hv => by have := valOf_range hv; omega)
    rw [hrd]
    rcases hv : valOf u c with _ | v
    · simp only [decGo, hv]
      exact Ev.now _
    · have hr := valOf_range hv
      have hv0 := hr.1
      have hv1 := hr.2.1
      have hi : i ≤ 1099511627776 := by omega
      obtain ⟨q0, q1, q2, q3, q4, q5⟩ := sb_all v hv0 hv1
      have htl : i + 1 ≥ s.size → t = [] := fun hge => by rw [← hd1]; exact List.drop_eq_nil_of_le (by rw [bytesOf_length]; omega)
      rcases hh with ⟨rfl, rfl⟩ | ⟨rfl, hh0, hh1⟩ | ⟨rfl, hh0, hh1⟩ | ⟨rfl, hh0, hh1⟩
      · have hg : decGo u (c :: t) out 0 0 = decGo u t out v 6 := by simp [decGo, hv]
        rw [hg]
        rcases Z with _ | Z
        · have ht := htl (by omega)
          simp only [part, List.append_nil]
          refine ref_over hi hv0 hv1 6 0 (by omega) (by omega) ?_
          by_cases hv2 : v % 2 ^ 6 = 0
          · simp only [if_pos hv2]
            have hvz : v = 0 := by simp at hv2; omega
            subst hvz
            have := ih (i + 1) out 0 6 0 (by omega) hd1 (.inr (.inr (.inr ⟨rfl, by omega, by omega⟩))) (by omega) (by omega) (by omega) (fun _ => rfl)
            simpa only [part, List.append_nil] using this
          · simp only [if_neg hv2]
            rw [ht]
            simp only [decGo, if_true, show (6 : Int) ≤ 6 from by omega, true_or]
            exact Ev.now _
        · simp only [part, Int.zero_mul]
          refine ref_in_ev 0 0 hi (by omega) (by omega) (by omega) hv0 hv1 (by omega) (by omega) (by omega) ?_
          refine ref_in_ev 1 1 hi (by omega) (by omega) (by omega) hv0 hv1 (by simp <;> omega) (by simp <;> omega) (by simp <;> omega) ?_
          refine ref_in_ev 2 2 hi (by omega) (by omega) (by omega) hv0 hv1 (by simp <;> omega) (by simp <;> omega) (by simp <;> omega) ?_
          refine ref_in_ev 3 3 hi (by omega) (by omega) (by omega) hv0 hv1 (by simp <;> omega) (by simp <;> omega) (by simp <;> omega) ?_
          refine ref_in_ev 4 4 hi (by omega) (by omega) (by omega) hv0 hv1 (by simp <;> omega) (by simp <;> omega) (by simp <;> omega) ?_
          refine ref_in_ev 5 5 hi (by omega) (by omega) (by omega) hv0 hv1 (by simp <;> omega) (by simp <;> omega) (by simp <;> omega) ?_
          refine ref_exit hi ?_
          have := ih (i + 1) out v 6 (Z + 1) (by omega) hd1 (.inr (.inr (.inr ⟨rfl, by omega, by omega⟩))) (by omega) (by omega) (by omega) (fun h => by omega)
          simp only [part] at this
          refine cast (congrArg (fun x => Ev (fun k => hustingsref01_Decode.l0 k s u (out ++ x :: List.replicate Z 0) ((i + 1 : Nat) : Int)) (resOf (decGo u t out v 6))) ?_) this
          simp
          omega
      · have hg : decGo u (c :: t) out h 2 = decGo u t (out ++ [h * 64 + v]) 0 0 := by simp [decGo, hv]
        rw [hg]
        rcases Z with _ | Z
        · omega
        · simp only [part]
          refine ref_in_ev 0 2 hi (by omega) (by omega) (by omega) hv0 hv1 (by simp <;> omega) (by simp <;> omega) (by simp <;> omega) ?_
          refine ref_in_ev 1 3 hi (by omega) (by omega) (by omega) hv0 hv1 (by simp <;> omega) (by simp <;> omega) (by simp <;> omega) ?_
          refine ref_in_ev 2 4 hi (by omega) (by omega) (by omega) hv0 hv1 (by simp <;> omega) (by simp <;> omega) (by simp <;> omega) ?_
          refine ref_in_ev 3 5 hi (by omega) (by omega) (by omega) hv0 hv1 (by simp <;> omega) (by simp <;> omega) (by simp <;> omega) ?_
          refine ref_in_ev 4 6 hi (by omega) (by omega) (by omega) hv0 hv1 (by simp <;> omega) (by simp <;> omega) (by simp <;> omega) ?_
          refine ref_in_ev 5 7 hi (by omega) (by omega) (by omega) hv0 hv1 (by simp <;> omega) (by simp <;> omega) (by simp <;> omega) ?_
          refine ref_exit hi ?_
          have := ih (i + 1) (out ++ [h * 64 + v]) 0 0 Z (by omega) hd1 (.inl ⟨rfl, rfl⟩) (by simp <;> omega) (by simp <;> omega) (by simp <;> omega) (fun h => rfl)
          have hpz : part 0 0 Z = List.replicate Z 0 := by cases Z <;> simp [part, List.replicate_succ]
          rw [hpz, List.append_assoc] at this
          refine cast (congrArg (fun x => Ev (fun k => hustingsref01_Decode.l0 k s u (out ++ x :: List.replicate Z 0) ((i + 1 : Nat) : Int)) (resOf (decGo u t (out ++ [h * 64 + v]) 0 0))) ?_) this
          simp
          omega
      · have hg : decGo u (c :: t) out h 4 = decGo u t (out ++ [(h * 64 + v) / 4]) ((h * 64 + v) % 4) 2 := by simp [decGo, hv]
        rw [hg]
        rcases Z with _ | Z
        · omega
        · simp only [part]
          refine ref_in_ev 0 4 hi (by omega) (by omega) (by omega) hv0 hv1 (by simp <;> omega) (by simp <;> omega) (by simp <;> omega) ?_
          refine ref_in_ev 1 5 hi (by omega) (by omega) (by omega) hv0 hv1 (by simp <;> omega) (by simp <;> omega) (by simp <;> omega) ?_
          refine ref_in_ev 2 6 hi (by omega) (by omega) (by omega) hv0 hv1 (by simp <;> omega) (by simp <;> omega) (by simp <;> omega) ?_
          refine ref_in_ev 3 7 hi (by omega) (by omega) (by omega) hv0 hv1 (by simp <;> omega) (by simp <;> omega) (by simp <;> omega) ?_
          refine cast (congrArg (fun x => Ev (fun k => hustingsref01_Decode.l2 k s u (out ++ x :: List.replicate Z 0) i v ((4 : Nat) : Int)) (resOf (decGo u t (out ++ [(h * 64 + v) / 4]) ((h * 64 + v) % 4) 2))) (show (h * 64 + v) / 4 = _ from ?_)) ?_
          · simp; omega
          rw [← List.singleton_append, ← List.append_assoc]
          rcases Z with _ | Z
          · have ht := htl (by omega)
            simp only [List.replicate_zero, List.append_nil]
            refine ref_over hi hv0 hv1 2 4 (by omega) (by simp <;> omega) ?_
            by_cases hv2 : v % 2 ^ 2 = 0
            · simp only [if_pos hv2]
              simp at hv2
              have e0 : (h * 64 + v) % 4 = 0 := by omega
              rw [e0]
              have := ih (i + 1) (out ++ [(h * 64 + v) / 4]) 0 2 0 (by omega) hd1 (.inr (.inl ⟨rfl, by omega, by omega⟩)) (by simp <;> omega) (by simp <;> omega) (by simp <;> omega) (fun _ => rfl)
              simpa only [part, List.append_nil] using this
            · simp only [if_neg hv2]
              simp at hv2
              have e0 : ¬ (h * 64 + v) % 4 = 0 := by omega
              rw [ht]
              simp only [decGo, e0, ne_eq, not_false_eq_true, or_true, if_true]
              exact Ev.now _
          · rw [List.replicate_succ]
            refine ref_in_ev 4 0 hi (by omega) (by simp <;> omega) (by omega) hv0 hv1 (by omega) (by omega) (by omega) ?_
            refine ref_in_ev 5 1 hi (by omega) (by simp <;> omega) (by omega) hv0 hv1 (by simp <;> omega) (by simp <;> omega) (by simp <;> omega) ?_
            refine ref_exit hi ?_
            have := ih (i + 1) (out ++ [(h * 64 + v) / 4]) ((h * 64 + v) % 4) 2 (Z + 1) (by omega) hd1 (.inr (.inl ⟨rfl, by omega, by omega⟩)) (by simp <;> omega) (by simp <;> omega) (by simp <;> omega) (fun h => by omega)
            simp only [part] at this
            refine cast (congrArg (fun x => Ev (fun k => hustingsref01_Decode.l0 k s u (out ++ [(h * 64 + v) / 4] ++ x :: List.replicate Z 0) ((i + 1 : Nat) : Int)) (resOf (decGo u t (out ++ [(h * 64 + v) / 4]) ((h * 64 + v) % 4) 2))) ?_) this
            simp
            omega
      · have hg : decGo u (c :: t) out h 6 = decGo u t (out ++ [(h * 64 + v) / 16]) ((h * 64 + v) % 16) 4 := by simp [decGo, hv]
        rw [hg]
        rcases Z with _ | Z
        · omega
        · simp only [part]
          refine ref_in_ev 0 6 hi (by omega) (by omega) (by omega) hv0 hv1 (by simp <;> omega) (by simp <;> omega) (by simp <;> omega) ?_
          refine ref_in_ev 1 7 hi (by omega) (by omega) (by omega) hv0 hv1 (by simp <;> omega) (by simp <;> omega) (by simp <;> omega) ?_
          refine cast (congrArg (fun x => Ev (fun k => hustingsref01_Decode.l2 k s u (out ++ x :: List.replicate Z 0) i v ((2 : Nat) : Int)) (resOf (decGo u t (out ++ [(h * 64 + v) / 16]) ((h * 64 + v) % 16) 4))) (show (h * 64 + v) / 16 = _ from ?_)) ?_
          · simp; omega
          rw [← List.singleton_append, ← List.append_assoc]
          rcases Z with _ | Z
          · have ht := htl (by omega)
            simp only [List.replicate_zero, List.append_nil]
            refine ref_over hi hv0 hv1 4 2 (by omega) (by simp <;> omega) ?_
            by_cases hv2 : v % 2 ^ 4 = 0
            · simp only [if_pos hv2]
              simp at hv2
              have e0 : (h * 64 + v) % 16 = 0 := by omega
              rw [e0]
              have := ih (i + 1) (out ++ [(h * 64 + v) / 16]) 0 4 0 (by omega) hd1 (.inr (.inr (.inl ⟨rfl, by omega, by omega⟩))) (by simp <;> omega) (by simp <;> omega) (by simp <;> omega) (fun _ => rfl)
              simpa only [part, List.append_nil] using this
            · simp only [if_neg hv2]
              simp at hv2
              have e0 : ¬ (h * 64 + v) % 16 = 0 := by omega
              rw [ht]
              simp only [decGo, e0, ne_eq, not_false_eq_true, or_true, if_true]
              exact Ev.now _
          · rw [List.replicate_succ]
            refine ref_in_ev 2 0 hi (by omega) (by simp <;> omega) (by omega) hv0 hv1 (by omega) (by omega) (by omega) ?_
            refine ref_in_ev 3 1 hi (by omega) (by simp <;> omega) (by omega) hv0 hv1 (by simp <;> omega) (by simp <;> omega) (by simp <;> omega) ?_
            refine ref_in_ev 4 2 hi (by omega) (by simp <;> omega) (by omega) hv0 hv1 (by simp <;> omega) (by simp <;> omega) (by simp <;> omega) ?_
            refine ref_in_ev 5 3 hi (by omega) (by simp <;> omega) (by omega) hv0 hv1 (by simp <;> omega) (by simp <;> omega) (by simp <;> omega) ?_
            refine ref_exit hi ?_
            have := ih (i + 1) (out ++ [(h * 64 + v) / 16]) ((h * 64 + v) % 16) 4 (Z + 1) (by omega) hd1 (.inr (.inr (.inl ⟨rfl, by omega, by omega⟩))) (by simp <;> omega) (by simp <;> omega) (by simp <;> omega) (fun h => by omega)
            simp only [part] at this
            refine cast (congrArg (fun x => Ev (fun k => hustingsref01_Decode.l0 k s u (out ++ [(h * 64 + v) / 16] ++ x :: List.replicate Z 0) ((i + 1 : Nat) : Int)) (resOf (decGo u t (out ++ [(h * 64 + v) / 16]) ((h * 64 + v) % 16) 4))) ?_) this
            simp
            omega
theorem ref_decode_ev (u : Bool) (s : ByteArray) (hs : s.size ≤ 1073741824) : ∃ k, hustingsref01_Decode.f k s u = some ((decL u (bytesOf s)).getD [], (decL u (bytesOf s)).isSome) := by
  have h := ref_dec u s hs (bytesOf s) 0 [] 0 0 (s.size * 6 / 8) (by omega) rfl (.inl ⟨rfl, rfl⟩) (by simp) (by simp <;> omega) (by simp <;> omega) (fun _ => rfl)
  obtain ⟨K, hK⟩ := h
  refine ⟨K, ?_⟩
  have e1 : wrap64 (Int.tdiv (wrap64 ((s.size : Int) * 6)) 8) = ((s.size * 6 / 8 : Nat) : Int) := by
    rw [show wrap64 ((s.size : Int) * 6) = (s.size : Int) * 6 from by unfold wrap64; omega, Int.tdiv_eq_ediv_of_nonneg (by omega)]
    rw [show ((s.size * 6 / 8 : Nat) : Int) = (s.size : Int) * 6 / 8 from by simp]
    unfold wrap64; omega
  have hpz : ∀ Z, part 0 0 Z = List.replicate Z 0 := fun Z => by cases Z <;> simp [part, List.replicate_succ]
  have := hK K (Nat.le_refl _)
  rw [hpz, List.nil_append] at this
  unfold hustingsref01_Decode.f
  rw [e1, if_pos (by omega), if_pos (by omega)]
  exact this
end
section
set_option linter.unusedVariables false
open Go.RowKit Go.Proofs.YtboelmakccaenaaW.PrintWords Go.Proofs.YtboelmakccaenaaW.PrintLast Go.Proofs.YtboelmakccaenaaW.PrintMore
theorem bytes_str {l : List Int} (h : Bs l) : bytesOf (strOfNums l) = l := by
  unfold bytesOf
  rw [strOfNums_data, List.map_map]
  conv => rhs; rw [← List.map_id l]
  apply List.map_congr_left
  intro x hx
  have := h x hx
  simp
  omega
theorem str_bytes (s : ByteArray) : strOfNums (bytesOf s) = s := by
  have : (strOfNums (bytesOf s)).data = s.data := by
    apply Array.ext'
    rw [strOfNums_data]
    unfold bytesOf
    rw [List.map_map]
    conv => rhs; rw [← List.map_id s.data.toList]
    apply List.map_congr_left
    intro x hx
    simp
  cases s
  simp only [strOfNums] at this ⊢
  rw [ByteArray.mk.injEq]
  exact this
theorem bs_bytes (s : ByteArray) : Bs (bytesOf s) := by
  intro x hx
  unfold bytesOf at hx
  simp at hx
  obtain ⟨a, _, rfl⟩ := hx
  have := a.toNat_lt
  omega
theorem val_ltr' (u : Bool) (n : Int) (h0 : 0 ≤ n) (h1 : n < 64) : valOf u (ltr u n) = some n := by
  have := val_ltr u ⟨n.toNat, by omega⟩
  simp at this
  rwa [show max n 0 = n from by omega] at this
theorem ltr_byte_all : ∀ (u : Bool) (n : Fin 64), 0 ≤ ltr u (n.val : Int) ∧ ltr u (n.val : Int) ≤ 255 := by decide +kernel
theorem ltr_byte (u : Bool) (n : Int) (h0 : 0 ≤ n) (h1 : n < 64) : 0 ≤ ltr u n ∧ ltr u n ≤ 255 := by
  have := ltr_byte_all u ⟨n.toNat, by omega⟩
  simp only at this
  rwa [show ((n.toNat : Nat) : Int) = n from by omega] at this
/-- The numbers of bytes are six bits each. -/
theorem enc6_range : ∀ (l : List Int), Bs l → ∀ x ∈ enc6 l, 0 ≤ x ∧ x < 64
  | [], _, x, hx => by simp [enc6] at hx
  | [a], h, x, hx => by have := h.head; simp [enc6] at hx; omega
  | [a, b], h, x, hx => by have := h.head; have := h.tail.head; simp [enc6] at hx; omega
  | a :: b :: c :: t, h, x, hx => by
    have h1 := h.head; have h2 := h.tail.head; have h3 := h.tail.tail.head
    simp [enc6] at hx
    rcases hx with hx | hx | hx | hx | hx
    · omega
    · omega
    · omega
    · omega
    · exact enc6_range t h.tail.tail.tail x hx
theorem bs_enc (l : List Int) (u : Bool) (h : Bs l) : Bs ((enc6 l).map (ltr u)) := by
  intro x hx
  simp at hx
  obtain ⟨n, hn, rfl⟩ := hx
  have := enc6_range l h n hn
  exact ltr_byte u n this.1 this.2
theorem bytes_enc (l : List Int) (u : Bool) (h : Bs l) : bytesOf (encS l u) = (enc6 l).map (ltr u) := bytes_str (bs_enc l u h)
theorem step0 (u : Bool) (v : Int) (h0 : 0 ≤ v) (h1 : v < 64) (t out : List Int) (h b : Int) (hb : ¬ 2 ≤ b) : decGo u (ltr u v :: t) out h b = decGo u t out (h * 64 + v) (b + 6) := by
  simp only [decGo, val_ltr' u v h0 h1, if_neg hb]
theorem step1 (u : Bool) (v : Int) (h0 : 0 ≤ v) (h1 : v < 64) (t out : List Int) (h b : Int) (hb : 2 ≤ b) : decGo u (ltr u v :: t) out h b = decGo u t (out ++ [(h * 64 + v) / 2 ^ (b - 2).toNat]) ((h * 64 + v) % 2 ^ (b - 2).toNat) (b - 2) := by
  simp only [decGo, val_ltr' u v h0 h1, if_pos hb]
theorem dec_enc (u : Bool) : ∀ (l : List Int), Bs l → ∀ out, decGo u ((enc6 l).map (ltr u)) out 0 0 = some (out ++ l)
  | [], _, out => by simp [enc6, decGo]
  | [a], h, out => by
    have := h.head
    simp only [enc6, List.map_cons, List.map_nil]
    rw [step0 u _ (by omega) (by omega) _ _ _ _ (by omega), step1 u _ (by omega) (by omega) _ _ _ _ (by omega)]
    have e : ((0 : Int) + 6 - 2).toNat = 4 := rfl
    rw [e]
    simp only [decGo]
    rw [if_neg (by omega)]
    congr 3
    omega
  | [a, b], h, out => by
    have := h.head
    have := h.tail.head
    simp only [enc6, List.map_cons, List.map_nil]
    rw [step0 u _ (by omega) (by omega) _ _ _ _ (by omega), step1 u _ (by omega) (by omega) _ _ _ _ (by omega), step1 u _ (by omega) (by omega) _ _ _ _ (by omega)]
    have e : ((0 : Int) + 6 - 2).toNat = 4 := rfl
    have e' : ((0 : Int) + 6 - 2 - 2).toNat = 2 := rfl
    rw [e, e']
    simp only [decGo]
    rw [if_neg (by omega), List.append_assoc]
    congr 2
    simp
    omega
  | a :: b :: c :: t, h, out => by
    have := h.head
    have := h.tail.head
    have := h.tail.tail.head
    simp only [enc6, List.map_cons]
    rw [step0 u _ (by omega) (by omega) _ _ _ _ (by omega), step1 u _ (by omega) (by omega) _ _ _ _ (by omega), step1 u _ (by omega) (by omega) _ _ _ _ (by omega), step1 u _ (by omega) (by omega) _ _ _ _ (by omega)]
    have e : ((0 : Int) + 6 - 2).toNat = 4 := rfl
    have e' : ((0 : Int) + 6 - 2 - 2).toNat = 2 := rfl
    have e'' : ((0 : Int) + 6 - 2 - 2 - 2).toNat = 0 := rfl
    have e3 : ((0 : Int) + 6 - 2 - 2 - 2) = 0 := rfl
    rw [e, e', e'', e3]
    have hz : ((((0 * 64 + a / 4) * 64 + (a % 4 * 16 + b / 16)) % 2 ^ 4 * 64 + (b % 16 * 4 + c / 64)) % 2 ^ 2 * 64 + c % 64) % 2 ^ 0 = (0 : Int) := by omega
    rw [hz, dec_enc u t h.tail.tail.tail]
    simp only [List.append_assoc]
    congr 2
    simp
    omega
theorem decL_enc (u : Bool) (l : List Int) (h : Bs l) : decL u (bytesOf (encS l u)) = some l := by
  rw [bytes_enc l u h]
  exact dec_enc u l h []
theorem dec_none {u : Bool} {c : Int} (h : valOf u c = none) (t out : List Int) (g b : Int) : decGo u (c :: t) out g b = none := by simp [decGo, h]
/-- What is decoded was encoded. -/
theorem enc_dec (u : Bool) : ∀ (l : List Int) (out y : List Int), decGo u l out 0 0 = some y → ∃ z, y = out ++ z ∧ Bs z ∧ (enc6 z).map (ltr u) = l
  | [], out, y, h => by
    simp [decGo] at h
    exact ⟨[], by simp [h], fun x hx => by simp at hx, rfl⟩
  | [c1], out, y, h => by
    rcases h1 : valOf u c1 with _ | v1
    · rw [dec_none h1] at h; cases h
    · simp only [decGo, h1] at h
      simp at h
  | [c1, c2], out, y, h => by
    rcases h1 : valOf u c1 with _ | v1
    · rw [dec_none h1] at h; cases h
    · rcases h2 : valOf u c2 with _ | v2
      · simp [decGo, h1, h2] at h
      · have r1 := valOf_range h1
        have r2 := valOf_range h2
        have e1 := ltr_val h1
        have e2 := ltr_val h2
        rw [← e1, ← e2, step0 u _ (by omega) (by omega) _ _ _ _ (by omega), step1 u _ (by omega) (by omega) _ _ _ _ (by omega)] at h
        rw [show ((0 : Int) + 6 - 2).toNat = 4 from rfl] at h
        simp only [decGo] at h
        split at h
        · cases h
        · injection h with h
          refine ⟨[((0 * 64 + v1) * 64 + v2) / 2 ^ 4], h.symm, ?_, ?_⟩
          · intro x hx; simp at hx; omega
          · simp only [enc6, List.map_cons, List.map_nil]
            rw [← e1, ← e2]
            simp only [List.cons.injEq, and_true]
            exact ⟨congrArg (ltr u) (by omega), congrArg (ltr u) (by omega)⟩
  | [c1, c2, c3], out, y, h => by
    rcases h1 : valOf u c1 with _ | v1
    · rw [dec_none h1] at h; cases h
    · rcases h2 : valOf u c2 with _ | v2
      · simp [decGo, h1, h2] at h
      · rcases h3 : valOf u c3 with _ | v3
        · simp [decGo, h1, h2, h3] at h
        · have r1 := valOf_range h1
          have r2 := valOf_range h2
          have r3 := valOf_range h3
          have e1 := ltr_val h1
          have e2 := ltr_val h2
          have e3 := ltr_val h3
          rw [← e1, ← e2, ← e3, step0 u _ (by omega) (by omega) _ _ _ _ (by omega), step1 u _ (by omega) (by omega) _ _ _ _ (by omega), step1 u _ (by omega) (by omega) _ _ _ _ (by omega)] at h
          rw [show ((0 : Int) + 6 - 2).toNat = 4 from rfl, show ((0 : Int) + 6 - 2 - 2).toNat = 2 from rfl] at h
          simp only [decGo] at h
          split at h
          · cases h
          · injection h with h
            refine ⟨[((0 * 64 + v1) * 64 + v2) / 2 ^ 4, (((0 * 64 + v1) * 64 + v2) % 2 ^ 4 * 64 + v3) / 2 ^ 2], by rw [← h]; simp, ?_, ?_⟩
            · intro x hx; simp at hx; omega
            · simp only [enc6, List.map_cons, List.map_nil]
              rw [← e1, ← e2, ← e3]
              simp only [List.cons.injEq, and_true]
              exact ⟨congrArg (ltr u) (by omega), congrArg (ltr u) (by omega), congrArg (ltr u) (by omega)⟩
  | c1 :: c2 :: c3 :: c4 :: t, out, y, h => by
    rcases h1 : valOf u c1 with _ | v1
    · rw [dec_none h1] at h; cases h
    · rcases h2 : valOf u c2 with _ | v2
      · simp [decGo, h1, h2] at h
      · rcases h3 : valOf u c3 with _ | v3
        · simp [decGo, h1, h2, h3] at h
        · rcases h4 : valOf u c4 with _ | v4
          · simp [decGo, h1, h2, h3, h4] at h
          · have r1 := valOf_range h1
            have r2 := valOf_range h2
            have r3 := valOf_range h3
            have r4 := valOf_range h4
            have e1 := ltr_val h1
            have e2 := ltr_val h2
            have e3 := ltr_val h3
            have e4 := ltr_val h4
            rw [← e1, ← e2, ← e3, ← e4, step0 u _ (by omega) (by omega) _ _ _ _ (by omega), step1 u _ (by omega) (by omega) _ _ _ _ (by omega), step1 u _ (by omega) (by omega) _ _ _ _ (by omega), step1 u _ (by omega) (by omega) _ _ _ _ (by omega)] at h
            rw [show ((0 : Int) + 6 - 2).toNat = 4 from rfl, show ((0 : Int) + 6 - 2 - 2).toNat = 2 from rfl, show ((0 : Int) + 6 - 2 - 2 - 2).toNat = 0 from rfl, show ((0 : Int) + 6 - 2 - 2 - 2) = 0 from rfl] at h
            have hz : ((((0 * 64 + v1) * 64 + v2) % 2 ^ 4 * 64 + v3) % 2 ^ 2 * 64 + v4) % 2 ^ 0 = (0 : Int) := by omega
            rw [hz] at h
            obtain ⟨z, hy, hz1, hz2⟩ := enc_dec u t _ y h
            refine ⟨((0 * 64 + v1) * 64 + v2) / 2 ^ 4 :: (((0 * 64 + v1) * 64 + v2) % 2 ^ 4 * 64 + v3) / 2 ^ 2 :: ((((0 * 64 + v1) * 64 + v2) % 2 ^ 4 * 64 + v3) % 2 ^ 2 * 64 + v4) / 2 ^ 0 :: z, by rw [hy]; simp, ?_, ?_⟩
            · intro x hx
              simp only [List.mem_cons] at hx
              rcases hx with hx | hx | hx | hx
              · omega
              · omega
              · omega
              · exact hz1 x hx
            · simp only [enc6, List.map_cons]
              rw [hz2, ← e1, ← e2, ← e3, ← e4]
              simp only [List.cons.injEq, and_true]
              exact ⟨congrArg (ltr u) (by omega), congrArg (ltr u) (by omega), congrArg (ltr u) (by omega), congrArg (ltr u) (by omega)⟩
theorem decL_some {u : Bool} {s : ByteArray} {y : List Int} (h : decL u (bytesOf s) = some y) : Bs y ∧ encS y u = s := by
  obtain ⟨z, hy, hz, he⟩ := enc_dec u _ _ _ h
  rw [List.nil_append] at hy
  subst hy
  refine ⟨hz, ?_⟩
  unfold encS
  rw [he, str_bytes]
theorem enc6_append : ∀ (x y : List Int), x.length % 3 = 0 → enc6 (x ++ y) = enc6 x ++ enc6 y
  | [], y, _ => rfl
  | [a], y, h => by simp at h
  | [a, b], y, h => by simp at h
  | a :: b :: c :: t, y, h => by
    simp only [List.cons_append, enc6]
    rw [enc6_append t y (by simp at h; omega)]
theorem enc6_length : ∀ (l : List Int), (enc6 l).length = l.length / 3 * 4 + (l.length % 3 * 8 + 5) / 6
  | [] => rfl
  | [a] => by simp [enc6]
  | [a, b] => by simp [enc6]
  | a :: b :: c :: t => by
    simp only [enc6, List.length_cons]
    rw [enc6_length t]
    omega
theorem encS_size (l : List Int) (u : Bool) : (encS l u).size = l.length / 3 * 4 + (l.length % 3 * 8 + 5) / 6 := by
  unfold encS
  rw [strOfNums_size, List.length_map, enc6_length]
theorem dec_f (u : Bool) (s : ByteArray) (hs : s.size ≤ 140737488351232) : letters_Decode.f s u = some ((decL u (bytesOf s)).getD [], (decL u (bytesOf s)).isSome) := by
  unfold letters_Decode.f; rw [if_pos hs]
end
end Go.Proofs.Ytboelmakccaenaa.P
