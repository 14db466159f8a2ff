/- What the document's Encode computes: the same letters. -/
import Derived.Test.YtboelmakccaenaaM1
import Derived.Laws.BitsLemmas
namespace Go.Proofs.Ytboelmakccaenaa.P
set_option linter.unusedVariables false
open Go.RowKit Go.Proofs.YtboelmakccaenaaW.PrintWords Go.Proofs.YtboelmakccaenaaW.PrintLast Go.Proofs.YtboelmakccaenaaW.PrintMore
theorem wraps_i64 (n : Int) (h₀ : 0 ≤ n) (h₁ : n < 2 ^ 62) : IntKind.i64.wrap n = n := by rw [IntKind.wrap_i64]; omega
theorem and1_i64 (x : Int) (h0 : 0 ≤ x) (h1 : x < 4611686018427387904) : Go.bits .and .i64 x 1 = x % 2 := bits_mask .i64 62 (by decide) wraps_i64 1 (by decide) x h0 h1
theorem letter_all : ∀ (u : Bool) (n : Fin 64), hustingsref01_Letter.f (n.val : Int) u = some (ltr u n.val) := by decide +kernel
theorem letter_at (u : Bool) (v : Int) (h0 : 0 ≤ v) (h1 : v < 64) : hustingsref01_Letter.f v u = some (ltr u v) := by
  have h := letter_all u ⟨v.toNat, by omega⟩
  have e : ((v.toNat : Nat) : Int) = v := by omega
  simpa [e] using h
theorem rd_byte {l : List Int} (h : Bs l) (i : Int) : 0 ≤ rd l i ∧ rd l i ≤ 255 := by
  unfold rd
  rcases Nat.lt_or_ge i.toNat l.length with hl | hl
  · rw [List.getD_eq_getElem?_getD, List.getElem?_eq_getElem hl]
    exact h _ (List.getElem_mem hl)
  · rw [List.getD_eq_getElem?_getD, List.getElem?_eq_none hl]
    simp
theorem rd_out {l : List Int} {q : Nat} (h : l.length ≤ q) : rd l q = 0 := by
  simp [rd, h]
theorem shr_u8 (x : Int) (r : Nat) (h0 : 0 ≤ x) (h1 : x ≤ 255) (hr : r < 8) : shr .u8 x ((7 - r : Nat) : Int) = x / 2 ^ (7 - r) := by
  unfold shr
  rw [Nat.min_eq_left (by simp [IntKind.bits]; omega)]
  simp
theorem pow_le (x : Int) (r : Nat) (h0 : 0 ≤ x) (h1 : x ≤ 255) : 0 ≤ x / 2 ^ r ∧ x / 2 ^ r ≤ 255 := by
  have hp : (0 : Int) < 2 ^ r := Int.pow_pos (by omega)
  exact ⟨Int.ediv_nonneg h0 (by omega), Int.le_trans (Int.ediv_le_self _ h0) h1⟩
theorem bit_at {l : List Int} (hB : Bs l) (q r : Nat) (hq : q ≤ 1125899906842624) (hr : r < 8) : hustingsref01_bit.f l ((8 * q + r : Nat) : Int) = some (rd l q / 2 ^ (7 - r) % 2) := by
  have e1 : Int.tdiv ((8 * q + r : Nat) : Int) 8 = (q : Int) := by
    rw [Int.tdiv_eq_ediv_of_nonneg (by omega)]; omega
  have e2 : Int.tmod ((8 * q + r : Nat) : Int) 8 = (r : Int) := by
    rw [Int.tmod_eq_emod_of_nonneg (by omega)]; omega
  have e3 : wrap64 (q : Int) = q := by unfold wrap64; omega
  have e4 : wrap64 (7 - (r : Int)) = ((7 - r : Nat) : Int) := by unfold wrap64; omega
  have e5 : IntKind.u64.wrap ((7 - r : Nat) : Int) = ((7 - r : Nat) : Int) := by simp [IntKind.wrap, IntKind.bits, IntKind.signed]; omega
  have hb := rd_byte hB q
  have hp := pow_le (rd l q) (7 - r) hb.1 hb.2
  simp only [hustingsref01_bit.f, e1, e2, e3, e4, e5]
  by_cases hlt : q < l.length
  · rw [if_neg (by omega), if_pos (by omega), if_pos (by omega), if_pos (by omega), shr_u8 _ r hb.1 hb.2 hr]
    have e6 : wrap64 (rd l q / 2 ^ (7 - r)) = rd l q / 2 ^ (7 - r) := by unfold wrap64; omega
    rw [e6, and1_i64 _ (by omega) (by omega)]
  · rw [if_pos (by omega), rd_out (by omega)]
    simp
/-- Six bits from a place on. -/
def six (f : Nat → Int) (p : Nat) : Int := f p * 32 + f (p + 1) * 16 + f (p + 2) * 8 + f (p + 3) * 4 + f (p + 4) * 2 + f (p + 5)
def bv (l : List Int) (p : Nat) : Int := rd l (p / 8 : Nat) / 2 ^ (7 - p % 8) % 2
theorem bit_bv {l : List Int} (hB : Bs l) (p : Nat) (hp : p ≤ 1125899906842624) : hustingsref01_bit.f l (p : Int) = some (bv l p) := by
  have h := bit_at hB (p / 8) (p % 8) (by omega) (by omega)
  rw [show 8 * (p / 8) + p % 8 = p from by omega] at h
  exact h
theorem bv_range (l : List Int) (p : Nat) : 0 ≤ bv l p ∧ bv l p ≤ 1 := by unfold bv; omega
theorem ref_round {l : List Int} (hB : Bs l) (u : Bool) (k : Nat) (out : List Int) (p : Nat) (hp : p ≤ 1099511627776) (n : Int) (h0 : 0 ≤ n) (h1 : n < 64) (j : Nat) (hj : j < 6) :
    hustingsref01_Encode.l1 (k + 1) l u out p n j = hustingsref01_Encode.l1 k l u out p (2 * n + bv l (p + j)) ((j + 1 : Nat) : Int) := by
  have hb := bv_range l (p + j)
  have e1 : wrap64 ((p : Int) + (j : Int)) = ((p + j : Nat) : Int) := by unfold wrap64; omega
  have e2 : wrap64 (wrap64 (2 * n) + bv l (p + j)) = 2 * n + bv l (p + j) := by unfold wrap64; omega
  have e3 : wrap64 ((j : Int) + 1) = ((j + 1 : Nat) : Int) := by unfold wrap64; omega
  simp only [hustingsref01_Encode.l1]
  rw [if_pos (by omega), e1, bit_bv hB _ (by omega)]
  simp only [Option.bind_some]
  rw [e2, e3]
theorem ref_six {l : List Int} (hB : Bs l) (u : Bool) (k : Nat) (out : List Int) (p : Nat) (hp : p ≤ 1099511627776) (ho : out.length < 140737488355328) :
    hustingsref01_Encode.l1 (k + 7) l u out p 0 0 = hustingsref01_Encode.l0 k l u (out ++ [ltr u (six (bv l) p)]) ((p + 6 : Nat) : Int) := by
  have b0 := bv_range l (p + 0)
  have b1 := bv_range l (p + 1)
  have b2 := bv_range l (p + 2)
  have b3 := bv_range l (p + 3)
  have b4 := bv_range l (p + 4)
  have b5 := bv_range l (p + 5)
  have r0 := ref_round hB u (k + 6) out p hp 0 (by omega) (by omega) 0 (by omega)
  refine r0.trans ?_
  rw [ref_round hB u (k + 5) out p hp _ (by omega) (by omega) 1 (by omega), ref_round hB u (k + 4) out p hp _ (by omega) (by omega) 2 (by omega),
    ref_round hB u (k + 3) out p hp _ (by omega) (by omega) 3 (by omega), ref_round hB u (k + 2) out p hp _ (by omega) (by omega) 4 (by omega), ref_round hB u (k + 1) out p hp _ (by omega) (by omega) 5 (by omega)]
  simp only [hustingsref01_Encode.l1]
  rw [if_neg (by omega), letter_at u _ (by omega) (by omega)]
  simp only [Option.bind_some]
  rw [if_pos ho]
  have e1 : wrap64 ((p : Int) + 6) = ((p + 6 : Nat) : Int) := by unfold wrap64; omega
  rw [e1]
  congr 4
  unfold six
  rw [Nat.add_zero] at *
  omega
theorem ref_l0 {l : List Int} (hB : Bs l) (hl : l.length ≤ 1073741824) (u : Bool) (k : Nat) (out : List Int) (p : Nat) (hp : p < 8 * l.length) (ho : out.length < 140737488355328) :
    hustingsref01_Encode.l0 (k + 8) l u out p = hustingsref01_Encode.l0 k l u (out ++ [ltr u (six (bv l) p)]) ((p + 6 : Nat) : Int) := by
  have e : wrap64 (8 * (l.length : Int)) = 8 * (l.length : Int) := by unfold wrap64; omega
  rw [← ref_six hB u k out p (by omega) ho]
  simp only [hustingsref01_Encode.l0]
  rw [e, if_pos (by omega)]
theorem ref_end {l : List Int} (hl : l.length ≤ 1073741824) (u : Bool) (k : Nat) (out : List Int) (p : Nat) (hp : 8 * l.length ≤ p) :
    hustingsref01_Encode.l0 (k + 1) l u out p = some (strOfNums out) := by
  have e : wrap64 (8 * (l.length : Int)) = 8 * (l.length : Int) := by unfold wrap64; omega
  simp only [hustingsref01_Encode.l0]
  rw [e, if_neg (by omega)]
theorem bv_at (l : List Int) (q r : Nat) (hr : r < 8) : bv l (8 * q + r) = rd l q / 2 ^ (7 - r) % 2 := by
  unfold bv
  rw [show (8 * q + r) / 8 = q from by omega, show (8 * q + r) % 8 = r from by omega]
theorem six0 {l : List Int} (hB : Bs l) (q : Nat) : six (bv l) (8 * q) = rd l q / 4 := by
  have h := rd_byte hB q
  have e := bv_at l q
  have e0 := e 0 (by omega)
  rw [Nat.add_zero] at e0
  unfold six
  rw [e0, e 1 (by omega), e 2 (by omega), e 3 (by omega), e 4 (by omega), e 5 (by omega)]
  simp only [Nat.reduceSub]
  omega
theorem six1 {l : List Int} (hB : Bs l) (q : Nat) : six (bv l) (8 * q + 6) = rd l q % 4 * 16 + rd l (q + 1 : Nat) / 16 := by
  have h := rd_byte hB q
  have h1 := rd_byte hB (q + 1 : Nat)
  unfold six
  rw [bv_at l q 6 (by omega), show 8 * q + 6 + 1 = 8 * q + 7 from rfl, bv_at l q 7 (by omega), show 8 * q + 6 + 2 = 8 * (q + 1) + 0 from by omega, bv_at l (q + 1) 0 (by omega), show 8 * q + 6 + 3 = 8 * (q + 1) + 1 from by omega, bv_at l (q + 1) 1 (by omega),
    show 8 * q + 6 + 4 = 8 * (q + 1) + 2 from by omega, bv_at l (q + 1) 2 (by omega), show 8 * q + 6 + 5 = 8 * (q + 1) + 3 from by omega, bv_at l (q + 1) 3 (by omega)]
  simp only [Nat.reduceSub]
  omega
theorem six2 {l : List Int} (hB : Bs l) (q : Nat) : six (bv l) (8 * q + 4) = rd l q % 16 * 4 + rd l (q + 1 : Nat) / 64 := by
  have h := rd_byte hB q
  have h1 := rd_byte hB (q + 1 : Nat)
  unfold six
  rw [bv_at l q 4 (by omega), show 8 * q + 4 + 1 = 8 * q + 5 from rfl, bv_at l q 5 (by omega), show 8 * q + 4 + 2 = 8 * q + 6 from by omega, bv_at l q 6 (by omega), show 8 * q + 4 + 3 = 8 * q + 7 from by omega, bv_at l q 7 (by omega),
    show 8 * q + 4 + 4 = 8 * (q + 1) + 0 from by omega, bv_at l (q + 1) 0 (by omega), show 8 * q + 4 + 5 = 8 * (q + 1) + 1 from by omega, bv_at l (q + 1) 1 (by omega)]
  simp only [Nat.reduceSub]
  omega
theorem six3 {l : List Int} (hB : Bs l) (q : Nat) : six (bv l) (8 * q + 2) = rd l q % 64 := by
  have h := rd_byte hB q
  unfold six
  rw [bv_at l q 2 (by omega), show 8 * q + 2 + 1 = 8 * q + 3 from rfl, bv_at l q 3 (by omega), show 8 * q + 2 + 2 = 8 * q + 4 from by omega, bv_at l q 4 (by omega), show 8 * q + 2 + 3 = 8 * q + 5 from by omega, bv_at l q 5 (by omega),
    show 8 * q + 2 + 4 = 8 * q + 6 from by omega, bv_at l q 6 (by omega), show 8 * q + 2 + 5 = 8 * q + 7 from by omega, bv_at l q 7 (by omega)]
  simp only [Nat.reduceSub]
  omega
theorem ref_loop (u : Bool) (l : List Int) (hB : Bs l) (hl : l.length ≤ 1073741824) : ∀ (m : Nat) (t : List Int), t.length ≤ m → ∀ (q : Nat) (out : List Int) (k : Nat), l.drop q = t → out.length ≤ 2 * q → 16 * t.length + 1 ≤ k →
    hustingsref01_Encode.l0 k l u out ((8 * q : Nat) : Int) = some (strOfNums (out ++ (enc6 t).map (ltr u))) := by
  intro m
  induction m with
  | zero =>
    intro t ht q out k hd ho hk
    have : t = [] := List.eq_nil_of_length_eq_zero (by omega)
    subst this
    obtain ⟨k, rfl⟩ : ∃ j, k = j + 1 := ⟨k - 1, by omega⟩
    have := drop_nil hd
    rw [ref_end hl u k out _ (by omega)]
    simp [enc6]
  | succ m ih =>
    intro t ht q out k hd ho hk
    match t, hd, ht with
    | [], hd, ht =>
      obtain ⟨k, rfl⟩ : ∃ j, k = j + 1 := ⟨k - 1, by omega⟩
      have := drop_nil hd
      rw [ref_end hl u k out _ (by omega)]
      simp [enc6]
    | [a], hd, ht =>
      obtain ⟨k, rfl⟩ : ∃ j, k = j + 17 := ⟨k - 17, by simp at hk; omega⟩
      obtain ⟨hlt, hra, hd1⟩ := drop_cons hd
      have hn := drop_nil hd1
      rw [show k + 17 = k + 9 + 8 from rfl, ref_l0 hB hl u _ out _ (by omega) (by omega), show k + 9 = k + 1 + 8 from rfl, ref_l0 hB hl u _ _ _ (by omega) (by simp; omega), ref_end hl u _ _ _ (by omega)]
      rw [six0 hB, six1 hB, hra, rd_out (q := q + 1) (by omega)]
      simp [enc6, ltr]
    | [a, b], hd, ht =>
      obtain ⟨k, rfl⟩ : ∃ j, k = j + 25 := ⟨k - 25, by simp at hk; omega⟩
      obtain ⟨hlt, hra, hd1⟩ := drop_cons hd
      obtain ⟨hlt1, hrb, hd2⟩ := drop_cons hd1
      have hn := drop_nil hd2
      rw [show k + 25 = k + 17 + 8 from rfl, ref_l0 hB hl u _ out _ (by omega) (by omega), show k + 17 = k + 9 + 8 from rfl, ref_l0 hB hl u _ _ _ (by omega) (by simp; omega), show k + 9 = k + 1 + 8 from rfl, ref_l0 hB hl u _ _ _ (by omega) (by simp; omega), ref_end hl u _ _ _ (by omega)]
      rw [six0 hB, six1 hB, show 8 * q + 6 + 6 = 8 * (q + 1) + 4 from by omega, six2 hB, hra, hrb, rd_out (q := q + 1 + 1) (by omega)]
      simp [enc6, ltr]
    | a :: b :: c :: t, hd, ht =>
      obtain ⟨k, rfl⟩ : ∃ j, k = j + 32 := ⟨k - 32, by simp at hk; omega⟩
      obtain ⟨hlt, hra, hd1⟩ := drop_cons hd
      obtain ⟨hlt1, hrb, hd2⟩ := drop_cons hd1
      obtain ⟨hlt2, hrc, hd3⟩ := drop_cons hd2
      rw [show k + 32 = k + 24 + 8 from rfl, ref_l0 hB hl u _ out _ (by omega) (by omega), show k + 24 = k + 16 + 8 from rfl, ref_l0 hB hl u _ _ _ (by omega) (by simp; omega), show k + 16 = k + 8 + 8 from rfl, ref_l0 hB hl u _ _ _ (by omega) (by simp; omega), ref_l0 hB hl u _ _ _ (by omega) (by simp; omega)]
      rw [show 8 * q + 6 + 6 + 6 + 6 = 8 * (q + 1 + 1 + 1) from by omega, ih t (by simp at ht; omega) (q + 1 + 1 + 1) _ k hd3 (by simp; omega) (by simp at hk; omega)]
      rw [six0 hB, six1 hB, show 8 * q + 6 + 6 = 8 * (q + 1) + 4 from by omega, six2 hB, show 8 * (q + 1) + 4 + 6 = 8 * (q + 1 + 1) + 2 from by omega, six3 hB, hra, hrb, hrc]
      simp [enc6, ltr]
theorem ref_encode_eq (u : Bool) (l : List Int) (hB : Bs l) (hl : l.length ≤ 1073741824) {k : Nat} (hk : 16 * l.length + 1 ≤ k) : hustingsref01_Encode.f k l u = some (encS l u) := by
  unfold hustingsref01_Encode.f
  have := ref_loop u l hB hl l.length l (Nat.le_refl _) 0 [] k rfl (by simp) hk
  rw [List.nil_append] at this
  exact this
end Go.Proofs.Ytboelmakccaenaa.P
