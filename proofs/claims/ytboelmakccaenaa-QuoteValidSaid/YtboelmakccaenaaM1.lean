/- What letters.Encode and the document's Encode compute: the letters of bytes, three bytes at a time. -/
import Derived.Test.YtboelmakccaenaaG24
import Derived.Test.YtboelmakccaenaaG25
import Derived.Laws.BitsAllLaws
import Derived.IntWalk
namespace Go.Proofs.Ytboelmakccaenaa.P
set_option linter.unusedVariables false
open Go.RowKit Go.Proofs.YtboelmakccaenaaW.PrintWords Go.Proofs.YtboelmakccaenaaW.PrintLast Go.Proofs.YtboelmakccaenaaW.PrintMore

/-- The numbers of six bits of bytes. -/
def enc6 : List Int → List Int
  | a :: b :: c :: t => a / 4 :: (a % 4 * 16 + b / 16) :: (b % 16 * 4 + c / 64) :: c % 64 :: enc6 t
  | [a, b] => [a / 4, a % 4 * 16 + b / 16, b % 16 * 4]
  | [a] => [a / 4, a % 4 * 16]
  | [] => []
def abc (u : Bool) : ByteArray := if u then ⟨#[65, 66, 67, 68, 69, 70, 71, 72, 73, 74, 75, 76, 77, 78, 79, 80, 81, 82, 83, 84, 85, 86, 87, 88, 89, 90, 97, 98, 99, 100, 101, 102, 103, 104, 105, 106, 107, 108, 109, 110, 111, 112, 113, 114, 115, 116, 117, 118, 119, 120, 121, 122, 48, 49, 50, 51, 52, 53, 54, 55, 56, 57, 45, 95]⟩ else ⟨#[65, 66, 67, 68, 69, 70, 71, 72, 73, 74, 75, 76, 77, 78, 79, 80, 81, 82, 83, 84, 85, 86, 87, 88, 89, 90, 97, 98, 99, 100, 101, 102, 103, 104, 105, 106, 107, 108, 109, 110, 111, 112, 113, 114, 115, 116, 117, 118, 119, 120, 121, 122, 48, 49, 50, 51, 52, 53, 54, 55, 56, 57, 43, 47]⟩
theorem abc_size (u : Bool) : (abc u).size = 64 := by cases u <;> rfl
theorem alphabet_eq (u : Bool) : letters_alphabet.f u = some (abc u) := by cases u <;> rfl
/-- The letter of a number. -/
def ltr (u : Bool) (n : Int) : Int := bt (abc u) n
def encS (l : List Int) (u : Bool) : ByteArray := strOfNums ((enc6 l).map (ltr u))
/-- All are bytes. -/
def Bs (l : List Int) : Prop := ∀ x ∈ l, 0 ≤ x ∧ x ≤ 255
theorem Bs.tail {a : Int} {l : List Int} (h : Bs (a :: l)) : Bs l := fun x hx => h x (List.mem_cons_of_mem _ hx)
theorem Bs.head {a : Int} {l : List Int} (h : Bs (a :: l)) : 0 ≤ a ∧ a ≤ 255 := h a List.mem_cons_self

theorem drop_cons {l : List Int} {i : Nat} {a : Int} {t : List Int} (h : l.drop i = a :: t) : i < l.length ∧ rd l i = a ∧ l.drop (i + 1) = t := by
  have hlt : i < l.length := by
    rcases Nat.lt_or_ge i l.length with h' | h'
    · exact h'
    · rw [List.drop_eq_nil_of_le h'] at h; cases h
  rw [List.drop_eq_getElem_cons hlt] at h
  injection h with h1 h2
  refine ⟨hlt, ?_, h2⟩
  simp [rd, hlt, h1]
theorem drop_nil {l : List Int} {i : Nat} (h : l.drop i = []) : l.length ≤ i := by simpa using h

/-- One byte more in the number that is held. -/
def more (h a : Int) : Int := (h * 256) % 18446744073709551616 + a
theorem more_eq (h a : Int) (ha : 0 ≤ a ∧ a ≤ 255) : Go.bits .or .u64 (IntKind.u64.wrap (h * 256)) (IntKind.u64.wrap a) = more h a := by
  have e1 : IntKind.u64.wrap (h * 256) = (h * 256) % 18446744073709551616 := by simp [IntKind.wrap, IntKind.bits, IntKind.signed]
  have e2 : IntKind.u64.wrap a = a := by simp [IntKind.wrap, IntKind.bits, IntKind.signed]; omega
  rw [e1, e2, u64_or _ _ (by omega) (by omega) (by omega) (by omega)]
  rw [nat_join 8 _ _ (by omega) (by omega)]
  unfold more
  omega
theorem more_range (h a : Int) (ha : 0 ≤ a ∧ a ≤ 255) : 0 ≤ more h a ∧ more h a < 18446744073709551616 := by unfold more; omega
theorem more_mod (h a : Int) : more h a % 65536 = ((h % 256) * 256 + a) % 65536 := by unfold more; omega
theorem and63 (x : Int) (h0 : 0 ≤ x) (h1 : x < 18446744073709551616) : Go.bits .and .u64 x 63 = x % 64 := by
  rw [u64_and _ _ h0 h1 (by omega) (by omega)]
  have : (63 : Int).toNat = 63 := rfl
  rw [this, nat_mask6]
  omega
theorem shr_range (x j : Int) (h0 : 0 ≤ x) (h1 : x < 18446744073709551616) : 0 ≤ shr .u64 x j ∧ shr .u64 x j < 18446744073709551616 := by
  unfold shr
  have hp : (0 : Int) < 2 ^ min j.toNat IntKind.u64.bits := Int.pow_pos (by omega)
  refine ⟨Int.ediv_nonneg h0 (by omega), ?_⟩
  have : x / 2 ^ min j.toNat IntKind.u64.bits ≤ x := Int.ediv_le_self _ h0
  omega
/-- The inner loop's exit, and its round. -/
theorem enc_l1_exit (k : Nat) (A : ByteArray) (out : List Int) (h b : Int) (l : List Int) (n i : Int) (hb : b < 6) :
    letters_Encode.l1 (k + 1) A out h b l n i = letters_Encode.l0 k A out h b l n (wrap64 (i + 1)) := by
  simp only [letters_Encode.l1]
  rw [if_neg (by omega)]
theorem enc_l1_round (k : Nat) (A : ByteArray) (out : List Int) (h b : Int) (l : List Int) (n i : Int) (hA : A.size = 64) (hb : 6 ≤ b) (hb2 : b ≤ 64) (h0 : 0 ≤ h) (h1 : h < 18446744073709551616) (ho : out.length < 140737488355328) :
    letters_Encode.l1 (k + 1) A out h b l n i = letters_Encode.l1 k A (out ++ [bt A (h / 2 ^ (b - 6).toNat % 64)]) h (b - 6) l n i := by
  have hw : wrap64 (b - 6) = b - 6 := by unfold wrap64; omega
  have hs : shr .u64 h (b - 6) = h / 2 ^ (b - 6).toNat := by
    unfold shr; rw [Nat.min_eq_left (by simp [IntKind.bits]; omega)]
  have hr := shr_range h (b - 6) h0 h1
  simp only [letters_Encode.l1]
  rw [if_pos (by omega), hw, if_pos (by omega), hs] at *
  rw [and63 _ hr.1 hr.2, hA, if_pos (by omega), if_pos (by omega), if_pos ho]
theorem enc_l0_round (k : Nat) (A : ByteArray) (out : List Int) (h b : Int) (l : List Int) (i : Nat) (a : Int) (t : List Int) (hd : l.drop i = a :: t) (ha : 0 ≤ a ∧ a ≤ 255) (hb0 : 0 ≤ b) (hb : b < 6) :
    letters_Encode.l0 (k + 1) A out h b l l.length i = letters_Encode.l1 k A out (more h a) (b + 8) l l.length i := by
  obtain ⟨hlt, hrd, _⟩ := drop_cons hd
  have hw : wrap64 (b + 8) = b + 8 := by unfold wrap64; omega
  simp only [letters_Encode.l0]
  rw [if_pos (by omega), if_pos (by omega), if_pos (by omega), hrd, more_eq h a ha, hw]
theorem wrap_i (i : Nat) (hi : i < 140737488355328) : wrap64 ((i : Int) + 1) = ((i + 1 : Nat) : Int) := by unfold wrap64; omega
/-- The loop from a third byte on: what is left is told by its letters. -/
theorem enc_loop (u : Bool) (l : List Int) (hl : l.length ≤ 1099511627776) : ∀ (m : Nat) (t : List Int), t.length ≤ m → Bs t → ∀ (i : Nat) (out : List Int) (h : Int) (k : Nat), l.drop i = t → out.length ≤ 2 * i → 4 * t.length + 5 ≤ k →
    letters_Encode.l0 k (abc u) out h 0 l l.length i = some (strOfNums (out ++ (enc6 t).map (ltr u))) := by
  intro m
  induction m with
  | zero =>
    intro t ht hBt i out h k hd ho hk
    have : t = [] := List.eq_nil_of_length_eq_zero (by omega)
    subst this
    obtain ⟨k, rfl⟩ : ∃ j, k = j + 1 := ⟨k - 1, by omega⟩
    have := drop_nil hd
    simp only [letters_Encode.l0]
    rw [if_neg (by omega), if_neg (by omega)]
    simp [enc6]
  | succ m ih =>
    intro t ht hBt i out h k hd ho hk
    match t, hd, ht, hBt with
    | [], hd, ht, hBt =>
      obtain ⟨k, rfl⟩ : ∃ j, k = j + 1 := ⟨k - 1, by omega⟩
      have := drop_nil hd
      simp only [letters_Encode.l0]
      rw [if_neg (by omega), if_neg (by omega)]
      simp [enc6]
    | a :: t1, hd, ht, hBt =>
      obtain ⟨k, rfl⟩ : ∃ j, k = j + 3 := ⟨k - 3, by simp at hk; omega⟩
      have ha := hBt.head
      obtain ⟨hlt, _, hd1⟩ := drop_cons hd
      have r1 := more_range h a ha
      rw [enc_l0_round (k + 2) (abc u) out h 0 l i a t1 hd ha (by omega) (by omega)]
      rw [enc_l1_round (k + 1) (abc u) out (more h a) (0 + 8) l l.length i (abc_size u) (by omega) (by omega) r1.1 r1.2 (by omega)]
      rw [enc_l1_exit k _ _ _ _ _ _ _ (by omega), wrap_i i (by omega)]
      have v1 : more h a / 2 ^ ((0 : Int) + 8 - 6).toNat % 64 = a / 4 := by
        show more h a / 2 ^ 2 % 64 = _
        unfold more; omega
      rw [v1]
      match t1, hd1, ht, hBt with
      | [], hd1, ht, hBt =>
        obtain ⟨k, rfl⟩ : ∃ j, k = j + 1 := ⟨k - 1, by simp at hk; omega⟩
        have := drop_nil hd1
        simp only [letters_Encode.l0]
        have hw : wrap64 (6 - (0 + 8 - 6)) = 4 := by unfold wrap64; omega
        have hs : shl .u64 (more h a) 4 = (more h a * 16) % 18446744073709551616 := by
          unfold shl; simp [IntKind.wrap, IntKind.bits, IntKind.signed]
        rw [if_neg (by omega), if_pos (by omega), hw, if_pos (by omega), hs, and63 _ (by omega) (by omega), abc_size, if_pos (by omega), if_pos (by omega), if_pos (by simp; omega)]
        have v2 : more h a * 16 % 18446744073709551616 % 64 = a % 4 * 16 := by unfold more; omega
        rw [v2]
        simp [enc6, ltr]
      | b :: t2, hd1, ht, hBt =>
        obtain ⟨k, rfl⟩ : ∃ j, k = j + 3 := ⟨k - 3, by simp at hk; omega⟩
        have hb := hBt.tail.head
        obtain ⟨hlt1, _, hd2⟩ := drop_cons hd1
        have r2 := more_range (more h a) b hb
        rw [enc_l0_round (k + 2) (abc u) _ _ _ l (i + 1) b t2 hd1 hb (by omega) (by omega)]
        rw [enc_l1_round (k + 1) (abc u) _ _ _ l l.length _ (abc_size u) (by omega) (by omega) r2.1 r2.2 (by simp; omega)]
        rw [enc_l1_exit k _ _ _ _ _ _ _ (by omega), wrap_i (i + 1) (by omega)]
        have v2 : more (more h a) b / 2 ^ ((0 : Int) + 8 - 6 + 8 - 6).toNat % 64 = a % 4 * 16 + b / 16 := by
          show more (more h a) b / 2 ^ 4 % 64 = _
          unfold more; omega
        rw [v2]
        match t2, hd2, ht, hBt with
        | [], hd2, ht, hBt =>
          obtain ⟨k, rfl⟩ : ∃ j, k = j + 1 := ⟨k - 1, by simp at hk; omega⟩
          have := drop_nil hd2
          simp only [letters_Encode.l0]
          have hw : wrap64 (6 - (0 + 8 - 6 + 8 - 6)) = 2 := by unfold wrap64; omega
          have hs : shl .u64 (more (more h a) b) 2 = (more (more h a) b * 4) % 18446744073709551616 := by
            unfold shl; simp [IntKind.wrap, IntKind.bits, IntKind.signed]
          rw [if_neg (by omega), if_pos (by omega), hw, if_pos (by omega), hs, and63 _ (by omega) (by omega), abc_size, if_pos (by omega), if_pos (by omega), if_pos (by simp; omega)]
          have v3 : more (more h a) b * 4 % 18446744073709551616 % 64 = b % 16 * 4 := by unfold more; omega
          rw [v3]
          simp [enc6, ltr]
        | c :: t3, hd2, ht, hBt =>
          obtain ⟨k, rfl⟩ : ∃ j, k = j + 4 := ⟨k - 4, by simp at hk; omega⟩
          have hc := hBt.tail.tail.head
          obtain ⟨hlt2, _, hd3⟩ := drop_cons hd2
          have r3 := more_range (more (more h a) b) c hc
          rw [enc_l0_round (k + 3) (abc u) _ _ _ l (i + 1 + 1) c t3 hd2 hc (by omega) (by omega)]
          rw [enc_l1_round (k + 2) (abc u) _ _ _ l l.length _ (abc_size u) (by omega) (by omega) r3.1 r3.2 (by simp; omega)]
          rw [enc_l1_round (k + 1) (abc u) _ _ _ l l.length _ (abc_size u) (by omega) (by omega) r3.1 r3.2 (by simp; omega)]
          rw [enc_l1_exit k _ _ _ _ _ _ _ (by omega), wrap_i (i + 1 + 1) (by omega)]
          have v3 : more (more (more h a) b) c / 2 ^ ((0 : Int) + 8 - 6 + 8 - 6 + 8 - 6).toNat % 64 = b % 16 * 4 + c / 64 := by
            show more (more (more h a) b) c / 2 ^ 6 % 64 = _
            unfold more; omega
          have v4 : more (more (more h a) b) c / 2 ^ ((0 : Int) + 8 - 6 + 8 - 6 + 8 - 6 - 6).toNat % 64 = c % 64 := by
            show more (more (more h a) b) c / 2 ^ 0 % 64 = _
            unfold more; omega
          rw [v3, v4]
          have z : (0 : Int) + 8 - 6 + 8 - 6 + 8 - 6 - 6 = 0 := by omega
          rw [z, ih t3 (by simp at ht; omega) hBt.tail.tail.tail (i + 1 + 1 + 1) _ _ k hd3 (by simp; omega) (by simp at hk; omega)]
          simp [enc6, ltr]
theorem encode_eq (u : Bool) (l : List Int) (hB : Bs l) (hl : l.length ≤ 1099511627776) {k : Nat} (hk : 4 * l.length + 5 ≤ k) : letters_Encode.f k l u = some (encS l u) := by
  unfold letters_Encode.f
  rw [alphabet_eq]
  simp only [Option.bind_some]
  have := enc_loop u l hl l.length l (Nat.le_refl _) hB 0 [] 0 k rfl (by simp) hk
  rw [List.nil_append] at this
  exact this
end Go.Proofs.Ytboelmakccaenaa.P
