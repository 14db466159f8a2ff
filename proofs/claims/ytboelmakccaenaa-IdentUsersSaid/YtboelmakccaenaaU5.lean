/- Texts N5, N6 of this session, in one (wip/tools/merge.py). -/
import Derived.Test.YtboelmakccaenaaU3
import Derived.Test.YtboelmakccaenaaG76
import Derived.Test.YtboelmakccaenaaG82
import Derived.Test.YtboelmakccaenaaU4
import Derived.Test.YtboelmakccaenaaG27
import Derived.Test.YtboelmakccaenaaG64
namespace Go.Proofs.Ytboelmakccaenaa.P
section
set_option linter.unusedVariables false
open Go.RowKit Go.Proofs.YtboelmakccaenaaW.PrintWords Go.Proofs.YtboelmakccaenaaW.PrintLast Go.Proofs.YtboelmakccaenaaW.PrintMore
/-- Is a byte of the kind of this letter? -/
def kindQ (q c : Int) : Bool := (decide (q = 97) && decide (97 ≤ c) && decide (c ≤ 122)) || (decide (q = 65) && decide (65 ≤ c) && decide (c ≤ 90)) || (decide (q = 48) && decide (48 ≤ c) && decide (c ≤ 57))
theorem kq_t {q c : Int} (h : (q = 97 ∧ 97 ≤ c ∧ c ≤ 122) ∨ (q = 65 ∧ 65 ≤ c ∧ c ≤ 90) ∨ (q = 48 ∧ 48 ≤ c ∧ c ≤ 57)) : true = kindQ q c := by
  unfold kindQ; simp only [Bool.true_eq, Bool.or_eq_true, Bool.and_eq_true, decide_eq_true_eq]; omega
theorem kq_f {q c : Int} (h : ¬ ((q = 97 ∧ 97 ≤ c ∧ c ≤ 122) ∨ (q = 65 ∧ 65 ≤ c ∧ c ≤ 90) ∨ (q = 48 ∧ 48 ≤ c ∧ c ≤ 57))) : false = kindQ q c := by
  have : ¬ kindQ q c = true := by unfold kindQ; simp only [Bool.or_eq_true, Bool.and_eq_true, decide_eq_true_eq]; omega
  cases h : kindQ q c
  · rfl
  · exact absurd h this
theorem kq_d {q c : Int} (h : q = 48 ∧ 48 ≤ c) : decide (c ≤ 57) = kindQ q c := by
  by_cases h2 : c ≤ 57
  · rw [decide_eq_true h2]; exact kq_t (by omega)
  · rw [decide_eq_false h2]; exact kq_f (by omega)
theorem of_l1_step (s K S : ByteArray) (i c j : Int) (b : Bool) (k : Nat) (h0 : 0 ≤ j) (hj : j < (K.size : Int)) :
    hustingsref10_of.l1 (k + 1) s K S i c b j = hustingsref10_of.l1 k s K S i c (b || kindQ (bt K j) c) (wrap64 (j + 1)) := by
  simp only [hustingsref10_of.l1]
  rw [if_pos hj]
  cases b
  · rw [if_neg (by decide), if_pos h0, Bool.false_or]
    generalize bt K j = q
    repeat' split
    all_goals congr 1
    all_goals first | exact kq_t (by omega) | exact kq_f (by omega) | exact kq_d (by omega)
  · rw [if_pos rfl, Bool.true_or]
theorem of_l1 (s K S : ByteArray) (i c : Int) (hK : K.size ≤ 1000) : ∀ (n j : Nat) (b : Bool) (k : Nat), j + n = K.size →
    hustingsref10_of.l1 (k + n + 1) s K S i c b (j : Int) = hustingsref10_of.l2 k s K S i c (b || ((bytesOf K).drop j).any (kindQ · c)) 0
  | 0, j, b, k, h => by
    have : (bytesOf K).drop j = [] := List.drop_eq_nil_of_le (by rw [bytesOf_length]; omega)
    rw [this]
    simp only [hustingsref10_of.l1]
    rw [if_neg (by omega)]
    simp
  | n + 1, j, b, k, h => by
    obtain ⟨hj, t, ht, ht2⟩ | ⟨hj, _⟩ := drop_shape K j
    · obtain ⟨_, hb, _⟩ := bt_drop K j _ _ ht
      rw [show k + (n + 1) + 1 = (k + n + 1) + 1 by omega, of_l1_step s K S i c j b _ (by omega) (by omega), w64 _ (by omega) (by omega)]
      have := of_l1 s K S i c hK n (j + 1) (b || kindQ (bt K (j : Int)) c) k (by omega)
      rw [show ((j : Int) + 1) = ((j + 1 : Nat) : Int) by omega, this, ht, List.any_cons, ht2, hb, Bool.or_assoc]
    · omega
theorem of_l2_step (s K S : ByteArray) (i c j : Int) (b : Bool) (k : Nat) (h0 : 0 ≤ j) (hj : j < (S.size : Int)) :
    hustingsref10_of.l2 (k + 1) s K S i c b j = hustingsref10_of.l2 k s K S i c (b || (bt S j == c)) (wrap64 (j + 1)) := by
  simp only [hustingsref10_of.l2]
  rw [if_pos hj]
  cases b
  · rw [if_neg (by decide), if_pos h0, Bool.false_or]
  · rw [if_pos rfl, Bool.true_or]
theorem of_l2 (s K S : ByteArray) (i c : Int) (hS : S.size ≤ 1000) : ∀ (n j : Nat) (b : Bool) (k : Nat), j + n = S.size →
    hustingsref10_of.l2 (k + n + 1) s K S i c b (j : Int) = if (b || ((bytesOf S).drop j).any (· == c)) = true then hustingsref10_of.l0 k s K S (wrap64 (i + 1)) else some false
  | 0, j, b, k, h => by
    have : (bytesOf S).drop j = [] := List.drop_eq_nil_of_le (by rw [bytesOf_length]; omega)
    rw [this]
    simp only [hustingsref10_of.l2]
    rw [if_neg (by omega)]
    simp
  | n + 1, j, b, k, h => by
    obtain ⟨hj, t, ht, ht2⟩ | ⟨hj, _⟩ := drop_shape S j
    · obtain ⟨_, hb, _⟩ := bt_drop S j _ _ ht
      rw [show k + (n + 1) + 1 = (k + n + 1) + 1 by omega, of_l2_step s K S i c j b _ (by omega) (by omega), w64 _ (by omega) (by omega)]
      have := of_l2 s K S i c hS n (j + 1) (b || (bt S (j : Int) == c)) k (by omega)
      rw [show ((j : Int) + 1) = ((j + 1 : Nat) : Int) by omega, this, ht, List.any_cons, ht2, hb, Bool.or_assoc]
    · omega
/-- Is a byte of these kinds, or one of these signs? -/
def ofK (K S : List Int) (c : Int) : Bool := K.any (kindQ · c) || S.any (· == c)
theorem of_l0 (s K S : ByteArray) (hs : s.size ≤ 140737488351232) (hK : K.size ≤ 1000) (hS : S.size ≤ 1000) : ∀ (n j k : Nat), j + n = s.size → n * (K.size + S.size + 3) + 1 ≤ k →
    hustingsref10_of.l0 k s K S (j : Int) = some (((bytesOf s).drop j).all (ofK (bytesOf K) (bytesOf S)) && (s.toList != ([] : List UInt8)))
  | 0, j, k, h, hk => by
    obtain ⟨k, rfl⟩ : ∃ m, k = m + 1 := ⟨k - 1, by omega⟩
    have : (bytesOf s).drop j = [] := List.drop_eq_nil_of_le (by rw [bytesOf_length]; omega)
    rw [this]
    simp only [hustingsref10_of.l0]
    rw [if_neg (by omega)]
    simp
  | n + 1, j, k, h, hk => by
    obtain ⟨hj, t, ht, ht2⟩ | ⟨hj, _⟩ := drop_shape s j
    · obtain ⟨_, hb, _⟩ := bt_drop s j _ _ ht
      rw [Nat.succ_mul] at hk
      obtain ⟨k, rfl⟩ : ∃ m, k = ((m + S.size + 1) + K.size + 1) + 1 := ⟨k - (S.size + K.size + 3), by omega⟩
      have h1 := of_l1 s K S (j : Int) (bt s (j : Int)) hK K.size 0 false (k + S.size + 1) (by omega)
      have h2 := of_l2 s K S (j : Int) (bt s (j : Int)) hS S.size 0 (((bytesOf K).drop 0).any (kindQ · (bt s (j : Int)))) k (by omega)
      rw [Bool.false_or] at h1
      simp only [hustingsref10_of.l0]
      rw [if_pos (by omega), if_pos (by omega)]
      refine (h1.trans h2).trans ?_
      rw [w64 _ (by omega) (by omega), show ((j : Int) + 1) = ((j + 1 : Nat) : Int) by omega, of_l0 s K S hs hK hS n (j + 1) k (by omega) (by omega), ht, List.all_cons, ht2, ← hb]
      have e : ((((bytesOf K).drop 0).any (kindQ · (bt s (j : Int)))) || (((bytesOf S).drop 0).any (· == bt s (j : Int)))) = ofK (bytesOf K) (bytesOf S) (bt s (j : Int)) := rfl
      rw [e]
      cases ofK (bytesOf K) (bytesOf S) (bt s (j : Int))
      · rw [if_neg (by decide)]; rfl
      · rw [if_pos rfl, Bool.true_and]
    · omega
theorem ne_empty (s : ByteArray) : (s.toList != ([] : List UInt8)) = !(bytesOf s).isEmpty := by
  rw [size_isEmpty, ← toList_isEmpty]
  cases s.toList <;> rfl
theorem of_f (s K S : ByteArray) (k : Nat) (hs : s.size ≤ 140737488351232) (hK : K.size + S.size ≤ 17) (hk : s.size * 20 + 1 ≤ k) :
    hustingsref10_of.f k s K S = some (allL (ofK (bytesOf K) (bytesOf S)) (bytesOf s)) := by
  unfold hustingsref10_of.f
  have h : s.size * (K.size + S.size + 3) ≤ s.size * 20 := Nat.mul_le_mul_left _ (by omega)
  have := of_l0 s K S hs (by omega) (by omega) s.size 0 k (by omega) (by omega)
  rw [show ((0 : Nat) : Int) = 0 from rfl] at this
  rw [this, ne_empty, List.drop_zero]
  rfl
theorem colon_l0 (s : ByteArray) (hs : s.size ≤ 140737488351232) : ∀ (n j k : Nat), j + n = s.size → n + 1 ≤ k →
    hustingsref10_colon.l0 k s (j : Int) = some ((j : Int) + (colonN ((bytesOf s).drop j) : Int))
  | 0, j, k, h, hk => by
    obtain ⟨k, rfl⟩ : ∃ m, k = m + 1 := ⟨k - 1, by omega⟩
    have : (bytesOf s).drop j = [] := List.drop_eq_nil_of_le (by rw [bytesOf_length]; omega)
    rw [this]
    simp only [hustingsref10_colon.l0]
    rw [if_neg (by omega)]
    have : (s.size : Int) = (j : Int) + ((0 : Nat) : Int) := by omega
    exact congrArg some this
  | n + 1, j, k, h, hk => by
    obtain ⟨k, rfl⟩ : ∃ m, k = m + 1 := ⟨k - 1, by omega⟩
    obtain ⟨hj, t, ht, ht2⟩ | ⟨hj, _⟩ := drop_shape s j
    · obtain ⟨_, hb, _⟩ := bt_drop s j _ _ ht
      simp only [hustingsref10_colon.l0]
      rw [if_pos (by omega), if_pos (by omega), ht, ← hb]
      simp only [colonN]
      by_cases hc : bt s (j : Int) = 58
      · rw [if_pos hc, if_pos hc]; simp
      · rw [if_neg hc, if_neg hc, w64 _ (by omega) (by omega), show ((j : Int) + 1) = ((j + 1 : Nat) : Int) by omega, colon_l0 s hs n (j + 1) k (by omega) (by omega), ht2]
        congr 1
        omega
    · omega
theorem colon_f (s : ByteArray) (k : Nat) (hs : s.size ≤ 140737488351232) (hk : s.size + 1 ≤ k) : hustingsref10_colon.f k s = some (colonN (bytesOf s) : Int) := by
  unfold hustingsref10_colon.f
  have := colon_l0 s hs s.size 0 k (by omega) hk
  rw [show ((0 : Nat) : Int) = 0 from rfl] at this
  rw [this, List.drop_zero]
  simp
end
section
set_option linter.unusedVariables false
open Go.RowKit Go.Proofs.YtboelmakccaenaaW.PrintWords Go.Proofs.YtboelmakccaenaaW.PrintLast Go.Proofs.YtboelmakccaenaaW.PrintMore
theorem bytes_ext (s : ByteArray) (a b : Nat) : bytesOf (s.extract a b) = ((bytesOf s).drop a).take (b - a) := by
  unfold bytesOf
  rw [ByteArray.data_extract, Array.toList_extract, List.extract_eq_take_drop, List.map_take, List.map_drop]
theorem bytes_inj {a b : ByteArray} (h : bytesOf a = bytesOf b) : a = b := by rw [← str_bytes a, h, str_bytes]
def serverL (l : List Int) : Bool :=
  if colonN l < l.length then allL kHost (l.take (colonN l)) && decide (l.length ≤ 255) && (decide ((l.drop (colonN l + 1)).length ≤ 5) && allL kDigit (l.drop (colonN l + 1)))
  else allL kHost l && decide (l.length ≤ 255)
theorem dec_int (n m : Nat) : decide ((n : Int) ≤ (m : Int)) = decide (n ≤ m) := by
  by_cases h : n ≤ m
  · rw [decide_eq_true h, decide_eq_true (by omega)]
  · rw [decide_eq_false h, decide_eq_false (by omega)]
theorem serverS_L (s : ByteArray) : serverS s = serverL (bytesOf s) := by
  unfold serverS serverL cutS
  rw [bytesOf_length]
  split
  · rename_i h
    simp only [bytes_ext, Nat.sub_zero, List.drop_zero, Bool.not_true, Bool.false_or, List.length_drop, bytesOf_length, ByteArray.size_extract]
    have e1 : decide ((s.size : Int) ≤ 255) = decide (s.size ≤ 255) := dec_int s.size 255
    have e2 : decide (((min s.size s.size - (colonN (bytesOf s) + 1) : Nat) : Int) ≤ 5) = decide (s.size - (colonN (bytesOf s) + 1) ≤ 5) := by rw [Nat.min_self]; exact dec_int _ 5
    rw [e1, e2, List.take_of_length_le (l := (bytesOf s).drop _) (by rw [List.length_drop, bytesOf_length]; exact Nat.le_refl _)]
  · simp only [Bool.not_false, Bool.true_or, Bool.and_true]
    have e1 : decide ((s.size : Int) ≤ 255) = decide (s.size ≤ 255) := dec_int s.size 255
    rw [e1]
def namedL (k : Int → Bool) (sign : Int) (l : List Int) : Bool :=
  decide (l.head? = some sign) && decide (l.length ≤ 255) && decide (colonN (l.drop 1) < (l.drop 1).length) && (serverL ((l.drop 1).drop (colonN (l.drop 1) + 1)) && allL k ((l.drop 1).take (colonN (l.drop 1))))
theorem head_bt (s : ByteArray) (sign : Int) : (0 < s.size ∧ bt s 0 = sign) ↔ (bytesOf s).head? = some sign := by
  obtain ⟨hj, t, ht, ht2⟩ | ⟨hj, h⟩ := drop_shape s 0
  · obtain ⟨_, hb, _⟩ := bt_drop s 0 _ _ ht
    rw [List.drop_zero] at ht
    rw [ht, List.head?_cons, ← hb]
    constructor
    · rintro ⟨_, h⟩; rw [← h]; rfl
    · intro h; exact ⟨hj, Option.some.inj h⟩
  · rw [List.drop_zero] at h
    rw [h]
    constructor
    · rintro ⟨h, _⟩; omega
    · intro h; cases h
theorem namedS_L (k : Int → Bool) (s : ByteArray) (sign : Int) : namedS k s sign = namedL k sign (bytesOf s) := by
  unfold namedS namedL partsS
  by_cases h : (bytesOf s).head? = some sign
  · obtain ⟨h1, h2⟩ := (head_bt s sign).mpr h
    by_cases hl : s.size ≤ 255
    · rw [if_pos ⟨h1, h2, hl⟩, decide_eq_true h, bytesOf_length, decide_eq_true hl]
      simp only [serverS_L]
      have e : bytesOf (s.extract 1 s.size) = (bytesOf s).drop 1 := bytes_extract s 1
      unfold cutS
      rw [e]
      have es : (s.extract 1 s.size).size = ((bytesOf s).drop 1).length := by rw [← e, bytesOf_length]
      rw [es]
      by_cases hc : colonN ((bytesOf s).drop 1) < ((bytesOf s).drop 1).length
      · rw [if_pos hc, decide_eq_true hc]
        simp only [Bool.true_and]
        have e3 : bytesOf ((s.extract 1 s.size).extract (colonN ((bytesOf s).drop 1) + 1) ((bytesOf s).drop 1).length) = ((bytesOf s).drop 1).drop (colonN ((bytesOf s).drop 1) + 1) := by rw [← es, bytes_extract, e]
        have e4 : bytesOf ((s.extract 1 s.size).extract 0 (colonN ((bytesOf s).drop 1))) = ((bytesOf s).drop 1).take (colonN ((bytesOf s).drop 1)) := by rw [bytes_take, e]
        rw [e3, e4]
      · rw [if_neg hc, decide_eq_false hc]
        simp
    · rw [if_neg (by omega), bytesOf_length, decide_eq_false hl]
      simp
  · rw [if_neg (fun hh => h ((head_bt s sign).mp ⟨hh.1, hh.2.1⟩)), decide_eq_false h]
    simp
theorem kinds_key : ofK [97, 65, 48] [95] = kKey := by
  funext c
  rw [Bool.eq_iff_iff]
  simp [ofK, kindQ, kKey, kSmall, kGreat, kDigit]
  omega
theorem kinds_host : ofK [97, 48] [46, 45] = kHost := by
  funext c
  rw [Bool.eq_iff_iff]
  simp [ofK, kindQ, kHost, kSmall, kDigit]
  omega
theorem kinds_digit : ofK [48] [] = kDigit := by
  funext c
  rw [Bool.eq_iff_iff]
  simp [ofK, kindQ, kDigit]
theorem kinds_room : ofK [97, 65, 48] [95, 45] = kRoom := by
  funext c
  rw [Bool.eq_iff_iff]
  simp [ofK, kindQ, kRoom, kSmall, kGreat, kDigit]
  omega
theorem kinds_user : ofK [97, 48] [46, 95, 61, 45, 47, 43] = kUser := by
  funext c
  rw [Bool.eq_iff_iff]
  simp [ofK, kindQ, kUser, kSmall, kSign, kDigit]
  omega
/-- Server, of the document. -/
theorem ref_server (s : ByteArray) (k : Nat) (hs : s.size ≤ 140737488351232) (hk : s.size * 20 + 20 ≤ k) : hustingsref10_Server.f k s = some (serverL (bytesOf s)) := by
  have hn : colonN (bytesOf s) ≤ s.size := by have := colonN_le (bytesOf s); rw [bytesOf_length] at this; exact this
  unfold hustingsref10_Server.f
  rw [colon_f s k hs (by omega), Option.bind_some]
  unfold serverL
  rw [bytesOf_length]
  generalize hnn : colonN (bytesOf s) = n at hn
  by_cases hl : (s.size : Int) > 255
  · rw [if_pos hl]
    have : decide (s.size ≤ 255) = false := decide_eq_false (by omega)
    rw [this]
    simp
  · have hd : decide (s.size ≤ 255) = true := decide_eq_true (by omega)
    rw [if_neg hl, if_pos (by omega), if_pos (by omega), Int.toNat_natCast, hd]
    obtain ⟨z, hz⟩ : ∃ z : ByteArray, z = ⟨#[97, 48]⟩ := ⟨_, rfl⟩
    obtain ⟨y, hy⟩ : ∃ y : ByteArray, y = ⟨#[46, 45]⟩ := ⟨_, rfl⟩
    obtain ⟨x, hx⟩ : ∃ x : ByteArray, x = ⟨#[48]⟩ := ⟨_, rfl⟩
    obtain ⟨v, hv⟩ : ∃ v : ByteArray, v = ⟨#[]⟩ := ⟨_, rfl⟩
    rw [← hz, ← hy, ← hx, ← hv]
    have sz : z.size = 2 := by rw [hz]; rfl
    have sy : y.size = 2 := by rw [hy]; rfl
    have sx : x.size = 1 := by rw [hx]; rfl
    have sv : v.size = 0 := by rw [hv]; rfl
    have bz : bytesOf z = [97, 48] := by rw [hz]; rfl
    have bys : bytesOf y = [46, 45] := by rw [hy]; rfl
    have bx : bytesOf x = [48] := by rw [hx]; rfl
    have bv : bytesOf v = [] := by rw [hv]; rfl
    have hsz : (s.extract 0 n).size ≤ s.size := by simp only [ByteArray.size_extract]; omega
    rw [of_f (s.extract 0 n) z y k (by omega) (by omega) (by omega), Option.bind_some, bz, bys, kinds_host, bytes_take]
    by_cases hc : n < s.size
    · rw [if_pos hc]
      have hsz2 : (s.extract (n + 1) s.size).size ≤ s.size := by simp only [ByteArray.size_extract]; omega
      have hof := of_f (s.extract (n + 1) s.size) x v k (by omega) (by omega) (by omega)
      rw [bx, bv, kinds_digit, bytes_extract] at hof
      cases allL kHost ((bytesOf s).take n)
      · rw [if_neg (by decide)]; rfl
      · rw [if_pos rfl, if_neg (by omega), w64 _ (by omega) (by omega)]
        have e : (((n : Int) + 1)).toNat = n + 1 := by omega
        by_cases h5 : (s.size : Int) - n ≤ 6
        · rw [if_pos h5, w64 _ (by omega) (by omega), if_pos (by omega), if_pos (by omega), e, hof, Option.bind_some, List.length_drop, bytesOf_length]
          have : decide (s.size - (n + 1) ≤ 5) = true := decide_eq_true (by omega)
          rw [this]
          simp
        · rw [if_neg h5, List.length_drop, bytesOf_length]
          have : decide (s.size - (n + 1) ≤ 5) = false := decide_eq_false (by omega)
          rw [this]
          simp
    · rw [if_neg hc, List.take_of_length_le (by rw [bytesOf_length]; omega)]
      cases allL kHost (bytesOf s)
      · rw [if_neg (by decide)]; rfl
      · rw [if_pos rfl, if_pos (by omega)]; rfl
def keyL (l : List Int) : Bool := decide (l.take 8 = [101, 100, 50, 53, 53, 49, 57, 58]) && decide (l.length ≤ 255) && allL kKey (l.drop 8)
theorem key_f (s : ByteArray) (hs : s.size ≤ 140737488351232) : ident_Key.f s = some (keyL (bytesOf s)) := by
  obtain ⟨z, hz⟩ : ∃ z : ByteArray, z = ⟨#[101, 100, 50, 53, 53, 49, 57, 58]⟩ := ⟨_, rfl⟩
  have sz : z.size = 8 := by rw [hz]; rfl
  have bz : bytesOf z = [101, 100, 50, 53, 53, 49, 57, 58] := by rw [hz]; rfl
  unfold ident_Key.f
  rw [if_pos hs, ← hz]
  have hp := prefix_f s z
  rw [sz, bz] at hp
  have hh : stringslite_HasPrefix.f s z = some (decide ((bytesOf s).take 8 = [101, 100, 50, 53, 53, 49, 57, 58])) := by
    unfold strings_HasPrefix.f at hp
    cases e : stringslite_HasPrefix.f s z with
    | none => rw [e] at hp; cases hp
    | some b => rw [e, Option.bind_some] at hp; exact hp
  unfold strings_CutPrefix.f stringslite_CutPrefix.f
  rw [hh, Option.bind_some]
  have hd : decide ((s.size : Int) ≤ 255) = decide (s.size ≤ 255) := dec_int s.size 255
  unfold keyL
  rw [bytesOf_length]
  by_cases hc : (bytesOf s).take 8 = [101, 100, 50, 53, 53, 49, 57, 58]
  · have h8 : 8 ≤ s.size := by
      have := congrArg List.length hc
      rw [List.length_take, bytesOf_length] at this
      simp at this
      omega
    rw [decide_eq_true hc, if_pos rfl, sz, if_pos (by omega), if_pos (by omega), Option.bind_some, Option.bind_some]
    have hx : (s.extract 8 s.size).size ≤ 140737488351232 := by simp only [ByteArray.size_extract]; omega
    have e := bytes_extract s 8
    change (if (s.extract 8 s.size).size ≤ 140737488351232 then some (true && decide ((s.size : Int) ≤ 255) && allL kKey (bytesOf (s.extract 8 s.size))) else none) = _
    rw [if_pos hx, e, hd]
  · rw [decide_eq_false hc, if_neg (by decide), Option.bind_some, Option.bind_some]
    change (if s.size ≤ 140737488351232 then some (false && decide ((s.size : Int) ≤ 255) && allL kKey (bytesOf s)) else none) = _
    rw [if_pos hs]
    rfl
theorem ref_key (s : ByteArray) (k : Nat) (hs : s.size ≤ 140737488351232) (hk : s.size * 20 + 20 ≤ k) : hustingsref10_Key.f k s = some (keyL (bytesOf s)) := by
  obtain ⟨z, hz⟩ : ∃ z : ByteArray, z = ⟨#[97, 65, 48]⟩ := ⟨_, rfl⟩
  obtain ⟨y, hy⟩ : ∃ y : ByteArray, y = ⟨#[95]⟩ := ⟨_, rfl⟩
  have sz : z.size = 3 := by rw [hz]; rfl
  have sy : y.size = 1 := by rw [hy]; rfl
  have bz : bytesOf z = [97, 65, 48] := by rw [hz]; rfl
  have bys : bytesOf y = [95] := by rw [hy]; rfl
  unfold hustingsref10_Key.f
  rw [← hz, ← hy]
  unfold keyL
  rw [bytesOf_length]
  by_cases hl : (s.size : Int) ≤ 255
  · rw [if_pos hl]
    have hd : decide (s.size ≤ 255) = true := decide_eq_true (by omega)
    rw [hd]
    by_cases h8 : (s.size : Int) > 8
    · have hx : (s.extract 8 s.size).size ≤ s.size := by simp only [ByteArray.size_extract]; omega
      have hof := of_f (s.extract 8 s.size) z y k (by omega) (by omega) (by omega)
      rw [bz, bys, kinds_key, bytes_extract] at hof
      rw [if_pos h8, if_pos (by decide), if_pos (by omega), hof, Option.bind_some]
      by_cases hc : (bytesOf s).take 8 = [101, 100, 50, 53, 53, 49, 57, 58]
      · have : (s.extract 0 8).toList = ([101, 100, 50, 53, 53, 49, 57, 58] : List UInt8) := by
          have h1 := (toList_bytes (s.extract 0 8) ⟨#[101, 100, 50, 53, 53, 49, 57, 58]⟩).mpr (by rw [bytes_take, hc]; rfl)
          rw [h1, Lib.toList_data]
        rw [if_pos this, decide_eq_true hc]
        rfl
      · have : ¬ (s.extract 0 8).toList = ([101, 100, 50, 53, 53, 49, 57, 58] : List UInt8) := by
          intro h1
          apply hc
          have h2 := (toList_bytes (s.extract 0 8) ⟨#[101, 100, 50, 53, 53, 49, 57, 58]⟩).mp (by rw [h1, Lib.toList_data])
          rw [← bytes_take, h2]
          rfl
        rw [if_neg this, decide_eq_false hc]
        rfl
    · rw [if_neg h8]
      have : (bytesOf s).drop 8 = [] := List.drop_eq_nil_of_le (by rw [bytesOf_length]; omega)
      rw [this]
      simp [allL]
  · rw [if_neg hl]
    have hd : decide (s.size ≤ 255) = false := decide_eq_false (by omega)
    rw [hd]
    simp
end
end Go.Proofs.Ytboelmakccaenaa.P
