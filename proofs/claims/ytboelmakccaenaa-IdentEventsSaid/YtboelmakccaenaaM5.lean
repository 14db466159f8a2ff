/- Letters and bytes: what is encoded is decoded, and what is decoded was encoded. -/
import Derived.Test.YtboelmakccaenaaM4
import Derived.Test.YtboelmakccaenaaH29
namespace Go.Proofs.Ytboelmakccaenaa.P
set_option linter.unusedVariables false
open Go.RowKit Go.Proofs.YtboelmakccaenaaW.PrintWords Go.Proofs.YtboelmakccaenaaW.PrintLast Go.Proofs.YtboelmakccaenaaW.PrintMore
theorem bytes_str {l : List Int} (h : Bs l) : bytesOf (strOfNums l) = l := by
  unfold bytesOf
  rw [strOfNums_data, List.map_map]
  conv => rhs; rw [← List.map_id l]
  apply List.map_congr_left
  intro x hx
  have := h x hx
  simp
  omega
theorem str_bytes (s : ByteArray) : strOfNums (bytesOf s) = s := by
  have : (strOfNums (bytesOf s)).data = s.data := by
    apply Array.ext'
    rw [strOfNums_data]
    unfold bytesOf
    rw [List.map_map]
    conv => rhs; rw [← List.map_id s.data.toList]
    apply List.map_congr_left
    intro x hx
    simp
  cases s
  simp only [strOfNums] at this ⊢
  rw [ByteArray.mk.injEq]
  exact this
theorem bs_bytes (s : ByteArray) : Bs (bytesOf s) := by
  intro x hx
  unfold bytesOf at hx
  simp at hx
  obtain ⟨a, _, rfl⟩ := hx
  have := a.toNat_lt
  omega
theorem val_ltr' (u : Bool) (n : Int) (h0 : 0 ≤ n) (h1 : n < 64) : valOf u (ltr u n) = some n := by
  have := val_ltr u ⟨n.toNat, by omega⟩
  simp at this
  rwa [show max n 0 = n from by omega] at this
theorem ltr_byte_all : ∀ (u : Bool) (n : Fin 64), 0 ≤ ltr u (n.val : Int) ∧ ltr u (n.val : Int) ≤ 255 := by decide +kernel
theorem ltr_byte (u : Bool) (n : Int) (h0 : 0 ≤ n) (h1 : n < 64) : 0 ≤ ltr u n ∧ ltr u n ≤ 255 := by
  have := ltr_byte_all u ⟨n.toNat, by omega⟩
  simp only at this
  rwa [show ((n.toNat : Nat) : Int) = n from by omega] at this
/-- The numbers of bytes are six bits each. -/
theorem enc6_range : ∀ (l : List Int), Bs l → ∀ x ∈ enc6 l, 0 ≤ x ∧ x < 64
  | [], _, x, hx => by simp [enc6] at hx
  | [a], h, x, hx => by have := h.head; simp [enc6] at hx; omega
  | [a, b], h, x, hx => by have := h.head; have := h.tail.head; simp [enc6] at hx; omega
  | a :: b :: c :: t, h, x, hx => by
    have h1 := h.head; have h2 := h.tail.head; have h3 := h.tail.tail.head
    simp [enc6] at hx
    rcases hx with hx | hx | hx | hx | hx
    · omega
    · omega
    · omega
    · omega
    · exact enc6_range t h.tail.tail.tail x hx
theorem bs_enc (l : List Int) (u : Bool) (h : Bs l) : Bs ((enc6 l).map (ltr u)) := by
  intro x hx
  simp at hx
  obtain ⟨n, hn, rfl⟩ := hx
  have := enc6_range l h n hn
  exact ltr_byte u n this.1 this.2
theorem bytes_enc (l : List Int) (u : Bool) (h : Bs l) : bytesOf (encS l u) = (enc6 l).map (ltr u) := bytes_str (bs_enc l u h)
theorem step0 (u : Bool) (v : Int) (h0 : 0 ≤ v) (h1 : v < 64) (t out : List Int) (h b : Int) (hb : ¬ 2 ≤ b) : decGo u (ltr u v :: t) out h b = decGo u t out (h * 64 + v) (b + 6) := by
  simp only [decGo, val_ltr' u v h0 h1, if_neg hb]
theorem step1 (u : Bool) (v : Int) (h0 : 0 ≤ v) (h1 : v < 64) (t out : List Int) (h b : Int) (hb : 2 ≤ b) : decGo u (ltr u v :: t) out h b = decGo u t (out ++ [(h * 64 + v) / 2 ^ (b - 2).toNat]) ((h * 64 + v) % 2 ^ (b - 2).toNat) (b - 2) := by
  simp only [decGo, val_ltr' u v h0 h1, if_pos hb]
theorem dec_enc (u : Bool) : ∀ (l : List Int), Bs l → ∀ out, decGo u ((enc6 l).map (ltr u)) out 0 0 = some (out ++ l)
  | [], _, out => by simp [enc6, decGo]
  | [a], h, out => by
    have := h.head
    simp only [enc6, List.map_cons, List.map_nil]
    rw [step0 u _ (by omega) (by omega) _ _ _ _ (by omega), step1 u _ (by omega) (by omega) _ _ _ _ (by omega)]
    have e : ((0 : Int) + 6 - 2).toNat = 4 := rfl
    rw [e]
    simp only [decGo]
    rw [if_neg (by omega)]
    congr 3
    omega
  | [a, b], h, out => by
    have := h.head
    have := h.tail.head
    simp only [enc6, List.map_cons, List.map_nil]
    rw [step0 u _ (by omega) (by omega) _ _ _ _ (by omega), step1 u _ (by omega) (by omega) _ _ _ _ (by omega), step1 u _ (by omega) (by omega) _ _ _ _ (by omega)]
    have e : ((0 : Int) + 6 - 2).toNat = 4 := rfl
    have e' : ((0 : Int) + 6 - 2 - 2).toNat = 2 := rfl
    rw [e, e']
    simp only [decGo]
    rw [if_neg (by omega), List.append_assoc]
    congr 2
    simp
    omega
  | a :: b :: c :: t, h, out => by
    have := h.head
    have := h.tail.head
    have := h.tail.tail.head
    simp only [enc6, List.map_cons]
    rw [step0 u _ (by omega) (by omega) _ _ _ _ (by omega), step1 u _ (by omega) (by omega) _ _ _ _ (by omega), step1 u _ (by omega) (by omega) _ _ _ _ (by omega), step1 u _ (by omega) (by omega) _ _ _ _ (by omega)]
    have e : ((0 : Int) + 6 - 2).toNat = 4 := rfl
    have e' : ((0 : Int) + 6 - 2 - 2).toNat = 2 := rfl
    have e'' : ((0 : Int) + 6 - 2 - 2 - 2).toNat = 0 := rfl
    have e3 : ((0 : Int) + 6 - 2 - 2 - 2) = 0 := rfl
    rw [e, e', e'', e3]
    have hz : ((((0 * 64 + a / 4) * 64 + (a % 4 * 16 + b / 16)) % 2 ^ 4 * 64 + (b % 16 * 4 + c / 64)) % 2 ^ 2 * 64 + c % 64) % 2 ^ 0 = (0 : Int) := by omega
    rw [hz, dec_enc u t h.tail.tail.tail]
    simp only [List.append_assoc]
    congr 2
    simp
    omega
theorem decL_enc (u : Bool) (l : List Int) (h : Bs l) : decL u (bytesOf (encS l u)) = some l := by
  rw [bytes_enc l u h]
  exact dec_enc u l h []
theorem dec_none {u : Bool} {c : Int} (h : valOf u c = none) (t out : List Int) (g b : Int) : decGo u (c :: t) out g b = none := by simp [decGo, h]
/-- What is decoded was encoded. -/
theorem enc_dec (u : Bool) : ∀ (l : List Int) (out y : List Int), decGo u l out 0 0 = some y → ∃ z, y = out ++ z ∧ Bs z ∧ (enc6 z).map (ltr u) = l
  | [], out, y, h => by
    simp [decGo] at h
    exact ⟨[], by simp [h], fun x hx => by simp at hx, rfl⟩
  | [c1], out, y, h => by
    rcases h1 : valOf u c1 with _ | v1
    · rw [dec_none h1] at h; cases h
    · simp only [decGo, h1] at h
      simp at h
  | [c1, c2], out, y, h => by
    rcases h1 : valOf u c1 with _ | v1
    · rw [dec_none h1] at h; cases h
    · rcases h2 : valOf u c2 with _ | v2
      · simp [decGo, h1, h2] at h
      · have r1 := valOf_range h1
        have r2 := valOf_range h2
        have e1 := ltr_val h1
        have e2 := ltr_val h2
        rw [← e1, ← e2, step0 u _ (by omega) (by omega) _ _ _ _ (by omega), step1 u _ (by omega) (by omega) _ _ _ _ (by omega)] at h
        rw [show ((0 : Int) + 6 - 2).toNat = 4 from rfl] at h
        simp only [decGo] at h
        split at h
        · cases h
        · injection h with h
          refine ⟨[((0 * 64 + v1) * 64 + v2) / 2 ^ 4], h.symm, ?_, ?_⟩
          · intro x hx; simp at hx; omega
          · simp only [enc6, List.map_cons, List.map_nil]
            rw [← e1, ← e2]
            simp only [List.cons.injEq, and_true]
            exact ⟨congrArg (ltr u) (by omega), congrArg (ltr u) (by omega)⟩
  | [c1, c2, c3], out, y, h => by
    rcases h1 : valOf u c1 with _ | v1
    · rw [dec_none h1] at h; cases h
    · rcases h2 : valOf u c2 with _ | v2
      · simp [decGo, h1, h2] at h
      · rcases h3 : valOf u c3 with _ | v3
        · simp [decGo, h1, h2, h3] at h
        · have r1 := valOf_range h1
          have r2 := valOf_range h2
          have r3 := valOf_range h3
          have e1 := ltr_val h1
          have e2 := ltr_val h2
          have e3 := ltr_val h3
          rw [← e1, ← e2, ← e3, step0 u _ (by omega) (by omega) _ _ _ _ (by omega), step1 u _ (by omega) (by omega) _ _ _ _ (by omega), step1 u _ (by omega) (by omega) _ _ _ _ (by omega)] at h
          rw [show ((0 : Int) + 6 - 2).toNat = 4 from rfl, show ((0 : Int) + 6 - 2 - 2).toNat = 2 from rfl] at h
          simp only [decGo] at h
          split at h
          · cases h
          · injection h with h
            refine ⟨[((0 * 64 + v1) * 64 + v2) / 2 ^ 4, (((0 * 64 + v1) * 64 + v2) % 2 ^ 4 * 64 + v3) / 2 ^ 2], by rw [← h]; simp, ?_, ?_⟩
            · intro x hx; simp at hx; omega
            · simp only [enc6, List.map_cons, List.map_nil]
              rw [← e1, ← e2, ← e3]
              simp only [List.cons.injEq, and_true]
              exact ⟨congrArg (ltr u) (by omega), congrArg (ltr u) (by omega), congrArg (ltr u) (by omega)⟩
  | c1 :: c2 :: c3 :: c4 :: t, out, y, h => by
    rcases h1 : valOf u c1 with _ | v1
    · rw [dec_none h1] at h; cases h
    · rcases h2 : valOf u c2 with _ | v2
      · simp [decGo, h1, h2] at h
      · rcases h3 : valOf u c3 with _ | v3
        · simp [decGo, h1, h2, h3] at h
        · rcases h4 : valOf u c4 with _ | v4
          · simp [decGo, h1, h2, h3, h4] at h
          · have r1 := valOf_range h1
            have r2 := valOf_range h2
            have r3 := valOf_range h3
            have r4 := valOf_range h4
            have e1 := ltr_val h1
            have e2 := ltr_val h2
            have e3 := ltr_val h3
            have e4 := ltr_val h4
            rw [← e1, ← e2, ← e3, ← e4, step0 u _ (by omega) (by omega) _ _ _ _ (by omega), step1 u _ (by omega) (by omega) _ _ _ _ (by omega), step1 u _ (by omega) (by omega) _ _ _ _ (by omega), step1 u _ (by omega) (by omega) _ _ _ _ (by omega)] at h
            rw [show ((0 : Int) + 6 - 2).toNat = 4 from rfl, show ((0 : Int) + 6 - 2 - 2).toNat = 2 from rfl, show ((0 : Int) + 6 - 2 - 2 - 2).toNat = 0 from rfl, show ((0 : Int) + 6 - 2 - 2 - 2) = 0 from rfl] at h
            have hz : ((((0 * 64 + v1) * 64 + v2) % 2 ^ 4 * 64 + v3) % 2 ^ 2 * 64 + v4) % 2 ^ 0 = (0 : Int) := by omega
            rw [hz] at h
            obtain ⟨z, hy, hz1, hz2⟩ := enc_dec u t _ y h
            refine ⟨((0 * 64 + v1) * 64 + v2) / 2 ^ 4 :: (((0 * 64 + v1) * 64 + v2) % 2 ^ 4 * 64 + v3) / 2 ^ 2 :: ((((0 * 64 + v1) * 64 + v2) % 2 ^ 4 * 64 + v3) % 2 ^ 2 * 64 + v4) / 2 ^ 0 :: z, by rw [hy]; simp, ?_, ?_⟩
            · intro x hx
              simp only [List.mem_cons] at hx
              rcases hx with hx | hx | hx | hx
              · omega
              · omega
              · omega
              · exact hz1 x hx
            · simp only [enc6, List.map_cons]
              rw [hz2, ← e1, ← e2, ← e3, ← e4]
              simp only [List.cons.injEq, and_true]
              exact ⟨congrArg (ltr u) (by omega), congrArg (ltr u) (by omega), congrArg (ltr u) (by omega), congrArg (ltr u) (by omega)⟩
theorem decL_some {u : Bool} {s : ByteArray} {y : List Int} (h : decL u (bytesOf s) = some y) : Bs y ∧ encS y u = s := by
  obtain ⟨z, hy, hz, he⟩ := enc_dec u _ _ _ h
  rw [List.nil_append] at hy
  subst hy
  refine ⟨hz, ?_⟩
  unfold encS
  rw [he, str_bytes]
theorem enc6_append : ∀ (x y : List Int), x.length % 3 = 0 → enc6 (x ++ y) = enc6 x ++ enc6 y
  | [], y, _ => rfl
  | [a], y, h => by simp at h
  | [a, b], y, h => by simp at h
  | a :: b :: c :: t, y, h => by
    simp only [List.cons_append, enc6]
    rw [enc6_append t y (by simp at h; omega)]
theorem enc6_length : ∀ (l : List Int), (enc6 l).length = l.length / 3 * 4 + (l.length % 3 * 8 + 5) / 6
  | [] => rfl
  | [a] => by simp [enc6]
  | [a, b] => by simp [enc6]
  | a :: b :: c :: t => by
    simp only [enc6, List.length_cons]
    rw [enc6_length t]
    omega
theorem encS_size (l : List Int) (u : Bool) : (encS l u).size = l.length / 3 * 4 + (l.length % 3 * 8 + 5) / 6 := by
  unfold encS
  rw [strOfNums_size, List.length_map, enc6_length]
theorem dec_f (u : Bool) (s : ByteArray) (hs : s.size ≤ 140737488351232) : letters_Decode.f s u = some ((decL u (bytesOf s)).getD [], (decL u (bytesOf s)).isSome) := by
  unfold letters_Decode.f; rw [if_pos hs]
end Go.Proofs.Ytboelmakccaenaa.P
