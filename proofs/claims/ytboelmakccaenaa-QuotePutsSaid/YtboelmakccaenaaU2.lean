/- Texts M9, M10, M11 of this session, in one (wip/tools/merge.py). -/
import Derived.Test.YtboelmakccaenaaU1
import Derived.Test.YtboelmakccaenaaG66
import Derived.Lib.Strings
import Derived.Test.YtboelmakccaenaaG23
import Derived.Test.YtboelmakccaenaaG65
namespace Go.Proofs.Ytboelmakccaenaa.P
section
set_option linter.unusedVariables false
open Go.RowKit Go.Proofs.YtboelmakccaenaaW.PrintWords Go.Proofs.YtboelmakccaenaaW.PrintLast Go.Proofs.YtboelmakccaenaaW.PrintMore
def isC (x : Int) : Prop := 128 ≤ x ∧ x < 192
instance (x : Int) : Decidable (isC x) := by unfold isC; infer_instance
/-- A rune's number. -/
def validR (v : Int) : Prop := 0 ≤ v ∧ v ≤ 1114111 ∧ ¬ (55296 ≤ v ∧ v ≤ 57343)
instance (x : Int) : Decidable (validR x) := by unfold validR; infer_instance
/-- The rune that bytes begin with, and how many it has. -/
def rune : List Int → Option (Int × Nat)
  | [] => none
  | c :: t =>
    if c < 128 then some (c, 1)
    else if 192 ≤ c ∧ c < 224 then
      match t with
      | a :: _ => if isC a ∧ 128 ≤ c % 32 * 64 + a % 64 then some (c % 32 * 64 + a % 64, 2) else none
      | _ => none
    else if 224 ≤ c ∧ c < 240 then
      match t with
      | a :: b :: _ => if isC a ∧ isC b ∧ 2048 ≤ c % 16 * 4096 + a % 64 * 64 + b % 64 ∧ validR (c % 16 * 4096 + a % 64 * 64 + b % 64) then some (c % 16 * 4096 + a % 64 * 64 + b % 64, 3) else none
      | _ => none
    else if 240 ≤ c ∧ c < 248 then
      match t with
      | a :: b :: d :: _ => if isC a ∧ isC b ∧ isC d ∧ 65536 ≤ c % 8 * 262144 + a % 64 * 4096 + b % 64 * 64 + d % 64 ∧ validR (c % 8 * 262144 + a % 64 * 4096 + b % 64 * 64 + d % 64) then some (c % 8 * 262144 + a % 64 * 4096 + b % 64 * 64 + d % 64, 4) else none
      | _ => none
    else none
def encR (v : Int) : List Int :=
  if v < 128 then [v] else if v < 2048 then [192 + v / 64, 128 + v % 64] else if v < 65536 then [224 + v / 4096, 128 + v / 64 % 64, 128 + v % 64]
  else [240 + v / 262144, 128 + v / 4096 % 64, 128 + v / 64 % 64, 128 + v % 64]
theorem encR_bs (v : Int) (h : validR v) : Bs (encR v) := by
  unfold validR at h
  intro x hx
  unfold encR at hx
  split at hx
  · simp at hx; omega
  · split at hx
    · simp at hx; omega
    · split at hx
      · simp at hx; omega
      · simp at hx; omega
theorem encR_len (v : Int) : 1 ≤ (encR v).length ∧ (encR v).length ≤ 4 := by
  unfold encR
  split
  · simp
  · split
    · simp
    · split <;> simp
theorem rune_enc (v : Int) (h : validR v) (t : List Int) : rune (encR v ++ t) = some (v, (encR v).length) := by
  have hv := h
  unfold validR at h
  unfold encR
  split
  · simp only [List.cons_append, List.nil_append, rune, List.length_cons, List.length_nil]
    rw [if_pos (by omega)]
  · split
    · simp only [List.cons_append, List.nil_append, rune, List.length_cons, List.length_nil]
      rw [if_neg (by omega), if_pos (by omega)]
      have e : (192 + v / 64) % 32 * 64 + (128 + v % 64) % 64 = v := by omega
      rw [e, if_pos ⟨by unfold isC; omega, by omega⟩]
    · split
      · simp only [List.cons_append, List.nil_append, rune, List.length_cons, List.length_nil]
        rw [if_neg (by omega), if_neg (by omega), if_pos (by omega)]
        have e : (224 + v / 4096) % 16 * 4096 + (128 + v / 64 % 64) % 64 * 64 + (128 + v % 64) % 64 = v := by omega
        rw [e, if_pos ⟨by unfold isC; omega, by unfold isC; omega, by omega, hv⟩]
      · simp only [List.cons_append, List.nil_append, rune, List.length_cons, List.length_nil]
        rw [if_neg (by omega), if_neg (by omega), if_neg (by omega), if_pos (by omega)]
        have e : (240 + v / 262144) % 8 * 262144 + (128 + v / 4096 % 64) % 64 * 4096 + (128 + v / 64 % 64) % 64 * 64 + (128 + v % 64) % 64 = v := by omega
        rw [e, if_pos ⟨by unfold isC; omega, by unfold isC; omega, by unfold isC; omega, by omega, hv⟩]
theorem rune_some : ∀ {l : List Int} {v : Int} {n : Nat}, Bs l → rune l = some (v, n) → validR v ∧ l = encR v ++ l.drop n ∧ n = (encR v).length
  | [], v, n, _, h => by simp [rune] at h
  | c :: t, v, n, hB, h => by
    have hc := hB.head
    simp only [rune] at h
    split at h
    · injection h with h
      injection h with h1 h2
      subst h1; subst h2
      refine ⟨by unfold validR; omega, ?_, ?_⟩ <;> unfold encR <;> rw [if_pos (by omega)] <;> simp
    · split at h
      · split at h
        · rename_i a t'
          have ha := hB.tail.head
          split at h
          · rename_i hh
            obtain ⟨g1, g2⟩ := hh
            unfold isC at g1
            injection h with h
            injection h with h1 h2
            subst h2
            refine ⟨by unfold validR; omega, ?_, ?_⟩
            · unfold encR
              rw [if_neg (by omega), if_pos (by omega)]
              simp
              omega
            · unfold encR
              rw [if_neg (by omega), if_pos (by omega)]
              rfl
          · cases h
        · cases h
      · split at h
        · split at h
          · rename_i a b t'
            have ha := hB.tail.head
            have hb := hB.tail.tail.head
            split at h
            · rename_i hh
              obtain ⟨g1, g2, g3, g4⟩ := hh
              unfold isC at g1 g2
              injection h with h
              injection h with h1 h2
              subst h2
              rw [h1] at g3 g4
              refine ⟨g4, ?_, ?_⟩
              · unfold encR
                rw [if_neg (by omega), if_neg (by omega), if_pos (by omega)]
                simp
                omega
              · unfold encR
                rw [if_neg (by omega), if_neg (by omega), if_pos (by omega)]
                rfl
            · cases h
          · cases h
        · split at h
          · split at h
            · rename_i a b d t'
              have ha := hB.tail.head
              have hb := hB.tail.tail.head
              have hd := hB.tail.tail.tail.head
              split at h
              · rename_i hh
                obtain ⟨g1, g2, g3, g4, g5⟩ := hh
                unfold isC at g1 g2 g3
                injection h with h
                injection h with h1 h2
                subst h2
                rw [h1] at g4 g5
                have g6 := g5
                unfold validR at g6
                refine ⟨g5, ?_, ?_⟩
                · unfold encR
                  rw [if_neg (by omega), if_neg (by omega), if_neg (by omega)]
                  simp
                  omega
                · unfold encR
                  rw [if_neg (by omega), if_neg (by omega), if_neg (by omega)]
                  rfl
              · cases h
            · cases h
          · cases h
theorem rune_len {l : List Int} {v : Int} {n : Nat} (hB : Bs l) (h : rune l = some (v, n)) : 1 ≤ n ∧ n ≤ l.length := by
  obtain ⟨_, h2, h3⟩ := rune_some hB h
  have := encR_len v
  have hl := congrArg List.length h2
  simp at hl
  omega
theorem get_at2 (s : ByteArray) (pos k : Nat) (c : Int) (t : List Int) (h : (bytesOf s).drop (pos + k) = c :: t) : pos + k < s.size ∧ ((s.get! (pos + k)).toNat : Int) = c ∧ (bytesOf s).drop (pos + k + 1) = t := by
  obtain ⟨hlt, hr, hd⟩ := drop_cons h
  rw [bytesOf_length] at hlt
  refine ⟨hlt, ?_, hd⟩
  rw [rd_bytesOf, bt_get s _ hlt] at hr
  rw [← hr]
  simp [ByteArray.get!, getElem!_pos, hlt]
  rfl
def runeR (o : Option (Int × Nat)) : Nat × Nat := match o with | some (v, n) => (v.toNat, n) | none => (65533, 1)
end
section
set_option linter.unusedVariables false
open Go.RowKit Go.Proofs.YtboelmakccaenaaW.PrintWords Go.Proofs.YtboelmakccaenaaW.PrintLast Go.Proofs.YtboelmakccaenaaW.PrintMore
/-- The decoder over four bytes, of which m are there. -/
def decN (m x0 x1 x2 x3 : Nat) : Nat × Nat :=
  if x0 < 128 then (x0, 1)
  else if x0 / 32 = 6 ∧ 1 < m ∧ x1 / 64 = 2 then (if 128 ≤ (x0 % 32) * 64 + x1 % 64 then ((x0 % 32) * 64 + x1 % 64, 2) else (65533, 1))
  else if x0 / 16 = 14 ∧ (1 < m ∧ x1 / 64 = 2) ∧ (2 < m ∧ x2 / 64 = 2) then
    (if 2048 ≤ (x0 % 16) * 4096 + (x1 % 64) * 64 + x2 % 64 ∧ validR (((x0 % 16) * 4096 + (x1 % 64) * 64 + x2 % 64 : Nat) : Int) then ((x0 % 16) * 4096 + (x1 % 64) * 64 + x2 % 64, 3) else (65533, 1))
  else if x0 / 8 = 30 ∧ (1 < m ∧ x1 / 64 = 2) ∧ (2 < m ∧ x2 / 64 = 2) ∧ (3 < m ∧ x3 / 64 = 2) then
    (if 65536 ≤ (x0 % 8) * 262144 + (x1 % 64) * 4096 + (x2 % 64) * 64 + x3 % 64 ∧ validR (((x0 % 8) * 262144 + (x1 % 64) * 4096 + (x2 % 64) * 64 + x3 % 64 : Nat) : Int) then ((x0 % 8) * 262144 + (x1 % 64) * 4096 + (x2 % 64) * 64 + x3 % 64, 4) else (65533, 1))
  else (65533, 1)
theorem valid_iff (n : Nat) : (Utf8.valid (n : Int) = true) ↔ validR (n : Int) := by
  unfold Utf8.valid validR
  simp
  omega
theorem decode_decN (s : ByteArray) (pos : Nat) (hp : pos < s.size) : Utf8.decode s pos = decN (s.size - pos) (s.get! (pos + 0)).toNat (s.get! (pos + 1)).toNat (s.get! (pos + 2)).toNat (s.get! (pos + 3)).toNat := by
  have h1 : (pos + 1 < s.size) = (1 < s.size - pos) := by apply propext; omega
  have h2 : (pos + 2 < s.size) = (2 < s.size - pos) := by apply propext; omega
  have h3 : (pos + 3 < s.size) = (3 < s.size - pos) := by apply propext; omega
  unfold Utf8.decode decN
  simp only [h1, h2, h3, Bool.and_eq_true, decide_eq_true_eq, beq_iff_eq, ge_iff_le, valid_iff, and_assoc, Utf8.runeError]
theorem rune_cons (c : Int) (t : List Int) (x0 : Nat) (h : (x0 : Int) = c) (m x1 x2 x3 : Nat) (hx : x0 < 256)
    (h1 : 1 < m → ∃ a t1, t = a :: t1 ∧ (x1 : Int) = a ∧ x1 < 256 ∧ (2 < m → ∃ b t2, t1 = b :: t2 ∧ (x2 : Int) = b ∧ x2 < 256 ∧ (3 < m → ∃ d t3, t2 = d :: t3 ∧ (x3 : Int) = d ∧ x3 < 256) ∧ (¬ 3 < m → t2 = [])) ∧ (¬ 2 < m → t1 = []))
    (h1' : ¬ 1 < m → t = []) : decN m x0 x1 x2 x3 = runeR (rune (c :: t)) := by
  subst h
  unfold decN
  simp only [rune]
  by_cases k0 : x0 < 128
  · rw [if_pos k0, if_pos (by omega)]
    simp [runeR]
  · rw [if_neg k0, if_neg (show ¬ (x0 : Int) < 128 by omega)]
    by_cases k1 : x0 / 32 = 6
    · rw [if_pos (show 192 ≤ (x0 : Int) ∧ (x0 : Int) < 224 by omega)]
      by_cases m1 : 1 < m
      · obtain ⟨a, t1, rfl, rfl, hx1, _⟩ := h1 m1
        simp only
        by_cases g : x1 / 64 = 2
        · rw [if_pos ⟨k1, m1, g⟩]
          by_cases g2 : 128 ≤ (x0 % 32) * 64 + x1 % 64
          · rw [if_pos g2, if_pos ⟨by unfold isC; omega, by omega⟩]
            simp only [runeR]
            congr 1
          · rw [if_neg g2, if_neg (fun hh => by omega)]
            rfl
        · rw [if_neg (fun hh => g hh.2.2), if_neg (fun hh => by omega), if_neg (fun hh => by omega), if_neg (fun hh => by unfold isC at hh; omega)]
          rfl
      · rw [h1' m1]
        rw [if_neg (fun hh => m1 hh.2.1), if_neg (fun hh => by omega), if_neg (fun hh => by omega)]
        rfl
    · rw [if_neg (fun hh => k1 hh.1), if_neg (show ¬ (192 ≤ (x0 : Int) ∧ (x0 : Int) < 224) by omega)]
      by_cases k2 : x0 / 16 = 14
      · rw [if_pos (show 224 ≤ (x0 : Int) ∧ (x0 : Int) < 240 by omega)]
        by_cases m1 : 1 < m
        · obtain ⟨a, t1, rfl, rfl, hx1, h2, h2'⟩ := h1 m1
          by_cases m2 : 2 < m
          · obtain ⟨b, t2, rfl, rfl, hx2, _⟩ := h2 m2
            simp only
            by_cases g : x1 / 64 = 2 ∧ x2 / 64 = 2
            · rw [if_pos ⟨k2, ⟨m1, g.1⟩, m2, g.2⟩]
              have e : (((x0 % 16) * 4096 + (x1 % 64) * 64 + x2 % 64 : Nat) : Int) = (x0 : Int) % 16 * 4096 + (x1 : Int) % 64 * 64 + (x2 : Int) % 64 := by omega
              rw [e]
              by_cases g2 : 2048 ≤ (x0 % 16) * 4096 + (x1 % 64) * 64 + x2 % 64 ∧ validR ((x0 : Int) % 16 * 4096 + (x1 : Int) % 64 * 64 + (x2 : Int) % 64)
              · rw [if_pos g2, if_pos ⟨by unfold isC; omega, by unfold isC; omega, by omega, g2.2⟩]
                simp only [runeR]
                congr 1
              · rw [if_neg g2, if_neg (fun hh => g2 ⟨by omega, hh.2.2.2⟩)]
                rfl
            · rw [if_neg (fun hh => g ⟨hh.2.1.2, hh.2.2.2⟩), if_neg (fun hh => by omega), if_neg (fun hh => by unfold isC at hh; omega)]
              rfl
          · rw [h2' m2]
            rw [if_neg (fun hh => m2 hh.2.2.1), if_neg (fun hh => by omega)]
            rfl
        · rw [h1' m1]
          rw [if_neg (fun hh => m1 hh.2.1.1), if_neg (fun hh => by omega)]
          rfl
      · rw [if_neg (fun hh => k2 hh.1), if_neg (show ¬ (224 ≤ (x0 : Int) ∧ (x0 : Int) < 240) by omega)]
        by_cases k3 : x0 / 8 = 30
        · rw [if_pos (show 240 ≤ (x0 : Int) ∧ (x0 : Int) < 248 by omega)]
          by_cases m1 : 1 < m
          · obtain ⟨a, t1, rfl, rfl, hx1, h2, h2'⟩ := h1 m1
            by_cases m2 : 2 < m
            · obtain ⟨b, t2, rfl, rfl, hx2, h3, h3'⟩ := h2 m2
              by_cases m3 : 3 < m
              · obtain ⟨d, t3, rfl, rfl, hx3⟩ := h3 m3
                simp only
                by_cases g : x1 / 64 = 2 ∧ x2 / 64 = 2 ∧ x3 / 64 = 2
                · rw [if_pos ⟨k3, ⟨m1, g.1⟩, ⟨m2, g.2.1⟩, m3, g.2.2⟩]
                  have e : (((x0 % 8) * 262144 + (x1 % 64) * 4096 + (x2 % 64) * 64 + x3 % 64 : Nat) : Int) = (x0 : Int) % 8 * 262144 + (x1 : Int) % 64 * 4096 + (x2 : Int) % 64 * 64 + (x3 : Int) % 64 := by omega
                  rw [e]
                  by_cases g2 : 65536 ≤ (x0 % 8) * 262144 + (x1 % 64) * 4096 + (x2 % 64) * 64 + x3 % 64 ∧ validR ((x0 : Int) % 8 * 262144 + (x1 : Int) % 64 * 4096 + (x2 : Int) % 64 * 64 + (x3 : Int) % 64)
                  · rw [if_pos g2, if_pos ⟨by unfold isC; omega, by unfold isC; omega, by unfold isC; omega, by omega, g2.2⟩]
                    simp only [runeR]
                    congr 1
                  · rw [if_neg g2, if_neg (fun hh => g2 ⟨by omega, hh.2.2.2.2⟩)]
                    rfl
                · rw [if_neg (fun hh => g ⟨hh.2.1.2, hh.2.2.1.2, hh.2.2.2.2⟩), if_neg (fun hh => by unfold isC at hh; omega)]
                  rfl
              · rw [h3' m3]
                rw [if_neg (fun hh => m3 hh.2.2.2.1)]
                rfl
            · rw [h2' m2]
              rw [if_neg (fun hh => m2 hh.2.2.1.1)]
              rfl
          · rw [h1' m1]
            rw [if_neg (fun hh => m1 hh.2.1.1)]
            rfl
        · rw [if_neg (fun hh => k3 hh.1), if_neg (show ¬ (240 ≤ (x0 : Int) ∧ (x0 : Int) < 248) by omega)]
          rfl
theorem drop_shape (s : ByteArray) (p : Nat) : (p < s.size ∧ ∃ t, (bytesOf s).drop p = ((s.get! p).toNat : Int) :: t ∧ (bytesOf s).drop (p + 1) = t) ∨ (¬ p < s.size ∧ (bytesOf s).drop p = []) := by
  rcases h : (bytesOf s).drop p with _ | ⟨c, t⟩
  · right
    have := drop_nil h
    rw [bytesOf_length] at this
    exact ⟨by omega, rfl⟩
  · left
    obtain ⟨h1, h2, h3⟩ := get_at2 s p 0 c t h
    rw [Nat.add_zero] at h1 h2
    exact ⟨h1, t, by rw [h2], h3⟩
theorem decode_rune (s : ByteArray) (pos : Nat) (hp : pos < s.size) : Utf8.decode s pos = runeR (rune ((bytesOf s).drop pos)) := by
  rw [decode_decN s pos hp]
  have lt : ∀ k, (s.get! k).toNat < 256 := fun k => (s.get! k).toNat_lt
  rcases drop_shape s pos with ⟨_, t, e0, e0'⟩ | ⟨hn, _⟩
  · rw [e0]
    refine rune_cons _ t _ rfl _ _ _ _ (lt _) (fun m1 => ?_) (fun m1 => ?_)
    · rcases drop_shape s (pos + 1) with ⟨_, t1, e1, e1'⟩ | ⟨hn, _⟩
      · refine ⟨_, t1, by rw [← e0', e1], rfl, lt _, fun m2 => ?_, fun m2 => ?_⟩
        · rcases drop_shape s (pos + 2) with ⟨_, t2, e2, e2'⟩ | ⟨hn, _⟩
          · refine ⟨_, t2, by rw [← e1', e2], rfl, lt _, fun m3 => ?_, fun m3 => ?_⟩
            · rcases drop_shape s (pos + 3) with ⟨_, t3, e3, e3'⟩ | ⟨hn, _⟩
              · exact ⟨_, t3, by rw [← e2', e3], rfl, lt _⟩
              · omega
            · rw [← e2']; exact List.drop_eq_nil_of_le (by rw [bytesOf_length]; omega)
          · omega
        · rw [← e1']; exact List.drop_eq_nil_of_le (by rw [bytesOf_length]; omega)
      · omega
    · rw [← e0']; exact List.drop_eq_nil_of_le (by rw [bytesOf_length]; omega)
  · omega
/-- What the document's Rune answers. -/
def runeA (o : Option (Int × Nat)) : Int × Int := match o with | some (v, n) => (v, n) | none => (0, 0)
theorem bt_drop (s : ByteArray) (k : Nat) (c : Int) (t : List Int) (h : (bytesOf s).drop k = c :: t) : k < s.size ∧ bt s k = c ∧ (bytesOf s).drop (k + 1) = t := by
  obtain ⟨hlt, hr, hd⟩ := drop_cons h
  rw [bytesOf_length] at hlt
  rw [rd_bytesOf] at hr
  exact ⟨hlt, hr, hd⟩
theorem w64 (x : Int) (h0 : -9223372036854775808 ≤ x) (h1 : x ≤ 9223372036854775807) : wrap64 x = x := by unfold wrap64; omega
/-- A round of the document's loop over the bytes behind the first. -/
theorem rr_round (s : ByteArray) (k : Nat) (x least n i : Int) (hi : 1 ≤ i) (hin : i < n) (hn : n ≤ (s.size : Int)) (hx0 : 0 ≤ x) (hx1 : x ≤ 1000000) (hi4 : i ≤ 4) (hC : isC (bt s i)) :
    hustingsref08_Rune.l0 (k + 1) s x n least i = hustingsref08_Rune.l0 k s (x * 64 + bt s i % 64) n least (i + 1) := by
  have hb := bt_range s i
  unfold isC at hC
  simp only [hustingsref08_Rune.l0]
  rw [if_pos hin, if_pos (by omega), if_pos (by omega), if_neg (by omega), if_neg (by omega), w64 (bt s i) (by omega) (by omega), Int.tmod_eq_emod_of_nonneg (by omega), w64 (x * 64) (by omega) (by omega), w64 (x * 64 + bt s i % 64) (by omega) (by omega), w64 (i + 1) (by omega) (by omega)]
theorem rr_bad (s : ByteArray) (k : Nat) (x least n i : Int) (hi : 1 ≤ i) (hin : i < n) (hn : n ≤ (s.size : Int)) (hC : ¬ isC (bt s i)) :
    hustingsref08_Rune.l0 (k + 1) s x n least i = some (0, 0) := by
  unfold isC at hC
  simp only [hustingsref08_Rune.l0]
  rw [if_pos hin, if_pos (by omega), if_pos (by omega)]
  by_cases h : bt s i < 128
  · rw [if_pos h]
  · rw [if_neg h, if_pos (by omega)]
theorem rr_end (s : ByteArray) (k : Nat) (x least n i : Int) (hin : ¬ i < n) (hx : 0 ≤ x) :
    hustingsref08_Rune.l0 (k + 1) s x n least i = some (if least ≤ x ∧ validR x then (x, n) else (0, 0)) := by
  unfold validR
  simp only [hustingsref08_Rune.l0]
  rw [if_neg hin]
  by_cases h1 : x < least
  · rw [if_pos h1, if_neg (by omega)]
  · rw [if_neg h1]
    by_cases h2 : x > 1114111
    · rw [if_pos h2, if_neg (by omega)]
    · rw [if_neg h2]
      by_cases h3 : x ≥ 55296
      · rw [if_pos h3]
        by_cases h4 : x ≤ 57343
        · rw [if_pos h4, if_neg (by omega)]
        · rw [if_neg h4, if_pos (by omega)]
      · rw [if_neg h3, if_pos (by omega)]
theorem ref_rune (s : ByteArray) (k : Nat) : hustingsref08_Rune.f (k + 12) s = some (runeA (rune (bytesOf s))) := by
  unfold hustingsref08_Rune.f
  rcases h0 : bytesOf s with _ | ⟨c, t⟩
  · have hn : s.toList = [] := by
      rw [Lib.toList_data]
      have := congrArg List.length h0
      rw [bytesOf_length] at this
      exact List.eq_nil_of_length_eq_zero (by rw [Array.length_toList]; exact this)
    rw [if_pos hn]
    rfl
  · have hB := bs_bytes s
    rw [h0] at hB
    obtain ⟨hs0, hc, hd0⟩ := bt_drop s 0 c t h0
    have hne : ¬ s.toList = [] := by
      rw [Lib.toList_data]
      intro hh
      have := congrArg List.length hh
      rw [Array.length_toList] at this
      have h2 : s.data.size = s.size := rfl
      simp at this
      rw [ByteArray.size] at hs0
      simp [this] at hs0
    have hc' := hB.head
    have hc0 : bt s (0 : Int) = c := hc
    rw [if_neg hne, if_pos (by omega), hc0, w64 c (by omega) (by omega)]
    simp only [rune]
    by_cases g0 : c < 128
    · rw [if_pos g0, if_pos g0]; rfl
    · rw [if_neg g0, if_neg g0]
      by_cases g1 : c < 224
      · by_cases g2 : c ≥ 192
        · rw [if_pos g2, decide_eq_true g1, if_pos (show 192 ≤ c ∧ c < 224 by omega)]
          simp only [hustingsref08_Rune.j0, if_true]
          rw [Int.tmod_eq_emod_of_nonneg (by omega)]
          simp only [hustingsref08_Rune.j2]
          rw [if_neg (by decide)]
          rcases t with _ | ⟨a, t⟩
          · have : s.size = 1 := by have := congrArg List.length h0; rw [bytesOf_length] at this; exact this
            rw [decide_eq_true (by omega)]
            simp only [hustingsref08_Rune.j3, if_true]
            rfl
          · obtain ⟨hs1, ha, hd1⟩ := bt_drop s 1 a t hd0
            have ha1 : bt s (1 : Int) = a := ha
            rw [decide_eq_false (by omega)]
            simp only [hustingsref08_Rune.j3, Bool.false_eq_true, if_false]
            by_cases q1 : isC a
            · rw [rr_round s _ _ _ _ _ (by omega) (by omega) (by omega) (by omega) (by omega) (by omega) (by rw [ha1]; exact q1), rr_end s _ _ _ _ _ (by omega) (by rw [ha1]; omega), ha1]
              have hva := hB.tail.head
              by_cases q2 : 128 ≤ c % 32 * 64 + a % 64
              · rw [if_pos ⟨q2, by unfold validR; omega⟩, if_pos ⟨q1, q2⟩]; rfl
              · rw [if_neg (fun hh => q2 hh.1), if_neg (fun hh => q2 hh.2)]; rfl
            · rw [rr_bad s _ _ _ _ _ (by omega) (by omega) (by omega) (by rw [ha1]; exact q1), if_neg (fun hh => q1 hh.1)]
              rfl
        · rw [if_neg g2, if_neg (show ¬ (192 ≤ c ∧ c < 224) by omega), if_neg (show ¬ (224 ≤ c ∧ c < 240) by omega), if_neg (show ¬ (240 ≤ c ∧ c < 248) by omega)]
          simp only [hustingsref08_Rune.j0, Bool.false_eq_true, if_false]
          rw [if_neg (show ¬ c ≥ 224 by omega)]
          simp only [hustingsref08_Rune.j1, Bool.false_eq_true, if_false]
          rw [if_neg (show ¬ c ≥ 240 by omega)]
          simp only [hustingsref08_Rune.j2, if_true, hustingsref08_Rune.j3]
          rfl
      · rw [if_pos (show c ≥ 192 by omega), decide_eq_false g1, if_neg (show ¬ (192 ≤ c ∧ c < 224) by omega)]
        simp only [hustingsref08_Rune.j0, Bool.false_eq_true, if_false]
        rw [if_pos (show c ≥ 224 by omega)]
        by_cases g3 : c < 240
        · rw [decide_eq_true g3, if_pos (show 224 ≤ c ∧ c < 240 by omega)]
          simp only [hustingsref08_Rune.j1, if_true]
          rw [Int.tmod_eq_emod_of_nonneg (by omega)]
          simp only [hustingsref08_Rune.j2]
          rw [if_neg (by decide)]
          have hsz : s.size = t.length + 1 := by have := congrArg List.length h0; rw [bytesOf_length] at this; exact this
          rcases t with _ | ⟨a, _ | ⟨b, t⟩⟩
          · rw [decide_eq_true (by simp at hsz; omega)]
            simp only [hustingsref08_Rune.j3, if_true]
            rfl
          · rw [decide_eq_true (by simp at hsz; omega)]
            simp only [hustingsref08_Rune.j3, if_true]
            rfl
          · obtain ⟨hs1, ha, hd1⟩ := bt_drop s 1 a _ hd0
            obtain ⟨hs2, hb, hd2⟩ := bt_drop s 2 b _ hd1
            have ha1 : bt s (1 : Int) = a := ha
            have hb1 : bt s (1 + 1 : Int) = b := hb
            rw [decide_eq_false (by omega)]
            simp only [hustingsref08_Rune.j3, Bool.false_eq_true, if_false]
            have hva := hB.tail.head
            have hvb := hB.tail.tail.head
            by_cases q1 : isC a
            · rw [rr_round s _ _ _ _ _ (by omega) (by omega) (by omega) (by omega) (by omega) (by omega) (by rw [ha1]; exact q1), ha1]
              by_cases q2 : isC b
              · rw [rr_round s _ _ _ _ _ (by omega) (by omega) (by omega) (by omega) (by omega) (by omega) (by rw [hb1]; exact q2), rr_end s _ _ _ _ _ (by omega) (by rw [hb1]; omega), hb1]
                have e : (c % 16 * 64 + a % 64) * 64 + b % 64 = c % 16 * 4096 + a % 64 * 64 + b % 64 := by omega
                rw [e]
                by_cases q3 : 2048 ≤ c % 16 * 4096 + a % 64 * 64 + b % 64 ∧ validR (c % 16 * 4096 + a % 64 * 64 + b % 64)
                · rw [if_pos q3, if_pos ⟨q1, q2, q3⟩]; rfl
                · rw [if_neg q3, if_neg (fun hh => q3 hh.2.2)]; rfl
              · rw [rr_bad s _ _ _ _ _ (by omega) (by omega) (by omega) (by rw [hb1]; exact q2), if_neg (fun hh => q2 hh.2.1)]; rfl
            · rw [rr_bad s _ _ _ _ _ (by omega) (by omega) (by omega) (by rw [ha1]; exact q1), if_neg (fun hh => q1 hh.1)]; rfl
        · rw [decide_eq_false g3, if_neg (show ¬ (224 ≤ c ∧ c < 240) by omega)]
          simp only [hustingsref08_Rune.j1, Bool.false_eq_true, if_false]
          rw [if_pos (show c ≥ 240 by omega)]
          by_cases g4 : c < 248
          · rw [if_pos g4, if_pos (show 240 ≤ c ∧ c < 248 by omega), Int.tmod_eq_emod_of_nonneg (by omega)]
            simp only [hustingsref08_Rune.j2]
            rw [if_neg (by decide)]
            have hsz : s.size = t.length + 1 := by have := congrArg List.length h0; rw [bytesOf_length] at this; exact this
            rcases t with _ | ⟨a, _ | ⟨b, _ | ⟨d, t⟩⟩⟩
            · rw [decide_eq_true (by simp at hsz; omega)]
              simp only [hustingsref08_Rune.j3, if_true]
              rfl
            · rw [decide_eq_true (by simp at hsz; omega)]
              simp only [hustingsref08_Rune.j3, if_true]
              rfl
            · rw [decide_eq_true (by simp at hsz; omega)]
              simp only [hustingsref08_Rune.j3, if_true]
              rfl
            · obtain ⟨hs1, ha, hd1⟩ := bt_drop s 1 a _ hd0
              obtain ⟨hs2, hb, hd2⟩ := bt_drop s 2 b _ hd1
              obtain ⟨hs3, hd, hd3⟩ := bt_drop s 3 d _ hd2
              have ha1 : bt s (1 : Int) = a := ha
              have hb1 : bt s (1 + 1 : Int) = b := hb
              have hd1 : bt s (1 + 1 + 1 : Int) = d := hd
              rw [decide_eq_false (by omega)]
              simp only [hustingsref08_Rune.j3, Bool.false_eq_true, if_false]
              have hva := hB.tail.head
              have hvb := hB.tail.tail.head
              have hvd := hB.tail.tail.tail.head
              by_cases q1 : isC a
              · rw [rr_round s _ _ _ _ _ (by omega) (by omega) (by omega) (by omega) (by omega) (by omega) (by rw [ha1]; exact q1), ha1]
                by_cases q2 : isC b
                · rw [rr_round s _ _ _ _ _ (by omega) (by omega) (by omega) (by omega) (by omega) (by omega) (by rw [hb1]; exact q2), hb1]
                  by_cases q3 : isC d
                  · rw [rr_round s _ _ _ _ _ (by omega) (by omega) (by omega) (by omega) (by omega) (by omega) (by rw [hd1]; exact q3), rr_end s _ _ _ _ _ (by omega) (by rw [hd1]; omega), hd1]
                    have e : ((c % 8 * 64 + a % 64) * 64 + b % 64) * 64 + d % 64 = c % 8 * 262144 + a % 64 * 4096 + b % 64 * 64 + d % 64 := by omega
                    rw [e]
                    by_cases q4 : 65536 ≤ c % 8 * 262144 + a % 64 * 4096 + b % 64 * 64 + d % 64 ∧ validR (c % 8 * 262144 + a % 64 * 4096 + b % 64 * 64 + d % 64)
                    · rw [if_pos q4, if_pos ⟨q1, q2, q3, q4⟩]; rfl
                    · rw [if_neg q4, if_neg (fun hh => q4 hh.2.2.2)]; rfl
                  · rw [rr_bad s _ _ _ _ _ (by omega) (by omega) (by omega) (by rw [hd1]; exact q3), if_neg (fun hh => q3 hh.2.2.1)]; rfl
                · rw [rr_bad s _ _ _ _ _ (by omega) (by omega) (by omega) (by rw [hb1]; exact q2), if_neg (fun hh => q2 hh.2.1)]; rfl
              · rw [rr_bad s _ _ _ _ _ (by omega) (by omega) (by omega) (by rw [ha1]; exact q1), if_neg (fun hh => q1 hh.1)]; rfl
          · rw [if_neg g4, if_neg (show ¬ (240 ≤ c ∧ c < 248) by omega)]
            simp only [hustingsref08_Rune.j2, if_true, hustingsref08_Rune.j3]
            rfl
end
section
set_option linter.unusedVariables false
open Go.RowKit Go.Proofs.YtboelmakccaenaaW.PrintWords Go.Proofs.YtboelmakccaenaaW.PrintLast Go.Proofs.YtboelmakccaenaaW.PrintMore
def validF : Nat → List Int → Bool
  | 0, _ => true
  | k + 1, l => if l = [] then true else match rune l with | none => false | some (_, n) => validF k (l.drop n)
def validL (l : List Int) : Bool := validF l.length l
theorem Bs.drop {l : List Int} (h : Bs l) (n : Nat) : Bs (l.drop n) := fun x hx => h x (List.mem_of_mem_drop hx)
theorem validF_more : ∀ (k : Nat) (l : List Int), Bs l → l.length ≤ k → ∀ j, l.length ≤ j → validF k l = validF j l := by
  intro k
  induction k with
  | zero =>
    intro l hB hl j hj
    have : l = [] := List.eq_nil_of_length_eq_zero (by omega)
    subst this
    cases j <;> simp [validF]
  | succ k ih =>
    intro l hB hl j hj
    by_cases h0 : l = []
    · subst h0
      cases j <;> simp [validF]
    · have hp : 0 < l.length := List.length_pos_iff.2 h0
      obtain ⟨j, rfl⟩ : ∃ i, j = i + 1 := ⟨j - 1, by omega⟩
      simp only [validF, if_neg h0]
      rcases h : rune l with _ | ⟨v, n⟩
      · rfl
      · have hn := rune_len hB h
        simp only
        exact ih _ (hB.drop n) (by rw [List.length_drop]; omega) j (by rw [List.length_drop]; omega)
theorem validL_nil : validL [] = true := rfl
theorem validL_none {l : List Int} (h0 : l ≠ []) (h : rune l = none) : validL l = false := by
  have hp : 0 < l.length := List.length_pos_iff.2 h0
  unfold validL
  obtain ⟨j, hj⟩ : ∃ i, l.length = i + 1 := ⟨l.length - 1, by omega⟩
  rw [hj]
  simp only [validF, if_neg h0, h]
theorem validL_some {l : List Int} {v : Int} {n : Nat} (hB : Bs l) (h : rune l = some (v, n)) : validL l = validL (l.drop n) := by
  have hn := rune_len hB h
  have h0 : l ≠ [] := fun e => by rw [e] at hn; simp at hn; omega
  unfold validL
  obtain ⟨j, hj⟩ : ∃ i, l.length = i + 1 := ⟨l.length - 1, by omega⟩
  rw [hj]
  simp only [validF, if_neg h0, h]
  exact validF_more _ _ (hB.drop n) (by rw [List.length_drop]; omega) _ (Nat.le_refl _)
theorem bytes_extract (s : ByteArray) (p : Nat) : bytesOf (s.extract p s.size) = (bytesOf s).drop p := by
  unfold bytesOf
  rw [← List.map_drop]
  congr 1
  rw [ByteArray.data_extract, Array.toList_extract, List.extract_eq_take_drop]
  exact List.take_of_length_le (by rw [List.length_drop, Array.length_toList]; exact Nat.le_refl _)
theorem bytes_take (s : ByteArray) (n : Nat) : bytesOf (s.extract 0 n) = (bytesOf s).take n := by
  unfold bytesOf
  rw [← List.map_take]
  congr 1
  rw [ByteArray.data_extract, Array.toList_extract, List.extract_eq_take_drop]
  rfl
theorem toList_bytes (a b : ByteArray) : a.toList = b.toList ↔ bytesOf a = bytesOf b := by
  rw [Lib.toList_data, Lib.toList_data]
  constructor
  · intro h; unfold bytesOf; rw [h]
  · intro h
    have ha := str_bytes a
    have hb := str_bytes b
    rw [h, hb] at ha
    rw [ha]
theorem prefix_f (a p : ByteArray) : strings_HasPrefix.f a p = some (decide ((bytesOf a).take p.size = bytesOf p)) := by
  unfold strings_HasPrefix.f stringslite_HasPrefix.f
  by_cases h : (a.size : Int) ≥ (p.size : Int)
  · rw [if_pos h, if_pos (by omega), if_pos (by omega), Option.bind_some]
    congr 1
    rw [Bool.eq_iff_iff, beq_iff_eq, decide_eq_true_iff, toList_bytes, bytes_take]
    rfl
  · rw [if_neg h, Option.bind_some]
    congr 1
    symm
    rw [decide_eq_false_iff_not]
    intro hh
    have := congrArg List.length hh
    rw [List.length_take, bytesOf_length, bytesOf_length] at this
    omega
theorem rune_fffd {l : List Int} (h : l.take 3 = [239, 191, 189]) : rune l = some (65533, 3) := by
  match l, h with
  | a :: b :: c :: t, h =>
    simp at h
    obtain ⟨rfl, rfl, rfl⟩ := h
    simp [rune, isC, validR]
  | [], h => simp at h
  | [a], h => simp at h
  | [a, b], h => simp at h
theorem fffd_bytes {l : List Int} {n : Nat} (hB : Bs l) (h : rune l = some (65533, n)) : l.take 3 = [239, 191, 189] ∧ n = 3 := by
  obtain ⟨_, h2, h3⟩ := rune_some hB h
  have e : encR 65533 = [239, 191, 189] := by decide
  rw [e] at h2 h3
  refine ⟨?_, h3⟩
  rw [h2]
  rfl
/-- The document's Valid. -/
theorem ref_valid : ∀ (m : Nat) (s : ByteArray), s.size ≤ m → ∀ k, m + 13 ≤ k → hustingsref08_Valid.l0 k s = some (validL (bytesOf s)) := by
  intro m
  induction m with
  | zero =>
    intro s hs k hk
    obtain ⟨k, rfl⟩ : ∃ j, k = j + 1 := ⟨k - 1, by omega⟩
    have h0 : s.toList = [] := by rw [Lib.toList_data]; exact List.eq_nil_of_length_eq_zero (by rw [Array.length_toList]; have : s.data.size = s.size := rfl; omega)
    have h1 : bytesOf s = [] := List.eq_nil_of_length_eq_zero (by rw [bytesOf_length]; omega)
    simp only [hustingsref08_Valid.l0]
    rw [if_pos h0, h1]
    rfl
  | succ m ih =>
    intro s hs k hk
    obtain ⟨k, rfl⟩ : ∃ j, k = j + 1 := ⟨k - 1, by omega⟩
    simp only [hustingsref08_Valid.l0]
    by_cases h0 : s.toList = []
    · have h1 : bytesOf s = [] := by
        rw [Lib.toList_data] at h0
        unfold bytesOf
        rw [h0]; rfl
      rw [if_pos h0, h1]
      rfl
    · have h1 : bytesOf s ≠ [] := by
        intro h; apply h0
        rw [Lib.toList_data]
        unfold bytesOf at h
        simpa using h
      have hB := bs_bytes s
      rw [if_neg h0, show k = (k - 12) + 12 from by omega, ref_rune s (k - 12), Option.bind_some]
      rcases h : rune (bytesOf s) with _ | ⟨v, n⟩
      · simp only [runeA, if_true]
        rw [validL_none h1 h]
      · have hn := rune_len hB h
        rw [bytesOf_length] at hn
        change (if (n : Int) = 0 then some false else if 0 ≤ (n : Int) then (if (n : Int) ≤ (s.size : Int) then hustingsref08_Valid.l0 (k - 12 + 12) (s.extract (n : Int).toNat s.size) else none) else none) = _
        rw [if_neg (by omega), if_pos (by omega), if_pos (by omega), validL_some hB h, ← bytes_extract]
        have e : ((n : Int)).toNat = n := by omega
        rw [e]
        exact ih _ (by simp; omega) _ (by omega)
theorem ref_valid_f (s : ByteArray) : hustingsref08_Valid.f (s.size + 13) s = some (validL (bytesOf s)) := by
  unfold hustingsref08_Valid.f
  exact ref_valid s.size s (Nat.le_refl _) _ (Nat.le_refl _)
end
end Go.Proofs.Ytboelmakccaenaa.P
