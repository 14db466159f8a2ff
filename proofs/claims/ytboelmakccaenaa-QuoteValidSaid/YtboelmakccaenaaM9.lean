/- Runes as bytes: what the model's decoder, Go's range over a string, and the document's Rune say. -/
import Derived.Test.YtboelmakccaenaaM5
import Derived.Test.YtboelmakccaenaaG66
import Derived.Lib.Strings
namespace Go.Proofs.Ytboelmakccaenaa.P
set_option linter.unusedVariables false
open Go.RowKit Go.Proofs.YtboelmakccaenaaW.PrintWords Go.Proofs.YtboelmakccaenaaW.PrintLast Go.Proofs.YtboelmakccaenaaW.PrintMore
def isC (x : Int) : Prop := 128 ≤ x ∧ x < 192
instance (x : Int) : Decidable (isC x) := by unfold isC; infer_instance
/-- A rune's number. -/
def validR (v : Int) : Prop := 0 ≤ v ∧ v ≤ 1114111 ∧ ¬ (55296 ≤ v ∧ v ≤ 57343)
instance (x : Int) : Decidable (validR x) := by unfold validR; infer_instance
/-- The rune that bytes begin with, and how many it has. -/
def rune : List Int → Option (Int × Nat)
  | [] => none
  | c :: t =>
    if c < 128 then some (c, 1)
    else if 192 ≤ c ∧ c < 224 then
      match t with
      | a :: _ => if isC a ∧ 128 ≤ c % 32 * 64 + a % 64 then some (c % 32 * 64 + a % 64, 2) else none
      | _ => none
    else if 224 ≤ c ∧ c < 240 then
      match t with
      | a :: b :: _ => if isC a ∧ isC b ∧ 2048 ≤ c % 16 * 4096 + a % 64 * 64 + b % 64 ∧ validR (c % 16 * 4096 + a % 64 * 64 + b % 64) then some (c % 16 * 4096 + a % 64 * 64 + b % 64, 3) else none
      | _ => none
    else if 240 ≤ c ∧ c < 248 then
      match t with
      | a :: b :: d :: _ => if isC a ∧ isC b ∧ isC d ∧ 65536 ≤ c % 8 * 262144 + a % 64 * 4096 + b % 64 * 64 + d % 64 ∧ validR (c % 8 * 262144 + a % 64 * 4096 + b % 64 * 64 + d % 64) then some (c % 8 * 262144 + a % 64 * 4096 + b % 64 * 64 + d % 64, 4) else none
      | _ => none
    else none
def encR (v : Int) : List Int :=
  if v < 128 then [v] else if v < 2048 then [192 + v / 64, 128 + v % 64] else if v < 65536 then [224 + v / 4096, 128 + v / 64 % 64, 128 + v % 64]
  else [240 + v / 262144, 128 + v / 4096 % 64, 128 + v / 64 % 64, 128 + v % 64]
theorem encR_bs (v : Int) (h : validR v) : Bs (encR v) := by
  unfold validR at h
  intro x hx
  unfold encR at hx
  split at hx
  · simp at hx; omega
  · split at hx
    · simp at hx; omega
    · split at hx
      · simp at hx; omega
      · simp at hx; omega
theorem encR_len (v : Int) : 1 ≤ (encR v).length ∧ (encR v).length ≤ 4 := by
  unfold encR
  split
  · simp
  · split
    · simp
    · split <;> simp
theorem rune_enc (v : Int) (h : validR v) (t : List Int) : rune (encR v ++ t) = some (v, (encR v).length) := by
  have hv := h
  unfold validR at h
  unfold encR
  split
  · simp only [List.cons_append, List.nil_append, rune, List.length_cons, List.length_nil]
    rw [if_pos (by omega)]
  · split
    · simp only [List.cons_append, List.nil_append, rune, List.length_cons, List.length_nil]
      rw [if_neg (by omega), if_pos (by omega)]
      have e : (192 + v / 64) % 32 * 64 + (128 + v % 64) % 64 = v := by omega
      rw [e, if_pos ⟨by unfold isC; omega, by omega⟩]
    · split
      · simp only [List.cons_append, List.nil_append, rune, List.length_cons, List.length_nil]
        rw [if_neg (by omega), if_neg (by omega), if_pos (by omega)]
        have e : (224 + v / 4096) % 16 * 4096 + (128 + v / 64 % 64) % 64 * 64 + (128 + v % 64) % 64 = v := by omega
        rw [e, if_pos ⟨by unfold isC; omega, by unfold isC; omega, by omega, hv⟩]
      · simp only [List.cons_append, List.nil_append, rune, List.length_cons, List.length_nil]
        rw [if_neg (by omega), if_neg (by omega), if_neg (by omega), if_pos (by omega)]
        have e : (240 + v / 262144) % 8 * 262144 + (128 + v / 4096 % 64) % 64 * 4096 + (128 + v / 64 % 64) % 64 * 64 + (128 + v % 64) % 64 = v := by omega
        rw [e, if_pos ⟨by unfold isC; omega, by unfold isC; omega, by unfold isC; omega, by omega, hv⟩]
theorem rune_some : ∀ {l : List Int} {v : Int} {n : Nat}, Bs l → rune l = some (v, n) → validR v ∧ l = encR v ++ l.drop n ∧ n = (encR v).length
  | [], v, n, _, h => by simp [rune] at h
  | c :: t, v, n, hB, h => by
    have hc := hB.head
    simp only [rune] at h
    split at h
    · injection h with h
      injection h with h1 h2
      subst h1; subst h2
      refine ⟨by unfold validR; omega, ?_, ?_⟩ <;> unfold encR <;> rw [if_pos (by omega)] <;> simp
    · split at h
      · split at h
        · rename_i a t'
          have ha := hB.tail.head
          split at h
          · rename_i hh
            obtain ⟨g1, g2⟩ := hh
            unfold isC at g1
            injection h with h
            injection h with h1 h2
            subst h2
            refine ⟨by unfold validR; omega, ?_, ?_⟩
            · unfold encR
              rw [if_neg (by omega), if_pos (by omega)]
              simp
              omega
            · unfold encR
              rw [if_neg (by omega), if_pos (by omega)]
              rfl
          · cases h
        · cases h
      · split at h
        · split at h
          · rename_i a b t'
            have ha := hB.tail.head
            have hb := hB.tail.tail.head
            split at h
            · rename_i hh
              obtain ⟨g1, g2, g3, g4⟩ := hh
              unfold isC at g1 g2
              injection h with h
              injection h with h1 h2
              subst h2
              rw [h1] at g3 g4
              refine ⟨g4, ?_, ?_⟩
              · unfold encR
                rw [if_neg (by omega), if_neg (by omega), if_pos (by omega)]
                simp
                omega
              · unfold encR
                rw [if_neg (by omega), if_neg (by omega), if_pos (by omega)]
                rfl
            · cases h
          · cases h
        · split at h
          · split at h
            · rename_i a b d t'
              have ha := hB.tail.head
              have hb := hB.tail.tail.head
              have hd := hB.tail.tail.tail.head
              split at h
              · rename_i hh
                obtain ⟨g1, g2, g3, g4, g5⟩ := hh
                unfold isC at g1 g2 g3
                injection h with h
                injection h with h1 h2
                subst h2
                rw [h1] at g4 g5
                have g6 := g5
                unfold validR at g6
                refine ⟨g5, ?_, ?_⟩
                · unfold encR
                  rw [if_neg (by omega), if_neg (by omega), if_neg (by omega)]
                  simp
                  omega
                · unfold encR
                  rw [if_neg (by omega), if_neg (by omega), if_neg (by omega)]
                  rfl
              · cases h
            · cases h
          · cases h
theorem rune_len {l : List Int} {v : Int} {n : Nat} (hB : Bs l) (h : rune l = some (v, n)) : 1 ≤ n ∧ n ≤ l.length := by
  obtain ⟨_, h2, h3⟩ := rune_some hB h
  have := encR_len v
  have hl := congrArg List.length h2
  simp at hl
  omega
theorem get_at2 (s : ByteArray) (pos k : Nat) (c : Int) (t : List Int) (h : (bytesOf s).drop (pos + k) = c :: t) : pos + k < s.size ∧ ((s.get! (pos + k)).toNat : Int) = c ∧ (bytesOf s).drop (pos + k + 1) = t := by
  obtain ⟨hlt, hr, hd⟩ := drop_cons h
  rw [bytesOf_length] at hlt
  refine ⟨hlt, ?_, hd⟩
  rw [rd_bytesOf, bt_get s _ hlt] at hr
  rw [← hr]
  simp [ByteArray.get!, getElem!_pos, hlt]
  rfl
def runeR (o : Option (Int × Nat)) : Nat × Nat := match o with | some (v, n) => (v.toNat, n) | none => (65533, 1)
end Go.Proofs.Ytboelmakccaenaa.P
