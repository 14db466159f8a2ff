/- Runes and texts, of no program. -/
import Derived.Test.YtfpgjkaaadnmcaaDoorBas
import Derived.Lib.Strings
namespace Go.Proofs.YtfpgjkaaadnmcaaDoor.P
set_option linter.unusedVariables false
set_option linter.unusedSimpArgs false
open Go.RowKit Go.Proofs.YtfpgjkaaadnmcaaDoorW.PrintWords Go.Proofs.YtfpgjkaaadnmcaaDoorW.PrintLast Go.Proofs.YtfpgjkaaadnmcaaDoorW.PrintMore
/-- All are bytes. -/
def Bs (l : List Int) : Prop := ∀ x ∈ l, 0 ≤ x ∧ x ≤ 255
theorem Bs.tail {a : Int} {l : List Int} (h : Bs (a :: l)) : Bs l := fun x hx => h x (List.mem_cons_of_mem _ hx)
theorem Bs.head {a : Int} {l : List Int} (h : Bs (a :: l)) : 0 ≤ a ∧ a ≤ 255 := h a List.mem_cons_self
theorem drop_cons {l : List Int} {i : Nat} {a : Int} {t : List Int} (h : l.drop i = a :: t) : i < l.length ∧ rd l i = a ∧ l.drop (i + 1) = t := by
  have hlt : i < l.length := by
    rcases Nat.lt_or_ge i l.length with h' | h'
    · exact h'
    · rw [List.drop_eq_nil_of_le h'] at h; cases h
  rw [List.drop_eq_getElem_cons hlt] at h
  injection h with h1 h2
  refine ⟨hlt, ?_, h2⟩
  simp [rd, hlt, h1]
theorem drop_nil {l : List Int} {i : Nat} (h : l.drop i = []) : l.length ≤ i := by simpa using h
theorem bytes_str {l : List Int} (h : Bs l) : bytesOf (strOfNums l) = l := by
  unfold bytesOf
  rw [strOfNums_data, List.map_map]
  conv => rhs; rw [← List.map_id l]
  apply List.map_congr_left
  intro x hx
  have := h x hx
  simp
  omega
theorem str_bytes (s : ByteArray) : strOfNums (bytesOf s) = s := by
  have : (strOfNums (bytesOf s)).data = s.data := by
    apply Array.ext'
    rw [strOfNums_data]
    unfold bytesOf
    rw [List.map_map]
    conv => rhs; rw [← List.map_id s.data.toList]
    apply List.map_congr_left
    intro x hx
    simp
  cases s
  simp only [strOfNums] at this ⊢
  rw [ByteArray.mk.injEq]
  exact this
theorem bs_bytes (s : ByteArray) : Bs (bytesOf s) := by
  intro x hx
  unfold bytesOf at hx
  simp at hx
  obtain ⟨a, _, rfl⟩ := hx
  have := a.toNat_lt
  omega
theorem bt_get (s : ByteArray) (pos : Nat) (hp : pos < s.size) : bt s pos = ((s[pos]'hp).toNat : Int) := by
  simp [bt, hp]
theorem iterPos_of {w : World} {B p : Nat} {s : ByteArray} (h : w.heap[B]? = some (.stringIter s p)) : w.iterPos B = p := by simp [World.iterPos, h]
def isC (x : Int) : Prop := 128 ≤ x ∧ x < 192
instance (x : Int) : Decidable (isC x) := by unfold isC; infer_instance
/-- A rune's number. -/
def validR (v : Int) : Prop := 0 ≤ v ∧ v ≤ 1114111 ∧ ¬ (55296 ≤ v ∧ v ≤ 57343)
instance (x : Int) : Decidable (validR x) := by unfold validR; infer_instance
/-- The rune that bytes begin with, and how many it has. -/
def rune : List Int → Option (Int × Nat)
  | [] => none
  | c :: t =>
    if c < 128 then some (c, 1)
    else if 192 ≤ c ∧ c < 224 then
      match t with
      | a :: _ => if isC a ∧ 128 ≤ c % 32 * 64 + a % 64 then some (c % 32 * 64 + a % 64, 2) else none
      | _ => none
    else if 224 ≤ c ∧ c < 240 then
      match t with
      | a :: b :: _ => if isC a ∧ isC b ∧ 2048 ≤ c % 16 * 4096 + a % 64 * 64 + b % 64 ∧ validR (c % 16 * 4096 + a % 64 * 64 + b % 64) then some (c % 16 * 4096 + a % 64 * 64 + b % 64, 3) else none
      | _ => none
    else if 240 ≤ c ∧ c < 248 then
      match t with
      | a :: b :: d :: _ => if isC a ∧ isC b ∧ isC d ∧ 65536 ≤ c % 8 * 262144 + a % 64 * 4096 + b % 64 * 64 + d % 64 ∧ validR (c % 8 * 262144 + a % 64 * 4096 + b % 64 * 64 + d % 64) then some (c % 8 * 262144 + a % 64 * 4096 + b % 64 * 64 + d % 64, 4) else none
      | _ => none
    else none
def encR (v : Int) : List Int :=
  if v < 128 then [v] else if v < 2048 then [192 + v / 64, 128 + v % 64] else if v < 65536 then [224 + v / 4096, 128 + v / 64 % 64, 128 + v % 64]
  else [240 + v / 262144, 128 + v / 4096 % 64, 128 + v / 64 % 64, 128 + v % 64]
theorem encR_bs (v : Int) (h : validR v) : Bs (encR v) := by
  unfold validR at h
  intro x hx
  unfold encR at hx
  split at hx
  · simp at hx; omega
  · split at hx
    · simp at hx; omega
    · split at hx
      · simp at hx; omega
      · simp at hx; omega
theorem encR_len (v : Int) : 1 ≤ (encR v).length ∧ (encR v).length ≤ 4 := by
  unfold encR
  split
  · simp
  · split
    · simp
    · split <;> simp
theorem rune_enc (v : Int) (h : validR v) (t : List Int) : rune (encR v ++ t) = some (v, (encR v).length) := by
  have hv := h
  unfold validR at h
  unfold encR
  split
  · simp only [List.cons_append, List.nil_append, rune, List.length_cons, List.length_nil]
    rw [if_pos (by omega)]
  · split
    · simp only [List.cons_append, List.nil_append, rune, List.length_cons, List.length_nil]
      rw [if_neg (by omega), if_pos (by omega)]
      have e : (192 + v / 64) % 32 * 64 + (128 + v % 64) % 64 = v := by omega
      rw [e, if_pos ⟨by unfold isC; omega, by omega⟩]
    · split
      · simp only [List.cons_append, List.nil_append, rune, List.length_cons, List.length_nil]
        rw [if_neg (by omega), if_neg (by omega), if_pos (by omega)]
        have e : (224 + v / 4096) % 16 * 4096 + (128 + v / 64 % 64) % 64 * 64 + (128 + v % 64) % 64 = v := by omega
        rw [e, if_pos ⟨by unfold isC; omega, by unfold isC; omega, by omega, hv⟩]
      · simp only [List.cons_append, List.nil_append, rune, List.length_cons, List.length_nil]
        rw [if_neg (by omega), if_neg (by omega), if_neg (by omega), if_pos (by omega)]
        have e : (240 + v / 262144) % 8 * 262144 + (128 + v / 4096 % 64) % 64 * 4096 + (128 + v / 64 % 64) % 64 * 64 + (128 + v % 64) % 64 = v := by omega
        rw [e, if_pos ⟨by unfold isC; omega, by unfold isC; omega, by unfold isC; omega, by omega, hv⟩]
theorem rune_some : ∀ {l : List Int} {v : Int} {n : Nat}, Bs l → rune l = some (v, n) → validR v ∧ l = encR v ++ l.drop n ∧ n = (encR v).length
  | [], v, n, _, h => by simp [rune] at h
  | c :: t, v, n, hB, h => by
    have hc := hB.head
    simp only [rune] at h
    split at h
    · injection h with h
      injection h with h1 h2
      subst h1; subst h2
      refine ⟨by unfold validR; omega, ?_, ?_⟩ <;> unfold encR <;> rw [if_pos (by omega)] <;> simp
    · split at h
      · split at h
        · rename_i a t'
          have ha := hB.tail.head
          split at h
          · rename_i hh
            obtain ⟨g1, g2⟩ := hh
            unfold isC at g1
            injection h with h
            injection h with h1 h2
            subst h2
            refine ⟨by unfold validR; omega, ?_, ?_⟩
            · unfold encR
              rw [if_neg (by omega), if_pos (by omega)]
              simp
              omega
            · unfold encR
              rw [if_neg (by omega), if_pos (by omega)]
              rfl
          · cases h
        · cases h
      · split at h
        · split at h
          · rename_i a b t'
            have ha := hB.tail.head
            have hb := hB.tail.tail.head
            split at h
            · rename_i hh
              obtain ⟨g1, g2, g3, g4⟩ := hh
              unfold isC at g1 g2
              injection h with h
              injection h with h1 h2
              subst h2
              rw [h1] at g3 g4
              refine ⟨g4, ?_, ?_⟩
              · unfold encR
                rw [if_neg (by omega), if_neg (by omega), if_pos (by omega)]
                simp
                omega
              · unfold encR
                rw [if_neg (by omega), if_neg (by omega), if_pos (by omega)]
                rfl
            · cases h
          · cases h
        · split at h
          · split at h
            · rename_i a b d t'
              have ha := hB.tail.head
              have hb := hB.tail.tail.head
              have hd := hB.tail.tail.tail.head
              split at h
              · rename_i hh
                obtain ⟨g1, g2, g3, g4, g5⟩ := hh
                unfold isC at g1 g2 g3
                injection h with h
                injection h with h1 h2
                subst h2
                rw [h1] at g4 g5
                have g6 := g5
                unfold validR at g6
                refine ⟨g5, ?_, ?_⟩
                · unfold encR
                  rw [if_neg (by omega), if_neg (by omega), if_neg (by omega)]
                  simp
                  omega
                · unfold encR
                  rw [if_neg (by omega), if_neg (by omega), if_neg (by omega)]
                  rfl
              · cases h
            · cases h
          · cases h
theorem rune_len {l : List Int} {v : Int} {n : Nat} (hB : Bs l) (h : rune l = some (v, n)) : 1 ≤ n ∧ n ≤ l.length := by
  obtain ⟨_, h2, h3⟩ := rune_some hB h
  have := encR_len v
  have hl := congrArg List.length h2
  simp at hl
  omega
theorem get_at2 (s : ByteArray) (pos k : Nat) (c : Int) (t : List Int) (h : (bytesOf s).drop (pos + k) = c :: t) : pos + k < s.size ∧ ((s.get! (pos + k)).toNat : Int) = c ∧ (bytesOf s).drop (pos + k + 1) = t := by
  obtain ⟨hlt, hr, hd⟩ := drop_cons h
  rw [bytesOf_length] at hlt
  refine ⟨hlt, ?_, hd⟩
  rw [rd_bytesOf, bt_get s _ hlt] at hr
  rw [← hr]
  simp [ByteArray.get!, getElem!_pos, hlt]
  rfl
def runeR (o : Option (Int × Nat)) : Nat × Nat := match o with | some (v, n) => (v.toNat, n) | none => (65533, 1)
/-- The decoder over four bytes, of which m are there. -/
def decN (m x0 x1 x2 x3 : Nat) : Nat × Nat :=
  if x0 < 128 then (x0, 1)
  else if x0 / 32 = 6 ∧ 1 < m ∧ x1 / 64 = 2 then (if 128 ≤ (x0 % 32) * 64 + x1 % 64 then ((x0 % 32) * 64 + x1 % 64, 2) else (65533, 1))
  else if x0 / 16 = 14 ∧ (1 < m ∧ x1 / 64 = 2) ∧ (2 < m ∧ x2 / 64 = 2) then
    (if 2048 ≤ (x0 % 16) * 4096 + (x1 % 64) * 64 + x2 % 64 ∧ validR (((x0 % 16) * 4096 + (x1 % 64) * 64 + x2 % 64 : Nat) : Int) then ((x0 % 16) * 4096 + (x1 % 64) * 64 + x2 % 64, 3) else (65533, 1))
  else if x0 / 8 = 30 ∧ (1 < m ∧ x1 / 64 = 2) ∧ (2 < m ∧ x2 / 64 = 2) ∧ (3 < m ∧ x3 / 64 = 2) then
    (if 65536 ≤ (x0 % 8) * 262144 + (x1 % 64) * 4096 + (x2 % 64) * 64 + x3 % 64 ∧ validR (((x0 % 8) * 262144 + (x1 % 64) * 4096 + (x2 % 64) * 64 + x3 % 64 : Nat) : Int) then ((x0 % 8) * 262144 + (x1 % 64) * 4096 + (x2 % 64) * 64 + x3 % 64, 4) else (65533, 1))
  else (65533, 1)
theorem valid_iff (n : Nat) : (Utf8.valid (n : Int) = true) ↔ validR (n : Int) := by
  unfold Utf8.valid validR
  simp
  omega
theorem decode_decN (s : ByteArray) (pos : Nat) (hp : pos < s.size) : Utf8.decode s pos = decN (s.size - pos) (s.get! (pos + 0)).toNat (s.get! (pos + 1)).toNat (s.get! (pos + 2)).toNat (s.get! (pos + 3)).toNat := by
  have h1 : (pos + 1 < s.size) = (1 < s.size - pos) := by apply propext; omega
  have h2 : (pos + 2 < s.size) = (2 < s.size - pos) := by apply propext; omega
  have h3 : (pos + 3 < s.size) = (3 < s.size - pos) := by apply propext; omega
  unfold Utf8.decode decN
  simp only [h1, h2, h3, Bool.and_eq_true, decide_eq_true_eq, beq_iff_eq, ge_iff_le, valid_iff, and_assoc, Utf8.runeError]
theorem rune_cons (c : Int) (t : List Int) (x0 : Nat) (h : (x0 : Int) = c) (m x1 x2 x3 : Nat) (hx : x0 < 256)
    (h1 : 1 < m → ∃ a t1, t = a :: t1 ∧ (x1 : Int) = a ∧ x1 < 256 ∧ (2 < m → ∃ b t2, t1 = b :: t2 ∧ (x2 : Int) = b ∧ x2 < 256 ∧ (3 < m → ∃ d t3, t2 = d :: t3 ∧ (x3 : Int) = d ∧ x3 < 256) ∧ (¬ 3 < m → t2 = [])) ∧ (¬ 2 < m → t1 = []))
    (h1' : ¬ 1 < m → t = []) : decN m x0 x1 x2 x3 = runeR (rune (c :: t)) := by
  subst h
  unfold decN
  simp only [rune]
  by_cases k0 : x0 < 128
  · rw [if_pos k0, if_pos (by omega)]
    simp [runeR]
  · rw [if_neg k0, if_neg (show ¬ (x0 : Int) < 128 by omega)]
    by_cases k1 : x0 / 32 = 6
    · rw [if_pos (show 192 ≤ (x0 : Int) ∧ (x0 : Int) < 224 by omega)]
      by_cases m1 : 1 < m
      · obtain ⟨a, t1, rfl, rfl, hx1, _⟩ := h1 m1
        simp only
        by_cases g : x1 / 64 = 2
        · rw [if_pos ⟨k1, m1, g⟩]
          by_cases g2 : 128 ≤ (x0 % 32) * 64 + x1 % 64
          · rw [if_pos g2, if_pos ⟨by unfold isC; omega, by omega⟩]
            simp only [runeR]
            congr 1
          · rw [if_neg g2, if_neg (fun hh => by omega)]
            rfl
        · rw [if_neg (fun hh => g hh.2.2), if_neg (fun hh => by omega), if_neg (fun hh => by omega), if_neg (fun hh => by unfold isC at hh; omega)]
          rfl
      · rw [h1' m1]
        rw [if_neg (fun hh => m1 hh.2.1), if_neg (fun hh => by omega), if_neg (fun hh => by omega)]
        rfl
    · rw [if_neg (fun hh => k1 hh.1), if_neg (show ¬ (192 ≤ (x0 : Int) ∧ (x0 : Int) < 224) by omega)]
      by_cases k2 : x0 / 16 = 14
      · rw [if_pos (show 224 ≤ (x0 : Int) ∧ (x0 : Int) < 240 by omega)]
        by_cases m1 : 1 < m
        · obtain ⟨a, t1, rfl, rfl, hx1, h2, h2'⟩ := h1 m1
          by_cases m2 : 2 < m
          · obtain ⟨b, t2, rfl, rfl, hx2, _⟩ := h2 m2
            simp only
            by_cases g : x1 / 64 = 2 ∧ x2 / 64 = 2
            · rw [if_pos ⟨k2, ⟨m1, g.1⟩, m2, g.2⟩]
              have e : (((x0 % 16) * 4096 + (x1 % 64) * 64 + x2 % 64 : Nat) : Int) = (x0 : Int) % 16 * 4096 + (x1 : Int) % 64 * 64 + (x2 : Int) % 64 := by omega
              rw [e]
              by_cases g2 : 2048 ≤ (x0 % 16) * 4096 + (x1 % 64) * 64 + x2 % 64 ∧ validR ((x0 : Int) % 16 * 4096 + (x1 : Int) % 64 * 64 + (x2 : Int) % 64)
              · rw [if_pos g2, if_pos ⟨by unfold isC; omega, by unfold isC; omega, by omega, g2.2⟩]
                simp only [runeR]
                congr 1
              · rw [if_neg g2, if_neg (fun hh => g2 ⟨by omega, hh.2.2.2⟩)]
                rfl
            · rw [if_neg (fun hh => g ⟨hh.2.1.2, hh.2.2.2⟩), if_neg (fun hh => by omega), if_neg (fun hh => by unfold isC at hh; omega)]
              rfl
          · rw [h2' m2]
            rw [if_neg (fun hh => m2 hh.2.2.1), if_neg (fun hh => by omega)]
            rfl
        · rw [h1' m1]
          rw [if_neg (fun hh => m1 hh.2.1.1), if_neg (fun hh => by omega)]
          rfl
      · rw [if_neg (fun hh => k2 hh.1), if_neg (show ¬ (224 ≤ (x0 : Int) ∧ (x0 : Int) < 240) by omega)]
        by_cases k3 : x0 / 8 = 30
        · rw [if_pos (show 240 ≤ (x0 : Int) ∧ (x0 : Int) < 248 by omega)]
          by_cases m1 : 1 < m
          · obtain ⟨a, t1, rfl, rfl, hx1, h2, h2'⟩ := h1 m1
            by_cases m2 : 2 < m
            · obtain ⟨b, t2, rfl, rfl, hx2, h3, h3'⟩ := h2 m2
              by_cases m3 : 3 < m
              · obtain ⟨d, t3, rfl, rfl, hx3⟩ := h3 m3
                simp only
                by_cases g : x1 / 64 = 2 ∧ x2 / 64 = 2 ∧ x3 / 64 = 2
                · rw [if_pos ⟨k3, ⟨m1, g.1⟩, ⟨m2, g.2.1⟩, m3, g.2.2⟩]
                  have e : (((x0 % 8) * 262144 + (x1 % 64) * 4096 + (x2 % 64) * 64 + x3 % 64 : Nat) : Int) = (x0 : Int) % 8 * 262144 + (x1 : Int) % 64 * 4096 + (x2 : Int) % 64 * 64 + (x3 : Int) % 64 := by omega
                  rw [e]
                  by_cases g2 : 65536 ≤ (x0 % 8) * 262144 + (x1 % 64) * 4096 + (x2 % 64) * 64 + x3 % 64 ∧ validR ((x0 : Int) % 8 * 262144 + (x1 : Int) % 64 * 4096 + (x2 : Int) % 64 * 64 + (x3 : Int) % 64)
                  · rw [if_pos g2, if_pos ⟨by unfold isC; omega, by unfold isC; omega, by unfold isC; omega, by omega, g2.2⟩]
                    simp only [runeR]
                    congr 1
                  · rw [if_neg g2, if_neg (fun hh => g2 ⟨by omega, hh.2.2.2.2⟩)]
                    rfl
                · rw [if_neg (fun hh => g ⟨hh.2.1.2, hh.2.2.1.2, hh.2.2.2.2⟩), if_neg (fun hh => by unfold isC at hh; omega)]
                  rfl
              · rw [h3' m3]
                rw [if_neg (fun hh => m3 hh.2.2.2.1)]
                rfl
            · rw [h2' m2]
              rw [if_neg (fun hh => m2 hh.2.2.1.1)]
              rfl
          · rw [h1' m1]
            rw [if_neg (fun hh => m1 hh.2.1.1)]
            rfl
        · rw [if_neg (fun hh => k3 hh.1), if_neg (show ¬ (240 ≤ (x0 : Int) ∧ (x0 : Int) < 248) by omega)]
          rfl
theorem drop_shape (s : ByteArray) (p : Nat) : (p < s.size ∧ ∃ t, (bytesOf s).drop p = ((s.get! p).toNat : Int) :: t ∧ (bytesOf s).drop (p + 1) = t) ∨ (¬ p < s.size ∧ (bytesOf s).drop p = []) := by
  rcases h : (bytesOf s).drop p with _ | ⟨c, t⟩
  · right
    have := drop_nil h
    rw [bytesOf_length] at this
    exact ⟨by omega, rfl⟩
  · left
    obtain ⟨h1, h2, h3⟩ := get_at2 s p 0 c t h
    rw [Nat.add_zero] at h1 h2
    exact ⟨h1, t, by rw [h2], h3⟩
theorem decode_rune (s : ByteArray) (pos : Nat) (hp : pos < s.size) : Utf8.decode s pos = runeR (rune ((bytesOf s).drop pos)) := by
  rw [decode_decN s pos hp]
  have lt : ∀ k, (s.get! k).toNat < 256 := fun k => (s.get! k).toNat_lt
  rcases drop_shape s pos with ⟨_, t, e0, e0'⟩ | ⟨hn, _⟩
  · rw [e0]
    refine rune_cons _ t _ rfl _ _ _ _ (lt _) (fun m1 => ?_) (fun m1 => ?_)
    · rcases drop_shape s (pos + 1) with ⟨_, t1, e1, e1'⟩ | ⟨hn, _⟩
      · refine ⟨_, t1, by rw [← e0', e1], rfl, lt _, fun m2 => ?_, fun m2 => ?_⟩
        · rcases drop_shape s (pos + 2) with ⟨_, t2, e2, e2'⟩ | ⟨hn, _⟩
          · refine ⟨_, t2, by rw [← e1', e2], rfl, lt _, fun m3 => ?_, fun m3 => ?_⟩
            · rcases drop_shape s (pos + 3) with ⟨_, t3, e3, e3'⟩ | ⟨hn, _⟩
              · exact ⟨_, t3, by rw [← e2', e3], rfl, lt _⟩
              · omega
            · rw [← e2']; exact List.drop_eq_nil_of_le (by rw [bytesOf_length]; omega)
          · omega
        · rw [← e1']; exact List.drop_eq_nil_of_le (by rw [bytesOf_length]; omega)
      · omega
    · rw [← e0']; exact List.drop_eq_nil_of_le (by rw [bytesOf_length]; omega)
  · omega
/-- What the document's Rune answers. -/
def runeA (o : Option (Int × Nat)) : Int × Int := match o with | some (v, n) => (v, n) | none => (0, 0)
theorem bt_drop (s : ByteArray) (k : Nat) (c : Int) (t : List Int) (h : (bytesOf s).drop k = c :: t) : k < s.size ∧ bt s k = c ∧ (bytesOf s).drop (k + 1) = t := by
  obtain ⟨hlt, hr, hd⟩ := drop_cons h
  rw [bytesOf_length] at hlt
  rw [rd_bytesOf] at hr
  exact ⟨hlt, hr, hd⟩
def validF : Nat → List Int → Bool
  | 0, _ => true
  | k + 1, l => if l = [] then true else match rune l with | none => false | some (_, n) => validF k (l.drop n)
def validL (l : List Int) : Bool := validF l.length l
theorem Bs.drop {l : List Int} (h : Bs l) (n : Nat) : Bs (l.drop n) := fun x hx => h x (List.mem_of_mem_drop hx)
theorem validF_more : ∀ (k : Nat) (l : List Int), Bs l → l.length ≤ k → ∀ j, l.length ≤ j → validF k l = validF j l := by
  intro k
  induction k with
  | zero =>
    intro l hB hl j hj
    have : l = [] := List.eq_nil_of_length_eq_zero (by omega)
    subst this
    cases j <;> simp [validF]
  | succ k ih =>
    intro l hB hl j hj
    by_cases h0 : l = []
    · subst h0
      cases j <;> simp [validF]
    · have hp : 0 < l.length := List.length_pos_iff.2 h0
      obtain ⟨j, rfl⟩ : ∃ i, j = i + 1 := ⟨j - 1, by omega⟩
      simp only [validF, if_neg h0]
      rcases h : rune l with _ | ⟨v, n⟩
      · rfl
      · have hn := rune_len hB h
        simp only
        exact ih _ (hB.drop n) (by rw [List.length_drop]; omega) j (by rw [List.length_drop]; omega)
theorem validL_nil : validL [] = true := rfl
theorem validL_none {l : List Int} (h0 : l ≠ []) (h : rune l = none) : validL l = false := by
  have hp : 0 < l.length := List.length_pos_iff.2 h0
  unfold validL
  obtain ⟨j, hj⟩ : ∃ i, l.length = i + 1 := ⟨l.length - 1, by omega⟩
  rw [hj]
  simp only [validF, if_neg h0, h]
theorem validL_some {l : List Int} {v : Int} {n : Nat} (hB : Bs l) (h : rune l = some (v, n)) : validL l = validL (l.drop n) := by
  have hn := rune_len hB h
  have h0 : l ≠ [] := fun e => by rw [e] at hn; simp at hn; omega
  unfold validL
  obtain ⟨j, hj⟩ : ∃ i, l.length = i + 1 := ⟨l.length - 1, by omega⟩
  rw [hj]
  simp only [validF, if_neg h0, h]
  exact validF_more _ _ (hB.drop n) (by rw [List.length_drop]; omega) _ (Nat.le_refl _)
theorem bytes_extract (s : ByteArray) (p : Nat) : bytesOf (s.extract p s.size) = (bytesOf s).drop p := by
  unfold bytesOf
  rw [← List.map_drop]
  congr 1
  rw [ByteArray.data_extract, Array.toList_extract, List.extract_eq_take_drop]
  exact List.take_of_length_le (by rw [List.length_drop, Array.length_toList]; exact Nat.le_refl _)
theorem bytes_take (s : ByteArray) (n : Nat) : bytesOf (s.extract 0 n) = (bytesOf s).take n := by
  unfold bytesOf
  rw [← List.map_take]
  congr 1
  rw [ByteArray.data_extract, Array.toList_extract, List.extract_eq_take_drop]
  rfl
theorem toList_bytes (a b : ByteArray) : a.toList = b.toList ↔ bytesOf a = bytesOf b := by
  rw [Lib.toList_data, Lib.toList_data]
  constructor
  · intro h; unfold bytesOf; rw [h]
  · intro h
    have ha := str_bytes a
    have hb := str_bytes b
    rw [h, hb] at ha
    rw [ha]
theorem rune_fffd {l : List Int} (h : l.take 3 = [239, 191, 189]) : rune l = some (65533, 3) := by
  match l, h with
  | a :: b :: c :: t, h =>
    simp at h
    obtain ⟨rfl, rfl, rfl⟩ := h
    simp [rune, isC, validR]
  | [], h => simp at h
  | [a], h => simp at h
  | [a, b], h => simp at h
theorem fffd_bytes {l : List Int} {n : Nat} (hB : Bs l) (h : rune l = some (65533, n)) : l.take 3 = [239, 191, 189] ∧ n = 3 := by
  obtain ⟨_, h2, h3⟩ := rune_some hB h
  have e : encR 65533 = [239, 191, 189] := by decide
  rw [e] at h2 h3
  refine ⟨?_, h3⟩
  rw [h2]
  rfl
/-- The letter behind a backslash; 0: none. -/
def shortV (r : Int) : Int := if r = 34 then 34 else if r = 92 then 92 else if r = 8 then 98 else if r = 9 then 116 else if r = 10 then 110 else if r = 12 then 102 else if r = 13 then 114 else 0
theorem or192 : ∀ n : Fin 32, Go.bits .or .u8 192 (n.val : Int) = 192 + (n.val : Int) := by decide
theorem or224 : ∀ n : Fin 16, Go.bits .or .u8 224 (n.val : Int) = 224 + (n.val : Int) := by decide
theorem or240 : ∀ n : Fin 8, Go.bits .or .u8 240 (n.val : Int) = 240 + (n.val : Int) := by decide
theorem lift_fin {n : Nat} {f g : Int → Int} (h : ∀ k : Fin n, f (k.val : Int) = g (k.val : Int)) (x : Int) (h0 : 0 ≤ x) (h1 : x < n) : f x = g x := by
  have := h ⟨x.toNat, by omega⟩
  simp only [Int.toNat_of_nonneg h0] at this
  exact this
theorem lead (b : Int) (n : Nat) (x : Int) (hb : (b = 192 ∧ n = 32) ∨ (b = 224 ∧ n = 16) ∨ (b = 240 ∧ n = 8)) (h0 : 0 ≤ x) (h1 : x < n) : Go.bits .or .u8 b (x % 256) = b + x := by
  have e : x % 256 = x := by omega
  rw [e]
  rcases hb with ⟨rfl, rfl⟩ | ⟨rfl, rfl⟩ | ⟨rfl, rfl⟩
  · exact lift_fin (f := fun y => Go.bits .or .u8 192 y) (g := fun y => 192 + y) or192 x h0 h1
  · exact lift_fin (f := fun y => Go.bits .or .u8 224 y) (g := fun y => 224 + y) or224 x h0 h1
  · exact lift_fin (f := fun y => Go.bits .or .u8 240 y) (g := fun y => 240 + y) or240 x h0 h1
/-- A digit of base 16. -/
def hexD (n : Int) : Int := if n < 10 then 48 + n else 87 + n
/-- What stands for a byte. -/
def put1 (c : Int) : List Int := if shortV c ≠ 0 then [92, shortV c] else if c < 32 then [92, 117, 48, 48, hexD (c / 16), hexD (c % 16)] else [c]
def putL (l : List Int) : List Int := l.flatMap put1
theorem short_high {c : Int} (h : 128 ≤ c) : shortV c = 0 := by
  unfold shortV
  repeat rw [if_neg (by omega)]
theorem put1_high {c : Int} (h : 128 ≤ c) : put1 c = [c] := by
  unfold put1
  rw [short_high h, if_neg (by simp), if_neg (by omega)]
theorem putL_app (a b : List Int) : putL (a ++ b) = putL a ++ putL b := List.flatMap_append
theorem putL_high : ∀ {l : List Int}, (∀ x ∈ l, 128 ≤ x) → putL l = l
  | [], _ => rfl
  | c :: t, h => by
    have h1 := put1_high (h c (List.mem_cons_self ..))
    have h2 := putL_high (l := t) (fun x hx => h x (List.mem_cons_of_mem _ hx))
    show put1 c ++ putL t = c :: t
    rw [h1, h2]
    rfl
theorem encR_high {v : Int} (h : validR v) (h1 : 128 ≤ v) : ∀ x ∈ encR v, 128 ≤ x := by
  unfold validR at h
  intro x hx
  unfold encR at hx
  rw [if_neg (by omega)] at hx
  split at hx
  · simp at hx; omega
  · split at hx
    · simp at hx; omega
    · simp at hx; omega
/-- What Put adds for a rune. -/
theorem putL_rune {v : Int} (h : validR v) : putL (encR v) = if v < 128 then put1 v else encR v := by
  split
  · rename_i h1
    unfold encR
    rw [if_pos h1]
    show put1 v ++ [] = put1 v
    rw [List.append_nil]
  · exact putL_high (encR_high h (by omega))
end Go.Proofs.YtfpgjkaaadnmcaaDoor.P
