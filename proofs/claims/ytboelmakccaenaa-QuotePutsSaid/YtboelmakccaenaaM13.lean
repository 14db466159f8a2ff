/- quote.Put: what it puts for a byte; the library's AppendRune and quote.short, as plain functions. -/
import Derived.Test.YtboelmakccaenaaU2
import Derived.Test.YtboelmakccaenaaG78
import Derived.Test.YtboelmakccaenaaG79
namespace Go.Proofs.Ytboelmakccaenaa.P
set_option linter.unusedVariables false
set_option linter.unusedSimpArgs false
open Go.RowKit Go.Proofs.YtboelmakccaenaaW.PrintWords Go.Proofs.YtboelmakccaenaaW.PrintLast Go.Proofs.YtboelmakccaenaaW.PrintMore
/-- The letter behind a backslash; 0: none. -/
def shortV (r : Int) : Int := if r = 34 then 34 else if r = 92 then 92 else if r = 8 then 98 else if r = 9 then 116 else if r = 10 then 110 else if r = 12 then 102 else if r = 13 then 114 else 0
theorem short_f (r : Int) : quote_short.f 1 r = some (shortV r) := by
  unfold quote_short.f shortV
  by_cases h1 : r = 34
  · subst h1; rfl
  · rw [if_neg h1, if_neg h1]
    simp only [quote_short.j0]
    by_cases h2 : r = 92
    · subst h2; rfl
    · have e : ¬ (r == 92) = true := by simpa using h2
      rw [if_neg e, if_neg h2]
      repeat' split
      all_goals rfl
theorem short_calls (r : Int) (w : World) : Calls Try.prog 78 #[.int .i32 r] w fun e w' => e = .returned (.int .u8 (shortV r)) ∧ Drawn0 w w' := quote_short.calls 1 r (shortV r) w (short_f r)
theorem or192 : ∀ n : Fin 32, Go.bits .or .u8 192 (n.val : Int) = 192 + (n.val : Int) := by decide
theorem or224 : ∀ n : Fin 16, Go.bits .or .u8 224 (n.val : Int) = 224 + (n.val : Int) := by decide
theorem or240 : ∀ n : Fin 8, Go.bits .or .u8 240 (n.val : Int) = 240 + (n.val : Int) := by decide
theorem lift_fin {n : Nat} {f g : Int → Int} (h : ∀ k : Fin n, f (k.val : Int) = g (k.val : Int)) (x : Int) (h0 : 0 ≤ x) (h1 : x < n) : f x = g x := by
  have := h ⟨x.toNat, by omega⟩
  simp only [Int.toNat_of_nonneg h0] at this
  exact this
theorem lead (b : Int) (n : Nat) (x : Int) (hb : (b = 192 ∧ n = 32) ∨ (b = 224 ∧ n = 16) ∨ (b = 240 ∧ n = 8)) (h0 : 0 ≤ x) (h1 : x < n) : Go.bits .or .u8 b (x % 256) = b + x := by
  have e : x % 256 = x := by omega
  rw [e]
  rcases hb with ⟨rfl, rfl⟩ | ⟨rfl, rfl⟩ | ⟨rfl, rfl⟩
  · exact lift_fin (f := fun y => Go.bits .or .u8 192 y) (g := fun y => 192 + y) or192 x h0 h1
  · exact lift_fin (f := fun y => Go.bits .or .u8 224 y) (g := fun y => 224 + y) or224 x h0 h1
  · exact lift_fin (f := fun y => Go.bits .or .u8 240 y) (g := fun y => 240 + y) or240 x h0 h1
theorem append_f (v : Int) (l : List Int) (h : validR v) (hl : l.length ≤ 140737488355000) : utf8_AppendRune.f 1 l v = some (l ++ encR v) := by
  unfold validR at h
  have e0 : v % 4294967296 = v := by omega
  unfold utf8_AppendRune.f encR
  rw [e0]
  by_cases h1 : v < 128
  · have e1 : v % 256 = v := by omega
    rw [if_pos (by omega), if_pos h1, if_pos (by omega), e1]
  · rw [if_neg (by omega), if_neg h1]
    unfold utf8_appendRuneNonASCII.f
    rw [e0]
    by_cases h2 : v < 2048
    · have a1 := lead 192 32 (v / 64) (by decide) (by omega) (by omega)
      rw [if_pos (by omega), if_pos h2, Option.bind_some, a1]
      rw [if_pos (by simp; omega)]
      rfl
    · rw [if_neg (by omega), if_neg h2]
      by_cases h3 : v < 65536
      · have a1 := lead 224 16 (v / 4096) (by decide) (by omega) (by omega)
        have hx : (if v < 55296 then utf8_appendRuneNonASCII.j0 1 l v v (decide (v < 55296)) else if 57343 < v then utf8_appendRuneNonASCII.j0 1 l v v (decide (v ≤ 65535)) else utf8_appendRuneNonASCII.j0 1 l v v false) = utf8_appendRuneNonASCII.j0 1 l v v true := by
          by_cases h4 : v < 55296
          · rw [if_pos h4, decide_eq_true h4]
          · rw [if_neg h4, if_pos (by omega), decide_eq_true (by omega)]
        rw [hx, if_pos h3]
        simp only [utf8_appendRuneNonASCII.j0]
        rw [if_pos trivial, Option.bind_some, a1]
        rw [if_pos (by simp; omega)]
        rfl
      · have a1 := lead 240 8 (v / 262144) (by decide) (by omega) (by omega)
        rw [if_neg (by omega), if_pos (by omega), decide_eq_false (by omega), if_neg h3]
        simp only [utf8_appendRuneNonASCII.j0]
        rw [if_neg (by decide), if_pos (by omega), if_pos (by omega), Option.bind_some, a1]
        rw [if_pos (by simp; omega)]
        rfl
/-- A digit of base 16. -/
def hexD (n : Int) : Int := if n < 10 then 48 + n else 87 + n
/-- What stands for a byte. -/
def put1 (c : Int) : List Int := if shortV c ≠ 0 then [92, shortV c] else if c < 32 then [92, 117, 48, 48, hexD (c / 16), hexD (c % 16)] else [c]
def putL (l : List Int) : List Int := l.flatMap put1
theorem short_high {c : Int} (h : 128 ≤ c) : shortV c = 0 := by
  unfold shortV
  repeat rw [if_neg (by omega)]
theorem put1_high {c : Int} (h : 128 ≤ c) : put1 c = [c] := by
  unfold put1
  rw [short_high h, if_neg (by simp), if_neg (by omega)]
theorem putL_app (a b : List Int) : putL (a ++ b) = putL a ++ putL b := List.flatMap_append
theorem putL_high : ∀ {l : List Int}, (∀ x ∈ l, 128 ≤ x) → putL l = l
  | [], _ => rfl
  | c :: t, h => by
    have h1 := put1_high (h c (List.mem_cons_self ..))
    have h2 := putL_high (l := t) (fun x hx => h x (List.mem_cons_of_mem _ hx))
    show put1 c ++ putL t = c :: t
    rw [h1, h2]
    rfl
theorem encR_high {v : Int} (h : validR v) (h1 : 128 ≤ v) : ∀ x ∈ encR v, 128 ≤ x := by
  unfold validR at h
  intro x hx
  unfold encR at hx
  rw [if_neg (by omega)] at hx
  split at hx
  · simp at hx; omega
  · split at hx
    · simp at hx; omega
    · simp at hx; omega
/-- What Put adds for a rune. -/
theorem putL_rune {v : Int} (h : validR v) : putL (encR v) = if v < 128 then put1 v else encR v := by
  split
  · rename_i h1
    unfold encR
    rw [if_pos h1]
    show put1 v ++ [] = put1 v
    rw [List.append_nil]
  · exact putL_high (encR_high h (by omega))
end Go.Proofs.Ytboelmakccaenaa.P
