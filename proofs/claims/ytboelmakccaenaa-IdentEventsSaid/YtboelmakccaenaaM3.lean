/- What letters.Decode computes: the bytes of letters, letter by letter. -/
import Derived.Test.YtboelmakccaenaaG77
import Derived.Test.YtboelmakccaenaaM2
import Derived.Lib.OthersKept
namespace Go.Proofs.Ytboelmakccaenaa.P
set_option linter.unusedVariables false
open Go.RowKit Go.Proofs.YtboelmakccaenaaW.PrintWords Go.Proofs.YtboelmakccaenaaW.PrintLast Go.Proofs.YtboelmakccaenaaW.PrintMore
/-- A letter's number. -/
def valOf (u : Bool) (r : Int) : Option Int :=
  if 65 ≤ r ∧ r ≤ 90 then some (r - 65) else if 97 ≤ r ∧ r ≤ 122 then some (r - 71) else if 48 ≤ r ∧ r ≤ 57 then some (r + 4)
  else if r = (if u then 45 else 43) then some 62 else if r = (if u then 95 else 47) then some 63 else none
theorem u64_id (x : Int) (h0 : 0 ≤ x) (h1 : x < 18446744073709551616) : IntKind.u64.wrap x = x := by simp [IntKind.wrap, IntKind.bits, IntKind.signed]; omega
theorem wrap32_id (x : Int) (h0 : -2147483648 ≤ x) (h1 : x ≤ 2147483647) : wrap32 x = x := by unfold wrap32; omega
theorem value_eq (u : Bool) (r : Int) (h0 : 0 ≤ r) (h1 : r ≤ 2147483647) : letters_value.f 7 r u = some ((valOf u r).getD 0, (valOf u r).isSome) := by
  have e1 : 65 ≤ r → IntKind.u64.wrap (wrap32 (r - 65)) = r - 65 := fun h => by rw [wrap32_id _ (by omega) (by omega), u64_id _ (by omega) (by omega)]
  have e2 : 97 ≤ r → IntKind.u64.wrap ((IntKind.u64.wrap (wrap32 (r - 97))) + 26) = r - 71 := fun h => by rw [wrap32_id _ (by omega) (by omega), u64_id (r - 97) (by omega) (by omega), u64_id _ (by omega) (by omega)]; omega
  have e3 : 48 ≤ r → IntKind.u64.wrap ((IntKind.u64.wrap (wrap32 (r - 48))) + 52) = r + 4 := fun h => by rw [wrap32_id _ (by omega) (by omega), u64_id (r - 48) (by omega) (by omega), u64_id _ (by omega) (by omega)]; omega
  unfold valOf
  simp only [letters_value.f, letters_value.j0, letters_value.j1, letters_value.j2, letters_value.j3, letters_value.j4, letters_value.j5]
  by_cases a1 : 65 ≤ r ∧ r ≤ 90
  · obtain ⟨b1, b2⟩ := a1
    simp [b1, b2, e1]
  · by_cases a2 : 97 ≤ r ∧ r ≤ 122
    · obtain ⟨b1, b2⟩ := a2
      have c1 : ¬ r ≤ 90 := by omega
      have c2 : 65 ≤ r := by omega
      simp [b1, b2, c1, c2, e2]
    · by_cases a3 : 48 ≤ r ∧ r ≤ 57
      · obtain ⟨b1, b2⟩ := a3
        have c1 : ¬ 65 ≤ r := by omega
        have c2 : ¬ 97 ≤ r := by omega
        simp [b1, b2, c1, c2, e3]
      · have d1 : 65 ≤ r → ¬ r ≤ 90 := fun h h' => a1 ⟨h, h'⟩
        have d2 : 97 ≤ r → ¬ r ≤ 122 := fun h h' => a2 ⟨h, h'⟩
        have d3 : 48 ≤ r → ¬ r ≤ 57 := fun h h' => a3 ⟨h, h'⟩
        rw [if_neg a1, if_neg a2, if_neg a3]
        have s1 : ∀ X : Option (Int × Bool), (if 65 ≤ r then (if decide (r ≤ 90) = true then X else X) else X) = X := fun X => by split <;> (try split) <;> rfl
        by_cases k1 : 65 ≤ r <;> by_cases k2 : 97 ≤ r <;> by_cases k3 : 48 ≤ r <;> (try (exfalso; omega)) <;> cases u <;> by_cases q1 : r = 43 <;> by_cases q2 : r = 45 <;> by_cases q3 : r = 47 <;> by_cases q4 : r = 95 <;> (try (exfalso; omega)) <;> simp_all <;> (repeat rw [if_neg (by omega)])
theorem value_calls (u : Bool) (r : Int) (w : World) (h0 : 0 ≤ r) (h1 : r ≤ 2147483647) :
    Calls Try.prog 77 #[.int .i32 r, .bool u] w fun e w' => e = .returned (.tuple #[.int .u64 ((valOf u r).getD 0), .bool (valOf u r).isSome]) ∧ Drawn0 w w' :=
  letters_value.calls 7 r u _ _ w (value_eq u r h0 h1)
theorem valOf_range {u : Bool} {r v : Int} (h : valOf u r = some v) : 0 ≤ v ∧ v < 64 ∧ 43 ≤ r ∧ r ≤ 122 := by
  cases u <;> simp only [valOf, if_true, if_false, Bool.false_eq_true] at h
  all_goals
    repeat' split at h
    all_goals first | (injection h with h; omega) | (cases h)
theorem bt_get (s : ByteArray) (pos : Nat) (hp : pos < s.size) : bt s pos = ((s[pos]'hp).toNat : Int) := by
  simp [bt, hp]
theorem valOf_rune (u : Bool) (s : ByteArray) (pos : Nat) (hp : pos < s.size) : valOf u ((Utf8.decode s pos).1 : Int) = valOf u (bt s pos) := by
  rw [bt_get s pos hp]
  by_cases ha : (s[pos]'hp).toNat < 128
  · rw [decode_ascii s pos hp ha]
  · have h1 := (decode_high s pos hp (by omega)).1
    have f1 : valOf u ((Utf8.decode s pos).1 : Int) = none := by
      rcases h : valOf u ((Utf8.decode s pos).1 : Int) with _ | v
      · rfl
      · have := valOf_range h; omega
    have f2 : valOf u ((s[pos]'hp).toNat : Int) = none := by
      rcases h : valOf u ((s[pos]'hp).toNat : Int) with _ | v
      · rfl
      · have := valOf_range h; omega
    rw [f1, f2]
theorem decode_one {u : Bool} {s : ByteArray} {pos : Nat} (hp : pos < s.size) {v : Int} (h : valOf u (bt s pos) = some v) : (Utf8.decode s pos).2 = 1 := by
  have hr := valOf_range h
  rw [bt_get s pos hp] at hr
  rw [decode_ascii s pos hp (by omega)]
/-- The letters that are left, with what was made and what is held. -/
def decGo (u : Bool) : List Int → List Int → Int → Int → Option (List Int)
  | [], out, h, b => if 6 ≤ b ∨ h ≠ 0 then none else some out
  | c :: t, out, h, b =>
    match valOf u c with
    | none => none
    | some v => if 2 ≤ b then decGo u t (out ++ [(h * 64 + v) / 2 ^ (b - 2).toNat]) ((h * 64 + v) % 2 ^ (b - 2).toNat) (b - 2) else decGo u t out (h * 64 + v) (b + 6)
def decL (u : Bool) (l : List Int) : Option (List Int) := decGo u l [] 0 0
theorem drop_bytes (s : ByteArray) (pos : Nat) (hp : pos < s.size) : (bytesOf s).drop pos = bt s pos :: (bytesOf s).drop (pos + 1) := by
  have hl : pos < (bytesOf s).length := by rw [bytesOf_length]; exact hp
  rw [List.drop_eq_getElem_cons hl]
  congr 1
  have := rd_bytesOf s pos
  rw [← this]
  simp [rd, hl]
/-- What is held: b bits, 0, 2, 4 or 6. -/
def Held (h b : Int) : Prop := (b = 0 ∧ h = 0) ∨ (b = 2 ∧ 0 ≤ h ∧ h < 4) ∨ (b = 4 ∧ 0 ≤ h ∧ h < 16) ∨ (b = 6 ∧ 0 ≤ h ∧ h < 64)
theorem join6 {h b v : Int} (hh : Held h b) (hv : 0 ≤ v ∧ v < 64) : Go.bits .or .u64 (IntKind.u64.wrap (h * 64)) v = h * 64 + v := by
  have hr : 0 ≤ h ∧ h < 64 := by unfold Held at hh; omega
  rw [u64_id _ (by omega) (by omega), u64_or _ _ (by omega) (by omega) (by omega) (by omega), nat_join 6 _ _ (by omega) (by omega)]
  omega
end Go.Proofs.Ytboelmakccaenaa.P
