/- The document's Bytes and hex (layer 8), by their walks. -/
import Derived.Test.YtfpgjkaaadnmcaaDoorQh
import Derived.Test.YtfpgjkaaadnmcaaDoorOs
namespace Go.Proofs.YtfpgjkaaadnmcaaDoor.P
set_option linter.unusedVariables false
set_option linter.unusedSimpArgs false
open Go.RowKit Go.Proofs.YtfpgjkaaadnmcaaDoorW.PrintWords Go.Proofs.YtfpgjkaaadnmcaaDoorW.PrintLast Go.Proofs.YtfpgjkaaadnmcaaDoorW.PrintMore
attribute [local go_sem] setCell_drewN
set_option maxRecDepth 100000 in
set_option maxHeartbeats 1000000 in
theorem bytes_calls (v : Int) (w : World) (h : validR v) : Calls Tryd.prog 13 #[.int .i64 v] w fun e w' => e = .returned (.string (strOfNums (encR v))) ∧ Below w.heap.size w w' := by
  unfold validR at h
  have e0 : 0 ≤ v := h.1
  have e1 : v ≤ 1114111 := h.2.1
  by_cases h1 : v < 128
  · have eE : encR v = [v] := by unfold encR; rw [if_pos h1]
    rw [eE]
    have hcv : (convert 33 9 (.slice (some ⟨w.heap.size, 0, none⟩) 1 1)).run Tryd.prog (w.alloc (.cells #[.int .u8 (v)] 5)) = .ok (.string (strOfNums [v])) (w.alloc (.cells #[.int .u8 (v)] 5)) := OwnL.str (OwnL.made w w.heap.size [v] (Nat.le_refl _) (by simp [maxLen]))
    have HB := Aside0.mk (bel_any w (.cells #[.int .u8 (v)] 5))
    have w0 : IntKind.u8.wrap (v) = v := by rw [u8w]; omega
    have v0 : IntKind.i64.wrap (v) = v := i64w _ (by omega)
    have d1 : (v < 128) = True := eq_true (by omega)
    clear h1
    clear h eE
    go_enter Tryd.func13, Tryd.ntmps13
    go_wp2_with fail
    go_ret
    exact ⟨rfl, HB.out⟩
  by_cases h2 : v < 2048
  · have eE : encR v = [192 + v / 64, 128 + v % 64] := by unfold encR; rw [if_neg h1, if_pos h2]
    rw [eE]
    have hcv : (convert 33 9 (.slice (some ⟨w.heap.size, 0, none⟩) 2 2)).run Tryd.prog (w.alloc (.cells #[.int .u8 (192 + v / 64), .int .u8 (128 + v % 64)] 5)) = .ok (.string (strOfNums [192 + v / 64, 128 + v % 64])) (w.alloc (.cells #[.int .u8 (192 + v / 64), .int .u8 (128 + v % 64)] 5)) := OwnL.str (OwnL.made w w.heap.size [192 + v / 64, 128 + v % 64] (Nat.le_refl _) (by simp [maxLen]))
    have HB := Aside0.mk (bel_any w (.cells #[.int .u8 (192 + v / 64), .int .u8 (128 + v % 64)] 5))
    have w0 : IntKind.u8.wrap (192 + v / 64) = 192 + v / 64 := by rw [u8w]; omega
    have v0 : IntKind.i64.wrap (192 + v / 64) = 192 + v / 64 := i64w _ (by omega)
    have w1 : IntKind.u8.wrap (128 + v % 64) = 128 + v % 64 := by rw [u8w]; omega
    have v1 : IntKind.i64.wrap (128 + v % 64) = 128 + v % 64 := i64w _ (by omega)
    have d1 : (v < 128) = False := eq_false (by omega)
    have d2 : (v < 2048) = True := eq_true (by omega)
    clear h1 h2
    clear h eE
    go_enter Tryd.func13, Tryd.ntmps13
    go_wp2_with fail
    go_ret
    exact ⟨rfl, HB.out⟩
  by_cases h3 : v < 65536
  · have eE : encR v = [224 + v / 4096, 128 + v / 64 % 64, 128 + v % 64] := by unfold encR; rw [if_neg h1, if_neg h2, if_pos h3]
    rw [eE]
    have hcv : (convert 33 9 (.slice (some ⟨w.heap.size, 0, none⟩) 3 3)).run Tryd.prog (w.alloc (.cells #[.int .u8 (224 + v / 4096), .int .u8 (128 + v / 64 % 64), .int .u8 (128 + v % 64)] 5)) = .ok (.string (strOfNums [224 + v / 4096, 128 + v / 64 % 64, 128 + v % 64])) (w.alloc (.cells #[.int .u8 (224 + v / 4096), .int .u8 (128 + v / 64 % 64), .int .u8 (128 + v % 64)] 5)) := OwnL.str (OwnL.made w w.heap.size [224 + v / 4096, 128 + v / 64 % 64, 128 + v % 64] (Nat.le_refl _) (by simp [maxLen]))
    have HB := Aside0.mk (bel_any w (.cells #[.int .u8 (224 + v / 4096), .int .u8 (128 + v / 64 % 64), .int .u8 (128 + v % 64)] 5))
    have w0 : IntKind.u8.wrap (224 + v / 4096) = 224 + v / 4096 := by rw [u8w]; omega
    have v0 : IntKind.i64.wrap (224 + v / 4096) = 224 + v / 4096 := i64w _ (by omega)
    have w1 : IntKind.u8.wrap (128 + v / 64 % 64) = 128 + v / 64 % 64 := by rw [u8w]; omega
    have v1 : IntKind.i64.wrap (128 + v / 64 % 64) = 128 + v / 64 % 64 := i64w _ (by omega)
    have w2 : IntKind.u8.wrap (128 + v % 64) = 128 + v % 64 := by rw [u8w]; omega
    have v2 : IntKind.i64.wrap (128 + v % 64) = 128 + v % 64 := i64w _ (by omega)
    have d1 : (v < 128) = False := eq_false (by omega)
    have d2 : (v < 2048) = False := eq_false (by omega)
    have d3 : (v < 65536) = True := eq_true (by omega)
    clear h1 h2 h3
    clear h eE
    go_enter Tryd.func13, Tryd.ntmps13
    go_wp2_with fail
    go_ret
    exact ⟨rfl, HB.out⟩
  · have eE : encR v = [240 + v / 262144, 128 + v / 4096 % 64, 128 + v / 64 % 64, 128 + v % 64] := by unfold encR; rw [if_neg h1, if_neg h2, if_neg h3]
    rw [eE]
    have hcv : (convert 33 9 (.slice (some ⟨w.heap.size, 0, none⟩) 4 4)).run Tryd.prog (w.alloc (.cells #[.int .u8 (240 + v / 262144), .int .u8 (128 + v / 4096 % 64), .int .u8 (128 + v / 64 % 64), .int .u8 (128 + v % 64)] 5)) = .ok (.string (strOfNums [240 + v / 262144, 128 + v / 4096 % 64, 128 + v / 64 % 64, 128 + v % 64])) (w.alloc (.cells #[.int .u8 (240 + v / 262144), .int .u8 (128 + v / 4096 % 64), .int .u8 (128 + v / 64 % 64), .int .u8 (128 + v % 64)] 5)) := OwnL.str (OwnL.made w w.heap.size [240 + v / 262144, 128 + v / 4096 % 64, 128 + v / 64 % 64, 128 + v % 64] (Nat.le_refl _) (by simp [maxLen]))
    have HB := Aside0.mk (bel_any w (.cells #[.int .u8 (240 + v / 262144), .int .u8 (128 + v / 4096 % 64), .int .u8 (128 + v / 64 % 64), .int .u8 (128 + v % 64)] 5))
    have w0 : IntKind.u8.wrap (240 + v / 262144) = 240 + v / 262144 := by rw [u8w]; omega
    have v0 : IntKind.i64.wrap (240 + v / 262144) = 240 + v / 262144 := i64w _ (by omega)
    have w1 : IntKind.u8.wrap (128 + v / 4096 % 64) = 128 + v / 4096 % 64 := by rw [u8w]; omega
    have v1 : IntKind.i64.wrap (128 + v / 4096 % 64) = 128 + v / 4096 % 64 := i64w _ (by omega)
    have w2 : IntKind.u8.wrap (128 + v / 64 % 64) = 128 + v / 64 % 64 := by rw [u8w]; omega
    have v2 : IntKind.i64.wrap (128 + v / 64 % 64) = 128 + v / 64 % 64 := i64w _ (by omega)
    have w3 : IntKind.u8.wrap (128 + v % 64) = 128 + v % 64 := by rw [u8w]; omega
    have v3 : IntKind.i64.wrap (128 + v % 64) = 128 + v % 64 := i64w _ (by omega)
    have d1 : (v < 128) = False := eq_false (by omega)
    have d2 : (v < 2048) = False := eq_false (by omega)
    have d3 : (v < 65536) = False := eq_false (by omega)
    clear h1 h2 h3
    clear h eE
    go_enter Tryd.func13, Tryd.ntmps13
    go_wp2_with fail
    go_ret
    exact ⟨rfl, HB.out⟩
/-- The number of an escape's digits, from its backslash on. -/
def hxR : List Int → Option Int
  | a :: b :: t => if a = 92 ∧ b = 117 then hx4 t else none
  | _ => none
def hxV (o : Option Int) : Int := match o with | some n => n | none => -1
theorem hxR_short {l : List Int} (h : l.length < 6) : hxR l = none := by
  match l, h with
  | [], _ => rfl
  | [a], _ => rfl
  | a :: b :: t, h =>
    simp only [hxR]
    split
    · unfold hx4; rw [if_pos (by simp at h; omega)]
    · rfl
def HexRel (t4 : List Int) (v3 v4 : Value) : Prop :=
  ∃ (i : Nat) (n : Int), 2 ≤ i ∧ i ≤ 6 ∧ v4 = .int .i64 (i : Int) ∧ v3 = .int .i64 n ∧ 0 ≤ n ∧ n < 16 ^ (i - 2) ∧ fourF t4 0 = fourF (t4.drop (i - 2)) n
set_option maxRecDepth 100000 in
set_option maxHeartbeats 4000000 in
theorem hex_calls (s : ByteArray) (w : World) (hs : s.size ≤ 140737488351232) : Calls Tryd.prog 25 #[.string s] w fun e w' => e = .returned (.int .i64 (hxV (hxR (bytesOf s)))) ∧ w' = w := by
  by_cases h6 : s.size < 6
  · rw [hxR_short (by rw [bytesOf_length]; exact h6)]
    have k1 : ((s.size : Int) < 6) = True := eq_true (by omega)
    clear h6
    go_enter Tryd.func25, Tryd.ntmps25
    go_wp2_with fail
    go_ret
    exact ⟨rfl, rfl⟩
  have k1 : ((s.size : Int) < 6) = False := eq_false (by omega)
  have hsz0 : (0 : Int) < (s.size : Int) := by omega
  have hsz1 : (1 : Int) < (s.size : Int) := by omega
  rcases hl : bytesOf s with _ | ⟨a, _ | ⟨b, t⟩⟩
  · have h := congrArg List.length hl; rw [bytesOf_length, List.length_nil] at h; omega
  · have h := congrArg List.length hl; rw [bytesOf_length, List.length_cons, List.length_nil] at h; omega
  have hlen : s.size = t.length + 2 := by have h := congrArg List.length hl; rw [bytesOf_length] at h; simpa using h
  have hbs : Bs (a :: b :: t) := by rw [← hl]; exact bs_bytes s
  obtain ⟨_, hb0, hd0⟩ := bt_drop s 0 a (b :: t) (by rw [List.drop_zero]; exact hl)
  obtain ⟨_, hb1, hd1⟩ := bt_drop s 1 b t hd0
  have hx0 : ∀ h : 0 < s.size, ((s[0]'h).toNat : Int) = a := fun h => (bt_at s 0 h).trans hb0
  have hx1 : ∀ h : 1 < s.size, ((s[1]'h).toNat : Int) = b := fun h => (bt_at s 1 h).trans hb1
  have HBS := Aside0.mk hbs
  have HD1 := Aside0.mk hd1
  have h6s : 6 ≤ s.size := by omega
  clear h6 hl hb0 hd0 hb1 hd1 hbs
  by_cases ha : a = 92
  rotate_left
  · rw [show hxR (a :: b :: t) = none from if_neg (fun h => ha h.1)]
    have e1 : (a == 92) = false := beq_eq_false_iff_ne.mpr ha
    have e2 : (a != 92) = true := bne_iff_ne.mpr ha
    clear ha hlen
    go_enter Tryd.func25, Tryd.ntmps25
    go_wp2_with fail
    go_ret
    exact ⟨rfl, rfl⟩
  subst ha
  by_cases hb : b = 117
  rotate_left
  · rw [show hxR (92 :: b :: t) = none from if_neg (fun h => hb h.2)]
    have e1 : (b == 117) = false := beq_eq_false_iff_ne.mpr hb
    have e2 : (b != 117) = true := bne_iff_ne.mpr hb
    clear hb hlen
    go_enter Tryd.func25, Tryd.ntmps25
    go_wp2_with fail
    go_ret
    exact ⟨rfl, rfl⟩
  subst hb
  have e4 : hxR (92 :: 117 :: t) = fourF (t.take 4) 0 := by
    rw [show hxR (92 :: 117 :: t) = hx4 t from by simp only [hxR]; rw [if_pos ⟨trivial, trivial⟩]]
    unfold hx4; rw [if_neg (by omega)]
  rw [e4]
  have HLEN := Aside0.mk hlen
  clear e4 hlen
  go_enter Tryd.func25, Tryd.ntmps25
  go_wp2_with fail
  go_loop [3, 4] (fun v3 v4 => HexRel (t.take 4) v3 v4) (fun _ v => 6 - (intOf v).toNat)
  case atStart => exact ⟨2, 0, by omega, by omega, rfl, rfl, by omega, by omega, rfl⟩
  case round =>
    obtain ⟨i, n, hi1, hi2, rfl, rfl, hn0, hn1, hf⟩ := hrel
    have HF := Aside0.mk hf
    have HN1 := Aside0.mk hn1
    clear hf hn1
    by_cases hin : i < 6
    · have k2 : ((i : Int) < 6) = True := eq_true (by omega)
      have hil : i < s.size := by omega
      have k3 : ((i : Int) < (s.size : Int)) = True := eq_true (by omega)
      rcases hd : t.drop (i - 2) with _ | ⟨c, t'⟩
      · have := drop_nil hd; have := HLEN.out; omega
      obtain ⟨_, hbc, _⟩ := bt_drop s i c t' (by rw [show i = 2 + (i - 2) by omega, ← List.drop_drop, HD1.out]; exact hd)
      have hxi : ∀ h : i < s.size, ((s[i]'h).toNat : Int) = c := fun h => (bt_at s i h).trans hbc
      have hcb : 0 ≤ c ∧ c ≤ 255 := by
        have := HBS.out.tail.tail.drop (i - 2)
        rw [hd] at this
        exact this.head
      have hd4 : (t.take 4).drop (i - 2) = c :: (t.take 4).drop (i + 1 - 2) := by
        rw [List.drop_take, hd, show 4 - (i - 2) = (6 - i - 1) + 1 by omega, List.take_succ_cons]
        congr 1
        rw [List.drop_take, show i + 1 - 2 = (i - 2) + 1 by omega, ← List.drop_drop, hd, show 4 - (i - 2 + 1) = 6 - i - 1 by omega]
        rfl
      rw [hd4] at HF
      have hp : (16 : Int) ^ (i - 2) ≤ 4096 := by
        have h4 : i = 2 ∨ i = 3 ∨ i = 4 ∨ i = 5 := by omega
        rcases h4 with rfl | rfl | rfl | rfl <;> decide
      have hnl : n < 4096 := by have := HN1.out; omega
      have hc0 := hcb.1
      have hc1 := hcb.2
      have r0 : IntKind.i64.wrap (16 * n) = 16 * n := i64w _ (by omega)
      have r9 : IntKind.i64.wrap ((i : Int) + 1) = (i : Int) + 1 := i64w _ (by omega)
      have HP : Aside0 ((16 : Int) ^ (i + 1 - 2) = 16 ^ (i - 2) * 16) := ⟨by rw [show i + 1 - 2 = (i - 2) + 1 by omega, Int.pow_succ]⟩
      clear hbc hd hcb hd4 hp
      by_cases hcase : 48 ≤ c ∧ c ≤ 57
      · have t48 : (c ≥ 48) = True := eq_true (by omega)
        have t48b : (48 ≤ c) = True := eq_true (by omega)
        have t57 : (c ≤ 57) = True := eq_true (by omega)
        have t97 : (c ≥ 97) = False := eq_false (by omega)
        have t97b : (97 ≤ c) = False := eq_false (by omega)
        have t102 : (c ≤ 102) = True := eq_true (by omega)
        have t65 : (c ≥ 65) = False := eq_false (by omega)
        have t65b : (65 ≤ c) = False := eq_false (by omega)
        have t70 : (c ≤ 70) = True := eq_true (by omega)
        have hvc : hv c = some (c - 48) := by unfold hv; rw [if_pos (by omega)]
        have HN : Aside0 (fourF (t.take 4) 0 = fourF ((t.take 4).drop (i + 1 - 2)) (16 * n + (c - 48))) := ⟨by rw [HF.out]; simp only [fourF, hvc]; congr 1; omega⟩
        have HN2 : Aside0 (16 * n + (c - 48) < 16 ^ (i + 1 - 2)) := ⟨by rw [HP.out]; have := HN1.out; omega⟩
        have HN3 : Aside0 (0 ≤ 16 * n + (c - 48)) := ⟨by omega⟩
        have s1 : IntKind.u8.wrap (c - 48) = c - 48 := by rw [u8w]; omega
        have s2 : IntKind.i64.wrap (c - 48) = c - 48 := i64w _ (by omega)
        have s3 : IntKind.i64.wrap (16 * n + (c - 48)) = 16 * n + (c - 48) := i64w _ (by omega)
        have s5 : 0 ≤ c - 48 := by omega
        clear hvc hcase
        go_wp2_with fail
        go_round
        case rel => exact ⟨i + 1, 16 * n + (c - 48), by omega, by omega, by go_num, rfl, HN3.out, HN2.out, HN.out⟩
        case measure => simp [intOf]; omega
      have hno48 : c < 48 ∨ 57 < c := by omega
      clear hcase
      by_cases hcase : 65 ≤ c ∧ c ≤ 70
      · have t48 : (c ≥ 48) = True := eq_true (by omega)
        have t48b : (48 ≤ c) = True := eq_true (by omega)
        have t57 : (c ≤ 57) = False := eq_false (by omega)
        have t97 : (c ≥ 97) = False := eq_false (by omega)
        have t97b : (97 ≤ c) = False := eq_false (by omega)
        have t102 : (c ≤ 102) = True := eq_true (by omega)
        have t65 : (c ≥ 65) = True := eq_true (by omega)
        have t65b : (65 ≤ c) = True := eq_true (by omega)
        have t70 : (c ≤ 70) = True := eq_true (by omega)
        have hvc : hv c = some (c - 55) := by unfold hv; rw [if_neg (by omega), if_neg (by omega), if_pos (by omega)]
        have HN : Aside0 (fourF (t.take 4) 0 = fourF ((t.take 4).drop (i + 1 - 2)) (16 * n + (c - 65) + 10)) := ⟨by rw [HF.out]; simp only [fourF, hvc]; congr 1; omega⟩
        have HN2 : Aside0 (16 * n + (c - 65) + 10 < 16 ^ (i + 1 - 2)) := ⟨by rw [HP.out]; have := HN1.out; omega⟩
        have HN3 : Aside0 (0 ≤ 16 * n + (c - 65) + 10) := ⟨by omega⟩
        have s1 : IntKind.u8.wrap (c - 65) = c - 65 := by rw [u8w]; omega
        have s2 : IntKind.i64.wrap (c - 65) = c - 65 := i64w _ (by omega)
        have s3 : IntKind.i64.wrap (16 * n + (c - 65)) = 16 * n + (c - 65) := i64w _ (by omega)
        have s4 : IntKind.i64.wrap (16 * n + (c - 65) + 10) = 16 * n + (c - 65) + 10 := i64w _ (by omega)
        have s5 : 0 ≤ c - 65 := by omega
        clear hvc hcase
        go_wp2_with fail
        go_round
        case rel => exact ⟨i + 1, 16 * n + (c - 65) + 10, by omega, by omega, by go_num, rfl, HN3.out, HN2.out, HN.out⟩
        case measure => simp [intOf]; omega
      have hno65 : c < 65 ∨ 70 < c := by omega
      clear hcase
      by_cases hcase : 97 ≤ c ∧ c ≤ 102
      · have t48 : (c ≥ 48) = True := eq_true (by omega)
        have t48b : (48 ≤ c) = True := eq_true (by omega)
        have t57 : (c ≤ 57) = False := eq_false (by omega)
        have t97 : (c ≥ 97) = True := eq_true (by omega)
        have t97b : (97 ≤ c) = True := eq_true (by omega)
        have t102 : (c ≤ 102) = True := eq_true (by omega)
        have t65 : (c ≥ 65) = True := eq_true (by omega)
        have t65b : (65 ≤ c) = True := eq_true (by omega)
        have t70 : (c ≤ 70) = False := eq_false (by omega)
        have hvc : hv c = some (c - 87) := by unfold hv; rw [if_neg (by omega), if_pos (by omega)]
        have HN : Aside0 (fourF (t.take 4) 0 = fourF ((t.take 4).drop (i + 1 - 2)) (16 * n + (c - 97) + 10)) := ⟨by rw [HF.out]; simp only [fourF, hvc]; congr 1; omega⟩
        have HN2 : Aside0 (16 * n + (c - 97) + 10 < 16 ^ (i + 1 - 2)) := ⟨by rw [HP.out]; have := HN1.out; omega⟩
        have HN3 : Aside0 (0 ≤ 16 * n + (c - 97) + 10) := ⟨by omega⟩
        have s1 : IntKind.u8.wrap (c - 97) = c - 97 := by rw [u8w]; omega
        have s2 : IntKind.i64.wrap (c - 97) = c - 97 := i64w _ (by omega)
        have s3 : IntKind.i64.wrap (16 * n + (c - 97)) = 16 * n + (c - 97) := i64w _ (by omega)
        have s4 : IntKind.i64.wrap (16 * n + (c - 97) + 10) = 16 * n + (c - 97) + 10 := i64w _ (by omega)
        have s5 : 0 ≤ c - 97 := by omega
        clear hvc hcase
        go_wp2_with fail
        go_round
        case rel => exact ⟨i + 1, 16 * n + (c - 97) + 10, by omega, by omega, by go_num, rfl, HN3.out, HN2.out, HN.out⟩
        case measure => simp [intOf]; omega
      have hno97 : c < 97 ∨ 102 < c := by omega
      clear hcase
      by_cases hcase : 0 ≤ c ∧ c ≤ 47
      · have t48 : (c ≥ 48) = False := eq_false (by omega)
        have t48b : (48 ≤ c) = False := eq_false (by omega)
        have t57 : (c ≤ 57) = True := eq_true (by omega)
        have t97 : (c ≥ 97) = False := eq_false (by omega)
        have t97b : (97 ≤ c) = False := eq_false (by omega)
        have t102 : (c ≤ 102) = True := eq_true (by omega)
        have t65 : (c ≥ 65) = False := eq_false (by omega)
        have t65b : (65 ≤ c) = False := eq_false (by omega)
        have t70 : (c ≤ 70) = True := eq_true (by omega)
        have HN : Aside0 (fourF (t.take 4) 0 = none) := ⟨by rw [HF.out]; simp only [fourF]; rw [show hv c = none by unfold hv; rw [if_neg (by omega), if_neg (by omega), if_neg (by omega)]]⟩
        clear hcase
        go_wp2_with fail
        go_ret
        rw [HN.out]
        exact ⟨rfl, rfl⟩
      have hno0 : c < 0 ∨ 47 < c := by omega
      clear hcase
      by_cases hcase : 58 ≤ c ∧ c ≤ 64
      · have t48 : (c ≥ 48) = True := eq_true (by omega)
        have t48b : (48 ≤ c) = True := eq_true (by omega)
        have t57 : (c ≤ 57) = False := eq_false (by omega)
        have t97 : (c ≥ 97) = False := eq_false (by omega)
        have t97b : (97 ≤ c) = False := eq_false (by omega)
        have t102 : (c ≤ 102) = True := eq_true (by omega)
        have t65 : (c ≥ 65) = False := eq_false (by omega)
        have t65b : (65 ≤ c) = False := eq_false (by omega)
        have t70 : (c ≤ 70) = True := eq_true (by omega)
        have HN : Aside0 (fourF (t.take 4) 0 = none) := ⟨by rw [HF.out]; simp only [fourF]; rw [show hv c = none by unfold hv; rw [if_neg (by omega), if_neg (by omega), if_neg (by omega)]]⟩
        clear hcase
        go_wp2_with fail
        go_ret
        rw [HN.out]
        exact ⟨rfl, rfl⟩
      have hno58 : c < 58 ∨ 64 < c := by omega
      clear hcase
      by_cases hcase : 71 ≤ c ∧ c ≤ 96
      · have t48 : (c ≥ 48) = True := eq_true (by omega)
        have t48b : (48 ≤ c) = True := eq_true (by omega)
        have t57 : (c ≤ 57) = False := eq_false (by omega)
        have t97 : (c ≥ 97) = False := eq_false (by omega)
        have t97b : (97 ≤ c) = False := eq_false (by omega)
        have t102 : (c ≤ 102) = True := eq_true (by omega)
        have t65 : (c ≥ 65) = True := eq_true (by omega)
        have t65b : (65 ≤ c) = True := eq_true (by omega)
        have t70 : (c ≤ 70) = False := eq_false (by omega)
        have HN : Aside0 (fourF (t.take 4) 0 = none) := ⟨by rw [HF.out]; simp only [fourF]; rw [show hv c = none by unfold hv; rw [if_neg (by omega), if_neg (by omega), if_neg (by omega)]]⟩
        clear hcase
        go_wp2_with fail
        go_ret
        rw [HN.out]
        exact ⟨rfl, rfl⟩
      have hno71 : c < 71 ∨ 96 < c := by omega
      clear hcase
      by_cases hcase : 103 ≤ c ∧ c ≤ 255
      · have t48 : (c ≥ 48) = True := eq_true (by omega)
        have t48b : (48 ≤ c) = True := eq_true (by omega)
        have t57 : (c ≤ 57) = False := eq_false (by omega)
        have t97 : (c ≥ 97) = True := eq_true (by omega)
        have t97b : (97 ≤ c) = True := eq_true (by omega)
        have t102 : (c ≤ 102) = False := eq_false (by omega)
        have t65 : (c ≥ 65) = True := eq_true (by omega)
        have t65b : (65 ≤ c) = True := eq_true (by omega)
        have t70 : (c ≤ 70) = False := eq_false (by omega)
        have HN : Aside0 (fourF (t.take 4) 0 = none) := ⟨by rw [HF.out]; simp only [fourF]; rw [show hv c = none by unfold hv; rw [if_neg (by omega), if_neg (by omega), if_neg (by omega)]]⟩
        clear hcase
        go_wp2_with fail
        go_ret
        rw [HN.out]
        exact ⟨rfl, rfl⟩
      have hno103 : c < 103 ∨ 255 < c := by omega
      clear hcase
      omega
    · obtain rfl : i = 6 := by omega
      have HN : Aside0 (fourF (t.take 4) 0 = some n) := ⟨by
        rw [HF.out, List.drop_eq_nil_of_le (by rw [List.length_take]; omega)]; rfl⟩
      have k2 : (((6 : Nat) : Int) < 6) = False := eq_false (by omega)
      clear hin hi1 hi2 k2
      go_wp2_with fail
      go_ret
      rw [HN.out]
      exact ⟨rfl, rfl⟩
end Go.Proofs.YtfpgjkaaadnmcaaDoor.P
