/- Merged of the texts: Ltd, Lte, G49, G44, G33, G40, G30, Xa, G11, Xb, Xc, Wp, Xd, Wh (trim.py). -/
import Derived.Shelf.Abstract
import Derived.Test.YtdleomeiojlooaaYc2
section
namespace Go.Proofs.Ytdleomeiojlooaa.L
set_option linter.unusedVariables false
set_option linter.unusedSimpArgs false
open Go.RowKit Go.Proofs.YtdleomeiojlooaaW.PrintWords Go.Proofs.YtdleomeiojlooaaW.PrintLast Go.Proofs.YtdleomeiojlooaaW.PrintMore Go.Proofs.Ytdleomeiojlooaa.P
theorem val_ltr : ∀ (u : Bool) (n : Fin 64), valOf u (ltr u (n.val : Int)) = some (n.val : Int) := by decide +kernel
theorem ltr_val_all : ∀ (u : Bool) (c : Fin 128), ∀ v, valOf u (c.val : Int) = some v → ltr u v = (c.val : Int) := by
  have h : ∀ (u : Bool) (c : Fin 128), (match valOf u (c.val : Int) with | some v => decide (ltr u v = (c.val : Int)) | none => true) = true := by decide +kernel
  intro u c v hv
  have := h u c
  rw [hv] at this
  simpa using this
theorem ltr_val {u : Bool} {c v : Int} (h : valOf u c = some v) : ltr u v = c := by
  have hr := valOf_range h
  have := ltr_val_all u ⟨c.toNat, by omega⟩ v (by simp; rw [show max c 0 = c from by omega]; exact h)
  simp at this
  omega
theorem ref_find {u : Bool} {s : ByteArray} {xs : List Int} {i : Nat} (hi : i < s.size) {r : List Int × Bool} (h : Ev (fun k => match valOf u (bt s i) with | some v => hustingsref01_Decode.l2 k s u xs i v 0 | none => some (([] : List Int), false)) r) :
    ∀ (d n : Nat), n + d = 64 → (∀ v, valOf u (bt s i) = some v → (n : Int) ≤ v) → Ev (fun k => hustingsref01_Decode.l1 k s u xs i n) r := by
  intro d
  induction d with
  | zero =>
    intro n hn hv
    have : n = 64 := by omega
    subst this
    refine Ev.step (f := fun k => hustingsref01_Decode.j2 k s u xs i 64) (fun k => by simp only [hustingsref01_Decode.l1]; rw [if_neg (by omega)]; rfl) ?_
    rcases hx : valOf u (bt s i) with _ | v
    · rw [hx] at h
      exact Ev.step (f := fun _ => some (([] : List Int), false)) (fun k => by simp only [hustingsref01_Decode.j2]; rw [if_pos trivial]) h
    · have := hv v hx
      have := valOf_range hx
      omega
  | succ d ih =>
    intro n hn hv
    have hl : hustingsref01_Letter.f (n : Int) u = some (ltr u n) := letter_at u n (by omega) (by omega)
    by_cases he : ltr u n = bt s i
    · have hx : valOf u (bt s i) = some (n : Int) := by rw [← he]; exact val_ltr u ⟨n, by omega⟩
      rw [hx] at h
      refine Ev.step (f := fun k => hustingsref01_Decode.j2 k s u xs i n) (fun k => by simp only [hustingsref01_Decode.l1]; rw [if_pos (by omega), hl]; simp only [Option.bind_some]; rw [if_pos (by omega), if_pos (by omega), if_pos he]) ?_
      exact Ev.step (f := fun k => hustingsref01_Decode.l2 k s u xs i n 0) (fun k => by simp only [hustingsref01_Decode.j2]; rw [if_neg (by omega)]) h
    · refine Ev.step (f := fun k => hustingsref01_Decode.l1 k s u xs i ((n + 1 : Nat) : Int)) (fun k => by simp only [hustingsref01_Decode.l1]; rw [if_pos (by omega), hl]; simp only [Option.bind_some]; rw [if_pos (by omega), if_pos (by omega), if_neg he, show wrap64 ((n : Int) + 1) = ((n + 1 : Nat) : Int) from by unfold wrap64; omega]) ?_
      refine ih (n + 1) (by omega) (fun v hx => ?_)
      have h1 := hv v hx
      by_cases h2 : v = n
      · exfalso; apply he; rw [← h2]; exact ltr_val hx
      · omega
theorem i64_and1 (x : Int) (h0 : 0 ≤ x) (h1 : x < 64) : Go.bits .and .i64 x 1 = x % 2 := and1_i64 x h0 (by omega)
def sb (v : Int) (j : Nat) : Int := v / 2 ^ (5 - j) % 2
theorem sb_range (v : Int) (j : Nat) : 0 ≤ sb v j ∧ sb v j ≤ 1 := by unfold sb; omega
theorem ref_bit (v : Int) (j : Nat) (hj : j < 6) (h0 : 0 ≤ v) (h1 : v < 64) : 0 ≤ (IntKind.u64.wrap (wrap64 (5 - (j : Int)))) ∧ Go.bits .and .i64 (shr .i64 v (IntKind.u64.wrap (wrap64 (5 - (j : Int))))) 1 = sb v j := by
  have e1 : wrap64 (5 - (j : Int)) = ((5 - j : Nat) : Int) := by unfold wrap64; omega
  have e2 : IntKind.u64.wrap ((5 - j : Nat) : Int) = ((5 - j : Nat) : Int) := u64_id _ (by omega) (by omega)
  rw [e1, e2]
  have e3 : shr .i64 v ((5 - j : Nat) : Int) = v / 2 ^ (5 - j) := by
    unfold shr; rw [Nat.min_eq_left (by simp [IntKind.bits]; omega)]; simp
  have hp : (0 : Int) < 2 ^ (5 - j) := Int.pow_pos (by omega)
  have a := Int.ediv_nonneg h0 (Int.le_of_lt hp)
  have b := Int.ediv_le_self (2 ^ (5 - j)) h0
  rw [e3, i64_and1 _ a (by omega)]
  exact ⟨by omega, rfl⟩
theorem place (i j : Nat) (hi : i ≤ 1099511627776) (hj : j < 6) : wrap64 ((wrap64 (6 * (i : Int))) + (j : Int)) = ((6 * i + j : Nat) : Int) := by unfold wrap64; omega
theorem place_q (p : Nat) (hp : p ≤ 8796093022208) : wrap64 (Int.tdiv (p : Int) 8) = ((p / 8 : Nat) : Int) := by
  rw [Int.tdiv_eq_ediv_of_nonneg (by omega)]; unfold wrap64; omega
theorem place_r (p : Nat) : IntKind.u64.wrap (Int.tmod (p : Int) 8) = ((p % 8 : Nat) : Int) := by
  rw [Int.tmod_eq_emod_of_nonneg (by omega), u64_id _ (by omega) (by omega)]; omega
theorem shr128 (r : Nat) (hr : r < 8) : shr .u8 128 (r : Int) = 2 ^ (7 - r) := by
  unfold shr
  rw [Nat.min_eq_left (by simp [IntKind.bits]; omega)]
  match r, hr with
  | 0, _ => rfl
  | 1, _ => rfl
  | 2, _ => rfl
  | 3, _ => rfl
  | 4, _ => rfl
  | 5, _ => rfl
  | 6, _ => rfl
  | 7, _ => rfl
theorem or_u8 (y : Int) (r : Nat) (hr : r < 8) (h0 : 0 ≤ y) (h1 : y ≤ 255) (hy : y % 2 ^ (8 - r) = 0) : Go.bits .or .u8 y (2 ^ (7 - r)) = y + 2 ^ (7 - r) := by
  match r, hr, hy with
  | 0, _, hy => exact bits_join .u8 8 (by decide) wraps_u8 8 y 128 h0 (by simpa using hy) (by omega) (by decide) (by decide) (by decide)
  | 1, _, hy => exact bits_join .u8 8 (by decide) wraps_u8 7 y 64 h0 (by simpa using hy) (by omega) (by decide) (by decide) (by decide)
  | 2, _, hy => exact bits_join .u8 8 (by decide) wraps_u8 6 y 32 h0 (by simpa using hy) (by omega) (by decide) (by decide) (by decide)
  | 3, _, hy => exact bits_join .u8 8 (by decide) wraps_u8 5 y 16 h0 (by simpa using hy) (by omega) (by decide) (by decide) (by decide)
  | 4, _, hy => exact bits_join .u8 8 (by decide) wraps_u8 4 y 8 h0 (by simpa using hy) (by omega) (by decide) (by decide) (by decide)
  | 5, _, hy => exact bits_join .u8 8 (by decide) wraps_u8 3 y 4 h0 (by simpa using hy) (by omega) (by decide) (by decide) (by decide)
  | 6, _, hy => exact bits_join .u8 8 (by decide) wraps_u8 2 y 2 h0 (by simpa using hy) (by omega) (by decide) (by decide) (by decide)
  | 7, _, hy => exact bits_join .u8 8 (by decide) wraps_u8 1 y 1 h0 (by simpa using hy) (by omega) (by decide) (by decide) (by decide)
theorem ref_in {u : Bool} {s : ByteArray} {out zs : List Int} {y v : Int} {i j r : Nat} (hi : i ≤ 1099511627776) (hj : j < 6) (hp : 6 * i + j = 8 * out.length + r) (hr : r < 8) (hv0 : 0 ≤ v) (hv1 : v < 64) (h0 : 0 ≤ y) (h1 : y ≤ 255) (hy : y % 2 ^ (8 - r) = 0) (k : Nat) :
    hustingsref01_Decode.l2 (k + 1) s u (out ++ y :: zs) i v j = hustingsref01_Decode.l2 k s u (out ++ (y + sb v j * 2 ^ (7 - r)) :: zs) i v ((j + 1 : Nat) : Int) := by
  have hq : (6 * i + j) / 8 = out.length := by omega
  have hr' : (6 * i + j) % 8 = r := by omega
  have e1 : wrap64 ((j : Int) + 1) = ((j + 1 : Nat) : Int) := by unfold wrap64; omega
  obtain ⟨X, hX⟩ : ∃ X, X = out ++ y :: zs := ⟨_, rfl⟩
  have hl : (out.length : Int) < (X.length : Int) := by rw [hX]; simp; omega
  have hrd : rd X (out.length : Int) = y := by rw [hX]; simp [rd]
  have hset : ∀ z, X.set ((out.length : Int)).toNat z = out ++ z :: zs := fun z => by rw [hX]; simp
  have hl2 : ¬ ((out.length : Int) ≥ (X.length : Int)) := by omega
  have h02 : (0 : Int) ≤ (out.length : Int) := by omega
  have h03 : (0 : Int) ≤ (r : Int) := by omega
  have h04 : (j : Int) < 6 := by omega
  have h05 : 6 * i + j ≤ 8796093022208 := by omega
  have h06 : y + 0 * 2 ^ (7 - r) = y := by rw [Int.zero_mul, Int.add_zero]
  have h07 : y + 1 * 2 ^ (7 - r) = y + 2 ^ (7 - r) := by rw [Int.one_mul]
  have hsb := sb_range v j
  have hb1 : ¬ sb v j = 0 → sb v j = 1 := by omega
  obtain ⟨b0, b1⟩ := ref_bit v j hj hv0 hv1
  by_cases hb : sb v j = 0
  · rw [← hX, hb, h06, ← hX]
    simp only [hustingsref01_Decode.l2]
    rw [if_pos h04, if_pos b0, b1, e1, if_pos hb]
  · rw [hb1 hb, h07, ← or_u8 y r hr h0 h1 hy, ← hset (Go.bits .or .u8 y (2 ^ (7 - r))), ← hX]
    simp only [hustingsref01_Decode.l2]
    rw [if_pos h04, if_pos b0, b1, place i j hi hj, place_q _ h05, place_r, hq, hr', e1, if_neg hb, if_neg hl2, if_pos h02, if_pos hl, if_pos h03, hrd, shr128 r hr]
theorem ref_over {u : Bool} {s : ByteArray} {out : List Int} {v : Int} {i : Nat} (hi : i ≤ 1099511627776) (hv0 : 0 ≤ v) (hv1 : v < 64) {res : List Int × Bool} :
    ∀ (m j : Nat), j + m = 6 → 8 * out.length ≤ 6 * i + j →
    Ev (fun k => if v % 2 ^ m = 0 then hustingsref01_Decode.l0 k s u out ((i + 1 : Nat) : Int) else some (([] : List Int), false)) res → Ev (fun k => hustingsref01_Decode.l2 k s u out i v j) res := by
  intro m
  induction m with
  | zero =>
    intro j hj hp h
    refine Ev.step (fun k => ?_) h
    have e1 : wrap64 ((i : Int) + 1) = ((i + 1 : Nat) : Int) := by unfold wrap64; omega
    simp only [hustingsref01_Decode.l2]
    rw [if_neg (by omega), if_pos (by omega), e1]
  | succ m ih =>
    intro j hj hp h
    obtain ⟨b0, b1⟩ := ref_bit v j (by omega) hv0 hv1
    have hsb := sb_range v j
    have e1 : wrap64 ((j : Int) + 1) = ((j + 1 : Nat) : Int) := by unfold wrap64; omega
    have hm : m = 5 - j := by omega
    have hsv : v % 2 ^ (m + 1) = sb v j * 2 ^ m + v % 2 ^ m := by
      unfold sb
      rw [← hm]
      have h6 : m = 0 ∨ m = 1 ∨ m = 2 ∨ m = 3 ∨ m = 4 ∨ m = 5 := by omega
      clear ih hm hj hp h b0 b1 hsb e1
      rcases h6 with rfl | rfl | rfl | rfl | rfl | rfl <;> simp <;> omega
    by_cases hb : sb v j = 0
    · refine Ev.step (f := fun k => hustingsref01_Decode.l2 k s u out i v ((j + 1 : Nat) : Int)) (fun k => ?_) (ih (j + 1) (by omega) (by omega) ?_)
      · simp only [hustingsref01_Decode.l2]
        rw [if_pos (by omega), if_pos b0, b1, if_pos hb, e1]
      · rw [hsv, hb] at h
        simpa using h
    · have hb1 : sb v j = 1 := by omega
      have hpos : (0 : Int) < 2 ^ m := Int.pow_pos (by omega)
      have hnn : 0 ≤ v % 2 ^ m := Int.emod_nonneg _ (by omega)
      rw [hsv, hb1] at h
      have hne : ¬ (1 * 2 ^ m + v % 2 ^ m = 0) := by omega
      simp only [if_neg hne] at h
      refine Ev.step (fun k => ?_) h
      simp only [hustingsref01_Decode.l2]
      rw [if_pos (by omega), if_pos b0, b1, if_neg hb, place i j hi (by omega), place_q _ (by omega), if_pos (by omega)]
theorem ref_in_ev {u : Bool} {s : ByteArray} {out zs : List Int} {y v : Int} {i : Nat} (j r : Nat) (hi : i ≤ 1099511627776) (hj : j < 6) (hp : 6 * i + j = 8 * out.length + r) (hr : r < 8) (hv0 : 0 ≤ v) (hv1 : v < 64) (h0 : 0 ≤ y) (h1 : y ≤ 255) (hy : y % 2 ^ (8 - r) = 0) {res : List Int × Bool}
    (h : Ev (fun k => hustingsref01_Decode.l2 k s u (out ++ (y + sb v j * 2 ^ (7 - r)) :: zs) i v ((j + 1 : Nat) : Int)) res) : Ev (fun k => hustingsref01_Decode.l2 k s u (out ++ y :: zs) i v j) res :=
  Ev.step (fun k => ref_in hi hj hp hr hv0 hv1 h0 h1 hy k) h
theorem ref_exit {u : Bool} {s : ByteArray} {xs : List Int} {v : Int} {i : Nat} (hi : i ≤ 1099511627776) {res : List Int × Bool} (h : Ev (fun k => hustingsref01_Decode.l0 k s u xs ((i + 1 : Nat) : Int)) res) : Ev (fun k => hustingsref01_Decode.l2 k s u xs i v ((6 : Nat) : Int)) res := by
  refine Ev.step (fun k => ?_) h
  have e1 : wrap64 ((i : Int) + 1) = ((i + 1 : Nat) : Int) := by unfold wrap64; omega
  simp only [hustingsref01_Decode.l2]
  rw [if_neg (by omega), e1]
def part (h b : Int) : Nat → List Int
  | 0 => []
  | Z + 1 => (h * 2 ^ (8 - b).toNat) :: List.replicate Z 0
def resOf (o : Option (List Int)) : List Int × Bool := (o.getD [], o.isSome)
theorem sb_all (v : Int) (h0 : 0 ≤ v) (h1 : v < 64) : sb v 0 = v / 32 ∧ sb v 1 = v / 16 % 2 ∧ sb v 2 = v / 8 % 2 ∧ sb v 3 = v / 4 % 2 ∧ sb v 4 = v / 2 % 2 ∧ sb v 5 = v % 2 := by
  unfold sb; simp; omega
set_option maxHeartbeats 2000000 in
theorem ref_dec (u : Bool) (s : ByteArray) (hs : s.size ≤ 1073741824) : ∀ (t : List Int) (i : Nat) (out : List Int) (h b : Int) (Z : Nat), i ≤ s.size → (bytesOf s).drop i = t → Held h b → 6 * (i : Int) = 8 * (out.length : Int) + b →
    8 * (out.length + Z) ≤ 6 * s.size → 6 * s.size < 8 * (out.length + Z) + 8 → (Z = 0 → h = 0) → Ev (fun k => hustingsref01_Decode.l0 k s u (out ++ part h b Z) i) (resOf (decGo u t out h b)) := by
  intro t
  induction t with
  | nil =>
    intro i out h b Z hin hd hh hb hZ0 hZ1 hz
    have hlen := drop_nil hd
    rw [bytesOf_length] at hlen
    have hb6 : 0 ≤ b ∧ b ≤ 6 := by unfold Held at hh; omega
    have hi : i = s.size := by omega
    have hZ : Z = 0 := by omega
    have h0 := hz hZ
    subst hZ
    subst h0
    simp only [part, List.append_nil]
    by_cases hm : (s.size : Int) % 4 = 1
    · have hb' : b = 6 := by unfold Held at hh; omega
      refine Ev.step (f := fun _ => some (([] : List Int), false)) (fun k => ?_) (by subst hb'; exact Ev.now _)
      simp only [hustingsref01_Decode.l0]
      rw [if_neg (by omega), if_pos hm]
    · have hb' : ¬ 6 ≤ b := by unfold Held at hh; omega
      have hdn : decGo u [] out 0 b = some out := by simp [decGo]; omega
      rw [hdn]
      refine Ev.step (f := fun _ => some (out, true)) (fun k => ?_) (Ev.now _)
      simp only [hustingsref01_Decode.l0]
      rw [if_neg (by omega), if_neg hm]
  | cons c t ih =>
    intro i out h b Z hin hd hh hb hZ0 hZ1 hz
    obtain ⟨hlt, hrd, hd1⟩ := drop_cons hd
    rw [bytesOf_length] at hlt
    rw [rd_bytesOf] at hrd
    refine Ev.step (f := fun k => hustingsref01_Decode.l1 k s u (out ++ part h b Z) i ((0 : Nat) : Int)) (fun k => by simp only [hustingsref01_Decode.l0]; rw [if_pos (by omega)]; rfl) ?_
    refine ref_find hlt ?_ 64 0 (by omega) (fun v hv => by have := valOf_range hv; omega)
    rw [hrd]
    rcases hv : valOf u c with _ | v
    · simp only [decGo, hv]
      exact Ev.now _
    · have hr := valOf_range hv
      have hv0 := hr.1
      have hv1 := hr.2.1
      have hi : i ≤ 1099511627776 := by omega
      obtain ⟨q0, q1, q2, q3, q4, q5⟩ := sb_all v hv0 hv1
      have htl : i + 1 ≥ s.size → t = [] := fun hge => by rw [← hd1]; exact List.drop_eq_nil_of_le (by rw [bytesOf_length]; omega)
      rcases hh with ⟨rfl, rfl⟩ | ⟨rfl, hh0, hh1⟩ | ⟨rfl, hh0, hh1⟩ | ⟨rfl, hh0, hh1⟩
      · have hg : decGo u (c :: t) out 0 0 = decGo u t out v 6 := by simp [decGo, hv]
        rw [hg]
        rcases Z with _ | Z
        · have ht := htl (by omega)
          simp only [part, List.append_nil]
          refine ref_over hi hv0 hv1 6 0 (by omega) (by omega) ?_
          by_cases hv2 : v % 2 ^ 6 = 0
          · simp only [if_pos hv2]
            have hvz : v = 0 := by simp at hv2; omega
            subst hvz
            have := ih (i + 1) out 0 6 0 (by omega) hd1 (.inr (.inr (.inr ⟨rfl, by omega, by omega⟩))) (by omega) (by omega) (by omega) (fun _ => rfl)
            simpa only [part, List.append_nil] using this
          · simp only [if_neg hv2]
            rw [ht]
            simp only [decGo, if_true, show (6 : Int) ≤ 6 from by omega, true_or]
            exact Ev.now _
        · simp only [part, Int.zero_mul]
          refine ref_in_ev 0 0 hi (by omega) (by omega) (by omega) hv0 hv1 (by omega) (by omega) (by omega) ?_
          refine ref_in_ev 1 1 hi (by omega) (by omega) (by omega) hv0 hv1 (by simp <;> omega) (by simp <;> omega) (by simp <;> omega) ?_
          refine ref_in_ev 2 2 hi (by omega) (by omega) (by omega) hv0 hv1 (by simp <;> omega) (by simp <;> omega) (by simp <;> omega) ?_
          refine ref_in_ev 3 3 hi (by omega) (by omega) (by omega) hv0 hv1 (by simp <;> omega) (by simp <;> omega) (by simp <;> omega) ?_
          refine ref_in_ev 4 4 hi (by omega) (by omega) (by omega) hv0 hv1 (by simp <;> omega) (by simp <;> omega) (by simp <;> omega) ?_
          refine ref_in_ev 5 5 hi (by omega) (by omega) (by omega) hv0 hv1 (by simp <;> omega) (by simp <;> omega) (by simp <;> omega) ?_
          refine ref_exit hi ?_
          have := ih (i + 1) out v 6 (Z + 1) (by omega) hd1 (.inr (.inr (.inr ⟨rfl, by omega, by omega⟩))) (by omega) (by omega) (by omega) (fun h => by omega)
          simp only [part] at this
          refine cast (congrArg (fun x => Ev (fun k => hustingsref01_Decode.l0 k s u (out ++ x :: List.replicate Z 0) ((i + 1 : Nat) : Int)) (resOf (decGo u t out v 6))) ?_) this
          simp
          omega
      · have hg : decGo u (c :: t) out h 2 = decGo u t (out ++ [h * 64 + v]) 0 0 := by simp [decGo, hv]
        rw [hg]
        rcases Z with _ | Z
        · omega
        · simp only [part]
          refine ref_in_ev 0 2 hi (by omega) (by omega) (by omega) hv0 hv1 (by simp <;> omega) (by simp <;> omega) (by simp <;> omega) ?_
          refine ref_in_ev 1 3 hi (by omega) (by omega) (by omega) hv0 hv1 (by simp <;> omega) (by simp <;> omega) (by simp <;> omega) ?_
          refine ref_in_ev 2 4 hi (by omega) (by omega) (by omega) hv0 hv1 (by simp <;> omega) (by simp <;> omega) (by simp <;> omega) ?_
          refine ref_in_ev 3 5 hi (by omega) (by omega) (by omega) hv0 hv1 (by simp <;> omega) (by simp <;> omega) (by simp <;> omega) ?_
          refine ref_in_ev 4 6 hi (by omega) (by omega) (by omega) hv0 hv1 (by simp <;> omega) (by simp <;> omega) (by simp <;> omega) ?_
          refine ref_in_ev 5 7 hi (by omega) (by omega) (by omega) hv0 hv1 (by simp <;> omega) (by simp <;> omega) (by simp <;> omega) ?_
          refine ref_exit hi ?_
          have := ih (i + 1) (out ++ [h * 64 + v]) 0 0 Z (by omega) hd1 (.inl ⟨rfl, rfl⟩) (by simp <;> omega) (by simp <;> omega) (by simp <;> omega) (fun h => rfl)
          have hpz : part 0 0 Z = List.replicate Z 0 := by cases Z <;> simp [part, List.replicate_succ]
          rw [hpz, List.append_assoc] at this
          refine cast (congrArg (fun x => Ev (fun k => hustingsref01_Decode.l0 k s u (out ++ x :: List.replicate Z 0) ((i + 1 : Nat) : Int)) (resOf (decGo u t (out ++ [h * 64 + v]) 0 0))) ?_) this
          simp
          omega
      · have hg : decGo u (c :: t) out h 4 = decGo u t (out ++ [(h * 64 + v) / 4]) ((h * 64 + v) % 4) 2 := by simp [decGo, hv]
        rw [hg]
        rcases Z with _ | Z
        · omega
        · simp only [part]
          refine ref_in_ev 0 4 hi (by omega) (by omega) (by omega) hv0 hv1 (by simp <;> omega) (by simp <;> omega) (by simp <;> omega) ?_
          refine ref_in_ev 1 5 hi (by omega) (by omega) (by omega) hv0 hv1 (by simp <;> omega) (by simp <;> omega) (by simp <;> omega) ?_
          refine ref_in_ev 2 6 hi (by omega) (by omega) (by omega) hv0 hv1 (by simp <;> omega) (by simp <;> omega) (by simp <;> omega) ?_
          refine ref_in_ev 3 7 hi (by omega) (by omega) (by omega) hv0 hv1 (by simp <;> omega) (by simp <;> omega) (by simp <;> omega) ?_
          refine cast (congrArg (fun x => Ev (fun k => hustingsref01_Decode.l2 k s u (out ++ x :: List.replicate Z 0) i v ((4 : Nat) : Int)) (resOf (decGo u t (out ++ [(h * 64 + v) / 4]) ((h * 64 + v) % 4) 2))) (show (h * 64 + v) / 4 = _ from ?_)) ?_
          · simp; omega
          rw [← List.singleton_append, ← List.append_assoc]
          rcases Z with _ | Z
          · have ht := htl (by omega)
            simp only [List.replicate_zero, List.append_nil]
            refine ref_over hi hv0 hv1 2 4 (by omega) (by simp <;> omega) ?_
            by_cases hv2 : v % 2 ^ 2 = 0
            · simp only [if_pos hv2]
              simp at hv2
              have e0 : (h * 64 + v) % 4 = 0 := by omega
              rw [e0]
              have := ih (i + 1) (out ++ [(h * 64 + v) / 4]) 0 2 0 (by omega) hd1 (.inr (.inl ⟨rfl, by omega, by omega⟩)) (by simp <;> omega) (by simp <;> omega) (by simp <;> omega) (fun _ => rfl)
              simpa only [part, List.append_nil] using this
            · simp only [if_neg hv2]
              simp at hv2
              have e0 : ¬ (h * 64 + v) % 4 = 0 := by omega
              rw [ht]
              simp only [decGo, e0, ne_eq, not_false_eq_true, or_true, if_true]
              exact Ev.now _
          · rw [List.replicate_succ]
            refine ref_in_ev 4 0 hi (by omega) (by simp <;> omega) (by omega) hv0 hv1 (by omega) (by omega) (by omega) ?_
            refine ref_in_ev 5 1 hi (by omega) (by simp <;> omega) (by omega) hv0 hv1 (by simp <;> omega) (by simp <;> omega) (by simp <;> omega) ?_
            refine ref_exit hi ?_
            have := ih (i + 1) (out ++ [(h * 64 + v) / 4]) ((h * 64 + v) % 4) 2 (Z + 1) (by omega) hd1 (.inr (.inl ⟨rfl, by omega, by omega⟩)) (by simp <;> omega) (by simp <;> omega) (by simp <;> omega) (fun h => by omega)
            simp only [part] at this
            refine cast (congrArg (fun x => Ev (fun k => hustingsref01_Decode.l0 k s u (out ++ [(h * 64 + v) / 4] ++ x :: List.replicate Z 0) ((i + 1 : Nat) : Int)) (resOf (decGo u t (out ++ [(h * 64 + v) / 4]) ((h * 64 + v) % 4) 2))) ?_) this
            simp
            omega
      · have hg : decGo u (c :: t) out h 6 = decGo u t (out ++ [(h * 64 + v) / 16]) ((h * 64 + v) % 16) 4 := by simp [decGo, hv]
        rw [hg]
        rcases Z with _ | Z
        · omega
        · simp only [part]
          refine ref_in_ev 0 6 hi (by omega) (by omega) (by omega) hv0 hv1 (by simp <;> omega) (by simp <;> omega) (by simp <;> omega) ?_
          refine ref_in_ev 1 7 hi (by omega) (by omega) (by omega) hv0 hv1 (by simp <;> omega) (by simp <;> omega) (by simp <;> omega) ?_
          refine cast (congrArg (fun x => Ev (fun k => hustingsref01_Decode.l2 k s u (out ++ x :: List.replicate Z 0) i v ((2 : Nat) : Int)) (resOf (decGo u t (out ++ [(h * 64 + v) / 16]) ((h * 64 + v) % 16) 4))) (show (h * 64 + v) / 16 = _ from ?_)) ?_
          · simp; omega
          rw [← List.singleton_append, ← List.append_assoc]
          rcases Z with _ | Z
          · have ht := htl (by omega)
            simp only [List.replicate_zero, List.append_nil]
            refine ref_over hi hv0 hv1 4 2 (by omega) (by simp <;> omega) ?_
            by_cases hv2 : v % 2 ^ 4 = 0
            · simp only [if_pos hv2]
              simp at hv2
              have e0 : (h * 64 + v) % 16 = 0 := by omega
              rw [e0]
              have := ih (i + 1) (out ++ [(h * 64 + v) / 16]) 0 4 0 (by omega) hd1 (.inr (.inr (.inl ⟨rfl, by omega, by omega⟩))) (by simp <;> omega) (by simp <;> omega) (by simp <;> omega) (fun _ => rfl)
              simpa only [part, List.append_nil] using this
            · simp only [if_neg hv2]
              simp at hv2
              have e0 : ¬ (h * 64 + v) % 16 = 0 := by omega
              rw [ht]
              simp only [decGo, e0, ne_eq, not_false_eq_true, or_true, if_true]
              exact Ev.now _
          · rw [List.replicate_succ]
            refine ref_in_ev 2 0 hi (by omega) (by simp <;> omega) (by omega) hv0 hv1 (by omega) (by omega) (by omega) ?_
            refine ref_in_ev 3 1 hi (by omega) (by simp <;> omega) (by omega) hv0 hv1 (by simp <;> omega) (by simp <;> omega) (by simp <;> omega) ?_
            refine ref_in_ev 4 2 hi (by omega) (by simp <;> omega) (by omega) hv0 hv1 (by simp <;> omega) (by simp <;> omega) (by simp <;> omega) ?_
            refine ref_in_ev 5 3 hi (by omega) (by simp <;> omega) (by omega) hv0 hv1 (by simp <;> omega) (by simp <;> omega) (by simp <;> omega) ?_
            refine ref_exit hi ?_
            have := ih (i + 1) (out ++ [(h * 64 + v) / 16]) ((h * 64 + v) % 16) 4 (Z + 1) (by omega) hd1 (.inr (.inr (.inl ⟨rfl, by omega, by omega⟩))) (by simp <;> omega) (by simp <;> omega) (by simp <;> omega) (fun h => by omega)
            simp only [part] at this
            refine cast (congrArg (fun x => Ev (fun k => hustingsref01_Decode.l0 k s u (out ++ [(h * 64 + v) / 16] ++ x :: List.replicate Z 0) ((i + 1 : Nat) : Int)) (resOf (decGo u t (out ++ [(h * 64 + v) / 16]) ((h * 64 + v) % 16) 4))) ?_) this
            simp
            omega
theorem ref_decode_ev (u : Bool) (s : ByteArray) (hs : s.size ≤ 1073741824) : ∃ k, hustingsref01_Decode.f k s u = some ((decL u (bytesOf s)).getD [], (decL u (bytesOf s)).isSome) := by
  have h := ref_dec u s hs (bytesOf s) 0 [] 0 0 (s.size * 6 / 8) (by omega) rfl (.inl ⟨rfl, rfl⟩) (by simp) (by simp <;> omega) (by simp <;> omega) (fun _ => rfl)
  obtain ⟨K, hK⟩ := h
  refine ⟨K, ?_⟩
  have e1 : wrap64 (Int.tdiv (wrap64 ((s.size : Int) * 6)) 8) = ((s.size * 6 / 8 : Nat) : Int) := by
    rw [show wrap64 ((s.size : Int) * 6) = (s.size : Int) * 6 from by unfold wrap64; omega, Int.tdiv_eq_ediv_of_nonneg (by omega)]
    rw [show ((s.size * 6 / 8 : Nat) : Int) = (s.size : Int) * 6 / 8 from by simp]
    unfold wrap64; omega
  have hpz : ∀ Z, part 0 0 Z = List.replicate Z 0 := fun Z => by cases Z <;> simp [part, List.replicate_succ]
  have := hK K (Nat.le_refl _)
  rw [hpz, List.nil_append] at this
  unfold hustingsref01_Decode.f
  rw [e1, if_pos (by omega), if_pos (by omega)]
  exact this
theorem dec_none {u : Bool} {c : Int} (h : valOf u c = none) (t out : List Int) (g b : Int) : decGo u (c :: t) out g b = none := by simp [decGo, h]
theorem dec_f (u : Bool) (s : ByteArray) (hs : s.size ≤ 140737488351232) : letters_Decode.f s u = some ((decL u (bytesOf s)).getD [], (decL u (bytesOf s)).isSome) := by
  unfold letters_Decode.f; rw [if_pos hs]
end Go.Proofs.Ytdleomeiojlooaa.L
end

section
namespace Go.Proofs.Ytdleomeiojlooaa.P
open Go.RowKit Go.Proofs.YtdleomeiojlooaaW.PrintWords Go.Proofs.YtdleomeiojlooaaW.PrintLast Go.Proofs.YtdleomeiojlooaaW.PrintMore
set_option linter.unusedVariables false
set_option linter.unusedSimpArgs false
def stringslite_HasSuffix.f (a0 : ByteArray) (a1 : ByteArray) : Option (Bool) := if (a0.size : Int) ≥ (a1.size : Int) then (if 0 ≤ (wrap64 ((a0.size : Int) - (a1.size : Int))) then (if (wrap64 ((a0.size : Int) - (a1.size : Int))) ≤ (a0.size : Int) then (some ((a0.extract ((wrap64 ((a0.size : Int) - (a1.size : Int))) : Int).toNat a0.size).toList == a1.toList)) else (none)) else (none)) else (some false)
set_option maxHeartbeats 8000000 in
set_option maxRecDepth 100000 in
theorem stringslite_HasSuffix.calls (a0 : ByteArray) (a1 : ByteArray) (r : Bool) (w : World) (h : stringslite_HasSuffix.f a0 a1 = some r) :
    Calls Try.prog 49 #[.string a0, .string a1] w fun e w' => e = .returned (.bool r) ∧ Drawn0 w w' := by
  have H : (if (a0.size : Int) ≥ (a1.size : Int) then (if 0 ≤ (wrap64 ((a0.size : Int) - (a1.size : Int))) then (if (wrap64 ((a0.size : Int) - (a1.size : Int))) ≤ (a0.size : Int) then (some ((a0.extract ((wrap64 ((a0.size : Int) - (a1.size : Int))) : Int).toNat a0.size).toList == a1.toList)) else (none)) else (none)) else (some false)) = some r := h
  clear h
  by_cases c3 : (a0.size : Int) ≥ (a1.size : Int)
  · rw [if_pos c3] at H
    have c3b0 : decide ((a1.size : Int) ≤ (a0.size : Int)) = true := decide_eq_true c3
    have c3b1 : decide (a1.size ≤ a0.size) = true := decide_eq_true (Int.ofNat_le.mp c3)
    clear c3
    obtain ⟨ji4, hji4⟩ : ∃ j_ : Int, (wrap64 ((a0.size : Int) - (a1.size : Int))) = j_ := ⟨_, rfl⟩
    replace H : (if 0 ≤ (ji4) then (if (ji4) ≤ (a0.size : Int) then (some ((a0.extract ((ji4) : Int).toNat a0.size).toList == a1.toList)) else (none)) else (none)) = some r := by first | (rw [hji4] at H; exact H) | (simp only [hji4] at H ⊢; exact H)
    have hji4w : (IntKind.i64.wrap ((a0.size : Int) - (a1.size : Int))) = ji4 := (i64_w _).trans hji4
    by_cases c5 : 0 ≤ (ji4)
    · rw [if_pos c5] at H
      have c5b0 := eq_true c5
      have c5b1 : decide (0 ≤ (ji4)) = true := decide_eq_true c5
      clear c5
      by_cases c6 : (ji4) ≤ (a0.size : Int)
      · rw [if_pos c6] at H
        have c6b0 := eq_true c6
        have c6b1 : decide ((ji4) ≤ (a0.size : Int)) = true := decide_eq_true c6
        clear c6
        obtain rfl := Option.some.inj H
        go_enter Try.func49, Try.ntmps49
        go_wp2
        go_ret
        exact ⟨by first | rfl | (simp; done) | (simp only [← hji4] <;> (first | rfl | simp)) | (simp [*]; done), by repeat (first | exact Drawn0.refl _ | apply Drawn0.step)⟩
      · rw [if_neg c6] at H
        exact absurd H (by simp)
    · rw [if_neg c5] at H
      exact absurd H (by simp)
  · rw [if_neg c3] at H
    have c3b0 : decide ((a1.size : Int) ≤ (a0.size : Int)) = false := decide_eq_false c3
    have c3b1 : decide (a1.size ≤ a0.size) = false := decide_eq_false (fun h => c3 (Int.ofNat_le.mpr h))
    clear c3
    obtain rfl := Option.some.inj H
    go_enter Try.func49, Try.ntmps49
    go_wp2
    go_ret
    exact ⟨by first | rfl | (simp; done) | (simp [*]; done), by repeat (first | exact Drawn0.refl _ | apply Drawn0.step)⟩
def stringslite_TrimSuffix.f (a0 : ByteArray) (a1 : ByteArray) : Option (ByteArray) := (stringslite_HasSuffix.f a0 a1).bind fun t44001 => (if t44001 = true then (if 0 ≤ (wrap64 ((a0.size : Int) - (a1.size : Int))) then (if (wrap64 ((a0.size : Int) - (a1.size : Int))) ≤ (a0.size : Int) then (some (a0.extract 0 ((wrap64 ((a0.size : Int) - (a1.size : Int))) : Int).toNat)) else (none)) else (none)) else (some a0))
set_option maxHeartbeats 8000000 in
set_option maxRecDepth 100000 in
theorem stringslite_TrimSuffix.calls (a0 : ByteArray) (a1 : ByteArray) (r : ByteArray) (w : World) (h : stringslite_TrimSuffix.f a0 a1 = some r) :
    Calls Try.prog 44 #[.string a0, .string a1] w fun e w' => e = .returned (.string r) ∧ Drawn0 w w' := by
  have H : ((stringslite_HasSuffix.f a0 a1).bind fun t44001 => (if t44001 = true then (if 0 ≤ (wrap64 ((a0.size : Int) - (a1.size : Int))) then (if (wrap64 ((a0.size : Int) - (a1.size : Int))) ≤ (a0.size : Int) then (some (a0.extract 0 ((wrap64 ((a0.size : Int) - (a1.size : Int))) : Int).toNat)) else (none)) else (none)) else (some a0))) = some r := h
  clear h
  replace H := Option.bind_eq_some_iff.mp H
  obtain ⟨t44001, A30, H⟩ := H
  replace H : (if t44001 = true then (if 0 ≤ (wrap64 ((a0.size : Int) - (a1.size : Int))) then (if (wrap64 ((a0.size : Int) - (a1.size : Int))) ≤ (a0.size : Int) then (some (a0.extract 0 ((wrap64 ((a0.size : Int) - (a1.size : Int))) : Int).toNat)) else (none)) else (none)) else (some a0)) = some r := H
  have A3 := Aside0.mk A30
  clear A30
  by_cases c4 : t44001 = true
  · subst c4
    have H1 : (if 0 ≤ (wrap64 ((a0.size : Int) - (a1.size : Int))) then (if (wrap64 ((a0.size : Int) - (a1.size : Int))) ≤ (a0.size : Int) then (some (a0.extract 0 ((wrap64 ((a0.size : Int) - (a1.size : Int))) : Int).toNat)) else (none)) else (none)) = some r := by rw [if_pos rfl] at H; exact H
    clear H
    have H := H1
    clear H1
    obtain ⟨ji5, hji5⟩ : ∃ j_ : Int, (wrap64 ((a0.size : Int) - (a1.size : Int))) = j_ := ⟨_, rfl⟩
    replace H : (if 0 ≤ (ji5) then (if (ji5) ≤ (a0.size : Int) then (some (a0.extract 0 ((ji5) : Int).toNat)) else (none)) else (none)) = some r := by first | (rw [hji5] at H; exact H) | (simp only [hji5] at H ⊢; exact H)
    (try rw [hji5] at A3)
    have hji5w : (IntKind.i64.wrap ((a0.size : Int) - (a1.size : Int))) = ji5 := (i64_w _).trans hji5
    by_cases c6 : 0 ≤ (ji5)
    · rw [if_pos c6] at H
      have c6b0 := eq_true c6
      have c6b1 : decide (0 ≤ (ji5)) = true := decide_eq_true c6
      clear c6
      by_cases c7 : (ji5) ≤ (a0.size : Int)
      · rw [if_pos c7] at H
        have c7b0 := eq_true c7
        have c7b1 : decide ((ji5) ≤ (a0.size : Int)) = true := decide_eq_true c7
        clear c7
        obtain rfl := Option.some.inj H
        go_enter Try.func44, Try.ntmps44
        go_wp2_with (first | ((with_reducible refine gate_callee (f := 49) rfl ?_); refine goesL_ (some 7) rfl rfl Try.func49 (by kernel_rfl) rfl #[.string a0, .string a1] rfl (by (try simp only [List.map_toArray, List.map_cons, List.map_nil]); first | done | rfl | (simp only [List.length_drop, List.length_take]; rfl)) ?_; (with_reducible refine (stringslite_HasSuffix.calls a0 a1 true _ A3.out).mono ?_); rintro e w' ⟨rfl, ⟨nd, rfl⟩⟩; refine ⟨_, rfl, ?_⟩))
        go_ret
        exact ⟨by first | rfl | (simp; done) | (simp only [← hji5] <;> (first | rfl | simp)) | (simp [*]; done), by repeat (first | exact Drawn0.refl _ | apply Drawn0.step)⟩
      · rw [if_neg c7] at H
        exact absurd H (by simp)
    · rw [if_neg c6] at H
      exact absurd H (by simp)
  · replace c4 := Bool.eq_false_iff.mpr c4
    subst c4
    have H1 : (some a0) = some r := by rw [if_neg (show ¬ (false = true) by decide)] at H; exact H
    clear H
    have H := H1
    clear H1
    obtain rfl := Option.some.inj H
    go_enter Try.func44, Try.ntmps44
    go_wp2_with (first | ((with_reducible refine gate_callee (f := 49) rfl ?_); refine goesL_ (some 7) rfl rfl Try.func49 (by kernel_rfl) rfl #[.string a0, .string a1] rfl (by (try simp only [List.map_toArray, List.map_cons, List.map_nil]); first | done | rfl | (simp only [List.length_drop, List.length_take]; rfl)) ?_; (with_reducible refine (stringslite_HasSuffix.calls a0 a1 false _ A3.out).mono ?_); rintro e w' ⟨rfl, ⟨nd, rfl⟩⟩; refine ⟨_, rfl, ?_⟩))
    go_ret
    exact ⟨by first | rfl | (simp; done) | (simp [*]; done), by repeat (first | exact Drawn0.refl _ | apply Drawn0.step)⟩
def strings_TrimSuffix.f (a0 : ByteArray) (a1 : ByteArray) : Option (ByteArray) := (stringslite_TrimSuffix.f a0 a1).bind fun t33001 => (some t33001)
set_option maxHeartbeats 8000000 in
set_option maxRecDepth 100000 in
theorem strings_TrimSuffix.calls (a0 : ByteArray) (a1 : ByteArray) (r : ByteArray) (w : World) (h : strings_TrimSuffix.f a0 a1 = some r) :
    Calls Try.prog 33 #[.string a0, .string a1] w fun e w' => e = .returned (.string r) ∧ Drawn0 w w' := by
  have H : ((stringslite_TrimSuffix.f a0 a1).bind fun t33001 => (some t33001)) = some r := h
  clear h
  replace H := Option.bind_eq_some_iff.mp H
  obtain ⟨t33001, A30, H⟩ := H
  replace H : (some t33001) = some r := H
  have A3 := Aside0.mk A30
  clear A30
  obtain rfl := Option.some.inj H
  go_enter Try.func33, Try.ntmps33
  go_wp2_with (first | ((with_reducible refine gate_callee (f := 44) rfl ?_); refine goesL_ (some 7) rfl rfl Try.func44 (by kernel_rfl) rfl #[.string a0, .string a1] rfl (by (try simp only [List.map_toArray, List.map_cons, List.map_nil]); first | done | rfl | (simp only [List.length_drop, List.length_take]; rfl)) ?_; (with_reducible refine (stringslite_TrimSuffix.calls a0 a1 t33001 _ A3.out).mono ?_); rintro e w' ⟨rfl, ⟨nd, rfl⟩⟩; refine ⟨_, rfl, ?_⟩))
  go_ret
  exact ⟨by first | rfl | (simp; done) | (simp [*]; done), by repeat (first | exact Drawn0.refl _ | apply Drawn0.step)⟩
def bytealg_LastIndexByteString.l0 : Nat → ByteArray → Int → Int → Option (Int)
  | 0, _, _, _ => none
  | k + 1, x0, x1, x5 => if x5 ≥ 0 then (if 0 ≤ x5 then (if x5 < (x0.size : Int) then (if (bt x0 x5) = x1 then (some x5) else (bytealg_LastIndexByteString.l0 k x0 x1 (wrap64 (x5 - 1)))) else (none)) else (none)) else (some (-1))
def bytealg_LastIndexByteString.f (k : Nat) (a0 : ByteArray) (a1 : Int) : Option (Int) := bytealg_LastIndexByteString.l0 k a0 a1 (wrap64 ((a0.size : Int) - 1))
theorem bytealg_LastIndexByteString.mono_l : ∀ k, (∀ y0 y1 y2, LeO (bytealg_LastIndexByteString.l0 k y0 y1 y2) (bytealg_LastIndexByteString.l0 (k + 1) y0 y1 y2))
  | 0 => fun _ _ _ r h => by simp [bytealg_LastIndexByteString.l0] at h
  | k + 1 => by
    have ih0 := bytealg_LastIndexByteString.mono_l k
    · intro y0 y1 y2
      unfold bytealg_LastIndexByteString.l0
      repeat' first
      | (with_reducible exact ih0 _ _ _)
      | (with_reducible exact LeO.refl _)
      | (with_reducible exact LeO.none _)
      | (with_reducible refine LeO.ite ?_ ?_)
      | (with_reducible refine LeO.bind ?_ (fun _ => ?_))
      | exact ih0 _ _ _
      | exact LeO.none _
      | refine LeO.ite ?_ ?_
      | refine LeO.bind ?_ (fun _ => ?_)
theorem bytealg_LastIndexByteString.mono : ∀ a0 a1 k, LeO (bytealg_LastIndexByteString.f k a0 a1) (bytealg_LastIndexByteString.f (k + 1) a0 a1) := by
  intro a0 a1 k
  have ih0 := bytealg_LastIndexByteString.mono_l k
  unfold bytealg_LastIndexByteString.f
  repeat' first
      | (with_reducible exact ih0 _ _ _)
      | (with_reducible exact LeO.refl _)
      | (with_reducible exact LeO.none _)
      | (with_reducible refine LeO.ite ?_ ?_)
      | (with_reducible refine LeO.bind ?_ (fun _ => ?_))
      | exact ih0 _ _ _
      | exact LeO.none _
      | refine LeO.ite ?_ ?_
      | refine LeO.bind ?_ (fun _ => ?_)
set_option maxHeartbeats 8000000 in
set_option maxRecDepth 100000 in
theorem bytealg_LastIndexByteString.calls (k : Nat) (a0 : ByteArray) (a1 : Int) (r : Int) (w : World) (h : bytealg_LastIndexByteString.f k a0 a1 = some r) :
    Calls Try.prog 40 #[.string a0, .int .u8 a1] w fun e w' => e = .returned (.int .i64 r) ∧ Drawn0 w w' := by
  have H : (bytealg_LastIndexByteString.l0 k a0 a1 (wrap64 ((a0.size : Int) - 1))) = some r := h
  clear h
  have H' := Aside0.mk H
  clear H
  go_enter Try.func40, Try.ntmps40
  go_wp2
  go_loopg [5] k (fun kq v5 w' => ∃ (x5_1 : Int), v5 = .int .i64 x5_1 ∧ Aside0 (bytealg_LastIndexByteString.l0 kq a0 a1 x5_1 = some r) ∧ Aside0 (kq ≤ k) ∧ Drawn0 w w')
  case atStart => exact ⟨(wrap64 ((a0.size : Int) - 1)), (by first | rfl | (simp; done) | (simp [*]; done)), H', ⟨Nat.le_refl _⟩, by repeat (first | exact Drawn0.refl _ | apply Drawn0.step)⟩
  case round =>
    clear H'
    try clear p2
    obtain ⟨x5_1, rfl, HA, HK1, ⟨m1, rfl⟩⟩ := hrel
    cases gk with
    | zero => exact absurd HA.out (by simp [bytealg_LastIndexByteString.l0])
    | succ k1 =>
      have H := HA.out
      clear HA
      simp only [bytealg_LastIndexByteString.l0] at H
      by_cases c3 : x5_1 ≥ 0
      · rw [if_pos c3] at H
        have c3b0 : decide (0 ≤ x5_1) = true := decide_eq_true c3
        clear c3
        by_cases c4 : 0 ≤ x5_1
        · rw [if_pos c4] at H
          have c4b0 : decide (0 ≤ x5_1) = true := decide_eq_true c4
          clear c4
          by_cases c5 : x5_1 < (a0.size : Int)
          · rw [if_pos c5] at H
            have c5b0 : decide (x5_1 < (a0.size : Int)) = true := decide_eq_true c5
            clear c5
            by_cases c7 : (bt a0 x5_1) = a1
            · rw [if_pos c7] at H
              have c7b0 : ((bt a0 x5_1) == a1) = true := beq_iff_eq.mpr c7
              have c7b1 : ((bt a0 x5_1) != a1) = false := bne_eq_false_iff_eq.mpr c7
              clear c7
              obtain rfl := Option.some.inj H
              have p6 : 0 ≤ (x5_1 : Int) := of_decide_eq_true (by first | (with_reducible assumption) | assumption)
              have q6 : x5_1 < (a0.size : Int) := of_decide_eq_true (by first | (with_reducible assumption) | assumption)
              have hx6 := bt_at a0 x5_1
              replace p6 := eq_true p6
              replace q6 := eq_true q6
              go_wp2
              go_ret
              exact ⟨by first | rfl | (simp; done) | (simp [*]; done), by repeat (first | exact Drawn0.refl _ | apply Drawn0.step)⟩
            · rw [if_neg c7] at H
              have c7b0 : ((bt a0 x5_1) == a1) = false := beq_eq_false_iff_ne.mpr c7
              have c7b1 : ((bt a0 x5_1) != a1) = true := bne_iff_ne.mpr c7
              have H' := Aside0.mk H
              clear H
              have p6 : 0 ≤ (x5_1 : Int) := of_decide_eq_true (by first | (with_reducible assumption) | assumption)
              have q6 : x5_1 < (a0.size : Int) := of_decide_eq_true (by first | (with_reducible assumption) | assumption)
              have hx6 := bt_at a0 x5_1
              replace p6 := eq_true p6
              replace q6 := eq_true q6
              go_wp2
              go_roundg k1
              case measure => have := HK1.out; omega
              case rel => exact ⟨(wrap64 (x5_1 - 1)), (by first | rfl | (simp; done) | (simp [*]; done)), H', ⟨by have := HK1.out; omega⟩, by repeat (first | exact Drawn0.refl _ | apply Drawn0.step)⟩
          · rw [if_neg c5] at H
            exact absurd H (by simp)
        · rw [if_neg c4] at H
          exact absurd H (by simp)
      · rw [if_neg c3] at H
        have c3b0 : decide (0 ≤ x5_1) = false := decide_eq_false c3
        clear c3
        obtain rfl := Option.some.inj H
        go_wp2
        go_ret
        exact ⟨by first | rfl | (simp; done) | (simp [*]; done), by repeat (first | exact Drawn0.refl _ | apply Drawn0.step)⟩
def strings_LastIndexByte.f (k : Nat) (a0 : ByteArray) (a1 : Int) : Option (Int) := (bytealg_LastIndexByteString.f k a0 a1).bind fun t30001 => (some t30001)
theorem strings_LastIndexByte.mono : ∀ a0 a1 k, LeO (strings_LastIndexByte.f k a0 a1) (strings_LastIndexByte.f (k + 1) a0 a1) := by
  intro a0 a1 k
  unfold strings_LastIndexByte.f
  repeat' first
      | (with_reducible exact bytealg_LastIndexByteString.mono _ _ _)
      | (with_reducible exact LeO.refl _)
      | (with_reducible exact LeO.none _)
      | (with_reducible refine LeO.ite ?_ ?_)
      | (with_reducible refine LeO.bind ?_ (fun _ => ?_))
      | exact bytealg_LastIndexByteString.mono _ _ _
      | exact LeO.none _
      | refine LeO.ite ?_ ?_
      | refine LeO.bind ?_ (fun _ => ?_)
set_option maxHeartbeats 8000000 in
set_option maxRecDepth 100000 in
theorem strings_LastIndexByte.calls (k : Nat) (a0 : ByteArray) (a1 : Int) (r : Int) (w : World) (h : strings_LastIndexByte.f k a0 a1 = some r) :
    Calls Try.prog 30 #[.string a0, .int .u8 a1] w fun e w' => e = .returned (.int .i64 r) ∧ Drawn0 w w' := by
  have H : ((bytealg_LastIndexByteString.f k a0 a1).bind fun t30001 => (some t30001)) = some r := h
  clear h
  replace H := Option.bind_eq_some_iff.mp H
  obtain ⟨t30001, A30, H⟩ := H
  replace H : (some t30001) = some r := H
  have A3 := Aside0.mk A30
  clear A30
  obtain rfl := Option.some.inj H
  go_enter Try.func30, Try.ntmps30
  go_wp2_with (first | ((with_reducible refine gate_callee (f := 40) rfl ?_); refine goesL_ (some 7) rfl rfl Try.func40 (by kernel_rfl) rfl #[.string a0, .int .u8 a1] rfl (by (try simp only [List.map_toArray, List.map_cons, List.map_nil]); first | done | rfl | (simp only [List.length_drop, List.length_take]; rfl)) ?_; (with_reducible refine (bytealg_LastIndexByteString.calls k a0 a1 t30001 _ A3.out).mono ?_); rintro e w' ⟨rfl, ⟨nd, rfl⟩⟩; refine ⟨_, rfl, ?_⟩))
  go_ret
  exact ⟨by first | rfl | (simp; done) | (simp [*]; done), by repeat (first | exact Drawn0.refl _ | apply Drawn0.step)⟩
end Go.Proofs.Ytdleomeiojlooaa.P
end

section
namespace Go.Proofs.Ytdleomeiojlooaa.P
set_option linter.unusedVariables false
set_option linter.unusedSimpArgs false
open Go.RowKit Go.ChangeShapes Go.WideShapes Go.Proofs.YtdleomeiojlooaaW.PrintWords Go.Proofs.YtdleomeiojlooaaW.PrintLast Go.Proofs.YtdleomeiojlooaaW.PrintMore Go.Proofs.Ytdleomeiojlooaa.L
theorem enterM_ {P : Program} {f : FuncId} {fn : Func} {c : Code} {args : Array Value} {w : World} {R : Ending → World → Prop} (n sz : Nat) (hf : P.funcs[f]? = some fn) (hb : fn.body = some c) (hsz : args.size + (fn.ntmps - args.size) = sz)
    (h : ∀ a, Sl a sz (argS args) → c.wp P (bodyPostM Fence.wide n P fn R) a w) : Calls P f args w R := by
  refine callsIn_wide.1 (callsIn_of_wp_marks (F := Fence.wide) (n := n) hf hb trivial (wpIn_wide.2 (h _ ⟨by simpa using hsz, rfl, fun e he => ?_⟩)) rfl)
  unfold argS at he
  obtain ⟨⟨v, j⟩, hm, rfl⟩ := List.mem_map.1 he
  have h1 := List.mem_zipIdx_iff_getElem?.1 hm
  simp only at h1
  rw [Array.getElem?_toList] at h1
  show (args ++ Array.replicate (fn.ntmps - args.size) undef).getD j undef = v
  rw [Array.getD_eq_getD_getElem?, Array.getElem?_append_left (Array.getElem?_eq_some_iff.1 h1).1, h1]; rfl
section
variable {P : Program} {fn : Func} {n : Nat} {R : Ending → World → Prop} {a : Act} {w : World}
theorem load1 {ty t : TypeId} {d : TypeDesc} {g : Nat} {c : SC} (hu : P.underlying ty = some d) (hd : (match d with | .struct _ | .array _ _ => false | _ => true) = true) (hr : Row w g () 1 (lsc [c]) t) : (loadVar ty ⟨g, 0, none⟩).run P w = .ok (mkc () c) w := by
  have ha : (isAgg ty).run P w = .ok false w := by
    simp only [isAgg, Sem.run_bind, run_underlying hu, Result.andThen_ok]
    cases d <;> simp_all
  have hc : w.cell? ⟨g, 0, none⟩ = some (mkc () c) := row_at hr 0 (by omega)
  simp only [loadVar, Sem.run_bind, ha, Result.andThen_ok, Bool.false_eq_true, if_false, run_load, hc]
theorem results2 {p q : Tmp} {t1 t2 u1 u2 : TypeId} {d1 d2 : TypeDesc} {g1 g2 : Nat} {c1 c2 : SC} (h : fn.results = #[.cell p t1, .cell q t2]) (h1 : P.underlying t1 = some d1) (h1' : (match d1 with | .struct _ | .array _ _ => false | _ => true) = true) (h2 : P.underlying t2 = some d2) (h2' : (match d2 with | .struct _ | .array _ _ => false | _ => true) = true)
    (hp : a.eval (.tmp p) = .pointer (some ⟨g1, 0, none⟩)) (hq : a.eval (.tmp q) = .pointer (some ⟨g2, 0, none⟩)) (r1 : Row w g1 () 1 (lsc [c1]) u1) (r2 : Row w g2 () 1 (lsc [c2]) u2) : (results fn a.tmps).run P w = .ok (.tuple #[mkc () c1, mkc () c2]) w := by
  have hp' : a.tmps[p]?.getD undef = .pointer (some ⟨g1, 0, none⟩) := by rw [← Array.getD_eq_getD_getElem?]; exact hp
  have hq' : a.tmps[q]?.getD undef = .pointer (some ⟨g2, 0, none⟩) := by rw [← Array.getD_eq_getD_getElem?]; exact hq
  simp [results, h, hp', hq', asAddr, load1 h1 h1' r1, load1 h2 h2' r2]
theorem b_cells {v : Value} (hd : a.defers = []) (hr : (results fn a.tmps).run P w = .ok v w) (hR : R (.returned v) w) : bodyPostM Fence.wide n P fn R .ret a w := by
  show LeavesInM Fence.wide n P fn a.tmps R a.defers .returning w
  rw [hd]
  exact ⟨v, hr, hR⟩
def markD (D : Nat) : Deferred := { target := .collected D, args := #[] }
theorem b_mark {v : Value} {D : Nat} (hd : a.defers = []) (hD : w.heap[D]? = some (.deferred (some []))) (hr : (results fn a.tmps).run P (w.putObj D (.deferred none)) = .ok v (w.putObj D (.deferred none))) (hR : R (.returned v) (w.putObj D (.deferred none))) : bodyPostM Fence.wide n P fn R .ret (Ad [markD D] a) w := by
  have e : (Ad [markD D] a).defers = [markD D] := by unfold Ad; rw [hd]; rfl
  show LeavesInM Fence.wide n P fn a.tmps R (Ad [markD D] a).defers .returning w
  rw [e]
  exact ⟨by simp, .inl ⟨D, _, rfl, run_takeDeferred hD, v, hr, hR⟩⟩
theorem Ad_eq {D sz : Nat} {S : List (Tmp × Value)} (h : Sl a sz S) : { a with defers := { target := .collected D, args := #[] } :: a.defers } = Ad [markD D] a := by
  unfold Ad markD
  rw [h.2.1]; rfl
end
theorem Row.put {w : World} {g n D : Nat} {f : Nat → SC} {t : TypeId} {o : Obj} (o' : Obj) (h : Row w g () n f t) (hD : w.heap[D]? = some o) (ho : o.isCells = false) : Row (w.putObj D o') g () n f t := by
  have hne : g ≠ D := by
    rintro rfl
    have h' : w.heap[g]? = some (.cells (FR () n f) t (0, 0)) := h
    rw [h'] at hD
    cases hD
    cases ho
  exact (World.putObj_heap_other (by omega)).trans h
theorem Sl.given {a : Act} {sz : Nat} {S : List (Tmp × Value)} {N : Tmp} {v : Value} (h : Sl a sz S) (hN : Nat.ble (N + 1) sz = true) : Sl { tmps := (#[N].zip #[v]).foldl (fun t (p, v) => t.setIfInBounds p v) a.tmps, defers := [] } sz ((N, v) :: S.filter fun e => !(e.1 == N)) := by
  have e : ({ tmps := (#[N].zip #[v]).foldl (fun t (p, v) => t.setIfInBounds p v) a.tmps, defers := [] } : Act) = a.put (some N) v := by
    simp [Act.put, h.2.1]
  rw [e]
  exact h.put hN rfl
theorem keeps_fr {B : Nat} {W W' : World} {X : List Nat} (h : Fr ⟨W, X⟩ W') (hX : ∀ k ∈ X, ∃ c t z, W.heap[k]? = some (.cells c t z)) : KeepsFrom B W W' :=
  ⟨h.size, fun k o _ hk ho => (h.block k (Array.getElem?_eq_some_iff.1 hk).1 (fun hm => by
    obtain ⟨c, t, z, e⟩ := hX k hm
    rw [e] at hk
    cases hk
    cases ho)).trans hk⟩
theorem cut_appendX {P : Program} {ops : Array Oper} {Q : Exit → Act → World → Prop} {i N sz base : Nat} {S : List (Tmp × Value)} {a : Act} {w : World} {wE : WX} {oi : Oper} {s x : Operand} {t e : TypeId} {z : Value} {size bytes : Nat} {gs : List Nat} {R : List RowD} {v xv : Value} {n m : Nat} {xs news : List Value}
    (hoi : ops[i]? = some oi) (hN : oi.dst = some N) (hop : oi.op = .call { callee := .builtin .append, args := #[s, x], argTypes := #[t, t] }) (hw : Region.wanted oi (yielded ops a.tmps) = true) (hs : a.eval s = v) (hx : a.eval x = xv)
    (ht : P.underlying t = some (.slice e)) (hinf : (P.info? e).map (fun i => (i.zero, i.size, i.bytes)) = some (some z, size, bytes)) (hzs : z.cells.size = size) (hO : OwnR base w e size gs v n xs) (hsrc : Src P size t xv m news w)
    (h63 : n + m ≤ maxLen) (hbytes : (n + m) * bytes ≤ 140737488355328) (hbase : base ≤ w.heap.size) (hfr : ∀ k, v.ownBlock = some k → wE.fresh k) (hH : Held wE w R) (hgs : ∀ r ∈ R, r.g ∈ gs ∨ v.ownBlock ≠ some r.g) (hgl : ∀ g ∈ gs, g < w.heap.size) (hS : Sl a sz S) (hNs : Nat.ble (N + 1) sz = true)
    (h : ∀ oa c w', OwnR base w' e size gs (.slice oa (n + m) c) (n + m) (xs ++ news) → Held wE w' R → ∀ a', Sl a' sz ((N, .slice oa (n + m) c) :: S.filter fun e => !(e.1 == N)) → wpList P ops Q (ops.toList.drop (i + 1)) a' w') : wpList P ops Q (ops.toList.drop i) a w := by
  obtain ⟨v', w', hr, ho, hg, hv⟩ := run_append_G (ty := oi.type) base ht hinf hzs hO.own hsrc h63 hbytes hbase
  have hO' := hO.grow ho hv hgl
  obtain ⟨oa, c, rfl, _, _⟩ := hO'.slice
  exact cut_run hoi hN hw (exec_append hop hs hx hr) hS hNs (h oa c w' hO' (hH.grown hg hfr fun r hr => (hgs r hr).elim (hO.apart r.g) id))
theorem exec_conv {P : Program} {o : Oper} {ev : Operand → Value} {w : World} {x : Operand} {src dst e : TypeId} {A : Option Addr} {n c : Nat} {ys : List Int} (ho : o.op = .convert src dst x) (hx : ev x = .slice A n c) (hs : P.underlying src = some (.slice e)) (he : P.underlying e = some (.int .u8)) (hd : P.underlying dst = some .string) (h : (Kd.int .u8).C w A n ys) :
    (execOp ev o).run P w = .ok (.value (.string (strOfNums ys))) w := by
  unfold execOp
  simp only [ho, hx, Sem.run_bind, Kd.C_string hs he hd h]; rfl
theorem dec_some {x : ByteArray} {ys : List Int} (h : decL true (bytesOf x) = some ys) (hs : x.size ≤ 140737488351232) (w : World) : Calls Try.prog 32 #[.string x, .bool true] w fun e w' => (∃ A c, e = .returned (.tuple #[.slice A ys.length c, .bool true]) ∧ (Kd.int .u8).C w' A ys.length ys) ∧ Below w.heap.size w w' :=
  (letters_Decode.calls x true ys true w (by rw [dec_f true x hs, h]; rfl)).mono fun e w' ⟨v, he, hR, hB⟩ => by
    obtain ⟨A, c, rfl⟩ := Kd.R_slice hR
    exact ⟨⟨A, c, he, (Kd.R_reads' hR).2.2⟩, hB⟩
theorem dec_none {x : ByteArray} (h : decL true (bytesOf x) = none) (hs : x.size ≤ 140737488351232) (w : World) : Calls Try.prog 32 #[.string x, .bool true] w fun e w' => (∃ A c, e = .returned (.tuple #[.slice A 0 c, .bool false])) ∧ Below w.heap.size w w' :=
  (letters_Decode.calls x true [] false w (by rw [dec_f true x hs, h]; rfl)).mono fun e w' ⟨v, he, hR, hB⟩ => by
    obtain ⟨A, c, rfl⟩ := Kd.R_slice hR
    exact ⟨⟨A, c, he⟩, hB⟩
theorem ext_right (x y : ByteArray) : (x ++ y).extract x.size (x ++ y).size = y := by
  apply bl_inj
  rw [bl_extract, bl_append, List.drop_append, List.drop_eq_nil_iff.2 (by rw [bl_len]; omega), bl_len, Nat.sub_self, List.drop_zero, List.nil_append, List.take_of_length_le (by rw [bl_len, ByteArray.size_append]; omega)]
theorem ext_left (x y : ByteArray) : (x ++ y).extract 0 x.size = x := by
  apply bl_inj
  rw [bl_extract, bl_append, List.drop_zero, Nat.sub_zero, List.take_append, List.take_of_length_le (by rw [bl_len]; omega), bl_len, Nat.sub_self, List.take_zero, List.append_nil]
theorem trim_calls (x : ByteArray) (hs : x.size ≤ 140737488351232) (w : World) : Calls Try.prog 33 #[.string (x ++ nl), .string nl] w fun e w' => e = .returned (.string x) ∧ Below w.heap.size w w' := by
  refine (strings_TrimSuffix.calls (x ++ nl) nl x w ?_).mono fun e w' h => ⟨h.1, h.2.below⟩
  have hz : ((x ++ nl).size : Int) = (x.size : Int) + 1 := by rw [ByteArray.size_append]; rfl
  have h1 : (nl.size : Int) = 1 := rfl
  have e1 : wrap64 (((x ++ nl).size : Int) - (nl.size : Int)) = (x.size : Int) := by rw [hz, h1]; unfold wrap64; omega
  have e2 : ((x ++ nl).extract (x.size : Int).toNat (x ++ nl).size) = nl := by rw [Int.toNat_natCast]; exact ext_right x nl
  have e3 : ((x ++ nl).extract 0 (x.size : Int).toNat) = x := by rw [Int.toNat_natCast]; exact ext_left x nl
  have hH : stringslite_HasSuffix.f (x ++ nl) nl = some true := by
    unfold stringslite_HasSuffix.f
    rw [e1, if_pos (by rw [hz, h1]; omega), if_pos (by omega), if_pos (by rw [hz]; omega), e2, beq_self_eq_true]
  show (stringslite_TrimSuffix.f (x ++ nl) nl).bind (fun t => some t) = some x
  unfold stringslite_TrimSuffix.f
  rw [hH, Option.bind_some, e1, if_pos rfl, if_pos (by omega), if_pos (by rw [hz]; omega), e3]; rfl
end Go.Proofs.Ytdleomeiojlooaa.P
end

section
namespace Go.Proofs.Ytdleomeiojlooaa.P
open Go.RowKit Go.Proofs.YtdleomeiojlooaaW.PrintWords Go.Proofs.YtdleomeiojlooaaW.PrintLast Go.Proofs.YtdleomeiojlooaaW.PrintMore
set_option linter.unusedVariables false
set_option linter.unusedSimpArgs false
def hustingsref19_Records.l0 : Nat → ByteArray → List ByteArray → Int → Int → Option (List ByteArray × Int × Bool)
  | 0, _, _, _, _ => none
  | k + 1, x0, x5, x6, x7 => if x7 < (x0.size : Int) then (if 0 ≤ x7 then (if (bt x0 x7) = 10 then (if 0 ≤ x6 then (if x6 ≤ x7 then (if x7 ≤ (x0.size : Int) then ((hustingsref01_Decode.f k (x0.extract (x6 : Int).toNat (x7 : Int).toNat) true).bind fun bt11001 => (if bt11001.2 = true then (if x5.length < 8796093022208 then (hustingsref19_Records.l0 k x0 (x5 ++ [strOfNums bt11001.1]) (wrap64 (x7 + 1)) (wrap64 (x7 + 1))) else (none)) else (some (([] : List ByteArray), 0, false)))) else (none)) else (none)) else (none)) else (hustingsref19_Records.l0 k x0 x5 x6 (wrap64 (x7 + 1)))) else (none)) else (some (x5, x6, true))
def hustingsref19_Records.f (k : Nat) (a0 : ByteArray) : Option (List ByteArray × Int × Bool) := hustingsref19_Records.l0 k a0 ([] : List ByteArray) 0 0
theorem hustingsref19_Records.mono_l : ∀ k, (∀ y0 y1 y2 y3, LeO (hustingsref19_Records.l0 k y0 y1 y2 y3) (hustingsref19_Records.l0 (k + 1) y0 y1 y2 y3))
  | 0 => fun _ _ _ _ r h => by simp [hustingsref19_Records.l0] at h
  | k + 1 => by
    have ih0 := hustingsref19_Records.mono_l k
    · intro y0 y1 y2 y3
      unfold hustingsref19_Records.l0
      repeat' first
      | (with_reducible exact ih0 _ _ _ _)
      | (with_reducible exact hustingsref01_Decode.mono _ _ _)
      | (with_reducible exact LeO.refl _)
      | (with_reducible exact LeO.none _)
      | (with_reducible refine LeO.ite ?_ ?_)
      | (with_reducible refine LeO.bind ?_ (fun _ => ?_))
      | exact ih0 _ _ _ _
      | exact hustingsref01_Decode.mono _ _ _
      | exact LeO.none _
      | refine LeO.ite ?_ ?_
      | refine LeO.bind ?_ (fun _ => ?_)
theorem hustingsref19_Records.mono : ∀ a0 k, LeO (hustingsref19_Records.f k a0) (hustingsref19_Records.f (k + 1) a0) := by
  intro a0 k
  have ih0 := hustingsref19_Records.mono_l k
  unfold hustingsref19_Records.f
  repeat' first
      | (with_reducible exact ih0 _ _ _ _)
      | (with_reducible exact hustingsref01_Decode.mono _ _ _)
      | (with_reducible exact LeO.refl _)
      | (with_reducible exact LeO.none _)
      | (with_reducible refine LeO.ite ?_ ?_)
      | (with_reducible refine LeO.bind ?_ (fun _ => ?_))
      | exact ih0 _ _ _ _
      | exact hustingsref01_Decode.mono _ _ _
      | exact LeO.none _
      | refine LeO.ite ?_ ?_
      | refine LeO.bind ?_ (fun _ => ?_)
set_option maxHeartbeats 8000000 in
set_option maxRecDepth 100000 in
theorem hustingsref19_Records.calls (k : Nat) (a0 : ByteArray) (r1 : List ByteArray) (r2 : Int) (r3 : Bool) (w : World) (h : hustingsref19_Records.f k a0 = some (r1, r2, r3)) :
    Calls Try.prog 11 #[.string a0] w fun e w' => ∃ v0_ : Value, e = .returned (.tuple #[v0_, .int .i64 r2, .bool r3]) ∧ Kd.R Kd.string 9 w' w.heap.size (fun _ => True) v0_ r1 ∧ Below w.heap.size w w' := by
  have HB := Aside0.mk (Below.refl w.heap.size w)
  have H : (hustingsref19_Records.l0 k a0 ([] : List ByteArray) 0 0) = some (r1, r2, r3) := h
  clear h
  have H' := Aside0.mk H
  clear H
  go_enter Try.func11, Try.ntmps11
  go_wp2
  go_loopg [5, 6, 7] k (fun kq v5 v6 v7 w' => ∃ (x5_1 : List ByteArray) (x6_1 : Int) (x7_1 : Int), v6 = .int .i64 x6_1 ∧ v7 = .int .i64 x7_1 ∧ Aside0 (hustingsref19_Records.l0 kq a0 x5_1 x6_1 x7_1 = some (r1, r2, r3)) ∧ Aside0 (kq ≤ k) ∧ Aside0 (Kd.R Kd.string 9 w' w.heap.size (fun _ => True) v5 x5_1) ∧ Aside0 (Below w.heap.size w w'))
  case atStart => exact ⟨(([] : List ByteArray)), (0), (0), (by first | rfl | (simp; done) | (simp [*]; done)), (by first | rfl | (simp; done) | (simp [*]; done)), H', ⟨Nat.le_refl _⟩, ⟨by first | exact Kd.R_nil _ _ _ _ _ | exact Kd.N_nil _ _ _ _ _ | exact Kd.V_nil _ _ _ _ _ | exact Kd.Q_nil _ _ _ _ _ | exact Kd.S_nil _ _ _ _ _⟩, ⟨by repeat (first | (with_reducible first | exact HB.out | apply below_alloc | apply pw_below_drewN | apply below_drew1) | exact HB.out)⟩⟩
  case round =>
    clear H'
    try clear c1
    obtain ⟨x5_1, x6_1, x7_1, rfl, rfl, HA, HK1, HO_5, HB⟩ := hrel
    cases gk with
    | zero => exact absurd HA.out (by simp [hustingsref19_Records.l0])
    | succ k1 =>
      have H := HA.out
      clear HA
      simp only [hustingsref19_Records.l0] at H
      by_cases c2 : x7_1 < (a0.size : Int)
      · rw [if_pos c2] at H
        have c2b0 : decide (x7_1 < (a0.size : Int)) = true := decide_eq_true c2
        clear c2
        by_cases c3 : 0 ≤ x7_1
        · rw [if_pos c3] at H
          have c3b0 : decide (0 ≤ x7_1) = true := decide_eq_true c3
          clear c3
          by_cases c5 : (bt a0 x7_1) = 10
          · rw [if_pos c5] at H
            have c5b0 : ((bt a0 x7_1) == 10) = true := beq_iff_eq.mpr c5
            have c5b1 : ((bt a0 x7_1) != 10) = false := bne_eq_false_iff_eq.mpr c5
            clear c5
            by_cases c6 : 0 ≤ x6_1
            · rw [if_pos c6] at H
              have c6b0 := eq_true c6
              have c6b1 : decide (0 ≤ x6_1) = true := decide_eq_true c6
              clear c6
              by_cases c7 : x6_1 ≤ x7_1
              · rw [if_pos c7] at H
                have c7b0 := eq_true c7
                have c7b1 : decide (x6_1 ≤ x7_1) = true := decide_eq_true c7
                clear c7
                by_cases c8 : x7_1 ≤ (a0.size : Int)
                · rw [if_pos c8] at H
                  have c8b0 := eq_true c8
                  have c8b1 : decide (x7_1 ≤ (a0.size : Int)) = true := decide_eq_true c8
                  clear c8
                  replace H := Option.bind_eq_some_iff.mp H
                  obtain ⟨⟨t11001, t11002⟩, A90, H⟩ := H
                  replace H : (if t11002 = true then (if x5_1.length < 8796093022208 then (hustingsref19_Records.l0 k1 a0 (x5_1 ++ [strOfNums t11001]) (wrap64 (x7_1 + 1)) (wrap64 (x7_1 + 1))) else (none)) else (some (([] : List ByteArray), 0, false))) = some (r1, r2, r3) := H
                  have A9 := Aside0.mk A90
                  clear A90
                  by_cases c10 : t11002 = true
                  · subst c10
                    have H1 : (if x5_1.length < 8796093022208 then (hustingsref19_Records.l0 k1 a0 (x5_1 ++ [strOfNums t11001]) (wrap64 (x7_1 + 1)) (wrap64 (x7_1 + 1))) else (none)) = some (r1, r2, r3) := by rw [if_pos rfl] at H; exact H
                    clear H
                    have H := H1
                    clear H1
                    by_cases c11 : x5_1.length < 8796093022208
                    · rw [if_pos c11] at H
                      have LMc11 := Aside0.mk c11
                      clear c11
                      obtain ⟨y11005, hy11005⟩ : ∃ y_ : List ByteArray, y_ = (x5_1 ++ [strOfNums t11001]) := ⟨_, rfl⟩
                      replace H : (hustingsref19_Records.l0 k1 a0 y11005 (wrap64 (x7_1 + 1)) (wrap64 (x7_1 + 1))) = some (r1, r2, r3) := by first | (rw [hy11005]; with_reducible exact H) | (have H2_ := (Option.bind_some _ _).symm.trans H; rw [hy11005]; with_reducible exact H2_) | (have H2_ := (Option.bind_some _ _).symm.trans H; with_reducible exact H2_) | with_reducible exact H | (rw [hy11005]; exact H) | exact H
                      have Ny11005 := Aside0.mk hy11005
                      clear hy11005
                      have H' := Aside0.mk H
                      clear H
                      have p4 : 0 ≤ (x7_1 : Int) := of_decide_eq_true (by first | (with_reducible assumption) | assumption)
                      have q4 : x7_1 < (a0.size : Int) := of_decide_eq_true (by first | (with_reducible assumption) | assumption)
                      have hx4 := bt_at a0 x7_1
                      replace p4 := eq_true p4
                      replace q4 := eq_true q4
                      go_wp2_with (first | ((with_reducible refine gate_callee (f := 34) rfl ?_); refine goesL_ (some 25) rfl rfl Try.func34 (by kernel_rfl) rfl #[.string (a0.extract (x6_1 : Int).toNat (x7_1 : Int).toNat), .bool true] rfl (by (try simp only [List.map_toArray, List.map_cons, List.map_nil]); first | done | rfl | (simp only [List.length_drop, List.length_take]; rfl)) ?_; (with_reducible refine (hustingsref01_Decode.calls k1 (a0.extract (x6_1 : Int).toNat (x7_1 : Int).toNat) true t11001 true _ A9.out).mono ?_); rintro e w12 ⟨v11003, rfl, ho0, hb⟩; refine ⟨_, rfl, ?_⟩; have n0_ := Aside0.mk (Kd.R_below (by (with_reducible repeat (first | apply Kd.R_alloc | apply Kd.R_drewN | apply Kd.R_drew)); exact HO_5.out) hb); have n1_ := Aside0.mk (Kd.R_lower ho0 (below_size (by repeat (first | (with_reducible first | exact HB.out | apply below_alloc | apply pw_below_drewN | apply below_drew1) | exact HB.out)))); have n2_ := Aside0.mk (below_step (by repeat (first | (with_reducible first | exact HB.out | apply below_alloc | apply pw_below_drewN | apply below_drew1) | exact HB.out)) hb); clear HO_5; clear HB; have HO_5 := n0_; have HO11004 := n1_; have HB := n2_; clear n0_ n1_ n2_; (try clear hb); (try clear hb2); (try clear hk); (try clear hi); (try clear ho0); have hcv13 := own_string (P := Try.prog) Try.underlying58 Try.underlying5 Try.underlying9 (Kd.own_of_R HO11004.out)) | ((with_reducible refine gate_builtin (b := .append) (xs := #[.tmp 30, .tmp 33]) rfl ?_); at_builtin; refine Kd.R_append Kd.string (w0 := w) w.heap.size rfl (.tmp 30) (.tmp 33) 25 9 (.string ⟨#[]⟩) 16 rfl Try.underlying25 info9 rfl (by decide) (by omega) u5 x5_1 (strOfNums t11001) [.string (strOfNums t11001)] (fun _ => True) (fun _ => False) rfl rfl ?aP (fun _ hk => hk.elim) ?aF ?aO ?aB ?aS ?aL ?_; (case aP => exact rfl); (case aB => exact (by repeat (first | (with_reducible first | exact HB.out | apply below_alloc | apply pw_below_drewN | apply below_drew1) | exact HB.out))); (case aF => exact (fun _ _ => trivial)); (case aO => exact (by (with_reducible repeat (first | apply Kd.R_alloc | apply Kd.R_drewN | apply Kd.R_drew)); exact HO_5.out)); (case aS => exact (below_size (by repeat (first | (with_reducible first | exact HB.out | apply below_alloc | apply pw_below_drewN | apply below_drew1) | exact HB.out)))); (case aL => have := LMc11.out; omega); intro v11006 w14 ho hb hg hat; rw [← Ny11005.out] at ho; have n0_ := Aside0.mk (Kd.R_over' (by (with_reducible repeat (first | apply Kd.R_alloc | apply Kd.R_drewN | apply Kd.R_drew)); exact HO11004.out) (Kd.R_typed (by (with_reducible repeat (first | apply Kd.R_alloc | apply Kd.R_drewN | apply Kd.R_drew)); exact HO_5.out)) (by decide) hg); have n1_ := Aside0.mk (hb); have n2_ := Aside0.mk (ho); clear HO11004; clear HB; clear HO_5; have HO11004 := n0_; have HB := n1_; have HO11007 := n2_; clear n0_ n1_ n2_; clear ho hb hg hat))
                      go_roundg k1
                      case measure => have := HK1.out; omega
                      case rel => exact ⟨(y11005), (wrap64 (x7_1 + 1)), (wrap64 (x7_1 + 1)), (by first | rfl | (simp; done) | (simp [*]; done)), (by first | rfl | (simp; done) | (simp [*]; done)), H', ⟨by have := HK1.out; omega⟩, ⟨by (with_reducible repeat (first | apply Kd.R_alloc | apply Kd.R_drewN | apply Kd.R_drew)); exact HO11007.out⟩, ⟨by repeat (first | (with_reducible first | exact HB.out | apply below_alloc | apply pw_below_drewN | apply below_drew1) | exact HB.out)⟩⟩
                    · rw [if_neg c11] at H
                      exact absurd H (by simp)
                  · replace c10 := Bool.eq_false_iff.mpr c10
                    subst c10
                    have H1 : (some (([] : List ByteArray), 0, false)) = some (r1, r2, r3) := by rw [if_neg (show ¬ (false = true) by decide)] at H; exact H
                    clear H
                    have H := H1
                    clear H1
                    simp only [Option.some.injEq, Prod.mk.injEq] at H
                    obtain ⟨rfl, rfl, rfl⟩ := H
                    have p4 : 0 ≤ (x7_1 : Int) := of_decide_eq_true (by first | (with_reducible assumption) | assumption)
                    have q4 : x7_1 < (a0.size : Int) := of_decide_eq_true (by first | (with_reducible assumption) | assumption)
                    have hx4 := bt_at a0 x7_1
                    replace p4 := eq_true p4
                    replace q4 := eq_true q4
                    go_wp2_with (first | ((with_reducible refine gate_callee (f := 34) rfl ?_); refine goesL_ (some 25) rfl rfl Try.func34 (by kernel_rfl) rfl #[.string (a0.extract (x6_1 : Int).toNat (x7_1 : Int).toNat), .bool true] rfl (by (try simp only [List.map_toArray, List.map_cons, List.map_nil]); first | done | rfl | (simp only [List.length_drop, List.length_take]; rfl)) ?_; (with_reducible refine (hustingsref01_Decode.calls k1 (a0.extract (x6_1 : Int).toNat (x7_1 : Int).toNat) true t11001 false _ A9.out).mono ?_); rintro e w15 ⟨v11003, rfl, ho0, hb⟩; refine ⟨_, rfl, ?_⟩; have n0_ := Aside0.mk (Kd.R_below (by (with_reducible repeat (first | apply Kd.R_alloc | apply Kd.R_drewN | apply Kd.R_drew)); exact HO_5.out) hb); have n1_ := Aside0.mk (Kd.R_lower ho0 (below_size (by repeat (first | (with_reducible first | exact HB.out | apply below_alloc | apply pw_below_drewN | apply below_drew1) | exact HB.out)))); have n2_ := Aside0.mk (below_step (by repeat (first | (with_reducible first | exact HB.out | apply below_alloc | apply pw_below_drewN | apply below_drew1) | exact HB.out)) hb); clear HO_5; clear HB; have HO_5 := n0_; have HO11004 := n1_; have HB := n2_; clear n0_ n1_ n2_; (try clear hb); (try clear hb2); (try clear hk); (try clear hi); (try clear ho0)))
                    go_ret3
                    exact ⟨_, by first | rfl | (simp [errW_none, errW_some] <;> rfl) | (simp [*, errW_none, errW_some] <;> rfl), by first | exact Kd.R_nil _ _ _ _ _ | exact Kd.N_nil _ _ _ _ _ | exact Kd.V_nil _ _ _ _ _ | exact Kd.Q_nil _ _ _ _ _ | exact Kd.S_nil _ _ _ _ _, by repeat (first | (with_reducible first | exact HB.out | apply below_alloc | apply pw_below_drewN | apply below_drew1) | exact HB.out)⟩
                · rw [if_neg c8] at H
                  exact absurd H (by simp)
              · rw [if_neg c7] at H
                exact absurd H (by simp)
            · rw [if_neg c6] at H
              exact absurd H (by simp)
          · rw [if_neg c5] at H
            have c5b0 : ((bt a0 x7_1) == 10) = false := beq_eq_false_iff_ne.mpr c5
            have c5b1 : ((bt a0 x7_1) != 10) = true := bne_iff_ne.mpr c5
            have H' := Aside0.mk H
            clear H
            have p4 : 0 ≤ (x7_1 : Int) := of_decide_eq_true (by first | (with_reducible assumption) | assumption)
            have q4 : x7_1 < (a0.size : Int) := of_decide_eq_true (by first | (with_reducible assumption) | assumption)
            have hx4 := bt_at a0 x7_1
            replace p4 := eq_true p4
            replace q4 := eq_true q4
            go_wp2
            go_roundg k1
            case measure => have := HK1.out; omega
            case rel => exact ⟨(x5_1), (x6_1), (wrap64 (x7_1 + 1)), (by first | rfl | (simp; done) | (simp [*]; done)), (by first | rfl | (simp; done) | (simp [*]; done)), H', ⟨by have := HK1.out; omega⟩, ⟨by (with_reducible repeat (first | apply Kd.R_alloc | apply Kd.R_drewN | apply Kd.R_drew)); exact HO_5.out⟩, ⟨by repeat (first | (with_reducible first | exact HB.out | apply below_alloc | apply pw_below_drewN | apply below_drew1) | exact HB.out)⟩⟩
        · rw [if_neg c3] at H
          exact absurd H (by simp)
      · rw [if_neg c2] at H
        have c2b0 : decide (x7_1 < (a0.size : Int)) = false := decide_eq_false c2
        clear c2
        simp only [Option.some.injEq, Prod.mk.injEq] at H
        obtain ⟨rfl, rfl, rfl⟩ := H
        go_wp2
        go_ret3
        exact ⟨_, by first | rfl | (simp [errW_none, errW_some] <;> rfl) | (simp [*, errW_none, errW_some] <;> rfl), by (with_reducible repeat (first | apply Kd.R_alloc | apply Kd.R_drewN | apply Kd.R_drew)); exact HO_5.out, by repeat (first | (with_reducible first | exact HB.out | apply below_alloc | apply pw_below_drewN | apply below_drew1) | exact HB.out)⟩
end Go.Proofs.Ytdleomeiojlooaa.P
end

section
namespace Go.Proofs.Ytdleomeiojlooaa.P
set_option linter.unusedVariables false
set_option linter.unusedSimpArgs false
open Go.RowKit Go.ChangeShapes Go.WideShapes Go.Proofs.YtdleomeiojlooaaW.PrintWords Go.Proofs.YtdleomeiojlooaaW.PrintLast Go.Proofs.YtdleomeiojlooaaW.PrintMore Go.Proofs.Ytdleomeiojlooaa.L
structure Cuts (al : ByteArray) (ls : List ByteArray) (tl : ByteArray) : Prop where
  eq : al = cat ls ++ tl
  no : ∀ x ∈ ls, NoN x
  tail : NoN tl
theorem bt_bl {s : ByteArray} {i : Nat} {b : UInt8} (h : (bl s)[i]? = some b) : bt s (i : Int) = (b.toNat : Int) := by
  obtain ⟨hi, he⟩ := List.getElem?_eq_some_iff.1 h
  rw [bl_len] at hi
  rw [bt_get s i hi, ← he]
  simp [bl]; rfl
theorem ne10 {b : UInt8} (h : b ≠ 10) : (b.toNat : Int) ≠ 10 := fun e => h (UInt8.toNat_inj.1 (by show b.toNat = 10; omega))
theorem cat_last : ∀ ls : List ByteArray, ls ≠ [] → (bl (cat ls))[(cat ls).size - 1]? = some 10
  | [], h => absurd rfl h
  | [x], _ => by
    rw [bl_cat, cat_size, List.getElem?_append_right (by rw [bl_len]; omega), bl_len]
    show (10 :: bl (cat []))[x.size + 1 + 0 - 1 - x.size]? = some 10
    rw [show x.size + 1 + 0 - 1 - x.size = 0 by omega]; rfl
  | x :: y :: r, _ => by
    have ih := cat_last (y :: r) (by simp)
    have hz := cat_size y r
    rw [bl_cat, cat_size, List.getElem?_append_right (by rw [bl_len]; omega), bl_len, show x.size + 1 + (cat (y :: r)).size - 1 - x.size = ((cat (y :: r)).size - 1) + 1 by omega, List.getElem?_cons_succ]
    exact ih
theorem get_left {a b : ByteArray} {i : Nat} {c : UInt8} (h : (bl a)[i]? = some c) : (bl (a ++ b))[i]? = some c := by
  rw [bl_append, List.getElem?_append_left (List.getElem?_eq_some_iff.1 h).1]; exact h
theorem get_right {a b : ByteArray} {j : Nat} : (bl (a ++ b))[a.size + j]? = (bl b)[j]? := by
  rw [bl_append, List.getElem?_append_right (by rw [bl_len]; omega), bl_len, Nat.add_sub_cancel_left]
theorem get_some {b : ByteArray} {j : Nat} (h : j < b.size) : ∃ c, (bl b)[j]? = some c := ⟨_, List.getElem?_eq_getElem (by rw [bl_len]; exact h)⟩
theorem last_down (ls : List ByteArray) (tl : ByteArray) (hn : NoN tl) (hs : (cat ls ++ tl).size ≤ 1099511627776) : ∀ j, j ≤ tl.size → ∀ k, j + 2 ≤ k → bytealg_LastIndexByteString.l0 k (cat ls ++ tl) 10 ((((cat ls).size + j : Nat) : Int) - 1) = some (((cat ls).size : Int) - 1)
  | 0, _, k + 1, hk => by
    rw [bytealg_LastIndexByteString.l0, Nat.add_zero]
    by_cases h : ls = []
    · subst h
      rw [if_neg (by show ¬ (((0 : Nat) : Int) - 1 ≥ 0); omega)]; rfl
    · have hb := get_left (b := tl) (cat_last ls h)
      have hlt := (List.getElem?_eq_some_iff.1 hb).1
      rw [bl_len, ByteArray.size_append] at hlt
      have hpos : 0 < (cat ls).size := by
        cases ls with
        | nil => exact absurd rfl h
        | cons x r => rw [cat_size]; omega
      have e : (((cat ls).size : Nat) : Int) - 1 = (((cat ls).size - 1 : Nat) : Int) := by omega
      rw [e, if_pos (by omega), if_pos (by omega), if_pos (by rw [ByteArray.size_append]; omega), if_pos (by rw [bt_bl hb]; rfl)]
  | j + 1, hj, k + 1, hk => by
    have ih := last_down ls tl hn hs j (by omega) k (by omega)
    obtain ⟨c, hc⟩ := get_some (b := tl) (j := j) (by omega)
    have hb : (bl (cat ls ++ tl))[(cat ls).size + j]? = some c := get_right.trans hc
    have hne := ne10 (hn c (List.mem_of_getElem? hc))
    have e : (((cat ls).size + (j + 1) : Nat) : Int) - 1 = (((cat ls).size + j : Nat) : Int) := by omega
    rw [bytealg_LastIndexByteString.l0, e, if_pos (by omega), if_pos (by omega), if_pos (by rw [ByteArray.size_append]; omega), if_neg (by rw [bt_bl hb]; exact hne)]
    rw [ByteArray.size_append] at hs
    rw [w64 _ (by omega)]
    exact ih
theorem last_calls {al tl : ByteArray} {ls : List ByteArray} (h : Cuts al ls tl) (hs : al.size ≤ 1099511627776) (w : World) : Calls Try.prog 30 #[.string al, .int .u8 10] w fun e w' => e = .returned (.int .i64 (((cat ls).size : Int) - 1)) ∧ Below w.heap.size w w' := by
  refine (strings_LastIndexByte.calls (tl.size + 2) al 10 _ w ?_).mono fun e w' h => ⟨h.1, h.2.below⟩
  have hz := h.eq
  subst hz
  unfold strings_LastIndexByte.f bytealg_LastIndexByteString.f
  have := last_down ls tl h.tail hs tl.size (Nat.le_refl _) (tl.size + 2) (Nat.le_refl _)
  have e : wrap64 (((cat ls ++ tl).size : Int) - 1) = (((cat ls).size + tl.size : Nat) : Int) - 1 := by
    rw [ByteArray.size_append] at hs ⊢
    rw [w64 _ (by omega)]
  rw [e, this]; rfl
def decS (x : ByteArray) : Option ByteArray := (decL true (bytesOf x)).map strOfNums
def recs : List ByteArray → Option (List ByteArray)
  | [] => some []
  | x :: r => (decS x).bind fun y => (recs r).map (y :: ·)
theorem recs_snoc : ∀ {pre rs : List ByteArray} {x y : ByteArray}, recs pre = some rs → decS x = some y → recs (pre ++ [x]) = some (rs ++ [y])
  | [], rs, x, y, h, hx => by
    cases h
    show (decS x).bind _ = _
    rw [hx]; rfl
  | z :: pre, rs, x, y, h, hx => by
    unfold recs at h
    cases hz : decS z with
    | none => rw [hz] at h; cases h
    | some u =>
      rw [hz, Option.bind_some] at h
      cases hr : recs pre with
      | none => rw [hr] at h; cases h
      | some rs2 =>
        rw [hr] at h
        cases h
        show (decS z).bind (fun y => (recs (pre ++ [x])).map (y :: ·)) = _
        rw [hz, Option.bind_some, recs_snoc hr hx]; rfl
theorem recs_none : ∀ (pre : List ByteArray) {x : ByteArray} (r : List ByteArray), decS x = none → recs (pre ++ x :: r) = none
  | [], x, r, hx => by
    show (decS x).bind _ = _
    rw [hx]; rfl
  | z :: pre, x, r, hx => by
    show (decS z).bind (fun y => (recs (pre ++ x :: r)).map (y :: ·)) = _
    rw [recs_none pre r hx]
    cases decS z <;> rfl
theorem recs_len : ∀ {ls rs : List ByteArray}, recs ls = some rs → rs.length = ls.length
  | [], rs, h => by cases h; rfl
  | x :: r, rs, h => by
    unfold recs at h
    cases hx : decS x with
    | none => rw [hx] at h; cases h
    | some y =>
      rw [hx, Option.bind_some] at h
      cases hr : recs r with
      | none => rw [hr] at h; cases h
      | some q => rw [hr] at h; cases h; simp [recs_len hr]
theorem cat_len (ls : List ByteArray) : ls.length ≤ (cat ls).size := by
  induction ls with
  | nil => exact Nat.zero_le _
  | cons x r ih => rw [cat_size]; simp; omega
section
variable {all : ByteArray} {out : List ByteArray} {fr : Int} {res : List ByteArray × Int × Bool}
theorem scan_to : ∀ (m i : Nat), i + m ≤ all.size → all.size ≤ 1073741824 → (∀ j, j < m → ∃ c, (bl all)[i + j]? = some c ∧ c ≠ 10) → Ev (fun k => hustingsref19_Records.l0 k all out fr ((i + m : Nat) : Int)) res → Ev (fun k => hustingsref19_Records.l0 k all out fr (i : Int)) res
  | 0, i, _, _, _, h => h
  | m + 1, i, hi, hs, hj, h => by
    obtain ⟨c, hc, hne⟩ := hj 0 (by omega)
    rw [Nat.add_zero] at hc
    have ih := scan_to m (i + 1) (by omega) hs (fun j hjm => by have := hj (j + 1) (by omega); rwa [show i + (j + 1) = i + 1 + j by omega] at this) (by rwa [show i + 1 + m = i + (m + 1) by omega])
    refine Ev.step (fun k => ?_) ih
    rw [hustingsref19_Records.l0, if_pos (by omega), if_pos (by omega), if_neg (by rw [bt_bl hc]; exact ne10 hne), w64 _ (by omega)]; rfl
end
def recAns (out : List ByteArray) (n : Nat) : Option (List ByteArray) → List ByteArray × Int × Bool
  | some rs => (out ++ rs, (n : Int), true)
  | none => ([], 0, false)
theorem rec_ev (all tl : ByteArray) (htl : NoN tl) (hs : all.size ≤ 1073741824) : ∀ (ls pre out : List ByteArray), all = cat pre ++ (cat ls ++ tl) → (∀ x ∈ ls, NoN x) → out.length + ls.length ≤ 1073741824 →
    Ev (fun k => hustingsref19_Records.l0 k all out ((cat pre).size : Int) ((cat pre).size : Int)) (recAns out ((cat pre).size + (cat ls).size) (recs ls))
  | [], pre, out, he, _, _ => by
    have hz : all.size = (cat pre).size + tl.size := by rw [he, ByteArray.size_append]; show _ + (ByteArray.empty ++ tl).size = _; rw [ByteArray.empty_append]
    refine scan_to tl.size (cat pre).size (by omega) hs (fun j hj => ?_) ?_
    · obtain ⟨c, hc⟩ := get_some hj
      refine ⟨c, ?_, htl c (List.mem_of_getElem? hc)⟩
      rw [he, get_right]
      show (bl (ByteArray.empty ++ tl))[j]? = _
      rw [ByteArray.empty_append]; exact hc
    · rw [← hz]
      refine Ev.step (f := fun _ => some (out, ((cat pre).size : Int), true)) (fun k => ?_) ?_
      · rw [hustingsref19_Records.l0, if_neg (by omega)]
      · show Ev _ (out ++ [], (((cat pre).size + 0 : Nat) : Int), true)
        rw [List.append_nil]; exact Ev.now _
  | x :: r, pre, out, he, hn, hlen => by
    have hx : NoN x := hn x List.mem_cons_self
    have hz : all.size = (cat pre).size + (x.size + 1 + (cat r).size + tl.size) := by rw [he, ByteArray.size_append, ByteArray.size_append, cat_size]
    have e2 : all = cat (pre ++ [x]) ++ (cat r ++ tl) := by
      rw [he, cat_append]
      show cat pre ++ (x ++ nl ++ cat r ++ tl) = cat pre ++ (x ++ nl ++ ByteArray.empty) ++ (cat r ++ tl)
      rw [ByteArray.append_empty]
      simp only [ByteArray.append_assoc]
    have hz2 : (cat (pre ++ [x])).size = (cat pre).size + x.size + 1 := by rw [cat_append, ByteArray.size_append, cat_size]; show _ + (x.size + 1 + 0) = _; omega
    have hxl : (bl all) = bl (cat pre) ++ (bl x ++ 10 :: bl (cat r ++ tl)) := by
      rw [he, bl_append, bl_append, bl_cat, bl_append, List.append_assoc]; rfl
    refine scan_to x.size (cat pre).size (by omega) hs (fun j hj => ?_) ?_
    · obtain ⟨c, hc⟩ := get_some hj
      refine ⟨c, ?_, hx c (List.mem_of_getElem? hc)⟩
      rw [hxl, List.getElem?_append_right (by rw [bl_len]; omega), bl_len, Nat.add_sub_cancel_left, List.getElem?_append_left (by rw [bl_len]; exact hj)]; exact hc
    · have h10 : (bl all)[(cat pre).size + x.size]? = some 10 := by
        rw [hxl, List.getElem?_append_right (by rw [bl_len]; omega), bl_len, Nat.add_sub_cancel_left, List.getElem?_append_right (by rw [bl_len]; omega), bl_len, Nat.sub_self]; rfl
      have hex : all.extract ((cat pre).size : Int).toNat (((cat pre).size + x.size : Nat) : Int).toNat = x := by
        rw [Int.toNat_natCast, Int.toNat_natCast]
        apply bl_inj
        rw [bl_extract, hxl, List.drop_append, List.drop_eq_nil_iff.2 (by rw [bl_len]; omega), bl_len, Nat.sub_self, List.drop_zero, List.nil_append, Nat.add_sub_cancel_left, List.take_append, List.take_of_length_le (by rw [bl_len]; omega), bl_len, Nat.sub_self, List.take_zero, List.append_nil]
      refine Ev.step (f := fun k => (hustingsref01_Decode.f k x true).bind fun b => if b.2 = true then (if out.length < 8796093022208 then hustingsref19_Records.l0 k all (out ++ [strOfNums b.1]) (((cat (pre ++ [x])).size : Nat) : Int) (((cat (pre ++ [x])).size : Nat) : Int) else none) else some ([], 0, false)) (fun k => ?_) ?_
      · rw [hustingsref19_Records.l0, if_pos (by omega), if_pos (by omega), if_pos (by rw [bt_bl h10]; rfl), if_pos (by omega), if_pos (by omega), if_pos (by omega), hex, w64 _ (by omega), hz2]; rfl
      · obtain ⟨k0, hk0⟩ := ref_decode_ev true x (by omega)
        refine Ev.bind (Ev.of (fun k => hustingsref01_Decode.mono x true k) hk0) ?_
        cases hd : decL true (bytesOf x) with
        | none =>
          have e3 : recs (x :: r) = none := by unfold recs decS; rw [hd]; rfl
          rw [e3]
          show Ev (fun n => if false = true then _ else some ([], 0, false)) _
          simp only [Bool.false_eq_true, if_false]
          exact Ev.now _
        | some ys =>
          have ih := rec_ev all tl htl hs r (pre ++ [x]) (out ++ [strOfNums ys]) e2 (fun z hz => hn z (List.mem_cons_of_mem _ hz)) (by simp at hlen ⊢; omega)
          have e3 : recs (x :: r) = (recs r).map (strOfNums ys :: ·) := by
            show (decS x).bind (fun y => (recs r).map (y :: ·)) = _
            unfold decS
            rw [hd]; rfl
          have e4 : recAns out ((cat pre).size + (cat (x :: r)).size) (recs (x :: r)) = recAns (out ++ [strOfNums ys]) ((cat (pre ++ [x])).size + (cat r).size) (recs r) := by
            rw [e3]
            cases recs r with
            | none => rfl
            | some q =>
              show (out ++ (strOfNums ys :: q), _, true) = (out ++ [strOfNums ys] ++ q, _, true)
              rw [cat_size, hz2, List.append_assoc, show (cat pre).size + (x.size + 1 + (cat r).size) = (cat pre).size + x.size + 1 + (cat r).size by omega]; rfl
          rw [e4]
          show Ev (fun n => if true = true then (if out.length < 8796093022208 then _ else none) else _) _
          simp only [if_true]
          have hol : out.length < 8796093022208 := by simp at hlen; omega
          simp only [hol, if_true]
          exact ih
theorem records_calls {al tl : ByteArray} {ls : List ByteArray} (h : Cuts al ls tl) (hs : al.size ≤ 1073741824) (w : World) : Calls Try.prog 11 #[.string al] w fun e w' =>
    ∃ v : Value, e = .returned (.tuple #[v, .int .i64 (recAns [] (cat ls).size (recs ls)).2.1, .bool (recAns [] (cat ls).size (recs ls)).2.2]) ∧ Kd.R Kd.string 9 w' w.heap.size (fun _ => True) v (recAns [] (cat ls).size (recs ls)).1 ∧ Below w.heap.size w w' := by
  have hl : ls.length ≤ al.size := by rw [h.eq, ByteArray.size_append]; have := cat_len ls; omega
  have := rec_ev al tl h.tail hs ls [] [] (by show _ = ByteArray.empty ++ _; rw [ByteArray.empty_append]; exact h.eq) h.no (by simp; omega)
  obtain ⟨k, hk⟩ := this.rounds
  have e : (cat []).size + (cat ls).size = (cat ls).size := by show 0 + _ = _; omega
  rw [e] at hk
  exact hustingsref19_Records.calls k al _ _ _ w hk
theorem Fr.comp {W w1 w2 : World} {X Y : List Nat} (h : Fr ⟨W, X⟩ w1) (k : Fr ⟨w1, Y⟩ w2) : Fr ⟨W, X ++ Y⟩ w2 :=
  ⟨k.os.trans h.os, k.tape.trans h.tape, k.output.trans h.output, Nat.le_trans h.size k.size, fun i hi hx => by
    rw [List.mem_append] at hx
    exact (k.block i (Nat.lt_of_lt_of_le hi h.size) (fun q => hx (.inr q))).trans (h.block i hi (fun q => hx (.inl q)))⟩
theorem Fr.join {e : WX} {W w2 : World} {Z : List Nat} (h : Fr e W) (k : Fr ⟨W, Z⟩ w2) (hZ : ∀ z ∈ Z, e.fresh z) : Fr e w2 :=
  ⟨k.os.trans h.os, k.tape.trans h.tape, k.output.trans h.output, Nat.le_trans h.size k.size, fun i hi hx => (k.block i (Nat.lt_of_lt_of_le hi h.size) (fun q => by
    rcases hZ i q with hf | hf
    · omega
    · exact hx hf)).trans (h.block i hi hx)⟩
theorem Row.fr {W w2 : World} {Z : List Nat} {g n : Nat} {f : Nat → SC} {t : TypeId} (h : Row W g () n f t) (k : Fr ⟨W, Z⟩ w2) (hz : g ∉ Z) : Row w2 g () n f t := (k.block g h.lt hz).trans h
theorem Held.two {w : World} {g1 g2 n1 n2 : Nat} {f1 f2 : Nat → SC} {t1 t2 : TypeId} (h1 : Row w g1 () n1 f1 t1) (h2 : Row w g2 () n2 f2 t2) (hne : g1 ≠ g2) : Held ⟨w, [g1, g2]⟩ w [⟨g1, (), n1, f1, t1⟩, ⟨g2, (), n2, f2, t2⟩] :=
  ⟨Fr.refl _ _, fun r hr => by
    rcases List.mem_cons.1 hr with rfl | hr
    · exact ⟨.inr (by simp), h1⟩
    · rw [List.mem_singleton] at hr; subst hr; exact ⟨.inr (by simp), h2⟩, by simp [hne]⟩
structure Idx (w : World) (g r2 r3 ob b B : Nat) : Prop where
  p_g : g < w.heap.size
  p_r2 : w.heap.size ≤ r2
  p_r3 : w.heap.size ≤ r3
  p_ob : w.heap.size ≤ ob
  p_b : w.heap.size ≤ b
  p_n23 : r2 ≠ r3
  p_n2o : r2 ≠ ob
  p_n3o : r3 ≠ ob
  p_n2b : r2 ≠ b
  p_n3b : r3 ≠ b
  p_nob : ob ≠ b
  p_lt : b < B
abbrev T25 : TypeId := 25
abbrev T26 : TypeId := 26
abbrev TSp : TypeId := 53
structure Lp (w : World) (g r2 r3 ob b : Nat) (sc : Nat → SC) (W : World) (rs : List ByteArray) (oa : Option Addr) (c : Nat) : Prop where
  p_fr : Fr ⟨w, [g]⟩ W
  p_g : Row W g () 6 sc TSp
  p_r2 : Row W r2 () 1 (lsc [.sl none 0 0]) T25
  p_r3 : Row W r3 () 1 (lsc [.i .i64 0]) T26
  p_ob : Row W ob () 1 (lsc [.sl oa rs.length c]) T25
  p_out : OwnR w.heap.size W 9 1 [g, r2, r3, ob, b] (.slice oa rs.length c) rs.length (rs.map Value.string)
  p_b : b < W.heap.size
structure Lx (w : World) (g r2 r3 : Nat) (sc : Nat → SC) (W : World) : Prop where
  p_fr : Fr ⟨w, [g]⟩ W
  p_g : Row W g () 6 sc TSp
  p_r2 : Row W r2 () 1 (lsc [.sl none 0 0]) T25
  p_r3 : Row W r3 () 1 (lsc [.i .i64 4]) T26
def LpI (w : World) (g r2 r3 ob b : Nat) (sc : Nat → SC) (pre : List ByteArray) (W : World) : Prop := ∃ rs oa c, recs pre = some rs ∧ Lp w g r2 r3 ob b sc W rs oa c
def LxI (w : World) (g r2 r3 : Nat) (sc : Nat → SC) (pre : List ByteArray) (W : World) : Prop := (∀ t, recs (pre ++ t) = none) ∧ Lx w g r2 r3 sc W
section
variable {w : World} {g r2 r3 ob b B : Nat} {sc : Nat → SC}
theorem row_turn {A A' : World} {row : Option Nat} {k n : Nat} {f : Nat → SC} {t : TypeId} (h : Row A k () n f t) (hg : A.grownBy A' row) (hr : ∀ r, row = some r → r = b ∨ B ≤ r ∧ ∃ o : Obj, A.heap[r]? = some o ∧ o.isCells = false) (hne : k ≠ b) : Row A' k () n f t :=
  (hg.block k h.lt (fun e => by
    rcases hr k e.symm with q | ⟨_, o, ho, hc⟩
    · exact hne q
    · have h' : A.heap[k]? = some (.cells (FR () n f) t (0, 0)) := h
      rw [h'] at ho
      cases ho
      cases hc)).trans h
theorem own_cells {base n size : Nat} {e : TypeId} {gs : List Nat} {v : Value} {xs : List Value} {A : World} (h : OwnR base A e size gs v n xs) {k : Nat} (hk : v.ownBlock = some k) : ∃ c, A.heap[k]? = some (.cells c e (0, 0)) := own_typed h.own k hk
theorem fr_turn {e : WX} {A A' : World} {row : Option Nat} (h : Fr e A) (hg : A.grownBy A' row) (hr : ∀ r, row = some r → r = b ∨ B ≤ r ∧ ∃ o : Obj, A.heap[r]? = some o ∧ o.isCells = false) (hb : e.w.heap.size ≤ b) (hB : e.w.heap.size ≤ B) : Fr e A' :=
  h.grown hg (fun k hk => .inl (by rcases hr k hk with rfl | ⟨q, _⟩ <;> omega))
theorem lp_own (ix : Idx w g r2 r3 ob b B) : OwnB B b (LpI w g r2 r3 ob b sc) := by
  rintro pre A A' row ⟨rs, oa, c, hrs, h⟩ hg hr
  have hgb : g ≠ b := by have := ix.p_g; have := ix.p_b; omega
  refine ⟨rs, oa, c, hrs, fr_turn h.p_fr hg hr ix.p_b (by show w.heap.size ≤ B; have := ix.p_lt; have := ix.p_b; omega), row_turn h.p_g hg hr hgb, row_turn h.p_r2 hg hr ix.p_n2b, row_turn h.p_r3 hg hr ix.p_n3b, row_turn h.p_ob hg hr ix.p_nob, ⟨h.p_out.own.kept hg ?_, h.p_out.apart⟩, Nat.lt_of_lt_of_le h.p_b hg.size⟩
  cases hk : (Value.slice oa rs.length c).ownBlock with
  | none => exact .inl rfl
  | some k =>
    refine .inr fun e => ?_
    rcases hr k e.symm with rfl | ⟨_, o, ho, hc⟩
    · exact h.p_out.apart k (by simp) hk
    · obtain ⟨cs, hcs⟩ := own_cells h.p_out hk
      rw [hcs] at ho
      cases ho
      cases hc
theorem lx_own (ix : Idx w g r2 r3 ob b B) : OwnB B b (LxI w g r2 r3 sc) := by
  rintro pre A A' row ⟨hn, h⟩ hg hr
  have hgb : g ≠ b := by have := ix.p_g; have := ix.p_b; omega
  exact ⟨hn, fr_turn h.p_fr hg hr ix.p_b (by show w.heap.size ≤ B; have := ix.p_lt; have := ix.p_b; omega), row_turn h.p_g hg hr hgb, row_turn h.p_r2 hg hr ix.p_n2b, row_turn h.p_r3 hg hr ix.p_n3b⟩
theorem round_go {W w2 w3 : World} {pre rs : List ByteArray} {oa oa' : Option Addr} {c c' : Nat} {x y : ByteArray} (ix : Idx w g r2 r3 ob b B) (hrs : recs pre = some rs) (h : Lp w g r2 r3 ob b sc W rs oa c) (hd : decS x = some y)
    (hF : Fr ⟨W, (Value.slice oa rs.length c).ownBlock.toList⟩ w2) (hO : OwnR w.heap.size w2 9 1 [g, r2, r3, ob, b] (.slice oa' (rs.length + 1) c') (rs.length + 1) (rs.map Value.string ++ [.string y])) (hF3 : Fr ⟨w2, [ob]⟩ w3) (hob : Row w3 ob () 1 (lsc [.sl oa' (rs.length + 1) c']) T25) :
    KeepsFrom B W w3 ∧ w3.heap[b]? = W.heap[b]? ∧ LpI w g r2 r3 ob b sc (pre ++ [x]) w3 := by
  have hc := hF.comp hF3
  have hap : ∀ k ∈ [g, r2, r3, ob, b], k ∉ (Value.slice oa rs.length c).ownBlock.toList := fun k hk hm => h.p_out.apart k hk (by simpa using hm)
  have hgo : g ≠ ob := by have := ix.p_g; have := ix.p_ob; omega
  have nz : ∀ k ∈ [g, r2, r3, ob, b], k ≠ ob → k ∉ (Value.slice oa rs.length c).ownBlock.toList ++ [ob] := fun k hk hne hm => by
    rw [List.mem_append, List.mem_singleton] at hm
    exact hm.elim (hap k hk) hne
  have hfresh : ∀ z ∈ (Value.slice oa rs.length c).ownBlock.toList ++ [ob], (⟨w, [g]⟩ : WX).fresh z := fun z hz => by
    rw [List.mem_append, List.mem_singleton] at hz
    rcases hz with hz | rfl
    · exact .inl (h.p_out.own.lt z (by simpa using hz)).1
    · exact .inl ix.p_ob
  refine ⟨keeps_fr hc fun k hk => ?_, hc.block b h.p_b (nz b (by simp) (fun e => ix.p_nob e.symm)), rs ++ [y], oa', c', recs_snoc hrs hd, h.p_fr.join hc hfresh, h.p_g.fr hc (nz g (by simp) hgo), h.p_r2.fr hc (nz r2 (by simp) ix.p_n2o), h.p_r3.fr hc (nz r3 (by simp) ix.p_n3o), by rw [List.length_append]; exact hob, ?_, Nat.lt_of_lt_of_le h.p_b hc.size⟩
  · rw [List.mem_append, List.mem_singleton] at hk
    rcases hk with hk | rfl
    · obtain ⟨cs, hcs⟩ := own_cells h.p_out (k := k) (by simpa using hk)
      exact ⟨_, _, _, hcs⟩
    · exact ⟨_, _, _, h.p_ob⟩
  · rw [List.length_append, List.map_append]
    refine ⟨hO.own.kept (fr_grown hF3) ?_, hO.apart⟩
    cases hk : (Value.slice oa' (rs.length + 1) c').ownBlock with
    | none => exact .inl rfl
    | some k => exact .inr fun e => hO.apart ob (by simp) (hk.trans e)
theorem round_stop {W w1 w2 : World} {pre rs : List ByteArray} {oa : Option Addr} {c : Nat} {x : ByteArray} (ix : Idx w g r2 r3 ob b B) (h : Lp w g r2 r3 ob b sc W rs oa c) (hd : decS x = none)
    (hF : Fr ⟨W, []⟩ w1) (hF2 : Fr ⟨w1, [r2, r3]⟩ w2) (h2 : Row w2 r2 () 1 (lsc [.sl none 0 0]) T25) (h3 : Row w2 r3 () 1 (lsc [.i .i64 4]) T26) :
    KeepsFrom B W w2 ∧ w2.heap[b]? = W.heap[b]? ∧ LxI w g r2 r3 sc (pre ++ [x]) w2 := by
  have hc := hF.comp hF2
  rw [List.nil_append] at hc
  have hg := ix.p_g
  have hr2 := ix.p_r2
  have hr3 := ix.p_r3
  refine ⟨keeps_fr hc fun k hk => ?_, hc.block b h.p_b ?_, fun t => by rw [List.append_assoc]; exact recs_none pre t hd, h.p_fr.join hc ?_, h.p_g.fr hc ?_, h2, h3⟩
  · rcases List.mem_cons.1 hk with rfl | hk
    · exact ⟨_, _, _, h.p_r2⟩
    · rw [List.mem_singleton] at hk; subst hk; exact ⟨_, _, _, h.p_r3⟩
  · simp [ix.p_n2b.symm, ix.p_n3b.symm]
  · intro z hz
    rcases List.mem_cons.1 hz with rfl | hz
    · exact .inl ix.p_r2
    · rw [List.mem_singleton] at hz; subst hz; exact .inl ix.p_r3
  · simp; omega
end
theorem src_row1 {P : Program} {w : World} {t e u : TypeId} {g : Nat} {z : ByteArray} (ht : P.underlying t = some (.slice e)) (h : Row w g () 1 (lsc [.s z]) u) : Src P 1 t (.slice (some ⟨g, 0, none⟩) 1 1) 1 [.string z] w := by
  refine src_of ht rfl (fun u hu => by rw [List.mem_singleton] at hu; subst hu; rfl) (fun x hx j u hj => ?_) (fun h => by cases h)
  cases hx
  cases j with
  | zero => cases hj; exact row_at h 0 (by omega)
  | succ j => cases hj
end Go.Proofs.Ytdleomeiojlooaa.P
end

section
namespace Go.Proofs.Ytdleomeiojlooaa.P
set_option linter.unusedVariables false
set_option linter.unusedSimpArgs false
open Go.RowKit Go.ChangeShapes Go.WideShapes Go.Proofs.YtdleomeiojlooaaW.PrintWords Go.Proofs.YtdleomeiojlooaaW.PrintLast Go.Proofs.YtdleomeiojlooaaW.PrintMore
theorem act_goes {w : World} {g : Nat} {al : ByteArray} {sy : Nat} {acts : Nat} {keep : Int} (hr : Row w g () 6 (spC ⟨al, sy, false, acts, 1, keep⟩) 53) (hsy : sy ≤ al.size) (hal : al.size ≤ 4194304) (hac : acts ≤ 1000000) : Calls Try.prog 38 #[.pointer (some ⟨g, 0, none⟩)] w fun e w' => e = .returned (.bool false) ∧ Row w' g () 6 (spC ⟨al.extract 0 (sy + kp keep (al.size - sy)), sy + kp keep (al.size - sy), true, acts + 1, 0, keep⟩) 53 ∧ Fr ⟨w, [g]⟩ w' := by
  refine enter_ 41 Try.func38 rfl rfl (fun a0 hS => ?_)
  have HS0 : Sl a0 41 [(0, .pointer (some ⟨g, 0, none⟩))] := hS
  have HH0 : Held ⟨w, [g]⟩ w [⟨g, (), 6, spC ⟨al, sy, false, acts, 1, keep⟩, 53⟩] := Held.one hr
  clear hS
  refine wp_seq ?_
  have hLo : LOk [(0, 2, .val (.bool false))] := lok (by rfl) (by rfl)
  refine plain_ (wE := ⟨w, [g]⟩) (sz := 41) (n := 1) [0] [(0, .val (.pointer (some ⟨g, 0, none⟩))), (2, .val (.bool false))] [(0, 2, .val (.bool false))] [⟨g, none, none, (), 6, spC ⟨al, sy, false, acts, 1, keep⟩, spC ⟨al, sy, false, acts, 1, keep⟩, 53⟩] rfl (by rfl) HH0 rfl rfl hLo rfl HS0 (slS 0 rfl rfl (slL 0 (d := 0) rfl (trivial))) ?_ ?_
  · show ∀ i ∈ [0], _
    refine steps_cons (st_run 0 _ rfl rfl hLo rfl rfl (fun _ _ _ _ => rfl) (fun b G w hb ho => exec_move (.inr rfl) (rfl))) ?_
    exact steps_nil
  clear hLo
  intro G a1 w1 hS hH
  have HS1 : Sl a1 41 [(0, .pointer (some ⟨g, 0, none⟩)), (2, .bool false)] := hS
  have HH1 : Held ⟨w, [g]⟩ w1 [⟨g, (), 6, spC ⟨al, sy, false, acts, 1, keep⟩, 53⟩] := hH
  clear hS hH HS0 HH0
  refine then_ ?_
  refine wp_seq ?_
  have hLo : LOk [(0, 3, .val (.pointer (some ⟨g, 0, none⟩))), (1, 4, .val (.pointer (some ⟨g, 0, none⟩))), (2, 5, .val (.pointer (some ⟨g, 3, none⟩))), (3, 6, .val (.int .i64 (((acts : Nat) : Int)))), (4, 7, .val (.int .i64 (((acts + 1 : Nat) : Int)))), (5, 8, .val (.pointer (some ⟨g, 0, none⟩))), (6, 9, .val (.pointer (some ⟨g, 3, none⟩)))] := lok (by rfl) (by rfl)
  refine plain_ (wE := ⟨w, [g]⟩) (sz := 41) (n := 8) [0, 1, 3, 7, 15, 31, 63, 127] [(0, .val (.pointer (some ⟨g, 0, none⟩))), (2, .val (.bool false))] [(0, 3, .val (.pointer (some ⟨g, 0, none⟩))), (1, 4, .val (.pointer (some ⟨g, 0, none⟩))), (2, 5, .val (.pointer (some ⟨g, 3, none⟩))), (3, 6, .val (.int .i64 (((acts : Nat) : Int)))), (4, 7, .val (.int .i64 (((acts + 1 : Nat) : Int)))), (5, 8, .val (.pointer (some ⟨g, 0, none⟩))), (6, 9, .val (.pointer (some ⟨g, 3, none⟩)))] [⟨g, none, some 7, (), 6, spC ⟨al, sy, false, acts, 1, keep⟩, upd (spC ⟨al, sy, false, acts, 1, keep⟩) 3 (.i .i64 (((acts + 1 : Nat) : Int))), 53⟩] rfl (by rfl) HH1 rfl rfl hLo rfl HS1 (slS 0 rfl rfl (slS 1 rfl rfl (trivial))) ?_ ?_
  · show ∀ i ∈ [0, 1, 2, 3, 4, 5, 6, 7], _
    refine steps_cons (st_run 0 _ rfl rfl hLo rfl rfl (fun _ _ _ _ => rfl) (fun b G w hb ho => exec_move (.inl rfl) (ev_off rfl (HS1.get 0 rfl)))) ?_
    refine steps_cons (st_run 1 _ rfl rfl hLo rfl rfl (fun _ _ _ _ => rfl) (fun b G w hb ho => exec_nil rfl (ev_on hLo 0 rfl HS1.1 rfl (hb 0 (by rfl))))) ?_
    refine steps_cons (st_run 2 _ rfl rfl hLo rfl rfl (fun _ _ _ _ => rfl) (fun b G w hb ho => exec_field rfl (ev_on hLo 1 rfl HS1.1 rfl (hb 1 (by rfl))) (by kernel_rfl))) ?_
    refine steps_cons (st_read 3 0 _ _ rfl rfl rfl hLo rfl rfl (fun _ _ _ _ => rfl) (by rfl) (by rfl) (fun b G w hb ho hr => exec_cell hr (Nat.le_of_ble_eq_true rfl) Try.underlying3 rfl rfl (ev_on hLo 2 rfl HS1.1 rfl (hb 2 (by rfl))))) ?_
    refine steps_cons (st_run 4 _ rfl rfl hLo rfl rfl (fun _ _ _ _ => rfl) (fun b G w hb ho => exec_bin rfl (ev_on hLo 3 rfl HS1.1 rfl (hb 3 (by rfl))) (rfl) (rb_add (w_nat (by omega) (by omega)) _ _ _))) ?_
    refine steps_cons (st_run 5 _ rfl rfl hLo rfl rfl (fun _ _ _ _ => rfl) (fun b G w hb ho => exec_nil rfl (ev_on hLo 0 rfl HS1.1 rfl (hb 0 (by rfl))))) ?_
    refine steps_cons (st_run 6 _ rfl rfl hLo rfl rfl (fun _ _ _ _ => rfl) (fun b G w hb ho => exec_field rfl (ev_on hLo 5 rfl HS1.1 rfl (hb 5 (by rfl))) (by kernel_rfl))) ?_
    refine steps_cons (st_put 0 _ rfl rfl rfl rfl (fun _ _ _ _ => rfl) rfl rfl rfl (by rfl) (fun b G w hb ho hr => exec_put1 hr (Nat.le_of_ble_eq_true rfl) (by kernel_rfl) rfl (ev_on hLo 6 rfl HS1.1 rfl (hb 6 (by rfl))) (ev_on hLo 4 rfl HS1.1 rfl (hb 4 (by rfl))))) ?_
    exact steps_nil
  clear hLo
  intro G a2 w2 hS hH
  have HS2 : Sl a2 41 [(0, .pointer (some ⟨g, 0, none⟩)), (2, .bool false)] := hS
  have HH2 : Held ⟨w, [g]⟩ w2 [⟨g, (), 6, upd (spC ⟨al, sy, false, acts, 1, keep⟩) 3 (.i .i64 (((acts + 1 : Nat) : Int))), 53⟩] := hH
  clear hS hH HS1 HH1
  refine then_ ?_
  refine wp_seq ?_
  refine wp_seq ?_
  have hLo : LOk [(0, 10, .val (.pointer (some ⟨g, 0, none⟩))), (1, 11, .val (.pointer (some ⟨g, 0, none⟩))), (2, 12, .val (.pointer (some ⟨g, 4, none⟩))), (3, 13, .val (.int .i64 (((1 : Nat) : Int)))), (4, 14, .val (.int .i64 (0))), (5, 15, .val (.pointer (some ⟨g, 0, none⟩))), (6, 16, .val (.pointer (some ⟨g, 4, none⟩)))] := lok (by rfl) (by rfl)
  refine plain_ (wE := ⟨w, [g]⟩) (sz := 41) (n := 8) [0, 1, 3, 7, 15, 31, 63, 127] [(0, .val (.pointer (some ⟨g, 0, none⟩))), (2, .val (.bool false))] [(0, 10, .val (.pointer (some ⟨g, 0, none⟩))), (1, 11, .val (.pointer (some ⟨g, 0, none⟩))), (2, 12, .val (.pointer (some ⟨g, 4, none⟩))), (3, 13, .val (.int .i64 (((1 : Nat) : Int)))), (4, 14, .val (.int .i64 (0))), (5, 15, .val (.pointer (some ⟨g, 0, none⟩))), (6, 16, .val (.pointer (some ⟨g, 4, none⟩)))] [⟨g, none, some 7, (), 6, upd (spC ⟨al, sy, false, acts, 1, keep⟩) 3 (.i .i64 (((acts + 1 : Nat) : Int))), upd (upd (spC ⟨al, sy, false, acts, 1, keep⟩) 3 (.i .i64 (((acts + 1 : Nat) : Int)))) 4 (.i .i64 (0)), 53⟩] rfl (by rfl) HH2 rfl rfl hLo rfl HS2 (slS 0 rfl rfl (slS 1 rfl rfl (trivial))) ?_ ?_
  · show ∀ i ∈ [0, 1, 2, 3, 4, 5, 6, 7], _
    refine steps_cons (st_run 0 _ rfl rfl hLo rfl rfl (fun _ _ _ _ => rfl) (fun b G w hb ho => exec_move (.inl rfl) (ev_off rfl (HS2.get 0 rfl)))) ?_
    refine steps_cons (st_run 1 _ rfl rfl hLo rfl rfl (fun _ _ _ _ => rfl) (fun b G w hb ho => exec_nil rfl (ev_on hLo 0 rfl HS2.1 rfl (hb 0 (by rfl))))) ?_
    refine steps_cons (st_run 2 _ rfl rfl hLo rfl rfl (fun _ _ _ _ => rfl) (fun b G w hb ho => exec_field rfl (ev_on hLo 1 rfl HS2.1 rfl (hb 1 (by rfl))) (by kernel_rfl))) ?_
    refine steps_cons (st_read 3 0 _ _ rfl rfl rfl hLo rfl rfl (fun _ _ _ _ => rfl) (by rfl) (by rfl) (fun b G w hb ho hr => exec_cell hr (Nat.le_of_ble_eq_true rfl) Try.underlying3 rfl rfl (ev_on hLo 2 rfl HS2.1 rfl (hb 2 (by rfl))))) ?_
    refine steps_cons (st_run 4 _ rfl rfl hLo rfl rfl (fun _ _ _ _ => rfl) (fun b G w hb ho => exec_bin rfl (ev_on hLo 3 rfl HS2.1 rfl (hb 3 (by rfl))) (rfl) (rb_sub (by decide) _ _ _))) ?_
    refine steps_cons (st_run 5 _ rfl rfl hLo rfl rfl (fun _ _ _ _ => rfl) (fun b G w hb ho => exec_nil rfl (ev_on hLo 0 rfl HS2.1 rfl (hb 0 (by rfl))))) ?_
    refine steps_cons (st_run 6 _ rfl rfl hLo rfl rfl (fun _ _ _ _ => rfl) (fun b G w hb ho => exec_field rfl (ev_on hLo 5 rfl HS2.1 rfl (hb 5 (by rfl))) (by kernel_rfl))) ?_
    refine steps_cons (st_put 0 _ rfl rfl rfl rfl (fun _ _ _ _ => rfl) rfl rfl rfl (by rfl) (fun b G w hb ho hr => exec_put1 hr (Nat.le_of_ble_eq_true rfl) (by kernel_rfl) rfl (ev_on hLo 6 rfl HS2.1 rfl (hb 6 (by rfl))) (ev_on hLo 4 rfl HS2.1 rfl (hb 4 (by rfl))))) ?_
    exact steps_nil
  clear hLo
  intro G a3 w3 hS hH
  have HS3 : Sl a3 41 [(0, .pointer (some ⟨g, 0, none⟩)), (2, .bool false)] := hS
  have HH3 : Held ⟨w, [g]⟩ w3 [⟨g, (), 6, upd (upd (spC ⟨al, sy, false, acts, 1, keep⟩) 3 (.i .i64 (((acts + 1 : Nat) : Int)))) 4 (.i .i64 (0)), 53⟩] := hH
  clear hS hH HS2 HH2
  refine then_ ?_
  refine wp_seq ?_
  have hLo : LOk [(0, 17, .val (.pointer (some ⟨g, 0, none⟩))), (1, 18, .val (.pointer (some ⟨g, 0, none⟩))), (2, 19, .val (.pointer (some ⟨g, 4, none⟩))), (3, 20, .val (.int .i64 (0))), (4, 21, .val (.bool true))] := lok (by rfl) (by rfl)
  refine plain_ (wE := ⟨w, [g]⟩) (sz := 41) (n := 5) [0, 1, 3, 7, 15] [(0, .val (.pointer (some ⟨g, 0, none⟩))), (2, .val (.bool false)), (21, .val (.bool true))] [(0, 17, .val (.pointer (some ⟨g, 0, none⟩))), (1, 18, .val (.pointer (some ⟨g, 0, none⟩))), (2, 19, .val (.pointer (some ⟨g, 4, none⟩))), (3, 20, .val (.int .i64 (0))), (4, 21, .val (.bool true))] [⟨g, none, none, (), 6, upd (upd (spC ⟨al, sy, false, acts, 1, keep⟩) 3 (.i .i64 (((acts + 1 : Nat) : Int)))) 4 (.i .i64 (0)), upd (upd (spC ⟨al, sy, false, acts, 1, keep⟩) 3 (.i .i64 (((acts + 1 : Nat) : Int)))) 4 (.i .i64 (0)), 53⟩] rfl (by rfl) HH3 rfl rfl hLo rfl HS3 (slS 0 rfl rfl (slS 1 rfl rfl (slL 4 (d := 4) rfl (trivial)))) ?_ ?_
  · show ∀ i ∈ [0, 1, 2, 3, 4], _
    refine steps_cons (st_run 0 _ rfl rfl hLo rfl rfl (fun _ _ _ _ => rfl) (fun b G w hb ho => exec_move (.inl rfl) (ev_off rfl (HS3.get 0 rfl)))) ?_
    refine steps_cons (st_run 1 _ rfl rfl hLo rfl rfl (fun _ _ _ _ => rfl) (fun b G w hb ho => exec_nil rfl (ev_on hLo 0 rfl HS3.1 rfl (hb 0 (by rfl))))) ?_
    refine steps_cons (st_run 2 _ rfl rfl hLo rfl rfl (fun _ _ _ _ => rfl) (fun b G w hb ho => exec_field rfl (ev_on hLo 1 rfl HS3.1 rfl (hb 1 (by rfl))) (by kernel_rfl))) ?_
    refine steps_cons (st_read 3 0 _ _ rfl rfl rfl hLo rfl rfl (fun _ _ _ _ => rfl) (by rfl) (by rfl) (fun b G w hb ho hr => exec_cell hr (Nat.le_of_ble_eq_true rfl) Try.underlying3 rfl rfl (ev_on hLo 2 rfl HS3.1 rfl (hb 2 (by rfl))))) ?_
    refine steps_cons (st_run 4 _ rfl rfl hLo rfl rfl (fun _ _ _ _ => rfl) (fun b G w hb ho => exec_bin rfl (ev_on hLo 3 rfl HS3.1 rfl (hb 3 (by rfl))) (rfl) (rb_eql (rfl) _ _ _))) ?_
    exact steps_nil
  clear hLo
  intro G a4 w4 hS hH
  have HS4 : Sl a4 41 [(0, .pointer (some ⟨g, 0, none⟩)), (2, .bool false), (21, .bool true)] := hS
  have HH4 : Held ⟨w, [g]⟩ w4 [⟨g, (), 6, upd (upd (spC ⟨al, sy, false, acts, 1, keep⟩) 3 (.i .i64 (((acts + 1 : Nat) : Int)))) 4 (.i .i64 (0)), 53⟩] := hH
  clear hS hH HS3 HH3
  refine then_ ?_
  refine wp_cond_true (HS4.get 2 rfl) ?_
  have hLo : LOk [(0, 22, .val (.pointer (some ⟨g, 0, none⟩))), (1, 23, .val (.pointer (some ⟨g, 0, none⟩))), (2, 24, .val (.pointer (some ⟨g, 0, none⟩))), (3, 25, .val (.pointer (some ⟨g, 5, none⟩))), (4, 26, .val (.int .i64 (keep))), (5, 27, .val (.tuple #[]))] := lok (by rfl) (by rfl)
  refine plain_ (wE := ⟨w, [g]⟩) (sz := 41) (n := 6) [0, 1, 3, 7, 15, 31] [(0, .val (.pointer (some ⟨g, 0, none⟩))), (2, .val (.bool false)), (21, .val (.bool true))] [(0, 22, .val (.pointer (some ⟨g, 0, none⟩))), (1, 23, .val (.pointer (some ⟨g, 0, none⟩))), (2, 24, .val (.pointer (some ⟨g, 0, none⟩))), (3, 25, .val (.pointer (some ⟨g, 5, none⟩))), (4, 26, .val (.int .i64 (keep))), (5, 27, .val (.tuple #[]))] [⟨g, none, some 5, (), 6, upd (upd (spC ⟨al, sy, false, acts, 1, keep⟩) 3 (.i .i64 (((acts + 1 : Nat) : Int)))) 4 (.i .i64 (0)), spC ⟨al.extract 0 (sy + kp keep (al.size - sy)), sy + kp keep (al.size - sy), true, acts + 1, 0, keep⟩, 53⟩] rfl (by rfl) HH4 rfl rfl hLo rfl HS4 (slS 0 rfl rfl (slS 1 rfl rfl (slS 2 rfl rfl (trivial)))) ?_ ?_
  · show ∀ i ∈ [0, 1, 2, 3, 4, 5], _
    refine steps_cons (st_run 0 _ rfl rfl hLo rfl rfl (fun _ _ _ _ => rfl) (fun b G w hb ho => exec_move (.inl rfl) (ev_off rfl (HS4.get 0 rfl)))) ?_
    refine steps_cons (st_run 1 _ rfl rfl hLo rfl rfl (fun _ _ _ _ => rfl) (fun b G w hb ho => exec_move (.inl rfl) (ev_off rfl (HS4.get 0 rfl)))) ?_
    refine steps_cons (st_run 2 _ rfl rfl hLo rfl rfl (fun _ _ _ _ => rfl) (fun b G w hb ho => exec_nil rfl (ev_on hLo 1 rfl HS4.1 rfl (hb 1 (by rfl))))) ?_
    refine steps_cons (st_run 3 _ rfl rfl hLo rfl rfl (fun _ _ _ _ => rfl) (fun b G w hb ho => exec_field rfl (ev_on hLo 2 rfl HS4.1 rfl (hb 2 (by rfl))) (by kernel_rfl))) ?_
    refine steps_cons (st_read 4 0 _ _ rfl rfl rfl hLo rfl rfl (fun _ _ _ _ => rfl) (by rfl) (by rfl) (fun b G w hb ho hr => exec_cell hr (Nat.le_of_ble_eq_true rfl) Try.underlying3 rfl rfl (ev_on hLo 3 rfl HS4.1 rfl (hb 3 (by rfl))))) ?_
    refine steps_cons (st_callM 5 0 _ _ (fun G => #[.pointer (some ⟨g, 0, none⟩), .int .i64 (keep)]) rfl rfl rfl rfl rfl (fun _ _ _ _ => rfl) hLo rfl (by rfl) (by rfl) (by rfl) Try.func18 rfl rfl (fun b G hb ho => args2 (ev_on hLo 0 rfl HS4.1 rfl (hb 0 (by rfl))) (ev_on hLo 4 rfl HS4.1 rfl (hb 4 (by rfl)))) (fun G w hw hr => off_on (k := keep) (hr.norm (six ⟨rfl, rfl, rfl, rfl, rfl, rfl⟩)) hsy hal)) ?_
    exact steps_nil
  clear hLo
  intro G a5 w5 hS hH
  have HS5 : Sl a5 41 [(0, .pointer (some ⟨g, 0, none⟩)), (2, .bool false), (21, .bool true)] := hS
  have HH5 : Held ⟨w, [g]⟩ w5 [⟨g, (), 6, spC ⟨al.extract 0 (sy + kp keep (al.size - sy)), sy + kp keep (al.size - sy), true, acts + 1, 0, keep⟩, 53⟩] := hH
  clear hS hH HS4 HH4
  refine then_ ?_
  refine wp_seq ?_
  have hLo : LOk [(0, 28, .val (.pointer (some ⟨g, 0, none⟩))), (1, 29, .val (.pointer (some ⟨g, 0, none⟩))), (2, 30, .val (.pointer (some ⟨g, 0, none⟩))), (3, 31, .val (.pointer (some ⟨g, 4, none⟩))), (4, 32, .val (.int .i64 (((0 : Nat) : Int)))), (5, 33, .val (.int .i64 (0))), (6, 34, .val (.pointer (some ⟨g, 0, none⟩))), (7, 35, .val (.pointer (some ⟨g, 4, none⟩)))] := lok (by rfl) (by rfl)
  refine plain_ (wE := ⟨w, [g]⟩) (sz := 41) (n := 9) [0, 1, 3, 7, 15, 31, 63, 127, 255] [(0, .val (.pointer (some ⟨g, 0, none⟩))), (2, .val (.bool false)), (21, .val (.bool true))] [(0, 28, .val (.pointer (some ⟨g, 0, none⟩))), (1, 29, .val (.pointer (some ⟨g, 0, none⟩))), (2, 30, .val (.pointer (some ⟨g, 0, none⟩))), (3, 31, .val (.pointer (some ⟨g, 4, none⟩))), (4, 32, .val (.int .i64 (((0 : Nat) : Int)))), (5, 33, .val (.int .i64 (0))), (6, 34, .val (.pointer (some ⟨g, 0, none⟩))), (7, 35, .val (.pointer (some ⟨g, 4, none⟩)))] [⟨g, none, some 8, (), 6, spC ⟨al.extract 0 (sy + kp keep (al.size - sy)), sy + kp keep (al.size - sy), true, acts + 1, 0, keep⟩, upd (spC ⟨al.extract 0 (sy + kp keep (al.size - sy)), sy + kp keep (al.size - sy), true, acts + 1, 0, keep⟩) 4 (.i .i64 (0)), 53⟩] rfl (by rfl) HH5 rfl rfl hLo rfl HS5 (slS 0 rfl rfl (slS 1 rfl rfl (slS 2 rfl rfl (trivial)))) ?_ ?_
  · show ∀ i ∈ [0, 1, 2, 3, 4, 5, 6, 7, 8], _
    refine steps_cons (st_run 0 _ rfl rfl hLo rfl rfl (fun _ _ _ _ => rfl) (fun b G w hb ho => exec_move (.inl rfl) (ev_off rfl (HS5.get 0 rfl)))) ?_
    refine steps_cons (st_run 1 _ rfl rfl hLo rfl rfl (fun _ _ _ _ => rfl) (fun b G w hb ho => exec_move (.inl rfl) (ev_off rfl (HS5.get 0 rfl)))) ?_
    refine steps_cons (st_run 2 _ rfl rfl hLo rfl rfl (fun _ _ _ _ => rfl) (fun b G w hb ho => exec_nil rfl (ev_on hLo 1 rfl HS5.1 rfl (hb 1 (by rfl))))) ?_
    refine steps_cons (st_run 3 _ rfl rfl hLo rfl rfl (fun _ _ _ _ => rfl) (fun b G w hb ho => exec_field rfl (ev_on hLo 2 rfl HS5.1 rfl (hb 2 (by rfl))) (by kernel_rfl))) ?_
    refine steps_cons (st_read 4 0 _ _ rfl rfl rfl hLo rfl rfl (fun _ _ _ _ => rfl) (by rfl) (by rfl) (fun b G w hb ho hr => exec_cell hr (Nat.le_of_ble_eq_true rfl) Try.underlying3 rfl rfl (ev_on hLo 3 rfl HS5.1 rfl (hb 3 (by rfl))))) ?_
    refine steps_cons (st_run 5 _ rfl rfl hLo rfl rfl (fun _ _ _ _ => rfl) (fun b G w hb ho => exec_max (by decide) rfl (ev_on hLo 4 rfl HS5.1 rfl (hb 4 (by rfl))) (rfl))) ?_
    refine steps_cons (st_run 6 _ rfl rfl hLo rfl rfl (fun _ _ _ _ => rfl) (fun b G w hb ho => exec_nil rfl (ev_on hLo 0 rfl HS5.1 rfl (hb 0 (by rfl))))) ?_
    refine steps_cons (st_run 7 _ rfl rfl hLo rfl rfl (fun _ _ _ _ => rfl) (fun b G w hb ho => exec_field rfl (ev_on hLo 6 rfl HS5.1 rfl (hb 6 (by rfl))) (by kernel_rfl))) ?_
    refine steps_cons (st_put 0 _ rfl rfl rfl rfl (fun _ _ _ _ => rfl) rfl rfl rfl (by rfl) (fun b G w hb ho hr => exec_put1 hr (Nat.le_of_ble_eq_true rfl) (by kernel_rfl) rfl (ev_on hLo 7 rfl HS5.1 rfl (hb 7 (by rfl))) (ev_on hLo 5 rfl HS5.1 rfl (hb 5 (by rfl))))) ?_
    exact steps_nil
  clear hLo
  intro G a6 w6 hS hH
  have HS6 : Sl a6 41 [(0, .pointer (some ⟨g, 0, none⟩)), (2, .bool false), (21, .bool true)] := hS
  have HH6 : Held ⟨w, [g]⟩ w6 [⟨g, (), 6, upd (spC ⟨al.extract 0 (sy + kp keep (al.size - sy)), sy + kp keep (al.size - sy), true, acts + 1, 0, keep⟩) 4 (.i .i64 (0)), 53⟩] := hH
  clear hS hH HS5 HH5
  refine then_ ?_
  refine wp_seq ?_
  have hLo : LOk [(0, 36, .val (.pointer (some ⟨g, 0, none⟩))), (1, 37, .val (.pointer (some ⟨g, 0, none⟩))), (2, 38, .val (.pointer (some ⟨g, 2, none⟩))), (3, 39, .val (.bool true)), (4, 40, .val (.bool false)), (5, 2, .val (.bool false))] := lok (by rfl) (by rfl)
  refine plain_ (wE := ⟨w, [g]⟩) (sz := 41) (n := 6) [0, 1, 3, 7, 15, 31] [(0, .val (.pointer (some ⟨g, 0, none⟩))), (21, .val (.bool true)), (2, .val (.bool false))] [(0, 36, .val (.pointer (some ⟨g, 0, none⟩))), (1, 37, .val (.pointer (some ⟨g, 0, none⟩))), (2, 38, .val (.pointer (some ⟨g, 2, none⟩))), (3, 39, .val (.bool true)), (4, 40, .val (.bool false)), (5, 2, .val (.bool false))] [⟨g, none, none, (), 6, upd (spC ⟨al.extract 0 (sy + kp keep (al.size - sy)), sy + kp keep (al.size - sy), true, acts + 1, 0, keep⟩) 4 (.i .i64 (0)), upd (spC ⟨al.extract 0 (sy + kp keep (al.size - sy)), sy + kp keep (al.size - sy), true, acts + 1, 0, keep⟩) 4 (.i .i64 (0)), 53⟩] rfl (by rfl) HH6 rfl rfl hLo rfl HS6 (slS 0 rfl rfl (slS 2 rfl rfl (slL 5 (d := 5) rfl (trivial)))) ?_ ?_
  · show ∀ i ∈ [0, 1, 2, 3, 4, 5], _
    refine steps_cons (st_run 0 _ rfl rfl hLo rfl rfl (fun _ _ _ _ => rfl) (fun b G w hb ho => exec_move (.inl rfl) (ev_off rfl (HS6.get 0 rfl)))) ?_
    refine steps_cons (st_run 1 _ rfl rfl hLo rfl rfl (fun _ _ _ _ => rfl) (fun b G w hb ho => exec_nil rfl (ev_on hLo 0 rfl HS6.1 rfl (hb 0 (by rfl))))) ?_
    refine steps_cons (st_run 2 _ rfl rfl hLo rfl rfl (fun _ _ _ _ => rfl) (fun b G w hb ho => exec_field rfl (ev_on hLo 1 rfl HS6.1 rfl (hb 1 (by rfl))) (by kernel_rfl))) ?_
    refine steps_cons (st_read 3 0 _ _ rfl rfl rfl hLo rfl rfl (fun _ _ _ _ => rfl) (by rfl) (by rfl) (fun b G w hb ho hr => exec_cell hr (Nat.le_of_ble_eq_true rfl) Try.underlying4 rfl rfl (ev_on hLo 2 rfl HS6.1 rfl (hb 2 (by rfl))))) ?_
    refine steps_cons (st_run 4 _ rfl rfl hLo rfl rfl (fun _ _ _ _ => rfl) (fun b G w hb ho => exec_un rfl (ev_on hLo 3 rfl HS6.1 rfl (hb 3 (by rfl))) (ru_not _))) ?_
    refine steps_cons (st_run 5 _ rfl rfl hLo rfl rfl (fun _ _ _ _ => rfl) (fun b G w hb ho => exec_move (.inr rfl) (ev_on hLo 4 rfl HS6.1 rfl (hb 4 (by rfl))))) ?_
    exact steps_nil
  clear hLo
  intro G a7 w7 hS hH
  have HS7 : Sl a7 41 [(0, .pointer (some ⟨g, 0, none⟩)), (21, .bool true), (2, .bool false)] := hS
  have HH7 : Held ⟨w, [g]⟩ w7 [⟨g, (), 6, upd (spC ⟨al.extract 0 (sy + kp keep (al.size - sy)), sy + kp keep (al.size - sy), true, acts + 1, 0, keep⟩) 4 (.i .i64 (0)), 53⟩] := hH
  clear hS hH HS6 HH6
  refine then_ ?_
  refine wp_ret ?_
  repeat (first | refine then_ret ?_ | refine inBlock_ret' ?_)
  exact b_tmp rfl HS7.2.1 (HS7.get 2 rfl) ⟨rfl, Row.norm (HH7.row 0 rfl) (six ⟨rfl, rfl, rfl, rfl, rfl, rfl⟩), HH7.1⟩
theorem act_stays {w : World} {g : Nat} {al : ByteArray} {sy : Nat} {acts inn : Nat} {keep : Int} (hr : Row w g () 6 (spC ⟨al, sy, false, acts, inn, keep⟩) 53) (hac : acts ≤ 1000000) (hin : inn < 9223372036854775808) (hi1 : inn ≠ 1) : Calls Try.prog 38 #[.pointer (some ⟨g, 0, none⟩)] w fun e w' => e = .returned (.bool true) ∧ Row w' g () 6 (spC ⟨al, sy, false, acts + 1, inn - 1, keep⟩) 53 ∧ Fr ⟨w, [g]⟩ w' := by
  refine enter_ 41 Try.func38 rfl rfl (fun a0 hS => ?_)
  have HS0 : Sl a0 41 [(0, .pointer (some ⟨g, 0, none⟩))] := hS
  have HH0 : Held ⟨w, [g]⟩ w [⟨g, (), 6, spC ⟨al, sy, false, acts, inn, keep⟩, 53⟩] := Held.one hr
  clear hS
  refine wp_seq ?_
  have hLo : LOk [(0, 2, .val (.bool false))] := lok (by rfl) (by rfl)
  refine plain_ (wE := ⟨w, [g]⟩) (sz := 41) (n := 1) [0] [(0, .val (.pointer (some ⟨g, 0, none⟩))), (2, .val (.bool false))] [(0, 2, .val (.bool false))] [⟨g, none, none, (), 6, spC ⟨al, sy, false, acts, inn, keep⟩, spC ⟨al, sy, false, acts, inn, keep⟩, 53⟩] rfl (by rfl) HH0 rfl rfl hLo rfl HS0 (slS 0 rfl rfl (slL 0 (d := 0) rfl (trivial))) ?_ ?_
  · show ∀ i ∈ [0], _
    refine steps_cons (st_run 0 _ rfl rfl hLo rfl rfl (fun _ _ _ _ => rfl) (fun b G w hb ho => exec_move (.inr rfl) (rfl))) ?_
    exact steps_nil
  clear hLo
  intro G a1 w1 hS hH
  have HS1 : Sl a1 41 [(0, .pointer (some ⟨g, 0, none⟩)), (2, .bool false)] := hS
  have HH1 : Held ⟨w, [g]⟩ w1 [⟨g, (), 6, spC ⟨al, sy, false, acts, inn, keep⟩, 53⟩] := hH
  clear hS hH HS0 HH0
  refine then_ ?_
  refine wp_seq ?_
  have hLo : LOk [(0, 3, .val (.pointer (some ⟨g, 0, none⟩))), (1, 4, .val (.pointer (some ⟨g, 0, none⟩))), (2, 5, .val (.pointer (some ⟨g, 3, none⟩))), (3, 6, .val (.int .i64 (((acts : Nat) : Int)))), (4, 7, .val (.int .i64 (((acts + 1 : Nat) : Int)))), (5, 8, .val (.pointer (some ⟨g, 0, none⟩))), (6, 9, .val (.pointer (some ⟨g, 3, none⟩)))] := lok (by rfl) (by rfl)
  refine plain_ (wE := ⟨w, [g]⟩) (sz := 41) (n := 8) [0, 1, 3, 7, 15, 31, 63, 127] [(0, .val (.pointer (some ⟨g, 0, none⟩))), (2, .val (.bool false))] [(0, 3, .val (.pointer (some ⟨g, 0, none⟩))), (1, 4, .val (.pointer (some ⟨g, 0, none⟩))), (2, 5, .val (.pointer (some ⟨g, 3, none⟩))), (3, 6, .val (.int .i64 (((acts : Nat) : Int)))), (4, 7, .val (.int .i64 (((acts + 1 : Nat) : Int)))), (5, 8, .val (.pointer (some ⟨g, 0, none⟩))), (6, 9, .val (.pointer (some ⟨g, 3, none⟩)))] [⟨g, none, some 7, (), 6, spC ⟨al, sy, false, acts, inn, keep⟩, upd (spC ⟨al, sy, false, acts, inn, keep⟩) 3 (.i .i64 (((acts + 1 : Nat) : Int))), 53⟩] rfl (by rfl) HH1 rfl rfl hLo rfl HS1 (slS 0 rfl rfl (slS 1 rfl rfl (trivial))) ?_ ?_
  · show ∀ i ∈ [0, 1, 2, 3, 4, 5, 6, 7], _
    refine steps_cons (st_run 0 _ rfl rfl hLo rfl rfl (fun _ _ _ _ => rfl) (fun b G w hb ho => exec_move (.inl rfl) (ev_off rfl (HS1.get 0 rfl)))) ?_
    refine steps_cons (st_run 1 _ rfl rfl hLo rfl rfl (fun _ _ _ _ => rfl) (fun b G w hb ho => exec_nil rfl (ev_on hLo 0 rfl HS1.1 rfl (hb 0 (by rfl))))) ?_
    refine steps_cons (st_run 2 _ rfl rfl hLo rfl rfl (fun _ _ _ _ => rfl) (fun b G w hb ho => exec_field rfl (ev_on hLo 1 rfl HS1.1 rfl (hb 1 (by rfl))) (by kernel_rfl))) ?_
    refine steps_cons (st_read 3 0 _ _ rfl rfl rfl hLo rfl rfl (fun _ _ _ _ => rfl) (by rfl) (by rfl) (fun b G w hb ho hr => exec_cell hr (Nat.le_of_ble_eq_true rfl) Try.underlying3 rfl rfl (ev_on hLo 2 rfl HS1.1 rfl (hb 2 (by rfl))))) ?_
    refine steps_cons (st_run 4 _ rfl rfl hLo rfl rfl (fun _ _ _ _ => rfl) (fun b G w hb ho => exec_bin rfl (ev_on hLo 3 rfl HS1.1 rfl (hb 3 (by rfl))) (rfl) (rb_add (w_nat (by omega) (by omega)) _ _ _))) ?_
    refine steps_cons (st_run 5 _ rfl rfl hLo rfl rfl (fun _ _ _ _ => rfl) (fun b G w hb ho => exec_nil rfl (ev_on hLo 0 rfl HS1.1 rfl (hb 0 (by rfl))))) ?_
    refine steps_cons (st_run 6 _ rfl rfl hLo rfl rfl (fun _ _ _ _ => rfl) (fun b G w hb ho => exec_field rfl (ev_on hLo 5 rfl HS1.1 rfl (hb 5 (by rfl))) (by kernel_rfl))) ?_
    refine steps_cons (st_put 0 _ rfl rfl rfl rfl (fun _ _ _ _ => rfl) rfl rfl rfl (by rfl) (fun b G w hb ho hr => exec_put1 hr (Nat.le_of_ble_eq_true rfl) (by kernel_rfl) rfl (ev_on hLo 6 rfl HS1.1 rfl (hb 6 (by rfl))) (ev_on hLo 4 rfl HS1.1 rfl (hb 4 (by rfl))))) ?_
    exact steps_nil
  clear hLo
  intro G a2 w2 hS hH
  have HS2 : Sl a2 41 [(0, .pointer (some ⟨g, 0, none⟩)), (2, .bool false)] := hS
  have HH2 : Held ⟨w, [g]⟩ w2 [⟨g, (), 6, upd (spC ⟨al, sy, false, acts, inn, keep⟩) 3 (.i .i64 (((acts + 1 : Nat) : Int))), 53⟩] := hH
  clear hS hH HS1 HH1
  refine then_ ?_
  refine wp_seq ?_
  refine wp_seq ?_
  have hLo : LOk [(0, 10, .val (.pointer (some ⟨g, 0, none⟩))), (1, 11, .val (.pointer (some ⟨g, 0, none⟩))), (2, 12, .val (.pointer (some ⟨g, 4, none⟩))), (3, 13, .val (.int .i64 (((inn : Nat) : Int)))), (4, 14, .val (.int .i64 (((inn : Nat) : Int) - 1))), (5, 15, .val (.pointer (some ⟨g, 0, none⟩))), (6, 16, .val (.pointer (some ⟨g, 4, none⟩)))] := lok (by rfl) (by rfl)
  refine plain_ (wE := ⟨w, [g]⟩) (sz := 41) (n := 8) [0, 1, 3, 7, 15, 31, 63, 127] [(0, .val (.pointer (some ⟨g, 0, none⟩))), (2, .val (.bool false))] [(0, 10, .val (.pointer (some ⟨g, 0, none⟩))), (1, 11, .val (.pointer (some ⟨g, 0, none⟩))), (2, 12, .val (.pointer (some ⟨g, 4, none⟩))), (3, 13, .val (.int .i64 (((inn : Nat) : Int)))), (4, 14, .val (.int .i64 (((inn : Nat) : Int) - 1))), (5, 15, .val (.pointer (some ⟨g, 0, none⟩))), (6, 16, .val (.pointer (some ⟨g, 4, none⟩)))] [⟨g, none, some 7, (), 6, upd (spC ⟨al, sy, false, acts, inn, keep⟩) 3 (.i .i64 (((acts + 1 : Nat) : Int))), upd (upd (spC ⟨al, sy, false, acts, inn, keep⟩) 3 (.i .i64 (((acts + 1 : Nat) : Int)))) 4 (.i .i64 (((inn : Nat) : Int) - 1)), 53⟩] rfl (by rfl) HH2 rfl rfl hLo rfl HS2 (slS 0 rfl rfl (slS 1 rfl rfl (trivial))) ?_ ?_
  · show ∀ i ∈ [0, 1, 2, 3, 4, 5, 6, 7], _
    refine steps_cons (st_run 0 _ rfl rfl hLo rfl rfl (fun _ _ _ _ => rfl) (fun b G w hb ho => exec_move (.inl rfl) (ev_off rfl (HS2.get 0 rfl)))) ?_
    refine steps_cons (st_run 1 _ rfl rfl hLo rfl rfl (fun _ _ _ _ => rfl) (fun b G w hb ho => exec_nil rfl (ev_on hLo 0 rfl HS2.1 rfl (hb 0 (by rfl))))) ?_
    refine steps_cons (st_run 2 _ rfl rfl hLo rfl rfl (fun _ _ _ _ => rfl) (fun b G w hb ho => exec_field rfl (ev_on hLo 1 rfl HS2.1 rfl (hb 1 (by rfl))) (by kernel_rfl))) ?_
    refine steps_cons (st_read 3 0 _ _ rfl rfl rfl hLo rfl rfl (fun _ _ _ _ => rfl) (by rfl) (by rfl) (fun b G w hb ho hr => exec_cell hr (Nat.le_of_ble_eq_true rfl) Try.underlying3 rfl rfl (ev_on hLo 2 rfl HS2.1 rfl (hb 2 (by rfl))))) ?_
    refine steps_cons (st_run 4 _ rfl rfl hLo rfl rfl (fun _ _ _ _ => rfl) (fun b G w hb ho => exec_bin rfl (ev_on hLo 3 rfl HS2.1 rfl (hb 3 (by rfl))) (rfl) (rb_sub (w_int (by omega) (by omega)) _ _ _))) ?_
    refine steps_cons (st_run 5 _ rfl rfl hLo rfl rfl (fun _ _ _ _ => rfl) (fun b G w hb ho => exec_nil rfl (ev_on hLo 0 rfl HS2.1 rfl (hb 0 (by rfl))))) ?_
    refine steps_cons (st_run 6 _ rfl rfl hLo rfl rfl (fun _ _ _ _ => rfl) (fun b G w hb ho => exec_field rfl (ev_on hLo 5 rfl HS2.1 rfl (hb 5 (by rfl))) (by kernel_rfl))) ?_
    refine steps_cons (st_put 0 _ rfl rfl rfl rfl (fun _ _ _ _ => rfl) rfl rfl rfl (by rfl) (fun b G w hb ho hr => exec_put1 hr (Nat.le_of_ble_eq_true rfl) (by kernel_rfl) rfl (ev_on hLo 6 rfl HS2.1 rfl (hb 6 (by rfl))) (ev_on hLo 4 rfl HS2.1 rfl (hb 4 (by rfl))))) ?_
    exact steps_nil
  clear hLo
  intro G a3 w3 hS hH
  have HS3 : Sl a3 41 [(0, .pointer (some ⟨g, 0, none⟩)), (2, .bool false)] := hS
  have HH3 : Held ⟨w, [g]⟩ w3 [⟨g, (), 6, upd (upd (spC ⟨al, sy, false, acts, inn, keep⟩) 3 (.i .i64 (((acts + 1 : Nat) : Int)))) 4 (.i .i64 (((inn : Nat) : Int) - 1)), 53⟩] := hH
  clear hS hH HS2 HH2
  refine then_ ?_
  refine wp_seq ?_
  have hLo : LOk [(0, 17, .val (.pointer (some ⟨g, 0, none⟩))), (1, 18, .val (.pointer (some ⟨g, 0, none⟩))), (2, 19, .val (.pointer (some ⟨g, 4, none⟩))), (3, 20, .val (.int .i64 (((inn : Nat) : Int) - 1))), (4, 21, .val (.bool false))] := lok (by rfl) (by rfl)
  refine plain_ (wE := ⟨w, [g]⟩) (sz := 41) (n := 5) [0, 1, 3, 7, 15] [(0, .val (.pointer (some ⟨g, 0, none⟩))), (2, .val (.bool false)), (21, .val (.bool false))] [(0, 17, .val (.pointer (some ⟨g, 0, none⟩))), (1, 18, .val (.pointer (some ⟨g, 0, none⟩))), (2, 19, .val (.pointer (some ⟨g, 4, none⟩))), (3, 20, .val (.int .i64 (((inn : Nat) : Int) - 1))), (4, 21, .val (.bool false))] [⟨g, none, none, (), 6, upd (upd (spC ⟨al, sy, false, acts, inn, keep⟩) 3 (.i .i64 (((acts + 1 : Nat) : Int)))) 4 (.i .i64 (((inn : Nat) : Int) - 1)), upd (upd (spC ⟨al, sy, false, acts, inn, keep⟩) 3 (.i .i64 (((acts + 1 : Nat) : Int)))) 4 (.i .i64 (((inn : Nat) : Int) - 1)), 53⟩] rfl (by rfl) HH3 rfl rfl hLo rfl HS3 (slS 0 rfl rfl (slS 1 rfl rfl (slL 4 (d := 4) rfl (trivial)))) ?_ ?_
  · show ∀ i ∈ [0, 1, 2, 3, 4], _
    refine steps_cons (st_run 0 _ rfl rfl hLo rfl rfl (fun _ _ _ _ => rfl) (fun b G w hb ho => exec_move (.inl rfl) (ev_off rfl (HS3.get 0 rfl)))) ?_
    refine steps_cons (st_run 1 _ rfl rfl hLo rfl rfl (fun _ _ _ _ => rfl) (fun b G w hb ho => exec_nil rfl (ev_on hLo 0 rfl HS3.1 rfl (hb 0 (by rfl))))) ?_
    refine steps_cons (st_run 2 _ rfl rfl hLo rfl rfl (fun _ _ _ _ => rfl) (fun b G w hb ho => exec_field rfl (ev_on hLo 1 rfl HS3.1 rfl (hb 1 (by rfl))) (by kernel_rfl))) ?_
    refine steps_cons (st_read 3 0 _ _ rfl rfl rfl hLo rfl rfl (fun _ _ _ _ => rfl) (by rfl) (by rfl) (fun b G w hb ho hr => exec_cell hr (Nat.le_of_ble_eq_true rfl) Try.underlying3 rfl rfl (ev_on hLo 2 rfl HS3.1 rfl (hb 2 (by rfl))))) ?_
    refine steps_cons (st_run 4 _ rfl rfl hLo rfl rfl (fun _ _ _ _ => rfl) (fun b G w hb ho => exec_bin rfl (ev_on hLo 3 rfl HS3.1 rfl (hb 3 (by rfl))) (rfl) (rb_eql (beq_eq_false_iff_ne.2 (by omega)) _ _ _))) ?_
    exact steps_nil
  clear hLo
  intro G a4 w4 hS hH
  have HS4 : Sl a4 41 [(0, .pointer (some ⟨g, 0, none⟩)), (2, .bool false), (21, .bool false)] := hS
  have HH4 : Held ⟨w, [g]⟩ w4 [⟨g, (), 6, upd (upd (spC ⟨al, sy, false, acts, inn, keep⟩) 3 (.i .i64 (((acts + 1 : Nat) : Int)))) 4 (.i .i64 (((inn : Nat) : Int) - 1)), 53⟩] := hH
  clear hS hH HS3 HH3
  refine then_ ?_
  refine wp_cond_false (HS4.get 2 rfl) ?_
  refine wp_skip ?_
  refine then_ ?_
  refine wp_seq ?_
  have hLo : LOk [(0, 28, .val (.pointer (some ⟨g, 0, none⟩))), (1, 29, .val (.pointer (some ⟨g, 0, none⟩))), (2, 30, .val (.pointer (some ⟨g, 0, none⟩))), (3, 31, .val (.pointer (some ⟨g, 4, none⟩))), (4, 32, .val (.int .i64 (((inn : Nat) : Int) - 1))), (5, 33, .val (.int .i64 (((inn - 1 : Nat) : Int)))), (6, 34, .val (.pointer (some ⟨g, 0, none⟩))), (7, 35, .val (.pointer (some ⟨g, 4, none⟩)))] := lok (by rfl) (by rfl)
  refine plain_ (wE := ⟨w, [g]⟩) (sz := 41) (n := 9) [0, 1, 3, 7, 15, 31, 63, 127, 255] [(0, .val (.pointer (some ⟨g, 0, none⟩))), (2, .val (.bool false)), (21, .val (.bool false))] [(0, 28, .val (.pointer (some ⟨g, 0, none⟩))), (1, 29, .val (.pointer (some ⟨g, 0, none⟩))), (2, 30, .val (.pointer (some ⟨g, 0, none⟩))), (3, 31, .val (.pointer (some ⟨g, 4, none⟩))), (4, 32, .val (.int .i64 (((inn : Nat) : Int) - 1))), (5, 33, .val (.int .i64 (((inn - 1 : Nat) : Int)))), (6, 34, .val (.pointer (some ⟨g, 0, none⟩))), (7, 35, .val (.pointer (some ⟨g, 4, none⟩)))] [⟨g, none, some 8, (), 6, upd (upd (spC ⟨al, sy, false, acts, inn, keep⟩) 3 (.i .i64 (((acts + 1 : Nat) : Int)))) 4 (.i .i64 (((inn : Nat) : Int) - 1)), upd (upd (upd (spC ⟨al, sy, false, acts, inn, keep⟩) 3 (.i .i64 (((acts + 1 : Nat) : Int)))) 4 (.i .i64 (((inn : Nat) : Int) - 1))) 4 (.i .i64 (((inn - 1 : Nat) : Int))), 53⟩] rfl (by rfl) HH4 rfl rfl hLo rfl HS4 (slS 0 rfl rfl (slS 1 rfl rfl (slS 2 rfl rfl (trivial)))) ?_ ?_
  · show ∀ i ∈ [0, 1, 2, 3, 4, 5, 6, 7, 8], _
    refine steps_cons (st_run 0 _ rfl rfl hLo rfl rfl (fun _ _ _ _ => rfl) (fun b G w hb ho => exec_move (.inl rfl) (ev_off rfl (HS4.get 0 rfl)))) ?_
    refine steps_cons (st_run 1 _ rfl rfl hLo rfl rfl (fun _ _ _ _ => rfl) (fun b G w hb ho => exec_move (.inl rfl) (ev_off rfl (HS4.get 0 rfl)))) ?_
    refine steps_cons (st_run 2 _ rfl rfl hLo rfl rfl (fun _ _ _ _ => rfl) (fun b G w hb ho => exec_nil rfl (ev_on hLo 1 rfl HS4.1 rfl (hb 1 (by rfl))))) ?_
    refine steps_cons (st_run 3 _ rfl rfl hLo rfl rfl (fun _ _ _ _ => rfl) (fun b G w hb ho => exec_field rfl (ev_on hLo 2 rfl HS4.1 rfl (hb 2 (by rfl))) (by kernel_rfl))) ?_
    refine steps_cons (st_read 4 0 _ _ rfl rfl rfl hLo rfl rfl (fun _ _ _ _ => rfl) (by rfl) (by rfl) (fun b G w hb ho hr => exec_cell hr (Nat.le_of_ble_eq_true rfl) Try.underlying3 rfl rfl (ev_on hLo 3 rfl HS4.1 rfl (hb 3 (by rfl))))) ?_
    refine steps_cons (st_run 5 _ rfl rfl hLo rfl rfl (fun _ _ _ _ => rfl) (fun b G w hb ho => exec_max (mx_pred _) rfl (ev_on hLo 4 rfl HS4.1 rfl (hb 4 (by rfl))) (rfl))) ?_
    refine steps_cons (st_run 6 _ rfl rfl hLo rfl rfl (fun _ _ _ _ => rfl) (fun b G w hb ho => exec_nil rfl (ev_on hLo 0 rfl HS4.1 rfl (hb 0 (by rfl))))) ?_
    refine steps_cons (st_run 7 _ rfl rfl hLo rfl rfl (fun _ _ _ _ => rfl) (fun b G w hb ho => exec_field rfl (ev_on hLo 6 rfl HS4.1 rfl (hb 6 (by rfl))) (by kernel_rfl))) ?_
    refine steps_cons (st_put 0 _ rfl rfl rfl rfl (fun _ _ _ _ => rfl) rfl rfl rfl (by rfl) (fun b G w hb ho hr => exec_put1 hr (Nat.le_of_ble_eq_true rfl) (by kernel_rfl) rfl (ev_on hLo 7 rfl HS4.1 rfl (hb 7 (by rfl))) (ev_on hLo 5 rfl HS4.1 rfl (hb 5 (by rfl))))) ?_
    exact steps_nil
  clear hLo
  intro G a5 w5 hS hH
  have HS5 : Sl a5 41 [(0, .pointer (some ⟨g, 0, none⟩)), (2, .bool false), (21, .bool false)] := hS
  have HH5 : Held ⟨w, [g]⟩ w5 [⟨g, (), 6, upd (upd (upd (spC ⟨al, sy, false, acts, inn, keep⟩) 3 (.i .i64 (((acts + 1 : Nat) : Int)))) 4 (.i .i64 (((inn : Nat) : Int) - 1))) 4 (.i .i64 (((inn - 1 : Nat) : Int))), 53⟩] := hH
  clear hS hH HS4 HH4
  refine then_ ?_
  refine wp_seq ?_
  have hLo : LOk [(0, 36, .val (.pointer (some ⟨g, 0, none⟩))), (1, 37, .val (.pointer (some ⟨g, 0, none⟩))), (2, 38, .val (.pointer (some ⟨g, 2, none⟩))), (3, 39, .val (.bool false)), (4, 40, .val (.bool true)), (5, 2, .val (.bool true))] := lok (by rfl) (by rfl)
  refine plain_ (wE := ⟨w, [g]⟩) (sz := 41) (n := 6) [0, 1, 3, 7, 15, 31] [(0, .val (.pointer (some ⟨g, 0, none⟩))), (21, .val (.bool false)), (2, .val (.bool true))] [(0, 36, .val (.pointer (some ⟨g, 0, none⟩))), (1, 37, .val (.pointer (some ⟨g, 0, none⟩))), (2, 38, .val (.pointer (some ⟨g, 2, none⟩))), (3, 39, .val (.bool false)), (4, 40, .val (.bool true)), (5, 2, .val (.bool true))] [⟨g, none, none, (), 6, upd (upd (upd (spC ⟨al, sy, false, acts, inn, keep⟩) 3 (.i .i64 (((acts + 1 : Nat) : Int)))) 4 (.i .i64 (((inn : Nat) : Int) - 1))) 4 (.i .i64 (((inn - 1 : Nat) : Int))), upd (upd (upd (spC ⟨al, sy, false, acts, inn, keep⟩) 3 (.i .i64 (((acts + 1 : Nat) : Int)))) 4 (.i .i64 (((inn : Nat) : Int) - 1))) 4 (.i .i64 (((inn - 1 : Nat) : Int))), 53⟩] rfl (by rfl) HH5 rfl rfl hLo rfl HS5 (slS 0 rfl rfl (slS 2 rfl rfl (slL 5 (d := 5) rfl (trivial)))) ?_ ?_
  · show ∀ i ∈ [0, 1, 2, 3, 4, 5], _
    refine steps_cons (st_run 0 _ rfl rfl hLo rfl rfl (fun _ _ _ _ => rfl) (fun b G w hb ho => exec_move (.inl rfl) (ev_off rfl (HS5.get 0 rfl)))) ?_
    refine steps_cons (st_run 1 _ rfl rfl hLo rfl rfl (fun _ _ _ _ => rfl) (fun b G w hb ho => exec_nil rfl (ev_on hLo 0 rfl HS5.1 rfl (hb 0 (by rfl))))) ?_
    refine steps_cons (st_run 2 _ rfl rfl hLo rfl rfl (fun _ _ _ _ => rfl) (fun b G w hb ho => exec_field rfl (ev_on hLo 1 rfl HS5.1 rfl (hb 1 (by rfl))) (by kernel_rfl))) ?_
    refine steps_cons (st_read 3 0 _ _ rfl rfl rfl hLo rfl rfl (fun _ _ _ _ => rfl) (by rfl) (by rfl) (fun b G w hb ho hr => exec_cell hr (Nat.le_of_ble_eq_true rfl) Try.underlying4 rfl rfl (ev_on hLo 2 rfl HS5.1 rfl (hb 2 (by rfl))))) ?_
    refine steps_cons (st_run 4 _ rfl rfl hLo rfl rfl (fun _ _ _ _ => rfl) (fun b G w hb ho => exec_un rfl (ev_on hLo 3 rfl HS5.1 rfl (hb 3 (by rfl))) (ru_not _))) ?_
    refine steps_cons (st_run 5 _ rfl rfl hLo rfl rfl (fun _ _ _ _ => rfl) (fun b G w hb ho => exec_move (.inr rfl) (ev_on hLo 4 rfl HS5.1 rfl (hb 4 (by rfl))))) ?_
    exact steps_nil
  clear hLo
  intro G a6 w6 hS hH
  have HS6 : Sl a6 41 [(0, .pointer (some ⟨g, 0, none⟩)), (21, .bool false), (2, .bool true)] := hS
  have HH6 : Held ⟨w, [g]⟩ w6 [⟨g, (), 6, upd (upd (upd (spC ⟨al, sy, false, acts, inn, keep⟩) 3 (.i .i64 (((acts + 1 : Nat) : Int)))) 4 (.i .i64 (((inn : Nat) : Int) - 1))) 4 (.i .i64 (((inn - 1 : Nat) : Int))), 53⟩] := hH
  clear hS hH HS5 HH5
  refine then_ ?_
  refine wp_ret ?_
  repeat (first | refine then_ret ?_ | refine inBlock_ret' ?_)
  exact b_tmp rfl HS6.2.1 (HS6.get 2 rfl) ⟨rfl, Row.norm (HH6.row 0 rfl) (six ⟨rfl, rfl, rfl, rfl, rfl, rfl⟩), HH6.1⟩
theorem sync_off {w : World} {g : Nat} {al : ByteArray} {sy : Nat} {acts inn : Nat} {keep : Int} (hr : Row w g () 6 (spC ⟨al, sy, true, acts, inn, keep⟩) 53) : Calls Try.prog 17 #[.pointer (some ⟨g, 0, none⟩)] w fun e w' => e = .returned (.int .i64 50) ∧ Row w' g () 6 (spC ⟨al, sy, true, acts, inn, keep⟩) 53 ∧ Fr ⟨w, [g]⟩ w' := by
  refine enter_ 20 Try.func17 rfl rfl (fun a0 hS => ?_)
  have HS0 : Sl a0 20 [(0, .pointer (some ⟨g, 0, none⟩))] := hS
  have HH0 : Held ⟨w, [g]⟩ w [⟨g, (), 6, spC ⟨al, sy, true, acts, inn, keep⟩, 53⟩] := Held.one hr
  clear hS
  refine wp_seq ?_
  have hLo : LOk [(0, 2, .val (.int .i64 (0)))] := lok (by rfl) (by rfl)
  refine plain_ (wE := ⟨w, [g]⟩) (sz := 20) (n := 1) [0] [(0, .val (.pointer (some ⟨g, 0, none⟩))), (2, .val (.int .i64 (0)))] [(0, 2, .val (.int .i64 (0)))] [⟨g, none, none, (), 6, spC ⟨al, sy, true, acts, inn, keep⟩, spC ⟨al, sy, true, acts, inn, keep⟩, 53⟩] rfl (by rfl) HH0 rfl rfl hLo rfl HS0 (slS 0 rfl rfl (slL 0 (d := 0) rfl (trivial))) ?_ ?_
  · show ∀ i ∈ [0], _
    refine steps_cons (st_run 0 _ rfl rfl hLo rfl rfl (fun _ _ _ _ => rfl) (fun b G w hb ho => exec_move (.inr rfl) (rfl))) ?_
    exact steps_nil
  clear hLo
  intro G a1 w1 hS hH
  have HS1 : Sl a1 20 [(0, .pointer (some ⟨g, 0, none⟩)), (2, .int .i64 (0))] := hS
  have HH1 : Held ⟨w, [g]⟩ w1 [⟨g, (), 6, spC ⟨al, sy, true, acts, inn, keep⟩, 53⟩] := hH
  clear hS hH HS0 HH0
  refine then_ ?_
  refine wp_seq ?_
  refine wp_seq ?_
  have hLo : LOk [(0, 4, .val (.pointer (some ⟨g, 0, none⟩))), (1, 5, .val (.int .i64 (50))), (2, 3, .val (.int .i64 (50)))] := lok (by rfl) (by rfl)
  refine plain_ (wE := ⟨w, [g]⟩) (sz := 20) (n := 3) [0, 1, 3] [(0, .val (.pointer (some ⟨g, 0, none⟩))), (2, .val (.int .i64 (0))), (3, .val (.int .i64 (50)))] [(0, 4, .val (.pointer (some ⟨g, 0, none⟩))), (1, 5, .val (.int .i64 (50))), (2, 3, .val (.int .i64 (50)))] [⟨g, none, none, (), 6, spC ⟨al, sy, true, acts, inn, keep⟩, spC ⟨al, sy, true, acts, inn, keep⟩, 53⟩] rfl (by rfl) HH1 rfl rfl hLo rfl HS1 (slS 0 rfl rfl (slS 1 rfl rfl (slL 2 (d := 2) rfl (trivial)))) ?_ ?_
  · show ∀ i ∈ [0, 1, 2], _
    refine steps_cons (st_run 0 _ rfl rfl hLo rfl rfl (fun _ _ _ _ => rfl) (fun b G w hb ho => exec_move (.inl rfl) (ev_off rfl (HS1.get 0 rfl)))) ?_
    refine steps_cons (st_callRB 1 0 _ _ (fun G => #[.pointer (some ⟨g, 0, none⟩)]) rfl rfl rfl rfl (fun _ _ _ _ => rfl) hLo rfl rfl (by rfl) (by rfl) Try.func29 rfl rfl (fun b G hb ho => args1 (ev_on hLo 0 rfl HS1.1 rfl (hb 0 (by rfl)))) (fun G w hw hr => ready_off hr)) ?_
    refine steps_cons (st_run 2 _ rfl rfl hLo rfl rfl (fun _ _ _ _ => rfl) (fun b G w hb ho => exec_move (.inr rfl) (ev_on hLo 1 rfl HS1.1 rfl (hb 1 (by rfl))))) ?_
    exact steps_nil
  clear hLo
  intro G a2 w2 hS hH
  have HS2 : Sl a2 20 [(0, .pointer (some ⟨g, 0, none⟩)), (2, .int .i64 (0)), (3, .int .i64 (50))] := hS
  have HH2 : Held ⟨w, [g]⟩ w2 [⟨g, (), 6, spC ⟨al, sy, true, acts, inn, keep⟩, 53⟩] := hH
  clear hS hH HS1 HH1
  refine then_ ?_
  refine wp_seq ?_
  have hLo : LOk [(0, 6, .val (.int .i64 (50))), (1, 7, .val (.bool true))] := lok (by rfl) (by rfl)
  refine plain_ (wE := ⟨w, [g]⟩) (sz := 20) (n := 2) [0, 1] [(0, .val (.pointer (some ⟨g, 0, none⟩))), (2, .val (.int .i64 (0))), (3, .val (.int .i64 (50))), (7, .val (.bool true))] [(0, 6, .val (.int .i64 (50))), (1, 7, .val (.bool true))] [⟨g, none, none, (), 6, spC ⟨al, sy, true, acts, inn, keep⟩, spC ⟨al, sy, true, acts, inn, keep⟩, 53⟩] rfl (by rfl) HH2 rfl rfl hLo rfl HS2 (slS 0 rfl rfl (slS 1 rfl rfl (slS 2 rfl rfl (slL 1 (d := 1) rfl (trivial))))) ?_ ?_
  · show ∀ i ∈ [0, 1], _
    refine steps_cons (st_run 0 _ rfl rfl hLo rfl rfl (fun _ _ _ _ => rfl) (fun b G w hb ho => exec_move (.inl rfl) (ev_off rfl (HS2.get 2 rfl)))) ?_
    refine steps_cons (st_run 1 _ rfl rfl hLo rfl rfl (fun _ _ _ _ => rfl) (fun b G w hb ho => exec_bin rfl (ev_on hLo 0 rfl HS2.1 rfl (hb 0 (by rfl))) (rfl) (rb_neq (rfl) _ _ _))) ?_
    exact steps_nil
  clear hLo
  intro G a3 w3 hS hH
  have HS3 : Sl a3 20 [(0, .pointer (some ⟨g, 0, none⟩)), (2, .int .i64 (0)), (3, .int .i64 (50)), (7, .bool true)] := hS
  have HH3 : Held ⟨w, [g]⟩ w3 [⟨g, (), 6, spC ⟨al, sy, true, acts, inn, keep⟩, 53⟩] := hH
  clear hS hH HS2 HH2
  refine then_ ?_
  refine wp_cond_true (HS3.get 3 rfl) ?_
  refine wp_seq ?_
  have hLo : LOk [(0, 8, .val (.int .i64 (50))), (1, 2, .val (.int .i64 (50)))] := lok (by rfl) (by rfl)
  refine plain_ (wE := ⟨w, [g]⟩) (sz := 20) (n := 2) [0, 1] [(0, .val (.pointer (some ⟨g, 0, none⟩))), (3, .val (.int .i64 (50))), (7, .val (.bool true)), (2, .val (.int .i64 (50)))] [(0, 8, .val (.int .i64 (50))), (1, 2, .val (.int .i64 (50)))] [⟨g, none, none, (), 6, spC ⟨al, sy, true, acts, inn, keep⟩, spC ⟨al, sy, true, acts, inn, keep⟩, 53⟩] rfl (by rfl) HH3 rfl rfl hLo rfl HS3 (slS 0 rfl rfl (slS 2 rfl rfl (slS 3 rfl rfl (slL 1 (d := 1) rfl (trivial))))) ?_ ?_
  · show ∀ i ∈ [0, 1], _
    refine steps_cons (st_run 0 _ rfl rfl hLo rfl rfl (fun _ _ _ _ => rfl) (fun b G w hb ho => exec_move (.inl rfl) (ev_off rfl (HS3.get 2 rfl)))) ?_
    refine steps_cons (st_run 1 _ rfl rfl hLo rfl rfl (fun _ _ _ _ => rfl) (fun b G w hb ho => exec_move (.inr rfl) (ev_on hLo 0 rfl HS3.1 rfl (hb 0 (by rfl))))) ?_
    exact steps_nil
  clear hLo
  intro G a4 w4 hS hH
  have HS4 : Sl a4 20 [(0, .pointer (some ⟨g, 0, none⟩)), (3, .int .i64 (50)), (7, .bool true), (2, .int .i64 (50))] := hS
  have HH4 : Held ⟨w, [g]⟩ w4 [⟨g, (), 6, spC ⟨al, sy, true, acts, inn, keep⟩, 53⟩] := hH
  clear hS hH HS3 HH3
  refine then_ ?_
  refine wp_ret ?_
  repeat (first | refine then_ret ?_ | refine inBlock_ret' ?_)
  exact b_tmp rfl HS4.2.1 (HS4.get 3 rfl) ⟨rfl, Row.norm (HH4.row 0 rfl) (six ⟨rfl, rfl, rfl, rfl, rfl, rfl⟩), HH4.1⟩
theorem sync_goes {w : World} {g : Nat} {al : ByteArray} {sy : Nat} {acts : Nat} {keep : Int} (hr : Row w g () 6 (spC ⟨al, sy, false, acts, 1, keep⟩) 53) (hsy : sy ≤ al.size) (hal : al.size ≤ 4194304) (hac : acts ≤ 1000000) : Calls Try.prog 17 #[.pointer (some ⟨g, 0, none⟩)] w fun e w' => e = .returned (.int .i64 50) ∧ Row w' g () 6 (spC ⟨al.extract 0 (sy + kp keep (al.size - sy)), sy + kp keep (al.size - sy), true, acts + 1, 0, keep⟩) 53 ∧ Fr ⟨w, [g]⟩ w' := by
  refine enter_ 20 Try.func17 rfl rfl (fun a0 hS => ?_)
  have HS0 : Sl a0 20 [(0, .pointer (some ⟨g, 0, none⟩))] := hS
  have HH0 : Held ⟨w, [g]⟩ w [⟨g, (), 6, spC ⟨al, sy, false, acts, 1, keep⟩, 53⟩] := Held.one hr
  clear hS
  refine wp_seq ?_
  have hLo : LOk [(0, 2, .val (.int .i64 (0)))] := lok (by rfl) (by rfl)
  refine plain_ (wE := ⟨w, [g]⟩) (sz := 20) (n := 1) [0] [(0, .val (.pointer (some ⟨g, 0, none⟩))), (2, .val (.int .i64 (0)))] [(0, 2, .val (.int .i64 (0)))] [⟨g, none, none, (), 6, spC ⟨al, sy, false, acts, 1, keep⟩, spC ⟨al, sy, false, acts, 1, keep⟩, 53⟩] rfl (by rfl) HH0 rfl rfl hLo rfl HS0 (slS 0 rfl rfl (slL 0 (d := 0) rfl (trivial))) ?_ ?_
  · show ∀ i ∈ [0], _
    refine steps_cons (st_run 0 _ rfl rfl hLo rfl rfl (fun _ _ _ _ => rfl) (fun b G w hb ho => exec_move (.inr rfl) (rfl))) ?_
    exact steps_nil
  clear hLo
  intro G a1 w1 hS hH
  have HS1 : Sl a1 20 [(0, .pointer (some ⟨g, 0, none⟩)), (2, .int .i64 (0))] := hS
  have HH1 : Held ⟨w, [g]⟩ w1 [⟨g, (), 6, spC ⟨al, sy, false, acts, 1, keep⟩, 53⟩] := hH
  clear hS hH HS0 HH0
  refine then_ ?_
  refine wp_seq ?_
  refine wp_seq ?_
  have hLo : LOk [(0, 4, .val (.pointer (some ⟨g, 0, none⟩))), (1, 5, .val (.int .i64 (0))), (2, 3, .val (.int .i64 (0)))] := lok (by rfl) (by rfl)
  refine plain_ (wE := ⟨w, [g]⟩) (sz := 20) (n := 3) [0, 1, 3] [(0, .val (.pointer (some ⟨g, 0, none⟩))), (2, .val (.int .i64 (0))), (3, .val (.int .i64 (0)))] [(0, 4, .val (.pointer (some ⟨g, 0, none⟩))), (1, 5, .val (.int .i64 (0))), (2, 3, .val (.int .i64 (0)))] [⟨g, none, none, (), 6, spC ⟨al, sy, false, acts, 1, keep⟩, spC ⟨al, sy, false, acts, 1, keep⟩, 53⟩] rfl (by rfl) HH1 rfl rfl hLo rfl HS1 (slS 0 rfl rfl (slS 1 rfl rfl (slL 2 (d := 2) rfl (trivial)))) ?_ ?_
  · show ∀ i ∈ [0, 1, 2], _
    refine steps_cons (st_run 0 _ rfl rfl hLo rfl rfl (fun _ _ _ _ => rfl) (fun b G w hb ho => exec_move (.inl rfl) (ev_off rfl (HS1.get 0 rfl)))) ?_
    refine steps_cons (st_callRB 1 0 _ _ (fun G => #[.pointer (some ⟨g, 0, none⟩)]) rfl rfl rfl rfl (fun _ _ _ _ => rfl) hLo rfl rfl (by rfl) (by rfl) Try.func29 rfl rfl (fun b G hb ho => args1 (ev_on hLo 0 rfl HS1.1 rfl (hb 0 (by rfl)))) (fun G w hw hr => ready_on hr)) ?_
    refine steps_cons (st_run 2 _ rfl rfl hLo rfl rfl (fun _ _ _ _ => rfl) (fun b G w hb ho => exec_move (.inr rfl) (ev_on hLo 1 rfl HS1.1 rfl (hb 1 (by rfl))))) ?_
    exact steps_nil
  clear hLo
  intro G a2 w2 hS hH
  have HS2 : Sl a2 20 [(0, .pointer (some ⟨g, 0, none⟩)), (2, .int .i64 (0)), (3, .int .i64 (0))] := hS
  have HH2 : Held ⟨w, [g]⟩ w2 [⟨g, (), 6, spC ⟨al, sy, false, acts, 1, keep⟩, 53⟩] := hH
  clear hS hH HS1 HH1
  refine then_ ?_
  refine wp_seq ?_
  have hLo : LOk [(0, 6, .val (.int .i64 (0))), (1, 7, .val (.bool false))] := lok (by rfl) (by rfl)
  refine plain_ (wE := ⟨w, [g]⟩) (sz := 20) (n := 2) [0, 1] [(0, .val (.pointer (some ⟨g, 0, none⟩))), (2, .val (.int .i64 (0))), (3, .val (.int .i64 (0))), (7, .val (.bool false))] [(0, 6, .val (.int .i64 (0))), (1, 7, .val (.bool false))] [⟨g, none, none, (), 6, spC ⟨al, sy, false, acts, 1, keep⟩, spC ⟨al, sy, false, acts, 1, keep⟩, 53⟩] rfl (by rfl) HH2 rfl rfl hLo rfl HS2 (slS 0 rfl rfl (slS 1 rfl rfl (slS 2 rfl rfl (slL 1 (d := 1) rfl (trivial))))) ?_ ?_
  · show ∀ i ∈ [0, 1], _
    refine steps_cons (st_run 0 _ rfl rfl hLo rfl rfl (fun _ _ _ _ => rfl) (fun b G w hb ho => exec_move (.inl rfl) (ev_off rfl (HS2.get 2 rfl)))) ?_
    refine steps_cons (st_run 1 _ rfl rfl hLo rfl rfl (fun _ _ _ _ => rfl) (fun b G w hb ho => exec_bin rfl (ev_on hLo 0 rfl HS2.1 rfl (hb 0 (by rfl))) (rfl) (rb_neq (rfl) _ _ _))) ?_
    exact steps_nil
  clear hLo
  intro G a3 w3 hS hH
  have HS3 : Sl a3 20 [(0, .pointer (some ⟨g, 0, none⟩)), (2, .int .i64 (0)), (3, .int .i64 (0)), (7, .bool false)] := hS
  have HH3 : Held ⟨w, [g]⟩ w3 [⟨g, (), 6, spC ⟨al, sy, false, acts, 1, keep⟩, 53⟩] := hH
  clear hS hH HS2 HH2
  refine then_ ?_
  refine wp_cond_false (HS3.get 3 rfl) ?_
  refine wp_skip ?_
  refine then_ ?_
  refine wp_seq ?_
  refine wp_seq ?_
  have hLo : LOk [(0, 9, .val (.pointer (some ⟨g, 0, none⟩))), (1, 10, .val (.bool false)), (2, 11, .val (.bool true))] := lok (by rfl) (by rfl)
  refine plain_ (wE := ⟨w, [g]⟩) (sz := 20) (n := 3) [0, 1, 3] [(0, .val (.pointer (some ⟨g, 0, none⟩))), (2, .val (.int .i64 (0))), (3, .val (.int .i64 (0))), (7, .val (.bool false)), (11, .val (.bool true))] [(0, 9, .val (.pointer (some ⟨g, 0, none⟩))), (1, 10, .val (.bool false)), (2, 11, .val (.bool true))] [⟨g, none, some 1, (), 6, spC ⟨al, sy, false, acts, 1, keep⟩, spC ⟨al.extract 0 (sy + kp keep (al.size - sy)), sy + kp keep (al.size - sy), true, acts + 1, 0, keep⟩, 53⟩] rfl (by rfl) HH3 rfl rfl hLo rfl HS3 (slS 0 rfl rfl (slS 1 rfl rfl (slS 2 rfl rfl (slS 3 rfl rfl (slL 2 (d := 2) rfl (trivial)))))) ?_ ?_
  · show ∀ i ∈ [0, 1, 2], _
    refine steps_cons (st_run 0 _ rfl rfl hLo rfl rfl (fun _ _ _ _ => rfl) (fun b G w hb ho => exec_move (.inl rfl) (ev_off rfl (HS3.get 0 rfl)))) ?_
    refine steps_cons (st_callM 1 0 _ _ (fun G => #[.pointer (some ⟨g, 0, none⟩)]) rfl rfl rfl rfl rfl (fun _ _ _ _ => rfl) hLo rfl (by rfl) (by rfl) (by rfl) Try.func38 rfl rfl (fun b G hb ho => args1 (ev_on hLo 0 rfl HS3.1 rfl (hb 0 (by rfl)))) (fun G w hw hr => act_goes hr hsy hal hac)) ?_
    refine steps_cons (st_run 2 _ rfl rfl hLo rfl rfl (fun _ _ _ _ => rfl) (fun b G w hb ho => exec_un rfl (ev_on hLo 1 rfl HS3.1 rfl (hb 1 (by rfl))) (ru_not _))) ?_
    exact steps_nil
  clear hLo
  intro G a4 w4 hS hH
  have HS4 : Sl a4 20 [(0, .pointer (some ⟨g, 0, none⟩)), (2, .int .i64 (0)), (3, .int .i64 (0)), (7, .bool false), (11, .bool true)] := hS
  have HH4 : Held ⟨w, [g]⟩ w4 [⟨g, (), 6, spC ⟨al.extract 0 (sy + kp keep (al.size - sy)), sy + kp keep (al.size - sy), true, acts + 1, 0, keep⟩, 53⟩] := hH
  clear hS hH HS3 HH3
  refine then_ ?_
  refine wp_cond_true (HS4.get 4 rfl) ?_
  refine wp_seq ?_
  have hLo : LOk [(0, 2, .val (.int .i64 (50)))] := lok (by rfl) (by rfl)
  refine plain_ (wE := ⟨w, [g]⟩) (sz := 20) (n := 1) [0] [(0, .val (.pointer (some ⟨g, 0, none⟩))), (3, .val (.int .i64 (0))), (7, .val (.bool false)), (11, .val (.bool true)), (2, .val (.int .i64 (50)))] [(0, 2, .val (.int .i64 (50)))] [⟨g, none, none, (), 6, spC ⟨al.extract 0 (sy + kp keep (al.size - sy)), sy + kp keep (al.size - sy), true, acts + 1, 0, keep⟩, spC ⟨al.extract 0 (sy + kp keep (al.size - sy)), sy + kp keep (al.size - sy), true, acts + 1, 0, keep⟩, 53⟩] rfl (by rfl) HH4 rfl rfl hLo rfl HS4 (slS 0 rfl rfl (slS 2 rfl rfl (slS 3 rfl rfl (slS 4 rfl rfl (slL 0 (d := 0) rfl (trivial)))))) ?_ ?_
  · show ∀ i ∈ [0], _
    refine steps_cons (st_run 0 _ rfl rfl hLo rfl rfl (fun _ _ _ _ => rfl) (fun b G w hb ho => exec_move (.inr rfl) (rfl))) ?_
    exact steps_nil
  clear hLo
  intro G a5 w5 hS hH
  have HS5 : Sl a5 20 [(0, .pointer (some ⟨g, 0, none⟩)), (3, .int .i64 (0)), (7, .bool false), (11, .bool true), (2, .int .i64 (50))] := hS
  have HH5 : Held ⟨w, [g]⟩ w5 [⟨g, (), 6, spC ⟨al.extract 0 (sy + kp keep (al.size - sy)), sy + kp keep (al.size - sy), true, acts + 1, 0, keep⟩, 53⟩] := hH
  clear hS hH HS4 HH4
  refine then_ ?_
  refine wp_ret ?_
  repeat (first | refine then_ret ?_ | refine inBlock_ret' ?_)
  exact b_tmp rfl HS5.2.1 (HS5.get 4 rfl) ⟨rfl, Row.norm (HH5.row 0 rfl) (six ⟨rfl, rfl, rfl, rfl, rfl, rfl⟩), HH5.1⟩
theorem sync_stays {w : World} {g : Nat} {al : ByteArray} {sy : Nat} {acts inn : Nat} {keep : Int} (hr : Row w g () 6 (spC ⟨al, sy, false, acts, inn, keep⟩) 53) (hac : acts ≤ 1000000) (hin : inn < 9223372036854775808) (hi1 : inn ≠ 1) : Calls Try.prog 17 #[.pointer (some ⟨g, 0, none⟩)] w fun e w' => e = .returned (.int .i64 0) ∧ Row w' g () 6 (spC ⟨al, al.size, false, acts + 1, inn - 1, keep⟩) 53 ∧ Fr ⟨w, [g]⟩ w' := by
  refine enter_ 20 Try.func17 rfl rfl (fun a0 hS => ?_)
  have HS0 : Sl a0 20 [(0, .pointer (some ⟨g, 0, none⟩))] := hS
  have HH0 : Held ⟨w, [g]⟩ w [⟨g, (), 6, spC ⟨al, sy, false, acts, inn, keep⟩, 53⟩] := Held.one hr
  clear hS
  refine wp_seq ?_
  have hLo : LOk [(0, 2, .val (.int .i64 (0)))] := lok (by rfl) (by rfl)
  refine plain_ (wE := ⟨w, [g]⟩) (sz := 20) (n := 1) [0] [(0, .val (.pointer (some ⟨g, 0, none⟩))), (2, .val (.int .i64 (0)))] [(0, 2, .val (.int .i64 (0)))] [⟨g, none, none, (), 6, spC ⟨al, sy, false, acts, inn, keep⟩, spC ⟨al, sy, false, acts, inn, keep⟩, 53⟩] rfl (by rfl) HH0 rfl rfl hLo rfl HS0 (slS 0 rfl rfl (slL 0 (d := 0) rfl (trivial))) ?_ ?_
  · show ∀ i ∈ [0], _
    refine steps_cons (st_run 0 _ rfl rfl hLo rfl rfl (fun _ _ _ _ => rfl) (fun b G w hb ho => exec_move (.inr rfl) (rfl))) ?_
    exact steps_nil
  clear hLo
  intro G a1 w1 hS hH
  have HS1 : Sl a1 20 [(0, .pointer (some ⟨g, 0, none⟩)), (2, .int .i64 (0))] := hS
  have HH1 : Held ⟨w, [g]⟩ w1 [⟨g, (), 6, spC ⟨al, sy, false, acts, inn, keep⟩, 53⟩] := hH
  clear hS hH HS0 HH0
  refine then_ ?_
  refine wp_seq ?_
  refine wp_seq ?_
  have hLo : LOk [(0, 4, .val (.pointer (some ⟨g, 0, none⟩))), (1, 5, .val (.int .i64 (0))), (2, 3, .val (.int .i64 (0)))] := lok (by rfl) (by rfl)
  refine plain_ (wE := ⟨w, [g]⟩) (sz := 20) (n := 3) [0, 1, 3] [(0, .val (.pointer (some ⟨g, 0, none⟩))), (2, .val (.int .i64 (0))), (3, .val (.int .i64 (0)))] [(0, 4, .val (.pointer (some ⟨g, 0, none⟩))), (1, 5, .val (.int .i64 (0))), (2, 3, .val (.int .i64 (0)))] [⟨g, none, none, (), 6, spC ⟨al, sy, false, acts, inn, keep⟩, spC ⟨al, sy, false, acts, inn, keep⟩, 53⟩] rfl (by rfl) HH1 rfl rfl hLo rfl HS1 (slS 0 rfl rfl (slS 1 rfl rfl (slL 2 (d := 2) rfl (trivial)))) ?_ ?_
  · show ∀ i ∈ [0, 1, 2], _
    refine steps_cons (st_run 0 _ rfl rfl hLo rfl rfl (fun _ _ _ _ => rfl) (fun b G w hb ho => exec_move (.inl rfl) (ev_off rfl (HS1.get 0 rfl)))) ?_
    refine steps_cons (st_callRB 1 0 _ _ (fun G => #[.pointer (some ⟨g, 0, none⟩)]) rfl rfl rfl rfl (fun _ _ _ _ => rfl) hLo rfl rfl (by rfl) (by rfl) Try.func29 rfl rfl (fun b G hb ho => args1 (ev_on hLo 0 rfl HS1.1 rfl (hb 0 (by rfl)))) (fun G w hw hr => ready_on hr)) ?_
    refine steps_cons (st_run 2 _ rfl rfl hLo rfl rfl (fun _ _ _ _ => rfl) (fun b G w hb ho => exec_move (.inr rfl) (ev_on hLo 1 rfl HS1.1 rfl (hb 1 (by rfl))))) ?_
    exact steps_nil
  clear hLo
  intro G a2 w2 hS hH
  have HS2 : Sl a2 20 [(0, .pointer (some ⟨g, 0, none⟩)), (2, .int .i64 (0)), (3, .int .i64 (0))] := hS
  have HH2 : Held ⟨w, [g]⟩ w2 [⟨g, (), 6, spC ⟨al, sy, false, acts, inn, keep⟩, 53⟩] := hH
  clear hS hH HS1 HH1
  refine then_ ?_
  refine wp_seq ?_
  have hLo : LOk [(0, 6, .val (.int .i64 (0))), (1, 7, .val (.bool false))] := lok (by rfl) (by rfl)
  refine plain_ (wE := ⟨w, [g]⟩) (sz := 20) (n := 2) [0, 1] [(0, .val (.pointer (some ⟨g, 0, none⟩))), (2, .val (.int .i64 (0))), (3, .val (.int .i64 (0))), (7, .val (.bool false))] [(0, 6, .val (.int .i64 (0))), (1, 7, .val (.bool false))] [⟨g, none, none, (), 6, spC ⟨al, sy, false, acts, inn, keep⟩, spC ⟨al, sy, false, acts, inn, keep⟩, 53⟩] rfl (by rfl) HH2 rfl rfl hLo rfl HS2 (slS 0 rfl rfl (slS 1 rfl rfl (slS 2 rfl rfl (slL 1 (d := 1) rfl (trivial))))) ?_ ?_
  · show ∀ i ∈ [0, 1], _
    refine steps_cons (st_run 0 _ rfl rfl hLo rfl rfl (fun _ _ _ _ => rfl) (fun b G w hb ho => exec_move (.inl rfl) (ev_off rfl (HS2.get 2 rfl)))) ?_
    refine steps_cons (st_run 1 _ rfl rfl hLo rfl rfl (fun _ _ _ _ => rfl) (fun b G w hb ho => exec_bin rfl (ev_on hLo 0 rfl HS2.1 rfl (hb 0 (by rfl))) (rfl) (rb_neq (rfl) _ _ _))) ?_
    exact steps_nil
  clear hLo
  intro G a3 w3 hS hH
  have HS3 : Sl a3 20 [(0, .pointer (some ⟨g, 0, none⟩)), (2, .int .i64 (0)), (3, .int .i64 (0)), (7, .bool false)] := hS
  have HH3 : Held ⟨w, [g]⟩ w3 [⟨g, (), 6, spC ⟨al, sy, false, acts, inn, keep⟩, 53⟩] := hH
  clear hS hH HS2 HH2
  refine then_ ?_
  refine wp_cond_false (HS3.get 3 rfl) ?_
  refine wp_skip ?_
  refine then_ ?_
  refine wp_seq ?_
  refine wp_seq ?_
  have hLo : LOk [(0, 9, .val (.pointer (some ⟨g, 0, none⟩))), (1, 10, .val (.bool true)), (2, 11, .val (.bool false))] := lok (by rfl) (by rfl)
  refine plain_ (wE := ⟨w, [g]⟩) (sz := 20) (n := 3) [0, 1, 3] [(0, .val (.pointer (some ⟨g, 0, none⟩))), (2, .val (.int .i64 (0))), (3, .val (.int .i64 (0))), (7, .val (.bool false)), (11, .val (.bool false))] [(0, 9, .val (.pointer (some ⟨g, 0, none⟩))), (1, 10, .val (.bool true)), (2, 11, .val (.bool false))] [⟨g, none, some 1, (), 6, spC ⟨al, sy, false, acts, inn, keep⟩, spC ⟨al, sy, false, acts + 1, inn - 1, keep⟩, 53⟩] rfl (by rfl) HH3 rfl rfl hLo rfl HS3 (slS 0 rfl rfl (slS 1 rfl rfl (slS 2 rfl rfl (slS 3 rfl rfl (slL 2 (d := 2) rfl (trivial)))))) ?_ ?_
  · show ∀ i ∈ [0, 1, 2], _
    refine steps_cons (st_run 0 _ rfl rfl hLo rfl rfl (fun _ _ _ _ => rfl) (fun b G w hb ho => exec_move (.inl rfl) (ev_off rfl (HS3.get 0 rfl)))) ?_
    refine steps_cons (st_callM 1 0 _ _ (fun G => #[.pointer (some ⟨g, 0, none⟩)]) rfl rfl rfl rfl rfl (fun _ _ _ _ => rfl) hLo rfl (by rfl) (by rfl) (by rfl) Try.func38 rfl rfl (fun b G hb ho => args1 (ev_on hLo 0 rfl HS3.1 rfl (hb 0 (by rfl)))) (fun G w hw hr => act_stays hr hac hin hi1)) ?_
    refine steps_cons (st_run 2 _ rfl rfl hLo rfl rfl (fun _ _ _ _ => rfl) (fun b G w hb ho => exec_un rfl (ev_on hLo 1 rfl HS3.1 rfl (hb 1 (by rfl))) (ru_not _))) ?_
    exact steps_nil
  clear hLo
  intro G a4 w4 hS hH
  have HS4 : Sl a4 20 [(0, .pointer (some ⟨g, 0, none⟩)), (2, .int .i64 (0)), (3, .int .i64 (0)), (7, .bool false), (11, .bool false)] := hS
  have HH4 : Held ⟨w, [g]⟩ w4 [⟨g, (), 6, spC ⟨al, sy, false, acts + 1, inn - 1, keep⟩, 53⟩] := hH
  clear hS hH HS3 HH3
  refine then_ ?_
  refine wp_cond_false (HS4.get 4 rfl) ?_
  refine wp_skip ?_
  refine then_ ?_
  refine wp_seq ?_
  have hLo : LOk [(0, 12, .val (.pointer (some ⟨g, 0, none⟩))), (1, 13, .val (.pointer (some ⟨g, 0, none⟩))), (2, 14, .val (.pointer (some ⟨g, 0, none⟩))), (3, 15, .val (.pointer (some ⟨g, 0, none⟩))), (4, 16, .val (.string (al))), (5, 17, .val (.int .i64 (((al).size : Int)))), (6, 18, .val (.pointer (some ⟨g, 0, none⟩))), (7, 19, .val (.pointer (some ⟨g, 1, none⟩)))] := lok (by rfl) (by rfl)
  refine plain_ (wE := ⟨w, [g]⟩) (sz := 20) (n := 9) [0, 1, 3, 7, 15, 31, 63, 127, 255] [(0, .val (.pointer (some ⟨g, 0, none⟩))), (2, .val (.int .i64 (0))), (3, .val (.int .i64 (0))), (7, .val (.bool false)), (11, .val (.bool false))] [(0, 12, .val (.pointer (some ⟨g, 0, none⟩))), (1, 13, .val (.pointer (some ⟨g, 0, none⟩))), (2, 14, .val (.pointer (some ⟨g, 0, none⟩))), (3, 15, .val (.pointer (some ⟨g, 0, none⟩))), (4, 16, .val (.string (al))), (5, 17, .val (.int .i64 (((al).size : Int)))), (6, 18, .val (.pointer (some ⟨g, 0, none⟩))), (7, 19, .val (.pointer (some ⟨g, 1, none⟩)))] [⟨g, none, some 8, (), 6, spC ⟨al, sy, false, acts + 1, inn - 1, keep⟩, upd (spC ⟨al, sy, false, acts + 1, inn - 1, keep⟩) 1 (.i .i64 (((al).size : Int))), 53⟩] rfl (by rfl) HH4 rfl rfl hLo rfl HS4 (slS 0 rfl rfl (slS 1 rfl rfl (slS 2 rfl rfl (slS 3 rfl rfl (slS 4 rfl rfl (trivial)))))) ?_ ?_
  · show ∀ i ∈ [0, 1, 2, 3, 4, 5, 6, 7, 8], _
    refine steps_cons (st_run 0 _ rfl rfl hLo rfl rfl (fun _ _ _ _ => rfl) (fun b G w hb ho => exec_move (.inl rfl) (ev_off rfl (HS4.get 0 rfl)))) ?_
    refine steps_cons (st_run 1 _ rfl rfl hLo rfl rfl (fun _ _ _ _ => rfl) (fun b G w hb ho => exec_move (.inl rfl) (ev_off rfl (HS4.get 0 rfl)))) ?_
    refine steps_cons (st_run 2 _ rfl rfl hLo rfl rfl (fun _ _ _ _ => rfl) (fun b G w hb ho => exec_nil rfl (ev_on hLo 1 rfl HS4.1 rfl (hb 1 (by rfl))))) ?_
    refine steps_cons (st_run 3 _ rfl rfl hLo rfl rfl (fun _ _ _ _ => rfl) (fun b G w hb ho => exec_field rfl (ev_on hLo 2 rfl HS4.1 rfl (hb 2 (by rfl))) (by kernel_rfl))) ?_
    refine steps_cons (st_read 4 0 _ _ rfl rfl rfl hLo rfl rfl (fun _ _ _ _ => rfl) (by rfl) (by rfl) (fun b G w hb ho hr => exec_cell hr (Nat.le_of_ble_eq_true rfl) Try.underlying9 rfl rfl (ev_on hLo 3 rfl HS4.1 rfl (hb 3 (by rfl))))) ?_
    refine steps_cons (st_run 5 _ rfl rfl hLo rfl rfl (fun _ _ _ _ => rfl) (fun b G w hb ho => exec_lenS Try.underlying9 rfl (ev_on hLo 4 rfl HS4.1 rfl (hb 4 (by rfl))))) ?_
    refine steps_cons (st_run 6 _ rfl rfl hLo rfl rfl (fun _ _ _ _ => rfl) (fun b G w hb ho => exec_nil rfl (ev_on hLo 0 rfl HS4.1 rfl (hb 0 (by rfl))))) ?_
    refine steps_cons (st_run 7 _ rfl rfl hLo rfl rfl (fun _ _ _ _ => rfl) (fun b G w hb ho => exec_field rfl (ev_on hLo 6 rfl HS4.1 rfl (hb 6 (by rfl))) (by kernel_rfl))) ?_
    refine steps_cons (st_put 0 _ rfl rfl rfl rfl (fun _ _ _ _ => rfl) rfl rfl rfl (by rfl) (fun b G w hb ho hr => exec_put1 hr (Nat.le_of_ble_eq_true rfl) (by kernel_rfl) rfl (ev_on hLo 7 rfl HS4.1 rfl (hb 7 (by rfl))) (ev_on hLo 5 rfl HS4.1 rfl (hb 5 (by rfl))))) ?_
    exact steps_nil
  clear hLo
  intro G a5 w5 hS hH
  have HS5 : Sl a5 20 [(0, .pointer (some ⟨g, 0, none⟩)), (2, .int .i64 (0)), (3, .int .i64 (0)), (7, .bool false), (11, .bool false)] := hS
  have HH5 : Held ⟨w, [g]⟩ w5 [⟨g, (), 6, upd (spC ⟨al, sy, false, acts + 1, inn - 1, keep⟩) 1 (.i .i64 (((al).size : Int))), 53⟩] := hH
  clear hS hH HS4 HH4
  refine then_ ?_
  refine wp_seq ?_
  have hLo : LOk [(0, 2, .val (.int .i64 (0)))] := lok (by rfl) (by rfl)
  refine plain_ (wE := ⟨w, [g]⟩) (sz := 20) (n := 1) [0] [(0, .val (.pointer (some ⟨g, 0, none⟩))), (3, .val (.int .i64 (0))), (7, .val (.bool false)), (11, .val (.bool false)), (2, .val (.int .i64 (0)))] [(0, 2, .val (.int .i64 (0)))] [⟨g, none, none, (), 6, upd (spC ⟨al, sy, false, acts + 1, inn - 1, keep⟩) 1 (.i .i64 (((al).size : Int))), upd (spC ⟨al, sy, false, acts + 1, inn - 1, keep⟩) 1 (.i .i64 (((al).size : Int))), 53⟩] rfl (by rfl) HH5 rfl rfl hLo rfl HS5 (slS 0 rfl rfl (slS 2 rfl rfl (slS 3 rfl rfl (slS 4 rfl rfl (slL 0 (d := 0) rfl (trivial)))))) ?_ ?_
  · show ∀ i ∈ [0], _
    refine steps_cons (st_run 0 _ rfl rfl hLo rfl rfl (fun _ _ _ _ => rfl) (fun b G w hb ho => exec_move (.inr rfl) (rfl))) ?_
    exact steps_nil
  clear hLo
  intro G a6 w6 hS hH
  have HS6 : Sl a6 20 [(0, .pointer (some ⟨g, 0, none⟩)), (3, .int .i64 (0)), (7, .bool false), (11, .bool false), (2, .int .i64 (0))] := hS
  have HH6 : Held ⟨w, [g]⟩ w6 [⟨g, (), 6, upd (spC ⟨al, sy, false, acts + 1, inn - 1, keep⟩) 1 (.i .i64 (((al).size : Int))), 53⟩] := hH
  clear hS hH HS5 HH5
  refine then_ ?_
  refine wp_ret ?_
  repeat (first | refine then_ret ?_ | refine inBlock_ret' ?_)
  exact b_tmp rfl HS6.2.1 (HS6.get 4 rfl) ⟨rfl, Row.norm (HH6.row 0 rfl) (six ⟨rfl, rfl, rfl, rfl, rfl, rfl⟩), HH6.1⟩
theorem new_calls {w : World} {b : ByteArray} (hb : b.size ≤ 4194304) : Calls Try.prog 9 #[.string b] w fun e w' => ∃ g, e = .returned (.pointer (some ⟨g, 0, none⟩)) ∧ w.heap.size ≤ g ∧ Row w' g () 6 (spC ⟨b, b.size, false, 0, 0, 0⟩) 53 ∧ Below w.heap.size w w' := by
  refine enter_ 13 Try.func9 rfl rfl (fun a0 hS => ?_)
  have HS0 : Sl a0 13 [(0, .string (b))] := hS
  have HH0 : Held ⟨w, []⟩ w [] := Held.first w []
  clear hS
  refine wp_seq ?_
  have hLo : LOk [(0, 2, .val (.pointer none))] := lok (by rfl) (by rfl)
  refine plain_ (wE := ⟨w, []⟩) (sz := 13) (n := 1) [0] [(0, .val (.string (b))), (2, .val (.pointer none))] [(0, 2, .val (.pointer none))] [] rfl (by rfl) HH0 rfl rfl hLo rfl HS0 (slS 0 rfl rfl (slL 0 (d := 0) rfl (trivial))) ?_ ?_
  · show ∀ i ∈ [0], _
    refine steps_cons (st_run 0 _ rfl rfl hLo rfl rfl (fun _ _ _ _ => rfl) (fun b G w hb ho => exec_move (.inr rfl) (rfl))) ?_
    exact steps_nil
  clear hLo
  intro G a1 w1 hS hH
  have HS1 : Sl a1 13 [(0, .string (b)), (2, .pointer none)] := hS
  have HH1 : Held ⟨w, []⟩ w1 [] := hH
  clear hS hH HS0 HH0
  refine then_ ?_
  refine wp_seq ?_
  have hLo : LOk [(0, 3, .val (.string (b))), (1, 4, .val (.string (b))), (2, 5, .val (.int .i64 (((b).size : Int)))), (3, 6, .val (.int .i64 (((b.size : Nat) : Int)))), (4, 7, .val (.string ((b).extract 0 (b.size)))), (5, 0, .val (.string ((b).extract 0 (b.size))))] := lok (by rfl) (by rfl)
  refine plain_ (wE := ⟨w, []⟩) (sz := 13) (n := 6) [0, 1, 3, 7, 15, 31] [(2, .val (.pointer none)), (0, .val (.string ((b).extract 0 (b.size))))] [(0, 3, .val (.string (b))), (1, 4, .val (.string (b))), (2, 5, .val (.int .i64 (((b).size : Int)))), (3, 6, .val (.int .i64 (((b.size : Nat) : Int)))), (4, 7, .val (.string ((b).extract 0 (b.size)))), (5, 0, .val (.string ((b).extract 0 (b.size))))] [] rfl (by rfl) HH1 rfl rfl hLo rfl HS1 (slS 1 rfl rfl (slL 5 (d := 5) rfl (trivial))) ?_ ?_
  · show ∀ i ∈ [0, 1, 2, 3, 4, 5], _
    refine steps_cons (st_run 0 _ rfl rfl hLo rfl rfl (fun _ _ _ _ => rfl) (fun b G w hb ho => exec_move (.inl rfl) (ev_pre hLo 5 rfl (ho 5 (by rfl)) (HS1.get 0 rfl)))) ?_
    refine steps_cons (st_run 1 _ rfl rfl hLo rfl rfl (fun _ _ _ _ => rfl) (fun b G w hb ho => exec_move (.inl rfl) (ev_pre hLo 5 rfl (ho 5 (by rfl)) (HS1.get 0 rfl)))) ?_
    refine steps_cons (st_run 2 _ rfl rfl hLo rfl rfl (fun _ _ _ _ => rfl) (fun b G w hb ho => exec_lenS Try.underlying9 rfl (ev_on hLo 1 rfl HS1.1 rfl (hb 1 (by rfl))))) ?_
    refine steps_cons (st_run 3 _ rfl rfl hLo rfl rfl (fun _ _ _ _ => rfl) (fun b G w hb ho => exec_min (mn_big (by omega)) rfl (ev_on hLo 2 rfl HS1.1 rfl (hb 2 (by rfl))) (rfl))) ?_
    refine steps_cons (st_run 4 _ rfl rfl hLo rfl rfl (fun _ _ _ _ => rfl) (fun b G w hb ho => exec_slice rfl (ev_on hLo 0 rfl HS1.1 rfl (hb 0 (by rfl))) rfl (congrArg some (ev_on hLo 3 rfl HS1.1 rfl (hb 3 (by rfl)))) rfl (rs_hi Try.underlying9 ((Nat.le_refl _)) _))) ?_
    refine steps_cons (st_run 5 _ rfl rfl hLo rfl rfl (fun _ _ _ _ => rfl) (fun b G w hb ho => exec_move (.inr rfl) (ev_on hLo 4 rfl HS1.1 rfl (hb 4 (by rfl))))) ?_
    exact steps_nil
  clear hLo
  intro G a2 w2 hS hH
  have HS2 : Sl a2 13 [(2, .pointer none), (0, .string ((b).extract 0 (b.size)))] := hS
  have HH2 : Held ⟨w, []⟩ w2 [] := hH
  clear hS hH HS1 HH1
  refine then_ ?_
  refine wp_seq ?_
  refine whole_ ?_
  have hLo : LOk [(0, 8, .val (.string ((b).extract 0 (b.size)))), (1, 9, .val (.string ((b).extract 0 (b.size)))), (2, 10, .val (.int .i64 ((((b).extract 0 (b.size)).size : Int)))), (3, 11, .val (.agg (FR () 6 (lsc [.s ((b).extract 0 (b.size)), .i .i64 ((((b).extract 0 (b.size)).size : Int)), .b (false), .i .i64 (0), .i .i64 (0), .i .i64 (0)])))), (4, 12, .new 4 (fun g => .pointer (some ⟨g, 0, none⟩)))] := lok (by rfl) (by rfl)
  refine part_ (wE := ⟨w, []⟩) (sz := 13) (n := 6) 0 5 [0, 1, 3, 7, 15, 31] [(2, .val (.pointer none)), (0, .val (.string ((b).extract 0 (b.size)))), (12, .new 4 (fun g => .pointer (some ⟨g, 0, none⟩)))] [(0, 8, .val (.string ((b).extract 0 (b.size)))), (1, 9, .val (.string ((b).extract 0 (b.size)))), (2, 10, .val (.int .i64 ((((b).extract 0 (b.size)).size : Int)))), (3, 11, .val (.agg (FR () 6 (lsc [.s ((b).extract 0 (b.size)), .i .i64 ((((b).extract 0 (b.size)).size : Int)), .b (false), .i .i64 (0), .i .i64 (0), .i .i64 (0)])))), (4, 12, .new 4 (fun g => .pointer (some ⟨g, 0, none⟩)))] [⟨0, some 4, none, (), 6, lsc [.s ((b).extract 0 (b.size)), .i .i64 ((((b).extract 0 (b.size)).size : Int)), .b (false), .i .i64 (0), .i .i64 (0), .i .i64 (0)], lsc [.s ((b).extract 0 (b.size)), .i .i64 ((((b).extract 0 (b.size)).size : Int)), .b (false), .i .i64 (0), .i .i64 (0), .i .i64 (0)], 53⟩] rfl rfl (by rfl) HH2 rfl rfl hLo rfl HS2 (slS 0 rfl rfl (slS 1 rfl rfl (slL 4 (d := 4) rfl (trivial)))) ?_ ?_
  · show ∀ i ∈ [0, 1, 2, 3, 4], _
    refine steps_cons (st_run 0 _ rfl rfl hLo rfl rfl (fun _ _ _ _ => rfl) (fun b G w hb ho => exec_move (.inl rfl) (ev_off rfl (HS2.get 1 rfl)))) ?_
    refine steps_cons (st_run 1 _ rfl rfl hLo rfl rfl (fun _ _ _ _ => rfl) (fun b G w hb ho => exec_move (.inl rfl) (ev_off rfl (HS2.get 1 rfl)))) ?_
    refine steps_cons (st_run 2 _ rfl rfl hLo rfl rfl (fun _ _ _ _ => rfl) (fun b G w hb ho => exec_lenS Try.underlying9 rfl (ev_on hLo 1 rfl HS2.1 rfl (hb 1 (by rfl))))) ?_
    refine steps_cons (st_run 3 _ rfl rfl hLo rfl rfl (fun _ _ _ _ => rfl) (fun b G w hb ho => exec_build rfl (parts2 (ev_on hLo 0 rfl HS2.1 rfl (hb 0 (by rfl))) (ev_on hLo 2 rfl HS2.1 rfl (hb 2 (by rfl)))) (by kernel_rfl))) ?_
    refine steps_cons (st_alloc 4 0 () 6 53 none _ _ rfl rfl (fun _ _ _ _ => rfl) rfl hLo rfl rfl rfl rfl (by rfl) (fun b G w hb ho => exec_box rfl (ev_on hLo 3 rfl HS2.1 rfl (hb 3 (by rfl))) (by kernel_rfl))) ?_
    exact steps_nil
  clear hLo
  intro G a3 w3 hS hH
  have HS3 : Sl a3 13 [(2, .pointer none), (0, .string ((b).extract 0 (b.size))), (12, .pointer (some ⟨(G 4), 0, none⟩))] := hS
  have HH3 : Held ⟨w, []⟩ w3 [⟨(G 4), (), 6, lsc [.s ((b).extract 0 (b.size)), .i .i64 ((((b).extract 0 (b.size)).size : Int)), .b (false), .i .i64 (0), .i .i64 (0), .i .i64 (0)], 53⟩] := hH
  clear hS hH HS2 HH2
  generalize G 4 = g3_4 at HS3 HH3
  have hLo : LOk [(5, 2, .val (.pointer (some ⟨g3_4, 0, none⟩)))] := lok (by rfl) (by rfl)
  refine part_ (wE := ⟨w, []⟩) (sz := 13) (n := 6) 5 6 [0, 1, 3, 7, 15, 31] [(0, .val (.string ((b).extract 0 (b.size)))), (2, .val (.pointer (some ⟨g3_4, 0, none⟩)))] [(5, 2, .val (.pointer (some ⟨g3_4, 0, none⟩)))] [⟨g3_4, none, none, (), 6, lsc [.s ((b).extract 0 (b.size)), .i .i64 ((((b).extract 0 (b.size)).size : Int)), .b (false), .i .i64 (0), .i .i64 (0), .i .i64 (0)], lsc [.s ((b).extract 0 (b.size)), .i .i64 ((((b).extract 0 (b.size)).size : Int)), .b (false), .i .i64 (0), .i .i64 (0), .i .i64 (0)], 53⟩] rfl rfl (by rfl) HH3 rfl rfl hLo rfl HS3 (slS 1 rfl rfl (slL 0 (d := 5) rfl (trivial))) ?_ ?_
  · show ∀ i ∈ [5], _
    refine steps_cons (st_run 0 _ rfl rfl hLo rfl rfl (fun _ _ _ _ => rfl) (fun b G w hb ho => exec_move (.inr rfl) (ev_off rfl (HS3.get 2 rfl)))) ?_
    exact steps_nil
  clear hLo
  intro G a4 w4 hS hH
  have HS4 : Sl a4 13 [(0, .string ((b).extract 0 (b.size))), (2, .pointer (some ⟨g3_4, 0, none⟩))] := hS
  have HH4 : Held ⟨w, []⟩ w4 [⟨g3_4, (), 6, lsc [.s ((b).extract 0 (b.size)), .i .i64 ((((b).extract 0 (b.size)).size : Int)), .b (false), .i .i64 (0), .i .i64 (0), .i .i64 (0)], 53⟩] := hH
  clear hS hH HS3 HH3
  refine end_ rfl ?_
  refine then_ ?_
  refine wp_ret ?_
  repeat (first | refine then_ret ?_ | refine inBlock_ret' ?_)
  exact b_tmp rfl HS4.2.1 (HS4.get 1 rfl) ⟨_, rfl, (Held.newrow HH4 0 rfl).1, Row.norm (Held.newrow HH4 0 rfl).2 (six (by rw [ex_all]; exact ⟨rfl, rfl, rfl, rfl, rfl, rfl⟩)), HH4.1.below⟩
end Go.Proofs.Ytdleomeiojlooaa.P
end

section
namespace Go.Proofs.Ytdleomeiojlooaa.P
set_option linter.unusedVariables false
set_option linter.unusedSimpArgs false
open Go.RowKit Go.ChangeShapes Go.WideShapes Go.Proofs.YtdleomeiojlooaaW.PrintWords Go.Proofs.YtdleomeiojlooaaW.PrintLast Go.Proofs.YtdleomeiojlooaaW.PrintMore Go.Proofs.Ytdleomeiojlooaa.L
theorem lines_make2 (s : ByteArray) (w : World) : Calls Try.prog 31 #[.string s] w fun e w' => (∃ b, e = .returned (.func (.func 41) #[] #[.pointer (some ⟨b, 0, none⟩)]) ∧ Row w' b () 1 (lsc [.s s]) 9 ∧ w.heap.size ≤ b ∧ b < w'.heap.size) ∧ Below w.heap.size w w' :=
  (lines_make s w).mono fun e w' ⟨he, hw⟩ => by
    subst hw
    exact ⟨⟨w.heap.size, he, World.alloc_heap_new w _, Nat.le_refl _, by simp⟩, (Below.refl _ w).alloc (Nat.le_refl _) _⟩
theorem end_sum {n : Nat} (h : n ≤ 1099511627776) : IntKind.i64.wrap ((n : Int) - 1 + 1) = (n : Int) := (congrArg _ (by omega)).trans (w_int (z := (n : Int)) (by omega) (by omega))
theorem cat_mem {x : ByteArray} : ∀ {ls : List ByteArray}, x ∈ ls → x.size < (cat ls).size
  | y :: r, h => by
    rw [cat_size]
    rcases List.mem_cons.1 h with rfl | h
    · omega
    · have := cat_mem h; omega
theorem idx_of {w W6 WL : World} {g r2 r3 ob b : Nat} {f1 f2 f3 f4 : Nat → SC} {n1 n2 n3 n4 : Nat} {t1 t2 t3 t4 : TypeId} (hH : Held ⟨w, [g]⟩ W6 [⟨g, (), n1, f1, t1⟩, ⟨r2, (), n2, f2, t2⟩, ⟨r3, (), n3, f3, t3⟩, ⟨ob, (), n4, f4, t4⟩]) (hg : g < w.heap.size) (hb : W6.heap.size ≤ b) (hl : b < WL.heap.size) : Idx w g r2 r3 ob b WL.heap.size := by
  have hs := hH.1.size
  have nd := hH.2.2
  simp only [List.map_cons, List.map_nil, List.nodup_cons, List.mem_cons, List.mem_nil_iff, or_false, not_or] at nd
  obtain ⟨⟨a1, a2, a3⟩, ⟨b1, b2⟩, c1, _⟩ := nd
  have l2 := (hH.row 1 rfl).lt
  have l3 := (hH.row 2 rfl).lt
  have lo := (hH.row 3 rfl).lt
  have fr : ∀ z, (⟨w, [g]⟩ : WX).fresh z → g ≠ z → w.heap.size ≤ z := fun z hz hne => by
    rcases hz with h | h
    · exact h
    · rw [List.mem_singleton] at h; exact absurd h.symm hne
  have g2 := fr r2 (hH.2.1 ⟨r2, (), n2, f2, t2⟩ (by simp)).1 a1
  have g3 := fr r3 (hH.2.1 ⟨r3, (), n3, f3, t3⟩ (by simp)).1 a2
  have go := fr ob (hH.2.1 ⟨ob, (), n4, f4, t4⟩ (by simp)).1 a3
  have l2' : r2 < W6.heap.size := l2
  have l3' : r3 < W6.heap.size := l3
  have lo' : ob < W6.heap.size := lo
  have hs' : w.heap.size ≤ W6.heap.size := hs
  exact ⟨hg, g2, g3, go, by omega, b1, b2, fun e => c1 e, by omega, by omega, by omega, hl⟩
theorem held4 {W : World} {g r2 r3 ob : Nat} {f1 f2 f3 f4 : Nat → SC} {n1 n2 n3 n4 : Nat} {t1 t2 t3 t4 : TypeId} (h1 : Row W g () n1 f1 t1) (h2 : Row W r2 () n2 f2 t2) (h3 : Row W r3 () n3 f3 t3) (h4 : Row W ob () n4 f4 t4) (nd : [g, r2, r3, ob].Nodup) : Held ⟨W, [g, r2, r3, ob]⟩ W [⟨g, (), n1, f1, t1⟩, ⟨r2, (), n2, f2, t2⟩, ⟨r3, (), n3, f3, t3⟩, ⟨ob, (), n4, f4, t4⟩] :=
  ⟨Fr.refl _ _, fun r hr => by
    simp only [List.mem_cons, List.mem_nil_iff, or_false] at hr
    rcases hr with rfl | rfl | rfl | rfl
    · exact ⟨.inr (by simp), h1⟩
    · exact ⟨.inr (by simp), h2⟩
    · exact ⟨.inr (by simp), h3⟩
    · exact ⟨.inr (by simp), h4⟩, nd⟩
theorem Idx.nd {w : World} {g r2 r3 ob b B : Nat} (ix : Idx w g r2 r3 ob b B) : [g, r2, r3, ob].Nodup := by
  have a1 := ix.p_g; have a2 := ix.p_r2; have a3 := ix.p_r3; have a4 := ix.p_ob; have a5 := ix.p_n23; have a6 := ix.p_n2o; have a7 := ix.p_n3o
  simp only [List.nodup_cons, List.mem_cons, List.mem_nil_iff, or_false, not_or, List.nodup_nil, and_true, not_false_iff]
  omega
theorem min_nat (a b : Nat) : (if (b : Int) < (a : Int) then (b : Int) else (a : Int)) = ((min a b : Nat) : Int) := by split <;> omega
def OpenPost (w : World) (g : Nat) (al : ByteArray) (sy acts inn : Nat) (keep : Int) (ls : List ByteArray) (e : Ending) (w' : World) : Prop := match recs ls with
  | some rs => ∃ v, e = .returned (.tuple #[v, .int .i64 0]) ∧ Kd.R Kd.string 9 w' w.heap.size (fun _ => True) v rs ∧ Row w' g () 6 (spC ⟨cat ls, min sy (cat ls).size, false, acts, inn, keep⟩) TSp ∧ Fr ⟨w, [g]⟩ w'
  | none => e = .returned (.tuple #[.slice none 0 0, .int .i64 4]) ∧ Row w' g () 6 (spC ⟨al, sy, false, acts, inn, keep⟩) TSp ∧ Fr ⟨w, [g]⟩ w'
section
variable {w : World} {g r2 r3 ob b B D : Nat} {al : ByteArray} {sy acts inn : Nat} {keep : Int} {ls : List ByteArray}
theorem fin_put {e : WX} {W : World} (h : Fr e W) (hD : e.w.heap.size ≤ D) (o : Obj) : Fr e (W.putObj D o) := h.grown (grownBy_putObj' W D o) (fun k hk => by cases hk; exact .inl hD)
theorem open_bad (ix : Idx w g r2 r3 ob b B) {W : World} (hX : Lx w g r2 r3 (spC ⟨al, sy, false, acts, inn, keep⟩) W) (hn : recs ls = none) (hD : B ≤ D) (hK : W.heap[D]? = some (.deferred (some []))) : OpenPost w g al sy acts inn keep ls (.returned (.tuple #[.slice none 0 0, .int .i64 4])) (W.putObj D (.deferred none)) := by
  unfold OpenPost
  rw [hn]
  have h1 := ix.p_b
  have h2 := ix.p_lt
  exact ⟨rfl, hX.p_g.put _ hK rfl, fin_put hX.p_fr (by show w.heap.size ≤ D; omega) _⟩
theorem open_good (ix : Idx w g r2 r3 ob b B) {W wN : World} {rs : List ByteArray} {oa : Option Addr} {c : Nat} {sc : Nat → SC} (hL : Lp w g r2 r3 ob b sc W rs oa c) (hn : recs ls = some rs) (hD : B ≤ D) (hK : wN.heap[D]? = some (.deferred (some []))) (hF : Fr ⟨W, [g, r2, r3, ob]⟩ wN)
    (hg : Row wN g () 6 (spC ⟨cat ls, min sy (cat ls).size, false, acts, inn, keep⟩) TSp) : OpenPost w g al sy acts inn keep ls (.returned (.tuple #[.slice oa rs.length c, .int .i64 0])) (wN.putObj D (.deferred none)) := by
  unfold OpenPost
  rw [hn]
  have h1 := ix.p_b
  have h2 := ix.p_lt
  have h3 := ix.p_r2
  have h4 := ix.p_r3
  have h5 := ix.p_ob
  have hF2 : Fr ⟨w, [g]⟩ wN := hL.p_fr.join hF fun z hz => by
    simp only [List.mem_cons, List.mem_nil_iff, or_false] at hz
    rcases hz with rfl | rfl | rfl | rfl
    · exact .inr (by simp)
    · exact .inl h3
    · exact .inl h4
    · exact .inl h5
  refine ⟨_, rfl, Kd.R_of_own ?_ (fun _ _ => trivial), hg.put _ hK rfl, fin_put hF2 (by show w.heap.size ≤ D; omega) _⟩
  have ho := own_move hL.p_out.own (w1 := wN) fun k hk => hF.block k (hL.p_out.own.lt k hk).2 fun hm => hL.p_out.apart k (by
    simp only [List.mem_cons, List.mem_nil_iff, or_false] at hm ⊢
    rcases hm with h | h | h | h <;> simp [h]) hk
  exact ownsRow_putObj ho _ hK rfl
end
theorem nodefer {W : World} {k n D : Nat} {f : Nat → SC} {t : TypeId} {o : List Deferred} (h : Row W k () n f t) (hK : W.heap[D]? = some (.deferred (some o))) : D ≠ k := by
  rintro rfl
  have h' : W.heap[D]? = some (.cells (FR () n f) t (0, 0)) := h
  rw [h'] at hK
  cases hK
theorem infoStr : (Try.prog.info? 9).map (fun i => (i.zero, i.size, i.bytes)) = some (some (.string ByteArray.empty), 1, 16) := by kernel_rfl
set_option maxHeartbeats 4000000 in
theorem open_calls {w : World} {g : Nat} {al : ByteArray} {sy : Nat} {acts inn : Nat} {keep : Int} {ls : List ByteArray} {tl : ByteArray} (hC : Cuts al ls tl) (hal : al.size ≤ 4194304) (hr : Row w g () 6 (spC ⟨al, sy, false, acts, inn, keep⟩) 53) : Calls Try.prog 10 #[.pointer (some ⟨g, 0, none⟩)] w (OpenPost w g al sy acts inn keep ls) := by
  have he : al.extract 0 (cat ls).size = cat ls := by rw [hC.eq]; exact ext_left _ _
  have hle : (cat ls).size ≤ al.size := by rw [hC.eq, ByteArray.size_append]; omega
  refine enterM_ 5 61 Try.func10 rfl rfl (fun a0 hS => ?_)
  have HS0 : Sl a0 61 [(0, .pointer (some ⟨g, 0, none⟩))] := hS
  have HH0 : Held ⟨w, [g]⟩ w [⟨g, (), 6, spC ⟨al, sy, false, acts, inn, keep⟩, 53⟩] := Held.one hr
  clear hS
  refine wp_seq ?_
  have hLo : LOk [(0, 2, .new 0 (fun g => .pointer (some ⟨g, 0, none⟩))), (1, 3, .new 1 (fun g => .pointer (some ⟨g, 0, none⟩)))] := lok (by rfl) (by rfl)
  refine plain_ (wE := ⟨w, [g]⟩) (sz := 61) (n := 2) [0, 1] [(0, .val (.pointer (some ⟨g, 0, none⟩))), (2, .new 0 (fun g => .pointer (some ⟨g, 0, none⟩))), (3, .new 1 (fun g => .pointer (some ⟨g, 0, none⟩)))] [(0, 2, .new 0 (fun g => .pointer (some ⟨g, 0, none⟩))), (1, 3, .new 1 (fun g => .pointer (some ⟨g, 0, none⟩)))] [⟨g, none, none, (), 6, spC ⟨al, sy, false, acts, inn, keep⟩, spC ⟨al, sy, false, acts, inn, keep⟩, 53⟩, ⟨0, some 0, none, (), 1, lsc [.sl (none) (0) (0)], lsc [.sl (none) (0) (0)], 25⟩, ⟨0, some 1, none, (), 1, lsc [.i .i64 (0)], lsc [.i .i64 (0)], 26⟩] rfl (by rfl) HH0 rfl rfl hLo rfl HS0 (slS 0 rfl rfl (slL 0 (d := 0) rfl (slL 1 (d := 1) rfl (trivial)))) ?_ ?_
  · show ∀ i ∈ [0, 1], _
    refine steps_cons (st_alloc 0 1 () 1 25 none _ _ rfl rfl (fun _ _ _ _ => rfl) rfl hLo rfl rfl rfl rfl (by rfl) (fun b G w _ _ => by kernel_rfl)) ?_
    refine steps_cons (st_alloc 1 2 () 1 26 none _ _ rfl rfl (fun _ _ _ _ => rfl) rfl hLo rfl rfl rfl rfl (by rfl) (fun b G w _ _ => by kernel_rfl)) ?_
    exact steps_nil
  clear hLo
  intro G a1 w1 hS hH
  have HS1 : Sl a1 61 [(0, .pointer (some ⟨g, 0, none⟩)), (2, .pointer (some ⟨(G 0), 0, none⟩)), (3, .pointer (some ⟨(G 1), 0, none⟩))] := hS
  have HH1 : Held ⟨w, [g]⟩ w1 [⟨g, (), 6, spC ⟨al, sy, false, acts, inn, keep⟩, 53⟩, ⟨(G 0), (), 1, lsc [.sl (none) (0) (0)], 25⟩, ⟨(G 1), (), 1, lsc [.i .i64 (0)], 26⟩] := hH
  clear hS hH HS0 HH0
  generalize G 0 = g1_0 at HS1 HH1
  generalize G 1 = g1_1 at HS1 HH1
  refine then_ ?_
  refine wp_seq ?_
  refine wp_seq ?_
  have hLo : LOk [(0, 10, .val (.pointer (some ⟨g, 0, none⟩))), (1, 11, .val (.int .i64 (0))), (2, 4, .val (.int .i64 (0)))] := lok (by rfl) (by rfl)
  refine plain_ (wE := ⟨w, [g]⟩) (sz := 61) (n := 3) [0, 1, 3] [(0, .val (.pointer (some ⟨g, 0, none⟩))), (2, .val (.pointer (some ⟨g1_0, 0, none⟩))), (3, .val (.pointer (some ⟨g1_1, 0, none⟩))), (4, .val (.int .i64 (0)))] [(0, 10, .val (.pointer (some ⟨g, 0, none⟩))), (1, 11, .val (.int .i64 (0))), (2, 4, .val (.int .i64 (0)))] [⟨g, none, none, (), 6, spC ⟨al, sy, false, acts, inn, keep⟩, spC ⟨al, sy, false, acts, inn, keep⟩, 53⟩, ⟨g1_0, none, none, (), 1, lsc [.sl (none) (0) (0)], lsc [.sl (none) (0) (0)], 25⟩, ⟨g1_1, none, none, (), 1, lsc [.i .i64 (0)], lsc [.i .i64 (0)], 26⟩] rfl (by rfl) HH1 rfl rfl hLo rfl HS1 (slS 0 rfl rfl (slS 1 rfl rfl (slS 2 rfl rfl (slL 2 (d := 2) rfl (trivial))))) ?_ ?_
  · show ∀ i ∈ [0, 1, 2], _
    refine steps_cons (st_run 0 _ rfl rfl hLo rfl rfl (fun _ _ _ _ => rfl) (fun b G w hb ho => exec_move (.inl rfl) (ev_off rfl (HS1.get 0 rfl)))) ?_
    refine steps_cons (st_callRB 1 0 _ _ (fun G => #[.pointer (some ⟨g, 0, none⟩)]) rfl rfl rfl rfl (fun _ _ _ _ => rfl) hLo rfl rfl (by rfl) (by rfl) Try.func29 rfl rfl (fun b G hb ho => args1 (ev_on hLo 0 rfl HS1.1 rfl (hb 0 (by rfl)))) (fun G w hw hr => ready_on hr)) ?_
    refine steps_cons (st_run 2 _ rfl rfl hLo rfl rfl (fun _ _ _ _ => rfl) (fun b G w hb ho => exec_move (.inr rfl) (ev_on hLo 1 rfl HS1.1 rfl (hb 1 (by rfl))))) ?_
    exact steps_nil
  clear hLo
  intro G a2 w2 hS hH
  have HS2 : Sl a2 61 [(0, .pointer (some ⟨g, 0, none⟩)), (2, .pointer (some ⟨g1_0, 0, none⟩)), (3, .pointer (some ⟨g1_1, 0, none⟩)), (4, .int .i64 (0))] := hS
  have HH2 : Held ⟨w, [g]⟩ w2 [⟨g, (), 6, spC ⟨al, sy, false, acts, inn, keep⟩, 53⟩, ⟨g1_0, (), 1, lsc [.sl (none) (0) (0)], 25⟩, ⟨g1_1, (), 1, lsc [.i .i64 (0)], 26⟩] := hH
  clear hS hH HS1 HH1
  refine then_ ?_
  refine wp_seq ?_
  have hLo : LOk [(0, 12, .val (.int .i64 (0))), (1, 13, .val (.bool false))] := lok (by rfl) (by rfl)
  refine plain_ (wE := ⟨w, [g]⟩) (sz := 61) (n := 2) [0, 1] [(0, .val (.pointer (some ⟨g, 0, none⟩))), (2, .val (.pointer (some ⟨g1_0, 0, none⟩))), (3, .val (.pointer (some ⟨g1_1, 0, none⟩))), (4, .val (.int .i64 (0))), (13, .val (.bool false))] [(0, 12, .val (.int .i64 (0))), (1, 13, .val (.bool false))] [⟨g, none, none, (), 6, spC ⟨al, sy, false, acts, inn, keep⟩, spC ⟨al, sy, false, acts, inn, keep⟩, 53⟩, ⟨g1_0, none, none, (), 1, lsc [.sl (none) (0) (0)], lsc [.sl (none) (0) (0)], 25⟩, ⟨g1_1, none, none, (), 1, lsc [.i .i64 (0)], lsc [.i .i64 (0)], 26⟩] rfl (by rfl) HH2 rfl rfl hLo rfl HS2 (slS 0 rfl rfl (slS 1 rfl rfl (slS 2 rfl rfl (slS 3 rfl rfl (slL 1 (d := 1) rfl (trivial)))))) ?_ ?_
  · show ∀ i ∈ [0, 1], _
    refine steps_cons (st_run 0 _ rfl rfl hLo rfl rfl (fun _ _ _ _ => rfl) (fun b G w hb ho => exec_move (.inl rfl) (ev_off rfl (HS2.get 3 rfl)))) ?_
    refine steps_cons (st_run 1 _ rfl rfl hLo rfl rfl (fun _ _ _ _ => rfl) (fun b G w hb ho => exec_bin rfl (ev_on hLo 0 rfl HS2.1 rfl (hb 0 (by rfl))) (rfl) (rb_neq (rfl) _ _ _))) ?_
    exact steps_nil
  clear hLo
  intro G a3 w3 hS hH
  have HS3 : Sl a3 61 [(0, .pointer (some ⟨g, 0, none⟩)), (2, .pointer (some ⟨g1_0, 0, none⟩)), (3, .pointer (some ⟨g1_1, 0, none⟩)), (4, .int .i64 (0)), (13, .bool false)] := hS
  have HH3 : Held ⟨w, [g]⟩ w3 [⟨g, (), 6, spC ⟨al, sy, false, acts, inn, keep⟩, 53⟩, ⟨g1_0, (), 1, lsc [.sl (none) (0) (0)], 25⟩, ⟨g1_1, (), 1, lsc [.i .i64 (0)], 26⟩] := hH
  clear hS hH HS2 HH2
  refine then_ ?_
  refine wp_cond_false (HS3.get 4 rfl) ?_
  refine wp_skip ?_
  refine then_ ?_
  refine wp_seq ?_
  have hLo : LOk [(0, 15, .val (.pointer (some ⟨g, 0, none⟩))), (1, 16, .val (.pointer (some ⟨g, 0, none⟩))), (2, 17, .val (.pointer (some ⟨g, 0, none⟩))), (3, 18, .val (.string (al))), (4, 19, .val (.int .i64 (((cat ls).size : Int) - 1))), (5, 20, .val (.int .i64 (((cat ls).size : Int)))), (6, 5, .val (.int .i64 (((cat ls).size : Int))))] := lok (by rfl) (by rfl)
  refine plain_ (wE := ⟨w, [g]⟩) (sz := 61) (n := 7) [0, 1, 3, 7, 15, 31, 63] [(0, .val (.pointer (some ⟨g, 0, none⟩))), (2, .val (.pointer (some ⟨g1_0, 0, none⟩))), (3, .val (.pointer (some ⟨g1_1, 0, none⟩))), (4, .val (.int .i64 (0))), (13, .val (.bool false)), (5, .val (.int .i64 (((cat ls).size : Int))))] [(0, 15, .val (.pointer (some ⟨g, 0, none⟩))), (1, 16, .val (.pointer (some ⟨g, 0, none⟩))), (2, 17, .val (.pointer (some ⟨g, 0, none⟩))), (3, 18, .val (.string (al))), (4, 19, .val (.int .i64 (((cat ls).size : Int) - 1))), (5, 20, .val (.int .i64 (((cat ls).size : Int)))), (6, 5, .val (.int .i64 (((cat ls).size : Int))))] [⟨g, none, none, (), 6, spC ⟨al, sy, false, acts, inn, keep⟩, spC ⟨al, sy, false, acts, inn, keep⟩, 53⟩, ⟨g1_0, none, none, (), 1, lsc [.sl (none) (0) (0)], lsc [.sl (none) (0) (0)], 25⟩, ⟨g1_1, none, none, (), 1, lsc [.i .i64 (0)], lsc [.i .i64 (0)], 26⟩] rfl (by rfl) HH3 rfl rfl hLo rfl HS3 (slS 0 rfl rfl (slS 1 rfl rfl (slS 2 rfl rfl (slS 3 rfl rfl (slS 4 rfl rfl (slL 6 (d := 6) rfl (trivial))))))) ?_ ?_
  · show ∀ i ∈ [0, 1, 2, 3, 4, 5, 6], _
    refine steps_cons (st_run 0 _ rfl rfl hLo rfl rfl (fun _ _ _ _ => rfl) (fun b G w hb ho => exec_move (.inl rfl) (ev_off rfl (HS3.get 0 rfl)))) ?_
    refine steps_cons (st_run 1 _ rfl rfl hLo rfl rfl (fun _ _ _ _ => rfl) (fun b G w hb ho => exec_nil rfl (ev_on hLo 0 rfl HS3.1 rfl (hb 0 (by rfl))))) ?_
    refine steps_cons (st_run 2 _ rfl rfl hLo rfl rfl (fun _ _ _ _ => rfl) (fun b G w hb ho => exec_field rfl (ev_on hLo 1 rfl HS3.1 rfl (hb 1 (by rfl))) (by kernel_rfl))) ?_
    refine steps_cons (st_read 3 0 _ _ rfl rfl rfl hLo rfl rfl (fun _ _ _ _ => rfl) (by rfl) (by rfl) (fun b G w hb ho hr => exec_cell hr (Nat.le_of_ble_eq_true rfl) Try.underlying9 rfl rfl (ev_on hLo 2 rfl HS3.1 rfl (hb 2 (by rfl))))) ?_
    refine steps_cons (st_call 4 _ #[.string (al), .int .u8 (10)] rfl rfl rfl (fun _ _ _ _ => rfl) hLo rfl rfl Try.func30 rfl rfl (fun b G hb ho => args2 (ev_on hLo 3 rfl HS3.1 rfl (hb 3 (by rfl))) (rfl)) (fun w hw => last_calls hC (by omega) _)) ?_
    refine steps_cons (st_run 5 _ rfl rfl hLo rfl rfl (fun _ _ _ _ => rfl) (fun b G w hb ho => exec_bin rfl (ev_on hLo 4 rfl HS3.1 rfl (hb 4 (by rfl))) (rfl) (rb_add (end_sum (by omega)) _ _ _))) ?_
    refine steps_cons (st_run 6 _ rfl rfl hLo rfl rfl (fun _ _ _ _ => rfl) (fun b G w hb ho => exec_move (.inr rfl) (ev_on hLo 5 rfl HS3.1 rfl (hb 5 (by rfl))))) ?_
    exact steps_nil
  clear hLo
  intro G a4 w4 hS hH
  have HS4 : Sl a4 61 [(0, .pointer (some ⟨g, 0, none⟩)), (2, .pointer (some ⟨g1_0, 0, none⟩)), (3, .pointer (some ⟨g1_1, 0, none⟩)), (4, .int .i64 (0)), (13, .bool false), (5, .int .i64 (((cat ls).size : Int)))] := hS
  have HH4 : Held ⟨w, [g]⟩ w4 [⟨g, (), 6, spC ⟨al, sy, false, acts, inn, keep⟩, 53⟩, ⟨g1_0, (), 1, lsc [.sl (none) (0) (0)], 25⟩, ⟨g1_1, (), 1, lsc [.i .i64 (0)], 26⟩] := hH
  clear hS hH HS3 HH3
  refine then_ ?_
  refine wp_seq ?_
  have hLo : LOk [(0, 6, .new 0 (fun g => .pointer (some ⟨g, 0, none⟩)))] := lok (by rfl) (by rfl)
  refine plain_ (wE := ⟨w, [g]⟩) (sz := 61) (n := 1) [0] [(0, .val (.pointer (some ⟨g, 0, none⟩))), (2, .val (.pointer (some ⟨g1_0, 0, none⟩))), (3, .val (.pointer (some ⟨g1_1, 0, none⟩))), (4, .val (.int .i64 (0))), (13, .val (.bool false)), (5, .val (.int .i64 (((cat ls).size : Int)))), (6, .new 0 (fun g => .pointer (some ⟨g, 0, none⟩)))] [(0, 6, .new 0 (fun g => .pointer (some ⟨g, 0, none⟩)))] [⟨g, none, none, (), 6, spC ⟨al, sy, false, acts, inn, keep⟩, spC ⟨al, sy, false, acts, inn, keep⟩, 53⟩, ⟨g1_0, none, none, (), 1, lsc [.sl (none) (0) (0)], lsc [.sl (none) (0) (0)], 25⟩, ⟨g1_1, none, none, (), 1, lsc [.i .i64 (0)], lsc [.i .i64 (0)], 26⟩, ⟨0, some 0, none, (), 1, lsc [.sl (none) (0) (0)], lsc [.sl (none) (0) (0)], 25⟩] rfl (by rfl) HH4 rfl rfl hLo rfl HS4 (slS 0 rfl rfl (slS 1 rfl rfl (slS 2 rfl rfl (slS 3 rfl rfl (slS 4 rfl rfl (slS 5 rfl rfl (slL 0 (d := 0) rfl (trivial)))))))) ?_ ?_
  · show ∀ i ∈ [0], _
    refine steps_cons (st_alloc 0 3 () 1 25 none _ _ rfl rfl (fun _ _ _ _ => rfl) rfl hLo rfl rfl rfl rfl (by rfl) (fun b G w _ _ => by kernel_rfl)) ?_
    exact steps_nil
  clear hLo
  intro G a5 w5 hS hH
  have HS5 : Sl a5 61 [(0, .pointer (some ⟨g, 0, none⟩)), (2, .pointer (some ⟨g1_0, 0, none⟩)), (3, .pointer (some ⟨g1_1, 0, none⟩)), (4, .int .i64 (0)), (13, .bool false), (5, .int .i64 (((cat ls).size : Int))), (6, .pointer (some ⟨(G 0), 0, none⟩))] := hS
  have HH5 : Held ⟨w, [g]⟩ w5 [⟨g, (), 6, spC ⟨al, sy, false, acts, inn, keep⟩, 53⟩, ⟨g1_0, (), 1, lsc [.sl (none) (0) (0)], 25⟩, ⟨g1_1, (), 1, lsc [.i .i64 (0)], 26⟩, ⟨(G 0), (), 1, lsc [.sl (none) (0) (0)], 25⟩] := hH
  clear hS hH HS4 HH4
  generalize G 0 = g5_0 at HS5 HH5
  refine then_ ?_
  refine wp_seq ?_
  refine wp_seq ?_
  refine whole_ ?_
  have hLo : LOk [(0, 21, .val (.pointer (some ⟨g, 0, none⟩))), (1, 22, .val (.pointer (some ⟨g, 0, none⟩))), (2, 23, .val (.pointer (some ⟨g, 0, none⟩))), (3, 24, .val (.string (al))), (4, 25, .val (.int .i64 (((cat ls).size : Int)))), (5, 26, .val (.string ((al).extract 0 ((cat ls).size))))] := lok (by rfl) (by rfl)
  refine part_ (wE := ⟨w, [g]⟩) (sz := 61) (n := 7) 0 6 [0, 1, 3, 7, 15, 31, 63] [(0, .val (.pointer (some ⟨g, 0, none⟩))), (2, .val (.pointer (some ⟨g1_0, 0, none⟩))), (3, .val (.pointer (some ⟨g1_1, 0, none⟩))), (4, .val (.int .i64 (0))), (13, .val (.bool false)), (5, .val (.int .i64 (((cat ls).size : Int)))), (6, .val (.pointer (some ⟨g5_0, 0, none⟩))), (25, .val (.int .i64 (((cat ls).size : Int)))), (26, .val (.string ((al).extract 0 ((cat ls).size))))] [(0, 21, .val (.pointer (some ⟨g, 0, none⟩))), (1, 22, .val (.pointer (some ⟨g, 0, none⟩))), (2, 23, .val (.pointer (some ⟨g, 0, none⟩))), (3, 24, .val (.string (al))), (4, 25, .val (.int .i64 (((cat ls).size : Int)))), (5, 26, .val (.string ((al).extract 0 ((cat ls).size))))] [⟨g, none, none, (), 6, spC ⟨al, sy, false, acts, inn, keep⟩, spC ⟨al, sy, false, acts, inn, keep⟩, 53⟩, ⟨g1_0, none, none, (), 1, lsc [.sl (none) (0) (0)], lsc [.sl (none) (0) (0)], 25⟩, ⟨g1_1, none, none, (), 1, lsc [.i .i64 (0)], lsc [.i .i64 (0)], 26⟩, ⟨g5_0, none, none, (), 1, lsc [.sl (none) (0) (0)], lsc [.sl (none) (0) (0)], 25⟩] rfl rfl (by rfl) HH5 rfl rfl hLo rfl HS5 (slS 0 rfl rfl (slS 1 rfl rfl (slS 2 rfl rfl (slS 3 rfl rfl (slS 4 rfl rfl (slS 5 rfl rfl (slS 6 rfl rfl (slL 4 (d := 4) rfl (slL 5 (d := 5) rfl (trivial)))))))))) ?_ ?_
  · show ∀ i ∈ [0, 1, 2, 3, 4, 5], _
    refine steps_cons (st_run 0 _ rfl rfl hLo rfl rfl (fun _ _ _ _ => rfl) (fun b G w hb ho => exec_move (.inl rfl) (ev_off rfl (HS5.get 0 rfl)))) ?_
    refine steps_cons (st_run 1 _ rfl rfl hLo rfl rfl (fun _ _ _ _ => rfl) (fun b G w hb ho => exec_nil rfl (ev_on hLo 0 rfl HS5.1 rfl (hb 0 (by rfl))))) ?_
    refine steps_cons (st_run 2 _ rfl rfl hLo rfl rfl (fun _ _ _ _ => rfl) (fun b G w hb ho => exec_field rfl (ev_on hLo 1 rfl HS5.1 rfl (hb 1 (by rfl))) (by kernel_rfl))) ?_
    refine steps_cons (st_read 3 0 _ _ rfl rfl rfl hLo rfl rfl (fun _ _ _ _ => rfl) (by rfl) (by rfl) (fun b G w hb ho hr => exec_cell hr (Nat.le_of_ble_eq_true rfl) Try.underlying9 rfl rfl (ev_on hLo 2 rfl HS5.1 rfl (hb 2 (by rfl))))) ?_
    refine steps_cons (st_run 4 _ rfl rfl hLo rfl rfl (fun _ _ _ _ => rfl) (fun b G w hb ho => exec_move (.inl rfl) (ev_off rfl (HS5.get 5 rfl)))) ?_
    refine steps_cons (st_run 5 _ rfl rfl hLo rfl rfl (fun _ _ _ _ => rfl) (fun b G w hb ho => exec_slice rfl (ev_on hLo 3 rfl HS5.1 rfl (hb 3 (by rfl))) rfl (congrArg some (ev_on hLo 4 rfl HS5.1 rfl (hb 4 (by rfl)))) rfl (rs_hi Try.underlying9 (hle) _))) ?_
    exact steps_nil
  clear hLo
  intro G a6 w6 hS hH
  have HS6 : Sl a6 61 [(0, .pointer (some ⟨g, 0, none⟩)), (2, .pointer (some ⟨g1_0, 0, none⟩)), (3, .pointer (some ⟨g1_1, 0, none⟩)), (4, .int .i64 (0)), (13, .bool false), (5, .int .i64 (((cat ls).size : Int))), (6, .pointer (some ⟨g5_0, 0, none⟩)), (25, .int .i64 (((cat ls).size : Int))), (26, .string ((al).extract 0 ((cat ls).size)))] := hS
  have HH6 : Held ⟨w, [g]⟩ w6 [⟨g, (), 6, spC ⟨al, sy, false, acts, inn, keep⟩, 53⟩, ⟨g1_0, (), 1, lsc [.sl (none) (0) (0)], 25⟩, ⟨g1_1, (), 1, lsc [.i .i64 (0)], 26⟩, ⟨g5_0, (), 1, lsc [.sl (none) (0) (0)], 25⟩] := hH
  clear hS hH HS5 HH5
  rw [he] at HS6
  have h6 := HH6
  refine cut_call _ rfl rfl rfl rfl Try.func31 rfl rfl (args1 (HS6.get 8 rfl)) (lines_make2 (cat ls) _) HS6 rfl ?_
  rintro e7 w7 ⟨⟨b, rfl, hRL, hbw, hbl⟩, hbL⟩
  refine ⟨_, rfl, fun a7 hS => ?_⟩
  have HS8 : Sl a7 61 [(27, .func (.func 41) #[] #[.pointer (some ⟨b, 0, none⟩)]), (0, .pointer (some ⟨g, 0, none⟩)), (2, .pointer (some ⟨g1_0, 0, none⟩)), (3, .pointer (some ⟨g1_1, 0, none⟩)), (4, .int .i64 (0)), (13, .bool false), (5, .int .i64 (((cat ls).size : Int))), (6, .pointer (some ⟨g5_0, 0, none⟩)), (25, .int .i64 (((cat ls).size : Int))), (26, .string (cat ls))] := hS
  have HH8 : Held ⟨w, [g]⟩ w7 [⟨g, (), 6, spC ⟨al, sy, false, acts, inn, keep⟩, 53⟩, ⟨g1_0, (), 1, lsc [.sl (none) (0) (0)], 25⟩, ⟨g1_1, (), 1, lsc [.i .i64 (0)], 26⟩, ⟨g5_0, (), 1, lsc [.sl (none) (0) (0)], 25⟩] := HH6.call hbL
  clear hS
  refine end_ rfl ?_
  refine then_ ?_
  refine wp_block ?_
  have hGL := HH8.row 0 rfl
  have h2L := HH8.row 1 rfl
  have h3L := HH8.row 2 rfl
  have hoL := HH8.row 3 rfl
  have hFL := HH8.1
  have ix := idx_of (WL := w7) h6 hr.lt hbw hbl
  clear h6 HH8
  generalize g1_0 = r2 at *
  generalize g1_1 = r3 at *
  generalize g5_0 = ob at *
  generalize hB : w7.heap.size = B at ix
  refine (wpIn_wide (n := 5)).1 ?_
  refine range_box (b := b) (encs := fun x => #[.string (x ++ nl)]) (ls := ls) (by omega) (HS8.get 0 rfl) (enters_of Try.func41 (by kernel_rfl) rfl) hbl (lines_seq hC.no (by omega) hRL) (fun _ => rfl) (LpI w g r2 r3 ob b (spC ⟨al, sy, false, acts, inn, keep⟩)) (LxI w g r2 r3 (spC ⟨al, sy, false, acts, inn, keep⟩)) (by rw [hB]; exact lp_own ix) (by rw [hB]; exact lx_own ix) ⟨[], none, 0, rfl, ⟨hFL, hGL, h2L, h3L, hoL, OwnR.nil, hbl⟩⟩ (fun x a => Sl a 61 [(7, .string (x ++ nl)), (0, .pointer (some ⟨g, 0, none⟩)), (2, .pointer (some ⟨r2, 0, none⟩)), (3, .pointer (some ⟨r3, 0, none⟩)), (5, .int .i64 (((cat ls).size : Int))), (6, .pointer (some ⟨ob, 0, none⟩))]) ?assign ?body ?done ?stop
  case assign =>
    intro l x W K hK
    have HSa := HS8.given (N := 28) (v := .string (x ++ nl)) rfl
    refine wholeR_ (by kernel_rfl) (fun _ _ h => h) ?_
    refine cut_run (i := 0) rfl rfl rfl (exec_move (.inr rfl) (HSa.get 0 rfl)) HSa rfl (fun a7 hS7 => ?_)
    refine end_ rfl ?_
    exact hK a7 (sl_keep hS7 [0, 3, 4, 5, 8, 9] (by rfl))
  case body =>
    rintro l pre x a1 W ⟨rs, oa, c, hrs, hL⟩ hpre HSb
    rw [hB]
    have hxm : x ∈ ls := hpre.subset (by simp)
    have hxz := cat_mem hxm
    have hpl := hpre.length_le
    rw [List.length_append] at hpl
    have hrl := recs_len hrs
    have hcl := cat_len ls
    have hgs : ∀ q ∈ [g, r2, r3, ob, b], q < W.heap.size := fun q hq => by
      simp only [List.mem_cons, List.mem_nil_iff, or_false] at hq
      rcases hq with rfl | rfl | rfl | rfl | rfl
      · exact hL.p_g.lt
      · exact hL.p_r2.lt
      · exact hL.p_r3.lt
      · exact hL.p_ob.lt
      · exact hL.p_b
    have HHb : Held ⟨W, []⟩ W [] := Held.first W []
    cases hd : decL true (bytesOf x) with
    | none =>
      have hdS : decS x = none := by unfold decS; rw [hd]; rfl
      refine wpIn_block ?_
      refine wpIn_seq ?_
      refine wholeR_ (by kernel_rfl) (fun _ _ h => h) ?_
      have hLo : LOk [(0, 30, .val (.string (x ++ nl))), (1, 31, .val (.string (x)))] := lok (by rfl) (by rfl)
      refine part_ (wE := ⟨W, []⟩) (sz := 61) (n := 8) 0 2 [0, 1, 3, 7, 15, 31, 63, 127] [(7, .val (.string (x ++ nl))), (0, .val (.pointer (some ⟨g, 0, none⟩))), (2, .val (.pointer (some ((⟨r2, 0, none⟩ : Addr))))), (3, .val (.pointer (some ((⟨r3, 0, none⟩ : Addr))))), (5, .val (.int .i64 (((cat ls).size : Int)))), (6, .val (.pointer (some ((⟨ob, 0, none⟩ : Addr))))), (31, .val (.string (x)))] [(0, 30, .val (.string (x ++ nl))), (1, 31, .val (.string (x)))] [] rfl rfl (by rfl) HHb rfl rfl hLo rfl HSb (slS 0 rfl rfl (slS 1 rfl rfl (slS 2 rfl rfl (slS 3 rfl rfl (slS 4 rfl rfl (slS 5 rfl rfl (slL 1 (d := 1) rfl (trivial)))))))) ?_ ?_
      · show ∀ i ∈ [0, 1], _
        refine steps_cons (st_run 0 _ rfl rfl hLo rfl rfl (fun _ _ _ _ => rfl) (fun b G w hb ho => exec_move (.inl rfl) (ev_off rfl (HSb.get 0 rfl)))) ?_
        refine steps_cons (st_call 1 _ #[.string (x ++ nl), .string (nl)] rfl rfl rfl (fun _ _ _ _ => rfl) hLo rfl rfl Try.func33 rfl rfl (fun b G hb ho => args2 (ev_on hLo 0 rfl HSb.1 rfl (hb 0 (by rfl))) (rfl)) (fun w hw => trim_calls x (by omega) _)) ?_
        exact steps_nil
      clear hLo
      intro G a9 w9 hS hH
      have HS9 : Sl a9 61 [(7, .string (x ++ nl)), (0, .pointer (some ⟨g, 0, none⟩)), (2, .pointer (some ((⟨r2, 0, none⟩ : Addr)))), (3, .pointer (some ((⟨r3, 0, none⟩ : Addr)))), (5, .int .i64 (((cat ls).size : Int))), (6, .pointer (some ((⟨ob, 0, none⟩ : Addr)))), (31, .string (x))] := hS
      have HH9 : Held ⟨W, []⟩ w9 [] := hH
      clear hS hH HSb HHb
      refine cut_call _ rfl rfl rfl rfl Try.func32 rfl rfl (args2 (HS9.get 6 rfl) rfl) (dec_none hd (by omega) _) HS9 rfl ?_
      rintro e10 w10 ⟨⟨A, cA, rfl⟩, hb8⟩
      refine ⟨_, rfl, fun a10 hS => ?_⟩
      have HS11 : Sl a10 61 [(32, .tuple #[.slice (A) (0) (cA), .bool false]), (7, .string (x ++ nl)), (0, .pointer (some ⟨g, 0, none⟩)), (2, .pointer (some ((⟨r2, 0, none⟩ : Addr)))), (3, .pointer (some ((⟨r3, 0, none⟩ : Addr)))), (5, .int .i64 (((cat ls).size : Int))), (6, .pointer (some ((⟨ob, 0, none⟩ : Addr)))), (31, .string (x))] := hS
      have HH11 : Held ⟨W, []⟩ w10 [] := HH9.call hb8
      clear hS
      have H8 := HH11
      have HH12 : Held ⟨w10, []⟩ w10 [] := Held.first w10 []
      have hLo : LOk [(3, 29, .val (.tuple #[.slice (A) (0) (cA), .bool false])), (4, 33, .val (.slice (A) (0) (cA))), (5, 34, .val (.bool false)), (6, 8, .val (.slice (A) (0) (cA))), (7, 9, .val (.bool false))] := lok (by rfl) (by rfl)
      refine part_ (wE := ⟨w10, []⟩) (sz := 61) (n := 8) 3 8 [0, 1, 3, 7, 15, 31, 63, 127] [(7, .val (.string (x ++ nl))), (0, .val (.pointer (some ⟨g, 0, none⟩))), (2, .val (.pointer (some ((⟨r2, 0, none⟩ : Addr))))), (3, .val (.pointer (some ((⟨r3, 0, none⟩ : Addr))))), (5, .val (.int .i64 (((cat ls).size : Int)))), (6, .val (.pointer (some ((⟨ob, 0, none⟩ : Addr))))), (8, .val (.slice (A) (0) (cA))), (9, .val (.bool false))] [(3, 29, .val (.tuple #[.slice (A) (0) (cA), .bool false])), (4, 33, .val (.slice (A) (0) (cA))), (5, 34, .val (.bool false)), (6, 8, .val (.slice (A) (0) (cA))), (7, 9, .val (.bool false))] [] rfl rfl (by rfl) HH12 rfl rfl hLo rfl HS11 (slS 1 rfl rfl (slS 2 rfl rfl (slS 3 rfl rfl (slS 4 rfl rfl (slS 5 rfl rfl (slS 6 rfl rfl (slL 3 (d := 6) rfl (slL 4 (d := 7) rfl (trivial))))))))) ?_ ?_
      · show ∀ i ∈ [3, 4, 5, 6, 7], _
        refine steps_cons (st_run 0 _ rfl rfl hLo rfl rfl (fun _ _ _ _ => rfl) (fun b G w hb ho => exec_move (.inl rfl) (ev_off rfl (HS11.get 0 rfl)))) ?_
        refine steps_cons (st_run 1 _ rfl rfl hLo rfl rfl (fun _ _ _ _ => rfl) (fun b G w hb ho => exec_extract rfl (ev_on hLo 0 rfl HS11.1 rfl (hb 3 (by rfl))) (by rfl))) ?_
        refine steps_cons (st_run 2 _ rfl rfl hLo rfl rfl (fun _ _ _ _ => rfl) (fun b G w hb ho => exec_extract rfl (ev_on hLo 0 rfl HS11.1 rfl (hb 3 (by rfl))) (by rfl))) ?_
        refine steps_cons (st_run 3 _ rfl rfl hLo rfl rfl (fun _ _ _ _ => rfl) (fun b G w hb ho => exec_move (.inr rfl) (ev_on hLo 1 rfl HS11.1 rfl (hb 4 (by rfl))))) ?_
        refine steps_cons (st_run 4 _ rfl rfl hLo rfl rfl (fun _ _ _ _ => rfl) (fun b G w hb ho => exec_move (.inr rfl) (ev_on hLo 2 rfl HS11.1 rfl (hb 5 (by rfl))))) ?_
        exact steps_nil
      clear hLo
      intro G a13 w13 hS hH
      have HS13 : Sl a13 61 [(7, .string (x ++ nl)), (0, .pointer (some ⟨g, 0, none⟩)), (2, .pointer (some ((⟨r2, 0, none⟩ : Addr)))), (3, .pointer (some ((⟨r3, 0, none⟩ : Addr)))), (5, .int .i64 (((cat ls).size : Int))), (6, .pointer (some ((⟨ob, 0, none⟩ : Addr)))), (8, .slice (A) (0) (cA)), (9, .bool false)] := hS
      have HH13 : Held ⟨w10, []⟩ w13 [] := hH
      clear hS hH HS11 HH12
      refine end_ rfl ?_
      refine then_ ?_
      refine wpIn_seq ?_
      refine wpIn_seq ?_
      refine wholeR_ (by kernel_rfl) (fun _ _ h => h) ?_
      have hLo : LOk [(0, 35, .val (.bool false)), (1, 36, .val (.bool true))] := lok (by rfl) (by rfl)
      refine part_ (wE := ⟨w10, []⟩) (sz := 61) (n := 2) 0 2 [0, 1] [(7, .val (.string (x ++ nl))), (0, .val (.pointer (some ⟨g, 0, none⟩))), (2, .val (.pointer (some ((⟨r2, 0, none⟩ : Addr))))), (3, .val (.pointer (some ((⟨r3, 0, none⟩ : Addr))))), (5, .val (.int .i64 (((cat ls).size : Int)))), (6, .val (.pointer (some ((⟨ob, 0, none⟩ : Addr))))), (8, .val (.slice (A) (0) (cA))), (9, .val (.bool false)), (36, .val (.bool true))] [(0, 35, .val (.bool false)), (1, 36, .val (.bool true))] [] rfl rfl (by rfl) HH13 rfl rfl hLo rfl HS13 (slS 0 rfl rfl (slS 1 rfl rfl (slS 2 rfl rfl (slS 3 rfl rfl (slS 4 rfl rfl (slS 5 rfl rfl (slS 6 rfl rfl (slS 7 rfl rfl (slL 1 (d := 1) rfl (trivial)))))))))) ?_ ?_
      · show ∀ i ∈ [0, 1], _
        refine steps_cons (st_run 0 _ rfl rfl hLo rfl rfl (fun _ _ _ _ => rfl) (fun b G w hb ho => exec_move (.inl rfl) (ev_off rfl (HS13.get 7 rfl)))) ?_
        refine steps_cons (st_run 1 _ rfl rfl hLo rfl rfl (fun _ _ _ _ => rfl) (fun b G w hb ho => exec_un rfl (ev_on hLo 0 rfl HS13.1 rfl (hb 0 (by rfl))) (ru_not _))) ?_
        exact steps_nil
      clear hLo
      intro G a14 w14 hS hH
      have HS14 : Sl a14 61 [(7, .string (x ++ nl)), (0, .pointer (some ⟨g, 0, none⟩)), (2, .pointer (some ((⟨r2, 0, none⟩ : Addr)))), (3, .pointer (some ((⟨r3, 0, none⟩ : Addr)))), (5, .int .i64 (((cat ls).size : Int))), (6, .pointer (some ((⟨ob, 0, none⟩ : Addr)))), (8, .slice (A) (0) (cA)), (9, .bool false), (36, .bool true)] := hS
      have HH14 : Held ⟨w10, []⟩ w14 [] := hH
      clear hS hH HS13 HH13
      refine end_ rfl ?_
      refine then_ ?_
      refine wpIn_cond_true (HS14.get 8 rfl) ?_
      refine wpIn_seq ?_
      refine wholeR_ (by kernel_rfl) (fun _ _ h => h) ?_
      have hF9 : Fr ⟨W, []⟩ w14 := H8.1.comp HH14.1
      have HHr := Held.two (hL.p_r2.fr hF9 (by simp)) (hL.p_r3.fr hF9 (by simp)) ix.p_n23
      have hLo : LOk [] := lok (by rfl) (by rfl)
      refine part_ (wE := ⟨w14, [r2, r3]⟩) (sz := 61) (n := 2) 0 2 [0, 1] [(7, .val (.string (x ++ nl))), (0, .val (.pointer (some ⟨g, 0, none⟩))), (2, .val (.pointer (some ⟨r2, 0, none⟩))), (3, .val (.pointer (some ⟨r3, 0, none⟩))), (5, .val (.int .i64 (((cat ls).size : Int)))), (6, .val (.pointer (some ((⟨ob, 0, none⟩ : Addr))))), (8, .val (.slice (A) (0) (cA))), (9, .val (.bool false)), (36, .val (.bool true))] [] [⟨r2, none, some 0, (), 1, lsc [.sl (none) (0) (0)], upd (lsc [.sl (none) (0) (0)]) 0 (.sl (none) (0) (0)), T25⟩, ⟨r3, none, some 1, (), 1, lsc [.i .i64 (0)], upd (lsc [.i .i64 (0)]) 0 (.i .i64 (4)), T26⟩] rfl rfl (by rfl) HHr rfl rfl hLo rfl HS14 (slS 0 rfl rfl (slS 1 rfl rfl (slS 2 rfl rfl (slS 3 rfl rfl (slS 4 rfl rfl (slS 5 rfl rfl (slS 6 rfl rfl (slS 7 rfl rfl (slS 8 rfl rfl (trivial)))))))))) ?_ ?_
      · show ∀ i ∈ [0, 1], _
        refine steps_cons (st_put 0 _ rfl rfl rfl rfl (fun _ _ _ _ => rfl) rfl rfl rfl (by rfl) (fun b G w hb ho hr => exec_put1 hr (Nat.le_of_ble_eq_true rfl) (by kernel_rfl) rfl (ev_off rfl (HS14.get 2 rfl)) (rfl))) ?_
        refine steps_cons (st_put 1 _ rfl rfl rfl rfl (fun _ _ _ _ => rfl) rfl rfl rfl (by rfl) (fun b G w hb ho hr => exec_put1 hr (Nat.le_of_ble_eq_true rfl) (by kernel_rfl) rfl (ev_off rfl (HS14.get 3 rfl)) (rfl))) ?_
        exact steps_nil
      clear hLo
      intro G a15 w15 hS hH
      have HS15 : Sl a15 61 [(7, .string (x ++ nl)), (0, .pointer (some ⟨g, 0, none⟩)), (2, .pointer (some ⟨r2, 0, none⟩)), (3, .pointer (some ⟨r3, 0, none⟩)), (5, .int .i64 (((cat ls).size : Int))), (6, .pointer (some ((⟨ob, 0, none⟩ : Addr)))), (8, .slice (A) (0) (cA)), (9, .bool false), (36, .bool true)] := hS
      have HH15 : Held ⟨w14, [r2, r3]⟩ w15 [⟨r2, (), 1, upd (lsc [.sl (none) (0) (0)]) 0 (.sl (none) (0) (0)), T25⟩, ⟨r3, (), 1, upd (lsc [.i .i64 (0)]) 0 (.i .i64 (4)), T26⟩] := hH
      clear hS hH HS14 HHr
      refine end_ rfl ?_
      refine then_ ?_
      refine wpIn_ret ?_
      repeat (first | refine then_ret ?_ | refine inBlock_ret' ?_)
      exact round_stop ix hL hdS hF9 HH15.1 (HH15.row 0 rfl) (HH15.row 1 rfl)
    | some ys =>
      have hdS : decS x = some (strOfNums ys) := by unfold decS; rw [hd]; rfl
      refine wpIn_block ?_
      refine wpIn_seq ?_
      refine wholeR_ (by kernel_rfl) (fun _ _ h => h) ?_
      have hLo : LOk [(0, 30, .val (.string (x ++ nl))), (1, 31, .val (.string (x)))] := lok (by rfl) (by rfl)
      refine part_ (wE := ⟨W, []⟩) (sz := 61) (n := 8) 0 2 [0, 1, 3, 7, 15, 31, 63, 127] [(7, .val (.string (x ++ nl))), (0, .val (.pointer (some ⟨g, 0, none⟩))), (2, .val (.pointer (some ((⟨r2, 0, none⟩ : Addr))))), (3, .val (.pointer (some ((⟨r3, 0, none⟩ : Addr))))), (5, .val (.int .i64 (((cat ls).size : Int)))), (6, .val (.pointer (some ((⟨ob, 0, none⟩ : Addr))))), (31, .val (.string (x)))] [(0, 30, .val (.string (x ++ nl))), (1, 31, .val (.string (x)))] [] rfl rfl (by rfl) HHb rfl rfl hLo rfl HSb (slS 0 rfl rfl (slS 1 rfl rfl (slS 2 rfl rfl (slS 3 rfl rfl (slS 4 rfl rfl (slS 5 rfl rfl (slL 1 (d := 1) rfl (trivial)))))))) ?_ ?_
      · show ∀ i ∈ [0, 1], _
        refine steps_cons (st_run 0 _ rfl rfl hLo rfl rfl (fun _ _ _ _ => rfl) (fun b G w hb ho => exec_move (.inl rfl) (ev_off rfl (HSb.get 0 rfl)))) ?_
        refine steps_cons (st_call 1 _ #[.string (x ++ nl), .string (nl)] rfl rfl rfl (fun _ _ _ _ => rfl) hLo rfl rfl Try.func33 rfl rfl (fun b G hb ho => args2 (ev_on hLo 0 rfl HSb.1 rfl (hb 0 (by rfl))) (rfl)) (fun w hw => trim_calls x (by omega) _)) ?_
        exact steps_nil
      clear hLo
      intro G a16 w16 hS hH
      have HS16 : Sl a16 61 [(7, .string (x ++ nl)), (0, .pointer (some ⟨g, 0, none⟩)), (2, .pointer (some ((⟨r2, 0, none⟩ : Addr)))), (3, .pointer (some ((⟨r3, 0, none⟩ : Addr)))), (5, .int .i64 (((cat ls).size : Int))), (6, .pointer (some ((⟨ob, 0, none⟩ : Addr)))), (31, .string (x))] := hS
      have HH16 : Held ⟨W, []⟩ w16 [] := hH
      clear hS hH HSb HHb
      refine cut_call _ rfl rfl rfl rfl Try.func32 rfl rfl (args2 (HS16.get 6 rfl) rfl) (dec_some hd (by omega) _) HS16 rfl ?_
      rintro e17 w17 ⟨⟨A, cA, rfl, hC8⟩, hb8⟩
      refine ⟨_, rfl, fun a17 hS => ?_⟩
      have HS18 : Sl a17 61 [(32, .tuple #[.slice (A) (ys.length) (cA), .bool true]), (7, .string (x ++ nl)), (0, .pointer (some ⟨g, 0, none⟩)), (2, .pointer (some ((⟨r2, 0, none⟩ : Addr)))), (3, .pointer (some ((⟨r3, 0, none⟩ : Addr)))), (5, .int .i64 (((cat ls).size : Int))), (6, .pointer (some ((⟨ob, 0, none⟩ : Addr)))), (31, .string (x))] := hS
      have HH18 : Held ⟨W, []⟩ w17 [] := HH16.call hb8
      clear hS
      have H8 := HH18
      have HH19 : Held ⟨w17, []⟩ w17 [] := Held.first w17 []
      have hLo : LOk [(3, 29, .val (.tuple #[.slice (A) (ys.length) (cA), .bool true])), (4, 33, .val (.slice (A) (ys.length) (cA))), (5, 34, .val (.bool true)), (6, 8, .val (.slice (A) (ys.length) (cA))), (7, 9, .val (.bool true))] := lok (by rfl) (by rfl)
      refine part_ (wE := ⟨w17, []⟩) (sz := 61) (n := 8) 3 8 [0, 1, 3, 7, 15, 31, 63, 127] [(7, .val (.string (x ++ nl))), (0, .val (.pointer (some ⟨g, 0, none⟩))), (2, .val (.pointer (some ((⟨r2, 0, none⟩ : Addr))))), (3, .val (.pointer (some ((⟨r3, 0, none⟩ : Addr))))), (5, .val (.int .i64 (((cat ls).size : Int)))), (6, .val (.pointer (some ((⟨ob, 0, none⟩ : Addr))))), (8, .val (.slice (A) (ys.length) (cA))), (9, .val (.bool true))] [(3, 29, .val (.tuple #[.slice (A) (ys.length) (cA), .bool true])), (4, 33, .val (.slice (A) (ys.length) (cA))), (5, 34, .val (.bool true)), (6, 8, .val (.slice (A) (ys.length) (cA))), (7, 9, .val (.bool true))] [] rfl rfl (by rfl) HH19 rfl rfl hLo rfl HS18 (slS 1 rfl rfl (slS 2 rfl rfl (slS 3 rfl rfl (slS 4 rfl rfl (slS 5 rfl rfl (slS 6 rfl rfl (slL 3 (d := 6) rfl (slL 4 (d := 7) rfl (trivial))))))))) ?_ ?_
      · show ∀ i ∈ [3, 4, 5, 6, 7], _
        refine steps_cons (st_run 0 _ rfl rfl hLo rfl rfl (fun _ _ _ _ => rfl) (fun b G w hb ho => exec_move (.inl rfl) (ev_off rfl (HS18.get 0 rfl)))) ?_
        refine steps_cons (st_run 1 _ rfl rfl hLo rfl rfl (fun _ _ _ _ => rfl) (fun b G w hb ho => exec_extract rfl (ev_on hLo 0 rfl HS18.1 rfl (hb 3 (by rfl))) (by rfl))) ?_
        refine steps_cons (st_run 2 _ rfl rfl hLo rfl rfl (fun _ _ _ _ => rfl) (fun b G w hb ho => exec_extract rfl (ev_on hLo 0 rfl HS18.1 rfl (hb 3 (by rfl))) (by rfl))) ?_
        refine steps_cons (st_run 3 _ rfl rfl hLo rfl rfl (fun _ _ _ _ => rfl) (fun b G w hb ho => exec_move (.inr rfl) (ev_on hLo 1 rfl HS18.1 rfl (hb 4 (by rfl))))) ?_
        refine steps_cons (st_run 4 _ rfl rfl hLo rfl rfl (fun _ _ _ _ => rfl) (fun b G w hb ho => exec_move (.inr rfl) (ev_on hLo 2 rfl HS18.1 rfl (hb 5 (by rfl))))) ?_
        exact steps_nil
      clear hLo
      intro G a20 w20 hS hH
      have HS20 : Sl a20 61 [(7, .string (x ++ nl)), (0, .pointer (some ⟨g, 0, none⟩)), (2, .pointer (some ((⟨r2, 0, none⟩ : Addr)))), (3, .pointer (some ((⟨r3, 0, none⟩ : Addr)))), (5, .int .i64 (((cat ls).size : Int))), (6, .pointer (some ((⟨ob, 0, none⟩ : Addr)))), (8, .slice (A) (ys.length) (cA)), (9, .bool true)] := hS
      have HH20 : Held ⟨w17, []⟩ w20 [] := hH
      clear hS hH HS18 HH19
      refine end_ rfl ?_
      refine then_ ?_
      refine wpIn_seq ?_
      refine wpIn_seq ?_
      refine wholeR_ (by kernel_rfl) (fun _ _ h => h) ?_
      have hLo : LOk [(0, 35, .val (.bool true)), (1, 36, .val (.bool false))] := lok (by rfl) (by rfl)
      refine part_ (wE := ⟨w17, []⟩) (sz := 61) (n := 2) 0 2 [0, 1] [(7, .val (.string (x ++ nl))), (0, .val (.pointer (some ⟨g, 0, none⟩))), (2, .val (.pointer (some ((⟨r2, 0, none⟩ : Addr))))), (3, .val (.pointer (some ((⟨r3, 0, none⟩ : Addr))))), (5, .val (.int .i64 (((cat ls).size : Int)))), (6, .val (.pointer (some ((⟨ob, 0, none⟩ : Addr))))), (8, .val (.slice (A) (ys.length) (cA))), (9, .val (.bool true)), (36, .val (.bool false))] [(0, 35, .val (.bool true)), (1, 36, .val (.bool false))] [] rfl rfl (by rfl) HH20 rfl rfl hLo rfl HS20 (slS 0 rfl rfl (slS 1 rfl rfl (slS 2 rfl rfl (slS 3 rfl rfl (slS 4 rfl rfl (slS 5 rfl rfl (slS 6 rfl rfl (slS 7 rfl rfl (slL 1 (d := 1) rfl (trivial)))))))))) ?_ ?_
      · show ∀ i ∈ [0, 1], _
        refine steps_cons (st_run 0 _ rfl rfl hLo rfl rfl (fun _ _ _ _ => rfl) (fun b G w hb ho => exec_move (.inl rfl) (ev_off rfl (HS20.get 7 rfl)))) ?_
        refine steps_cons (st_run 1 _ rfl rfl hLo rfl rfl (fun _ _ _ _ => rfl) (fun b G w hb ho => exec_un rfl (ev_on hLo 0 rfl HS20.1 rfl (hb 0 (by rfl))) (ru_not _))) ?_
        exact steps_nil
      clear hLo
      intro G a21 w21 hS hH
      have HS21 : Sl a21 61 [(7, .string (x ++ nl)), (0, .pointer (some ⟨g, 0, none⟩)), (2, .pointer (some ((⟨r2, 0, none⟩ : Addr)))), (3, .pointer (some ((⟨r3, 0, none⟩ : Addr)))), (5, .int .i64 (((cat ls).size : Int))), (6, .pointer (some ((⟨ob, 0, none⟩ : Addr)))), (8, .slice (A) (ys.length) (cA)), (9, .bool true), (36, .bool false)] := hS
      have HH21 : Held ⟨w17, []⟩ w21 [] := hH
      clear hS hH HS20 HH20
      refine end_ rfl ?_
      refine then_ ?_
      refine wpIn_cond_false (HS21.get 8 rfl) ?_
      refine wpIn_skip ?_
      refine then_ ?_
      refine wholeR_ (by kernel_rfl) (fun _ _ h => h) ?_
      have hLo : LOk [(0, 37, .val (.slice (oa) (rs.length) (c))), (1, 38, .val (.slice (A) (ys.length) (cA)))] := lok (by rfl) (by rfl)
      refine part_ (wE := ⟨w17, []⟩) (sz := 61) (n := 6) 0 2 [0, 1, 3, 7, 15, 31] [(7, .val (.string (x ++ nl))), (0, .val (.pointer (some ⟨g, 0, none⟩))), (2, .val (.pointer (some ((⟨r2, 0, none⟩ : Addr))))), (3, .val (.pointer (some ((⟨r3, 0, none⟩ : Addr))))), (5, .val (.int .i64 (((cat ls).size : Int)))), (6, .val (.pointer (some ((⟨ob, 0, none⟩ : Addr))))), (8, .val (.slice (A) (ys.length) (cA))), (9, .val (.bool true)), (36, .val (.bool false)), (37, .val (.slice (oa) (rs.length) (c))), (38, .val (.slice (A) (ys.length) (cA)))] [(0, 37, .val (.slice (oa) (rs.length) (c))), (1, 38, .val (.slice (A) (ys.length) (cA)))] [] rfl rfl (by rfl) HH21 rfl rfl hLo rfl HS21 (slS 0 rfl rfl (slS 1 rfl rfl (slS 2 rfl rfl (slS 3 rfl rfl (slS 4 rfl rfl (slS 5 rfl rfl (slS 6 rfl rfl (slS 7 rfl rfl (slS 8 rfl rfl (slL 0 (d := 0) rfl (slL 1 (d := 1) rfl (trivial)))))))))))) ?_ ?_
      · show ∀ i ∈ [0, 1], _
        refine steps_cons (st_at1 0 ((⟨ob, 0, none⟩ : Addr)) _ rfl rfl rfl (fun _ _ _ _ => rfl) hLo rfl rfl Try.underlying25 rfl (rowX (hL.p_ob.fr H8.1 (by simp)) 0 (Nat.le_of_ble_eq_true rfl)) (fun b G hb ho => ev_off rfl (HS21.get 5 rfl))) ?_
        refine steps_cons (st_run 1 _ rfl rfl hLo rfl rfl (fun _ _ _ _ => rfl) (fun b G w hb ho => exec_move (.inl rfl) (ev_off rfl (HS21.get 6 rfl)))) ?_
        exact steps_nil
      clear hLo
      intro G a22 w22 hS hH
      have HS22 : Sl a22 61 [(7, .string (x ++ nl)), (0, .pointer (some ⟨g, 0, none⟩)), (2, .pointer (some ((⟨r2, 0, none⟩ : Addr)))), (3, .pointer (some ((⟨r3, 0, none⟩ : Addr)))), (5, .int .i64 (((cat ls).size : Int))), (6, .pointer (some ((⟨ob, 0, none⟩ : Addr)))), (8, .slice (A) (ys.length) (cA)), (9, .bool true), (36, .bool false), (37, .slice (oa) (rs.length) (c)), (38, .slice (A) (ys.length) (cA))] := hS
      have HH22 : Held ⟨w17, []⟩ w22 [] := hH
      clear hS hH HS21 HH21
      refine cut_run (i := 2) rfl rfl rfl (exec_conv rfl (HS22.get 10 rfl) Try.underlying58 Try.underlying5 Try.underlying9 (Kd.C_below hC8 HH22.1.below)) HS22 rfl (fun a23 hS => ?_)
      have HS24 : Sl a23 61 [(39, .string (strOfNums ys)), (7, .string (x ++ nl)), (0, .pointer (some ⟨g, 0, none⟩)), (2, .pointer (some ((⟨r2, 0, none⟩ : Addr)))), (3, .pointer (some ((⟨r3, 0, none⟩ : Addr)))), (5, .int .i64 (((cat ls).size : Int))), (6, .pointer (some ((⟨ob, 0, none⟩ : Addr)))), (8, .slice (A) (ys.length) (cA)), (9, .bool true), (36, .bool false), (37, .slice (oa) (rs.length) (c)), (38, .slice (A) (ys.length) (cA))] := hS
      have HH24 : Held ⟨w17, []⟩ w22 [] := HH22
      clear hS
      have hLo : LOk [(3, 40, .new 3 (fun g => .slice (some ⟨g, 0, none⟩) (1) (1)))] := lok (by rfl) (by rfl)
      refine part_ (wE := ⟨w17, []⟩) (sz := 61) (n := 6) 3 4 [0, 1, 3, 7, 15, 31] [(7, .val (.string (x ++ nl))), (0, .val (.pointer (some ⟨g, 0, none⟩))), (2, .val (.pointer (some ((⟨r2, 0, none⟩ : Addr))))), (3, .val (.pointer (some ((⟨r3, 0, none⟩ : Addr))))), (5, .val (.int .i64 (((cat ls).size : Int)))), (6, .val (.pointer (some ((⟨ob, 0, none⟩ : Addr))))), (8, .val (.slice (A) (ys.length) (cA))), (9, .val (.bool true)), (36, .val (.bool false)), (37, .val (.slice (oa) (rs.length) (c))), (40, .new 3 (fun g => .slice (some ⟨g, 0, none⟩) (1) (1)))] [(3, 40, .new 3 (fun g => .slice (some ⟨g, 0, none⟩) (1) (1)))] [⟨0, some 3, none, (), 1, lsc [.s (strOfNums ys)], lsc [.s (strOfNums ys)], 9⟩] rfl rfl (by rfl) HH24 rfl rfl hLo rfl HS24 (slS 1 rfl rfl (slS 2 rfl rfl (slS 3 rfl rfl (slS 4 rfl rfl (slS 5 rfl rfl (slS 6 rfl rfl (slS 7 rfl rfl (slS 8 rfl rfl (slS 9 rfl rfl (slS 10 rfl rfl (slL 0 (d := 3) rfl (trivial)))))))))))) ?_ ?_
      · show ∀ i ∈ [3], _
        refine steps_cons (st_alloc 0 0 () 1 9 none _ _ rfl rfl (fun _ _ _ _ => rfl) rfl hLo rfl rfl rfl rfl (by rfl) (fun b G w hb ho => exec_buildSlice rfl (parts1 (ev_off rfl (HS24.get 0 rfl))) (by kernel_rfl))) ?_
        exact steps_nil
      clear hLo
      intro G a25 w25 hS hH
      have HS25 : Sl a25 61 [(7, .string (x ++ nl)), (0, .pointer (some ⟨g, 0, none⟩)), (2, .pointer (some ((⟨r2, 0, none⟩ : Addr)))), (3, .pointer (some ((⟨r3, 0, none⟩ : Addr)))), (5, .int .i64 (((cat ls).size : Int))), (6, .pointer (some ((⟨ob, 0, none⟩ : Addr)))), (8, .slice (A) (ys.length) (cA)), (9, .bool true), (36, .bool false), (37, .slice (oa) (rs.length) (c)), (40, .slice (some ⟨(G 3), 0, none⟩) (1) (1))] := hS
      have HH25 : Held ⟨w17, []⟩ w25 [⟨(G 3), (), 1, lsc [.s (strOfNums ys)], 9⟩] := hH
      clear hS hH HS24 HH24
      generalize G 3 = g25_3 at HS25 HH25
      have hSr := src_row1 Try.underlying25 (HH25.row 0 rfl)
      have hF11 : Fr ⟨W, []⟩ w25 := (H8.1.comp HH25.1)
      have hO11 := hL.p_out.below hF11.below
      have hz11 := hF11.size
      have HX : Held ⟨W, (Value.slice oa rs.length c).ownBlock.toList⟩ w25 [] := ⟨⟨hF11.os, hF11.tape, hF11.output, hF11.size, fun k hk _ => hF11.block k hk (by simp)⟩, fun r hr => by simp at hr, by simp⟩
      refine cut_appendX (wE := ⟨W, (Value.slice oa rs.length c).ownBlock.toList⟩) (i := 4) rfl rfl rfl rfl (HS25.get 9 rfl) (HS25.get 10 rfl) Try.underlying25 infoStr (by rfl) hO11 hSr (by unfold maxLen; omega) (by omega) (Nat.le_trans hL.p_fr.size hz11) (fun k hk => .inr (by simp [hk])) HX (by simp) (fun q hq => Nat.lt_of_lt_of_le (hgs q hq) hz11) HS25 rfl ?_
      intro oa2 c2 w12 hO12 HX12 a12 hS
      have hz12 := HX12.1.size
      have hOb12 : Row w12 ob () 1 (lsc [.sl oa rs.length c]) T25 := hL.p_ob.fr HX12.1 (by simpa using hL.p_out.apart ob (by simp))
      have HS27 : Sl a12 61 [(41, .slice (oa2) (rs.length + 1) (c2)), (7, .string (x ++ nl)), (0, .pointer (some ⟨g, 0, none⟩)), (2, .pointer (some ((⟨r2, 0, none⟩ : Addr)))), (3, .pointer (some ((⟨r3, 0, none⟩ : Addr)))), (5, .int .i64 (((cat ls).size : Int))), (6, .pointer (some ⟨ob, 0, none⟩)), (8, .slice (A) (ys.length) (cA)), (9, .bool true), (36, .bool false), (37, .slice (oa) (rs.length) (c)), (40, .slice (some ⟨g25_3, 0, none⟩) (1) (1))] := hS
      have HH27 : Held ⟨w12, [ob]⟩ w12 [⟨ob, (), 1, lsc [.sl (oa) (rs.length) (c)], T25⟩] := Held.one hOb12
      clear hS
      have hLo : LOk [] := lok (by rfl) (by rfl)
      refine part_ (wE := ⟨w12, [ob]⟩) (sz := 61) (n := 6) 5 6 [0, 1, 3, 7, 15, 31] [(7, .val (.string (x ++ nl))), (0, .val (.pointer (some ⟨g, 0, none⟩))), (2, .val (.pointer (some ((⟨r2, 0, none⟩ : Addr))))), (3, .val (.pointer (some ((⟨r3, 0, none⟩ : Addr))))), (5, .val (.int .i64 (((cat ls).size : Int)))), (6, .val (.pointer (some ⟨ob, 0, none⟩))), (8, .val (.slice (A) (ys.length) (cA))), (9, .val (.bool true)), (36, .val (.bool false))] [] [⟨ob, none, some 5, (), 1, lsc [.sl (oa) (rs.length) (c)], upd (lsc [.sl (oa) (rs.length) (c)]) 0 (.sl (oa2) (rs.length + 1) (c2)), T25⟩] rfl rfl (by rfl) HH27 rfl rfl hLo rfl HS27 (slS 1 rfl rfl (slS 2 rfl rfl (slS 3 rfl rfl (slS 4 rfl rfl (slS 5 rfl rfl (slS 6 rfl rfl (slS 7 rfl rfl (slS 8 rfl rfl (slS 9 rfl rfl (trivial)))))))))) ?_ ?_
      · show ∀ i ∈ [5], _
        refine steps_cons (st_put 0 _ rfl rfl rfl rfl (fun _ _ _ _ => rfl) rfl rfl rfl (by rfl) (fun b G w hb ho hr => exec_put1 hr (Nat.le_of_ble_eq_true rfl) (by kernel_rfl) rfl (ev_off rfl (HS27.get 6 rfl)) (ev_off rfl (HS27.get 0 rfl)))) ?_
        exact steps_nil
      clear hLo
      intro G a28 w28 hS hH
      have HS28 : Sl a28 61 [(7, .string (x ++ nl)), (0, .pointer (some ⟨g, 0, none⟩)), (2, .pointer (some ((⟨r2, 0, none⟩ : Addr)))), (3, .pointer (some ((⟨r3, 0, none⟩ : Addr)))), (5, .int .i64 (((cat ls).size : Int))), (6, .pointer (some ⟨ob, 0, none⟩)), (8, .slice (A) (ys.length) (cA)), (9, .bool true), (36, .bool false)] := hS
      have HH28 : Held ⟨w12, [ob]⟩ w28 [⟨ob, (), 1, upd (lsc [.sl (oa) (rs.length) (c)]) 0 (.sl (oa2) (rs.length + 1) (c2)), T25⟩] := hH
      clear hS hH HS27 HH27
      refine end_ rfl ?_
      refine inBlock_normal ?_
      exact round_go ix hrs hL hdS HX12.1 hO12 HH28.1 (HH28.row 0 rfl)
  case done =>
    rintro D W hD ⟨rs, oa, c, hrs, hL⟩ hK
    rw [Ad_eq HS8]
    rw [hB] at hD
    have hHm := held4 hL.p_g hL.p_r2 hL.p_r3 hL.p_ob ix.nd
    refine inBlock_normal ?_
    refine then_ ?_
    refine wp_seq ?_
    refine wholeD_ ?_
    have hLo : LOk [(0, 42, .val (.pointer (some ⟨g, 0, none⟩))), (1, 43, .val (.pointer (some ⟨g, 0, none⟩))), (2, 44, .val (.pointer (some ⟨g, 0, none⟩))), (3, 45, .val (.pointer (some ⟨g, 0, none⟩))), (4, 46, .val (.string (al))), (5, 47, .val (.int .i64 (((cat ls).size : Int)))), (6, 48, .val (.string ((al).extract 0 ((cat ls).size)))), (7, 49, .val (.pointer (some ⟨g, 0, none⟩))), (8, 50, .val (.pointer (some ⟨g, 0, none⟩)))] := lok (by rfl) (by rfl)
    refine part_ (wE := ⟨W, [g, r2, r3, ob]⟩) (sz := 61) (n := 10) 0 10 [0, 1, 3, 7, 15, 31, 63, 127, 255, 511] [(0, .val (.pointer (some ⟨g, 0, none⟩))), (2, .val (.pointer (some ⟨r2, 0, none⟩))), (3, .val (.pointer (some ⟨r3, 0, none⟩))), (4, .val (.int .i64 (0))), (13, .val (.bool false)), (5, .val (.int .i64 (((cat ls).size : Int)))), (6, .val (.pointer (some ⟨ob, 0, none⟩))), (25, .val (.int .i64 (((cat ls).size : Int)))), (26, .val (.string (cat ls)))] [(0, 42, .val (.pointer (some ⟨g, 0, none⟩))), (1, 43, .val (.pointer (some ⟨g, 0, none⟩))), (2, 44, .val (.pointer (some ⟨g, 0, none⟩))), (3, 45, .val (.pointer (some ⟨g, 0, none⟩))), (4, 46, .val (.string (al))), (5, 47, .val (.int .i64 (((cat ls).size : Int)))), (6, 48, .val (.string ((al).extract 0 ((cat ls).size)))), (7, 49, .val (.pointer (some ⟨g, 0, none⟩))), (8, 50, .val (.pointer (some ⟨g, 0, none⟩)))] [⟨g, none, some 9, (), 6, spC ⟨al, sy, false, acts, inn, keep⟩, upd (spC ⟨al, sy, false, acts, inn, keep⟩) 0 (.s ((al).extract 0 ((cat ls).size))), 53⟩, ⟨r2, none, none, (), 1, lsc [.sl (none) (0) (0)], lsc [.sl (none) (0) (0)], 25⟩, ⟨r3, none, none, (), 1, lsc [.i .i64 (0)], lsc [.i .i64 (0)], 26⟩, ⟨ob, none, none, (), 1, lsc [.sl (oa) (rs.length) (c)], lsc [.sl (oa) (rs.length) (c)], T25⟩] rfl rfl (by rfl) hHm rfl rfl hLo rfl HS8 (slS 1 rfl rfl (slS 2 rfl rfl (slS 3 rfl rfl (slS 4 rfl rfl (slS 5 rfl rfl (slS 6 rfl rfl (slS 7 rfl rfl (slS 8 rfl rfl (slS 9 rfl rfl (trivial)))))))))) ?_ ?_
    · show ∀ i ∈ [0, 1, 2, 3, 4, 5, 6, 7, 8, 9], _
      refine steps_cons (st_run 0 _ rfl rfl hLo rfl rfl (fun _ _ _ _ => rfl) (fun b G w hb ho => exec_move (.inl rfl) (ev_off rfl (HS8.get 1 rfl)))) ?_
      refine steps_cons (st_run 1 _ rfl rfl hLo rfl rfl (fun _ _ _ _ => rfl) (fun b G w hb ho => exec_move (.inl rfl) (ev_off rfl (HS8.get 1 rfl)))) ?_
      refine steps_cons (st_run 2 _ rfl rfl hLo rfl rfl (fun _ _ _ _ => rfl) (fun b G w hb ho => exec_nil rfl (ev_on hLo 1 rfl HS8.1 rfl (hb 1 (by rfl))))) ?_
      refine steps_cons (st_run 3 _ rfl rfl hLo rfl rfl (fun _ _ _ _ => rfl) (fun b G w hb ho => exec_field rfl (ev_on hLo 2 rfl HS8.1 rfl (hb 2 (by rfl))) (by kernel_rfl))) ?_
      refine steps_cons (st_read 4 0 _ _ rfl rfl rfl hLo rfl rfl (fun _ _ _ _ => rfl) (by rfl) (by rfl) (fun b G w hb ho hr => exec_cell hr (Nat.le_of_ble_eq_true rfl) Try.underlying9 rfl rfl (ev_on hLo 3 rfl HS8.1 rfl (hb 3 (by rfl))))) ?_
      refine steps_cons (st_run 5 _ rfl rfl hLo rfl rfl (fun _ _ _ _ => rfl) (fun b G w hb ho => exec_move (.inl rfl) (ev_off rfl (HS8.get 6 rfl)))) ?_
      refine steps_cons (st_run 6 _ rfl rfl hLo rfl rfl (fun _ _ _ _ => rfl) (fun b G w hb ho => exec_slice rfl (ev_on hLo 4 rfl HS8.1 rfl (hb 4 (by rfl))) rfl (congrArg some (ev_on hLo 5 rfl HS8.1 rfl (hb 5 (by rfl)))) rfl (rs_hi Try.underlying9 (hle) _))) ?_
      refine steps_cons (st_run 7 _ rfl rfl hLo rfl rfl (fun _ _ _ _ => rfl) (fun b G w hb ho => exec_nil rfl (ev_on hLo 0 rfl HS8.1 rfl (hb 0 (by rfl))))) ?_
      refine steps_cons (st_run 8 _ rfl rfl hLo rfl rfl (fun _ _ _ _ => rfl) (fun b G w hb ho => exec_field rfl (ev_on hLo 7 rfl HS8.1 rfl (hb 7 (by rfl))) (by kernel_rfl))) ?_
      refine steps_cons (st_put 0 _ rfl rfl rfl rfl (fun _ _ _ _ => rfl) rfl rfl rfl (by rfl) (fun b G w hb ho hr => exec_put1 hr (Nat.le_of_ble_eq_true rfl) (by kernel_rfl) rfl (ev_on hLo 8 rfl HS8.1 rfl (hb 8 (by rfl))) (ev_on hLo 6 rfl HS8.1 rfl (hb 6 (by rfl))))) ?_
      exact steps_nil
    clear hLo
    intro G a29 w29 hS hH
    have HS29 : Sl a29 61 [(0, .pointer (some ⟨g, 0, none⟩)), (2, .pointer (some ⟨r2, 0, none⟩)), (3, .pointer (some ⟨r3, 0, none⟩)), (4, .int .i64 (0)), (13, .bool false), (5, .int .i64 (((cat ls).size : Int))), (6, .pointer (some ⟨ob, 0, none⟩)), (25, .int .i64 (((cat ls).size : Int))), (26, .string (cat ls))] := hS
    have HH29 : Held ⟨W, [g, r2, r3, ob]⟩ w29 [⟨g, (), 6, upd (spC ⟨al, sy, false, acts, inn, keep⟩) 0 (.s ((al).extract 0 ((cat ls).size))), 53⟩, ⟨r2, (), 1, lsc [.sl (none) (0) (0)], 25⟩, ⟨r3, (), 1, lsc [.i .i64 (0)], 26⟩, ⟨ob, (), 1, lsc [.sl (oa) (rs.length) (c)], T25⟩] := hH
    clear hS hH HS8 hHm
    refine end_ rfl ?_
    refine then_ ?_
    refine wp_seq ?_
    refine wholeD_ ?_
    have hLo : LOk [(0, 51, .val (.pointer (some ⟨g, 0, none⟩))), (1, 52, .val (.pointer (some ⟨g, 0, none⟩))), (2, 53, .val (.pointer (some ⟨g, 0, none⟩))), (3, 54, .val (.pointer (some ⟨g, 1, none⟩))), (4, 55, .val (.int .i64 (((sy : Nat) : Int)))), (5, 56, .val (.int .i64 (((cat ls).size : Int)))), (6, 57, .val (.int .i64 (((min sy (cat ls).size : Nat) : Int)))), (7, 58, .val (.pointer (some ⟨g, 0, none⟩))), (8, 59, .val (.pointer (some ⟨g, 1, none⟩)))] := lok (by rfl) (by rfl)
    refine part_ (wE := ⟨W, [g, r2, r3, ob]⟩) (sz := 61) (n := 10) 0 10 [0, 1, 3, 7, 15, 31, 63, 127, 255, 511] [(0, .val (.pointer (some ⟨g, 0, none⟩))), (2, .val (.pointer (some ⟨r2, 0, none⟩))), (3, .val (.pointer (some ⟨r3, 0, none⟩))), (4, .val (.int .i64 (0))), (13, .val (.bool false)), (5, .val (.int .i64 (((cat ls).size : Int)))), (6, .val (.pointer (some ⟨ob, 0, none⟩))), (25, .val (.int .i64 (((cat ls).size : Int)))), (26, .val (.string (cat ls)))] [(0, 51, .val (.pointer (some ⟨g, 0, none⟩))), (1, 52, .val (.pointer (some ⟨g, 0, none⟩))), (2, 53, .val (.pointer (some ⟨g, 0, none⟩))), (3, 54, .val (.pointer (some ⟨g, 1, none⟩))), (4, 55, .val (.int .i64 (((sy : Nat) : Int)))), (5, 56, .val (.int .i64 (((cat ls).size : Int)))), (6, 57, .val (.int .i64 (((min sy (cat ls).size : Nat) : Int)))), (7, 58, .val (.pointer (some ⟨g, 0, none⟩))), (8, 59, .val (.pointer (some ⟨g, 1, none⟩)))] [⟨g, none, some 9, (), 6, upd (spC ⟨al, sy, false, acts, inn, keep⟩) 0 (.s ((al).extract 0 ((cat ls).size))), upd (upd (spC ⟨al, sy, false, acts, inn, keep⟩) 0 (.s ((al).extract 0 ((cat ls).size)))) 1 (.i .i64 (((min sy (cat ls).size : Nat) : Int))), 53⟩, ⟨r2, none, none, (), 1, lsc [.sl (none) (0) (0)], lsc [.sl (none) (0) (0)], 25⟩, ⟨r3, none, none, (), 1, lsc [.i .i64 (0)], lsc [.i .i64 (0)], 26⟩, ⟨ob, none, none, (), 1, lsc [.sl (oa) (rs.length) (c)], lsc [.sl (oa) (rs.length) (c)], T25⟩] rfl rfl (by rfl) HH29 rfl rfl hLo rfl HS29 (slS 0 rfl rfl (slS 1 rfl rfl (slS 2 rfl rfl (slS 3 rfl rfl (slS 4 rfl rfl (slS 5 rfl rfl (slS 6 rfl rfl (slS 7 rfl rfl (slS 8 rfl rfl (trivial)))))))))) ?_ ?_
    · show ∀ i ∈ [0, 1, 2, 3, 4, 5, 6, 7, 8, 9], _
      refine steps_cons (st_run 0 _ rfl rfl hLo rfl rfl (fun _ _ _ _ => rfl) (fun b G w hb ho => exec_move (.inl rfl) (ev_off rfl (HS29.get 0 rfl)))) ?_
      refine steps_cons (st_run 1 _ rfl rfl hLo rfl rfl (fun _ _ _ _ => rfl) (fun b G w hb ho => exec_move (.inl rfl) (ev_off rfl (HS29.get 0 rfl)))) ?_
      refine steps_cons (st_run 2 _ rfl rfl hLo rfl rfl (fun _ _ _ _ => rfl) (fun b G w hb ho => exec_nil rfl (ev_on hLo 1 rfl HS29.1 rfl (hb 1 (by rfl))))) ?_
      refine steps_cons (st_run 3 _ rfl rfl hLo rfl rfl (fun _ _ _ _ => rfl) (fun b G w hb ho => exec_field rfl (ev_on hLo 2 rfl HS29.1 rfl (hb 2 (by rfl))) (by kernel_rfl))) ?_
      refine steps_cons (st_read 4 0 _ _ rfl rfl rfl hLo rfl rfl (fun _ _ _ _ => rfl) (by rfl) (by rfl) (fun b G w hb ho hr => exec_cell hr (Nat.le_of_ble_eq_true rfl) Try.underlying3 rfl rfl (ev_on hLo 3 rfl HS29.1 rfl (hb 3 (by rfl))))) ?_
      refine steps_cons (st_run 5 _ rfl rfl hLo rfl rfl (fun _ _ _ _ => rfl) (fun b G w hb ho => exec_move (.inl rfl) (ev_off rfl (HS29.get 5 rfl)))) ?_
      refine steps_cons (st_run 6 _ rfl rfl hLo rfl rfl (fun _ _ _ _ => rfl) (fun b G w hb ho => exec_min (min_nat _ _) rfl (ev_on hLo 4 rfl HS29.1 rfl (hb 4 (by rfl))) (ev_on hLo 5 rfl HS29.1 rfl (hb 5 (by rfl))))) ?_
      refine steps_cons (st_run 7 _ rfl rfl hLo rfl rfl (fun _ _ _ _ => rfl) (fun b G w hb ho => exec_nil rfl (ev_on hLo 0 rfl HS29.1 rfl (hb 0 (by rfl))))) ?_
      refine steps_cons (st_run 8 _ rfl rfl hLo rfl rfl (fun _ _ _ _ => rfl) (fun b G w hb ho => exec_field rfl (ev_on hLo 7 rfl HS29.1 rfl (hb 7 (by rfl))) (by kernel_rfl))) ?_
      refine steps_cons (st_put 0 _ rfl rfl rfl rfl (fun _ _ _ _ => rfl) rfl rfl rfl (by rfl) (fun b G w hb ho hr => exec_put1 hr (Nat.le_of_ble_eq_true rfl) (by kernel_rfl) rfl (ev_on hLo 8 rfl HS29.1 rfl (hb 8 (by rfl))) (ev_on hLo 6 rfl HS29.1 rfl (hb 6 (by rfl))))) ?_
      exact steps_nil
    clear hLo
    intro G a30 w30 hS hH
    have HS30 : Sl a30 61 [(0, .pointer (some ⟨g, 0, none⟩)), (2, .pointer (some ⟨r2, 0, none⟩)), (3, .pointer (some ⟨r3, 0, none⟩)), (4, .int .i64 (0)), (13, .bool false), (5, .int .i64 (((cat ls).size : Int))), (6, .pointer (some ⟨ob, 0, none⟩)), (25, .int .i64 (((cat ls).size : Int))), (26, .string (cat ls))] := hS
    have HH30 : Held ⟨W, [g, r2, r3, ob]⟩ w30 [⟨g, (), 6, upd (upd (spC ⟨al, sy, false, acts, inn, keep⟩) 0 (.s ((al).extract 0 ((cat ls).size)))) 1 (.i .i64 (((min sy (cat ls).size : Nat) : Int))), 53⟩, ⟨r2, (), 1, lsc [.sl (none) (0) (0)], 25⟩, ⟨r3, (), 1, lsc [.i .i64 (0)], 26⟩, ⟨ob, (), 1, lsc [.sl (oa) (rs.length) (c)], T25⟩] := hH
    clear hS hH HS29 HH29
    refine end_ rfl ?_
    refine then_ ?_
    refine wp_seq ?_
    refine wholeD_ ?_
    have hLo : LOk [(0, 60, .val (.slice (oa) (rs.length) (c)))] := lok (by rfl) (by rfl)
    refine part_ (wE := ⟨W, [g, r2, r3, ob]⟩) (sz := 61) (n := 3) 0 3 [0, 1, 3] [(0, .val (.pointer (some ⟨g, 0, none⟩))), (2, .val (.pointer (some ⟨r2, 0, none⟩))), (3, .val (.pointer (some ⟨r3, 0, none⟩))), (4, .val (.int .i64 (0))), (13, .val (.bool false)), (5, .val (.int .i64 (((cat ls).size : Int)))), (6, .val (.pointer (some ⟨ob, 0, none⟩))), (25, .val (.int .i64 (((cat ls).size : Int)))), (26, .val (.string (cat ls)))] [(0, 60, .val (.slice (oa) (rs.length) (c)))] [⟨g, none, none, (), 6, upd (upd (spC ⟨al, sy, false, acts, inn, keep⟩) 0 (.s ((al).extract 0 ((cat ls).size)))) 1 (.i .i64 (((min sy (cat ls).size : Nat) : Int))), upd (upd (spC ⟨al, sy, false, acts, inn, keep⟩) 0 (.s ((al).extract 0 ((cat ls).size)))) 1 (.i .i64 (((min sy (cat ls).size : Nat) : Int))), 53⟩, ⟨r2, none, some 1, (), 1, lsc [.sl (none) (0) (0)], upd (lsc [.sl (none) (0) (0)]) 0 (.sl (oa) (rs.length) (c)), 25⟩, ⟨r3, none, some 2, (), 1, lsc [.i .i64 (0)], upd (lsc [.i .i64 (0)]) 0 (.i .i64 (0)), 26⟩, ⟨ob, none, none, (), 1, lsc [.sl (oa) (rs.length) (c)], lsc [.sl (oa) (rs.length) (c)], T25⟩] rfl rfl (by rfl) HH30 rfl rfl hLo rfl HS30 (slS 0 rfl rfl (slS 1 rfl rfl (slS 2 rfl rfl (slS 3 rfl rfl (slS 4 rfl rfl (slS 5 rfl rfl (slS 6 rfl rfl (slS 7 rfl rfl (slS 8 rfl rfl (trivial)))))))))) ?_ ?_
    · show ∀ i ∈ [0, 1, 2], _
      refine steps_cons (st_read 0 3 _ _ rfl rfl rfl hLo rfl rfl (fun _ _ _ _ => rfl) (by rfl) (by rfl) (fun b G w hb ho hr => exec_cell hr (Nat.le_of_ble_eq_true rfl) Try.underlying25 rfl rfl (ev_off rfl (HS30.get 6 rfl)))) ?_
      refine steps_cons (st_put 1 _ rfl rfl rfl rfl (fun _ _ _ _ => rfl) rfl rfl rfl (by rfl) (fun b G w hb ho hr => exec_put1 hr (Nat.le_of_ble_eq_true rfl) (by kernel_rfl) rfl (ev_off rfl (HS30.get 1 rfl)) (ev_on hLo 0 rfl HS30.1 rfl (hb 0 (by rfl))))) ?_
      refine steps_cons (st_put 2 _ rfl rfl rfl rfl (fun _ _ _ _ => rfl) rfl rfl rfl (by rfl) (fun b G w hb ho hr => exec_put1 hr (Nat.le_of_ble_eq_true rfl) (by kernel_rfl) rfl (ev_off rfl (HS30.get 2 rfl)) (rfl))) ?_
      exact steps_nil
    clear hLo
    intro G a31 w31 hS hH
    have HS31 : Sl a31 61 [(0, .pointer (some ⟨g, 0, none⟩)), (2, .pointer (some ⟨r2, 0, none⟩)), (3, .pointer (some ⟨r3, 0, none⟩)), (4, .int .i64 (0)), (13, .bool false), (5, .int .i64 (((cat ls).size : Int))), (6, .pointer (some ⟨ob, 0, none⟩)), (25, .int .i64 (((cat ls).size : Int))), (26, .string (cat ls))] := hS
    have HH31 : Held ⟨W, [g, r2, r3, ob]⟩ w31 [⟨g, (), 6, upd (upd (spC ⟨al, sy, false, acts, inn, keep⟩) 0 (.s ((al).extract 0 ((cat ls).size)))) 1 (.i .i64 (((min sy (cat ls).size : Nat) : Int))), 53⟩, ⟨r2, (), 1, upd (lsc [.sl (none) (0) (0)]) 0 (.sl (oa) (rs.length) (c)), 25⟩, ⟨r3, (), 1, upd (lsc [.i .i64 (0)]) 0 (.i .i64 (0)), 26⟩, ⟨ob, (), 1, lsc [.sl (oa) (rs.length) (c)], T25⟩] := hH
    clear hS hH HS30 HH30
    refine end_ rfl ?_
    refine then_ ?_
    refine wp_ret ?_
    repeat (first | refine then_ret ?_ | refine inBlock_ret' ?_)
    have hKN := (HH31.1.block D (Array.getElem?_eq_some_iff.1 hK).1 (by have := hL.p_b; have q1 := ix.p_lt; have q2 := nodefer hL.p_g hK; have q3 := nodefer hL.p_r2 hK; have q4 := nodefer hL.p_r3 hK; have q5 := nodefer hL.p_ob hK; simp; omega)).trans hK
    exact b_mark HS31.2.1 hKN (results2 (by rfl) Try.underlying25 rfl Try.underlying26 rfl (HS31.get 1 rfl) (HS31.get 2 rfl) ((HH31.row 1 rfl).put _ hKN rfl) ((HH31.row 2 rfl).put _ hKN rfl)) (open_good ix hL hrs hD hKN HH31.1 ((HH31.row 0 rfl).norm (six ⟨congrArg SC.s he, rfl, rfl, rfl, rfl, rfl⟩)))
  case stop =>
    rintro D pre W hD ⟨t, ht⟩ ⟨hn, hX⟩ hK
    rw [Ad_eq HS8]
    rw [hB] at hD
    refine wpIn_ret ?_
    repeat (first | refine then_ret ?_ | refine inBlock_ret' ?_)
    exact b_mark HS8.2.1 hK (results2 (by rfl) Try.underlying25 rfl Try.underlying26 rfl (HS8.get 2 rfl) (HS8.get 3 rfl) (hX.p_r2.put _ hK rfl) (hX.p_r3.put _ hK rfl)) (open_bad ix hX (by rw [← ht]; exact hn t) hD hK)
theorem cut_bytes {P : Program} {ops : Array Oper} {Q : Exit → Act → World → Prop} {i : Nat} {N : Tmp} {sz : Nat} {S : List (Tmp × Value)} {a : Act} {w : World} {oi : Oper} {src dst e : TypeId} {x : Operand} {u : TypeDesc} {s : ByteArray} (hoi : ops[i]? = some oi) (hN : oi.dst = some N) (ho : oi.op = .convert src dst x) (hw : Region.wanted oi (yielded ops a.tmps) = true) (hx : a.eval x = .string s) (hsr : P.underlying src = some u) (hd : P.underlying dst = some (.slice e)) (he : P.underlying e = some (.int .u8)) (hsz : s.size ≤ 1073741824) (hS : Sl a sz S) (hNs : Nat.ble (N + 1) sz = true)
    (h : ∀ v w', BR w' v s → Below w.heap.size w w' → ∀ a', Sl a' sz ((N, v) :: S.filter fun e => !(e.1 == N)) → wpList P ops Q (ops.toList.drop (i + 1)) a' w') : wpList P ops Q (ops.toList.drop i) a w := by
  obtain ⟨v, w', hr, hbr, hb⟩ := exec_bytes (w := w) (ev := a.eval) ho hx hsr hd he hsz
  exact cut_run hoi hN hw hr hS hNs (h v w' hbr hb)
theorem line_calls {w : World} {r : ByteArray} (hs : r.size ≤ 1073741824) : Calls Try.prog 15 #[.string r] w fun e w' => e = .returned (.string (lineS r)) ∧ Below w.heap.size w w' := by
  refine enter_ 7 Try.func15 rfl rfl (fun a0 hS => ?_)
  have HS0 : Sl a0 7 [(0, .string (r))] := hS
  have HH0 : Held ⟨w, []⟩ w [] := Held.first w []
  clear hS
  refine wp_seq ?_
  have hLo : LOk [(0, 2, .val (.string (ByteArray.empty)))] := lok (by rfl) (by rfl)
  refine plain_ (wE := ⟨w, []⟩) (sz := 7) (n := 1) [0] [(0, .val (.string (r))), (2, .val (.string (ByteArray.empty)))] [(0, 2, .val (.string (ByteArray.empty)))] [] rfl (by rfl) HH0 rfl rfl hLo rfl HS0 (slS 0 rfl rfl (slL 0 (d := 0) rfl (trivial))) ?_ ?_
  · show ∀ i ∈ [0], _
    refine steps_cons (st_run 0 _ rfl rfl hLo rfl rfl (fun _ _ _ _ => rfl) (fun b G w hb ho => exec_move (.inr rfl) (rfl))) ?_
    exact steps_nil
  clear hLo
  intro G a1 w1 hS hH
  have HS1 : Sl a1 7 [(0, .string (r)), (2, .string (ByteArray.empty))] := hS
  have HH1 : Held ⟨w, []⟩ w1 [] := hH
  clear hS hH HS0 HH0
  refine then_ ?_
  refine wp_seq ?_
  refine whole_ ?_
  have hLo : LOk [(0, 3, .val (.string (r)))] := lok (by rfl) (by rfl)
  refine part_ (wE := ⟨w, []⟩) (sz := 7) (n := 5) 0 1 [0, 1, 3, 7, 15] [(0, .val (.string (r))), (2, .val (.string (ByteArray.empty))), (3, .val (.string (r)))] [(0, 3, .val (.string (r)))] [] rfl rfl (by rfl) HH1 rfl rfl hLo rfl HS1 (slS 0 rfl rfl (slS 1 rfl rfl (slL 0 (d := 0) rfl (trivial)))) ?_ ?_
  · show ∀ i ∈ [0], _
    refine steps_cons (st_run 0 _ rfl rfl hLo rfl rfl (fun _ _ _ _ => rfl) (fun b G w hb ho => exec_move (.inl rfl) (ev_off rfl (HS1.get 0 rfl)))) ?_
    exact steps_nil
  clear hLo
  intro G a2 w2 hS hH
  have HS2 : Sl a2 7 [(0, .string (r)), (2, .string (ByteArray.empty)), (3, .string (r))] := hS
  have HH2 : Held ⟨w, []⟩ w2 [] := hH
  clear hS hH HS1 HH1
  refine cut_bytes rfl rfl rfl rfl (HS2.get 2 rfl) Try.underlying9 Try.underlying58 Try.underlying5 hs HS2 rfl ?_
  intro vb3 wb3 hBR3 hbb3 a3 hS
  have HS4 : Sl a3 7 [(4, vb3), (0, .string (r)), (2, .string (ByteArray.empty)), (3, .string (r))] := hS
  have HH4 : Held ⟨w, []⟩ wb3 [] := HH2.call hbb3
  clear hS
  refine cut_call _ rfl rfl rfl rfl Try.func35 rfl rfl (args2 (HS4.get 0 rfl) rfl) (br_renc hBR3 hs) HS4 rfl ?_
  rintro e5 w5 ⟨rfl, hbe1⟩
  refine ⟨_, rfl, fun a5 hS => ?_⟩
  have HS6 : Sl a5 7 [(5, .string (encS (bytesOf (r)) true)), (4, vb3), (0, .string (r)), (2, .string (ByteArray.empty)), (3, .string (r))] := hS
  have HH6 : Held ⟨w, []⟩ w5 [] := HH4.call hbe1
  clear hS
  have hLo : LOk [(3, 6, .val (.string ((encS (bytesOf (r)) true) ++ (⟨#[10]⟩)))), (4, 2, .val (.string ((encS (bytesOf (r)) true) ++ (⟨#[10]⟩))))] := lok (by rfl) (by rfl)
  refine part_ (wE := ⟨w, []⟩) (sz := 7) (n := 5) 3 5 [0, 1, 3, 7, 15] [(0, .val (.string (r))), (2, .val (.string ((encS (bytesOf (r)) true) ++ (⟨#[10]⟩))))] [(3, 6, .val (.string ((encS (bytesOf (r)) true) ++ (⟨#[10]⟩)))), (4, 2, .val (.string ((encS (bytesOf (r)) true) ++ (⟨#[10]⟩))))] [] rfl rfl (by rfl) HH6 rfl rfl hLo rfl HS6 (slS 2 rfl rfl (slL 1 (d := 4) rfl (trivial))) ?_ ?_
  · show ∀ i ∈ [3, 4], _
    refine steps_cons (st_run 0 _ rfl rfl hLo rfl rfl (fun _ _ _ _ => rfl) (fun b G w hb ho => exec_bin rfl (ev_off rfl (HS6.get 0 rfl)) (rfl) (rb_sadd ((by rw [enc_size]; have := encLen_le r.size; show _ + 1 ≤ _; omega)) _ _ _))) ?_
    refine steps_cons (st_run 1 _ rfl rfl hLo rfl rfl (fun _ _ _ _ => rfl) (fun b G w hb ho => exec_move (.inr rfl) (ev_on hLo 0 rfl HS6.1 rfl (hb 3 (by rfl))))) ?_
    exact steps_nil
  clear hLo
  intro G a7 w7 hS hH
  have HS7 : Sl a7 7 [(0, .string (r)), (2, .string ((encS (bytesOf (r)) true) ++ (⟨#[10]⟩)))] := hS
  have HH7 : Held ⟨w, []⟩ w7 [] := hH
  clear hS hH HS6 HH6
  refine end_ rfl ?_
  refine then_ ?_
  refine wp_ret ?_
  repeat (first | refine then_ret ?_ | refine inBlock_ret' ?_)
  exact b_tmp rfl HS7.2.1 (HS7.get 1 rfl) ⟨rfl, HH7.1.below⟩
end Go.Proofs.Ytdleomeiojlooaa.P
end
