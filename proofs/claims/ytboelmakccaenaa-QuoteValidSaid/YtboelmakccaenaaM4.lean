/- What the document's Decode computes: the same bytes. -/
import Derived.Test.YtboelmakccaenaaM3
import Derived.Test.YtboelmakccaenaaG30
namespace Go.Proofs.Ytboelmakccaenaa.P
set_option linter.unusedVariables false
open Go.RowKit Go.Proofs.YtboelmakccaenaaW.PrintWords Go.Proofs.YtboelmakccaenaaW.PrintLast Go.Proofs.YtboelmakccaenaaW.PrintMore
theorem val_ltr : ∀ (u : Bool) (n : Fin 64), valOf u (ltr u (n.val : Int)) = some (n.val : Int) := by decide +kernel
theorem ltr_val_all : ∀ (u : Bool) (c : Fin 128), ∀ v, valOf u (c.val : Int) = some v → ltr u v = (c.val : Int) := by
  have h : ∀ (u : Bool) (c : Fin 128), (match valOf u (c.val : Int) with | some v => decide (ltr u v = (c.val : Int)) | none => true) = true := by decide +kernel
  intro u c v hv
  have := h u c
  rw [hv] at this
  simpa using this
theorem ltr_val {u : Bool} {c v : Int} (h : valOf u c = some v) : ltr u v = c := by
  have hr := valOf_range h
  have := ltr_val_all u ⟨c.toNat, by omega⟩ v (by simp; rw [show max c 0 = c from by omega]; exact h)
  simp at this
  omega
/-- The search for a letter. -/
theorem ref_find {u : Bool} {s : ByteArray} {xs : List Int} {i : Nat} (hi : i < s.size) {r : List Int × Bool} (h : Ev (fun k => match valOf u (bt s i) with | some v => hustingsref01_Decode.l2 k s u xs i v 0 | none => some (([] : List Int), false)) r) :
    ∀ (d n : Nat), n + d = 64 → (∀ v, valOf u (bt s i) = some v → (n : Int) ≤ v) → Ev (fun k => hustingsref01_Decode.l1 k s u xs i n) r := by
  intro d
  induction d with
  | zero =>
    intro n hn hv
    have : n = 64 := by omega
    subst this
    refine Ev.step (f := fun k => hustingsref01_Decode.j2 k s u xs i 64) (fun k => by simp only [hustingsref01_Decode.l1]; rw [if_neg (by omega)]; rfl) ?_
    rcases hx : valOf u (bt s i) with _ | v
    · rw [hx] at h
      exact Ev.step (f := fun _ => some (([] : List Int), false)) (fun k => by simp only [hustingsref01_Decode.j2]; rw [if_pos trivial]) h
    · have := hv v hx
      have := valOf_range hx
      omega
  | succ d ih =>
    intro n hn hv
    have hl : hustingsref01_Letter.f (n : Int) u = some (ltr u n) := letter_at u n (by omega) (by omega)
    by_cases he : ltr u n = bt s i
    · have hx : valOf u (bt s i) = some (n : Int) := by rw [← he]; exact val_ltr u ⟨n, by omega⟩
      rw [hx] at h
      refine Ev.step (f := fun k => hustingsref01_Decode.j2 k s u xs i n) (fun k => by simp only [hustingsref01_Decode.l1]; rw [if_pos (by omega), hl]; simp only [Option.bind_some]; rw [if_pos (by omega), if_pos (by omega), if_pos he]) ?_
      exact Ev.step (f := fun k => hustingsref01_Decode.l2 k s u xs i n 0) (fun k => by simp only [hustingsref01_Decode.j2]; rw [if_neg (by omega)]) h
    · refine Ev.step (f := fun k => hustingsref01_Decode.l1 k s u xs i ((n + 1 : Nat) : Int)) (fun k => by simp only [hustingsref01_Decode.l1]; rw [if_pos (by omega), hl]; simp only [Option.bind_some]; rw [if_pos (by omega), if_pos (by omega), if_neg he, show wrap64 ((n : Int) + 1) = ((n + 1 : Nat) : Int) from by unfold wrap64; omega]) ?_
      refine ih (n + 1) (by omega) (fun v hx => ?_)
      have h1 := hv v hx
      by_cases h2 : v = n
      · exfalso; apply he; rw [← h2]; exact ltr_val hx
      · omega
theorem i64_and1 (x : Int) (h0 : 0 ≤ x) (h1 : x < 64) : Go.bits .and .i64 x 1 = x % 2 := and1_i64 x h0 (by omega)
/-- The bit number j of six. -/
def sb (v : Int) (j : Nat) : Int := v / 2 ^ (5 - j) % 2
theorem sb_range (v : Int) (j : Nat) : 0 ≤ sb v j ∧ sb v j ≤ 1 := by unfold sb; omega
theorem ref_bit (v : Int) (j : Nat) (hj : j < 6) (h0 : 0 ≤ v) (h1 : v < 64) : 0 ≤ (IntKind.u64.wrap (wrap64 (5 - (j : Int)))) ∧ Go.bits .and .i64 (shr .i64 v (IntKind.u64.wrap (wrap64 (5 - (j : Int))))) 1 = sb v j := by
  have e1 : wrap64 (5 - (j : Int)) = ((5 - j : Nat) : Int) := by unfold wrap64; omega
  have e2 : IntKind.u64.wrap ((5 - j : Nat) : Int) = ((5 - j : Nat) : Int) := u64_id _ (by omega) (by omega)
  rw [e1, e2]
  have e3 : shr .i64 v ((5 - j : Nat) : Int) = v / 2 ^ (5 - j) := by
    unfold shr; rw [Nat.min_eq_left (by simp [IntKind.bits]; omega)]; simp
  have hp : (0 : Int) < 2 ^ (5 - j) := Int.pow_pos (by omega)
  have a := Int.ediv_nonneg h0 (Int.le_of_lt hp)
  have b := Int.ediv_le_self (2 ^ (5 - j)) h0
  rw [e3, i64_and1 _ a (by omega)]
  exact ⟨by omega, rfl⟩
theorem place (i j : Nat) (hi : i ≤ 1099511627776) (hj : j < 6) : wrap64 ((wrap64 (6 * (i : Int))) + (j : Int)) = ((6 * i + j : Nat) : Int) := by unfold wrap64; omega
theorem place_q (p : Nat) (hp : p ≤ 8796093022208) : wrap64 (Int.tdiv (p : Int) 8) = ((p / 8 : Nat) : Int) := by
  rw [Int.tdiv_eq_ediv_of_nonneg (by omega)]; unfold wrap64; omega
theorem place_r (p : Nat) : IntKind.u64.wrap (Int.tmod (p : Int) 8) = ((p % 8 : Nat) : Int) := by
  rw [Int.tmod_eq_emod_of_nonneg (by omega), u64_id _ (by omega) (by omega)]; omega
theorem shr128 (r : Nat) (hr : r < 8) : shr .u8 128 (r : Int) = 2 ^ (7 - r) := by
  unfold shr
  rw [Nat.min_eq_left (by simp [IntKind.bits]; omega)]
  match r, hr with
  | 0, _ => rfl
  | 1, _ => rfl
  | 2, _ => rfl
  | 3, _ => rfl
  | 4, _ => rfl
  | 5, _ => rfl
  | 6, _ => rfl
  | 7, _ => rfl
theorem or_u8 (y : Int) (r : Nat) (hr : r < 8) (h0 : 0 ≤ y) (h1 : y ≤ 255) (hy : y % 2 ^ (8 - r) = 0) : Go.bits .or .u8 y (2 ^ (7 - r)) = y + 2 ^ (7 - r) := by
  match r, hr, hy with
  | 0, _, hy => exact bits_join .u8 8 (by decide) wraps_u8 8 y 128 h0 (by simpa using hy) (by omega) (by decide) (by decide) (by decide)
  | 1, _, hy => exact bits_join .u8 8 (by decide) wraps_u8 7 y 64 h0 (by simpa using hy) (by omega) (by decide) (by decide) (by decide)
  | 2, _, hy => exact bits_join .u8 8 (by decide) wraps_u8 6 y 32 h0 (by simpa using hy) (by omega) (by decide) (by decide) (by decide)
  | 3, _, hy => exact bits_join .u8 8 (by decide) wraps_u8 5 y 16 h0 (by simpa using hy) (by omega) (by decide) (by decide) (by decide)
  | 4, _, hy => exact bits_join .u8 8 (by decide) wraps_u8 4 y 8 h0 (by simpa using hy) (by omega) (by decide) (by decide) (by decide)
  | 5, _, hy => exact bits_join .u8 8 (by decide) wraps_u8 3 y 4 h0 (by simpa using hy) (by omega) (by decide) (by decide) (by decide)
  | 6, _, hy => exact bits_join .u8 8 (by decide) wraps_u8 2 y 2 h0 (by simpa using hy) (by omega) (by decide) (by decide) (by decide)
  | 7, _, hy => exact bits_join .u8 8 (by decide) wraps_u8 1 y 1 h0 (by simpa using hy) (by omega) (by decide) (by decide) (by decide)
/-- A round inside the bytes. -/
theorem ref_in {u : Bool} {s : ByteArray} {out zs : List Int} {y v : Int} {i j r : Nat} (hi : i ≤ 1099511627776) (hj : j < 6) (hp : 6 * i + j = 8 * out.length + r) (hr : r < 8) (hv0 : 0 ≤ v) (hv1 : v < 64) (h0 : 0 ≤ y) (h1 : y ≤ 255) (hy : y % 2 ^ (8 - r) = 0) (k : Nat) :
    hustingsref01_Decode.l2 (k + 1) s u (out ++ y :: zs) i v j = hustingsref01_Decode.l2 k s u (out ++ (y + sb v j * 2 ^ (7 - r)) :: zs) i v ((j + 1 : Nat) : Int) := by
  have hq : (6 * i + j) / 8 = out.length := by omega
  have hr' : (6 * i + j) % 8 = r := by omega
  have e1 : wrap64 ((j : Int) + 1) = ((j + 1 : Nat) : Int) := by unfold wrap64; omega
  obtain ⟨X, hX⟩ : ∃ X, X = out ++ y :: zs := ⟨_, rfl⟩
  have hl : (out.length : Int) < (X.length : Int) := by rw [hX]; simp; omega
  have hrd : rd X (out.length : Int) = y := by rw [hX]; simp [rd]
  have hset : ∀ z, X.set ((out.length : Int)).toNat z = out ++ z :: zs := fun z => by rw [hX]; simp
  have hl2 : ¬ ((out.length : Int) ≥ (X.length : Int)) := by omega
  have h02 : (0 : Int) ≤ (out.length : Int) := by omega
  have h03 : (0 : Int) ≤ (r : Int) := by omega
  have h04 : (j : Int) < 6 := by omega
  have h05 : 6 * i + j ≤ 8796093022208 := by omega
  have h06 : y + 0 * 2 ^ (7 - r) = y := by rw [Int.zero_mul, Int.add_zero]
  have h07 : y + 1 * 2 ^ (7 - r) = y + 2 ^ (7 - r) := by rw [Int.one_mul]
  have hsb := sb_range v j
  have hb1 : ¬ sb v j = 0 → sb v j = 1 := by omega
  obtain ⟨b0, b1⟩ := ref_bit v j hj hv0 hv1
  by_cases hb : sb v j = 0
  · rw [← hX, hb, h06, ← hX]
    simp only [hustingsref01_Decode.l2]
    rw [if_pos h04, if_pos b0, b1, e1, if_pos hb]
  · rw [hb1 hb, h07, ← or_u8 y r hr h0 h1 hy, ← hset (Go.bits .or .u8 y (2 ^ (7 - r))), ← hX]
    simp only [hustingsref01_Decode.l2]
    rw [if_pos h04, if_pos b0, b1, place i j hi hj, place_q _ h05, place_r, hq, hr', e1, if_neg hb, if_neg hl2, if_pos h02, if_pos hl, if_pos h03, hrd, shr128 r hr]
/-- The rounds behind the bytes. -/
theorem ref_over {u : Bool} {s : ByteArray} {out : List Int} {v : Int} {i : Nat} (hi : i ≤ 1099511627776) (hv0 : 0 ≤ v) (hv1 : v < 64) {res : List Int × Bool} :
    ∀ (m j : Nat), j + m = 6 → 8 * out.length ≤ 6 * i + j →
    Ev (fun k => if v % 2 ^ m = 0 then hustingsref01_Decode.l0 k s u out ((i + 1 : Nat) : Int) else some (([] : List Int), false)) res → Ev (fun k => hustingsref01_Decode.l2 k s u out i v j) res := by
  intro m
  induction m with
  | zero =>
    intro j hj hp h
    refine Ev.step (fun k => ?_) h
    have e1 : wrap64 ((i : Int) + 1) = ((i + 1 : Nat) : Int) := by unfold wrap64; omega
    simp only [hustingsref01_Decode.l2]
    rw [if_neg (by omega), if_pos (by omega), e1]
  | succ m ih =>
    intro j hj hp h
    obtain ⟨b0, b1⟩ := ref_bit v j (by omega) hv0 hv1
    have hsb := sb_range v j
    have e1 : wrap64 ((j : Int) + 1) = ((j + 1 : Nat) : Int) := by unfold wrap64; omega
    have hm : m = 5 - j := by omega
    have hsv : v % 2 ^ (m + 1) = sb v j * 2 ^ m + v % 2 ^ m := by
      unfold sb
      rw [← hm]
      have h6 : m = 0 ∨ m = 1 ∨ m = 2 ∨ m = 3 ∨ m = 4 ∨ m = 5 := by omega
      clear ih hm hj hp h b0 b1 hsb e1
      rcases h6 with rfl | rfl | rfl | rfl | rfl | rfl <;> simp <;> omega
    by_cases hb : sb v j = 0
    · refine Ev.step (f := fun k => hustingsref01_Decode.l2 k s u out i v ((j + 1 : Nat) : Int)) (fun k => ?_) (ih (j + 1) (by omega) (by omega) ?_)
      · simp only [hustingsref01_Decode.l2]
        rw [if_pos (by omega), if_pos b0, b1, if_pos hb, e1]
      · rw [hsv, hb] at h
        simpa using h
    · have hb1 : sb v j = 1 := by omega
      have hpos : (0 : Int) < 2 ^ m := Int.pow_pos (by omega)
      have hnn : 0 ≤ v % 2 ^ m := Int.emod_nonneg _ (by omega)
      rw [hsv, hb1] at h
      have hne : ¬ (1 * 2 ^ m + v % 2 ^ m = 0) := by omega
      simp only [if_neg hne] at h
      refine Ev.step (fun k => ?_) h
      simp only [hustingsref01_Decode.l2]
      rw [if_pos (by omega), if_pos b0, b1, if_neg hb, place i j hi (by omega), place_q _ (by omega), if_pos (by omega)]
theorem ref_in_ev {u : Bool} {s : ByteArray} {out zs : List Int} {y v : Int} {i : Nat} (j r : Nat) (hi : i ≤ 1099511627776) (hj : j < 6) (hp : 6 * i + j = 8 * out.length + r) (hr : r < 8) (hv0 : 0 ≤ v) (hv1 : v < 64) (h0 : 0 ≤ y) (h1 : y ≤ 255) (hy : y % 2 ^ (8 - r) = 0) {res : List Int × Bool}
    (h : Ev (fun k => hustingsref01_Decode.l2 k s u (out ++ (y + sb v j * 2 ^ (7 - r)) :: zs) i v ((j + 1 : Nat) : Int)) res) : Ev (fun k => hustingsref01_Decode.l2 k s u (out ++ y :: zs) i v j) res :=
  Ev.step (fun k => ref_in hi hj hp hr hv0 hv1 h0 h1 hy k) h
theorem ref_exit {u : Bool} {s : ByteArray} {xs : List Int} {v : Int} {i : Nat} (hi : i ≤ 1099511627776) {res : List Int × Bool} (h : Ev (fun k => hustingsref01_Decode.l0 k s u xs ((i + 1 : Nat) : Int)) res) : Ev (fun k => hustingsref01_Decode.l2 k s u xs i v ((6 : Nat) : Int)) res := by
  refine Ev.step (fun k => ?_) h
  have e1 : wrap64 ((i : Int) + 1) = ((i + 1 : Nat) : Int) := by unfold wrap64; omega
  simp only [hustingsref01_Decode.l2]
  rw [if_neg (by omega), e1]
def part (h b : Int) : Nat → List Int
  | 0 => []
  | Z + 1 => (h * 2 ^ (8 - b).toNat) :: List.replicate Z 0
def resOf (o : Option (List Int)) : List Int × Bool := (o.getD [], o.isSome)
theorem sb_all (v : Int) (h0 : 0 ≤ v) (h1 : v < 64) : sb v 0 = v / 32 ∧ sb v 1 = v / 16 % 2 ∧ sb v 2 = v / 8 % 2 ∧ sb v 3 = v / 4 % 2 ∧ sb v 4 = v / 2 % 2 ∧ sb v 5 = v % 2 := by
  unfold sb; simp; omega
set_option maxHeartbeats 2000000 in
theorem ref_dec (u : Bool) (s : ByteArray) (hs : s.size ≤ 1073741824) : ∀ (t : List Int) (i : Nat) (out : List Int) (h b : Int) (Z : Nat), i ≤ s.size → (bytesOf s).drop i = t → Held h b → 6 * (i : Int) = 8 * (out.length : Int) + b →
    8 * (out.length + Z) ≤ 6 * s.size → 6 * s.size < 8 * (out.length + Z) + 8 → (Z = 0 → h = 0) → Ev (fun k => hustingsref01_Decode.l0 k s u (out ++ part h b Z) i) (resOf (decGo u t out h b)) := by
  intro t
  induction t with
  | nil =>
    intro i out h b Z hin hd hh hb hZ0 hZ1 hz
    have hlen := drop_nil hd
    rw [bytesOf_length] at hlen
    have hb6 : 0 ≤ b ∧ b ≤ 6 := by unfold Held at hh; omega
    have hi : i = s.size := by omega
    have hZ : Z = 0 := by omega
    have h0 := hz hZ
    subst hZ
    subst h0
    simp only [part, List.append_nil]
    by_cases hm : (s.size : Int) % 4 = 1
    · have hb' : b = 6 := by unfold Held at hh; omega
      refine Ev.step (f := fun _ => some (([] : List Int), false)) (fun k => ?_) (by subst hb'; exact Ev.now _)
      simp only [hustingsref01_Decode.l0]
      rw [if_neg (by omega), if_pos hm]
    · have hb' : ¬ 6 ≤ b := by unfold Held at hh; omega
      have hdn : decGo u [] out 0 b = some out := by simp [decGo]; omega
      rw [hdn]
      refine Ev.step (f := fun _ => some (out, true)) (fun k => ?_) (Ev.now _)
      simp only [hustingsref01_Decode.l0]
      rw [if_neg (by omega), if_neg hm]
  | cons c t ih =>
    intro i out h b Z hin hd hh hb hZ0 hZ1 hz
    obtain ⟨hlt, hrd, hd1⟩ := drop_cons hd
    rw [bytesOf_length] at hlt
    rw [rd_bytesOf] at hrd
    refine Ev.step (f := fun k => hustingsref01_Decode.l1 k s u (out ++ part h b Z) i ((0 : Nat) : Int)) (fun k => by simp only [hustingsref01_Decode.l0]; rw [if_pos (by omega)]; rfl) ?_
    refine ref_find hlt ?_ 64 0 (by omega) (fun v hv => by have := valOf_range hv; omega)
    rw [hrd]
    rcases hv : valOf u c with _ | v
    · simp only [decGo, hv]
      exact Ev.now _
    · have hr := valOf_range hv
      have hv0 := hr.1
      have hv1 := hr.2.1
      have hi : i ≤ 1099511627776 := by omega
      obtain ⟨q0, q1, q2, q3, q4, q5⟩ := sb_all v hv0 hv1
      have htl : i + 1 ≥ s.size → t = [] := fun hge => by rw [← hd1]; exact List.drop_eq_nil_of_le (by rw [bytesOf_length]; omega)
      rcases hh with ⟨rfl, rfl⟩ | ⟨rfl, hh0, hh1⟩ | ⟨rfl, hh0, hh1⟩ | ⟨rfl, hh0, hh1⟩
      · have hg : decGo u (c :: t) out 0 0 = decGo u t out v 6 := by simp [decGo, hv]
        rw [hg]
        rcases Z with _ | Z
        · have ht := htl (by omega)
          simp only [part, List.append_nil]
          refine ref_over hi hv0 hv1 6 0 (by omega) (by omega) ?_
          by_cases hv2 : v % 2 ^ 6 = 0
          · simp only [if_pos hv2]
            have hvz : v = 0 := by simp at hv2; omega
            subst hvz
            have := ih (i + 1) out 0 6 0 (by omega) hd1 (.inr (.inr (.inr ⟨rfl, by omega, by omega⟩))) (by omega) (by omega) (by omega) (fun _ => rfl)
            simpa only [part, List.append_nil] using this
          · simp only [if_neg hv2]
            rw [ht]
            simp only [decGo, if_true, show (6 : Int) ≤ 6 from by omega, true_or]
            exact Ev.now _
        · simp only [part, Int.zero_mul]
          refine ref_in_ev 0 0 hi (by omega) (by omega) (by omega) hv0 hv1 (by omega) (by omega) (by omega) ?_
          refine ref_in_ev 1 1 hi (by omega) (by omega) (by omega) hv0 hv1 (by simp <;> omega) (by simp <;> omega) (by simp <;> omega) ?_
          refine ref_in_ev 2 2 hi (by omega) (by omega) (by omega) hv0 hv1 (by simp <;> omega) (by simp <;> omega) (by simp <;> omega) ?_
          refine ref_in_ev 3 3 hi (by omega) (by omega) (by omega) hv0 hv1 (by simp <;> omega) (by simp <;> omega) (by simp <;> omega) ?_
          refine ref_in_ev 4 4 hi (by omega) (by omega) (by omega) hv0 hv1 (by simp <;> omega) (by simp <;> omega) (by simp <;> omega) ?_
          refine ref_in_ev 5 5 hi (by omega) (by omega) (by omega) hv0 hv1 (by simp <;> omega) (by simp <;> omega) (by simp <;> omega) ?_
          refine ref_exit hi ?_
          have := ih (i + 1) out v 6 (Z + 1) (by omega) hd1 (.inr (.inr (.inr ⟨rfl, by omega, by omega⟩))) (by omega) (by omega) (by omega) (fun h => by omega)
          simp only [part] at this
          refine cast (congrArg (fun x => Ev (fun k => hustingsref01_Decode.l0 k s u (out ++ x :: List.replicate Z 0) ((i + 1 : Nat) : Int)) (resOf (decGo u t out v 6))) ?_) this
          simp
          omega
      · have hg : decGo u (c :: t) out h 2 = decGo u t (out ++ [h * 64 + v]) 0 0 := by simp [decGo, hv]
        rw [hg]
        rcases Z with _ | Z
        · omega
        · simp only [part]
          refine ref_in_ev 0 2 hi (by omega) (by omega) (by omega) hv0 hv1 (by simp <;> omega) (by simp <;> omega) (by simp <;> omega) ?_
          refine ref_in_ev 1 3 hi (by omega) (by omega) (by omega) hv0 hv1 (by simp <;> omega) (by simp <;> omega) (by simp <;> omega) ?_
          refine ref_in_ev 2 4 hi (by omega) (by omega) (by omega) hv0 hv1 (by simp <;> omega) (by simp <;> omega) (by simp <;> omega) ?_
          refine ref_in_ev 3 5 hi (by omega) (by omega) (by omega) hv0 hv1 (by simp <;> omega) (by simp <;> omega) (by simp <;> omega) ?_
          refine ref_in_ev 4 6 hi (by omega) (by omega) (by omega) hv0 hv1 (by simp <;> omega) (by simp <;> omega) (by simp <;> omega) ?_
          refine ref_in_ev 5 7 hi (by omega) (by omega) (by omega) hv0 hv1 (by simp <;> omega) (by simp <;> omega) (by simp <;> omega) ?_
          refine ref_exit hi ?_
          have := ih (i + 1) (out ++ [h * 64 + v]) 0 0 Z (by omega) hd1 (.inl ⟨rfl, rfl⟩) (by simp <;> omega) (by simp <;> omega) (by simp <;> omega) (fun h => rfl)
          have hpz : part 0 0 Z = List.replicate Z 0 := by cases Z <;> simp [part, List.replicate_succ]
          rw [hpz, List.append_assoc] at this
          refine cast (congrArg (fun x => Ev (fun k => hustingsref01_Decode.l0 k s u (out ++ x :: List.replicate Z 0) ((i + 1 : Nat) : Int)) (resOf (decGo u t (out ++ [h * 64 + v]) 0 0))) ?_) this
          simp
          omega
      · have hg : decGo u (c :: t) out h 4 = decGo u t (out ++ [(h * 64 + v) / 4]) ((h * 64 + v) % 4) 2 := by simp [decGo, hv]
        rw [hg]
        rcases Z with _ | Z
        · omega
        · simp only [part]
          refine ref_in_ev 0 4 hi (by omega) (by omega) (by omega) hv0 hv1 (by simp <;> omega) (by simp <;> omega) (by simp <;> omega) ?_
          refine ref_in_ev 1 5 hi (by omega) (by omega) (by omega) hv0 hv1 (by simp <;> omega) (by simp <;> omega) (by simp <;> omega) ?_
          refine ref_in_ev 2 6 hi (by omega) (by omega) (by omega) hv0 hv1 (by simp <;> omega) (by simp <;> omega) (by simp <;> omega) ?_
          refine ref_in_ev 3 7 hi (by omega) (by omega) (by omega) hv0 hv1 (by simp <;> omega) (by simp <;> omega) (by simp <;> omega) ?_
          refine cast (congrArg (fun x => Ev (fun k => hustingsref01_Decode.l2 k s u (out ++ x :: List.replicate Z 0) i v ((4 : Nat) : Int)) (resOf (decGo u t (out ++ [(h * 64 + v) / 4]) ((h * 64 + v) % 4) 2))) (show (h * 64 + v) / 4 = _ from ?_)) ?_
          · simp; omega
          rw [← List.singleton_append, ← List.append_assoc]
          rcases Z with _ | Z
          · have ht := htl (by omega)
            simp only [List.replicate_zero, List.append_nil]
            refine ref_over hi hv0 hv1 2 4 (by omega) (by simp <;> omega) ?_
            by_cases hv2 : v % 2 ^ 2 = 0
            · simp only [if_pos hv2]
              simp at hv2
              have e0 : (h * 64 + v) % 4 = 0 := by omega
              rw [e0]
              have := ih (i + 1) (out ++ [(h * 64 + v) / 4]) 0 2 0 (by omega) hd1 (.inr (.inl ⟨rfl, by omega, by omega⟩)) (by simp <;> omega) (by simp <;> omega) (by simp <;> omega) (fun _ => rfl)
              simpa only [part, List.append_nil] using this
            · simp only [if_neg hv2]
              simp at hv2
              have e0 : ¬ (h * 64 + v) % 4 = 0 := by omega
              rw [ht]
              simp only [decGo, e0, ne_eq, not_false_eq_true, or_true, if_true]
              exact Ev.now _
          · rw [List.replicate_succ]
            refine ref_in_ev 4 0 hi (by omega) (by simp <;> omega) (by omega) hv0 hv1 (by omega) (by omega) (by omega) ?_
            refine ref_in_ev 5 1 hi (by omega) (by simp <;> omega) (by omega) hv0 hv1 (by simp <;> omega) (by simp <;> omega) (by simp <;> omega) ?_
            refine ref_exit hi ?_
            have := ih (i + 1) (out ++ [(h * 64 + v) / 4]) ((h * 64 + v) % 4) 2 (Z + 1) (by omega) hd1 (.inr (.inl ⟨rfl, by omega, by omega⟩)) (by simp <;> omega) (by simp <;> omega) (by simp <;> omega) (fun h => by omega)
            simp only [part] at this
            refine cast (congrArg (fun x => Ev (fun k => hustingsref01_Decode.l0 k s u (out ++ [(h * 64 + v) / 4] ++ x :: List.replicate Z 0) ((i + 1 : Nat) : Int)) (resOf (decGo u t (out ++ [(h * 64 + v) / 4]) ((h * 64 + v) % 4) 2))) ?_) this
            simp
            omega
      · have hg : decGo u (c :: t) out h 6 = decGo u t (out ++ [(h * 64 + v) / 16]) ((h * 64 + v) % 16) 4 := by simp [decGo, hv]
        rw [hg]
        rcases Z with _ | Z
        · omega
        · simp only [part]
          refine ref_in_ev 0 6 hi (by omega) (by omega) (by omega) hv0 hv1 (by simp <;> omega) (by simp <;> omega) (by simp <;> omega) ?_
          refine ref_in_ev 1 7 hi (by omega) (by omega) (by omega) hv0 hv1 (by simp <;> omega) (by simp <;> omega) (by simp <;> omega) ?_
          refine cast (congrArg (fun x => Ev (fun k => hustingsref01_Decode.l2 k s u (out ++ x :: List.replicate Z 0) i v ((2 : Nat) : Int)) (resOf (decGo u t (out ++ [(h * 64 + v) / 16]) ((h * 64 + v) % 16) 4))) (show (h * 64 + v) / 16 = _ from ?_)) ?_
          · simp; omega
          rw [← List.singleton_append, ← List.append_assoc]
          rcases Z with _ | Z
          · have ht := htl (by omega)
            simp only [List.replicate_zero, List.append_nil]
            refine ref_over hi hv0 hv1 4 2 (by omega) (by simp <;> omega) ?_
            by_cases hv2 : v % 2 ^ 4 = 0
            · simp only [if_pos hv2]
              simp at hv2
              have e0 : (h * 64 + v) % 16 = 0 := by omega
              rw [e0]
              have := ih (i + 1) (out ++ [(h * 64 + v) / 16]) 0 4 0 (by omega) hd1 (.inr (.inr (.inl ⟨rfl, by omega, by omega⟩))) (by simp <;> omega) (by simp <;> omega) (by simp <;> omega) (fun _ => rfl)
              simpa only [part, List.append_nil] using this
            · simp only [if_neg hv2]
              simp at hv2
              have e0 : ¬ (h * 64 + v) % 16 = 0 := by omega
              rw [ht]
              simp only [decGo, e0, ne_eq, not_false_eq_true, or_true, if_true]
              exact Ev.now _
          · rw [List.replicate_succ]
            refine ref_in_ev 2 0 hi (by omega) (by simp <;> omega) (by omega) hv0 hv1 (by omega) (by omega) (by omega) ?_
            refine ref_in_ev 3 1 hi (by omega) (by simp <;> omega) (by omega) hv0 hv1 (by simp <;> omega) (by simp <;> omega) (by simp <;> omega) ?_
            refine ref_in_ev 4 2 hi (by omega) (by simp <;> omega) (by omega) hv0 hv1 (by simp <;> omega) (by simp <;> omega) (by simp <;> omega) ?_
            refine ref_in_ev 5 3 hi (by omega) (by simp <;> omega) (by omega) hv0 hv1 (by simp <;> omega) (by simp <;> omega) (by simp <;> omega) ?_
            refine ref_exit hi ?_
            have := ih (i + 1) (out ++ [(h * 64 + v) / 16]) ((h * 64 + v) % 16) 4 (Z + 1) (by omega) hd1 (.inr (.inr (.inl ⟨rfl, by omega, by omega⟩))) (by simp <;> omega) (by simp <;> omega) (by simp <;> omega) (fun h => by omega)
            simp only [part] at this
            refine cast (congrArg (fun x => Ev (fun k => hustingsref01_Decode.l0 k s u (out ++ [(h * 64 + v) / 16] ++ x :: List.replicate Z 0) ((i + 1 : Nat) : Int)) (resOf (decGo u t (out ++ [(h * 64 + v) / 16]) ((h * 64 + v) % 16) 4))) ?_) this
            simp
            omega
theorem ref_decode_ev (u : Bool) (s : ByteArray) (hs : s.size ≤ 1073741824) : ∃ k, hustingsref01_Decode.f k s u = some ((decL u (bytesOf s)).getD [], (decL u (bytesOf s)).isSome) := by
  have h := ref_dec u s hs (bytesOf s) 0 [] 0 0 (s.size * 6 / 8) (by omega) rfl (.inl ⟨rfl, rfl⟩) (by simp) (by simp <;> omega) (by simp <;> omega) (fun _ => rfl)
  obtain ⟨K, hK⟩ := h
  refine ⟨K, ?_⟩
  have e1 : wrap64 (Int.tdiv (wrap64 ((s.size : Int) * 6)) 8) = ((s.size * 6 / 8 : Nat) : Int) := by
    rw [show wrap64 ((s.size : Int) * 6) = (s.size : Int) * 6 from by unfold wrap64; omega, Int.tdiv_eq_ediv_of_nonneg (by omega)]
    rw [show ((s.size * 6 / 8 : Nat) : Int) = (s.size : Int) * 6 / 8 from by simp]
    unfold wrap64; omega
  have hpz : ∀ Z, part 0 0 Z = List.replicate Z 0 := fun Z => by cases Z <;> simp [part, List.replicate_succ]
  have := hK K (Nat.le_refl _)
  rw [hpz, List.nil_append] at this
  unfold hustingsref01_Decode.f
  rw [e1, if_pos (by omega), if_pos (by omega)]
  exact this
end Go.Proofs.Ytboelmakccaenaa.P
