/- scalar.num's minus, by its walk. -/
import Derived.Test.YtchokhakdnjfmaaDoorSa
import Derived.Shelf.Spec.BitsCarry
namespace Go.Proofs.YtchokhakdnjfmaaDoor.P
set_option linter.unusedVariables false
set_option linter.unusedSimpArgs false
open Go.RowKit Go.Proofs.YtchokhakdnjfmaaDoorW.PrintWords Go.Proofs.YtchokhakdnjfmaaDoorW.PrintLast Go.Proofs.YtchokhakdnjfmaaDoorW.PrintMore
attribute [local go_sem] setCell_drewN
theorem mod32 (z : Int) : Go.bits .and .u64 (z % 18446744073709551616) 4294967295 = z % 18446744073709551616 % 4294967296 := by
  have h := and32 (z % 18446744073709551616).toNat (by omega)
  rw [Int.toNat_of_nonneg (by omega)] at h
  rw [h]; omega
theorem mul64_calls (x y : Nat) (hx : x < 18446744073709551616) (hy : y < 18446744073709551616) (w : World) :
    Calls Tryd.prog 26 #[.int .u64 (x : Int), .int .u64 (y : Int)] w fun e w' => e = .returned (.tuple #[.int .u64 ((x * y / 18446744073709551616 : Nat) : Int), .int .u64 ((x * y % 18446744073709551616 : Nat) : Int)]) ∧ w' = w := by
  obtain ⟨h1, h2, h3, h4⟩ := Lib.mul64_hi x y hx hy
  have a0 := and32 x hx
  have a1 := and32 y hy
  go_enter Tryd.func26, Tryd.ntmps26
  go_wp2_with fail
  go_ret2
  refine ⟨?_, rfl⟩
  show Ending.returned (Value.tuple #[_, _]) = _
  simp only [u64wm]
  have c1 : (x : Int) / 4294967296 * ((y : Int) / 4294967296) = ((x / 4294967296 * (y / 4294967296) : Nat) : Int) := by simp
  have c2 : (x : Int) / 4294967296 * ((y : Int) % 4294967296) = ((x / 4294967296 * (y % 4294967296) : Nat) : Int) := by simp
  have c3 : (x : Int) % 4294967296 * ((y : Int) / 4294967296) = ((x % 4294967296 * (y / 4294967296) : Nat) : Int) := by simp
  have c4 : (x : Int) % 4294967296 * ((y : Int) % 4294967296) = ((x % 4294967296 * (y % 4294967296) : Nat) : Int) := by simp
  have c5 : (x : Int) * (y : Int) = ((x * y : Nat) : Int) := by simp
  have hb : x * y / 18446744073709551616 < 18446744073709551616 := by
    rw [Nat.div_lt_iff_lt_mul (by omega)]
    exact Nat.mul_lt_mul_of_lt_of_lt hx hy
  rw [← h4] at hb
  rw [c1, c2, c3, c4, c5, ← h4]
  clear a0 a1 c1 c2 c3 c4 c5 h4
  generalize x / 4294967296 * (y / 4294967296) = A at *
  generalize x / 4294967296 * (y % 4294967296) = B at *
  generalize x % 4294967296 * (y / 4294967296) = C at *
  generalize x % 4294967296 * (y % 4294967296) = D at *
  rw [mod32]
  simp only [Array.getD_eq_getD_getElem?, List.getElem?_toArray, List.getElem?_cons_succ, List.getElem?_cons_zero, Option.getD_some, Ending.returned.injEq, Value.tuple.injEq, Array.mk.injEq, List.cons.injEq, Value.int.injEq, true_and, and_true]
  constructor
  · omega
  · omega
theorem add64_run (x y c : Int) (hx : 0 ≤ x) (hy : 0 ≤ y) (hc0 : 0 ≤ c) (hc : c ≤ 1) (w : World) :
    (callFunc 27 #[.int .u64 x, .int .u64 y, .int .u64 c]).run Tryd.prog w = .ok (.value (.tuple #[.int .u64 ((x + y + c) % 18446744073709551616), .int .u64 ((x + y + c) / 18446744073709551616)])) w := by
  rw [run_callFunc_extern Tryd.func27 (by kernel_rfl) (by kernel_rfl) (by kernel_rfl) (e := add64Entry) (by kernel_rfl), run_add64 x y c hx hy hc0 hc]
  rfl
theorem sub64_run (x y b : Int) (hx : 0 ≤ x ∧ x < 18446744073709551616) (hy : 0 ≤ y ∧ y < 18446744073709551616) (hb0 : 0 ≤ b) (hb : b ≤ 1) (w : World) :
    (callFunc 28 #[.int .u64 x, .int .u64 y, .int .u64 b]).run Tryd.prog w = .ok (.value (.tuple #[.int .u64 ((x - y - b) % 18446744073709551616), .int .u64 (-((x - y - b) / 18446744073709551616))])) w := by
  obtain ⟨X, rfl⟩ := Int.eq_ofNat_of_zero_le hx.1
  obtain ⟨Y, rfl⟩ := Int.eq_ofNat_of_zero_le hy.1
  obtain ⟨B, rfl⟩ := Int.eq_ofNat_of_zero_le hb0
  have e1 : (((X + 18446744073709551616 - Y - B) % 18446744073709551616 : Nat) : Int) = ((X : Int) - Y - B) % 18446744073709551616 := by omega
  have e2 : ((if X < Y + B then 1 else 0 : Nat) : Int) = -(((X : Int) - Y - B) / 18446744073709551616) := by split <;> omega
  rw [run_callFunc_extern Tryd.func28 (by kernel_rfl) (by kernel_rfl) (by kernel_rfl) (e := sub64Entry) (by kernel_rfl), run_sub64 X Y B (by omega), e1, e2]
  rfl
/-- minus: what is carried, what is borrowed, the digits. -/
def mnC (g : Nat → Int) (k : Int) : Nat → Int
  | 0 => 0
  | i + 1 => (g i * k + mnC g k i) / 18446744073709551616
def mnB (f g : Nat → Int) (k : Int) : Nat → Int
  | 0 => 0
  | i + 1 => -((f i - (g i * k + mnC g k i) % 18446744073709551616 - mnB f g k i) / 18446744073709551616)
def mnD (f g : Nat → Int) (k : Int) (i : Nat) : Int := (f i - (g i * k + mnC g k i) % 18446744073709551616 - mnB f g k i) % 18446744073709551616
/-- n digits of 64 bits. -/
def U64 (f : Nat → Int) (n : Nat) : Prop := ∀ j, j < n → 0 ≤ f j ∧ f j < 18446744073709551616
theorem mul_b (x y : Int) (hx : 0 ≤ x ∧ x < 18446744073709551616) (hy : 0 ≤ y ∧ y < 18446744073709551616) : 0 ≤ x * y ∧ x * y ≤ 18446744073709551615 * 18446744073709551615 :=
  ⟨Int.mul_nonneg hx.1 hy.1, Int.le_trans (Int.mul_le_mul_of_nonneg_right (show x ≤ 18446744073709551615 by omega) hy.1) (Int.mul_le_mul_of_nonneg_left (show y ≤ 18446744073709551615 by omega) (by omega))⟩
theorem mnC_b (g : Nat → Int) (k : Int) (n : Nat) (hg : U64 g n) (hk : 0 ≤ k ∧ k < 18446744073709551616) : ∀ i, i ≤ n → 0 ≤ mnC g k i ∧ mnC g k i < 18446744073709551616
  | 0, _ => by simp [mnC]
  | i + 1, h => by
    have h1 := mnC_b g k n hg hk i (by omega)
    have h2 := mul_b (g i) k (hg i (by omega)) hk
    rw [mnC]
    generalize g i * k = p at *
    omega
theorem mnB_b (f g : Nat → Int) (k : Int) (n : Nat) (hf : U64 f n) : ∀ i, i ≤ n → 0 ≤ mnB f g k i ∧ mnB f g k i ≤ 1
  | 0, _ => by simp [mnB]
  | i + 1, h => by
    have h1 := mnB_b f g k n hf i (by omega)
    have h2 := hf i (by omega)
    rw [mnB]
    generalize (g i * k + mnC g k i) = p at *
    omega
theorem mnD_b (f g : Nat → Int) (k : Int) (i : Nat) : 0 ≤ mnD f g k i ∧ mnD f g k i < 18446744073709551616 := by unfold mnD; omega
theorem mnD_val (f g : Nat → Int) (k : Int) : ∀ n, val 18446744073709551616 (mnD f g k) n = val 18446744073709551616 f n - k * val 18446744073709551616 g n + (mnB f g k n + mnC g k n) * 18446744073709551616 ^ n
  | 0 => by simp [val, mnB, mnC]
  | n + 1 => by
    have ih := mnD_val f g k n
    have e1 : mnD f g k n = f n - (g n * k + mnC g k n - mnC g k (n + 1) * 18446744073709551616) - mnB f g k n + mnB f g k (n + 1) * 18446744073709551616 := by
      rw [mnB, mnC, mnD]
      generalize g n * k + mnC g k n = p
      omega
    simp only [val, ih, e1, Int.pow_succ]
    generalize (18446744073709551616 : Int) ^ n = q
    generalize val 18446744073709551616 f n = F
    generalize val 18446744073709551616 g n = G
    generalize mnB f g k n = b
    generalize mnC g k n = c
    generalize mnB f g k (n + 1) = b'
    generalize mnC g k (n + 1) = c'
    grind
/-- Where the difference isn't below nought, these are its digits. -/
theorem mnD_exact (f g : Nat → Int) (k : Int) (n : Nat) (hf : U64 f n) (hg : U64 g n) (hk : 0 ≤ k ∧ k < 18446744073709551616) (h : k * val 18446744073709551616 g n ≤ val 18446744073709551616 f n) :
    val 18446744073709551616 (mnD f g k) n = val 18446744073709551616 f n - k * val 18446744073709551616 g n := by
  have h1 := mnD_val f g k n
  have h2 := val_b 18446744073709551616 (by omega) (mnD f g k) n (fun j _ => mnD_b f g k j)
  have h3 := mnC_b g k n hg hk n (Nat.le_refl _)
  have h4 := mnB_b f g k n hf n (Nat.le_refl _)
  have h5 : mnB f g k n + mnC g k n = 0 ∨ 1 ≤ mnB f g k n + mnC g k n := by omega
  rcases h5 with h5 | h5
  · rw [h1, h5]; omega
  · exfalso
    have h6 := Int.mul_le_mul_of_nonneg_right h5 (Int.le_of_lt (pow_pos' 18446744073709551616 (by omega) n))
    omega
def MinusRel (f g : Nat → Int) (k : Int) (w : World) (v13 v7 v8 : Value) (wr : World) : Prop :=
  ∃ (i : Nat), i ≤ 5 ∧ v13 = .int .i64 (i : Int) ∧ v7 = .int .u64 (mnB f g k i) ∧ v8 = .int .u64 (mnC g k i) ∧ Below w.heap.size w wr ∧ Row wr w.heap.size .u64 5 (fun j => if j < i then mnD f g k j else f j) 41 ∧ Row wr (w.heap.size + 1) .u64 5 g 41 ∧ Row wr (w.heap.size + 1 + 1) .u64 5 (fun _ => 0) 41
theorem minus_calls (f g : Nat → Int) (k : Int) (w : World) (hf : U64 f 5) (hg : U64 g 5) (hk : 0 ≤ k ∧ k < 18446744073709551616) :
    Calls Tryd.prog 24 #[.agg (FR .u64 5 f), .agg (FR .u64 5 g), .int .u64 k] w fun e w' => e = .returned (.agg (FR .u64 5 (mnD f g k))) ∧ Below w.heap.size w w' := by
  have HF := Aside0.mk hf
  have HG := Aside0.mk hg
  have HK := Aside0.mk hk
  clear hf hg hk
  go_enter Tryd.func24, Tryd.ntmps24
  go_wp2_with fail
  have HB0 := Aside0.mk (bel_three w (.cells (FR .u64 5 f) 41) (.cells (FR .u64 5 g) 41) (.cells (FR .u64 5 fun _ => 0) 41))
  have HF0 := Aside0.mk (((Row.new w .u64 5 f 41).alloc (.cells (FR .u64 5 g) 41)).alloc (.cells (FR .u64 5 fun _ => 0) 41))
  have HG0 := Aside0.mk ((Row.new (w.alloc (.cells (FR .u64 5 f) 41)) .u64 5 g 41).alloc (.cells (FR .u64 5 fun _ => 0) 41))
  have HZ0 := Aside0.mk (Row.new ((w.alloc (.cells (FR .u64 5 f) 41)).alloc (.cells (FR .u64 5 g) 41)) .u64 5 (fun _ => 0) 41)
  have hz : (w.alloc (.cells (FR .u64 5 f) 41)).heap.size = w.heap.size + 1 := by simp
  have hz2 : ((w.alloc (.cells (FR .u64 5 f) 41)).alloc (.cells (FR .u64 5 g) 41)).heap.size = w.heap.size + 1 + 1 := by simp
  rw [hz] at HG0
  rw [hz2] at HZ0
  clear hz hz2
  go_loopw [13, 7, 8] (fun v13 v7 v8 wr => MinusRel f g k w v13 v7 v8 wr) (fun v _ _ _ => 5 - (intOf v).toNat)
  case atStart => exact ⟨0, by omega, rfl, rfl, rfl, HB0.out, HF0.out, HG0.out, HZ0.out⟩
  case round =>
    obtain ⟨i, hi, rfl, rfl, rfl, hb, hr, hp, hq⟩ := hrel
    clear HB0 HF0 HG0 HZ0
    have HB := Aside0.mk hb
    have HR := Aside0.mk hr
    have HP := Aside0.mk hp
    have HQ := Aside0.mk hq
    have hsz := hq.lt
    rcases Nat.lt_or_ge i 5 with h5 | h5
    · have hfi := HF.out i h5
      have hgi := HG.out i h5
      have hc := mnC_b g k 5 HG.out HK.out i hi
      have hbb := mnB_b f g k 5 HF.out i hi
      have k0 := hr.cell i h5
      rw [if_neg (Nat.lt_irrefl i)] at k0
      have k1 := hp.cell i h5
      have f0 := hr.fro i
      have hlt : ((i : Int) < 5) = True := eq_true (by omega)
      have hkk := HK.out
      have HS := Aside0.mk (hr.set i (mnD f g k i) h5)
      have HC1 := Aside0.mk (show mnC g k (i + 1) = (g i * k + mnC g k i) / 18446744073709551616 from rfl)
      have HB1 := Aside0.mk (show mnB f g k (i + 1) = -((f i - (g i * k + mnC g k i) % 18446744073709551616 - mnB f g k i) / 18446744073709551616) from rfl)
      have HD1 := Aside0.mk (show mnD f g k i = (f i - (g i * k + mnC g k i) % 18446744073709551616 - mnB f g k i) % 18446744073709551616 from rfl)
      generalize mnC g k i = c at *
      generalize mnB f g k i = bo at *
      obtain ⟨G, hG⟩ := Int.eq_ofNat_of_zero_le hgi.1
      obtain ⟨K, hK⟩ := Int.eq_ofNat_of_zero_le hkk.1
      have HM := Aside0.mk (fun w => mul64_calls G K (by omega) (by omega) w)
      rw [← hG, ← hK] at HM
      have hpb := mul_b (g i) k hgi hkk
      have hN : ((G * K : Nat) : Int) = g i * k := by rw [hG, hK]; simp
      obtain ⟨pp, hpp⟩ : ∃ p, G * K = p := ⟨_, rfl⟩
      rw [hpp] at HM hN
      rw [← hN] at hpb
      have HN := Aside0.mk hN
      have e1 := add64_run ((pp : Int) % 18446744073709551616) c 0 (by omega) hc.1 (by omega) (by omega)
      have e2 := sub64_run (f i) (((pp : Int) + c) % 18446744073709551616) bo hfi (by omega) hbb.1 hbb.2
      have e3 : (((pp : Int) % 18446744073709551616) + c + 0) % 18446744073709551616 = ((pp : Int) + c) % 18446744073709551616 := by omega
      have e4 : (((pp : Int) / 18446744073709551616) + (((pp : Int) % 18446744073709551616) + c) / 18446744073709551616) = ((pp : Int) + c) / 18446744073709551616 := by omega
      have e5 : IntKind.u64.wrap (((pp : Int) / 18446744073709551616) + (((pp : Int) % 18446744073709551616) + c) / 18446744073709551616) = ((pp : Int) + c) / 18446744073709551616 := by rw [e4]; exact u64w _ (by omega) (by omega)
      rw [e3] at e1
      clear hb hr hp hq hfi hgi hc hbb hkk hG hK hpb hN hpp e3 e4 HF HG HK
      go_wp2_with fail
      refine (HM.out _).mono ?_
      rintro e w1 ⟨rfl, rfl⟩
      go_wp2_with fail
      refine ⟨⟨i + 1, by omega, rfl, ?_, ?_, bel_set HB.out _ _ (Nat.le_refl _), ?_, ?_, ?_⟩, meas_up 5 i h5⟩
      · rw [HB1.out, ← HN.out]
      · rw [HC1.out, ← HN.out]
      · rw [← HN.out] at HD1
        rw [← HD1.out]
        exact row_eq HS.out (fun j hj => by
          unfold upd
          by_cases hji : j = i
          · subst hji; rw [if_pos rfl, if_pos (by omega)]
          · rw [if_neg hji]
            show (if j < i then mnD f g k j else f j) = _
            by_cases hjl : j < i
            · rw [if_pos hjl, if_pos (by omega)]
            · rw [if_neg hjl, if_neg (by omega)])
      · exact HP.out.other _ _ (show w.heap.size + 1 ≠ w.heap.size by omega)
      · exact HQ.out.other _ _ (show w.heap.size + 1 + 1 ≠ w.heap.size by omega)
    · obtain rfl : i = 5 := by omega
      have HM := Aside0.mk (row_eq hr (fun j hj => if_pos hj))
      clear hb hr hp hq
      go_wp2_with (first | refine step_load HM.out Tryd.underlying41 infoNum rfl rfl rfl rfl ?_ | refine step_store (mnD f g k) HQ.out infoNum rfl rfl rfl rfl rfl ?_)
      refine bodyPost_ret (row_results rfl (HQ.out.all) rfl Tryd.underlying41 rfl infoNum) rfl ?_
      exact ⟨rfl, bel_setCells (by omega) _ _ _ HB.out⟩
end Go.Proofs.YtchokhakdnjfmaaDoor.P
