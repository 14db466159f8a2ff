/- The law ScalarSmall: its walk. -/
import Derived.Test.YtchokhakdnjfmaaDoorSn
namespace Go.Proofs.YtchokhakdnjfmaaDoor.P
set_option linter.unusedVariables false
set_option linter.unusedSimpArgs false
open Go.RowKit Go.Proofs.YtchokhakdnjfmaaDoorW.PrintWords Go.Proofs.YtchokhakdnjfmaaDoorW.PrintLast Go.Proofs.YtchokhakdnjfmaaDoorW.PrintMore
attribute [local go_sem] setCell_drewN
theorem tabS13 : rtab .any (opsOf Tryd.f6 13) = (true, [([], []), ([], []), ([], []), ([0, 1, 2], [0, 1, 2]), ([], []), ([3, 4], [3, 4]), ([5, 3], [5]), ([6], [6]), ([7, 6, 6], [6, 7]), ([6, 8], [6, 8]), ([9, 8, 0, 1, 2, 3, 4, 5, 6, 7, 8, 9], [9])]) := by kernel_rfl
theorem bitsS13 : waitsOk [([], []), ([], []), ([], []), ([0, 1, 2], [0, 1, 2]), ([], []), ([3, 4], [3, 4]), ([5, 3], [5]), ([6], [6]), ([7, 6, 6], [6, 7]), ([6, 8], [6, 8]), ([9, 8, 0, 1, 2, 3, 4, 5, 6, 7, 8, 9], [9])] [0, 0, 0, 7, 0, 31, 63, 127, 255, 511, 1023] = true := by kernel_rfl
theorem u32b {x : Int} (h : (Lit.int .u32 x).wf = true) : 0 ≤ x ∧ x < 4294967296 := by
  have e1 : IntKind.u32.min = 0 := by decide
  have e2 : IntKind.u32.max = 4294967295 := by decide
  simp [Lit.wf] at h; omega
theorem dig_shift (x : Int) (i : Nat) : x / 2 ^ (8 * i) % 256 = dig 256 x i := by
  unfold dig
  rw [show (2 : Int) ^ (8 * i) = 256 ^ i by rw [Int.pow_mul]; rfl]
theorem pow_le_256 (m : Nat) : ∀ j, m ≤ j → (256 : Int) ^ m ≤ 256 ^ j
  | j, h => by
    obtain ⟨d, rfl⟩ : ∃ d, j = m + d := ⟨j - m, by omega⟩
    rw [Int.pow_add]
    have h1 := pow_pos' 256 (by omega) m
    have h2 := pow_pos' 256 (by omega) d
    have h3 : (256 : Int) ^ m * 1 ≤ 256 ^ m * 256 ^ d := Int.mul_le_mul_of_nonneg_left (by omega) (by omega)
    omega
theorem dig_high (x : Int) (m : Nat) (hx : 0 ≤ x ∧ x < 256 ^ m) (j : Nat) (hj : m ≤ j) : dig 256 x j = 0 := by
  have h := pow_le_256 m j hj
  unfold dig
  rw [Int.ediv_eq_zero_of_lt hx.1 (by omega)]
  rfl
theorem row_dig {w : World} {g : Nat} {t : TypeId} {x : Int} {m : Nat} (hx : 0 ≤ x ∧ x < 256 ^ m) (h : Row w g .u8 32 (fun j => if j < m then dig 256 x j else 0) t) : Row w g .u8 32 (dig 256 x) t :=
  row_eq h (fun j _ => by
    by_cases hj : j < m
    · exact if_pos hj
    · show (if j < m then dig 256 x j else 0) = _
      rw [if_neg hj, dig_high x m hx j (by omega)])
def SmR1 (b1 : Nat) (a b c : Int) (w : World) (v12 : Value) (wr : World) : Prop :=
  ∃ i : Nat, i ≤ 4 ∧ v12 = .int .i64 (i : Int) ∧ Below w.heap.size w wr ∧ Row wr b1 .u8 32 (fun j => if j < i then dig 256 a j else 0) 23 ∧ Row wr (b1 + 1) .u8 32 (fun j => if j < i then dig 256 b j else 0) 23 ∧ Row wr (b1 + 1 + 1) .u8 32 (fun j => if j < i then dig 256 c j else 0) 23 ∧ Row wr (b1 + 1 + 1 + 1) .u8 32 (fun _ => 0) 23
def SmR2 (b1 : Nat) (a b c n : Int) (w : World) (v13 : Value) (wr : World) : Prop :=
  ∃ i : Nat, i ≤ 8 ∧ v13 = .int .i64 (i : Int) ∧ Below w.heap.size w wr ∧ Row wr b1 .u8 32 (dig 256 a) 23 ∧ Row wr (b1 + 1) .u8 32 (dig 256 b) 23 ∧ Row wr (b1 + 1 + 1) .u8 32 (dig 256 c) 23 ∧ Row wr (b1 + 1 + 1 + 1) .u8 32 (fun j => if j < i then dig 256 n j else 0) 23
set_option maxHeartbeats 2000000 in
theorem ScalarSmall_walk (a0 a1 a2 : Int) (w : World) (ho : Ord w) (w0 : (Lit.int .u32 a0).wf = true) (w1 : (Lit.int .u32 a1).wf = true) (w2 : (Lit.int .u32 a2).wf = true) :
    Calls Tryd.prog 6 #[.int .u32 a0, .int .u32 a1, .int .u32 a2] w fun e w' => e = .returned (.bool true) ∧ Below w.heap.size w w' := by
  have HO := Aside0.mk ho
  have b0 := u32b w0
  have b1 := u32b w1
  have b2 := u32b w2
  have hp : 0 ≤ a0 * a1 ∧ a0 * a1 ≤ 4294967295 * 4294967295 := ⟨Int.mul_nonneg b0.1 b1.1, Int.le_trans (Int.mul_le_mul_of_nonneg_right (show a0 ≤ 4294967295 by omega) b1.1) (Int.mul_le_mul_of_nonneg_left (show a1 ≤ 4294967295 by omega) (by omega))⟩
  have HA0 : Aside0 (0 ≤ a0 ∧ a0 < 256 ^ 4) := ⟨b0⟩
  have HA1 : Aside0 (0 ≤ a1 ∧ a1 < 256 ^ 4) := ⟨b1⟩
  have HA2 : Aside0 (0 ≤ a2 ∧ a2 < 256 ^ 4) := ⟨b2⟩
  have q0 : IntKind.u64.wrap a0 = a0 := u64w _ (by omega) (by omega)
  have q1 : IntKind.u64.wrap a1 = a1 := u64w _ (by omega) (by omega)
  have q2 : IntKind.u64.wrap a2 = a2 := u64w _ (by omega) (by omega)
  obtain ⟨p, hpp⟩ : ∃ p, a0 * a1 = p := ⟨_, rfl⟩
  rw [hpp] at hp
  obtain ⟨n, hn⟩ : ∃ n, p + a2 = n := ⟨_, rfl⟩
  have q3 : IntKind.u64.wrap (a0 * a1) = p := by rw [hpp]; exact u64w _ (by omega) (by omega)
  have q4 : IntKind.u64.wrap (p + a2) = n := by rw [u64w _ (by omega) (by omega)]; exact hn
  have e8 : (256 : Int) ^ 8 = 18446744073709551616 := by decide
  have HNB : Aside0 (0 ≤ n ∧ n < 256 ^ 8) := ⟨by omega⟩
  clear e8
  have h32 : ∀ x : Int, 0 ≤ x → x < 18446744073709551616 → N32 (dig 256 x) = x := fun x hx hy => N32_dig x ⟨hx, Int.lt_trans hy (by decide)⟩
  have HN : Aside0 ((N32 (dig 256 a0) * N32 (dig 256 a1) + N32 (dig 256 a2)) % LL = n) := ⟨by
    rw [h32 a0 b0.1 (by omega), h32 a1 b1.1 (by omega), h32 a2 b2.1 (by omega), hpp, hn]
    exact Int.emod_eq_of_lt (by omega) (by unfold LL; omega)⟩
  have HNL : Aside0 (N32 (dig 256 n) < LL) := ⟨by rw [h32 n (by omega) (by omega)]; unfold LL; omega⟩
  clear ho w0 w1 w2 b0 b1 b2 hp hn h32 hpp
  go_enter Tryd.func6, Tryd.ntmps6
  go_wp2_with fail
  refine (alive_calls _ HO.out).mono ?_
  rintro e w1 ⟨rfl, hb⟩
  have HB1 := Aside0.mk hb
  clear hb
  have hz1 : (w1.alloc (.cells (FR .u8 32 (fun _ => 0)) 23)).heap.size = w1.heap.size + 1 := by simp
  have hz2 : ((w1.alloc (.cells (FR .u8 32 (fun _ => 0)) 23)).alloc (.cells (FR .u8 32 (fun _ => 0)) 23)).heap.size = w1.heap.size + 1 + 1 := by simp
  have hz3 : (((w1.alloc (.cells (FR .u8 32 (fun _ => 0)) 23)).alloc (.cells (FR .u8 32 (fun _ => 0)) 23)).alloc (.cells (FR .u8 32 (fun _ => 0)) 23)).heap.size = w1.heap.size + 1 + 1 + 1 := by simp
  have R0 := Aside0.mk (Row.alloc (Row.alloc (Row.alloc (show Row (w1.alloc (.cells (FR .u8 32 (fun _ => 0)) 23)) (w1.heap.size) .u8 32 (fun _ => 0) 23 from by have h := (Row.new w1 .u8 32 (fun _ => 0) 23); exact h) (.cells (FR .u8 32 (fun _ => 0)) 23)) (.cells (FR .u8 32 (fun _ => 0)) 23)) (.cells (FR .u8 32 (fun _ => 0)) 23))
  have R1 := Aside0.mk (Row.alloc (Row.alloc (show Row ((w1.alloc (.cells (FR .u8 32 (fun _ => 0)) 23)).alloc (.cells (FR .u8 32 (fun _ => 0)) 23)) (w1.heap.size + 1) .u8 32 (fun _ => 0) 23 from by have h := (Row.new (w1.alloc (.cells (FR .u8 32 (fun _ => 0)) 23)) .u8 32 (fun _ => 0) 23); rw [hz1] at h; exact h) (.cells (FR .u8 32 (fun _ => 0)) 23)) (.cells (FR .u8 32 (fun _ => 0)) 23))
  have R2 := Aside0.mk (Row.alloc (show Row (((w1.alloc (.cells (FR .u8 32 (fun _ => 0)) 23)).alloc (.cells (FR .u8 32 (fun _ => 0)) 23)).alloc (.cells (FR .u8 32 (fun _ => 0)) 23)) (w1.heap.size + 1 + 1) .u8 32 (fun _ => 0) 23 from by have h := (Row.new ((w1.alloc (.cells (FR .u8 32 (fun _ => 0)) 23)).alloc (.cells (FR .u8 32 (fun _ => 0)) 23)) .u8 32 (fun _ => 0) 23); rw [hz2] at h; exact h) (.cells (FR .u8 32 (fun _ => 0)) 23))
  have R3 := Aside0.mk (show Row ((((w1.alloc (.cells (FR .u8 32 (fun _ => 0)) 23)).alloc (.cells (FR .u8 32 (fun _ => 0)) 23)).alloc (.cells (FR .u8 32 (fun _ => 0)) 23)).alloc (.cells (FR .u8 32 (fun _ => 0)) 23)) (w1.heap.size + 1 + 1 + 1) .u8 32 (fun _ => 0) 23 from by have h := (Row.new (((w1.alloc (.cells (FR .u8 32 (fun _ => 0)) 23)).alloc (.cells (FR .u8 32 (fun _ => 0)) 23)).alloc (.cells (FR .u8 32 (fun _ => 0)) 23)) .u8 32 (fun _ => 0) 23); rw [hz3] at h; exact h)
  have HBn := Aside0.mk (Below.alloc (Below.alloc (Below.alloc (Below.alloc (Below.refl w1.heap.size w1) (by omega) (.cells (FR .u8 32 (fun _ => 0)) 23)) (by simp; try omega) (.cells (FR .u8 32 (fun _ => 0)) 23)) (by simp; try omega) (.cells (FR .u8 32 (fun _ => 0)) 23)) (by simp; try omega) (.cells (FR .u8 32 (fun _ => 0)) 23))
  clear hz1 hz2 hz3
  have HB2 := Aside0.mk (HB1.out.trans (HBn.out.mono HB1.out.size))
  have hle1 := HB1.out.size
  clear HBn HB1
  go_wp2_with fail
  clear q0 q1 q2 q3 q4
  generalize w1.heap.size = b1 at *
  go_loopw [12] (fun v12 wr => SmR1 b1 a0 a1 a2 w v12 wr) (fun v _ => 4 - (intOf v).toNat)
  case atStart => exact ⟨0, by omega, rfl, HB2.out, row_eq R0.out (fun j hj => by rw [if_neg (by omega)]), row_eq R1.out (fun j hj => by rw [if_neg (by omega)]), row_eq R2.out (fun j hj => by rw [if_neg (by omega)]), R3.out⟩
  case round =>
    clear R0 R1 R2 R3 HB2
    obtain ⟨i, hi, rfl, hb, hr0, hr1, hr2, hr3⟩ := hrel
    have HB := Aside0.mk hb
    have HR0 := Aside0.mk hr0
    have HR1 := Aside0.mk hr1
    have HR2 := Aside0.mk hr2
    have HR3 := Aside0.mk hr3
    have hsz := hr3.lt
    rcases Nat.lt_or_ge i 4 with h4 | h4
    · have hlt : ((i : Int) < 4) = True := eq_true (by omega)
      have hlt32 : ((i : Int) < 32) = True := eq_true (by omega)
      have q5 : wrap64 (8 * (i : Int)) = 8 * (i : Int) := w64 _ (by omega)
      have q6 : IntKind.u64.wrap (8 * (i : Int)) = 8 * (i : Int) := u64w _ (by omega) (by omega)
      have q7 : (8 * (i : Int)).toNat = 8 * i := by omega
      have k0 := hr0.cell i (by omega)
      have k1 := hr1.cell i (by omega)
      have k2 := hr2.cell i (by omega)
      have f0 := hr0.fro i
      have f1 := hr1.fro i
      have f2 := hr2.fro i
      have d0 := dig_shift a0 i
      have d1 := dig_shift a1 i
      have d2 := dig_shift a2 i
      have S0 := Aside0.mk (part_step (a := ⟨0, 0, none⟩) hr0 (show i < 32 by omega))
      have S1 := Aside0.mk (part_step (a := ⟨0, 0, none⟩) hr1 (show i < 32 by omega))
      have S2 := Aside0.mk (part_step (a := ⟨0, 0, none⟩) hr2 (show i < 32 by omega))
      clear hb hr0 hr1 hr2 hr3
      go_wp2_with fail
      refine ⟨⟨i + 1, by omega, rfl, bel_set (bel_set (bel_set HB.out _ _ (show w.heap.size ≤ b1 by omega)) _ _ (show w.heap.size ≤ b1 + 1 by omega)) _ _ (show w.heap.size ≤ b1 + 1 + 1 by omega), ?_, ?_, ?_, ?_⟩, meas_up 4 i h4⟩
      · exact (S0.out.other _ _ (show b1 ≠ b1 + 1 by omega)).other _ _ (show b1 ≠ b1 + 1 + 1 by omega)
      · exact Row.other (part_step (a := ⟨0, 0, none⟩) (HR1.out.other _ _ (show b1 + 1 ≠ b1 by omega)) (show i < 32 by omega)) _ _ (show b1 + 1 ≠ b1 + 1 + 1 by omega)
      · exact part_step (a := ⟨0, 0, none⟩) ((HR2.out.other _ _ (show b1 + 1 + 1 ≠ b1 by omega)).other _ _ (show b1 + 1 + 1 ≠ b1 + 1 by omega)) (show i < 32 by omega)
      · exact ((HR3.out.other _ _ (show b1 + 1 + 1 + 1 ≠ b1 by omega)).other _ _ (show b1 + 1 + 1 + 1 ≠ b1 + 1 by omega)).other _ _ (show b1 + 1 + 1 + 1 ≠ b1 + 1 + 1 by omega)
    · obtain rfl : i = 4 := by omega
      have e4 : ((4 : Nat) : Int) = 4 := rfl
      rw [e4]
      clear e4
      have D0 := Aside0.mk (row_dig HA0.out hr0)
      have D1 := Aside0.mk (row_dig HA1.out hr1)
      have D2 := Aside0.mk (row_dig HA2.out hr2)
      clear hb hr0 hr1 hr2 hr3 HR0 HR1 HR2
      go_wp2_with fail
      go_loopw [13] (fun v13 wr => SmR2 b1 a0 a1 a2 n w v13 wr) (fun v _ => 8 - (intOf v).toNat)
      case atStart => exact ⟨0, by omega, rfl, HB.out, D0.out, D1.out, D2.out, row_eq HR3.out (fun j hj => by rw [if_neg (by omega)])⟩
      case round =>
        clear HB D0 D1 D2 HR3
        obtain ⟨i, hi, rfl, hb, hr0, hr1, hr2, hr3⟩ := hrel
        have HB := Aside0.mk hb
        have HR0 := Aside0.mk hr0
        have HR1 := Aside0.mk hr1
        have HR2 := Aside0.mk hr2
        have HR3 := Aside0.mk hr3
        rcases Nat.lt_or_ge i 8 with h8 | h8
        · have hlt : ((i : Int) < 8) = True := eq_true (by omega)
          have hlt32 : ((i : Int) < 32) = True := eq_true (by omega)
          have q5 : wrap64 (8 * (i : Int)) = 8 * (i : Int) := w64 _ (by omega)
          have q6 : IntKind.u64.wrap (8 * (i : Int)) = 8 * (i : Int) := u64w _ (by omega) (by omega)
          have q7 : (8 * (i : Int)).toNat = 8 * i := by omega
          have k0 := hr3.cell i (by omega)
          have f0 := hr3.fro i
          have d0 := dig_shift n i
          have S0 := Aside0.mk (part_step (a := ⟨0, 0, none⟩) hr3 (show i < 32 by omega))
          clear hb hr0 hr1 hr2 hr3
          go_wp2_with fail
          exact ⟨⟨i + 1, by omega, rfl, bel_set HB.out _ _ (show w.heap.size ≤ b1 + 1 + 1 + 1 by omega), HR0.out.other _ _ (show b1 ≠ b1 + 1 + 1 + 1 by omega), HR1.out.other _ _ (show b1 + 1 ≠ b1 + 1 + 1 + 1 by omega), HR2.out.other _ _ (show b1 + 1 + 1 ≠ b1 + 1 + 1 + 1 by omega), S0.out⟩, meas_up 8 i h8⟩
        · obtain rfl : i = 8 := by omega
          have H3x := Aside0.mk (row_dig HNB.out hr3)
          have H0 := Aside0.mk hr0.drew
          have H1 := Aside0.mk hr1.drew
          have H2 := Aside0.mk hr2.drew
          have H3 := Aside0.mk H3x.out.drew
          have HBd := Aside0.mk hb.drew
          have HO6 := Aside0.mk (HO.out.below HBd.out HO.out.lt)
          have hqe := equal32
          have hsr := sameRow_self 32
          clear hb hr0 hr1 hr2 hr3 H3x HR0 HR1 HR2 HR3 HB
          go_wp2_with fail
          refine start_ (n := 11) (S := (fun w' => Below (wr.drew).heap.size (wr.drew) w')) (ds := []) #[false, false, false, false, false, false, false, false, false, false, false] (by kernel_rfl) rfl rfl (Below.refl _ _) (fun hHeld => ?_); refine with_tabW tabS13 bitsS13 (fun HT_ HW_ => ?_)
          generalize wr.drew = w6 at H0 H1 H2 H3 HO6 HBd hHeld ⊢
          refine take_ (i := 0) (N := some 64) (v := ?_) (a' := ?_) #[true, false, false, false, false, false, false, false, false, false, false] rfl rfl (take_ofW HT_.out HW_.out (by kernel_rfl)) (fun _ _ _ h => h) (Or.inl ⟨by rfl, ?_⟩) hHeld ?_ ?_
          rotate_left
          · intro w' hsw
            refine exec_load (x := .tmp 8) (H0.out.below hsw H0.out.lt) Tryd.underlying23 info32 rfl ?_ ?_ <;> rfl
          rotate_left
          · simp only [Act.put, List.setIfInBounds_toArray, List.set_cons_zero, List.set_cons_succ, i64_w, i32_w]
            rfl
          refine take_ (i := 1) (N := some 65) (v := ?_) (a' := ?_) #[true, true, false, false, false, false, false, false, false, false, false] rfl rfl (take_ofW HT_.out HW_.out (by kernel_rfl)) (fun _ _ _ h => h) (Or.inl ⟨by rfl, ?_⟩) hHeld ?_ ?_
          rotate_left
          · intro w' hsw
            refine exec_load (x := .tmp 9) (H1.out.below hsw H1.out.lt) Tryd.underlying23 info32 rfl ?_ ?_ <;> rfl
          rotate_left
          · simp only [Act.put, List.setIfInBounds_toArray, List.set_cons_zero, List.set_cons_succ, i64_w, i32_w]
            rfl
          refine take_ (i := 2) (N := some 66) (v := ?_) (a' := ?_) #[true, true, true, false, false, false, false, false, false, false, false] rfl rfl (take_ofW HT_.out HW_.out (by kernel_rfl)) (fun _ _ _ h => h) (Or.inl ⟨by rfl, ?_⟩) hHeld ?_ ?_
          rotate_left
          · intro w' hsw
            refine exec_load (x := .tmp 10) (H2.out.below hsw H2.out.lt) Tryd.underlying23 info32 rfl ?_ ?_ <;> rfl
          rotate_left
          · simp only [Act.put, List.setIfInBounds_toArray, List.set_cons_zero, List.set_cons_succ, i64_w, i32_w]
            rfl
          refine take_ (i := 4) (N := some 68) (v := ?_) (a' := ?_) #[true, true, true, false, true, false, false, false, false, false, false] rfl rfl (take_ofW HT_.out HW_.out (by kernel_rfl)) (fun _ _ _ h => h) (Or.inl ⟨by rfl, ?_⟩) hHeld ?_ ?_
          rotate_left
          · intro w' hsw
            refine exec_load (x := .tmp 11) (H3.out.below hsw H3.out.lt) Tryd.underlying23 info32 rfl ?_ ?_ <;> rfl
          rotate_left
          · simp only [Act.put, List.setIfInBounds_toArray, List.set_cons_zero, List.set_cons_succ, i64_w, i32_w]
            rfl
          refine one_ (i := 3) (N := some 67) #[true, true, true, true, true, false, false, false, false, false, false] rfl rfl (one_of HT_.out (by kernel_rfl)) (by decide) (fun K hK => ?_)
          refine goes_ Tryd.func15 rfl rfl #[.agg (FR .u8 32 (dig 256 a0)), .agg (FR .u8 32 (dig 256 a1)), .agg (FR .u8 32 (dig 256 a2))] rfl rfl rfl (by simp only [List.map_toArray, List.map_cons, List.map_nil]; rfl) ((muladd_as _ _ _ n _ (HO6.out.below hHeld HO6.out.lt) (dig_By _) (dig_By _) (dig_By _) HN.out).mono ?_)
          rintro e wc1 ⟨rfl, hb⟩
          have hSn : Below w6.heap.size w6 wc1 := hHeld.trans (hb.mono hHeld.size)
          clear hb
          refine ⟨_, rfl, hK.out _ _ hSn (fun hHeld => ?_)⟩
          clear hSn
          clear hK K
          refine norm_ (a' := ?_) ?_ ?_
          rotate_left
          · show Act.put _ (some 67) _ = _
            simp only [Act.put, List.setIfInBounds_toArray, List.set_cons_zero, List.set_cons_succ, i64_w, i32_w]
            rfl
          refine pure_ (i := 5) (N := some 69) (v := ?_) (a' := ?_) #[true, true, true, true, true, true, false, false, false, false, false] rfl rfl (any_of HT_.out (by kernel_rfl)) (fun _ _ _ h => h) (Or.inl ⟨by rfl, ?_⟩) ?_ ?_
          rotate_left
          · intro w'
            go_simp
            with_reducible rfl
          rotate_left
          · simp only [Act.put, List.setIfInBounds_toArray, List.set_cons_zero, List.set_cons_succ, i64_w, i32_w]
            rfl
          refine pure_ (i := 6) (N := some 70) (v := ?_) (a' := ?_) #[true, true, true, true, true, true, true, false, false, false, false] rfl rfl (any_of HT_.out (by kernel_rfl)) (fun _ _ _ h => h) (Or.inl ⟨by rfl, ?_⟩) ?_ ?_
          rotate_left
          · intro w'
            go_simp
            with_reducible rfl
          rotate_left
          · simp only [Act.put, List.setIfInBounds_toArray, List.set_cons_zero, List.set_cons_succ, i64_w, i32_w]
            rfl
          refine take_ (i := 7) (N := some 71) (v := ?_) (a' := ?_) #[true, true, true, true, true, true, true, true, false, false, false] rfl rfl (take_ofW HT_.out HW_.out (by kernel_rfl)) (fun _ _ _ h => h) (Or.inl ⟨by rfl, ?_⟩) hHeld ?_ ?_
          rotate_left
          · intro w' hsw
            refine exec_load (x := .tmp 11) (H3.out.below hsw H3.out.lt) Tryd.underlying23 info32 rfl ?_ ?_ <;> rfl
          rotate_left
          · simp only [Act.put, List.setIfInBounds_toArray, List.set_cons_zero, List.set_cons_succ, i64_w, i32_w]
            rfl
          refine one_ (i := 8) (N := some 72) #[true, true, true, true, true, true, true, true, true, false, false] rfl rfl (one_of HT_.out (by kernel_rfl)) (by decide) (fun K hK => ?_)
          refine goes_ Tryd.func12 rfl rfl #[.agg (FR .u8 32 (dig 256 n))] rfl rfl rfl (by simp only [List.map_toArray, List.map_cons, List.map_nil]; rfl) ((good_true _ _ (HO6.out.below hHeld HO6.out.lt) (dig_By _) HNL.out).mono ?_)
          rintro e wc2 ⟨rfl, hb⟩
          have hSn : Below w6.heap.size w6 wc2 := hHeld.trans (hb.mono hHeld.size)
          clear hb
          refine ⟨_, rfl, hK.out _ _ hSn (fun hHeld => ?_)⟩
          clear hSn
          clear hK K
          refine norm_ (a' := ?_) ?_ ?_
          rotate_left
          · show Act.put _ (some 72) _ = _
            simp only [Act.put, List.setIfInBounds_toArray, List.set_cons_zero, List.set_cons_succ, i64_w, i32_w]
            rfl
          refine pure_ (i := 9) (N := some 73) (v := ?_) (a' := ?_) #[true, true, true, true, true, true, true, true, true, true, false] rfl rfl (any_of HT_.out (by kernel_rfl)) (fun _ _ _ h => h) (Or.inl ⟨by rfl, ?_⟩) ?_ ?_
          rotate_left
          · intro w'
            go_simp
            with_reducible rfl
          rotate_left
          · simp only [Act.put, List.setIfInBounds_toArray, List.set_cons_zero, List.set_cons_succ, i64_w, i32_w]
            rfl
          refine pure_ (i := 10) (N := some 6) (v := ?_) (a' := ?_) #[true, true, true, true, true, true, true, true, true, true, true] rfl rfl (any_of HT_.out (by kernel_rfl)) (fun _ _ _ h => h) (Or.inl ⟨by rfl, ?_⟩) ?_ ?_
          rotate_left
          · intro w'
            go_simp
            with_reducible rfl
          rotate_left
          · simp only [Act.put, List.setIfInBounds_toArray, List.set_cons_zero, List.set_cons_succ, i64_w, i32_w]
            rfl
          refine done_ (done_of HT_.out (by kernel_rfl)) ?_
          clear HT_ HW_ hqe hsr
          go_wp2_with fail
          go_ret
          exact ⟨rfl, HBd.out.trans (hHeld.mono HBd.out.size)⟩
end Go.Proofs.YtchokhakdnjfmaaDoor.P
