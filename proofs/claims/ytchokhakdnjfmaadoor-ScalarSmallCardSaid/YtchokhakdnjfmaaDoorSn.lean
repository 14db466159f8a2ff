/- The laws ScalarGood, ScalarMuls, ScalarLaws: their walks. -/
import Derived.Test.YtchokhakdnjfmaaDoorSm
namespace Go.Proofs.YtchokhakdnjfmaaDoor.P
set_option linter.unusedVariables false
set_option linter.unusedSimpArgs false
open Go.RowKit Go.Proofs.YtchokhakdnjfmaaDoorW.PrintWords Go.Proofs.YtchokhakdnjfmaaDoorW.PrintLast Go.Proofs.YtchokhakdnjfmaaDoorW.PrintMore
attribute [local go_sem] setCell_drewN
theorem Row.drew {w : World} {g : Nat} {k : IntKind} {n : Nat} {f : Nat → Int} {t : TypeId} (h : Row w g k n f t) : Row w.drew g k n f t := h
theorem sB_sN_N (f : Nat → Int) (hf : By f) : N32 (sB (sN 32 f)) = N32 f := val_congr 256 _ _ 32 (fun j hj => sB_sN 32 f hf j hj)
theorem refmul' (f g c : Nat → Int) (w : World) (hf : By f) (hg : By g) (hc : By c) :
    Calls Tryd.prog 16 #[.string (sN 32 f), .string (sN 32 g), .string (sN 32 c)] w fun e w' => e = .returned (.string (sN 32 (dig 256 ((N32 f * N32 g + N32 c) % LL)))) ∧ Below w.heap.size w w' := by
  have h := refmul_calls (sN 32 f) (sN 32 g) (sN 32 c) w (sN_size _ _) (sN_size _ _) (by rw [sN_size]; omega)
  rw [sB_sN_N f hf, sB_sN_N g hg, sN_val 32 c hc] at h
  exact h
theorem refneg' (f : Nat → Int) (w : World) (hf : By f) :
    Calls Tryd.prog 18 #[.string (sN 32 f)] w fun e w' => e = .returned (.string (sN 32 (dig 256 (N32 f * (LL - 1) % LL)))) ∧ Below w.heap.size w w' := by
  have h := refneg_calls (sN 32 f) w (sN_size _ _)
  rw [sB_sN_N f hf] at h
  exact h
theorem good_true (f : Nat → Int) (w : World) (ho : Ord w) (hf : By f) (h : N32 f < LL) : Calls Tryd.prog 12 #[.agg (FR .u8 32 f)] w fun e w' => e = .returned (.bool true) ∧ Below w.heap.size w w' := by
  have h2 := good_calls f w ho hf
  rw [decide_eq_true h] at h2
  exact h2
theorem good_bool (f : Nat → Int) (b : Bool) (w : World) (ho : Ord w) (hf : By f) (h : decide (N32 f < LL) = b) : Calls Tryd.prog 12 #[.agg (FR .u8 32 f)] w fun e w' => e = .returned (.bool b) ∧ Below w.heap.size w w' := by
  have h2 := good_calls f w ho hf
  rw [h] at h2
  exact h2
theorem refgood_bool (f : Nat → Int) (b : Bool) (w : World) (hf : By f) (h : decide (N32 f < LL) = b) : Calls Tryd.prog 13 #[.string (sN 32 f)] w fun e w' => e = .returned (.bool b) ∧ Below w.heap.size w w' := by
  have h2 := refgood_calls f w hf
  rw [h] at h2
  exact h2
theorem N32_rest (N : Int) : N32 (dig 256 (N % LL)) = N % LL := N32_dig _ (modLL_b N)
theorem rest_small (N : Int) : N % LL < LL := by unfold LL; omega
theorem By_wf {f : Nat → Int} (h : ∀ i, i < 32 → (Lit.int .u8 (f i)).wf = true) : By f := fun j hj => u8b (h j hj)
theorem tabG3 : rtab .any (opsOf Tryd.f4 3) = (true, [([], []), ([0], [0]), ([], []), ([2, 1], [2]), ([3, 3], [3]), ([1, 4], [1, 4]), ([5, 4], [5]), ([6], [6]), ([7, 6, 6], [6, 7]), ([8, 8, 6], [6, 8]), ([6, 9], [6, 9]), ([10, 9, 0, 1, 2, 3, 4, 5, 6, 7, 8, 9, 10], [10])]) := by kernel_rfl
theorem bitsG3 : waitsOk [([], []), ([0], [0]), ([], []), ([2, 1], [2]), ([3, 3], [3]), ([1, 4], [1, 4]), ([5, 4], [5]), ([6], [6]), ([7, 6, 6], [6, 7]), ([8, 8, 6], [6, 8]), ([6, 9], [6, 9]), ([10, 9, 0, 1, 2, 3, 4, 5, 6, 7, 8, 9, 10], [10])] [0, 1, 0, 7, 15, 31, 63, 127, 255, 511, 1023, 2047] = true := by kernel_rfl
set_option maxHeartbeats 1000000 in
theorem ScalarGood_walk (a0 : Nat → Int) (w : World) (ho : Ord w) (w0 : ∀ i, i < 32 → (Lit.int .u8 (a0 i)).wf = true) :
    Calls Tryd.prog 4 #[.agg (FR .u8 32 a0)] w fun e w' => e = .returned (.bool true) ∧ Below w.heap.size w w' := by
  have HO := Aside0.mk ho
  have HA := Aside0.mk (By_wf w0)
  obtain ⟨b, hbo⟩ : ∃ b, decide (N32 a0 < LL) = b := ⟨_, rfl⟩
  have HBo := Aside0.mk hbo
  clear ho w0 hbo
  have H00 := Aside0.mk (show Row (w.alloc (.cells (FR .u8 32 a0) 23)) (w.heap.size) .u8 32 a0 23 from by have h := (Row.new w .u8 32 a0 23); exact h)
  have HB0 := Aside0.mk (Below.alloc (Below.refl w.heap.size w) (by omega) (.cells (FR .u8 32 a0) 23))
  have hbb : (b == b) = true := by simp
  go_enter Tryd.func4, Tryd.ntmps4
  go_wp2_with fail
  rw [lit_row 7]
  refine (good_true (smL 7) _ (HO.out.below HB0.out HO.out.lt) (smL_By 7 (by omega)) (by rw [smL_N]; decide)).mono ?_
  rintro e w1 ⟨rfl, hb⟩
  have HB1 := Aside0.mk (HB0.out.trans (hb.mono HB0.out.size))
  have H0 := Aside0.mk ((H00.out.below hb H00.out.lt).drew)
  have HO6 := Aside0.mk (HO.out.below HB1.out.drew HO.out.lt)
  have HBd := Aside0.mk HB1.out.drew
  clear hb HB0 H00 HB1 HO
  go_wp2_with fail
  refine start_ (n := 12) (S := (fun w' => Below (w1.drew).heap.size (w1.drew) w')) (ds := []) #[false, false, false, false, false, false, false, false, false, false, false, false] (by kernel_rfl) rfl rfl (Below.refl _ _) (fun hHeld => ?_); refine with_tabW tabG3 bitsG3 (fun HT_ HW_ => ?_)
  generalize w1.drew = w6 at H0 HO6 HBd hHeld ⊢
  refine take_ (i := 0) (N := some 6) (v := ?_) (a' := ?_) #[true, false, false, false, false, false, false, false, false, false, false, false] rfl rfl (take_ofW HT_.out HW_.out (by kernel_rfl)) (fun _ _ _ h => h) (Or.inl ⟨by rfl, ?_⟩) hHeld ?_ ?_
  rotate_left
  · intro w' hsw
    refine exec_load (x := .tmp 1) (H0.out.below hsw H0.out.lt) Tryd.underlying23 info32 rfl ?_ ?_ <;> rfl
  rotate_left
  · simp only [Act.put, List.setIfInBounds_toArray, List.set_cons_zero, List.set_cons_succ, i64_w, i32_w]
    rfl
  refine take_ (i := 2) (N := some 8) (v := ?_) (a' := ?_) #[true, false, true, false, false, false, false, false, false, false, false, false] rfl rfl (take_ofW HT_.out HW_.out (by kernel_rfl)) (fun _ _ _ h => h) (Or.inl ⟨by rfl, ?_⟩) hHeld ?_ ?_
  rotate_left
  · intro w' hsw
    refine exec_load (x := .tmp 1) (H0.out.below hsw H0.out.lt) Tryd.underlying23 info32 rfl ?_ ?_ <;> rfl
  rotate_left
  · simp only [Act.put, List.setIfInBounds_toArray, List.set_cons_zero, List.set_cons_succ, i64_w, i32_w]
    rfl
  refine one_ (i := 1) (N := some 7) #[true, true, true, false, false, false, false, false, false, false, false, false] rfl rfl (one_of HT_.out (by kernel_rfl)) (by decide) (fun K hK => ?_)
  refine goes_ Tryd.func12 rfl rfl #[.agg (FR .u8 32 a0)] rfl rfl rfl (by simp only [List.map_toArray, List.map_cons, List.map_nil]; rfl) ((good_bool a0 b _ (HO6.out.below hHeld HO6.out.lt) HA.out HBo.out).mono ?_)
  rintro e wc1 ⟨rfl, hb⟩
  have hSn : Below w6.heap.size w6 wc1 := hHeld.trans (hb.mono hHeld.size)
  clear hb
  refine ⟨_, rfl, hK.out _ _ hSn (fun hHeld => ?_)⟩
  clear hSn
  clear hK K
  refine norm_ (a' := ?_) ?_ ?_
  rotate_left
  · show Act.put _ (some 7) _ = _
    simp only [Act.put, List.setIfInBounds_toArray, List.set_cons_zero, List.set_cons_succ, i64_w, i32_w]
    rfl
  refine one_ (i := 3) (N := some 9) #[true, true, true, true, false, false, false, false, false, false, false, false] rfl rfl (one_of HT_.out (by kernel_rfl)) (by decide) (fun K hK => ?_)
  refine goes_ Tryd.func10 rfl rfl #[.agg (FR .u8 32 a0)] rfl rfl rfl (by simp only [List.map_toArray, List.map_cons, List.map_nil]; rfl) ((text_calls a0 _).mono ?_)
  rintro e wc2 ⟨rfl, hb⟩
  have hSn : Below w6.heap.size w6 wc2 := hHeld.trans (hb.mono hHeld.size)
  clear hb
  refine ⟨_, rfl, hK.out _ _ hSn (fun hHeld => ?_)⟩
  clear hSn
  clear hK K
  refine norm_ (a' := ?_) ?_ ?_
  rotate_left
  · show Act.put _ (some 9) _ = _
    simp only [Act.put, List.setIfInBounds_toArray, List.set_cons_zero, List.set_cons_succ, i64_w, i32_w]
    rfl
  refine one_ (i := 4) (N := some 10) #[true, true, true, true, true, false, false, false, false, false, false, false] rfl rfl (one_of HT_.out (by kernel_rfl)) (by decide) (fun K hK => ?_)
  refine goes_ Tryd.func13 rfl rfl #[.string (sN 32 a0)] rfl rfl rfl (by simp only [List.map_toArray, List.map_cons, List.map_nil]; rfl) ((refgood_bool a0 b _ HA.out HBo.out).mono ?_)
  rintro e wc3 ⟨rfl, hb⟩
  have hSn : Below w6.heap.size w6 wc3 := hHeld.trans (hb.mono hHeld.size)
  clear hb
  refine ⟨_, rfl, hK.out _ _ hSn (fun hHeld => ?_)⟩
  clear hSn
  clear hK K
  refine norm_ (a' := ?_) ?_ ?_
  rotate_left
  · show Act.put _ (some 10) _ = _
    simp only [Act.put, List.setIfInBounds_toArray, List.set_cons_zero, List.set_cons_succ, i64_w, i32_w]
    rfl
  refine pure_ (i := 5) (N := some 11) (v := ?_) (a' := ?_) #[true, true, true, true, true, true, false, false, false, false, false, false] rfl rfl (any_of HT_.out (by kernel_rfl)) (fun _ _ _ h => h) (Or.inl ⟨by rfl, ?_⟩) ?_ ?_
  rotate_left
  · intro w'
    go_simp
    with_reducible rfl
  rotate_left
  · simp only [Act.put, List.setIfInBounds_toArray, List.set_cons_zero, List.set_cons_succ, i64_w, i32_w]
    rfl
  refine pure_ (i := 6) (N := some 12) (v := ?_) (a' := ?_) #[true, true, true, true, true, true, true, false, false, false, false, false] rfl rfl (any_of HT_.out (by kernel_rfl)) (fun _ _ _ h => h) (Or.inl ⟨by rfl, ?_⟩) ?_ ?_
  rotate_left
  · intro w'
    go_simp
    with_reducible rfl
  rotate_left
  · simp only [Act.put, List.setIfInBounds_toArray, List.set_cons_zero, List.set_cons_succ, i64_w, i32_w]
    rfl
  refine pure_ (i := 7) (N := some 13) (v := ?_) (a' := ?_) #[true, true, true, true, true, true, true, true, false, false, false, false] rfl rfl (any_of HT_.out (by kernel_rfl)) (fun _ _ _ h => h) (Or.inl ⟨by rfl, ?_⟩) ?_ ?_
  rotate_left
  · intro w'
    go_simp
    with_reducible rfl
  rotate_left
  · simp only [Act.put, List.setIfInBounds_toArray, List.set_cons_zero, List.set_cons_succ, i64_w, i32_w]
    rfl
  refine one_ (i := 8) (N := some 14) #[true, true, true, true, true, true, true, true, true, false, false, false] rfl rfl (one_of HT_.out (by kernel_rfl)) (by decide) (fun K hK => ?_)
  refine goes_ Tryd.func9 rfl rfl #[.slice (some ⟨w.heap.size, 0, none⟩) 32 32] rfl rfl rfl (by simp only [List.map_toArray, List.map_cons, List.map_nil]; rfl) ((rest_calls' a0 _ 32 32 _ (HO6.out.below hHeld HO6.out.lt) HA.out (by omega) ((H0.out.below hHeld H0.out.lt).bytesAt (Nat.le_refl _))).mono ?_)
  rintro e wc4 ⟨rfl, hb⟩
  have hSn : Below w6.heap.size w6 wc4 := hHeld.trans (hb.mono hHeld.size)
  clear hb
  refine ⟨_, rfl, hK.out _ _ hSn (fun hHeld => ?_)⟩
  clear hSn
  clear hK K
  refine norm_ (a' := ?_) ?_ ?_
  rotate_left
  · show Act.put _ (some 14) _ = _
    simp only [Act.put, List.setIfInBounds_toArray, List.set_cons_zero, List.set_cons_succ, i64_w, i32_w]
    rfl
  refine one_ (i := 9) (N := some 15) #[true, true, true, true, true, true, true, true, true, true, false, false] rfl rfl (one_of HT_.out (by kernel_rfl)) (by decide) (fun K hK => ?_)
  refine goes_ Tryd.func12 rfl rfl #[.agg (FR .u8 32 (dig 256 (val 256 a0 32 % LL)))] rfl rfl rfl (by simp only [List.map_toArray, List.map_cons, List.map_nil]; rfl) ((good_true _ _ (HO6.out.below hHeld HO6.out.lt) (dig_By _) (by rw [N32_rest]; exact rest_small _)).mono ?_)
  rintro e wc5 ⟨rfl, hb⟩
  have hSn : Below w6.heap.size w6 wc5 := hHeld.trans (hb.mono hHeld.size)
  clear hb
  refine ⟨_, rfl, hK.out _ _ hSn (fun hHeld => ?_)⟩
  clear hSn
  clear hK K
  refine norm_ (a' := ?_) ?_ ?_
  rotate_left
  · show Act.put _ (some 15) _ = _
    simp only [Act.put, List.setIfInBounds_toArray, List.set_cons_zero, List.set_cons_succ, i64_w, i32_w]
    rfl
  refine pure_ (i := 10) (N := some 16) (v := ?_) (a' := ?_) #[true, true, true, true, true, true, true, true, true, true, true, false] rfl rfl (any_of HT_.out (by kernel_rfl)) (fun _ _ _ h => h) (Or.inl ⟨by rfl, ?_⟩) ?_ ?_
  rotate_left
  · intro w'
    go_simp
    with_reducible rfl
  rotate_left
  · simp only [Act.put, List.setIfInBounds_toArray, List.set_cons_zero, List.set_cons_succ, i64_w, i32_w]
    rfl
  refine pure_ (i := 11) (N := some 2) (v := ?_) (a' := ?_) #[true, true, true, true, true, true, true, true, true, true, true, true] rfl rfl (any_of HT_.out (by kernel_rfl)) (fun _ _ _ h => h) (Or.inl ⟨by rfl, ?_⟩) ?_ ?_
  rotate_left
  · intro w'
    go_simp
    with_reducible rfl
  rotate_left
  · simp only [Act.put, List.setIfInBounds_toArray, List.set_cons_zero, List.set_cons_succ, i64_w, i32_w]
    rfl
  refine done_ (done_of HT_.out (by kernel_rfl)) ?_
  clear HT_ HW_
  cases b <;> go_wp2_with fail
  all_goals go_ret
  all_goals exact ⟨rfl, HBd.out.trans (hHeld.mono HBd.out.size)⟩
theorem tabM3 : rtab .any (opsOf Tryd.f7 3) = (true, [([], []), ([], []), ([], []), ([0, 1, 2], [0, 1, 2]), ([3, 3], [3]), ([], []), ([5, 4], [5]), ([], []), ([7, 6], [7]), ([], []), ([9, 8], [9]), ([6, 8, 10, 10], [6, 8, 10]), ([4, 11], [4, 11]), ([12, 11], [12]), ([13], [13]), ([14, 13, 13], [13, 14]), ([15, 15, 13], [13, 15]), ([13], [13]), ([17, 16, 13], [13, 17]), ([18, 18, 13], [13, 18]), ([16, 19, 13], [13, 16, 19]), ([13, 20], [13, 20]), ([21, 19, 0, 1, 2, 3, 4, 5, 6, 7, 8, 9, 10, 11, 12, 13, 14, 15, 16, 17, 18, 19, 20, 21], [21])]) := by kernel_rfl
theorem bitsM3 : waitsOk [([], []), ([], []), ([], []), ([0, 1, 2], [0, 1, 2]), ([3, 3], [3]), ([], []), ([5, 4], [5]), ([], []), ([7, 6], [7]), ([], []), ([9, 8], [9]), ([6, 8, 10, 10], [6, 8, 10]), ([4, 11], [4, 11]), ([12, 11], [12]), ([13], [13]), ([14, 13, 13], [13, 14]), ([15, 15, 13], [13, 15]), ([13], [13]), ([17, 16, 13], [13, 17]), ([18, 18, 13], [13, 18]), ([16, 19, 13], [13, 16, 19]), ([13, 20], [13, 20]), ([21, 19, 0, 1, 2, 3, 4, 5, 6, 7, 8, 9, 10, 11, 12, 13, 14, 15, 16, 17, 18, 19, 20, 21], [21])] [0, 0, 0, 7, 15, 0, 63, 0, 255, 0, 1023, 2047, 4095, 8191, 16383, 32767, 65535, 16383, 262143, 524287, 1048575, 2097151, 4194303] = true := by kernel_rfl
set_option maxHeartbeats 2000000 in
theorem ScalarMuls_walk (a0 a1 a2 : Nat → Int) (w : World) (ho : Ord w) (w0 : ∀ i, i < 32 → (Lit.int .u8 (a0 i)).wf = true) (w1 : ∀ i, i < 32 → (Lit.int .u8 (a1 i)).wf = true) (w2 : ∀ i, i < 32 → (Lit.int .u8 (a2 i)).wf = true) :
    Calls Tryd.prog 7 #[.agg (FR .u8 32 a0), .agg (FR .u8 32 a1), .agg (FR .u8 32 a2)] w fun e w' => e = .returned (.bool true) ∧ Below w.heap.size w w' := by
  have HO := Aside0.mk ho
  have HA0 := Aside0.mk (By_wf w0)
  have HA1 := Aside0.mk (By_wf w1)
  have HA2 := Aside0.mk (By_wf w2)
  clear ho w0 w1 w2
  have hz1 : (w.alloc (.cells (FR .u8 32 a0) 23)).heap.size = w.heap.size + 1 := by simp
  have hz2 : ((w.alloc (.cells (FR .u8 32 a0) 23)).alloc (.cells (FR .u8 32 a1) 23)).heap.size = w.heap.size + 1 + 1 := by simp
  have H00 := Aside0.mk (Row.alloc (Row.alloc (show Row (w.alloc (.cells (FR .u8 32 a0) 23)) (w.heap.size) .u8 32 a0 23 from by have h := (Row.new w .u8 32 a0 23); exact h) (.cells (FR .u8 32 a1) 23)) (.cells (FR .u8 32 a2) 23))
  have H01 := Aside0.mk (Row.alloc (show Row ((w.alloc (.cells (FR .u8 32 a0) 23)).alloc (.cells (FR .u8 32 a1) 23)) (w.heap.size + 1) .u8 32 a1 23 from by have h := (Row.new (w.alloc (.cells (FR .u8 32 a0) 23)) .u8 32 a1 23); rw [hz1] at h; exact h) (.cells (FR .u8 32 a2) 23))
  have H02 := Aside0.mk (show Row (((w.alloc (.cells (FR .u8 32 a0) 23)).alloc (.cells (FR .u8 32 a1) 23)).alloc (.cells (FR .u8 32 a2) 23)) (w.heap.size + 1 + 1) .u8 32 a2 23 from by have h := (Row.new ((w.alloc (.cells (FR .u8 32 a0) 23)).alloc (.cells (FR .u8 32 a1) 23)) .u8 32 a2 23); rw [hz2] at h; exact h)
  have HB0 := Aside0.mk (Below.alloc (Below.alloc (Below.alloc (Below.refl w.heap.size w) (by omega) (.cells (FR .u8 32 a0) 23)) (by simp; try omega) (.cells (FR .u8 32 a1) 23)) (by simp; try omega) (.cells (FR .u8 32 a2) 23))
  clear hz1 hz2
  go_enter Tryd.func7, Tryd.ntmps7
  go_wp2_with fail
  refine (alive_calls _ (HO.out.below HB0.out HO.out.lt)).mono ?_
  rintro e w1 ⟨rfl, hb⟩
  have HB1 := Aside0.mk (HB0.out.trans (hb.mono HB0.out.size))
  have H0 := Aside0.mk ((H00.out.below hb H00.out.lt).drew)
  have H1 := Aside0.mk ((H01.out.below hb H01.out.lt).drew)
  have H2 := Aside0.mk ((H02.out.below hb H02.out.lt).drew)
  have HO6 := Aside0.mk (HO.out.below HB1.out.drew HO.out.lt)
  have HBd := Aside0.mk HB1.out.drew
  clear hb HB0 H00 H01 H02 HB1 HO
  have hb1 := beq_same (sN 32 (dig 256 ((N32 a0 * N32 a1 + N32 a2) % LL)))
  have hb2 := beq_same (sN 32 (dig 256 (N32 a0 * (LL - 1) % LL)))
  go_wp2_with fail
  refine start_ (n := 23) (S := (fun w' => Below (w1.drew).heap.size (w1.drew) w')) (ds := []) #[false, false, false, false, false, false, false, false, false, false, false, false, false, false, false, false, false, false, false, false, false, false, false] (by kernel_rfl) rfl rfl (Below.refl _ _) (fun hHeld => ?_); refine with_tabW tabM3 bitsM3 (fun HT_ HW_ => ?_)
  generalize w1.drew = w6 at H0 H1 H2 HO6 HBd hHeld ⊢
  refine take_ (i := 0) (N := some 9) (v := ?_) (a' := ?_) #[true, false, false, false, false, false, false, false, false, false, false, false, false, false, false, false, false, false, false, false, false, false, false] rfl rfl (take_ofW HT_.out HW_.out (by kernel_rfl)) (fun _ _ _ h => h) (Or.inl ⟨by rfl, ?_⟩) hHeld ?_ ?_
  rotate_left
  · intro w' hsw
    refine exec_load (x := .tmp 3) (H0.out.below hsw H0.out.lt) Tryd.underlying23 info32 rfl ?_ ?_ <;> rfl
  rotate_left
  · simp only [Act.put, List.setIfInBounds_toArray, List.set_cons_zero, List.set_cons_succ, i64_w, i32_w]
    rfl
  refine take_ (i := 1) (N := some 10) (v := ?_) (a' := ?_) #[true, true, false, false, false, false, false, false, false, false, false, false, false, false, false, false, false, false, false, false, false, false, false] rfl rfl (take_ofW HT_.out HW_.out (by kernel_rfl)) (fun _ _ _ h => h) (Or.inl ⟨by rfl, ?_⟩) hHeld ?_ ?_
  rotate_left
  · intro w' hsw
    refine exec_load (x := .tmp 4) (H1.out.below hsw H1.out.lt) Tryd.underlying23 info32 rfl ?_ ?_ <;> rfl
  rotate_left
  · simp only [Act.put, List.setIfInBounds_toArray, List.set_cons_zero, List.set_cons_succ, i64_w, i32_w]
    rfl
  refine take_ (i := 2) (N := some 11) (v := ?_) (a' := ?_) #[true, true, true, false, false, false, false, false, false, false, false, false, false, false, false, false, false, false, false, false, false, false, false] rfl rfl (take_ofW HT_.out HW_.out (by kernel_rfl)) (fun _ _ _ h => h) (Or.inl ⟨by rfl, ?_⟩) hHeld ?_ ?_
  rotate_left
  · intro w' hsw
    refine exec_load (x := .tmp 5) (H2.out.below hsw H2.out.lt) Tryd.underlying23 info32 rfl ?_ ?_ <;> rfl
  rotate_left
  · simp only [Act.put, List.setIfInBounds_toArray, List.set_cons_zero, List.set_cons_succ, i64_w, i32_w]
    rfl
  refine take_ (i := 5) (N := some 14) (v := ?_) (a' := ?_) #[true, true, true, false, false, true, false, false, false, false, false, false, false, false, false, false, false, false, false, false, false, false, false] rfl rfl (take_ofW HT_.out HW_.out (by kernel_rfl)) (fun _ _ _ h => h) (Or.inl ⟨by rfl, ?_⟩) hHeld ?_ ?_
  rotate_left
  · intro w' hsw
    refine exec_load (x := .tmp 3) (H0.out.below hsw H0.out.lt) Tryd.underlying23 info32 rfl ?_ ?_ <;> rfl
  rotate_left
  · simp only [Act.put, List.setIfInBounds_toArray, List.set_cons_zero, List.set_cons_succ, i64_w, i32_w]
    rfl
  refine take_ (i := 7) (N := some 16) (v := ?_) (a' := ?_) #[true, true, true, false, false, true, false, true, false, false, false, false, false, false, false, false, false, false, false, false, false, false, false] rfl rfl (take_ofW HT_.out HW_.out (by kernel_rfl)) (fun _ _ _ h => h) (Or.inl ⟨by rfl, ?_⟩) hHeld ?_ ?_
  rotate_left
  · intro w' hsw
    refine exec_load (x := .tmp 4) (H1.out.below hsw H1.out.lt) Tryd.underlying23 info32 rfl ?_ ?_ <;> rfl
  rotate_left
  · simp only [Act.put, List.setIfInBounds_toArray, List.set_cons_zero, List.set_cons_succ, i64_w, i32_w]
    rfl
  refine take_ (i := 9) (N := some 18) (v := ?_) (a' := ?_) #[true, true, true, false, false, true, false, true, false, true, false, false, false, false, false, false, false, false, false, false, false, false, false] rfl rfl (take_ofW HT_.out HW_.out (by kernel_rfl)) (fun _ _ _ h => h) (Or.inl ⟨by rfl, ?_⟩) hHeld ?_ ?_
  rotate_left
  · intro w' hsw
    refine exec_load (x := .tmp 5) (H2.out.below hsw H2.out.lt) Tryd.underlying23 info32 rfl ?_ ?_ <;> rfl
  rotate_left
  · simp only [Act.put, List.setIfInBounds_toArray, List.set_cons_zero, List.set_cons_succ, i64_w, i32_w]
    rfl
  refine one_ (i := 3) (N := some 12) #[true, true, true, true, false, true, false, true, false, true, false, false, false, false, false, false, false, false, false, false, false, false, false] rfl rfl (one_of HT_.out (by kernel_rfl)) (by decide) (fun K hK => ?_)
  refine goes_ Tryd.func15 rfl rfl #[.agg (FR .u8 32 a0), .agg (FR .u8 32 a1), .agg (FR .u8 32 a2)] rfl rfl rfl (by simp only [List.map_toArray, List.map_cons, List.map_nil]; rfl) ((muladd_calls a0 a1 a2 _ (HO6.out.below hHeld HO6.out.lt) HA0.out HA1.out HA2.out).mono ?_)
  rintro e wc1 ⟨rfl, hb⟩
  have hSn : Below w6.heap.size w6 wc1 := hHeld.trans (hb.mono hHeld.size)
  clear hb
  refine ⟨_, rfl, hK.out _ _ hSn (fun hHeld => ?_)⟩
  clear hSn
  clear hK K
  refine norm_ (a' := ?_) ?_ ?_
  rotate_left
  · show Act.put _ (some 12) _ = _
    simp only [Act.put, List.setIfInBounds_toArray, List.set_cons_zero, List.set_cons_succ, i64_w, i32_w]
    rfl
  refine one_ (i := 4) (N := some 13) #[true, true, true, true, true, true, false, true, false, true, false, false, false, false, false, false, false, false, false, false, false, false, false] rfl rfl (one_of HT_.out (by kernel_rfl)) (by decide) (fun K hK => ?_)
  refine goes_ Tryd.func10 rfl rfl #[.agg (FR .u8 32 (dig 256 ((N32 a0 * N32 a1 + N32 a2) % LL)))] rfl rfl rfl (by simp only [List.map_toArray, List.map_cons, List.map_nil]; rfl) ((text_calls _ _).mono ?_)
  rintro e wc2 ⟨rfl, hb⟩
  have hSn : Below w6.heap.size w6 wc2 := hHeld.trans (hb.mono hHeld.size)
  clear hb
  refine ⟨_, rfl, hK.out _ _ hSn (fun hHeld => ?_)⟩
  clear hSn
  clear hK K
  refine norm_ (a' := ?_) ?_ ?_
  rotate_left
  · show Act.put _ (some 13) _ = _
    simp only [Act.put, List.setIfInBounds_toArray, List.set_cons_zero, List.set_cons_succ, i64_w, i32_w]
    rfl
  refine one_ (i := 6) (N := some 15) #[true, true, true, true, true, true, true, true, false, true, false, false, false, false, false, false, false, false, false, false, false, false, false] rfl rfl (one_of HT_.out (by kernel_rfl)) (by decide) (fun K hK => ?_)
  refine goes_ Tryd.func10 rfl rfl #[.agg (FR .u8 32 a0)] rfl rfl rfl (by simp only [List.map_toArray, List.map_cons, List.map_nil]; rfl) ((text_calls _ _).mono ?_)
  rintro e wc3 ⟨rfl, hb⟩
  have hSn : Below w6.heap.size w6 wc3 := hHeld.trans (hb.mono hHeld.size)
  clear hb
  refine ⟨_, rfl, hK.out _ _ hSn (fun hHeld => ?_)⟩
  clear hSn
  clear hK K
  refine norm_ (a' := ?_) ?_ ?_
  rotate_left
  · show Act.put _ (some 15) _ = _
    simp only [Act.put, List.setIfInBounds_toArray, List.set_cons_zero, List.set_cons_succ, i64_w, i32_w]
    rfl
  refine one_ (i := 8) (N := some 17) #[true, true, true, true, true, true, true, true, true, true, false, false, false, false, false, false, false, false, false, false, false, false, false] rfl rfl (one_of HT_.out (by kernel_rfl)) (by decide) (fun K hK => ?_)
  refine goes_ Tryd.func10 rfl rfl #[.agg (FR .u8 32 a1)] rfl rfl rfl (by simp only [List.map_toArray, List.map_cons, List.map_nil]; rfl) ((text_calls _ _).mono ?_)
  rintro e wc4 ⟨rfl, hb⟩
  have hSn : Below w6.heap.size w6 wc4 := hHeld.trans (hb.mono hHeld.size)
  clear hb
  refine ⟨_, rfl, hK.out _ _ hSn (fun hHeld => ?_)⟩
  clear hSn
  clear hK K
  refine norm_ (a' := ?_) ?_ ?_
  rotate_left
  · show Act.put _ (some 17) _ = _
    simp only [Act.put, List.setIfInBounds_toArray, List.set_cons_zero, List.set_cons_succ, i64_w, i32_w]
    rfl
  refine one_ (i := 10) (N := some 19) #[true, true, true, true, true, true, true, true, true, true, true, false, false, false, false, false, false, false, false, false, false, false, false] rfl rfl (one_of HT_.out (by kernel_rfl)) (by decide) (fun K hK => ?_)
  refine goes_ Tryd.func10 rfl rfl #[.agg (FR .u8 32 a2)] rfl rfl rfl (by simp only [List.map_toArray, List.map_cons, List.map_nil]; rfl) ((text_calls _ _).mono ?_)
  rintro e wc5 ⟨rfl, hb⟩
  have hSn : Below w6.heap.size w6 wc5 := hHeld.trans (hb.mono hHeld.size)
  clear hb
  refine ⟨_, rfl, hK.out _ _ hSn (fun hHeld => ?_)⟩
  clear hSn
  clear hK K
  refine norm_ (a' := ?_) ?_ ?_
  rotate_left
  · show Act.put _ (some 19) _ = _
    simp only [Act.put, List.setIfInBounds_toArray, List.set_cons_zero, List.set_cons_succ, i64_w, i32_w]
    rfl
  refine one_ (i := 11) (N := some 20) #[true, true, true, true, true, true, true, true, true, true, true, true, false, false, false, false, false, false, false, false, false, false, false] rfl rfl (one_of HT_.out (by kernel_rfl)) (by decide) (fun K hK => ?_)
  refine goes_ Tryd.func16 rfl rfl #[.string (sN 32 a0), .string (sN 32 a1), .string (sN 32 a2)] rfl rfl rfl (by simp only [List.map_toArray, List.map_cons, List.map_nil]; rfl) ((refmul' a0 a1 a2 _ HA0.out HA1.out HA2.out).mono ?_)
  rintro e wc6 ⟨rfl, hb⟩
  have hSn : Below w6.heap.size w6 wc6 := hHeld.trans (hb.mono hHeld.size)
  clear hb
  refine ⟨_, rfl, hK.out _ _ hSn (fun hHeld => ?_)⟩
  clear hSn
  clear hK K
  refine norm_ (a' := ?_) ?_ ?_
  rotate_left
  · show Act.put _ (some 20) _ = _
    simp only [Act.put, List.setIfInBounds_toArray, List.set_cons_zero, List.set_cons_succ, i64_w, i32_w]
    rfl
  refine pure_ (i := 12) (N := some 21) (v := ?_) (a' := ?_) #[true, true, true, true, true, true, true, true, true, true, true, true, true, false, false, false, false, false, false, false, false, false, false] rfl rfl (any_of HT_.out (by kernel_rfl)) (fun _ _ _ h => h) (Or.inl ⟨by rfl, ?_⟩) ?_ ?_
  rotate_left
  · intro w'
    go_simp
    with_reducible rfl
  rotate_left
  · simp only [Act.put, List.setIfInBounds_toArray, List.set_cons_zero, List.set_cons_succ, i64_w, i32_w]
    rfl
  refine pure_ (i := 13) (N := some 22) (v := ?_) (a' := ?_) #[true, true, true, true, true, true, true, true, true, true, true, true, true, true, false, false, false, false, false, false, false, false, false] rfl rfl (any_of HT_.out (by kernel_rfl)) (fun _ _ _ h => h) (Or.inl ⟨by rfl, ?_⟩) ?_ ?_
  rotate_left
  · intro w'
    go_simp
    with_reducible rfl
  rotate_left
  · simp only [Act.put, List.setIfInBounds_toArray, List.set_cons_zero, List.set_cons_succ, i64_w, i32_w]
    rfl
  refine take_ (i := 14) (N := some 23) (v := ?_) (a' := ?_) #[true, true, true, true, true, true, true, true, true, true, true, true, true, true, true, false, false, false, false, false, false, false, false] rfl rfl (take_ofW HT_.out HW_.out (by kernel_rfl)) (fun _ _ _ h => h) (Or.inl ⟨by rfl, ?_⟩) hHeld ?_ ?_
  rotate_left
  · intro w' hsw
    refine exec_load (x := .tmp 3) (H0.out.below hsw H0.out.lt) Tryd.underlying23 info32 rfl ?_ ?_ <;> rfl
  rotate_left
  · simp only [Act.put, List.setIfInBounds_toArray, List.set_cons_zero, List.set_cons_succ, i64_w, i32_w]
    rfl
  refine take_ (i := 17) (N := some 26) (v := ?_) (a' := ?_) #[true, true, true, true, true, true, true, true, true, true, true, true, true, true, true, false, false, true, false, false, false, false, false] rfl rfl (take_ofW HT_.out HW_.out (by kernel_rfl)) (fun _ _ _ h => h) (Or.inl ⟨by rfl, ?_⟩) hHeld ?_ ?_
  rotate_left
  · intro w' hsw
    refine exec_load (x := .tmp 3) (H0.out.below hsw H0.out.lt) Tryd.underlying23 info32 rfl ?_ ?_ <;> rfl
  rotate_left
  · simp only [Act.put, List.setIfInBounds_toArray, List.set_cons_zero, List.set_cons_succ, i64_w, i32_w]
    rfl
  refine one_ (i := 15) (N := some 24) #[true, true, true, true, true, true, true, true, true, true, true, true, true, true, true, true, false, true, false, false, false, false, false] rfl rfl (one_of HT_.out (by kernel_rfl)) (by decide) (fun K hK => ?_)
  refine goes_ Tryd.func17 rfl rfl #[.agg (FR .u8 32 a0)] rfl rfl rfl (by simp only [List.map_toArray, List.map_cons, List.map_nil]; rfl) ((neg_calls a0 _ (HO6.out.below hHeld HO6.out.lt) HA0.out).mono ?_)
  rintro e wc7 ⟨rfl, hb⟩
  have hSn : Below w6.heap.size w6 wc7 := hHeld.trans (hb.mono hHeld.size)
  clear hb
  refine ⟨_, rfl, hK.out _ _ hSn (fun hHeld => ?_)⟩
  clear hSn
  clear hK K
  refine norm_ (a' := ?_) ?_ ?_
  rotate_left
  · show Act.put _ (some 24) _ = _
    simp only [Act.put, List.setIfInBounds_toArray, List.set_cons_zero, List.set_cons_succ, i64_w, i32_w]
    rfl
  refine one_ (i := 16) (N := some 25) #[true, true, true, true, true, true, true, true, true, true, true, true, true, true, true, true, true, true, false, false, false, false, false] rfl rfl (one_of HT_.out (by kernel_rfl)) (by decide) (fun K hK => ?_)
  refine goes_ Tryd.func10 rfl rfl #[.agg (FR .u8 32 (dig 256 (N32 a0 * (LL - 1) % LL)))] rfl rfl rfl (by simp only [List.map_toArray, List.map_cons, List.map_nil]; rfl) ((text_calls _ _).mono ?_)
  rintro e wc8 ⟨rfl, hb⟩
  have hSn : Below w6.heap.size w6 wc8 := hHeld.trans (hb.mono hHeld.size)
  clear hb
  refine ⟨_, rfl, hK.out _ _ hSn (fun hHeld => ?_)⟩
  clear hSn
  clear hK K
  refine norm_ (a' := ?_) ?_ ?_
  rotate_left
  · show Act.put _ (some 25) _ = _
    simp only [Act.put, List.setIfInBounds_toArray, List.set_cons_zero, List.set_cons_succ, i64_w, i32_w]
    rfl
  refine one_ (i := 18) (N := some 27) #[true, true, true, true, true, true, true, true, true, true, true, true, true, true, true, true, true, true, true, false, false, false, false] rfl rfl (one_of HT_.out (by kernel_rfl)) (by decide) (fun K hK => ?_)
  refine goes_ Tryd.func10 rfl rfl #[.agg (FR .u8 32 a0)] rfl rfl rfl (by simp only [List.map_toArray, List.map_cons, List.map_nil]; rfl) ((text_calls _ _).mono ?_)
  rintro e wc9 ⟨rfl, hb⟩
  have hSn : Below w6.heap.size w6 wc9 := hHeld.trans (hb.mono hHeld.size)
  clear hb
  refine ⟨_, rfl, hK.out _ _ hSn (fun hHeld => ?_)⟩
  clear hSn
  clear hK K
  refine norm_ (a' := ?_) ?_ ?_
  rotate_left
  · show Act.put _ (some 27) _ = _
    simp only [Act.put, List.setIfInBounds_toArray, List.set_cons_zero, List.set_cons_succ, i64_w, i32_w]
    rfl
  refine one_ (i := 19) (N := some 28) #[true, true, true, true, true, true, true, true, true, true, true, true, true, true, true, true, true, true, true, true, false, false, false] rfl rfl (one_of HT_.out (by kernel_rfl)) (by decide) (fun K hK => ?_)
  refine goes_ Tryd.func18 rfl rfl #[.string (sN 32 a0)] rfl rfl rfl (by simp only [List.map_toArray, List.map_cons, List.map_nil]; rfl) ((refneg' a0 _ HA0.out).mono ?_)
  rintro e wc10 ⟨rfl, hb⟩
  have hSn : Below w6.heap.size w6 wc10 := hHeld.trans (hb.mono hHeld.size)
  clear hb
  refine ⟨_, rfl, hK.out _ _ hSn (fun hHeld => ?_)⟩
  clear hSn
  clear hK K
  refine norm_ (a' := ?_) ?_ ?_
  rotate_left
  · show Act.put _ (some 28) _ = _
    simp only [Act.put, List.setIfInBounds_toArray, List.set_cons_zero, List.set_cons_succ, i64_w, i32_w]
    rfl
  refine pure_ (i := 20) (N := some 29) (v := ?_) (a' := ?_) #[true, true, true, true, true, true, true, true, true, true, true, true, true, true, true, true, true, true, true, true, true, false, false] rfl rfl (any_of HT_.out (by kernel_rfl)) (fun _ _ _ h => h) (Or.inl ⟨by rfl, ?_⟩) ?_ ?_
  rotate_left
  · intro w'
    go_simp
    with_reducible rfl
  rotate_left
  · simp only [Act.put, List.setIfInBounds_toArray, List.set_cons_zero, List.set_cons_succ, i64_w, i32_w]
    rfl
  refine pure_ (i := 21) (N := some 30) (v := ?_) (a' := ?_) #[true, true, true, true, true, true, true, true, true, true, true, true, true, true, true, true, true, true, true, true, true, true, false] rfl rfl (any_of HT_.out (by kernel_rfl)) (fun _ _ _ h => h) (Or.inl ⟨by rfl, ?_⟩) ?_ ?_
  rotate_left
  · intro w'
    go_simp
    with_reducible rfl
  rotate_left
  · simp only [Act.put, List.setIfInBounds_toArray, List.set_cons_zero, List.set_cons_succ, i64_w, i32_w]
    rfl
  refine pure_ (i := 22) (N := some 6) (v := ?_) (a' := ?_) #[true, true, true, true, true, true, true, true, true, true, true, true, true, true, true, true, true, true, true, true, true, true, true] rfl rfl (any_of HT_.out (by kernel_rfl)) (fun _ _ _ h => h) (Or.inl ⟨by rfl, ?_⟩) ?_ ?_
  rotate_left
  · intro w'
    go_simp
    with_reducible rfl
  rotate_left
  · simp only [Act.put, List.setIfInBounds_toArray, List.set_cons_zero, List.set_cons_succ, i64_w, i32_w]
    rfl
  refine done_ (done_of HT_.out (by kernel_rfl)) ?_
  clear HT_ HW_ hb1 hb2
  go_wp2_with fail
  go_ret
  exact ⟨rfl, HBd.out.trans (hHeld.mono HBd.out.size)⟩
theorem muladd_as (f g c : Nat → Int) (N : Int) (w : World) (ho : Ord w) (hf : By f) (hg : By g) (hc : By c) (h : (N32 f * N32 g + N32 c) % LL = N) :
    Calls Tryd.prog 15 #[.agg (FR .u8 32 f), .agg (FR .u8 32 g), .agg (FR .u8 32 c)] w fun e w' => e = .returned (.agg (FR .u8 32 (dig 256 N))) ∧ Below w.heap.size w w' := by
  rw [← h]; exact muladd_calls f g c w ho hf hg hc
theorem neg_as (f : Nat → Int) (N : Int) (w : World) (ho : Ord w) (hf : By f) (h : N32 f * (LL - 1) % LL = N) :
    Calls Tryd.prog 17 #[.agg (FR .u8 32 f)] w fun e w' => e = .returned (.agg (FR .u8 32 (dig 256 N))) ∧ Below w.heap.size w w' := by
  rw [← h]; exact neg_calls f w ho hf
theorem sameRow_self (n : Nat) (f : Nat → Int) : sameRow n f f = true := by rw [sameRow_iff]; intro i _; rfl
theorem mm (x y : Int) : (x % LL * y) % LL = (x * y) % LL := by rw [Int.mul_emod, Int.emod_emod_of_dvd _ (Int.dvd_refl LL), ← Int.mul_emod]
theorem am (x y : Int) : (x + y % LL) % LL = (x + y) % LL := by rw [Int.add_emod, Int.emod_emod_of_dvd _ (Int.dvd_refl LL), ← Int.add_emod]
theorem rest_row (f : Nat → Int) (a : Option Addr) (cap : Nat) (w : World) (ho : Ord w) (hf : By f) (h : BytesAt w a 32 f) :
    Calls Tryd.prog 9 #[.slice a 32 cap] w fun e w' => e = .returned (.agg (FR .u8 32 (dig 256 (N32 f % LL)))) ∧ Below w.heap.size w w' := rest_calls' f a 32 cap w ho hf (by omega) h
theorem law_q1 (A B C : Int) : ((A + B) % LL * C + 0) % LL = (A * C + B * C) % LL := by rw [Int.add_zero, mm, Int.add_mul]
theorem law_q2 (A B C : Int) : (A * C + (B * C) % LL) % LL = (A * C + B * C) % LL := am _ _
theorem law_neg (A : Int) : (A * 1 + A * (LL - 1) % LL) % LL = 0 := by
  rw [am, show A * 1 + A * (LL - 1) = A * LL by grind]
  exact Int.mul_emod_left A LL
theorem law_negneg (A : Int) : (A * (LL - 1) % LL) * (LL - 1) % LL = A % LL := by
  rw [mm, show A * (LL - 1) * (LL - 1) = A + LL * (A * (LL - 2)) by grind]
  exact Int.add_mul_emod_self_left A LL _
theorem tabL5 : rtab .any (opsOf Tryd.f8 5) = (true, [([], []), ([], []), ([], []), ([], []), ([1, 2, 3], [1, 2, 3]), ([0, 4], [0, 4]), ([5, 4], [5]), ([6], [6]), ([6], [6]), ([6], [6]), ([7, 8, 9, 6, 6], [6, 7, 8, 9]), ([6], [6]), ([6], [6]), ([6], [6]), ([11, 12, 13, 10, 6], [6, 11, 12, 13]), ([10, 14, 6], [6, 10, 14]), ([6, 15], [6, 15])]) := by kernel_rfl
theorem bitsL5 : waitsOk [([], []), ([], []), ([], []), ([], []), ([1, 2, 3], [1, 2, 3]), ([0, 4], [0, 4]), ([5, 4], [5]), ([6], [6]), ([6], [6]), ([6], [6]), ([7, 8, 9, 6, 6], [6, 7, 8, 9]), ([6], [6]), ([6], [6]), ([6], [6]), ([11, 12, 13, 10, 6], [6, 11, 12, 13]), ([10, 14, 6], [6, 10, 14]), ([6, 15], [6, 15])] [0, 0, 0, 0, 14, 31, 63, 127, 127, 127, 1023, 127, 127, 127, 16383, 32767, 65535] = true := by kernel_rfl
theorem tabL7 : rtab .any (opsOf Tryd.f8 7) = (true, [([], []), ([], []), ([], []), ([0, 1, 2], [0, 1, 2]), ([], []), ([], []), ([], []), ([], []), ([], []), ([6, 7, 8, 3], [6, 7, 8]), ([4, 5, 9, 9], [4, 5, 9]), ([3, 10], [3, 10]), ([11, 10], [11]), ([12], [12]), ([12], [12]), ([12], [12]), ([15, 12, 12], [12, 15]), ([13, 14, 16, 16, 12], [12, 13, 14, 16]), ([12], [12]), ([17, 18, 12], [12, 17, 18]), ([12, 19], [12, 19]), ([20, 17], [20]), ([21], [21]), ([22, 21, 21], [21, 22]), ([23, 23, 21], [21, 23]), ([21], [21]), ([25, 24, 21], [21, 25]), ([24, 26, 21], [21, 24, 26]), ([21, 27], [21, 27]), ([28, 26, 0, 1, 2, 3, 4, 5, 6, 7, 8, 9, 10, 11, 12, 13, 14, 15, 16, 17, 18, 19, 20, 21, 22, 23, 24, 25, 26, 27, 28], [28])]) := by kernel_rfl
theorem bitsL7 : waitsOk [([], []), ([], []), ([], []), ([0, 1, 2], [0, 1, 2]), ([], []), ([], []), ([], []), ([], []), ([], []), ([6, 7, 8, 3], [6, 7, 8]), ([4, 5, 9, 9], [4, 5, 9]), ([3, 10], [3, 10]), ([11, 10], [11]), ([12], [12]), ([12], [12]), ([12], [12]), ([15, 12, 12], [12, 15]), ([13, 14, 16, 16, 12], [12, 13, 14, 16]), ([12], [12]), ([17, 18, 12], [12, 17, 18]), ([12, 19], [12, 19]), ([20, 17], [20]), ([21], [21]), ([22, 21, 21], [21, 22]), ([23, 23, 21], [21, 23]), ([21], [21]), ([25, 24, 21], [21, 25]), ([24, 26, 21], [21, 24, 26]), ([21, 27], [21, 27]), ([28, 26, 0, 1, 2, 3, 4, 5, 6, 7, 8, 9, 10, 11, 12, 13, 14, 15, 16, 17, 18, 19, 20, 21, 22, 23, 24, 25, 26, 27, 28], [28])] [0, 0, 0, 7, 0, 0, 0, 0, 0, 463, 1023, 2047, 4095, 8191, 8191, 8191, 40959, 131071, 8191, 524287, 1048575, 2097151, 4194303, 8388607, 16777215, 4194303, 67108863, 134217727, 268435455, 536870911] = true := by kernel_rfl
set_option maxHeartbeats 4000000 in
theorem ScalarLaws_walk (a0 a1 a2 : Nat → Int) (w : World) (ho : Ord w) (w0 : ∀ i, i < 32 → (Lit.int .u8 (a0 i)).wf = true) (w1 : ∀ i, i < 32 → (Lit.int .u8 (a1 i)).wf = true) (w2 : ∀ i, i < 32 → (Lit.int .u8 (a2 i)).wf = true) :
    Calls Tryd.prog 8 #[.agg (FR .u8 32 a0), .agg (FR .u8 32 a1), .agg (FR .u8 32 a2)] w fun e w' => e = .returned (.bool true) ∧ Below w.heap.size w w' := by
  have HO := Aside0.mk ho
  have HA0 := Aside0.mk (By_wf w0)
  have HA1 := Aside0.mk (By_wf w1)
  have HA2 := Aside0.mk (By_wf w2)
  have HONE := Aside0.mk (smL_By 1 (by omega))
  clear ho w0 w1 w2
  have hz1 : (w.alloc (.cells (FR .u8 32 a0) 23)).heap.size = w.heap.size + 1 := by simp
  have hz2 : ((w.alloc (.cells (FR .u8 32 a0) 23)).alloc (.cells (FR .u8 32 a1) 23)).heap.size = w.heap.size + 1 + 1 := by simp
  have H00 := Aside0.mk (Row.alloc (Row.alloc (show Row (w.alloc (.cells (FR .u8 32 a0) 23)) (w.heap.size) .u8 32 a0 23 from by have h := (Row.new w .u8 32 a0 23); exact h) (.cells (FR .u8 32 a1) 23)) (.cells (FR .u8 32 a2) 23))
  have H01 := Aside0.mk (Row.alloc (show Row ((w.alloc (.cells (FR .u8 32 a0) 23)).alloc (.cells (FR .u8 32 a1) 23)) (w.heap.size + 1) .u8 32 a1 23 from by have h := (Row.new (w.alloc (.cells (FR .u8 32 a0) 23)) .u8 32 a1 23); rw [hz1] at h; exact h) (.cells (FR .u8 32 a2) 23))
  have H02 := Aside0.mk (show Row (((w.alloc (.cells (FR .u8 32 a0) 23)).alloc (.cells (FR .u8 32 a1) 23)).alloc (.cells (FR .u8 32 a2) 23)) (w.heap.size + 1 + 1) .u8 32 a2 23 from by have h := (Row.new ((w.alloc (.cells (FR .u8 32 a0) 23)).alloc (.cells (FR .u8 32 a1) 23)) .u8 32 a2 23); rw [hz2] at h; exact h)
  have HB0 := Aside0.mk (Below.alloc (Below.alloc (Below.alloc (Below.refl w.heap.size w) (by omega) (.cells (FR .u8 32 a0) 23)) (by simp; try omega) (.cells (FR .u8 32 a1) 23)) (by simp; try omega) (.cells (FR .u8 32 a2) 23))
  clear hz1 hz2
  go_enter Tryd.func8, Tryd.ntmps8
  go_wp2_with fail
  refine (alive_calls _ (HO.out.below HB0.out HO.out.lt)).mono ?_
  rintro e w1 ⟨rfl, hb⟩
  have HB1 := Aside0.mk (HB0.out.trans (hb.mono HB0.out.size))
  have H01x := Aside0.mk (H00.out.below hb H00.out.lt)
  have H11x := Aside0.mk (H01.out.below hb H01.out.lt)
  have H21x := Aside0.mk (H02.out.below hb H02.out.lt)
  have hlt := H21x.out.lt
  have HN7 := Aside0.mk ((Row.new w1 .u8 32 (fun _ => 0) 23).alloc (.cells (FR .u8 32 fun _ => 0) 23))
  have hz8 : (w1.alloc (.cells (FR .u8 32 fun _ => 0) 23)).heap.size = w1.heap.size + 1 := by simp
  have HN8 := Aside0.mk (show Row _ _ .u8 32 (fun _ => 0) 23 from by have h := Row.new (w1.alloc (.cells (FR .u8 32 fun _ => 0) 23)) .u8 32 (fun _ => 0) 23; rw [hz8] at h; exact h)
  have HB2 := Aside0.mk (((HB1.out.alloc HB1.out.size (.cells (FR .u8 32 fun _ => 0) 23)).alloc (by have := HB1.out.size; simp; omega) (.cells (FR .u8 32 fun _ => 0) 23)))
  have H02x := Aside0.mk ((H01x.out.alloc (.cells (FR .u8 32 fun _ => 0) 23)).alloc (.cells (FR .u8 32 fun _ => 0) 23))
  have H12x := Aside0.mk ((H11x.out.alloc (.cells (FR .u8 32 fun _ => 0) 23)).alloc (.cells (FR .u8 32 fun _ => 0) 23))
  have H22x := Aside0.mk ((H21x.out.alloc (.cells (FR .u8 32 fun _ => 0) 23)).alloc (.cells (FR .u8 32 fun _ => 0) 23))
  clear hb HB0 H00 H01 H02 HB1 H01x H11x H21x hz8
  go_wp2_with (first | (refine step_storeG (smL 1) HN7.out info32 rfl rfl rfl rfl (congrArg Value.agg (lit_row 1)) ?_; intro w2 hs hr; have H7a := Aside0.mk hr; have HN8a := Aside0.mk (HN8.out.stored hs (by omega)); have H0a := Aside0.mk (H02x.out.stored hs (by omega)); have H1a := Aside0.mk (H12x.out.stored hs (by omega)); have H2a := Aside0.mk (H22x.out.stored hs (by omega)); have HB3 := Aside0.mk (hs.bel _ _ (by omega) HB2.out); clear hs hr) | (refine step_storeG (fun _ => 0) HN8a.out info32 rfl rfl rfl rfl rfl ?_; intro w3 hs hr; have H8c := Aside0.mk hr; have H7c := Aside0.mk (H7a.out.stored hs (by omega)); have H0c := Aside0.mk (H0a.out.stored hs (by omega)); have H1c := Aside0.mk (H1a.out.stored hs (by omega)); have H2c := Aside0.mk (H2a.out.stored hs (by omega)); have HB4 := Aside0.mk (hs.bel _ _ (by omega) HB3.out); have hlt8 := hr.lt; clear hs hr) | refine step_load H0c.out Tryd.underlying23 info32 rfl rfl rfl rfl ?_ | refine step_load H7c.out Tryd.underlying23 info32 rfl rfl rfl rfl ?_ | refine step_load H1c.out Tryd.underlying23 info32 rfl rfl rfl rfl ?_)
  clear HN7 HN8 HB2 H02x H12x H22x H7a HN8a H0a H1a H2a HB3
  generalize w1.heap.size = b7 at *
  refine (muladd_as a0 (smL 1) a1 ((N32 a0 + N32 a1) % LL) _ (HO.out.below HB4.out HO.out.lt) HA0.out HONE.out HA1.out (by rw [smL_N, Int.mul_one])).mono ?_
  rintro e w4 ⟨rfl, hb⟩
  have HB5 := Aside0.mk (HB4.out.trans (hb.mono HB4.out.size))
  have H0e := Aside0.mk (H0c.out.below hb H0c.out.lt)
  have H1e := Aside0.mk (H1c.out.below hb H1c.out.lt)
  have H2e := Aside0.mk (H2c.out.below hb H2c.out.lt)
  have H7e := Aside0.mk (H7c.out.below hb H7c.out.lt)
  have H8e := Aside0.mk (H8c.out.below hb H8c.out.lt)
  have hlt9 := H8e.out.lt
  have HN9 := Aside0.mk (Row.new w4 .u8 32 (fun _ => 0) 23)
  have HB6 := Aside0.mk (HB5.out.alloc HB5.out.size (.cells (FR .u8 32 fun _ => 0) 23))
  have hsz5 := HB5.out.size
  have hqa := equal32
  have hsr := sameRow_self 32
  clear hb HB4 HB5 H0c H1c H2c H7c H8c
  go_wp2_with (refine step_storeG _ HN9.out info32 rfl rfl rfl rfl rfl ?_; intro w5 hs hr; have H9 := Aside0.mk (hr.drew); have H0 := Aside0.mk (((H0e.out.alloc (.cells (FR .u8 32 fun _ => 0) 23)).stored hs (by omega)).drew); have H1 := Aside0.mk (((H1e.out.alloc (.cells (FR .u8 32 fun _ => 0) 23)).stored hs (by omega)).drew); have H2 := Aside0.mk (((H2e.out.alloc (.cells (FR .u8 32 fun _ => 0) 23)).stored hs (by omega)).drew); have H7 := Aside0.mk (((H7e.out.alloc (.cells (FR .u8 32 fun _ => 0) 23)).stored hs (by omega)).drew); have H8 := Aside0.mk (((H8e.out.alloc (.cells (FR .u8 32 fun _ => 0) 23)).stored hs (by omega)).drew); have HBd := Aside0.mk (hs.bel _ _ hsz5 HB6.out).drew; have HO6 := Aside0.mk (HO.out.below HBd.out HO.out.lt); clear hs hr)
  clear HN9 HB6 H0e H1e H2e H7e H8e HO
  refine start_ (n := 17) (S := (fun w' => Below (w5.drew).heap.size (w5.drew) w')) (ds := []) #[false, false, false, false, false, false, false, false, false, false, false, false, false, false, false, false, false] (by kernel_rfl) rfl rfl (Below.refl _ _) (fun hHeld => ?_); refine with_tabW tabL5 bitsL5 (fun HT_ HW_ => ?_)
  generalize w5.drew = w6 at H0 H1 H2 H7 H8 H9 HO6 HBd hHeld ⊢
  refine take_ (i := 0) (N := some 18) (v := ?_) (a' := ?_) #[true, false, false, false, false, false, false, false, false, false, false, false, false, false, false, false, false] rfl rfl (take_ofW HT_.out HW_.out (by kernel_rfl)) (fun _ _ _ h => h) (Or.inl ⟨by rfl, ?_⟩) hHeld ?_ ?_
  rotate_left
  · intro w' hsw
    refine exec_load (x := .tmp 9) (H9.out.below hsw H9.out.lt) Tryd.underlying23 info32 rfl ?_ ?_ <;> rfl
  rotate_left
  · simp only [Act.put, List.setIfInBounds_toArray, List.set_cons_zero, List.set_cons_succ, i64_w, i32_w]
    rfl
  refine take_ (i := 1) (N := some 19) (v := ?_) (a' := ?_) #[true, true, false, false, false, false, false, false, false, false, false, false, false, false, false, false, false] rfl rfl (take_ofW HT_.out HW_.out (by kernel_rfl)) (fun _ _ _ h => h) (Or.inl ⟨by rfl, ?_⟩) hHeld ?_ ?_
  rotate_left
  · intro w' hsw
    refine exec_load (x := .tmp 4) (H1.out.below hsw H1.out.lt) Tryd.underlying23 info32 rfl ?_ ?_ <;> rfl
  rotate_left
  · simp only [Act.put, List.setIfInBounds_toArray, List.set_cons_zero, List.set_cons_succ, i64_w, i32_w]
    rfl
  refine take_ (i := 2) (N := some 20) (v := ?_) (a' := ?_) #[true, true, true, false, false, false, false, false, false, false, false, false, false, false, false, false, false] rfl rfl (take_ofW HT_.out HW_.out (by kernel_rfl)) (fun _ _ _ h => h) (Or.inl ⟨by rfl, ?_⟩) hHeld ?_ ?_
  rotate_left
  · intro w' hsw
    refine exec_load (x := .tmp 7) (H7.out.below hsw H7.out.lt) Tryd.underlying23 info32 rfl ?_ ?_ <;> rfl
  rotate_left
  · simp only [Act.put, List.setIfInBounds_toArray, List.set_cons_zero, List.set_cons_succ, i64_w, i32_w]
    rfl
  refine take_ (i := 3) (N := some 21) (v := ?_) (a' := ?_) #[true, true, true, true, false, false, false, false, false, false, false, false, false, false, false, false, false] rfl rfl (take_ofW HT_.out HW_.out (by kernel_rfl)) (fun _ _ _ h => h) (Or.inl ⟨by rfl, ?_⟩) hHeld ?_ ?_
  rotate_left
  · intro w' hsw
    refine exec_load (x := .tmp 3) (H0.out.below hsw H0.out.lt) Tryd.underlying23 info32 rfl ?_ ?_ <;> rfl
  rotate_left
  · simp only [Act.put, List.setIfInBounds_toArray, List.set_cons_zero, List.set_cons_succ, i64_w, i32_w]
    rfl
  refine one_ (i := 4) (N := some 22) #[true, true, true, true, true, false, false, false, false, false, false, false, false, false, false, false, false] rfl rfl (one_of HT_.out (by kernel_rfl)) (by decide) (fun K hK => ?_)
  refine goes_ Tryd.func15 rfl rfl #[.agg (FR .u8 32 a1), .agg (FR .u8 32 (smL 1)), .agg (FR .u8 32 a0)] rfl rfl rfl (by simp only [List.map_toArray, List.map_cons, List.map_nil]; rfl) ((muladd_as a1 (smL 1) a0 ((N32 a0 + N32 a1) % LL) _ (HO6.out.below hHeld HO6.out.lt) HA1.out HONE.out HA0.out (by rw [smL_N, Int.mul_one, Int.add_comm])).mono ?_)
  rintro e wc1 ⟨rfl, hb⟩
  have hSn : Below w6.heap.size w6 wc1 := hHeld.trans (hb.mono hHeld.size)
  clear hb
  refine ⟨_, rfl, hK.out _ _ hSn (fun hHeld => ?_)⟩
  clear hSn
  clear hK K
  refine norm_ (a' := ?_) ?_ ?_
  rotate_left
  · show Act.put _ (some 22) _ = _
    simp only [Act.put, List.setIfInBounds_toArray, List.set_cons_zero, List.set_cons_succ, i64_w, i32_w]
    rfl
  refine pure_ (i := 5) (N := some 23) (v := ?_) (a' := ?_) #[true, true, true, true, true, true, false, false, false, false, false, false, false, false, false, false, false] rfl rfl (any_of HT_.out (by kernel_rfl)) (fun _ _ _ h => h) (Or.inl ⟨by rfl, ?_⟩) ?_ ?_
  rotate_left
  · intro w'
    go_simp
    with_reducible rfl
  rotate_left
  · simp only [Act.put, List.setIfInBounds_toArray, List.set_cons_zero, List.set_cons_succ, i64_w, i32_w]
    rfl
  refine pure_ (i := 6) (N := some 24) (v := ?_) (a' := ?_) #[true, true, true, true, true, true, true, false, false, false, false, false, false, false, false, false, false] rfl rfl (any_of HT_.out (by kernel_rfl)) (fun _ _ _ h => h) (Or.inl ⟨by rfl, ?_⟩) ?_ ?_
  rotate_left
  · intro w'
    go_simp
    with_reducible rfl
  rotate_left
  · simp only [Act.put, List.setIfInBounds_toArray, List.set_cons_zero, List.set_cons_succ, i64_w, i32_w]
    rfl
  refine take_ (i := 7) (N := some 25) (v := ?_) (a' := ?_) #[true, true, true, true, true, true, true, true, false, false, false, false, false, false, false, false, false] rfl rfl (take_ofW HT_.out HW_.out (by kernel_rfl)) (fun _ _ _ h => h) (Or.inl ⟨by rfl, ?_⟩) hHeld ?_ ?_
  rotate_left
  · intro w' hsw
    refine exec_load (x := .tmp 3) (H0.out.below hsw H0.out.lt) Tryd.underlying23 info32 rfl ?_ ?_ <;> rfl
  rotate_left
  · simp only [Act.put, List.setIfInBounds_toArray, List.set_cons_zero, List.set_cons_succ, i64_w, i32_w]
    rfl
  refine take_ (i := 8) (N := some 26) (v := ?_) (a' := ?_) #[true, true, true, true, true, true, true, true, true, false, false, false, false, false, false, false, false] rfl rfl (take_ofW HT_.out HW_.out (by kernel_rfl)) (fun _ _ _ h => h) (Or.inl ⟨by rfl, ?_⟩) hHeld ?_ ?_
  rotate_left
  · intro w' hsw
    refine exec_load (x := .tmp 4) (H1.out.below hsw H1.out.lt) Tryd.underlying23 info32 rfl ?_ ?_ <;> rfl
  rotate_left
  · simp only [Act.put, List.setIfInBounds_toArray, List.set_cons_zero, List.set_cons_succ, i64_w, i32_w]
    rfl
  refine take_ (i := 9) (N := some 27) (v := ?_) (a' := ?_) #[true, true, true, true, true, true, true, true, true, true, false, false, false, false, false, false, false] rfl rfl (take_ofW HT_.out HW_.out (by kernel_rfl)) (fun _ _ _ h => h) (Or.inl ⟨by rfl, ?_⟩) hHeld ?_ ?_
  rotate_left
  · intro w' hsw
    refine exec_load (x := .tmp 5) (H2.out.below hsw H2.out.lt) Tryd.underlying23 info32 rfl ?_ ?_ <;> rfl
  rotate_left
  · simp only [Act.put, List.setIfInBounds_toArray, List.set_cons_zero, List.set_cons_succ, i64_w, i32_w]
    rfl
  refine take_ (i := 11) (N := some 29) (v := ?_) (a' := ?_) #[true, true, true, true, true, true, true, true, true, true, false, true, false, false, false, false, false] rfl rfl (take_ofW HT_.out HW_.out (by kernel_rfl)) (fun _ _ _ h => h) (Or.inl ⟨by rfl, ?_⟩) hHeld ?_ ?_
  rotate_left
  · intro w' hsw
    refine exec_load (x := .tmp 4) (H1.out.below hsw H1.out.lt) Tryd.underlying23 info32 rfl ?_ ?_ <;> rfl
  rotate_left
  · simp only [Act.put, List.setIfInBounds_toArray, List.set_cons_zero, List.set_cons_succ, i64_w, i32_w]
    rfl
  refine take_ (i := 12) (N := some 30) (v := ?_) (a' := ?_) #[true, true, true, true, true, true, true, true, true, true, false, true, true, false, false, false, false] rfl rfl (take_ofW HT_.out HW_.out (by kernel_rfl)) (fun _ _ _ h => h) (Or.inl ⟨by rfl, ?_⟩) hHeld ?_ ?_
  rotate_left
  · intro w' hsw
    refine exec_load (x := .tmp 3) (H0.out.below hsw H0.out.lt) Tryd.underlying23 info32 rfl ?_ ?_ <;> rfl
  rotate_left
  · simp only [Act.put, List.setIfInBounds_toArray, List.set_cons_zero, List.set_cons_succ, i64_w, i32_w]
    rfl
  refine take_ (i := 13) (N := some 31) (v := ?_) (a' := ?_) #[true, true, true, true, true, true, true, true, true, true, false, true, true, true, false, false, false] rfl rfl (take_ofW HT_.out HW_.out (by kernel_rfl)) (fun _ _ _ h => h) (Or.inl ⟨by rfl, ?_⟩) hHeld ?_ ?_
  rotate_left
  · intro w' hsw
    refine exec_load (x := .tmp 5) (H2.out.below hsw H2.out.lt) Tryd.underlying23 info32 rfl ?_ ?_ <;> rfl
  rotate_left
  · simp only [Act.put, List.setIfInBounds_toArray, List.set_cons_zero, List.set_cons_succ, i64_w, i32_w]
    rfl
  refine one_ (i := 10) (N := some 28) #[true, true, true, true, true, true, true, true, true, true, true, true, true, true, false, false, false] rfl rfl (one_of HT_.out (by kernel_rfl)) (by decide) (fun K hK => ?_)
  refine goes_ Tryd.func15 rfl rfl #[.agg (FR .u8 32 a0), .agg (FR .u8 32 a1), .agg (FR .u8 32 a2)] rfl rfl rfl (by simp only [List.map_toArray, List.map_cons, List.map_nil]; rfl) ((muladd_as a0 a1 a2 ((N32 a0 * N32 a1 + N32 a2) % LL) _ (HO6.out.below hHeld HO6.out.lt) HA0.out HA1.out HA2.out rfl).mono ?_)
  rintro e wc2 ⟨rfl, hb⟩
  have hSn : Below w6.heap.size w6 wc2 := hHeld.trans (hb.mono hHeld.size)
  clear hb
  refine ⟨_, rfl, hK.out _ _ hSn (fun hHeld => ?_)⟩
  clear hSn
  clear hK K
  refine norm_ (a' := ?_) ?_ ?_
  rotate_left
  · show Act.put _ (some 28) _ = _
    simp only [Act.put, List.setIfInBounds_toArray, List.set_cons_zero, List.set_cons_succ, i64_w, i32_w]
    rfl
  refine one_ (i := 14) (N := some 32) #[true, true, true, true, true, true, true, true, true, true, true, true, true, true, true, false, false] rfl rfl (one_of HT_.out (by kernel_rfl)) (by decide) (fun K hK => ?_)
  refine goes_ Tryd.func15 rfl rfl #[.agg (FR .u8 32 a1), .agg (FR .u8 32 a0), .agg (FR .u8 32 a2)] rfl rfl rfl (by simp only [List.map_toArray, List.map_cons, List.map_nil]; rfl) ((muladd_as a1 a0 a2 ((N32 a0 * N32 a1 + N32 a2) % LL) _ (HO6.out.below hHeld HO6.out.lt) HA1.out HA0.out HA2.out (by rw [Int.mul_comm])).mono ?_)
  rintro e wc3 ⟨rfl, hb⟩
  have hSn : Below w6.heap.size w6 wc3 := hHeld.trans (hb.mono hHeld.size)
  clear hb
  refine ⟨_, rfl, hK.out _ _ hSn (fun hHeld => ?_)⟩
  clear hSn
  clear hK K
  refine norm_ (a' := ?_) ?_ ?_
  rotate_left
  · show Act.put _ (some 32) _ = _
    simp only [Act.put, List.setIfInBounds_toArray, List.set_cons_zero, List.set_cons_succ, i64_w, i32_w]
    rfl
  refine pure_ (i := 15) (N := some 33) (v := ?_) (a' := ?_) #[true, true, true, true, true, true, true, true, true, true, true, true, true, true, true, true, false] rfl rfl (any_of HT_.out (by kernel_rfl)) (fun _ _ _ h => h) (Or.inl ⟨by rfl, ?_⟩) ?_ ?_
  rotate_left
  · intro w'
    go_simp
    with_reducible rfl
  rotate_left
  · simp only [Act.put, List.setIfInBounds_toArray, List.set_cons_zero, List.set_cons_succ, i64_w, i32_w]
    rfl
  refine pure_ (i := 16) (N := some 34) (v := ?_) (a' := ?_) #[true, true, true, true, true, true, true, true, true, true, true, true, true, true, true, true, true] rfl rfl (any_of HT_.out (by kernel_rfl)) (fun _ _ _ h => h) (Or.inl ⟨by rfl, ?_⟩) ?_ ?_
  rotate_left
  · intro w'
    go_simp
    with_reducible rfl
  rotate_left
  · simp only [Act.put, List.setIfInBounds_toArray, List.set_cons_zero, List.set_cons_succ, i64_w, i32_w]
    rfl
  refine done_ (done_of HT_.out (by kernel_rfl)) ?_
  clear HT_ HW_
  have HBx := Aside0.mk (HBd.out.trans (hHeld.mono HBd.out.size)).drew
  have H0b := Aside0.mk ((H0.out.below hHeld H0.out.lt).drew)
  have H1b := Aside0.mk ((H1.out.below hHeld H1.out.lt).drew)
  have H2b := Aside0.mk ((H2.out.below hHeld H2.out.lt).drew)
  have H7b := Aside0.mk ((H7.out.below hHeld H7.out.lt).drew)
  have H8b := Aside0.mk ((H8.out.below hHeld H8.out.lt).drew)
  have H9b := Aside0.mk ((H9.out.below hHeld H9.out.lt).drew)
  have HO8 := Aside0.mk (HO6.out.below hHeld HO6.out.lt)
  have HO8 : Aside0 (Ord wc3.drew) := ⟨HO8.out⟩
  clear H0 H1 H2 H7 H8 H9 HO6 HBd hHeld
  have HE0 := Aside0.mk (show sameRow 32 (dig 256 0) (fun _ => 0) = true by rw [same32 _ _ (dig_By _) zero_By, zero_N, N32_dig _ (by decide)]; decide)
  have he0 := HE0.out
  go_wp2_with fail
  refine start_ (n := 30) (S := (fun w' => Below (wc3.drew).heap.size (wc3.drew) w')) (ds := []) #[false, false, false, false, false, false, false, false, false, false, false, false, false, false, false, false, false, false, false, false, false, false, false, false, false, false, false, false, false, false] (by kernel_rfl) rfl rfl (Below.refl _ _) (fun hHeld => ?_); refine with_tabW tabL7 bitsL7 (fun HT_ HW_ => ?_)
  generalize wc3.drew = w8 at H0b H1b H2b H7b H8b H9b HO8 HBx hHeld ⊢
  refine take_ (i := 0) (N := some 35) (v := ?_) (a' := ?_) #[true, false, false, false, false, false, false, false, false, false, false, false, false, false, false, false, false, false, false, false, false, false, false, false, false, false, false, false, false, false] rfl rfl (take_ofW HT_.out HW_.out (by kernel_rfl)) (fun _ _ _ h => h) (Or.inl ⟨by rfl, ?_⟩) hHeld ?_ ?_
  rotate_left
  · intro w' hsw
    refine exec_load (x := .tmp 9) (H9b.out.below hsw H9b.out.lt) Tryd.underlying23 info32 rfl ?_ ?_ <;> rfl
  rotate_left
  · simp only [Act.put, List.setIfInBounds_toArray, List.set_cons_zero, List.set_cons_succ, i64_w, i32_w]
    rfl
  refine take_ (i := 1) (N := some 36) (v := ?_) (a' := ?_) #[true, true, false, false, false, false, false, false, false, false, false, false, false, false, false, false, false, false, false, false, false, false, false, false, false, false, false, false, false, false] rfl rfl (take_ofW HT_.out HW_.out (by kernel_rfl)) (fun _ _ _ h => h) (Or.inl ⟨by rfl, ?_⟩) hHeld ?_ ?_
  rotate_left
  · intro w' hsw
    refine exec_load (x := .tmp 5) (H2b.out.below hsw H2b.out.lt) Tryd.underlying23 info32 rfl ?_ ?_ <;> rfl
  rotate_left
  · simp only [Act.put, List.setIfInBounds_toArray, List.set_cons_zero, List.set_cons_succ, i64_w, i32_w]
    rfl
  refine take_ (i := 2) (N := some 37) (v := ?_) (a' := ?_) #[true, true, true, false, false, false, false, false, false, false, false, false, false, false, false, false, false, false, false, false, false, false, false, false, false, false, false, false, false, false] rfl rfl (take_ofW HT_.out HW_.out (by kernel_rfl)) (fun _ _ _ h => h) (Or.inl ⟨by rfl, ?_⟩) hHeld ?_ ?_
  rotate_left
  · intro w' hsw
    refine exec_load (x := .tmp 8) (H8b.out.below hsw H8b.out.lt) Tryd.underlying23 info32 rfl ?_ ?_ <;> rfl
  rotate_left
  · simp only [Act.put, List.setIfInBounds_toArray, List.set_cons_zero, List.set_cons_succ, i64_w, i32_w]
    rfl
  refine take_ (i := 4) (N := some 39) (v := ?_) (a' := ?_) #[true, true, true, false, true, false, false, false, false, false, false, false, false, false, false, false, false, false, false, false, false, false, false, false, false, false, false, false, false, false] rfl rfl (take_ofW HT_.out HW_.out (by kernel_rfl)) (fun _ _ _ h => h) (Or.inl ⟨by rfl, ?_⟩) hHeld ?_ ?_
  rotate_left
  · intro w' hsw
    refine exec_load (x := .tmp 3) (H0b.out.below hsw H0b.out.lt) Tryd.underlying23 info32 rfl ?_ ?_ <;> rfl
  rotate_left
  · simp only [Act.put, List.setIfInBounds_toArray, List.set_cons_zero, List.set_cons_succ, i64_w, i32_w]
    rfl
  refine take_ (i := 5) (N := some 40) (v := ?_) (a' := ?_) #[true, true, true, false, true, true, false, false, false, false, false, false, false, false, false, false, false, false, false, false, false, false, false, false, false, false, false, false, false, false] rfl rfl (take_ofW HT_.out HW_.out (by kernel_rfl)) (fun _ _ _ h => h) (Or.inl ⟨by rfl, ?_⟩) hHeld ?_ ?_
  rotate_left
  · intro w' hsw
    refine exec_load (x := .tmp 5) (H2b.out.below hsw H2b.out.lt) Tryd.underlying23 info32 rfl ?_ ?_ <;> rfl
  rotate_left
  · simp only [Act.put, List.setIfInBounds_toArray, List.set_cons_zero, List.set_cons_succ, i64_w, i32_w]
    rfl
  refine take_ (i := 6) (N := some 41) (v := ?_) (a' := ?_) #[true, true, true, false, true, true, true, false, false, false, false, false, false, false, false, false, false, false, false, false, false, false, false, false, false, false, false, false, false, false] rfl rfl (take_ofW HT_.out HW_.out (by kernel_rfl)) (fun _ _ _ h => h) (Or.inl ⟨by rfl, ?_⟩) hHeld ?_ ?_
  rotate_left
  · intro w' hsw
    refine exec_load (x := .tmp 4) (H1b.out.below hsw H1b.out.lt) Tryd.underlying23 info32 rfl ?_ ?_ <;> rfl
  rotate_left
  · simp only [Act.put, List.setIfInBounds_toArray, List.set_cons_zero, List.set_cons_succ, i64_w, i32_w]
    rfl
  refine take_ (i := 7) (N := some 42) (v := ?_) (a' := ?_) #[true, true, true, false, true, true, true, true, false, false, false, false, false, false, false, false, false, false, false, false, false, false, false, false, false, false, false, false, false, false] rfl rfl (take_ofW HT_.out HW_.out (by kernel_rfl)) (fun _ _ _ h => h) (Or.inl ⟨by rfl, ?_⟩) hHeld ?_ ?_
  rotate_left
  · intro w' hsw
    refine exec_load (x := .tmp 5) (H2b.out.below hsw H2b.out.lt) Tryd.underlying23 info32 rfl ?_ ?_ <;> rfl
  rotate_left
  · simp only [Act.put, List.setIfInBounds_toArray, List.set_cons_zero, List.set_cons_succ, i64_w, i32_w]
    rfl
  refine take_ (i := 8) (N := some 43) (v := ?_) (a' := ?_) #[true, true, true, false, true, true, true, true, true, false, false, false, false, false, false, false, false, false, false, false, false, false, false, false, false, false, false, false, false, false] rfl rfl (take_ofW HT_.out HW_.out (by kernel_rfl)) (fun _ _ _ h => h) (Or.inl ⟨by rfl, ?_⟩) hHeld ?_ ?_
  rotate_left
  · intro w' hsw
    refine exec_load (x := .tmp 8) (H8b.out.below hsw H8b.out.lt) Tryd.underlying23 info32 rfl ?_ ?_ <;> rfl
  rotate_left
  · simp only [Act.put, List.setIfInBounds_toArray, List.set_cons_zero, List.set_cons_succ, i64_w, i32_w]
    rfl
  refine one_ (i := 3) (N := some 38) #[true, true, true, true, true, true, true, true, true, false, false, false, false, false, false, false, false, false, false, false, false, false, false, false, false, false, false, false, false, false] rfl rfl (one_of HT_.out (by kernel_rfl)) (by decide) (fun K hK => ?_)
  refine goes_ Tryd.func15 rfl rfl #[.agg (FR .u8 32 (dig 256 ((N32 a0 + N32 a1) % LL))), .agg (FR .u8 32 a2), .agg (FR .u8 32 (fun _ => 0))] rfl rfl rfl (by simp only [List.map_toArray, List.map_cons, List.map_nil]; rfl) ((muladd_as _ a2 _ ((N32 a0 * N32 a2 + N32 a1 * N32 a2) % LL) _ (HO8.out.below hHeld HO8.out.lt) (dig_By _) HA2.out zero_By (by rw [N32_rest, zero_N]; exact law_q1 _ _ _)).mono ?_)
  rintro e wc1 ⟨rfl, hb⟩
  have hSn : Below w8.heap.size w8 wc1 := hHeld.trans (hb.mono hHeld.size)
  clear hb
  refine ⟨_, rfl, hK.out _ _ hSn (fun hHeld => ?_)⟩
  clear hSn
  clear hK K
  refine norm_ (a' := ?_) ?_ ?_
  rotate_left
  · show Act.put _ (some 38) _ = _
    simp only [Act.put, List.setIfInBounds_toArray, List.set_cons_zero, List.set_cons_succ, i64_w, i32_w]
    rfl
  refine one_ (i := 9) (N := some 44) #[true, true, true, true, true, true, true, true, true, true, false, false, false, false, false, false, false, false, false, false, false, false, false, false, false, false, false, false, false, false] rfl rfl (one_of HT_.out (by kernel_rfl)) (by decide) (fun K hK => ?_)
  refine goes_ Tryd.func15 rfl rfl #[.agg (FR .u8 32 a1), .agg (FR .u8 32 a2), .agg (FR .u8 32 (fun _ => 0))] rfl rfl rfl (by simp only [List.map_toArray, List.map_cons, List.map_nil]; rfl) ((muladd_as a1 a2 _ ((N32 a1 * N32 a2) % LL) _ (HO8.out.below hHeld HO8.out.lt) HA1.out HA2.out zero_By (by rw [zero_N, Int.add_zero])).mono ?_)
  rintro e wc2 ⟨rfl, hb⟩
  have hSn : Below w8.heap.size w8 wc2 := hHeld.trans (hb.mono hHeld.size)
  clear hb
  refine ⟨_, rfl, hK.out _ _ hSn (fun hHeld => ?_)⟩
  clear hSn
  clear hK K
  refine norm_ (a' := ?_) ?_ ?_
  rotate_left
  · show Act.put _ (some 44) _ = _
    simp only [Act.put, List.setIfInBounds_toArray, List.set_cons_zero, List.set_cons_succ, i64_w, i32_w]
    rfl
  refine one_ (i := 10) (N := some 45) #[true, true, true, true, true, true, true, true, true, true, true, false, false, false, false, false, false, false, false, false, false, false, false, false, false, false, false, false, false, false] rfl rfl (one_of HT_.out (by kernel_rfl)) (by decide) (fun K hK => ?_)
  refine goes_ Tryd.func15 rfl rfl #[.agg (FR .u8 32 a0), .agg (FR .u8 32 a2), .agg (FR .u8 32 (dig 256 ((N32 a1 * N32 a2) % LL)))] rfl rfl rfl (by simp only [List.map_toArray, List.map_cons, List.map_nil]; rfl) ((muladd_as a0 a2 _ ((N32 a0 * N32 a2 + N32 a1 * N32 a2) % LL) _ (HO8.out.below hHeld HO8.out.lt) HA0.out HA2.out (dig_By _) (by rw [N32_rest]; exact law_q2 _ _ _)).mono ?_)
  rintro e wc3 ⟨rfl, hb⟩
  have hSn : Below w8.heap.size w8 wc3 := hHeld.trans (hb.mono hHeld.size)
  clear hb
  refine ⟨_, rfl, hK.out _ _ hSn (fun hHeld => ?_)⟩
  clear hSn
  clear hK K
  refine norm_ (a' := ?_) ?_ ?_
  rotate_left
  · show Act.put _ (some 45) _ = _
    simp only [Act.put, List.setIfInBounds_toArray, List.set_cons_zero, List.set_cons_succ, i64_w, i32_w]
    rfl
  refine pure_ (i := 11) (N := some 46) (v := ?_) (a' := ?_) #[true, true, true, true, true, true, true, true, true, true, true, true, false, false, false, false, false, false, false, false, false, false, false, false, false, false, false, false, false, false] rfl rfl (any_of HT_.out (by kernel_rfl)) (fun _ _ _ h => h) (Or.inl ⟨by rfl, ?_⟩) ?_ ?_
  rotate_left
  · intro w'
    go_simp
    with_reducible rfl
  rotate_left
  · simp only [Act.put, List.setIfInBounds_toArray, List.set_cons_zero, List.set_cons_succ, i64_w, i32_w]
    rfl
  refine pure_ (i := 12) (N := some 47) (v := ?_) (a' := ?_) #[true, true, true, true, true, true, true, true, true, true, true, true, true, false, false, false, false, false, false, false, false, false, false, false, false, false, false, false, false, false] rfl rfl (any_of HT_.out (by kernel_rfl)) (fun _ _ _ h => h) (Or.inl ⟨by rfl, ?_⟩) ?_ ?_
  rotate_left
  · intro w'
    go_simp
    with_reducible rfl
  rotate_left
  · simp only [Act.put, List.setIfInBounds_toArray, List.set_cons_zero, List.set_cons_succ, i64_w, i32_w]
    rfl
  refine take_ (i := 13) (N := some 48) (v := ?_) (a' := ?_) #[true, true, true, true, true, true, true, true, true, true, true, true, true, true, false, false, false, false, false, false, false, false, false, false, false, false, false, false, false, false] rfl rfl (take_ofW HT_.out HW_.out (by kernel_rfl)) (fun _ _ _ h => h) (Or.inl ⟨by rfl, ?_⟩) hHeld ?_ ?_
  rotate_left
  · intro w' hsw
    refine exec_load (x := .tmp 3) (H0b.out.below hsw H0b.out.lt) Tryd.underlying23 info32 rfl ?_ ?_ <;> rfl
  rotate_left
  · simp only [Act.put, List.setIfInBounds_toArray, List.set_cons_zero, List.set_cons_succ, i64_w, i32_w]
    rfl
  refine take_ (i := 14) (N := some 49) (v := ?_) (a' := ?_) #[true, true, true, true, true, true, true, true, true, true, true, true, true, true, true, false, false, false, false, false, false, false, false, false, false, false, false, false, false, false] rfl rfl (take_ofW HT_.out HW_.out (by kernel_rfl)) (fun _ _ _ h => h) (Or.inl ⟨by rfl, ?_⟩) hHeld ?_ ?_
  rotate_left
  · intro w' hsw
    refine exec_load (x := .tmp 7) (H7b.out.below hsw H7b.out.lt) Tryd.underlying23 info32 rfl ?_ ?_ <;> rfl
  rotate_left
  · simp only [Act.put, List.setIfInBounds_toArray, List.set_cons_zero, List.set_cons_succ, i64_w, i32_w]
    rfl
  refine take_ (i := 15) (N := some 50) (v := ?_) (a' := ?_) #[true, true, true, true, true, true, true, true, true, true, true, true, true, true, true, true, false, false, false, false, false, false, false, false, false, false, false, false, false, false] rfl rfl (take_ofW HT_.out HW_.out (by kernel_rfl)) (fun _ _ _ h => h) (Or.inl ⟨by rfl, ?_⟩) hHeld ?_ ?_
  rotate_left
  · intro w' hsw
    refine exec_load (x := .tmp 3) (H0b.out.below hsw H0b.out.lt) Tryd.underlying23 info32 rfl ?_ ?_ <;> rfl
  rotate_left
  · simp only [Act.put, List.setIfInBounds_toArray, List.set_cons_zero, List.set_cons_succ, i64_w, i32_w]
    rfl
  refine take_ (i := 18) (N := some 53) (v := ?_) (a' := ?_) #[true, true, true, true, true, true, true, true, true, true, true, true, true, true, true, true, false, false, true, false, false, false, false, false, false, false, false, false, false, false] rfl rfl (take_ofW HT_.out HW_.out (by kernel_rfl)) (fun _ _ _ h => h) (Or.inl ⟨by rfl, ?_⟩) hHeld ?_ ?_
  rotate_left
  · intro w' hsw
    refine exec_load (x := .tmp 8) (H8b.out.below hsw H8b.out.lt) Tryd.underlying23 info32 rfl ?_ ?_ <;> rfl
  rotate_left
  · simp only [Act.put, List.setIfInBounds_toArray, List.set_cons_zero, List.set_cons_succ, i64_w, i32_w]
    rfl
  refine one_ (i := 16) (N := some 51) #[true, true, true, true, true, true, true, true, true, true, true, true, true, true, true, true, true, false, true, false, false, false, false, false, false, false, false, false, false, false] rfl rfl (one_of HT_.out (by kernel_rfl)) (by decide) (fun K hK => ?_)
  refine goes_ Tryd.func17 rfl rfl #[.agg (FR .u8 32 a0)] rfl rfl rfl (by simp only [List.map_toArray, List.map_cons, List.map_nil]; rfl) ((neg_as a0 (N32 a0 * (LL - 1) % LL) _ (HO8.out.below hHeld HO8.out.lt) HA0.out rfl).mono ?_)
  rintro e wc4 ⟨rfl, hb⟩
  have hSn : Below w8.heap.size w8 wc4 := hHeld.trans (hb.mono hHeld.size)
  clear hb
  refine ⟨_, rfl, hK.out _ _ hSn (fun hHeld => ?_)⟩
  clear hSn
  clear hK K
  refine norm_ (a' := ?_) ?_ ?_
  rotate_left
  · show Act.put _ (some 51) _ = _
    simp only [Act.put, List.setIfInBounds_toArray, List.set_cons_zero, List.set_cons_succ, i64_w, i32_w]
    rfl
  refine one_ (i := 17) (N := some 52) #[true, true, true, true, true, true, true, true, true, true, true, true, true, true, true, true, true, true, true, false, false, false, false, false, false, false, false, false, false, false] rfl rfl (one_of HT_.out (by kernel_rfl)) (by decide) (fun K hK => ?_)
  refine goes_ Tryd.func15 rfl rfl #[.agg (FR .u8 32 a0), .agg (FR .u8 32 (smL 1)), .agg (FR .u8 32 (dig 256 (N32 a0 * (LL - 1) % LL)))] rfl rfl rfl (by simp only [List.map_toArray, List.map_cons, List.map_nil]; rfl) ((muladd_as a0 (smL 1) _ 0 _ (HO8.out.below hHeld HO8.out.lt) HA0.out HONE.out (dig_By _) (by rw [N32_rest, smL_N]; exact law_neg _)).mono ?_)
  rintro e wc5 ⟨rfl, hb⟩
  have hSn : Below w8.heap.size w8 wc5 := hHeld.trans (hb.mono hHeld.size)
  clear hb
  refine ⟨_, rfl, hK.out _ _ hSn (fun hHeld => ?_)⟩
  clear hSn
  clear hK K
  refine norm_ (a' := ?_) ?_ ?_
  rotate_left
  · show Act.put _ (some 52) _ = _
    simp only [Act.put, List.setIfInBounds_toArray, List.set_cons_zero, List.set_cons_succ, i64_w, i32_w]
    rfl
  refine pure_ (i := 19) (N := some 54) (v := ?_) (a' := ?_) #[true, true, true, true, true, true, true, true, true, true, true, true, true, true, true, true, true, true, true, true, false, false, false, false, false, false, false, false, false, false] rfl rfl (any_of HT_.out (by kernel_rfl)) (fun _ _ _ h => h) (Or.inl ⟨by rfl, ?_⟩) ?_ ?_
  rotate_left
  · intro w'
    go_simp
    with_reducible rfl
  rotate_left
  · simp only [Act.put, List.setIfInBounds_toArray, List.set_cons_zero, List.set_cons_succ, i64_w, i32_w]
    rfl
  refine pure_ (i := 20) (N := some 55) (v := ?_) (a' := ?_) #[true, true, true, true, true, true, true, true, true, true, true, true, true, true, true, true, true, true, true, true, true, false, false, false, false, false, false, false, false, false] rfl rfl (any_of HT_.out (by kernel_rfl)) (fun _ _ _ h => h) (Or.inl ⟨by rfl, ?_⟩) ?_ ?_
  rotate_left
  · intro w'
    go_simp
    with_reducible rfl
  rotate_left
  · simp only [Act.put, List.setIfInBounds_toArray, List.set_cons_zero, List.set_cons_succ, i64_w, i32_w]
    rfl
  refine pure_ (i := 21) (N := some 56) (v := ?_) (a' := ?_) #[true, true, true, true, true, true, true, true, true, true, true, true, true, true, true, true, true, true, true, true, true, true, false, false, false, false, false, false, false, false] rfl rfl (any_of HT_.out (by kernel_rfl)) (fun _ _ _ h => h) (Or.inl ⟨by rfl, ?_⟩) ?_ ?_
  rotate_left
  · intro w'
    go_simp
    with_reducible rfl
  rotate_left
  · simp only [Act.put, List.setIfInBounds_toArray, List.set_cons_zero, List.set_cons_succ, i64_w, i32_w]
    rfl
  refine take_ (i := 22) (N := some 57) (v := ?_) (a' := ?_) #[true, true, true, true, true, true, true, true, true, true, true, true, true, true, true, true, true, true, true, true, true, true, true, false, false, false, false, false, false, false] rfl rfl (take_ofW HT_.out HW_.out (by kernel_rfl)) (fun _ _ _ h => h) (Or.inl ⟨by rfl, ?_⟩) hHeld ?_ ?_
  rotate_left
  · intro w' hsw
    refine exec_load (x := .tmp 3) (H0b.out.below hsw H0b.out.lt) Tryd.underlying23 info32 rfl ?_ ?_ <;> rfl
  rotate_left
  · simp only [Act.put, List.setIfInBounds_toArray, List.set_cons_zero, List.set_cons_succ, i64_w, i32_w]
    rfl
  refine pure_ (i := 25) (N := some 60) (v := ?_) (a' := ?_) #[true, true, true, true, true, true, true, true, true, true, true, true, true, true, true, true, true, true, true, true, true, true, true, false, false, true, false, false, false, false] rfl rfl (any_of HT_.out (by kernel_rfl)) (fun _ _ _ h => h) (Or.inl ⟨by rfl, ?_⟩) ?_ ?_
  rotate_left
  · intro w'
    go_simp
    with_reducible rfl
  rotate_left
  · simp only [Act.put, List.setIfInBounds_toArray, List.set_cons_zero, List.set_cons_succ, i64_w, i32_w]
    rfl
  refine one_ (i := 23) (N := some 58) #[true, true, true, true, true, true, true, true, true, true, true, true, true, true, true, true, true, true, true, true, true, true, true, true, false, true, false, false, false, false] rfl rfl (one_of HT_.out (by kernel_rfl)) (by decide) (fun K hK => ?_)
  refine goes_ Tryd.func17 rfl rfl #[.agg (FR .u8 32 a0)] rfl rfl rfl (by simp only [List.map_toArray, List.map_cons, List.map_nil]; rfl) ((neg_as a0 (N32 a0 * (LL - 1) % LL) _ (HO8.out.below hHeld HO8.out.lt) HA0.out rfl).mono ?_)
  rintro e wc6 ⟨rfl, hb⟩
  have hSn : Below w8.heap.size w8 wc6 := hHeld.trans (hb.mono hHeld.size)
  clear hb
  refine ⟨_, rfl, hK.out _ _ hSn (fun hHeld => ?_)⟩
  clear hSn
  clear hK K
  refine norm_ (a' := ?_) ?_ ?_
  rotate_left
  · show Act.put _ (some 58) _ = _
    simp only [Act.put, List.setIfInBounds_toArray, List.set_cons_zero, List.set_cons_succ, i64_w, i32_w]
    rfl
  refine one_ (i := 24) (N := some 59) #[true, true, true, true, true, true, true, true, true, true, true, true, true, true, true, true, true, true, true, true, true, true, true, true, true, true, false, false, false, false] rfl rfl (one_of HT_.out (by kernel_rfl)) (by decide) (fun K hK => ?_)
  refine goes_ Tryd.func17 rfl rfl #[.agg (FR .u8 32 (dig 256 (N32 a0 * (LL - 1) % LL)))] rfl rfl rfl (by simp only [List.map_toArray, List.map_cons, List.map_nil]; rfl) ((neg_as _ (N32 a0 % LL) _ (HO8.out.below hHeld HO8.out.lt) (dig_By _) (by rw [N32_rest]; exact law_negneg _)).mono ?_)
  rintro e wc7 ⟨rfl, hb⟩
  have hSn : Below w8.heap.size w8 wc7 := hHeld.trans (hb.mono hHeld.size)
  clear hb
  refine ⟨_, rfl, hK.out _ _ hSn (fun hHeld => ?_)⟩
  clear hSn
  clear hK K
  refine norm_ (a' := ?_) ?_ ?_
  rotate_left
  · show Act.put _ (some 59) _ = _
    simp only [Act.put, List.setIfInBounds_toArray, List.set_cons_zero, List.set_cons_succ, i64_w, i32_w]
    rfl
  refine one_ (i := 26) (N := some 61) #[true, true, true, true, true, true, true, true, true, true, true, true, true, true, true, true, true, true, true, true, true, true, true, true, true, true, true, false, false, false] rfl rfl (one_of HT_.out (by kernel_rfl)) (by decide) (fun K hK => ?_)
  refine goes_ Tryd.func9 rfl rfl #[.slice (some ⟨w.heap.size, 0, none⟩) 32 32] rfl rfl rfl (by simp only [List.map_toArray, List.map_cons, List.map_nil]; rfl) ((rest_row a0 _ 32 _ (HO8.out.below hHeld HO8.out.lt) HA0.out ((H0b.out.below hHeld H0b.out.lt).bytesAt (Nat.le_refl _))).mono ?_)
  rintro e wc8 ⟨rfl, hb⟩
  have hSn : Below w8.heap.size w8 wc8 := hHeld.trans (hb.mono hHeld.size)
  clear hb
  refine ⟨_, rfl, hK.out _ _ hSn (fun hHeld => ?_)⟩
  clear hSn
  clear hK K
  refine norm_ (a' := ?_) ?_ ?_
  rotate_left
  · show Act.put _ (some 61) _ = _
    simp only [Act.put, List.setIfInBounds_toArray, List.set_cons_zero, List.set_cons_succ, i64_w, i32_w]
    rfl
  refine pure_ (i := 27) (N := some 62) (v := ?_) (a' := ?_) #[true, true, true, true, true, true, true, true, true, true, true, true, true, true, true, true, true, true, true, true, true, true, true, true, true, true, true, true, false, false] rfl rfl (any_of HT_.out (by kernel_rfl)) (fun _ _ _ h => h) (Or.inl ⟨by rfl, ?_⟩) ?_ ?_
  rotate_left
  · intro w'
    go_simp
    with_reducible rfl
  rotate_left
  · simp only [Act.put, List.setIfInBounds_toArray, List.set_cons_zero, List.set_cons_succ, i64_w, i32_w]
    rfl
  refine pure_ (i := 28) (N := some 63) (v := ?_) (a' := ?_) #[true, true, true, true, true, true, true, true, true, true, true, true, true, true, true, true, true, true, true, true, true, true, true, true, true, true, true, true, true, false] rfl rfl (any_of HT_.out (by kernel_rfl)) (fun _ _ _ h => h) (Or.inl ⟨by rfl, ?_⟩) ?_ ?_
  rotate_left
  · intro w'
    go_simp
    with_reducible rfl
  rotate_left
  · simp only [Act.put, List.setIfInBounds_toArray, List.set_cons_zero, List.set_cons_succ, i64_w, i32_w]
    rfl
  refine pure_ (i := 29) (N := some 6) (v := ?_) (a' := ?_) #[true, true, true, true, true, true, true, true, true, true, true, true, true, true, true, true, true, true, true, true, true, true, true, true, true, true, true, true, true, true] rfl rfl (any_of HT_.out (by kernel_rfl)) (fun _ _ _ h => h) (Or.inl ⟨by rfl, ?_⟩) ?_ ?_
  rotate_left
  · intro w'
    go_simp
    with_reducible rfl
  rotate_left
  · simp only [Act.put, List.setIfInBounds_toArray, List.set_cons_zero, List.set_cons_succ, i64_w, i32_w]
    rfl
  refine done_ (done_of HT_.out (by kernel_rfl)) ?_
  clear HT_ HW_ hqa hsr he0
  go_wp2_with fail
  go_ret
  exact ⟨rfl, HBx.out.trans (hHeld.mono HBx.out.size)⟩
end Go.Proofs.YtchokhakdnjfmaaDoor.P
