/- The law FieldRoots: its walk. -/
import Derived.Test.YthonoagpiofojaaP6
namespace Go.Proofs.Ythonoagpiofojaa.P
set_option linter.unusedVariables false
set_option linter.unusedSimpArgs false
open Go.RowKit Go.Proofs.YthonoagpiofojaaW.PrintWords Go.Proofs.YthonoagpiofojaaW.PrintLast Go.Proofs.YthonoagpiofojaaW.PrintMore
attribute [local go_sem] setCell_drewN
theorem rootE_ok {f : Nat → Int} {n : Int} (hf : Fe f n) (b : Bool) (h : rOk iZ n = b) (w : World) : Calls Try.prog 32 #[.agg (FR .u64 5 f)] w fun e w' => e = .returned (.tuple #[.agg (FR .u64 5 (rtE f n)), .bool b]) ∧ Below w.heap.size w w' := by
  rw [← h]; exact rootE_calls f n w hf
theorem rootR_ok {f : Nat → Int} {n : Int} (hf : Re f n) (b : Bool) (h : rOk iZ n = b) (w : World) : Calls Try.prog 33 #[.agg (FR .i64 16 f)] w fun e w' => e = .returned (.tuple #[.agg (FR .i64 16 (rtR f n)), .bool b]) ∧ Below w.heap.size w w' := by
  rw [← h]; exact rootR_calls f n w hf
theorem tab1006 : rtab .any (opsOf Try.f10 6) = (true, [([], []), ([], []), ([0, 1], [0, 1]), ([2], [2]), ([3], [3]), ([3], [3]), ([4, 5, 3, 3], [3, 4, 5]), ([6, 3], [3, 6]), ([3, 7], [3, 7]), ([8, 6], [8]), ([9], [9]), ([10, 9, 9], [9, 10]), ([11], [11]), ([11], [11]), ([12, 13, 11, 11], [11, 12, 13]), ([11], [11]), ([14, 15, 14, 11], [11, 14, 15]), ([16, 11], [11, 16]), ([17, 16, 11], [11, 17]), ([18], [18]), ([19, 18, 18], [18, 19]), ([18, 20, 11], [11, 18, 20]), ([11, 21, 9], [9, 11, 21]), ([9, 22], [9, 22])]) := by kernel_rfl
theorem bits1006 : waitsOk [([], []), ([], []), ([0, 1], [0, 1]), ([2], [2]), ([3], [3]), ([3], [3]), ([4, 5, 3, 3], [3, 4, 5]), ([6, 3], [3, 6]), ([3, 7], [3, 7]), ([8, 6], [8]), ([9], [9]), ([10, 9, 9], [9, 10]), ([11], [11]), ([11], [11]), ([12, 13, 11, 11], [11, 12, 13]), ([11], [11]), ([14, 15, 14, 11], [11, 14, 15]), ([16, 11], [11, 16]), ([17, 16, 11], [11, 17]), ([18], [18]), ([19, 18, 18], [18, 19]), ([18, 20, 11], [11, 18, 20]), ([11, 21, 9], [9, 11, 21]), ([9, 22], [9, 22])] [0, 0, 3, 7, 15, 15, 63, 127, 255, 511, 1023, 2047, 4095, 4095, 16383, 4095, 65535, 131071, 262143, 524287, 1048575, 2097151, 4194303, 8388607] = true := by kernel_rfl
theorem tab1009 : rtab .any (opsOf Try.f10 9) = (true, [([], []), ([0], [0]), ([1], [1]), ([1], [1]), ([2, 3, 1, 1], [1, 2, 3]), ([4, 4, 1], [1, 4]), ([5], [5]), ([5], [5]), ([7, 5, 5], [5, 7]), ([6, 8, 8, 5], [5, 6, 8]), ([5, 9, 1], [1, 5, 9]), ([1, 10], [1, 10]), ([11, 9, 0, 1, 2, 3, 4, 5, 6, 7, 8, 9, 10, 11], [11])]) := by kernel_rfl
theorem bits1009 : waitsOk [([], []), ([0], [0]), ([1], [1]), ([1], [1]), ([2, 3, 1, 1], [1, 2, 3]), ([4, 4, 1], [1, 4]), ([5], [5]), ([5], [5]), ([7, 5, 5], [5, 7]), ([6, 8, 8, 5], [5, 6, 8]), ([5, 9, 1], [1, 5, 9]), ([1, 10], [1, 10]), ([11, 9, 0, 1, 2, 3, 4, 5, 6, 7, 8, 9, 10, 11], [11])] [0, 1, 3, 3, 15, 31, 63, 63, 191, 511, 1023, 2047, 4095] = true := by kernel_rfl
set_option maxHeartbeats 4000000 in
theorem FieldRoots_walk (a0 : Nat → Int) (w : World) (w0 : ∀ i, i < 32 → (Lit.int .u8 (a0 i)).wf = true) :
    Calls Try.prog 10 #[.agg (FR .u8 32 a0)] w fun e w' => e = .returned (.bool true) ∧ Below w.heap.size w w' := by
  have HA0 : Aside0 (By a0) := ⟨fun j hj => u8b (w0 j hj)⟩
  clear w0
  go_enter Try.func10, Try.ntmps10
  have H0 := Aside0.mk (Row.new w .u8 32 a0 22)
  have HB := Aside0.mk ((Below.refl w.heap.size w).alloc (Nat.le_refl _) (.cells (FR .u8 32 a0) 22))
  go_wp2_with fail
  refine (alive_calls _).mono ?_
  rintro e w1 ⟨rfl, hb⟩
  have H1 := Aside0.mk (H0.out.below hb H0.out.lt)
  have HB1 := Aside0.mk (HB.out.trans (hb.mono HB.out.size))
  clear hb H0 HB
  go_wp2_with (refine step_load H1.out Try.underlying22 info22 rfl rfl rfl rfl ?_)
  refine (Of_elem_calls a0 _ HA0.out).mono ?_
  rintro e w2 ⟨rfl, hb⟩
  have H2 := Aside0.mk (H1.out.below hb H1.out.lt)
  have HB2 := Aside0.mk (HB1.out.trans (hb.mono HB1.out.size))
  clear hb H1 HB1
  have HNW := Aside0.mk (Row.new w2 .u64 5 (fun _ => 0) 27)
  have H2a := Aside0.mk (H2.out.alloc (.cells (FR .u64 5 fun _ => 0) 27))
  have H2l := H2.out.lt
  have HBa := Aside0.mk (HB2.out.alloc HB2.out.size (.cells (FR .u64 5 fun _ => 0) 27))
  have hlo := HB2.out.size
  go_wp2_with (first | (refine step_storeG (carr (ofL a0)) HNW.out info27 rfl rfl rfl rfl rfl ?_; intro w3 hs hr; have HRr := Aside0.mk hr; have H2b : Aside0 (Row w3 w.heap.size .u8 32 a0 22) := ⟨H2a.out.stored hs (show w.heap.size ≠ w2.heap.size by omega)⟩; have HBn := Aside0.mk (hs.bel _ _ (show w.heap.size ≤ w2.heap.size by omega) HBa.out); clear hs hr) | refine step_load HRr.out Try.underlying27 info27 rfl rfl rfl rfl ?_)
  clear HNW HBa HB2 H2 H2a H2l
  have H2 := H2b
  clear H2b
  have HB2 := HBn
  clear HBn
  generalize w2.heap.size = bx at *
  have HX := HRr
  clear HRr
  cases hok : rOk iZ (N32 a0)
  · have HOK := Aside0.mk hok
    clear hok
    refine (rootE_ok (Fe.of _ HA0.out) false HOK.out _).mono ?_
    rintro e w4 ⟨rfl, hb⟩
    have H4 := Aside0.mk (H2.out.below hb H2.out.lt)
    have HX4 := Aside0.mk (HX.out.below hb HX.out.lt)
    have HB4 := Aside0.mk (HB2.out.trans (hb.mono HB2.out.size))
    clear hb H2 HX HB2
    have HNW := Aside0.mk (Row.new w4 .u64 5 (fun _ => 0) 27)
    have H4a := Aside0.mk (H4.out.alloc (.cells (FR .u64 5 fun _ => 0) 27))
    have H4l := H4.out.lt
    have HX4a := Aside0.mk (HX4.out.alloc (.cells (FR .u64 5 fun _ => 0) 27))
    have HX4l := HX4.out.lt
    have HBa := Aside0.mk (HB4.out.alloc HB4.out.size (.cells (FR .u64 5 fun _ => 0) 27))
    have hlo := HB4.out.size
    go_wp2_with (first | (refine step_storeG (rtE (carr (ofL a0)) (N32 a0)) HNW.out info27 rfl rfl rfl rfl rfl ?_; intro w5 hs hr; have HRr := Aside0.mk hr; have H4b : Aside0 (Row w5 w.heap.size .u8 32 a0 22) := ⟨H4a.out.stored hs (show w.heap.size ≠ w4.heap.size by omega)⟩; have HX4b : Aside0 (Row w5 bx .u64 5 (carr (ofL a0)) 27) := ⟨HX4a.out.stored hs (show bx ≠ w4.heap.size by omega)⟩; have HBn := Aside0.mk (hs.bel _ _ (show w.heap.size ≤ w4.heap.size by omega) HBa.out); clear hs hr) | refine step_load H4b.out Try.underlying22 info22 rfl rfl rfl rfl ?_)
    clear HNW HBa HB4 H4 H4a H4l HX4 HX4a HX4l
    have H4 := H4b
    clear H4b
    have HX4 := HX4b
    clear HX4b
    have HB4 := HBn
    clear HBn
    generalize w4.heap.size = br at *
    have HR5 := HRr
    clear HRr
    refine (num_calls' _ _ HA0.out).mono ?_
    rintro e w6 ⟨rfl, hb⟩
    have H6 := Aside0.mk (H4.out.below hb H4.out.lt)
    have HX6 := Aside0.mk (HX4.out.below hb HX4.out.lt)
    have HR6 := Aside0.mk (HR5.out.below hb HR5.out.lt)
    have HB6 := Aside0.mk (HB4.out.trans (hb.mono HB4.out.size))
    clear hb H4 HX4 HR5 HB4
    go_wp2_with fail
    refine (rootR_ok (Re.num _ HA0.out) false HOK.out _).mono ?_
    rintro e w7 ⟨rfl, hb⟩
    have H7 := Aside0.mk (H6.out.below hb H6.out.lt)
    have HX7 := Aside0.mk (HX6.out.below hb HX6.out.lt)
    have HR7 := Aside0.mk (HR6.out.below hb HR6.out.lt)
    have HB7 := Aside0.mk (HB6.out.trans (hb.mono HB6.out.size))
    clear hb H6 HX6 HR6 HB6
    have HNW := Aside0.mk (Row.new w7 .i64 16 (fun _ => 0) 33)
    have H7a := Aside0.mk (H7.out.alloc (.cells (FR .i64 16 fun _ => 0) 33))
    have H7l := H7.out.lt
    have HX7a := Aside0.mk (HX7.out.alloc (.cells (FR .i64 16 fun _ => 0) 33))
    have HX7l := HX7.out.lt
    have HR7a := Aside0.mk (HR7.out.alloc (.cells (FR .i64 16 fun _ => 0) 33))
    have HR7l := HR7.out.lt
    have HBa := Aside0.mk (HB7.out.alloc HB7.out.size (.cells (FR .i64 16 fun _ => 0) 33))
    have hlo := HB7.out.size
    go_wp2_with (first | (refine step_storeG (rtR (numD a0) (N32 a0)) HNW.out info33 rfl rfl rfl rfl rfl ?_; intro w8 hs hr; have HRr := Aside0.mk hr; have H7b : Aside0 (Row w8 w.heap.size .u8 32 a0 22) := ⟨H7a.out.stored hs (show w.heap.size ≠ w7.heap.size by omega)⟩; have HX7b : Aside0 (Row w8 bx .u64 5 (carr (ofL a0)) 27) := ⟨HX7a.out.stored hs (show bx ≠ w7.heap.size by omega)⟩; have HR7b : Aside0 (Row w8 br .u64 5 (rtE (carr (ofL a0)) (N32 a0)) 27) := ⟨HR7a.out.stored hs (show br ≠ w7.heap.size by omega)⟩; have HBn := Aside0.mk (hs.bel _ _ (show w.heap.size ≤ w7.heap.size by omega) HBa.out); clear hs hr))
    clear HNW HBa HB7 H7 H7a H7l HX7 HX7a HX7l HR7 HR7a HR7l
    have H7 := H7b
    clear H7b
    have HX7 := HX7b
    clear HX7b
    have HR7 := HR7b
    clear HR7b
    have HB7 := HBn
    clear HBn
    generalize w7.heap.size = bs at *
    have hh : Row w8.drew bx .u64 5 (carr (ofL a0)) 27 ∧ Row w8.drew br .u64 5 (rtE (carr (ofL a0)) (N32 a0)) 27 ∧ Row w8.drew bs .i64 16 (rtR (numD a0) (N32 a0)) 33 := ⟨HX7.out, HR7.out, HRr.out⟩
    have HBd := Aside0.mk HB7.out.drew
    clear H7 HX7 HR7 HRr HB7
    refine start_ (n := 24) (S := (fun w' => Row w' bx .u64 5 (carr (ofL a0)) 27 ∧ Row w' br .u64 5 (rtE (carr (ofL a0)) (N32 a0)) 27 ∧ Row w' bs .i64 16 (rtR (numD a0) (N32 a0)) 33)) (ds := []) #[false, false, false, false, false, false, false, false, false, false, false, false, false, false, false, false, false, false, false, false, false, false, false, false] (by kernel_rfl) rfl rfl hh (fun hHeld => ?_); refine with_tabW tab1006 bits1006 (fun HT_ HW_ => ?_)
    generalize w8.drew = w9 at HBd hHeld hh ⊢
    clear hh
    refine pure_ (i := 0) (N := some 25) (v := ?_) (a' := ?_) #[true, false, false, false, false, false, false, false, false, false, false, false, false, false, false, false, false, false, false, false, false, false, false, false] rfl rfl (any_of HT_.out (by kernel_rfl)) (fun _ _ _ h => h) (Or.inl ⟨by rfl, ?_⟩) ?_ ?_
    rotate_left
    · intro w'
      go_simp
      with_reducible rfl
    rotate_left
    · simp only [Act.put, List.setIfInBounds_toArray, List.set_cons_zero, List.set_cons_succ, i64_w, i32_w]
      rfl
    refine pure_ (i := 1) (N := some 26) (v := ?_) (a' := ?_) #[true, true, false, false, false, false, false, false, false, false, false, false, false, false, false, false, false, false, false, false, false, false, false, false] rfl rfl (any_of HT_.out (by kernel_rfl)) (fun _ _ _ h => h) (Or.inl ⟨by rfl, ?_⟩) ?_ ?_
    rotate_left
    · intro w'
      go_simp
      with_reducible rfl
    rotate_left
    · simp only [Act.put, List.setIfInBounds_toArray, List.set_cons_zero, List.set_cons_succ, i64_w, i32_w]
      rfl
    refine pure_ (i := 2) (N := some 27) (v := ?_) (a' := ?_) #[true, true, true, false, false, false, false, false, false, false, false, false, false, false, false, false, false, false, false, false, false, false, false, false] rfl rfl (any_of HT_.out (by kernel_rfl)) (fun _ _ _ h => h) (Or.inl ⟨by rfl, ?_⟩) ?_ ?_
    rotate_left
    · intro w'
      go_simp
      with_reducible rfl
    rotate_left
    · simp only [Act.put, List.setIfInBounds_toArray, List.set_cons_zero, List.set_cons_succ, i64_w, i32_w]
      rfl
    refine pure_ (i := 3) (N := some 28) (v := ?_) (a' := ?_) #[true, true, true, true, false, false, false, false, false, false, false, false, false, false, false, false, false, false, false, false, false, false, false, false] rfl rfl (any_of HT_.out (by kernel_rfl)) (fun _ _ _ h => h) (Or.inl ⟨by rfl, ?_⟩) ?_ ?_
    rotate_left
    · intro w'
      go_simp
      with_reducible rfl
    rotate_left
    · simp only [Act.put, List.setIfInBounds_toArray, List.set_cons_zero, List.set_cons_succ, i64_w, i32_w]
      rfl
    refine take_ (i := 4) (N := some 29) (v := ?_) (a' := ?_) #[true, true, true, true, true, false, false, false, false, false, false, false, false, false, false, false, false, false, false, false, false, false, false, false] rfl rfl (take_ofW HT_.out HW_.out (by kernel_rfl)) (fun _ _ _ h => h) (Or.inl ⟨by rfl, ?_⟩) hHeld ?_ ?_
    rotate_left
    · intro w' hsw
      refine exec_load (x := .tmp 4) hsw.2.1 Try.underlying27 info27 rfl ?_ ?_ <;> rfl
    rotate_left
    · simp only [Act.put, List.setIfInBounds_toArray, List.set_cons_zero, List.set_cons_succ, i64_w, i32_w]
      rfl
    refine take_ (i := 5) (N := some 30) (v := ?_) (a' := ?_) #[true, true, true, true, true, true, false, false, false, false, false, false, false, false, false, false, false, false, false, false, false, false, false, false] rfl rfl (take_ofW HT_.out HW_.out (by kernel_rfl)) (fun _ _ _ h => h) (Or.inl ⟨by rfl, ?_⟩) hHeld ?_ ?_
    rotate_left
    · intro w' hsw
      refine exec_load (x := .tmp 6) hsw.2.2 Try.underlying33 info33 rfl ?_ ?_ <;> rfl
    rotate_left
    · simp only [Act.put, List.setIfInBounds_toArray, List.set_cons_zero, List.set_cons_succ, i64_w, i32_w]
      rfl
    refine one_ (i := 6) (N := some 31) #[true, true, true, true, true, true, true, false, false, false, false, false, false, false, false, false, false, false, false, false, false, false, false, false] rfl rfl (one_of HT_.out (by kernel_rfl)) (by decide) (fun K hK => ?_)
    refine goes_ Try.func14 rfl rfl #[.agg (FR .u64 5 (rtE (carr (ofL a0)) (N32 a0))), .agg (FR .i64 16 (rtR (numD a0) (N32 a0)))] rfl rfl rfl (by simp only [List.map_toArray, List.map_cons, List.map_nil]; rfl) ((is_true_of2 (rtE_Fe (Fe.of _ HA0.out)) (rtR_Re (Re.num _ HA0.out)) (by first | rfl | (congr 1; grind)) _).mono ?_)
    rintro e wc301 ⟨rfl, hb⟩
    have hSn : Row wc301 bx .u64 5 (carr (ofL a0)) 27 ∧ Row wc301 br .u64 5 (rtE (carr (ofL a0)) (N32 a0)) 27 ∧ Row wc301 bs .i64 16 (rtR (numD a0) (N32 a0)) 33 := ⟨hHeld.1.below hb hHeld.1.lt, hHeld.2.1.below hb hHeld.2.1.lt, hHeld.2.2.below hb hHeld.2.2.lt⟩
    have HBc301 := Aside0.mk (HBd.out.trans (hb.mono HBd.out.size))
    clear hb
    refine ⟨_, rfl, hK.out _ _ hSn (fun hHeld => ?_)⟩
    clear hSn
    clear hK K
    refine norm_ (a' := ?_) ?_ ?_
    rotate_left
    · show Act.put _ (some 31) _ = _
      simp only [Act.put, List.setIfInBounds_toArray, List.set_cons_zero, List.set_cons_succ, i64_w, i32_w]
      rfl
    refine pure_ (i := 7) (N := some 32) (v := ?_) (a' := ?_) #[true, true, true, true, true, true, true, true, false, false, false, false, false, false, false, false, false, false, false, false, false, false, false, false] rfl rfl (any_of HT_.out (by kernel_rfl)) (fun _ _ _ h => h) (Or.inl ⟨by rfl, ?_⟩) ?_ ?_
    rotate_left
    · intro w'
      go_simp
      with_reducible rfl
    rotate_left
    · simp only [Act.put, List.setIfInBounds_toArray, List.set_cons_zero, List.set_cons_succ, i64_w, i32_w]
      rfl
    refine pure_ (i := 8) (N := some 33) (v := ?_) (a' := ?_) #[true, true, true, true, true, true, true, true, true, false, false, false, false, false, false, false, false, false, false, false, false, false, false, false] rfl rfl (any_of HT_.out (by kernel_rfl)) (fun _ _ _ h => h) (Or.inl ⟨by rfl, ?_⟩) ?_ ?_
    rotate_left
    · intro w'
      go_simp
      with_reducible rfl
    rotate_left
    · simp only [Act.put, List.setIfInBounds_toArray, List.set_cons_zero, List.set_cons_succ, i64_w, i32_w]
      rfl
    refine pure_ (i := 9) (N := some 34) (v := ?_) (a' := ?_) #[true, true, true, true, true, true, true, true, true, true, false, false, false, false, false, false, false, false, false, false, false, false, false, false] rfl rfl (any_of HT_.out (by kernel_rfl)) (fun _ _ _ h => h) (Or.inl ⟨by rfl, ?_⟩) ?_ ?_
    rotate_left
    · intro w'
      go_simp
      with_reducible rfl
    rotate_left
    · simp only [Act.put, List.setIfInBounds_toArray, List.set_cons_zero, List.set_cons_succ, i64_w, i32_w]
      rfl
    refine pure_ (i := 10) (N := some 35) (v := ?_) (a' := ?_) #[true, true, true, true, true, true, true, true, true, true, true, false, false, false, false, false, false, false, false, false, false, false, false, false] rfl rfl (any_of HT_.out (by kernel_rfl)) (fun _ _ _ h => h) (Or.inl ⟨by rfl, ?_⟩) ?_ ?_
    rotate_left
    · intro w'
      go_simp
      with_reducible rfl
    rotate_left
    · simp only [Act.put, List.setIfInBounds_toArray, List.set_cons_zero, List.set_cons_succ, i64_w, i32_w]
      rfl
    refine pure_ (i := 11) (N := some 36) (v := ?_) (a' := ?_) #[true, true, true, true, true, true, true, true, true, true, true, true, false, false, false, false, false, false, false, false, false, false, false, false] rfl rfl (any_of HT_.out (by kernel_rfl)) (fun _ _ _ h => h) (Or.inl ⟨by rfl, ?_⟩) ?_ ?_
    rotate_left
    · intro w'
      go_simp
      with_reducible rfl
    rotate_left
    · simp only [Act.put, List.setIfInBounds_toArray, List.set_cons_zero, List.set_cons_succ, i64_w, i32_w]
      rfl
    refine pure_ (i := 12) (N := some 37) (v := undef) (a' := ?_) #[true, true, true, true, true, true, true, true, true, true, true, true, true, false, false, false, false, false, false, false, false, false, false, false] rfl rfl (any_of HT_.out (by kernel_rfl)) (fun _ _ _ h => h) (Or.inr ⟨by rfl, rfl⟩) ?_ ?_
    rotate_left
    · simp only [Act.put, List.setIfInBounds_toArray, List.set_cons_zero, List.set_cons_succ, i64_w, i32_w]
      rfl
    refine pure_ (i := 13) (N := some 38) (v := undef) (a' := ?_) #[true, true, true, true, true, true, true, true, true, true, true, true, true, true, false, false, false, false, false, false, false, false, false, false] rfl rfl (any_of HT_.out (by kernel_rfl)) (fun _ _ _ h => h) (Or.inr ⟨by rfl, rfl⟩) ?_ ?_
    rotate_left
    · simp only [Act.put, List.setIfInBounds_toArray, List.set_cons_zero, List.set_cons_succ, i64_w, i32_w]
      rfl
    refine pure_ (i := 14) (N := some 39) (v := undef) (a' := ?_) #[true, true, true, true, true, true, true, true, true, true, true, true, true, true, true, false, false, false, false, false, false, false, false, false] rfl rfl (any_of HT_.out (by kernel_rfl)) (fun _ _ _ h => h) (Or.inr ⟨by rfl, rfl⟩) ?_ ?_
    rotate_left
    · simp only [Act.put, List.setIfInBounds_toArray, List.set_cons_zero, List.set_cons_succ, i64_w, i32_w]
      rfl
    refine pure_ (i := 15) (N := some 40) (v := undef) (a' := ?_) #[true, true, true, true, true, true, true, true, true, true, true, true, true, true, true, true, false, false, false, false, false, false, false, false] rfl rfl (any_of HT_.out (by kernel_rfl)) (fun _ _ _ h => h) (Or.inr ⟨by rfl, rfl⟩) ?_ ?_
    rotate_left
    · simp only [Act.put, List.setIfInBounds_toArray, List.set_cons_zero, List.set_cons_succ, i64_w, i32_w]
      rfl
    refine pure_ (i := 16) (N := some 41) (v := undef) (a' := ?_) #[true, true, true, true, true, true, true, true, true, true, true, true, true, true, true, true, true, false, false, false, false, false, false, false] rfl rfl (any_of HT_.out (by kernel_rfl)) (fun _ _ _ h => h) (Or.inr ⟨by rfl, rfl⟩) ?_ ?_
    rotate_left
    · simp only [Act.put, List.setIfInBounds_toArray, List.set_cons_zero, List.set_cons_succ, i64_w, i32_w]
      rfl
    refine pure_ (i := 17) (N := some 42) (v := undef) (a' := ?_) #[true, true, true, true, true, true, true, true, true, true, true, true, true, true, true, true, true, true, false, false, false, false, false, false] rfl rfl (any_of HT_.out (by kernel_rfl)) (fun _ _ _ h => h) (Or.inr ⟨by rfl, rfl⟩) ?_ ?_
    rotate_left
    · simp only [Act.put, List.setIfInBounds_toArray, List.set_cons_zero, List.set_cons_succ, i64_w, i32_w]
      rfl
    refine pure_ (i := 18) (N := some 43) (v := undef) (a' := ?_) #[true, true, true, true, true, true, true, true, true, true, true, true, true, true, true, true, true, true, true, false, false, false, false, false] rfl rfl (any_of HT_.out (by kernel_rfl)) (fun _ _ _ h => h) (Or.inr ⟨by rfl, rfl⟩) ?_ ?_
    rotate_left
    · simp only [Act.put, List.setIfInBounds_toArray, List.set_cons_zero, List.set_cons_succ, i64_w, i32_w]
      rfl
    refine pure_ (i := 19) (N := some 44) (v := undef) (a' := ?_) #[true, true, true, true, true, true, true, true, true, true, true, true, true, true, true, true, true, true, true, true, false, false, false, false] rfl rfl (any_of HT_.out (by kernel_rfl)) (fun _ _ _ h => h) (Or.inr ⟨by rfl, rfl⟩) ?_ ?_
    rotate_left
    · simp only [Act.put, List.setIfInBounds_toArray, List.set_cons_zero, List.set_cons_succ, i64_w, i32_w]
      rfl
    refine pure_ (i := 20) (N := some 45) (v := undef) (a' := ?_) #[true, true, true, true, true, true, true, true, true, true, true, true, true, true, true, true, true, true, true, true, true, false, false, false] rfl rfl (any_of HT_.out (by kernel_rfl)) (fun _ _ _ h => h) (Or.inr ⟨by rfl, rfl⟩) ?_ ?_
    rotate_left
    · simp only [Act.put, List.setIfInBounds_toArray, List.set_cons_zero, List.set_cons_succ, i64_w, i32_w]
      rfl
    refine pure_ (i := 21) (N := some 46) (v := undef) (a' := ?_) #[true, true, true, true, true, true, true, true, true, true, true, true, true, true, true, true, true, true, true, true, true, true, false, false] rfl rfl (any_of HT_.out (by kernel_rfl)) (fun _ _ _ h => h) (Or.inr ⟨by rfl, rfl⟩) ?_ ?_
    rotate_left
    · simp only [Act.put, List.setIfInBounds_toArray, List.set_cons_zero, List.set_cons_succ, i64_w, i32_w]
      rfl
    refine pure_ (i := 22) (N := some 47) (v := ?_) (a' := ?_) #[true, true, true, true, true, true, true, true, true, true, true, true, true, true, true, true, true, true, true, true, true, true, true, false] rfl rfl (any_of HT_.out (by kernel_rfl)) (fun _ _ _ h => h) (Or.inl ⟨by rfl, ?_⟩) ?_ ?_
    rotate_left
    · intro w'
      go_simp
      with_reducible rfl
    rotate_left
    · simp only [Act.put, List.setIfInBounds_toArray, List.set_cons_zero, List.set_cons_succ, i64_w, i32_w]
      rfl
    refine pure_ (i := 23) (N := some 48) (v := ?_) (a' := ?_) #[true, true, true, true, true, true, true, true, true, true, true, true, true, true, true, true, true, true, true, true, true, true, true, true] rfl rfl (any_of HT_.out (by kernel_rfl)) (fun _ _ _ h => h) (Or.inl ⟨by rfl, ?_⟩) ?_ ?_
    rotate_left
    · intro w'
      go_simp
      with_reducible rfl
    rotate_left
    · simp only [Act.put, List.setIfInBounds_toArray, List.set_cons_zero, List.set_cons_succ, i64_w, i32_w]
      rfl
    refine done_ (done_of HT_.out (by kernel_rfl)) ?_
    have HX := Aside0.mk hHeld.1
    clear hHeld HT_ HW_
    go_wp2_with (refine step_load HX.out Try.underlying27 info27 rfl rfl rfl rfl ?_)
    refine (elem_mul_calls _ _ _ (Fe.of _ HA0.out).1 (Fe.of _ HA0.out).1).mono ?_
    rintro e x1 ⟨rfl, hb⟩
    have HX1 := Aside0.mk (HX.out.below hb HX.out.lt)
    have HC1 := Aside0.mk (HBc301.out.trans (hb.mono HBc301.out.size))
    clear hb HX HBc301
    go_wp2_with fail
    refine (rootE_ok ((Fe.of _ HA0.out).mul (Fe.of _ HA0.out)) true (rOk_sq iZ iZ_sq _) _).mono ?_
    rintro e x2 ⟨rfl, hb⟩
    have HX2 := Aside0.mk (HX1.out.below hb HX1.out.lt)
    have HC2 := Aside0.mk (HC1.out.trans (hb.mono HC1.out.size))
    clear hb HX1 HC1
    have HNW := Aside0.mk (Row.new x2 .u64 5 (fun _ => 0) 27)
    have HX2a := Aside0.mk (HX2.out.alloc (.cells (FR .u64 5 fun _ => 0) 27))
    have HX2l := HX2.out.lt
    have HBa := Aside0.mk (HC2.out.alloc HC2.out.size (.cells (FR .u64 5 fun _ => 0) 27))
    have hlo := HC2.out.size
    go_wp2_with (first | (refine step_storeG (rtE (mulE (carr (ofL a0)) (carr (ofL a0))) ((N32 a0) * (N32 a0))) HNW.out info27 rfl rfl rfl rfl rfl ?_; intro x3 hs hr; have HRr := Aside0.mk hr; have HX2b : Aside0 (Row x3 bx .u64 5 (carr (ofL a0)) 27) := ⟨HX2a.out.stored hs (show bx ≠ x2.heap.size by omega)⟩; have HBn := Aside0.mk (hs.bel _ _ (show w.heap.size ≤ x2.heap.size by omega) HBa.out); clear hs hr))
    clear HNW HBa HC2 HX2 HX2a HX2l
    have HX2 := HX2b
    clear HX2b
    have HC2 := HBn
    clear HBn
    generalize x2.heap.size = bq at *
    cases hd : decide (rN iZ ((N32 a0) * (N32 a0)) % PP = (N32 a0) % PP)
    · have HDV := Aside0.mk hd
      have HDN : Aside0 (rN iZ ((N32 a0) * (N32 a0)) % PP = (0 - (N32 a0)) % PP) := ⟨(sq_same (rN_sq (rOk_sq iZ iZ_sq (N32 a0)))).resolve_left (of_decide_eq_false hd)⟩
      clear hd
      go_wp2_with fail
      have hh : Row x3.drew bx .u64 5 (carr (ofL a0)) 27 ∧ Row x3.drew bq .u64 5 (rtE (mulE (carr (ofL a0)) (carr (ofL a0))) ((N32 a0) * (N32 a0))) 27 := ⟨HX2.out, HRr.out⟩
      have HBe := Aside0.mk HC2.out.drew
      clear HX2 HRr HC2
      refine start_ (n := 13) (S := (fun w' => Row w' bx .u64 5 (carr (ofL a0)) 27 ∧ Row w' bq .u64 5 (rtE (mulE (carr (ofL a0)) (carr (ofL a0))) ((N32 a0) * (N32 a0))) 27)) (ds := []) #[false, false, false, false, false, false, false, false, false, false, false, false, false] (by kernel_rfl) rfl rfl hh (fun hHeld => ?_); refine with_tabW tab1009 bits1009 (fun HT_ HW_ => ?_)
      generalize x3.drew = x4 at HBe hHeld hh ⊢
      clear hh
      refine pure_ (i := 0) (N := some 56) (v := ?_) (a' := ?_) #[true, false, false, false, false, false, false, false, false, false, false, false, false] rfl rfl (any_of HT_.out (by kernel_rfl)) (fun _ _ _ h => h) (Or.inl ⟨by rfl, ?_⟩) ?_ ?_
      rotate_left
      · intro w'
        go_simp
        with_reducible rfl
      rotate_left
      · simp only [Act.put, List.setIfInBounds_toArray, List.set_cons_zero, List.set_cons_succ, i64_w, i32_w]
        rfl
      refine pure_ (i := 1) (N := some 57) (v := ?_) (a' := ?_) #[true, true, false, false, false, false, false, false, false, false, false, false, false] rfl rfl (any_of HT_.out (by kernel_rfl)) (fun _ _ _ h => h) (Or.inl ⟨by rfl, ?_⟩) ?_ ?_
      rotate_left
      · intro w'
        go_simp
        with_reducible rfl
      rotate_left
      · simp only [Act.put, List.setIfInBounds_toArray, List.set_cons_zero, List.set_cons_succ, i64_w, i32_w]
        rfl
      refine take_ (i := 2) (N := some 58) (v := ?_) (a' := ?_) #[true, true, true, false, false, false, false, false, false, false, false, false, false] rfl rfl (take_ofW HT_.out HW_.out (by kernel_rfl)) (fun _ _ _ h => h) (Or.inl ⟨by rfl, ?_⟩) hHeld ?_ ?_
      rotate_left
      · intro w' hsw
        refine exec_load (x := .tmp 8) hsw.2 Try.underlying27 info27 rfl ?_ ?_ <;> rfl
      rotate_left
      · simp only [Act.put, List.setIfInBounds_toArray, List.set_cons_zero, List.set_cons_succ, i64_w, i32_w]
        rfl
      refine take_ (i := 3) (N := some 59) (v := ?_) (a' := ?_) #[true, true, true, true, false, false, false, false, false, false, false, false, false] rfl rfl (take_ofW HT_.out HW_.out (by kernel_rfl)) (fun _ _ _ h => h) (Or.inl ⟨by rfl, ?_⟩) hHeld ?_ ?_
      rotate_left
      · intro w' hsw
        refine exec_load (x := .tmp 3) hsw.1 Try.underlying27 info27 rfl ?_ ?_ <;> rfl
      rotate_left
      · simp only [Act.put, List.setIfInBounds_toArray, List.set_cons_zero, List.set_cons_succ, i64_w, i32_w]
        rfl
      refine one_ (i := 4) (N := some 60) #[true, true, true, true, true, false, false, false, false, false, false, false, false] rfl rfl (one_of HT_.out (by kernel_rfl)) (by decide) (fun K hK => ?_)
      refine goes_ Try.func17 rfl rfl #[.agg (FR .u64 5 (rtE (mulE (carr (ofL a0)) (carr (ofL a0))) ((N32 a0) * (N32 a0)))), .agg (FR .u64 5 (carr (ofL a0)))] rfl rfl rfl (by simp only [List.map_toArray, List.map_cons, List.map_nil]; rfl) ((is_bool2 (rtE_Fe ((Fe.of _ HA0.out).mul (Fe.of _ HA0.out))) (Fe.of _ HA0.out) false HDV.out _).mono ?_)
      rintro e wc342 ⟨rfl, hb⟩
      have hSn : Row wc342 bx .u64 5 (carr (ofL a0)) 27 ∧ Row wc342 bq .u64 5 (rtE (mulE (carr (ofL a0)) (carr (ofL a0))) ((N32 a0) * (N32 a0))) 27 := ⟨hHeld.1.below hb hHeld.1.lt, hHeld.2.below hb hHeld.2.lt⟩
      have HBc342 := Aside0.mk (HBe.out.trans (hb.mono HBe.out.size))
      clear hb
      refine ⟨_, rfl, hK.out _ _ hSn (fun hHeld => ?_)⟩
      clear hSn
      clear hK K
      refine norm_ (a' := ?_) ?_ ?_
      rotate_left
      · show Act.put _ (some 60) _ = _
        simp only [Act.put, List.setIfInBounds_toArray, List.set_cons_zero, List.set_cons_succ, i64_w, i32_w]
        rfl
      refine pure_ (i := 5) (N := some 61) (v := ?_) (a' := ?_) #[true, true, true, true, true, true, false, false, false, false, false, false, false] rfl rfl (any_of HT_.out (by kernel_rfl)) (fun _ _ _ h => h) (Or.inl ⟨by rfl, ?_⟩) ?_ ?_
      rotate_left
      · intro w'
        go_simp
        with_reducible rfl
      rotate_left
      · simp only [Act.put, List.setIfInBounds_toArray, List.set_cons_zero, List.set_cons_succ, i64_w, i32_w]
        rfl
      refine take_ (i := 6) (N := some 62) (v := ?_) (a' := ?_) #[true, true, true, true, true, true, true, false, false, false, false, false, false] rfl rfl (take_ofW HT_.out HW_.out (by kernel_rfl)) (fun _ _ _ h => h) (Or.inl ⟨by rfl, ?_⟩) hHeld ?_ ?_
      rotate_left
      · intro w' hsw
        refine exec_load (x := .tmp 8) hsw.2 Try.underlying27 info27 rfl ?_ ?_ <;> rfl
      rotate_left
      · simp only [Act.put, List.setIfInBounds_toArray, List.set_cons_zero, List.set_cons_succ, i64_w, i32_w]
        rfl
      refine take_ (i := 7) (N := some 63) (v := ?_) (a' := ?_) #[true, true, true, true, true, true, true, true, false, false, false, false, false] rfl rfl (take_ofW HT_.out HW_.out (by kernel_rfl)) (fun _ _ _ h => h) (Or.inl ⟨by rfl, ?_⟩) hHeld ?_ ?_
      rotate_left
      · intro w' hsw
        refine exec_load (x := .tmp 3) hsw.1 Try.underlying27 info27 rfl ?_ ?_ <;> rfl
      rotate_left
      · simp only [Act.put, List.setIfInBounds_toArray, List.set_cons_zero, List.set_cons_succ, i64_w, i32_w]
        rfl
      refine one_ (i := 8) (N := some 64) #[true, true, true, true, true, true, true, true, true, false, false, false, false] rfl rfl (one_of HT_.out (by kernel_rfl)) (by decide) (fun K hK => ?_)
      refine goes_ Try.func24 rfl rfl #[.agg (FR .u64 5 (carr (ofL a0)))] rfl rfl rfl (by simp only [List.map_toArray, List.map_cons, List.map_nil]; rfl) ((negE_c _ _ (Fe.of _ HA0.out).1).mono ?_)
      rintro e wc343 ⟨rfl, hb⟩
      have hSn : Row wc343 bx .u64 5 (carr (ofL a0)) 27 ∧ Row wc343 bq .u64 5 (rtE (mulE (carr (ofL a0)) (carr (ofL a0))) ((N32 a0) * (N32 a0))) 27 := ⟨hHeld.1.below hb hHeld.1.lt, hHeld.2.below hb hHeld.2.lt⟩
      have HBc343 := Aside0.mk (HBc342.out.trans (hb.mono HBc342.out.size))
      clear hb
      refine ⟨_, rfl, hK.out _ _ hSn (fun hHeld => ?_)⟩
      clear hSn
      clear hK K
      refine norm_ (a' := ?_) ?_ ?_
      rotate_left
      · show Act.put _ (some 64) _ = _
        simp only [Act.put, List.setIfInBounds_toArray, List.set_cons_zero, List.set_cons_succ, i64_w, i32_w]
        rfl
      refine one_ (i := 9) (N := some 65) #[true, true, true, true, true, true, true, true, true, true, false, false, false] rfl rfl (one_of HT_.out (by kernel_rfl)) (by decide) (fun K hK => ?_)
      refine goes_ Try.func17 rfl rfl #[.agg (FR .u64 5 (rtE (mulE (carr (ofL a0)) (carr (ofL a0))) ((N32 a0) * (N32 a0)))), .agg (FR .u64 5 (negE (carr (ofL a0))))] rfl rfl rfl (by simp only [List.map_toArray, List.map_cons, List.map_nil]; rfl) ((is_same (rtE_Fe ((Fe.of _ HA0.out).mul (Fe.of _ HA0.out))) (Fe.neg (Fe.of _ HA0.out)) HDN.out _).mono ?_)
      rintro e wc344 ⟨rfl, hb⟩
      have hSn : Row wc344 bx .u64 5 (carr (ofL a0)) 27 ∧ Row wc344 bq .u64 5 (rtE (mulE (carr (ofL a0)) (carr (ofL a0))) ((N32 a0) * (N32 a0))) 27 := ⟨hHeld.1.below hb hHeld.1.lt, hHeld.2.below hb hHeld.2.lt⟩
      have HBc344 := Aside0.mk (HBc343.out.trans (hb.mono HBc343.out.size))
      clear hb
      refine ⟨_, rfl, hK.out _ _ hSn (fun hHeld => ?_)⟩
      clear hSn
      clear hK K
      refine norm_ (a' := ?_) ?_ ?_
      rotate_left
      · show Act.put _ (some 65) _ = _
        simp only [Act.put, List.setIfInBounds_toArray, List.set_cons_zero, List.set_cons_succ, i64_w, i32_w]
        rfl
      refine pure_ (i := 10) (N := some 66) (v := ?_) (a' := ?_) #[true, true, true, true, true, true, true, true, true, true, true, false, false] rfl rfl (any_of HT_.out (by kernel_rfl)) (fun _ _ _ h => h) (Or.inl ⟨by rfl, ?_⟩) ?_ ?_
      rotate_left
      · intro w'
        go_simp
        with_reducible rfl
      rotate_left
      · simp only [Act.put, List.setIfInBounds_toArray, List.set_cons_zero, List.set_cons_succ, i64_w, i32_w]
        rfl
      refine pure_ (i := 11) (N := some 67) (v := ?_) (a' := ?_) #[true, true, true, true, true, true, true, true, true, true, true, true, false] rfl rfl (any_of HT_.out (by kernel_rfl)) (fun _ _ _ h => h) (Or.inl ⟨by rfl, ?_⟩) ?_ ?_
      rotate_left
      · intro w'
        go_simp
        with_reducible rfl
      rotate_left
      · simp only [Act.put, List.setIfInBounds_toArray, List.set_cons_zero, List.set_cons_succ, i64_w, i32_w]
        rfl
      refine pure_ (i := 12) (N := some 2) (v := ?_) (a' := ?_) #[true, true, true, true, true, true, true, true, true, true, true, true, true] rfl rfl (any_of HT_.out (by kernel_rfl)) (fun _ _ _ h => h) (Or.inl ⟨by rfl, ?_⟩) ?_ ?_
      rotate_left
      · intro w'
        go_simp
        with_reducible rfl
      rotate_left
      · simp only [Act.put, List.setIfInBounds_toArray, List.set_cons_zero, List.set_cons_succ, i64_w, i32_w]
        rfl
      refine done_ (done_of HT_.out (by kernel_rfl)) ?_
      try go_wp2
      go_ret
      exact ⟨rfl, HBc344.out⟩
    · have HDV := Aside0.mk hd
      clear hd
      go_wp2_with fail
      have hh : Row x3.drew bx .u64 5 (carr (ofL a0)) 27 ∧ Row x3.drew bq .u64 5 (rtE (mulE (carr (ofL a0)) (carr (ofL a0))) ((N32 a0) * (N32 a0))) 27 := ⟨HX2.out, HRr.out⟩
      have HBe := Aside0.mk HC2.out.drew
      clear HX2 HRr HC2
      refine start_ (n := 13) (S := (fun w' => Row w' bx .u64 5 (carr (ofL a0)) 27 ∧ Row w' bq .u64 5 (rtE (mulE (carr (ofL a0)) (carr (ofL a0))) ((N32 a0) * (N32 a0))) 27)) (ds := []) #[false, false, false, false, false, false, false, false, false, false, false, false, false] (by kernel_rfl) rfl rfl hh (fun hHeld => ?_); refine with_tabW tab1009 bits1009 (fun HT_ HW_ => ?_)
      generalize x3.drew = x4 at HBe hHeld hh ⊢
      clear hh
      refine pure_ (i := 0) (N := some 56) (v := ?_) (a' := ?_) #[true, false, false, false, false, false, false, false, false, false, false, false, false] rfl rfl (any_of HT_.out (by kernel_rfl)) (fun _ _ _ h => h) (Or.inl ⟨by rfl, ?_⟩) ?_ ?_
      rotate_left
      · intro w'
        go_simp
        with_reducible rfl
      rotate_left
      · simp only [Act.put, List.setIfInBounds_toArray, List.set_cons_zero, List.set_cons_succ, i64_w, i32_w]
        rfl
      refine pure_ (i := 1) (N := some 57) (v := ?_) (a' := ?_) #[true, true, false, false, false, false, false, false, false, false, false, false, false] rfl rfl (any_of HT_.out (by kernel_rfl)) (fun _ _ _ h => h) (Or.inl ⟨by rfl, ?_⟩) ?_ ?_
      rotate_left
      · intro w'
        go_simp
        with_reducible rfl
      rotate_left
      · simp only [Act.put, List.setIfInBounds_toArray, List.set_cons_zero, List.set_cons_succ, i64_w, i32_w]
        rfl
      refine take_ (i := 2) (N := some 58) (v := ?_) (a' := ?_) #[true, true, true, false, false, false, false, false, false, false, false, false, false] rfl rfl (take_ofW HT_.out HW_.out (by kernel_rfl)) (fun _ _ _ h => h) (Or.inl ⟨by rfl, ?_⟩) hHeld ?_ ?_
      rotate_left
      · intro w' hsw
        refine exec_load (x := .tmp 8) hsw.2 Try.underlying27 info27 rfl ?_ ?_ <;> rfl
      rotate_left
      · simp only [Act.put, List.setIfInBounds_toArray, List.set_cons_zero, List.set_cons_succ, i64_w, i32_w]
        rfl
      refine take_ (i := 3) (N := some 59) (v := ?_) (a' := ?_) #[true, true, true, true, false, false, false, false, false, false, false, false, false] rfl rfl (take_ofW HT_.out HW_.out (by kernel_rfl)) (fun _ _ _ h => h) (Or.inl ⟨by rfl, ?_⟩) hHeld ?_ ?_
      rotate_left
      · intro w' hsw
        refine exec_load (x := .tmp 3) hsw.1 Try.underlying27 info27 rfl ?_ ?_ <;> rfl
      rotate_left
      · simp only [Act.put, List.setIfInBounds_toArray, List.set_cons_zero, List.set_cons_succ, i64_w, i32_w]
        rfl
      refine one_ (i := 4) (N := some 60) #[true, true, true, true, true, false, false, false, false, false, false, false, false] rfl rfl (one_of HT_.out (by kernel_rfl)) (by decide) (fun K hK => ?_)
      refine goes_ Try.func17 rfl rfl #[.agg (FR .u64 5 (rtE (mulE (carr (ofL a0)) (carr (ofL a0))) ((N32 a0) * (N32 a0)))), .agg (FR .u64 5 (carr (ofL a0)))] rfl rfl rfl (by simp only [List.map_toArray, List.map_cons, List.map_nil]; rfl) ((is_bool2 (rtE_Fe ((Fe.of _ HA0.out).mul (Fe.of _ HA0.out))) (Fe.of _ HA0.out) true HDV.out _).mono ?_)
      rintro e wc372 ⟨rfl, hb⟩
      have hSn : Row wc372 bx .u64 5 (carr (ofL a0)) 27 ∧ Row wc372 bq .u64 5 (rtE (mulE (carr (ofL a0)) (carr (ofL a0))) ((N32 a0) * (N32 a0))) 27 := ⟨hHeld.1.below hb hHeld.1.lt, hHeld.2.below hb hHeld.2.lt⟩
      have HBc372 := Aside0.mk (HBe.out.trans (hb.mono HBe.out.size))
      clear hb
      refine ⟨_, rfl, hK.out _ _ hSn (fun hHeld => ?_)⟩
      clear hSn
      clear hK K
      refine norm_ (a' := ?_) ?_ ?_
      rotate_left
      · show Act.put _ (some 60) _ = _
        simp only [Act.put, List.setIfInBounds_toArray, List.set_cons_zero, List.set_cons_succ, i64_w, i32_w]
        rfl
      refine pure_ (i := 5) (N := some 61) (v := ?_) (a' := ?_) #[true, true, true, true, true, true, false, false, false, false, false, false, false] rfl rfl (any_of HT_.out (by kernel_rfl)) (fun _ _ _ h => h) (Or.inl ⟨by rfl, ?_⟩) ?_ ?_
      rotate_left
      · intro w'
        go_simp
        with_reducible rfl
      rotate_left
      · simp only [Act.put, List.setIfInBounds_toArray, List.set_cons_zero, List.set_cons_succ, i64_w, i32_w]
        rfl
      refine pure_ (i := 6) (N := some 62) (v := undef) (a' := ?_) #[true, true, true, true, true, true, true, false, false, false, false, false, false] rfl rfl (any_of HT_.out (by kernel_rfl)) (fun _ _ _ h => h) (Or.inr ⟨by rfl, rfl⟩) ?_ ?_
      rotate_left
      · simp only [Act.put, List.setIfInBounds_toArray, List.set_cons_zero, List.set_cons_succ, i64_w, i32_w]
        rfl
      refine pure_ (i := 7) (N := some 63) (v := undef) (a' := ?_) #[true, true, true, true, true, true, true, true, false, false, false, false, false] rfl rfl (any_of HT_.out (by kernel_rfl)) (fun _ _ _ h => h) (Or.inr ⟨by rfl, rfl⟩) ?_ ?_
      rotate_left
      · simp only [Act.put, List.setIfInBounds_toArray, List.set_cons_zero, List.set_cons_succ, i64_w, i32_w]
        rfl
      refine pure_ (i := 8) (N := some 64) (v := undef) (a' := ?_) #[true, true, true, true, true, true, true, true, true, false, false, false, false] rfl rfl (any_of HT_.out (by kernel_rfl)) (fun _ _ _ h => h) (Or.inr ⟨by rfl, rfl⟩) ?_ ?_
      rotate_left
      · simp only [Act.put, List.setIfInBounds_toArray, List.set_cons_zero, List.set_cons_succ, i64_w, i32_w]
        rfl
      refine pure_ (i := 9) (N := some 65) (v := undef) (a' := ?_) #[true, true, true, true, true, true, true, true, true, true, false, false, false] rfl rfl (any_of HT_.out (by kernel_rfl)) (fun _ _ _ h => h) (Or.inr ⟨by rfl, rfl⟩) ?_ ?_
      rotate_left
      · simp only [Act.put, List.setIfInBounds_toArray, List.set_cons_zero, List.set_cons_succ, i64_w, i32_w]
        rfl
      refine pure_ (i := 10) (N := some 66) (v := ?_) (a' := ?_) #[true, true, true, true, true, true, true, true, true, true, true, false, false] rfl rfl (any_of HT_.out (by kernel_rfl)) (fun _ _ _ h => h) (Or.inl ⟨by rfl, ?_⟩) ?_ ?_
      rotate_left
      · intro w'
        go_simp
        with_reducible rfl
      rotate_left
      · simp only [Act.put, List.setIfInBounds_toArray, List.set_cons_zero, List.set_cons_succ, i64_w, i32_w]
        rfl
      refine pure_ (i := 11) (N := some 67) (v := ?_) (a' := ?_) #[true, true, true, true, true, true, true, true, true, true, true, true, false] rfl rfl (any_of HT_.out (by kernel_rfl)) (fun _ _ _ h => h) (Or.inl ⟨by rfl, ?_⟩) ?_ ?_
      rotate_left
      · intro w'
        go_simp
        with_reducible rfl
      rotate_left
      · simp only [Act.put, List.setIfInBounds_toArray, List.set_cons_zero, List.set_cons_succ, i64_w, i32_w]
        rfl
      refine pure_ (i := 12) (N := some 2) (v := ?_) (a' := ?_) #[true, true, true, true, true, true, true, true, true, true, true, true, true] rfl rfl (any_of HT_.out (by kernel_rfl)) (fun _ _ _ h => h) (Or.inl ⟨by rfl, ?_⟩) ?_ ?_
      rotate_left
      · intro w'
        go_simp
        with_reducible rfl
      rotate_left
      · simp only [Act.put, List.setIfInBounds_toArray, List.set_cons_zero, List.set_cons_succ, i64_w, i32_w]
        rfl
      refine done_ (done_of HT_.out (by kernel_rfl)) ?_
      try go_wp2
      go_ret
      exact ⟨rfl, HBc372.out⟩
  · have HOK := Aside0.mk hok
    clear hok
    refine (rootE_ok (Fe.of _ HA0.out) true HOK.out _).mono ?_
    rintro e w4 ⟨rfl, hb⟩
    have H4 := Aside0.mk (H2.out.below hb H2.out.lt)
    have HX4 := Aside0.mk (HX.out.below hb HX.out.lt)
    have HB4 := Aside0.mk (HB2.out.trans (hb.mono HB2.out.size))
    clear hb H2 HX HB2
    have HNW := Aside0.mk (Row.new w4 .u64 5 (fun _ => 0) 27)
    have H4a := Aside0.mk (H4.out.alloc (.cells (FR .u64 5 fun _ => 0) 27))
    have H4l := H4.out.lt
    have HX4a := Aside0.mk (HX4.out.alloc (.cells (FR .u64 5 fun _ => 0) 27))
    have HX4l := HX4.out.lt
    have HBa := Aside0.mk (HB4.out.alloc HB4.out.size (.cells (FR .u64 5 fun _ => 0) 27))
    have hlo := HB4.out.size
    go_wp2_with (first | (refine step_storeG (rtE (carr (ofL a0)) (N32 a0)) HNW.out info27 rfl rfl rfl rfl rfl ?_; intro w5 hs hr; have HRr := Aside0.mk hr; have H4b : Aside0 (Row w5 w.heap.size .u8 32 a0 22) := ⟨H4a.out.stored hs (show w.heap.size ≠ w4.heap.size by omega)⟩; have HX4b : Aside0 (Row w5 bx .u64 5 (carr (ofL a0)) 27) := ⟨HX4a.out.stored hs (show bx ≠ w4.heap.size by omega)⟩; have HBn := Aside0.mk (hs.bel _ _ (show w.heap.size ≤ w4.heap.size by omega) HBa.out); clear hs hr) | refine step_load H4b.out Try.underlying22 info22 rfl rfl rfl rfl ?_)
    clear HNW HBa HB4 H4 H4a H4l HX4 HX4a HX4l
    have H4 := H4b
    clear H4b
    have HX4 := HX4b
    clear HX4b
    have HB4 := HBn
    clear HBn
    generalize w4.heap.size = br at *
    have HR5 := HRr
    clear HRr
    refine (num_calls' _ _ HA0.out).mono ?_
    rintro e w6 ⟨rfl, hb⟩
    have H6 := Aside0.mk (H4.out.below hb H4.out.lt)
    have HX6 := Aside0.mk (HX4.out.below hb HX4.out.lt)
    have HR6 := Aside0.mk (HR5.out.below hb HR5.out.lt)
    have HB6 := Aside0.mk (HB4.out.trans (hb.mono HB4.out.size))
    clear hb H4 HX4 HR5 HB4
    go_wp2_with fail
    refine (rootR_ok (Re.num _ HA0.out) true HOK.out _).mono ?_
    rintro e w7 ⟨rfl, hb⟩
    have H7 := Aside0.mk (H6.out.below hb H6.out.lt)
    have HX7 := Aside0.mk (HX6.out.below hb HX6.out.lt)
    have HR7 := Aside0.mk (HR6.out.below hb HR6.out.lt)
    have HB7 := Aside0.mk (HB6.out.trans (hb.mono HB6.out.size))
    clear hb H6 HX6 HR6 HB6
    have HNW := Aside0.mk (Row.new w7 .i64 16 (fun _ => 0) 33)
    have H7a := Aside0.mk (H7.out.alloc (.cells (FR .i64 16 fun _ => 0) 33))
    have H7l := H7.out.lt
    have HX7a := Aside0.mk (HX7.out.alloc (.cells (FR .i64 16 fun _ => 0) 33))
    have HX7l := HX7.out.lt
    have HR7a := Aside0.mk (HR7.out.alloc (.cells (FR .i64 16 fun _ => 0) 33))
    have HR7l := HR7.out.lt
    have HBa := Aside0.mk (HB7.out.alloc HB7.out.size (.cells (FR .i64 16 fun _ => 0) 33))
    have hlo := HB7.out.size
    go_wp2_with (first | (refine step_storeG (rtR (numD a0) (N32 a0)) HNW.out info33 rfl rfl rfl rfl rfl ?_; intro w8 hs hr; have HRr := Aside0.mk hr; have H7b : Aside0 (Row w8 w.heap.size .u8 32 a0 22) := ⟨H7a.out.stored hs (show w.heap.size ≠ w7.heap.size by omega)⟩; have HX7b : Aside0 (Row w8 bx .u64 5 (carr (ofL a0)) 27) := ⟨HX7a.out.stored hs (show bx ≠ w7.heap.size by omega)⟩; have HR7b : Aside0 (Row w8 br .u64 5 (rtE (carr (ofL a0)) (N32 a0)) 27) := ⟨HR7a.out.stored hs (show br ≠ w7.heap.size by omega)⟩; have HBn := Aside0.mk (hs.bel _ _ (show w.heap.size ≤ w7.heap.size by omega) HBa.out); clear hs hr))
    clear HNW HBa HB7 H7 H7a H7l HX7 HX7a HX7l HR7 HR7a HR7l
    have H7 := H7b
    clear H7b
    have HX7 := HX7b
    clear HX7b
    have HR7 := HR7b
    clear HR7b
    have HB7 := HBn
    clear HBn
    generalize w7.heap.size = bs at *
    have hh : Row w8.drew bx .u64 5 (carr (ofL a0)) 27 ∧ Row w8.drew br .u64 5 (rtE (carr (ofL a0)) (N32 a0)) 27 ∧ Row w8.drew bs .i64 16 (rtR (numD a0) (N32 a0)) 33 := ⟨HX7.out, HR7.out, HRr.out⟩
    have HBd := Aside0.mk HB7.out.drew
    clear H7 HX7 HR7 HRr HB7
    refine start_ (n := 24) (S := (fun w' => Row w' bx .u64 5 (carr (ofL a0)) 27 ∧ Row w' br .u64 5 (rtE (carr (ofL a0)) (N32 a0)) 27 ∧ Row w' bs .i64 16 (rtR (numD a0) (N32 a0)) 33)) (ds := []) #[false, false, false, false, false, false, false, false, false, false, false, false, false, false, false, false, false, false, false, false, false, false, false, false] (by kernel_rfl) rfl rfl hh (fun hHeld => ?_); refine with_tabW tab1006 bits1006 (fun HT_ HW_ => ?_)
    generalize w8.drew = w9 at HBd hHeld hh ⊢
    clear hh
    refine pure_ (i := 0) (N := some 25) (v := ?_) (a' := ?_) #[true, false, false, false, false, false, false, false, false, false, false, false, false, false, false, false, false, false, false, false, false, false, false, false] rfl rfl (any_of HT_.out (by kernel_rfl)) (fun _ _ _ h => h) (Or.inl ⟨by rfl, ?_⟩) ?_ ?_
    rotate_left
    · intro w'
      go_simp
      with_reducible rfl
    rotate_left
    · simp only [Act.put, List.setIfInBounds_toArray, List.set_cons_zero, List.set_cons_succ, i64_w, i32_w]
      rfl
    refine pure_ (i := 1) (N := some 26) (v := ?_) (a' := ?_) #[true, true, false, false, false, false, false, false, false, false, false, false, false, false, false, false, false, false, false, false, false, false, false, false] rfl rfl (any_of HT_.out (by kernel_rfl)) (fun _ _ _ h => h) (Or.inl ⟨by rfl, ?_⟩) ?_ ?_
    rotate_left
    · intro w'
      go_simp
      with_reducible rfl
    rotate_left
    · simp only [Act.put, List.setIfInBounds_toArray, List.set_cons_zero, List.set_cons_succ, i64_w, i32_w]
      rfl
    refine pure_ (i := 2) (N := some 27) (v := ?_) (a' := ?_) #[true, true, true, false, false, false, false, false, false, false, false, false, false, false, false, false, false, false, false, false, false, false, false, false] rfl rfl (any_of HT_.out (by kernel_rfl)) (fun _ _ _ h => h) (Or.inl ⟨by rfl, ?_⟩) ?_ ?_
    rotate_left
    · intro w'
      go_simp
      with_reducible rfl
    rotate_left
    · simp only [Act.put, List.setIfInBounds_toArray, List.set_cons_zero, List.set_cons_succ, i64_w, i32_w]
      rfl
    refine pure_ (i := 3) (N := some 28) (v := ?_) (a' := ?_) #[true, true, true, true, false, false, false, false, false, false, false, false, false, false, false, false, false, false, false, false, false, false, false, false] rfl rfl (any_of HT_.out (by kernel_rfl)) (fun _ _ _ h => h) (Or.inl ⟨by rfl, ?_⟩) ?_ ?_
    rotate_left
    · intro w'
      go_simp
      with_reducible rfl
    rotate_left
    · simp only [Act.put, List.setIfInBounds_toArray, List.set_cons_zero, List.set_cons_succ, i64_w, i32_w]
      rfl
    refine take_ (i := 4) (N := some 29) (v := ?_) (a' := ?_) #[true, true, true, true, true, false, false, false, false, false, false, false, false, false, false, false, false, false, false, false, false, false, false, false] rfl rfl (take_ofW HT_.out HW_.out (by kernel_rfl)) (fun _ _ _ h => h) (Or.inl ⟨by rfl, ?_⟩) hHeld ?_ ?_
    rotate_left
    · intro w' hsw
      refine exec_load (x := .tmp 4) hsw.2.1 Try.underlying27 info27 rfl ?_ ?_ <;> rfl
    rotate_left
    · simp only [Act.put, List.setIfInBounds_toArray, List.set_cons_zero, List.set_cons_succ, i64_w, i32_w]
      rfl
    refine take_ (i := 5) (N := some 30) (v := ?_) (a' := ?_) #[true, true, true, true, true, true, false, false, false, false, false, false, false, false, false, false, false, false, false, false, false, false, false, false] rfl rfl (take_ofW HT_.out HW_.out (by kernel_rfl)) (fun _ _ _ h => h) (Or.inl ⟨by rfl, ?_⟩) hHeld ?_ ?_
    rotate_left
    · intro w' hsw
      refine exec_load (x := .tmp 6) hsw.2.2 Try.underlying33 info33 rfl ?_ ?_ <;> rfl
    rotate_left
    · simp only [Act.put, List.setIfInBounds_toArray, List.set_cons_zero, List.set_cons_succ, i64_w, i32_w]
      rfl
    refine one_ (i := 6) (N := some 31) #[true, true, true, true, true, true, true, false, false, false, false, false, false, false, false, false, false, false, false, false, false, false, false, false] rfl rfl (one_of HT_.out (by kernel_rfl)) (by decide) (fun K hK => ?_)
    refine goes_ Try.func14 rfl rfl #[.agg (FR .u64 5 (rtE (carr (ofL a0)) (N32 a0))), .agg (FR .i64 16 (rtR (numD a0) (N32 a0)))] rfl rfl rfl (by simp only [List.map_toArray, List.map_cons, List.map_nil]; rfl) ((is_true_of2 (rtE_Fe (Fe.of _ HA0.out)) (rtR_Re (Re.num _ HA0.out)) (by first | rfl | (congr 1; grind)) _).mono ?_)
    rintro e wc101 ⟨rfl, hb⟩
    have hSn : Row wc101 bx .u64 5 (carr (ofL a0)) 27 ∧ Row wc101 br .u64 5 (rtE (carr (ofL a0)) (N32 a0)) 27 ∧ Row wc101 bs .i64 16 (rtR (numD a0) (N32 a0)) 33 := ⟨hHeld.1.below hb hHeld.1.lt, hHeld.2.1.below hb hHeld.2.1.lt, hHeld.2.2.below hb hHeld.2.2.lt⟩
    have HBc101 := Aside0.mk (HBd.out.trans (hb.mono HBd.out.size))
    clear hb
    refine ⟨_, rfl, hK.out _ _ hSn (fun hHeld => ?_)⟩
    clear hSn
    clear hK K
    refine norm_ (a' := ?_) ?_ ?_
    rotate_left
    · show Act.put _ (some 31) _ = _
      simp only [Act.put, List.setIfInBounds_toArray, List.set_cons_zero, List.set_cons_succ, i64_w, i32_w]
      rfl
    refine pure_ (i := 7) (N := some 32) (v := ?_) (a' := ?_) #[true, true, true, true, true, true, true, true, false, false, false, false, false, false, false, false, false, false, false, false, false, false, false, false] rfl rfl (any_of HT_.out (by kernel_rfl)) (fun _ _ _ h => h) (Or.inl ⟨by rfl, ?_⟩) ?_ ?_
    rotate_left
    · intro w'
      go_simp
      with_reducible rfl
    rotate_left
    · simp only [Act.put, List.setIfInBounds_toArray, List.set_cons_zero, List.set_cons_succ, i64_w, i32_w]
      rfl
    refine pure_ (i := 8) (N := some 33) (v := ?_) (a' := ?_) #[true, true, true, true, true, true, true, true, true, false, false, false, false, false, false, false, false, false, false, false, false, false, false, false] rfl rfl (any_of HT_.out (by kernel_rfl)) (fun _ _ _ h => h) (Or.inl ⟨by rfl, ?_⟩) ?_ ?_
    rotate_left
    · intro w'
      go_simp
      with_reducible rfl
    rotate_left
    · simp only [Act.put, List.setIfInBounds_toArray, List.set_cons_zero, List.set_cons_succ, i64_w, i32_w]
      rfl
    refine pure_ (i := 9) (N := some 34) (v := ?_) (a' := ?_) #[true, true, true, true, true, true, true, true, true, true, false, false, false, false, false, false, false, false, false, false, false, false, false, false] rfl rfl (any_of HT_.out (by kernel_rfl)) (fun _ _ _ h => h) (Or.inl ⟨by rfl, ?_⟩) ?_ ?_
    rotate_left
    · intro w'
      go_simp
      with_reducible rfl
    rotate_left
    · simp only [Act.put, List.setIfInBounds_toArray, List.set_cons_zero, List.set_cons_succ, i64_w, i32_w]
      rfl
    refine pure_ (i := 10) (N := some 35) (v := ?_) (a' := ?_) #[true, true, true, true, true, true, true, true, true, true, true, false, false, false, false, false, false, false, false, false, false, false, false, false] rfl rfl (any_of HT_.out (by kernel_rfl)) (fun _ _ _ h => h) (Or.inl ⟨by rfl, ?_⟩) ?_ ?_
    rotate_left
    · intro w'
      go_simp
      with_reducible rfl
    rotate_left
    · simp only [Act.put, List.setIfInBounds_toArray, List.set_cons_zero, List.set_cons_succ, i64_w, i32_w]
      rfl
    refine pure_ (i := 11) (N := some 36) (v := ?_) (a' := ?_) #[true, true, true, true, true, true, true, true, true, true, true, true, false, false, false, false, false, false, false, false, false, false, false, false] rfl rfl (any_of HT_.out (by kernel_rfl)) (fun _ _ _ h => h) (Or.inl ⟨by rfl, ?_⟩) ?_ ?_
    rotate_left
    · intro w'
      go_simp
      with_reducible rfl
    rotate_left
    · simp only [Act.put, List.setIfInBounds_toArray, List.set_cons_zero, List.set_cons_succ, i64_w, i32_w]
      rfl
    refine take_ (i := 12) (N := some 37) (v := ?_) (a' := ?_) #[true, true, true, true, true, true, true, true, true, true, true, true, true, false, false, false, false, false, false, false, false, false, false, false] rfl rfl (take_ofW HT_.out HW_.out (by kernel_rfl)) (fun _ _ _ h => h) (Or.inl ⟨by rfl, ?_⟩) hHeld ?_ ?_
    rotate_left
    · intro w' hsw
      refine exec_load (x := .tmp 4) hsw.2.1 Try.underlying27 info27 rfl ?_ ?_ <;> rfl
    rotate_left
    · simp only [Act.put, List.setIfInBounds_toArray, List.set_cons_zero, List.set_cons_succ, i64_w, i32_w]
      rfl
    refine take_ (i := 13) (N := some 38) (v := ?_) (a' := ?_) #[true, true, true, true, true, true, true, true, true, true, true, true, true, true, false, false, false, false, false, false, false, false, false, false] rfl rfl (take_ofW HT_.out HW_.out (by kernel_rfl)) (fun _ _ _ h => h) (Or.inl ⟨by rfl, ?_⟩) hHeld ?_ ?_
    rotate_left
    · intro w' hsw
      refine exec_load (x := .tmp 4) hsw.2.1 Try.underlying27 info27 rfl ?_ ?_ <;> rfl
    rotate_left
    · simp only [Act.put, List.setIfInBounds_toArray, List.set_cons_zero, List.set_cons_succ, i64_w, i32_w]
      rfl
    refine take_ (i := 15) (N := some 40) (v := ?_) (a' := ?_) #[true, true, true, true, true, true, true, true, true, true, true, true, true, true, false, true, false, false, false, false, false, false, false, false] rfl rfl (take_ofW HT_.out HW_.out (by kernel_rfl)) (fun _ _ _ h => h) (Or.inl ⟨by rfl, ?_⟩) hHeld ?_ ?_
    rotate_left
    · intro w' hsw
      refine exec_load (x := .tmp 3) hsw.1 Try.underlying27 info27 rfl ?_ ?_ <;> rfl
    rotate_left
    · simp only [Act.put, List.setIfInBounds_toArray, List.set_cons_zero, List.set_cons_succ, i64_w, i32_w]
      rfl
    refine one_ (i := 14) (N := some 39) #[true, true, true, true, true, true, true, true, true, true, true, true, true, true, true, true, false, false, false, false, false, false, false, false] rfl rfl (one_of HT_.out (by kernel_rfl)) (by decide) (fun K hK => ?_)
    refine goes_ Try.func26 rfl rfl #[.agg (FR .u64 5 (rtE (carr (ofL a0)) (N32 a0))), .agg (FR .u64 5 (rtE (carr (ofL a0)) (N32 a0)))] rfl rfl rfl (by simp only [List.map_toArray, List.map_cons, List.map_nil]; rfl) ((elem_mul_calls _ _ _ (rtE_Fe (Fe.of _ HA0.out)).1 (rtE_Fe (Fe.of _ HA0.out)).1).mono ?_)
    rintro e wc102 ⟨rfl, hb⟩
    have hSn : Row wc102 bx .u64 5 (carr (ofL a0)) 27 ∧ Row wc102 br .u64 5 (rtE (carr (ofL a0)) (N32 a0)) 27 ∧ Row wc102 bs .i64 16 (rtR (numD a0) (N32 a0)) 33 := ⟨hHeld.1.below hb hHeld.1.lt, hHeld.2.1.below hb hHeld.2.1.lt, hHeld.2.2.below hb hHeld.2.2.lt⟩
    have HBc102 := Aside0.mk (HBc101.out.trans (hb.mono HBc101.out.size))
    clear hb
    refine ⟨_, rfl, hK.out _ _ hSn (fun hHeld => ?_)⟩
    clear hSn
    clear hK K
    refine norm_ (a' := ?_) ?_ ?_
    rotate_left
    · show Act.put _ (some 39) _ = _
      simp only [Act.put, List.setIfInBounds_toArray, List.set_cons_zero, List.set_cons_succ, i64_w, i32_w]
      rfl
    refine one_ (i := 16) (N := some 41) #[true, true, true, true, true, true, true, true, true, true, true, true, true, true, true, true, true, false, false, false, false, false, false, false] rfl rfl (one_of HT_.out (by kernel_rfl)) (by decide) (fun K hK => ?_)
    refine goes_ Try.func17 rfl rfl #[.agg (FR .u64 5 (mulE (rtE (carr (ofL a0)) (N32 a0)) (rtE (carr (ofL a0)) (N32 a0)))), .agg (FR .u64 5 (carr (ofL a0)))] rfl rfl rfl (by simp only [List.map_toArray, List.map_cons, List.map_nil]; rfl) ((is_same (Fe.mul (rtE_Fe (Fe.of _ HA0.out)) (rtE_Fe (Fe.of _ HA0.out))) (Fe.of _ HA0.out) (rN_sq HOK.out) _).mono ?_)
    rintro e wc103 ⟨rfl, hb⟩
    have hSn : Row wc103 bx .u64 5 (carr (ofL a0)) 27 ∧ Row wc103 br .u64 5 (rtE (carr (ofL a0)) (N32 a0)) 27 ∧ Row wc103 bs .i64 16 (rtR (numD a0) (N32 a0)) 33 := ⟨hHeld.1.below hb hHeld.1.lt, hHeld.2.1.below hb hHeld.2.1.lt, hHeld.2.2.below hb hHeld.2.2.lt⟩
    have HBc103 := Aside0.mk (HBc102.out.trans (hb.mono HBc102.out.size))
    clear hb
    refine ⟨_, rfl, hK.out _ _ hSn (fun hHeld => ?_)⟩
    clear hSn
    clear hK K
    refine norm_ (a' := ?_) ?_ ?_
    rotate_left
    · show Act.put _ (some 41) _ = _
      simp only [Act.put, List.setIfInBounds_toArray, List.set_cons_zero, List.set_cons_succ, i64_w, i32_w]
      rfl
    refine pure_ (i := 17) (N := some 42) (v := ?_) (a' := ?_) #[true, true, true, true, true, true, true, true, true, true, true, true, true, true, true, true, true, true, false, false, false, false, false, false] rfl rfl (any_of HT_.out (by kernel_rfl)) (fun _ _ _ h => h) (Or.inl ⟨by rfl, ?_⟩) ?_ ?_
    rotate_left
    · intro w'
      go_simp
      with_reducible rfl
    rotate_left
    · simp only [Act.put, List.setIfInBounds_toArray, List.set_cons_zero, List.set_cons_succ, i64_w, i32_w]
      rfl
    refine pure_ (i := 18) (N := some 43) (v := ?_) (a' := ?_) #[true, true, true, true, true, true, true, true, true, true, true, true, true, true, true, true, true, true, true, false, false, false, false, false] rfl rfl (any_of HT_.out (by kernel_rfl)) (fun _ _ _ h => h) (Or.inl ⟨by rfl, ?_⟩) ?_ ?_
    rotate_left
    · intro w'
      go_simp
      with_reducible rfl
    rotate_left
    · simp only [Act.put, List.setIfInBounds_toArray, List.set_cons_zero, List.set_cons_succ, i64_w, i32_w]
      rfl
    refine take_ (i := 19) (N := some 44) (v := ?_) (a' := ?_) #[true, true, true, true, true, true, true, true, true, true, true, true, true, true, true, true, true, true, true, true, false, false, false, false] rfl rfl (take_ofW HT_.out HW_.out (by kernel_rfl)) (fun _ _ _ h => h) (Or.inl ⟨by rfl, ?_⟩) hHeld ?_ ?_
    rotate_left
    · intro w' hsw
      refine exec_load (x := .tmp 4) hsw.2.1 Try.underlying27 info27 rfl ?_ ?_ <;> rfl
    rotate_left
    · simp only [Act.put, List.setIfInBounds_toArray, List.set_cons_zero, List.set_cons_succ, i64_w, i32_w]
      rfl
    refine one_ (i := 20) (N := some 45) #[true, true, true, true, true, true, true, true, true, true, true, true, true, true, true, true, true, true, true, true, true, false, false, false] rfl rfl (one_of HT_.out (by kernel_rfl)) (by decide) (fun K hK => ?_)
    refine goes_ Try.func18 rfl rfl #[.agg (FR .u64 5 (rtE (carr (ofL a0)) (N32 a0)))] rfl rfl rfl (by simp only [List.map_toArray, List.map_cons, List.map_nil]; rfl) ((odd_bool (rtE_Fe (Fe.of _ HA0.out)) false (rN_even _ _) _).mono ?_)
    rintro e wc104 ⟨rfl, hb⟩
    have hSn : Row wc104 bx .u64 5 (carr (ofL a0)) 27 ∧ Row wc104 br .u64 5 (rtE (carr (ofL a0)) (N32 a0)) 27 ∧ Row wc104 bs .i64 16 (rtR (numD a0) (N32 a0)) 33 := ⟨hHeld.1.below hb hHeld.1.lt, hHeld.2.1.below hb hHeld.2.1.lt, hHeld.2.2.below hb hHeld.2.2.lt⟩
    have HBc104 := Aside0.mk (HBc103.out.trans (hb.mono HBc103.out.size))
    clear hb
    refine ⟨_, rfl, hK.out _ _ hSn (fun hHeld => ?_)⟩
    clear hSn
    clear hK K
    refine norm_ (a' := ?_) ?_ ?_
    rotate_left
    · show Act.put _ (some 45) _ = _
      simp only [Act.put, List.setIfInBounds_toArray, List.set_cons_zero, List.set_cons_succ, i64_w, i32_w]
      rfl
    refine pure_ (i := 21) (N := some 46) (v := ?_) (a' := ?_) #[true, true, true, true, true, true, true, true, true, true, true, true, true, true, true, true, true, true, true, true, true, true, false, false] rfl rfl (any_of HT_.out (by kernel_rfl)) (fun _ _ _ h => h) (Or.inl ⟨by rfl, ?_⟩) ?_ ?_
    rotate_left
    · intro w'
      go_simp
      with_reducible rfl
    rotate_left
    · simp only [Act.put, List.setIfInBounds_toArray, List.set_cons_zero, List.set_cons_succ, i64_w, i32_w]
      rfl
    refine pure_ (i := 22) (N := some 47) (v := ?_) (a' := ?_) #[true, true, true, true, true, true, true, true, true, true, true, true, true, true, true, true, true, true, true, true, true, true, true, false] rfl rfl (any_of HT_.out (by kernel_rfl)) (fun _ _ _ h => h) (Or.inl ⟨by rfl, ?_⟩) ?_ ?_
    rotate_left
    · intro w'
      go_simp
      with_reducible rfl
    rotate_left
    · simp only [Act.put, List.setIfInBounds_toArray, List.set_cons_zero, List.set_cons_succ, i64_w, i32_w]
      rfl
    refine pure_ (i := 23) (N := some 48) (v := ?_) (a' := ?_) #[true, true, true, true, true, true, true, true, true, true, true, true, true, true, true, true, true, true, true, true, true, true, true, true] rfl rfl (any_of HT_.out (by kernel_rfl)) (fun _ _ _ h => h) (Or.inl ⟨by rfl, ?_⟩) ?_ ?_
    rotate_left
    · intro w'
      go_simp
      with_reducible rfl
    rotate_left
    · simp only [Act.put, List.setIfInBounds_toArray, List.set_cons_zero, List.set_cons_succ, i64_w, i32_w]
      rfl
    refine done_ (done_of HT_.out (by kernel_rfl)) ?_
    have HX := Aside0.mk hHeld.1
    clear hHeld HT_ HW_
    go_wp2_with (refine step_load HX.out Try.underlying27 info27 rfl rfl rfl rfl ?_)
    refine (elem_mul_calls _ _ _ (Fe.of _ HA0.out).1 (Fe.of _ HA0.out).1).mono ?_
    rintro e x1 ⟨rfl, hb⟩
    have HX1 := Aside0.mk (HX.out.below hb HX.out.lt)
    have HC1 := Aside0.mk (HBc104.out.trans (hb.mono HBc104.out.size))
    clear hb HX HBc104
    go_wp2_with fail
    refine (rootE_ok ((Fe.of _ HA0.out).mul (Fe.of _ HA0.out)) true (rOk_sq iZ iZ_sq _) _).mono ?_
    rintro e x2 ⟨rfl, hb⟩
    have HX2 := Aside0.mk (HX1.out.below hb HX1.out.lt)
    have HC2 := Aside0.mk (HC1.out.trans (hb.mono HC1.out.size))
    clear hb HX1 HC1
    have HNW := Aside0.mk (Row.new x2 .u64 5 (fun _ => 0) 27)
    have HX2a := Aside0.mk (HX2.out.alloc (.cells (FR .u64 5 fun _ => 0) 27))
    have HX2l := HX2.out.lt
    have HBa := Aside0.mk (HC2.out.alloc HC2.out.size (.cells (FR .u64 5 fun _ => 0) 27))
    have hlo := HC2.out.size
    go_wp2_with (first | (refine step_storeG (rtE (mulE (carr (ofL a0)) (carr (ofL a0))) ((N32 a0) * (N32 a0))) HNW.out info27 rfl rfl rfl rfl rfl ?_; intro x3 hs hr; have HRr := Aside0.mk hr; have HX2b : Aside0 (Row x3 bx .u64 5 (carr (ofL a0)) 27) := ⟨HX2a.out.stored hs (show bx ≠ x2.heap.size by omega)⟩; have HBn := Aside0.mk (hs.bel _ _ (show w.heap.size ≤ x2.heap.size by omega) HBa.out); clear hs hr))
    clear HNW HBa HC2 HX2 HX2a HX2l
    have HX2 := HX2b
    clear HX2b
    have HC2 := HBn
    clear HBn
    generalize x2.heap.size = bq at *
    cases hd : decide (rN iZ ((N32 a0) * (N32 a0)) % PP = (N32 a0) % PP)
    · have HDV := Aside0.mk hd
      have HDN : Aside0 (rN iZ ((N32 a0) * (N32 a0)) % PP = (0 - (N32 a0)) % PP) := ⟨(sq_same (rN_sq (rOk_sq iZ iZ_sq (N32 a0)))).resolve_left (of_decide_eq_false hd)⟩
      clear hd
      go_wp2_with fail
      have hh : Row x3.drew bx .u64 5 (carr (ofL a0)) 27 ∧ Row x3.drew bq .u64 5 (rtE (mulE (carr (ofL a0)) (carr (ofL a0))) ((N32 a0) * (N32 a0))) 27 := ⟨HX2.out, HRr.out⟩
      have HBe := Aside0.mk HC2.out.drew
      clear HX2 HRr HC2
      refine start_ (n := 13) (S := (fun w' => Row w' bx .u64 5 (carr (ofL a0)) 27 ∧ Row w' bq .u64 5 (rtE (mulE (carr (ofL a0)) (carr (ofL a0))) ((N32 a0) * (N32 a0))) 27)) (ds := []) #[false, false, false, false, false, false, false, false, false, false, false, false, false] (by kernel_rfl) rfl rfl hh (fun hHeld => ?_); refine with_tabW tab1009 bits1009 (fun HT_ HW_ => ?_)
      generalize x3.drew = x4 at HBe hHeld hh ⊢
      clear hh
      refine pure_ (i := 0) (N := some 56) (v := ?_) (a' := ?_) #[true, false, false, false, false, false, false, false, false, false, false, false, false] rfl rfl (any_of HT_.out (by kernel_rfl)) (fun _ _ _ h => h) (Or.inl ⟨by rfl, ?_⟩) ?_ ?_
      rotate_left
      · intro w'
        go_simp
        with_reducible rfl
      rotate_left
      · simp only [Act.put, List.setIfInBounds_toArray, List.set_cons_zero, List.set_cons_succ, i64_w, i32_w]
        rfl
      refine pure_ (i := 1) (N := some 57) (v := ?_) (a' := ?_) #[true, true, false, false, false, false, false, false, false, false, false, false, false] rfl rfl (any_of HT_.out (by kernel_rfl)) (fun _ _ _ h => h) (Or.inl ⟨by rfl, ?_⟩) ?_ ?_
      rotate_left
      · intro w'
        go_simp
        with_reducible rfl
      rotate_left
      · simp only [Act.put, List.setIfInBounds_toArray, List.set_cons_zero, List.set_cons_succ, i64_w, i32_w]
        rfl
      refine take_ (i := 2) (N := some 58) (v := ?_) (a' := ?_) #[true, true, true, false, false, false, false, false, false, false, false, false, false] rfl rfl (take_ofW HT_.out HW_.out (by kernel_rfl)) (fun _ _ _ h => h) (Or.inl ⟨by rfl, ?_⟩) hHeld ?_ ?_
      rotate_left
      · intro w' hsw
        refine exec_load (x := .tmp 8) hsw.2 Try.underlying27 info27 rfl ?_ ?_ <;> rfl
      rotate_left
      · simp only [Act.put, List.setIfInBounds_toArray, List.set_cons_zero, List.set_cons_succ, i64_w, i32_w]
        rfl
      refine take_ (i := 3) (N := some 59) (v := ?_) (a' := ?_) #[true, true, true, true, false, false, false, false, false, false, false, false, false] rfl rfl (take_ofW HT_.out HW_.out (by kernel_rfl)) (fun _ _ _ h => h) (Or.inl ⟨by rfl, ?_⟩) hHeld ?_ ?_
      rotate_left
      · intro w' hsw
        refine exec_load (x := .tmp 3) hsw.1 Try.underlying27 info27 rfl ?_ ?_ <;> rfl
      rotate_left
      · simp only [Act.put, List.setIfInBounds_toArray, List.set_cons_zero, List.set_cons_succ, i64_w, i32_w]
        rfl
      refine one_ (i := 4) (N := some 60) #[true, true, true, true, true, false, false, false, false, false, false, false, false] rfl rfl (one_of HT_.out (by kernel_rfl)) (by decide) (fun K hK => ?_)
      refine goes_ Try.func17 rfl rfl #[.agg (FR .u64 5 (rtE (mulE (carr (ofL a0)) (carr (ofL a0))) ((N32 a0) * (N32 a0)))), .agg (FR .u64 5 (carr (ofL a0)))] rfl rfl rfl (by simp only [List.map_toArray, List.map_cons, List.map_nil]; rfl) ((is_bool2 (rtE_Fe ((Fe.of _ HA0.out).mul (Fe.of _ HA0.out))) (Fe.of _ HA0.out) false HDV.out _).mono ?_)
      rintro e wc145 ⟨rfl, hb⟩
      have hSn : Row wc145 bx .u64 5 (carr (ofL a0)) 27 ∧ Row wc145 bq .u64 5 (rtE (mulE (carr (ofL a0)) (carr (ofL a0))) ((N32 a0) * (N32 a0))) 27 := ⟨hHeld.1.below hb hHeld.1.lt, hHeld.2.below hb hHeld.2.lt⟩
      have HBc145 := Aside0.mk (HBe.out.trans (hb.mono HBe.out.size))
      clear hb
      refine ⟨_, rfl, hK.out _ _ hSn (fun hHeld => ?_)⟩
      clear hSn
      clear hK K
      refine norm_ (a' := ?_) ?_ ?_
      rotate_left
      · show Act.put _ (some 60) _ = _
        simp only [Act.put, List.setIfInBounds_toArray, List.set_cons_zero, List.set_cons_succ, i64_w, i32_w]
        rfl
      refine pure_ (i := 5) (N := some 61) (v := ?_) (a' := ?_) #[true, true, true, true, true, true, false, false, false, false, false, false, false] rfl rfl (any_of HT_.out (by kernel_rfl)) (fun _ _ _ h => h) (Or.inl ⟨by rfl, ?_⟩) ?_ ?_
      rotate_left
      · intro w'
        go_simp
        with_reducible rfl
      rotate_left
      · simp only [Act.put, List.setIfInBounds_toArray, List.set_cons_zero, List.set_cons_succ, i64_w, i32_w]
        rfl
      refine take_ (i := 6) (N := some 62) (v := ?_) (a' := ?_) #[true, true, true, true, true, true, true, false, false, false, false, false, false] rfl rfl (take_ofW HT_.out HW_.out (by kernel_rfl)) (fun _ _ _ h => h) (Or.inl ⟨by rfl, ?_⟩) hHeld ?_ ?_
      rotate_left
      · intro w' hsw
        refine exec_load (x := .tmp 8) hsw.2 Try.underlying27 info27 rfl ?_ ?_ <;> rfl
      rotate_left
      · simp only [Act.put, List.setIfInBounds_toArray, List.set_cons_zero, List.set_cons_succ, i64_w, i32_w]
        rfl
      refine take_ (i := 7) (N := some 63) (v := ?_) (a' := ?_) #[true, true, true, true, true, true, true, true, false, false, false, false, false] rfl rfl (take_ofW HT_.out HW_.out (by kernel_rfl)) (fun _ _ _ h => h) (Or.inl ⟨by rfl, ?_⟩) hHeld ?_ ?_
      rotate_left
      · intro w' hsw
        refine exec_load (x := .tmp 3) hsw.1 Try.underlying27 info27 rfl ?_ ?_ <;> rfl
      rotate_left
      · simp only [Act.put, List.setIfInBounds_toArray, List.set_cons_zero, List.set_cons_succ, i64_w, i32_w]
        rfl
      refine one_ (i := 8) (N := some 64) #[true, true, true, true, true, true, true, true, true, false, false, false, false] rfl rfl (one_of HT_.out (by kernel_rfl)) (by decide) (fun K hK => ?_)
      refine goes_ Try.func24 rfl rfl #[.agg (FR .u64 5 (carr (ofL a0)))] rfl rfl rfl (by simp only [List.map_toArray, List.map_cons, List.map_nil]; rfl) ((negE_c _ _ (Fe.of _ HA0.out).1).mono ?_)
      rintro e wc146 ⟨rfl, hb⟩
      have hSn : Row wc146 bx .u64 5 (carr (ofL a0)) 27 ∧ Row wc146 bq .u64 5 (rtE (mulE (carr (ofL a0)) (carr (ofL a0))) ((N32 a0) * (N32 a0))) 27 := ⟨hHeld.1.below hb hHeld.1.lt, hHeld.2.below hb hHeld.2.lt⟩
      have HBc146 := Aside0.mk (HBc145.out.trans (hb.mono HBc145.out.size))
      clear hb
      refine ⟨_, rfl, hK.out _ _ hSn (fun hHeld => ?_)⟩
      clear hSn
      clear hK K
      refine norm_ (a' := ?_) ?_ ?_
      rotate_left
      · show Act.put _ (some 64) _ = _
        simp only [Act.put, List.setIfInBounds_toArray, List.set_cons_zero, List.set_cons_succ, i64_w, i32_w]
        rfl
      refine one_ (i := 9) (N := some 65) #[true, true, true, true, true, true, true, true, true, true, false, false, false] rfl rfl (one_of HT_.out (by kernel_rfl)) (by decide) (fun K hK => ?_)
      refine goes_ Try.func17 rfl rfl #[.agg (FR .u64 5 (rtE (mulE (carr (ofL a0)) (carr (ofL a0))) ((N32 a0) * (N32 a0)))), .agg (FR .u64 5 (negE (carr (ofL a0))))] rfl rfl rfl (by simp only [List.map_toArray, List.map_cons, List.map_nil]; rfl) ((is_same (rtE_Fe ((Fe.of _ HA0.out).mul (Fe.of _ HA0.out))) (Fe.neg (Fe.of _ HA0.out)) HDN.out _).mono ?_)
      rintro e wc147 ⟨rfl, hb⟩
      have hSn : Row wc147 bx .u64 5 (carr (ofL a0)) 27 ∧ Row wc147 bq .u64 5 (rtE (mulE (carr (ofL a0)) (carr (ofL a0))) ((N32 a0) * (N32 a0))) 27 := ⟨hHeld.1.below hb hHeld.1.lt, hHeld.2.below hb hHeld.2.lt⟩
      have HBc147 := Aside0.mk (HBc146.out.trans (hb.mono HBc146.out.size))
      clear hb
      refine ⟨_, rfl, hK.out _ _ hSn (fun hHeld => ?_)⟩
      clear hSn
      clear hK K
      refine norm_ (a' := ?_) ?_ ?_
      rotate_left
      · show Act.put _ (some 65) _ = _
        simp only [Act.put, List.setIfInBounds_toArray, List.set_cons_zero, List.set_cons_succ, i64_w, i32_w]
        rfl
      refine pure_ (i := 10) (N := some 66) (v := ?_) (a' := ?_) #[true, true, true, true, true, true, true, true, true, true, true, false, false] rfl rfl (any_of HT_.out (by kernel_rfl)) (fun _ _ _ h => h) (Or.inl ⟨by rfl, ?_⟩) ?_ ?_
      rotate_left
      · intro w'
        go_simp
        with_reducible rfl
      rotate_left
      · simp only [Act.put, List.setIfInBounds_toArray, List.set_cons_zero, List.set_cons_succ, i64_w, i32_w]
        rfl
      refine pure_ (i := 11) (N := some 67) (v := ?_) (a' := ?_) #[true, true, true, true, true, true, true, true, true, true, true, true, false] rfl rfl (any_of HT_.out (by kernel_rfl)) (fun _ _ _ h => h) (Or.inl ⟨by rfl, ?_⟩) ?_ ?_
      rotate_left
      · intro w'
        go_simp
        with_reducible rfl
      rotate_left
      · simp only [Act.put, List.setIfInBounds_toArray, List.set_cons_zero, List.set_cons_succ, i64_w, i32_w]
        rfl
      refine pure_ (i := 12) (N := some 2) (v := ?_) (a' := ?_) #[true, true, true, true, true, true, true, true, true, true, true, true, true] rfl rfl (any_of HT_.out (by kernel_rfl)) (fun _ _ _ h => h) (Or.inl ⟨by rfl, ?_⟩) ?_ ?_
      rotate_left
      · intro w'
        go_simp
        with_reducible rfl
      rotate_left
      · simp only [Act.put, List.setIfInBounds_toArray, List.set_cons_zero, List.set_cons_succ, i64_w, i32_w]
        rfl
      refine done_ (done_of HT_.out (by kernel_rfl)) ?_
      try go_wp2
      go_ret
      exact ⟨rfl, HBc147.out⟩
    · have HDV := Aside0.mk hd
      clear hd
      go_wp2_with fail
      have hh : Row x3.drew bx .u64 5 (carr (ofL a0)) 27 ∧ Row x3.drew bq .u64 5 (rtE (mulE (carr (ofL a0)) (carr (ofL a0))) ((N32 a0) * (N32 a0))) 27 := ⟨HX2.out, HRr.out⟩
      have HBe := Aside0.mk HC2.out.drew
      clear HX2 HRr HC2
      refine start_ (n := 13) (S := (fun w' => Row w' bx .u64 5 (carr (ofL a0)) 27 ∧ Row w' bq .u64 5 (rtE (mulE (carr (ofL a0)) (carr (ofL a0))) ((N32 a0) * (N32 a0))) 27)) (ds := []) #[false, false, false, false, false, false, false, false, false, false, false, false, false] (by kernel_rfl) rfl rfl hh (fun hHeld => ?_); refine with_tabW tab1009 bits1009 (fun HT_ HW_ => ?_)
      generalize x3.drew = x4 at HBe hHeld hh ⊢
      clear hh
      refine pure_ (i := 0) (N := some 56) (v := ?_) (a' := ?_) #[true, false, false, false, false, false, false, false, false, false, false, false, false] rfl rfl (any_of HT_.out (by kernel_rfl)) (fun _ _ _ h => h) (Or.inl ⟨by rfl, ?_⟩) ?_ ?_
      rotate_left
      · intro w'
        go_simp
        with_reducible rfl
      rotate_left
      · simp only [Act.put, List.setIfInBounds_toArray, List.set_cons_zero, List.set_cons_succ, i64_w, i32_w]
        rfl
      refine pure_ (i := 1) (N := some 57) (v := ?_) (a' := ?_) #[true, true, false, false, false, false, false, false, false, false, false, false, false] rfl rfl (any_of HT_.out (by kernel_rfl)) (fun _ _ _ h => h) (Or.inl ⟨by rfl, ?_⟩) ?_ ?_
      rotate_left
      · intro w'
        go_simp
        with_reducible rfl
      rotate_left
      · simp only [Act.put, List.setIfInBounds_toArray, List.set_cons_zero, List.set_cons_succ, i64_w, i32_w]
        rfl
      refine take_ (i := 2) (N := some 58) (v := ?_) (a' := ?_) #[true, true, true, false, false, false, false, false, false, false, false, false, false] rfl rfl (take_ofW HT_.out HW_.out (by kernel_rfl)) (fun _ _ _ h => h) (Or.inl ⟨by rfl, ?_⟩) hHeld ?_ ?_
      rotate_left
      · intro w' hsw
        refine exec_load (x := .tmp 8) hsw.2 Try.underlying27 info27 rfl ?_ ?_ <;> rfl
      rotate_left
      · simp only [Act.put, List.setIfInBounds_toArray, List.set_cons_zero, List.set_cons_succ, i64_w, i32_w]
        rfl
      refine take_ (i := 3) (N := some 59) (v := ?_) (a' := ?_) #[true, true, true, true, false, false, false, false, false, false, false, false, false] rfl rfl (take_ofW HT_.out HW_.out (by kernel_rfl)) (fun _ _ _ h => h) (Or.inl ⟨by rfl, ?_⟩) hHeld ?_ ?_
      rotate_left
      · intro w' hsw
        refine exec_load (x := .tmp 3) hsw.1 Try.underlying27 info27 rfl ?_ ?_ <;> rfl
      rotate_left
      · simp only [Act.put, List.setIfInBounds_toArray, List.set_cons_zero, List.set_cons_succ, i64_w, i32_w]
        rfl
      refine one_ (i := 4) (N := some 60) #[true, true, true, true, true, false, false, false, false, false, false, false, false] rfl rfl (one_of HT_.out (by kernel_rfl)) (by decide) (fun K hK => ?_)
      refine goes_ Try.func17 rfl rfl #[.agg (FR .u64 5 (rtE (mulE (carr (ofL a0)) (carr (ofL a0))) ((N32 a0) * (N32 a0)))), .agg (FR .u64 5 (carr (ofL a0)))] rfl rfl rfl (by simp only [List.map_toArray, List.map_cons, List.map_nil]; rfl) ((is_bool2 (rtE_Fe ((Fe.of _ HA0.out).mul (Fe.of _ HA0.out))) (Fe.of _ HA0.out) true HDV.out _).mono ?_)
      rintro e wc175 ⟨rfl, hb⟩
      have hSn : Row wc175 bx .u64 5 (carr (ofL a0)) 27 ∧ Row wc175 bq .u64 5 (rtE (mulE (carr (ofL a0)) (carr (ofL a0))) ((N32 a0) * (N32 a0))) 27 := ⟨hHeld.1.below hb hHeld.1.lt, hHeld.2.below hb hHeld.2.lt⟩
      have HBc175 := Aside0.mk (HBe.out.trans (hb.mono HBe.out.size))
      clear hb
      refine ⟨_, rfl, hK.out _ _ hSn (fun hHeld => ?_)⟩
      clear hSn
      clear hK K
      refine norm_ (a' := ?_) ?_ ?_
      rotate_left
      · show Act.put _ (some 60) _ = _
        simp only [Act.put, List.setIfInBounds_toArray, List.set_cons_zero, List.set_cons_succ, i64_w, i32_w]
        rfl
      refine pure_ (i := 5) (N := some 61) (v := ?_) (a' := ?_) #[true, true, true, true, true, true, false, false, false, false, false, false, false] rfl rfl (any_of HT_.out (by kernel_rfl)) (fun _ _ _ h => h) (Or.inl ⟨by rfl, ?_⟩) ?_ ?_
      rotate_left
      · intro w'
        go_simp
        with_reducible rfl
      rotate_left
      · simp only [Act.put, List.setIfInBounds_toArray, List.set_cons_zero, List.set_cons_succ, i64_w, i32_w]
        rfl
      refine pure_ (i := 6) (N := some 62) (v := undef) (a' := ?_) #[true, true, true, true, true, true, true, false, false, false, false, false, false] rfl rfl (any_of HT_.out (by kernel_rfl)) (fun _ _ _ h => h) (Or.inr ⟨by rfl, rfl⟩) ?_ ?_
      rotate_left
      · simp only [Act.put, List.setIfInBounds_toArray, List.set_cons_zero, List.set_cons_succ, i64_w, i32_w]
        rfl
      refine pure_ (i := 7) (N := some 63) (v := undef) (a' := ?_) #[true, true, true, true, true, true, true, true, false, false, false, false, false] rfl rfl (any_of HT_.out (by kernel_rfl)) (fun _ _ _ h => h) (Or.inr ⟨by rfl, rfl⟩) ?_ ?_
      rotate_left
      · simp only [Act.put, List.setIfInBounds_toArray, List.set_cons_zero, List.set_cons_succ, i64_w, i32_w]
        rfl
      refine pure_ (i := 8) (N := some 64) (v := undef) (a' := ?_) #[true, true, true, true, true, true, true, true, true, false, false, false, false] rfl rfl (any_of HT_.out (by kernel_rfl)) (fun _ _ _ h => h) (Or.inr ⟨by rfl, rfl⟩) ?_ ?_
      rotate_left
      · simp only [Act.put, List.setIfInBounds_toArray, List.set_cons_zero, List.set_cons_succ, i64_w, i32_w]
        rfl
      refine pure_ (i := 9) (N := some 65) (v := undef) (a' := ?_) #[true, true, true, true, true, true, true, true, true, true, false, false, false] rfl rfl (any_of HT_.out (by kernel_rfl)) (fun _ _ _ h => h) (Or.inr ⟨by rfl, rfl⟩) ?_ ?_
      rotate_left
      · simp only [Act.put, List.setIfInBounds_toArray, List.set_cons_zero, List.set_cons_succ, i64_w, i32_w]
        rfl
      refine pure_ (i := 10) (N := some 66) (v := ?_) (a' := ?_) #[true, true, true, true, true, true, true, true, true, true, true, false, false] rfl rfl (any_of HT_.out (by kernel_rfl)) (fun _ _ _ h => h) (Or.inl ⟨by rfl, ?_⟩) ?_ ?_
      rotate_left
      · intro w'
        go_simp
        with_reducible rfl
      rotate_left
      · simp only [Act.put, List.setIfInBounds_toArray, List.set_cons_zero, List.set_cons_succ, i64_w, i32_w]
        rfl
      refine pure_ (i := 11) (N := some 67) (v := ?_) (a' := ?_) #[true, true, true, true, true, true, true, true, true, true, true, true, false] rfl rfl (any_of HT_.out (by kernel_rfl)) (fun _ _ _ h => h) (Or.inl ⟨by rfl, ?_⟩) ?_ ?_
      rotate_left
      · intro w'
        go_simp
        with_reducible rfl
      rotate_left
      · simp only [Act.put, List.setIfInBounds_toArray, List.set_cons_zero, List.set_cons_succ, i64_w, i32_w]
        rfl
      refine pure_ (i := 12) (N := some 2) (v := ?_) (a' := ?_) #[true, true, true, true, true, true, true, true, true, true, true, true, true] rfl rfl (any_of HT_.out (by kernel_rfl)) (fun _ _ _ h => h) (Or.inl ⟨by rfl, ?_⟩) ?_ ?_
      rotate_left
      · intro w'
        go_simp
        with_reducible rfl
      rotate_left
      · simp only [Act.put, List.setIfInBounds_toArray, List.set_cons_zero, List.set_cons_succ, i64_w, i32_w]
        rfl
      refine done_ (done_of HT_.out (by kernel_rfl)) ?_
      try go_wp2
      go_ret
      exact ⟨rfl, HBc175.out⟩
end Go.Proofs.Ythonoagpiofojaa.P
