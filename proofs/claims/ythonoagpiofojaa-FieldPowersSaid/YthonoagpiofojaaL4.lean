/- Inv, the program's and the document's; the law FieldPowers: their walks. -/
import Derived.Test.YthonoagpiofojaaP4
import Derived.Test.YthonoagpiofojaaP5
import Derived.Test.YthonoagpiofojaaL3
namespace Go.Proofs.Ythonoagpiofojaa.P
set_option linter.unusedVariables false
set_option linter.unusedSimpArgs false
open Go.RowKit Go.Proofs.YthonoagpiofojaaW.PrintWords Go.Proofs.YthonoagpiofojaaW.PrintLast Go.Proofs.YthonoagpiofojaaW.PrintMore
attribute [local go_sem] setCell_drewN
theorem exB_By (p : Nat) (k : Int) : By (exB p k) := fun j hj => by
  have := onesB_b p j
  unfold exB upd
  split <;> omega
def invE (f : Nat → Int) : Nat → Int := powE f (exB 255 21) 256
def invR (g : Nat → Int) : Nat → Int := powR g (exB 255 21) 256
theorem tab3001 : rtab .any (opsOf Try.f30 1) = (true, [([], []), ([], []), ([0, 1, 1], [0, 1]), ([2, 2, 0, 1, 2], [2])]) := by kernel_rfl
theorem bits3001 : waitsOk [([], []), ([], []), ([0, 1, 1], [0, 1]), ([2, 2, 0, 1, 2], [2])] [0, 0, 3, 7] = true := by kernel_rfl
theorem invE_calls (f : Nat → Int) (w : World) (hf : Lm f) :
    Calls Try.prog 30 #[.agg (FR .u64 5 f)] w fun e w' => e = .returned (.agg (FR .u64 5 (invE f))) ∧ Below w.heap.size w w' := by
  have HF := Aside0.mk hf
  clear hf
  go_enter Try.func30, Try.ntmps30
  go_wp2_with fail
  have hh : Row (((w.alloc (.cells (FR .u64 5 f) 27)).alloc (.cells #[.int .u64 0, .int .u64 0, .int .u64 0, .int .u64 0, .int .u64 0] 27)).drew) w.heap.size .u64 5 f 27 := (Row.new w .u64 5 f 27).alloc _
  have HZd : Aside0 (Row (((w.alloc (.cells (FR .u64 5 f) 27)).alloc (.cells #[.int .u64 0, .int .u64 0, .int .u64 0, .int .u64 0, .int .u64 0] 27)).drew) (w.heap.size + 1) .u64 5 (fun _ => 0) 27) := ⟨heap_alloc2_new w _ _⟩
  have HBd := Aside0.mk ((bel_two w (.cells (FR .u64 5 f) 27) (.cells #[.int .u64 0, .int .u64 0, .int .u64 0, .int .u64 0, .int .u64 0] 27)).drew)
  refine start_ (n := 4) (S := (fun w' => Row w' w.heap.size .u64 5 f 27)) (ds := [3]) #[false, false, false, false] (by kernel_rfl) rfl rfl hh (fun hHeld => ?_); refine with_tabW tab3001 bits3001 (fun HT_ HW_ => ?_)
  generalize ((w.alloc (.cells (FR .u64 5 f) 27)).alloc (.cells #[.int .u64 0, .int .u64 0, .int .u64 0, .int .u64 0, .int .u64 0] 27)).drew = w6 at HBd hHeld hh HZd ⊢
  clear hh
  refine take_ (i := 0) (N := some 3) (v := ?_) (a' := ?_) #[true, false, false, false] rfl rfl (take_ofW HT_.out HW_.out (by kernel_rfl)) (fun _ _ _ h => h) (Or.inl ⟨by rfl, ?_⟩) hHeld ?_ ?_
  rotate_left
  · intro w' hsw
    refine exec_load (x := .tmp 1) hsw Try.underlying27 info27 rfl ?_ ?_ <;> rfl
  rotate_left
  · simp only [Act.put, List.setIfInBounds_toArray, List.set_cons_zero, List.set_cons_succ, i64_w, i32_w]
    rfl
  refine one_ (i := 1) (N := some 4) #[true, true, false, false] rfl rfl (one_of HT_.out (by kernel_rfl)) (by decide) (fun K hK => ?_)
  refine goes_ Try.func42 rfl rfl #[.int .i64 255, .int .u8 21] rfl rfl rfl (by simp only [List.map_toArray, List.map_cons, List.map_nil]; rfl) ((exponent_calls 255 21 _ (by omega) (by omega)).mono ?_)
  rintro e wc1 ⟨rfl, hb⟩
  have hSn : Row wc1 w.heap.size .u64 5 f 27 := hHeld.below hb hHeld.lt
  have HBc1 := Aside0.mk (HBd.out.trans (hb.mono HBd.out.size))
  have HZc1 := Aside0.mk (HZd.out.below hb HZd.out.lt)
  clear hb
  refine ⟨_, rfl, hK.out _ _ hSn (fun hHeld => ?_)⟩
  clear hSn
  clear hK K
  refine norm_ (a' := ?_) ?_ ?_
  rotate_left
  · show Act.put _ (some 4) _ = _
    simp only [Act.put, List.setIfInBounds_toArray, List.set_cons_zero, List.set_cons_succ, i64_w, i32_w]
    rfl
  refine one_ (i := 2) (N := some 5) #[true, true, true, false] rfl rfl (one_of HT_.out (by kernel_rfl)) (by decide) (fun K hK => ?_)
  refine goes_ Try.func28 rfl rfl #[.agg (FR .u64 5 f), .agg (FR .u8 32 (exB 255 21))] rfl rfl rfl (by simp only [List.map_toArray, List.map_cons, List.map_nil]; rfl) ((pow_elem f (exB 255 21) _ HF.out (exB_By _ _)).mono ?_)
  rintro e wc2 ⟨rfl, hb⟩
  have hSn : Row wc2 w.heap.size .u64 5 f 27 := hHeld.below hb hHeld.lt
  have HBc2 := Aside0.mk (HBc1.out.trans (hb.mono HBc1.out.size))
  have HZc2 := Aside0.mk (HZc1.out.below hb HZc1.out.lt)
  clear hb
  refine ⟨_, rfl, hK.out _ _ hSn (fun hHeld => ?_)⟩
  clear hSn
  clear hK K
  refine norm_ (a' := ?_) ?_ ?_
  rotate_left
  · show Act.put _ (some 5) _ = _
    simp only [Act.put, List.setIfInBounds_toArray, List.set_cons_zero, List.set_cons_succ, i64_w, i32_w]
    rfl
  refine last_ (i := 3) (N := none) #[true, true, true, true] rfl rfl (one_of HT_.out (by kernel_rfl)) (by decide) (fun K hK => ?_)
  refine oper_storeG (invE f) HZc2.out info27 rfl rfl rfl rfl rfl ?_
  intro wk hs hr
  have HRk := Aside0.mk hr
  have HBk := Aside0.mk (hs.bel _ _ (by omega) HBc2.out)
  clear hs hr
  refine hK.out _ _ ?_
  clear hK K
  refine done_ (done_of HT_.out (by kernel_rfl)) ?_
  try go_wp2
  refine bodyPost_ret (row_results rfl HRk.out rfl Try.underlying27 rfl info27) rfl ?_
  exact ⟨rfl, HBk.out⟩
theorem tab3101 : rtab .any (opsOf Try.f31 1) = (true, [([], []), ([], []), ([0, 1, 1], [0, 1]), ([2, 2, 0, 1, 2], [2])]) := by kernel_rfl
theorem bits3101 : waitsOk [([], []), ([], []), ([0, 1, 1], [0, 1]), ([2, 2, 0, 1, 2], [2])] [0, 0, 3, 7] = true := by kernel_rfl
theorem invR_calls (f : Nat → Int) (w : World) (hf : Rn f) :
    Calls Try.prog 31 #[.agg (FR .i64 16 f)] w fun e w' => e = .returned (.agg (FR .i64 16 (invR f))) ∧ Below w.heap.size w w' := by
  have HF := Aside0.mk hf
  clear hf
  go_enter Try.func31, Try.ntmps31
  go_wp2_with fail
  have hh : Row (((w.alloc (.cells (FR .i64 16 f) 33)).alloc (.cells #[.int .i64 0, .int .i64 0, .int .i64 0, .int .i64 0, .int .i64 0, .int .i64 0, .int .i64 0, .int .i64 0, .int .i64 0, .int .i64 0, .int .i64 0, .int .i64 0, .int .i64 0, .int .i64 0, .int .i64 0, .int .i64 0] 33)).drew) w.heap.size .i64 16 f 33 := (Row.new w .i64 16 f 33).alloc _
  have HZd : Aside0 (Row (((w.alloc (.cells (FR .i64 16 f) 33)).alloc (.cells #[.int .i64 0, .int .i64 0, .int .i64 0, .int .i64 0, .int .i64 0, .int .i64 0, .int .i64 0, .int .i64 0, .int .i64 0, .int .i64 0, .int .i64 0, .int .i64 0, .int .i64 0, .int .i64 0, .int .i64 0, .int .i64 0] 33)).drew) (w.heap.size + 1) .i64 16 (fun _ => 0) 33) := ⟨heap_alloc2_new w _ _⟩
  have HBd := Aside0.mk ((bel_two w (.cells (FR .i64 16 f) 33) (.cells #[.int .i64 0, .int .i64 0, .int .i64 0, .int .i64 0, .int .i64 0, .int .i64 0, .int .i64 0, .int .i64 0, .int .i64 0, .int .i64 0, .int .i64 0, .int .i64 0, .int .i64 0, .int .i64 0, .int .i64 0, .int .i64 0] 33)).drew)
  refine start_ (n := 4) (S := (fun w' => Row w' w.heap.size .i64 16 f 33)) (ds := [3]) #[false, false, false, false] (by kernel_rfl) rfl rfl hh (fun hHeld => ?_); refine with_tabW tab3101 bits3101 (fun HT_ HW_ => ?_)
  generalize ((w.alloc (.cells (FR .i64 16 f) 33)).alloc (.cells #[.int .i64 0, .int .i64 0, .int .i64 0, .int .i64 0, .int .i64 0, .int .i64 0, .int .i64 0, .int .i64 0, .int .i64 0, .int .i64 0, .int .i64 0, .int .i64 0, .int .i64 0, .int .i64 0, .int .i64 0, .int .i64 0] 33)).drew = w6 at HBd hHeld hh HZd ⊢
  clear hh
  refine take_ (i := 0) (N := some 3) (v := ?_) (a' := ?_) #[true, false, false, false] rfl rfl (take_ofW HT_.out HW_.out (by kernel_rfl)) (fun _ _ _ h => h) (Or.inl ⟨by rfl, ?_⟩) hHeld ?_ ?_
  rotate_left
  · intro w' hsw
    refine exec_load (x := .tmp 1) hsw Try.underlying33 info33 rfl ?_ ?_ <;> rfl
  rotate_left
  · simp only [Act.put, List.setIfInBounds_toArray, List.set_cons_zero, List.set_cons_succ, i64_w, i32_w]
    rfl
  refine one_ (i := 1) (N := some 4) #[true, true, false, false] rfl rfl (one_of HT_.out (by kernel_rfl)) (by decide) (fun K hK => ?_)
  refine goes_ Try.func43 rfl rfl #[.int .i64 255, .int .i64 21] rfl rfl rfl (by simp only [List.map_toArray, List.map_cons, List.map_nil]; rfl) ((Exponent_calls 255 21 _ (by omega) (by omega)).mono ?_)
  rintro e wc1 ⟨rfl, hb⟩
  have hSn : Row wc1 w.heap.size .i64 16 f 33 := hHeld.below hb hHeld.lt
  have HBc1 := Aside0.mk (HBd.out.trans (hb.mono HBd.out.size))
  have HZc1 := Aside0.mk (HZd.out.below hb HZd.out.lt)
  clear hb
  refine ⟨_, rfl, hK.out _ _ hSn (fun hHeld => ?_)⟩
  clear hSn
  clear hK K
  refine norm_ (a' := ?_) ?_ ?_
  rotate_left
  · show Act.put _ (some 4) _ = _
    simp only [Act.put, List.setIfInBounds_toArray, List.set_cons_zero, List.set_cons_succ, i64_w, i32_w]
    rfl
  refine one_ (i := 2) (N := some 5) #[true, true, true, false] rfl rfl (one_of HT_.out (by kernel_rfl)) (by decide) (fun K hK => ?_)
  refine goes_ Try.func29 rfl rfl #[.agg (FR .i64 16 f), .string (sOf (exB 255 21))] rfl rfl rfl (by simp only [List.map_toArray, List.map_cons, List.map_nil]; rfl) ((pow_ref f (exB 255 21) _ HF.out (exB_By _ _)).mono ?_)
  rintro e wc2 ⟨rfl, hb⟩
  have hSn : Row wc2 w.heap.size .i64 16 f 33 := hHeld.below hb hHeld.lt
  have HBc2 := Aside0.mk (HBc1.out.trans (hb.mono HBc1.out.size))
  have HZc2 := Aside0.mk (HZc1.out.below hb HZc1.out.lt)
  clear hb
  refine ⟨_, rfl, hK.out _ _ hSn (fun hHeld => ?_)⟩
  clear hSn
  clear hK K
  refine norm_ (a' := ?_) ?_ ?_
  rotate_left
  · show Act.put _ (some 5) _ = _
    simp only [Act.put, List.setIfInBounds_toArray, List.set_cons_zero, List.set_cons_succ, i64_w, i32_w]
    rfl
  refine last_ (i := 3) (N := none) #[true, true, true, true] rfl rfl (one_of HT_.out (by kernel_rfl)) (by decide) (fun K hK => ?_)
  refine oper_storeG (invR f) HZc2.out info33 rfl rfl rfl rfl rfl ?_
  intro wk hs hr
  have HRk := Aside0.mk hr
  have HBk := Aside0.mk (hs.bel _ _ (by omega) HBc2.out)
  clear hs hr
  refine hK.out _ _ ?_
  clear hK K
  refine done_ (done_of HT_.out (by kernel_rfl)) ?_
  try go_wp2
  refine bodyPost_ret (row_results rfl HRk.out rfl Try.underlying33 rfl info33) rfl ?_
  exact ⟨rfl, HBk.out⟩
theorem tab804 : rtab .any (opsOf Try.f8 4) = (true, [([], []), ([], []), ([0, 1], [0, 1]), ([], []), ([3, 2], [3]), ([], []), ([5], [5]), ([4, 6, 4], [4, 6]), ([2, 7, 7], [2, 7]), ([8, 8], [8]), ([9], [9]), ([10, 9, 9], [9, 10]), ([9], [9]), ([12, 11, 9], [9, 12]), ([13, 13, 9], [9, 13]), ([11, 14, 14, 9], [9, 11, 14]), ([9, 15], [9, 15]), ([16, 15, 0, 1, 2, 3, 4, 5, 6, 7, 8, 9, 10, 11, 12, 13, 14, 15, 16], [16])]) := by kernel_rfl
theorem bits804 : waitsOk [([], []), ([], []), ([0, 1], [0, 1]), ([], []), ([3, 2], [3]), ([], []), ([5], [5]), ([4, 6, 4], [4, 6]), ([2, 7, 7], [2, 7]), ([8, 8], [8]), ([9], [9]), ([10, 9, 9], [9, 10]), ([9], [9]), ([12, 11, 9], [9, 12]), ([13, 13, 9], [9, 13]), ([11, 14, 14, 9], [9, 11, 14]), ([9, 15], [9, 15]), ([16, 15, 0, 1, 2, 3, 4, 5, 6, 7, 8, 9, 10, 11, 12, 13, 14, 15, 16], [16])] [0, 0, 3, 0, 15, 0, 32, 127, 255, 511, 1023, 2047, 1023, 8191, 16383, 32767, 65535, 131071] = true := by kernel_rfl
theorem FieldPowers_walk (a0 a1 : Nat → Int) (w : World) (w0 : ∀ i, i < 32 → (Lit.int .u8 (a0 i)).wf = true) (w1 : ∀ i, i < 32 → (Lit.int .u8 (a1 i)).wf = true) :
    Calls Try.prog 8 #[.agg (FR .u8 32 a0), .agg (FR .u8 32 a1)] w fun e w' => e = .returned (.bool true) ∧ Below w.heap.size w w' := by
  have HA : Aside0 (By a0) := ⟨fun j hj => u8b (w0 j hj)⟩
  have HA1 : Aside0 (By a1) := ⟨fun j hj => u8b (w1 j hj)⟩
  clear w0 w1
  go_enter Try.func8, Try.ntmps8
  have HR0 : Aside0 (Row ((w.alloc (.cells (FR .u8 32 a0) 22)).alloc (.cells (FR .u8 32 a1) 22)) w.heap.size .u8 32 a0 22) := ⟨(Row.new w .u8 32 a0 22).alloc _⟩
  have HQ0 : Aside0 (Row ((w.alloc (.cells (FR .u8 32 a0) 22)).alloc (.cells (FR .u8 32 a1) 22)) (w.heap.size + 1) .u8 32 a1 22) := ⟨heap_alloc2_new w _ _⟩
  have HB0 := Aside0.mk (bel_two w (.cells (FR .u8 32 a0) 22) (.cells (FR .u8 32 a1) 22))
  go_wp2_with fail
  refine (alive_calls _).mono ?_
  rintro e w4 ⟨rfl, hb⟩
  have HR4 := Aside0.mk (HR0.out.below hb HR0.out.lt)
  have HQ4 := Aside0.mk (HQ0.out.below hb HQ0.out.lt)
  have HB4 := Aside0.mk (HB0.out.trans (hb.mono HB0.out.size))
  clear hb HR0 HB0 HQ0
  go_wp2_with (refine step_load HR4.out Try.underlying22 info22 rfl rfl rfl rfl ?_)
  refine (Of_elem_calls a0 _ HA.out).mono ?_
  rintro e w5 ⟨rfl, hb⟩
  have HR5 := Aside0.mk (HR4.out.below hb HR4.out.lt)
  have HQ5 := Aside0.mk (HQ4.out.below hb HQ4.out.lt)
  have HB5 := Aside0.mk (HB4.out.trans (hb.mono HB4.out.size))
  have hl5 := HQ5.out.lt
  clear hb HR4 HB4 HQ4
  have HNW := Aside0.mk (Row.new w5 .u64 5 (fun _ => 0) 27)
  have HR6 := Aside0.mk (HR5.out.alloc (.cells (FR .u64 5 fun _ => 0) 27))
  have HQ6 := Aside0.mk (HQ5.out.alloc (.cells (FR .u64 5 fun _ => 0) 27))
  have HB6 := Aside0.mk (HB5.out.alloc HB5.out.size (.cells (FR .u64 5 fun _ => 0) 27))
  go_wp2_with (refine step_storeG _ HNW.out info27 rfl rfl rfl rfl rfl ?_; intro w7 hs hr; have HS7 := Aside0.mk hs; have HX7 := Aside0.mk hr; clear hs hr)
  have hg7 := HR6.out.stored HS7.out (show w.heap.size ≠ w5.heap.size by omega)
  have hq7 := HQ6.out.stored HS7.out (show w.heap.size + 1 ≠ w5.heap.size by omega)
  have hh : Row w7.drew w.heap.size .u8 32 a0 22 ∧ Row w7.drew (w.heap.size + 1) .u8 32 a1 22 ∧ Row w7.drew w5.heap.size .u64 5 (carr (ofL a0)) 27 := ⟨hg7, hq7, HX7.out⟩
  have HBd := Aside0.mk (HS7.out.bel _ _ (by omega) HB6.out).drew
  clear HR5 HB5 HQ5 HNW HR6 HQ6 HB6 hg7 hq7
  refine start_ (n := 18) (S := (fun w' => Row w' w.heap.size .u8 32 a0 22 ∧ Row w' (w.heap.size + 1) .u8 32 a1 22 ∧ Row w' w5.heap.size .u64 5 (carr (ofL a0)) 27)) (ds := []) #[false, false, false, false, false, false, false, false, false, false, false, false, false, false, false, false, false, false] (by kernel_rfl) rfl rfl hh (fun hHeld => ?_); refine with_tabW tab804 bits804 (fun HT_ HW_ => ?_)
  generalize w7.drew = w6 at HBd hHeld hh ⊢
  clear hh
  refine take_ (i := 0) (N := some 10) (v := ?_) (a' := ?_) #[true, false, false, false, false, false, false, false, false, false, false, false, false, false, false, false, false, false] rfl rfl (take_ofW HT_.out HW_.out (by kernel_rfl)) (fun _ _ _ h => h) (Or.inl ⟨by rfl, ?_⟩) hHeld ?_ ?_
  rotate_left
  · intro w' hsw
    refine exec_load (x := .tmp 5) hsw.2.2 Try.underlying27 info27 rfl ?_ ?_ <;> rfl
  rotate_left
  · simp only [Act.put, List.setIfInBounds_toArray, List.set_cons_zero, List.set_cons_succ, i64_w, i32_w]
    rfl
  refine take_ (i := 1) (N := some 11) (v := ?_) (a' := ?_) #[true, true, false, false, false, false, false, false, false, false, false, false, false, false, false, false, false, false] rfl rfl (take_ofW HT_.out HW_.out (by kernel_rfl)) (fun _ _ _ h => h) (Or.inl ⟨by rfl, ?_⟩) hHeld ?_ ?_
  rotate_left
  · intro w' hsw
    refine exec_load (x := .tmp 3) hsw.2.1 Try.underlying22 info22 rfl ?_ ?_ <;> rfl
  rotate_left
  · simp only [Act.put, List.setIfInBounds_toArray, List.set_cons_zero, List.set_cons_succ, i64_w, i32_w]
    rfl
  refine take_ (i := 3) (N := some 13) (v := ?_) (a' := ?_) #[true, true, false, true, false, false, false, false, false, false, false, false, false, false, false, false, false, false] rfl rfl (take_ofW HT_.out HW_.out (by kernel_rfl)) (fun _ _ _ h => h) (Or.inl ⟨by rfl, ?_⟩) hHeld ?_ ?_
  rotate_left
  · intro w' hsw
    refine exec_load (x := .tmp 2) hsw.1 Try.underlying22 info22 rfl ?_ ?_ <;> rfl
  rotate_left
  · simp only [Act.put, List.setIfInBounds_toArray, List.set_cons_zero, List.set_cons_succ, i64_w, i32_w]
    rfl
  refine pure_ (i := 5) (N := some 15) (v := ?_) (a' := ?_) #[true, true, false, true, false, true, false, false, false, false, false, false, false, false, false, false, false, false] rfl rfl (any_of HT_.out (by kernel_rfl)) (fun _ _ _ h => h) (Or.inl ⟨by rfl, ?_⟩) ?_ ?_
  rotate_left
  · intro w'
    go_simp
    with_reducible rfl
  rotate_left
  · simp only [Act.put, List.setIfInBounds_toArray, List.set_cons_zero, List.set_cons_succ, i64_w, i32_w]
    rfl
  refine take_ (i := 6) (N := some 16) (v := ?_) (a' := ?_) #[true, true, false, true, false, true, true, false, false, false, false, false, false, false, false, false, false, false] rfl rfl (take_ofW HT_.out HW_.out (by kernel_rfl)) (fun _ _ _ h => h) (Or.inl ⟨by rfl, ?_⟩) hHeld ?_ ?_
  rotate_left
  · intro w' hsw
    have hcv := conv_row hsw.2.1
    go_simp
    with_reducible rfl
  rotate_left
  · simp only [Act.put, List.setIfInBounds_toArray, List.set_cons_zero, List.set_cons_succ, i64_w, i32_w]
    rfl
  refine one_ (i := 2) (N := some 12) #[true, true, true, true, false, true, true, false, false, false, false, false, false, false, false, false, false, false] rfl rfl (one_of HT_.out (by kernel_rfl)) (by decide) (fun K hK => ?_)
  refine goes_ Try.func28 rfl rfl #[.agg (FR .u64 5 (carr (ofL a0))), .agg (FR .u8 32 a1)] rfl rfl rfl (by simp only [List.map_toArray, List.map_cons, List.map_nil]; rfl) ((pow_elem _ _ _ (Fe.of a0 HA.out).1 HA1.out).mono ?_)
  rintro e wc1 ⟨rfl, hb⟩
  have hSn : Row wc1 w.heap.size .u8 32 a0 22 ∧ Row wc1 (w.heap.size + 1) .u8 32 a1 22 ∧ Row wc1 w5.heap.size .u64 5 (carr (ofL a0)) 27 := ⟨hHeld.1.below hb hHeld.1.lt, hHeld.2.1.below hb hHeld.2.1.lt, hHeld.2.2.below hb hHeld.2.2.lt⟩
  have HBc1 := Aside0.mk (HBd.out.trans (hb.mono HBd.out.size))
  clear hb
  refine ⟨_, rfl, hK.out _ _ hSn (fun hHeld => ?_)⟩
  clear hSn
  clear hK K
  refine norm_ (a' := ?_) ?_ ?_
  rotate_left
  · show Act.put _ (some 12) _ = _
    simp only [Act.put, List.setIfInBounds_toArray, List.set_cons_zero, List.set_cons_succ, i64_w, i32_w]
    rfl
  refine one_ (i := 4) (N := some 14) #[true, true, true, true, true, true, true, false, false, false, false, false, false, false, false, false, false, false] rfl rfl (one_of HT_.out (by kernel_rfl)) (by decide) (fun K hK => ?_)
  refine goes_ Try.func15 rfl rfl #[.agg (FR .u8 32 a0)] rfl rfl rfl (by simp only [List.map_toArray, List.map_cons, List.map_nil]; rfl) ((num_calls' a0 _ HA.out).mono ?_)
  rintro e wc2 ⟨rfl, hb⟩
  have hSn : Row wc2 w.heap.size .u8 32 a0 22 ∧ Row wc2 (w.heap.size + 1) .u8 32 a1 22 ∧ Row wc2 w5.heap.size .u64 5 (carr (ofL a0)) 27 := ⟨hHeld.1.below hb hHeld.1.lt, hHeld.2.1.below hb hHeld.2.1.lt, hHeld.2.2.below hb hHeld.2.2.lt⟩
  have HBc2 := Aside0.mk (HBc1.out.trans (hb.mono HBc1.out.size))
  clear hb
  refine ⟨_, rfl, hK.out _ _ hSn (fun hHeld => ?_)⟩
  clear hSn
  clear hK K
  refine norm_ (a' := ?_) ?_ ?_
  rotate_left
  · show Act.put _ (some 14) _ = _
    simp only [Act.put, List.setIfInBounds_toArray, List.set_cons_zero, List.set_cons_succ, i64_w, i32_w]
    rfl
  refine one_ (i := 7) (N := some 17) #[true, true, true, true, true, true, true, true, false, false, false, false, false, false, false, false, false, false] rfl rfl (one_of HT_.out (by kernel_rfl)) (by decide) (fun K hK => ?_)
  refine goes_ Try.func29 rfl rfl #[.agg (FR .i64 16 (numD a0)), .string (sOf a1)] rfl rfl rfl (by simp only [List.map_toArray, List.map_cons, List.map_nil]; rfl) ((pow_ref _ _ _ (Re.num a0 HA.out).1 HA1.out).mono ?_)
  rintro e wc3 ⟨rfl, hb⟩
  have hSn : Row wc3 w.heap.size .u8 32 a0 22 ∧ Row wc3 (w.heap.size + 1) .u8 32 a1 22 ∧ Row wc3 w5.heap.size .u64 5 (carr (ofL a0)) 27 := ⟨hHeld.1.below hb hHeld.1.lt, hHeld.2.1.below hb hHeld.2.1.lt, hHeld.2.2.below hb hHeld.2.2.lt⟩
  have HBc3 := Aside0.mk (HBc2.out.trans (hb.mono HBc2.out.size))
  clear hb
  refine ⟨_, rfl, hK.out _ _ hSn (fun hHeld => ?_)⟩
  clear hSn
  clear hK K
  refine norm_ (a' := ?_) ?_ ?_
  rotate_left
  · show Act.put _ (some 17) _ = _
    simp only [Act.put, List.setIfInBounds_toArray, List.set_cons_zero, List.set_cons_succ, i64_w, i32_w]
    rfl
  refine one_ (i := 8) (N := some 18) #[true, true, true, true, true, true, true, true, true, false, false, false, false, false, false, false, false, false] rfl rfl (one_of HT_.out (by kernel_rfl)) (by decide) (fun K hK => ?_)
  refine goes_ Try.func14 rfl rfl #[.agg (FR .u64 5 (powE (carr (ofL a0)) a1 256)), .agg (FR .i64 16 (powR (numD a0) a1 256))] rfl rfl rfl (by simp only [List.map_toArray, List.map_cons, List.map_nil]; rfl) ((is_true_of _ _ _ ((Fe.of a0 HA.out).pow a1 256) ((Re.num a0 HA.out).pow a1 256) _).mono ?_)
  rintro e wc4 ⟨rfl, hb⟩
  have hSn : Row wc4 w.heap.size .u8 32 a0 22 ∧ Row wc4 (w.heap.size + 1) .u8 32 a1 22 ∧ Row wc4 w5.heap.size .u64 5 (carr (ofL a0)) 27 := ⟨hHeld.1.below hb hHeld.1.lt, hHeld.2.1.below hb hHeld.2.1.lt, hHeld.2.2.below hb hHeld.2.2.lt⟩
  have HBc4 := Aside0.mk (HBc3.out.trans (hb.mono HBc3.out.size))
  clear hb
  refine ⟨_, rfl, hK.out _ _ hSn (fun hHeld => ?_)⟩
  clear hSn
  clear hK K
  refine norm_ (a' := ?_) ?_ ?_
  rotate_left
  · show Act.put _ (some 18) _ = _
    simp only [Act.put, List.setIfInBounds_toArray, List.set_cons_zero, List.set_cons_succ, i64_w, i32_w]
    rfl
  refine pure_ (i := 9) (N := some 19) (v := ?_) (a' := ?_) #[true, true, true, true, true, true, true, true, true, true, false, false, false, false, false, false, false, false] rfl rfl (any_of HT_.out (by kernel_rfl)) (fun _ _ _ h => h) (Or.inl ⟨by rfl, ?_⟩) ?_ ?_
  rotate_left
  · intro w'
    go_simp
    with_reducible rfl
  rotate_left
  · simp only [Act.put, List.setIfInBounds_toArray, List.set_cons_zero, List.set_cons_succ, i64_w, i32_w]
    rfl
  refine take_ (i := 10) (N := some 20) (v := ?_) (a' := ?_) #[true, true, true, true, true, true, true, true, true, true, true, false, false, false, false, false, false, false] rfl rfl (take_ofW HT_.out HW_.out (by kernel_rfl)) (fun _ _ _ h => h) (Or.inl ⟨by rfl, ?_⟩) hHeld ?_ ?_
  rotate_left
  · intro w' hsw
    refine exec_load (x := .tmp 5) hsw.2.2 Try.underlying27 info27 rfl ?_ ?_ <;> rfl
  rotate_left
  · simp only [Act.put, List.setIfInBounds_toArray, List.set_cons_zero, List.set_cons_succ, i64_w, i32_w]
    rfl
  refine take_ (i := 12) (N := some 22) (v := ?_) (a' := ?_) #[true, true, true, true, true, true, true, true, true, true, true, false, true, false, false, false, false, false] rfl rfl (take_ofW HT_.out HW_.out (by kernel_rfl)) (fun _ _ _ h => h) (Or.inl ⟨by rfl, ?_⟩) hHeld ?_ ?_
  rotate_left
  · intro w' hsw
    refine exec_load (x := .tmp 2) hsw.1 Try.underlying22 info22 rfl ?_ ?_ <;> rfl
  rotate_left
  · simp only [Act.put, List.setIfInBounds_toArray, List.set_cons_zero, List.set_cons_succ, i64_w, i32_w]
    rfl
  refine one_ (i := 11) (N := some 21) #[true, true, true, true, true, true, true, true, true, true, true, true, true, false, false, false, false, false] rfl rfl (one_of HT_.out (by kernel_rfl)) (by decide) (fun K hK => ?_)
  refine goes_ Try.func30 rfl rfl #[.agg (FR .u64 5 (carr (ofL a0)))] rfl rfl rfl (by simp only [List.map_toArray, List.map_cons, List.map_nil]; rfl) ((invE_calls _ _ (Fe.of a0 HA.out).1).mono ?_)
  rintro e wc5 ⟨rfl, hb⟩
  have hSn : Row wc5 w.heap.size .u8 32 a0 22 ∧ Row wc5 (w.heap.size + 1) .u8 32 a1 22 ∧ Row wc5 w5.heap.size .u64 5 (carr (ofL a0)) 27 := ⟨hHeld.1.below hb hHeld.1.lt, hHeld.2.1.below hb hHeld.2.1.lt, hHeld.2.2.below hb hHeld.2.2.lt⟩
  have HBc5 := Aside0.mk (HBc4.out.trans (hb.mono HBc4.out.size))
  clear hb
  refine ⟨_, rfl, hK.out _ _ hSn (fun hHeld => ?_)⟩
  clear hSn
  clear hK K
  refine norm_ (a' := ?_) ?_ ?_
  rotate_left
  · show Act.put _ (some 21) _ = _
    simp only [Act.put, List.setIfInBounds_toArray, List.set_cons_zero, List.set_cons_succ, i64_w, i32_w]
    rfl
  refine one_ (i := 13) (N := some 23) #[true, true, true, true, true, true, true, true, true, true, true, true, true, true, false, false, false, false] rfl rfl (one_of HT_.out (by kernel_rfl)) (by decide) (fun K hK => ?_)
  refine goes_ Try.func15 rfl rfl #[.agg (FR .u8 32 a0)] rfl rfl rfl (by simp only [List.map_toArray, List.map_cons, List.map_nil]; rfl) ((num_calls' a0 _ HA.out).mono ?_)
  rintro e wc6 ⟨rfl, hb⟩
  have hSn : Row wc6 w.heap.size .u8 32 a0 22 ∧ Row wc6 (w.heap.size + 1) .u8 32 a1 22 ∧ Row wc6 w5.heap.size .u64 5 (carr (ofL a0)) 27 := ⟨hHeld.1.below hb hHeld.1.lt, hHeld.2.1.below hb hHeld.2.1.lt, hHeld.2.2.below hb hHeld.2.2.lt⟩
  have HBc6 := Aside0.mk (HBc5.out.trans (hb.mono HBc5.out.size))
  clear hb
  refine ⟨_, rfl, hK.out _ _ hSn (fun hHeld => ?_)⟩
  clear hSn
  clear hK K
  refine norm_ (a' := ?_) ?_ ?_
  rotate_left
  · show Act.put _ (some 23) _ = _
    simp only [Act.put, List.setIfInBounds_toArray, List.set_cons_zero, List.set_cons_succ, i64_w, i32_w]
    rfl
  refine one_ (i := 14) (N := some 24) #[true, true, true, true, true, true, true, true, true, true, true, true, true, true, true, false, false, false] rfl rfl (one_of HT_.out (by kernel_rfl)) (by decide) (fun K hK => ?_)
  refine goes_ Try.func31 rfl rfl #[.agg (FR .i64 16 (numD a0))] rfl rfl rfl (by simp only [List.map_toArray, List.map_cons, List.map_nil]; rfl) ((invR_calls _ _ (Re.num a0 HA.out).1).mono ?_)
  rintro e wc7 ⟨rfl, hb⟩
  have hSn : Row wc7 w.heap.size .u8 32 a0 22 ∧ Row wc7 (w.heap.size + 1) .u8 32 a1 22 ∧ Row wc7 w5.heap.size .u64 5 (carr (ofL a0)) 27 := ⟨hHeld.1.below hb hHeld.1.lt, hHeld.2.1.below hb hHeld.2.1.lt, hHeld.2.2.below hb hHeld.2.2.lt⟩
  have HBc7 := Aside0.mk (HBc6.out.trans (hb.mono HBc6.out.size))
  clear hb
  refine ⟨_, rfl, hK.out _ _ hSn (fun hHeld => ?_)⟩
  clear hSn
  clear hK K
  refine norm_ (a' := ?_) ?_ ?_
  rotate_left
  · show Act.put _ (some 24) _ = _
    simp only [Act.put, List.setIfInBounds_toArray, List.set_cons_zero, List.set_cons_succ, i64_w, i32_w]
    rfl
  refine one_ (i := 15) (N := some 25) #[true, true, true, true, true, true, true, true, true, true, true, true, true, true, true, true, false, false] rfl rfl (one_of HT_.out (by kernel_rfl)) (by decide) (fun K hK => ?_)
  refine goes_ Try.func14 rfl rfl #[.agg (FR .u64 5 (invE (carr (ofL a0)))), .agg (FR .i64 16 (invR (numD a0)))] rfl rfl rfl (by simp only [List.map_toArray, List.map_cons, List.map_nil]; rfl) ((is_true_of _ _ _ ((Fe.of a0 HA.out).pow (exB 255 21) 256) ((Re.num a0 HA.out).pow (exB 255 21) 256) _).mono ?_)
  rintro e wc8 ⟨rfl, hb⟩
  have hSn : Row wc8 w.heap.size .u8 32 a0 22 ∧ Row wc8 (w.heap.size + 1) .u8 32 a1 22 ∧ Row wc8 w5.heap.size .u64 5 (carr (ofL a0)) 27 := ⟨hHeld.1.below hb hHeld.1.lt, hHeld.2.1.below hb hHeld.2.1.lt, hHeld.2.2.below hb hHeld.2.2.lt⟩
  have HBc8 := Aside0.mk (HBc7.out.trans (hb.mono HBc7.out.size))
  clear hb
  refine ⟨_, rfl, hK.out _ _ hSn (fun hHeld => ?_)⟩
  clear hSn
  clear hK K
  refine norm_ (a' := ?_) ?_ ?_
  rotate_left
  · show Act.put _ (some 25) _ = _
    simp only [Act.put, List.setIfInBounds_toArray, List.set_cons_zero, List.set_cons_succ, i64_w, i32_w]
    rfl
  refine pure_ (i := 16) (N := some 26) (v := ?_) (a' := ?_) #[true, true, true, true, true, true, true, true, true, true, true, true, true, true, true, true, true, false] rfl rfl (any_of HT_.out (by kernel_rfl)) (fun _ _ _ h => h) (Or.inl ⟨by rfl, ?_⟩) ?_ ?_
  rotate_left
  · intro w'
    go_simp
    with_reducible rfl
  rotate_left
  · simp only [Act.put, List.setIfInBounds_toArray, List.set_cons_zero, List.set_cons_succ, i64_w, i32_w]
    rfl
  refine pure_ (i := 17) (N := some 4) (v := ?_) (a' := ?_) #[true, true, true, true, true, true, true, true, true, true, true, true, true, true, true, true, true, true] rfl rfl (any_of HT_.out (by kernel_rfl)) (fun _ _ _ h => h) (Or.inl ⟨by rfl, ?_⟩) ?_ ?_
  rotate_left
  · intro w'
    go_simp
    with_reducible rfl
  rotate_left
  · simp only [Act.put, List.setIfInBounds_toArray, List.set_cons_zero, List.set_cons_succ, i64_w, i32_w]
    rfl
  refine done_ (done_of HT_.out (by kernel_rfl)) ?_
  try go_wp2
  go_ret
  exact ⟨rfl, HBc8.out⟩
end Go.Proofs.Ythonoagpiofojaa.P
