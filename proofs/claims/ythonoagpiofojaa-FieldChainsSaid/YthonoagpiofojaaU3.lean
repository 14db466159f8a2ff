/- Texts L1, A6, R1, M1, A7, C7, M2, A8, P3 of this session, in one (wip/tools/merge.py). -/
import Derived.Test.YthonoagpiofojaaU2
import Derived.Lib.Mul64
import Derived.Laws.Externs
namespace Go.Proofs.Ythonoagpiofojaa.P
section
set_option linter.unusedVariables false
set_option linter.unusedSimpArgs false
open Go.RowKit Go.Proofs.YthonoagpiofojaaW.PrintWords Go.Proofs.YthonoagpiofojaaW.PrintLast Go.Proofs.YthonoagpiofojaaW.PrintMore
attribute [local go_sem] setCell_drewN
theorem bytes_is (f : Nat → Int) (hf : Lm f) (M : Int) (h : V51 f % PP = M) (w : World) : Calls Try.prog 12 #[.agg (FR .u64 5 f)] w fun e w' => e = .returned (.agg (FR .u8 32 (dig 256 M))) ∧ Below w.heap.size w w' := by
  rw [← h]; exact elem_bytes_calls f w hf.c
theorem law_is_true (f g : Nat → Int) (hf : Lm f) (hg : CB g) (h : V51 f % PP = V16 g % PP) (w : World) : Calls Try.prog 14 #[.agg (FR .u64 5 f), .agg (FR .i64 16 g)] w fun e w' => e = .returned (.bool true) ∧ Below w.heap.size w w' := by
  have := law_is_calls f g w hf.c hg
  rw [decide_eq_true h] at this; exact this
theorem elem_is_bool (f g : Nat → Int) (hf : Lm f) (hg : Lm g) (r : Bool) (h : decide (V51 f % PP = V51 g % PP) = r) (w : World) : Calls Try.prog 17 #[.agg (FR .u64 5 f), .agg (FR .u64 5 g)] w fun e w' => e = .returned (.bool r) ∧ Below w.heap.size w w' := by
  rw [← h]; exact elem_is_calls f g w hf.c hg.c
theorem lit_row (n : Int) : (#[.int .u8 n, .int .u8 0, .int .u8 0, .int .u8 0, .int .u8 0, .int .u8 0, .int .u8 0, .int .u8 0, .int .u8 0, .int .u8 0, .int .u8 0, .int .u8 0, .int .u8 0, .int .u8 0, .int .u8 0, .int .u8 0, .int .u8 0, .int .u8 0, .int .u8 0, .int .u8 0, .int .u8 0, .int .u8 0, .int .u8 0, .int .u8 0, .int .u8 0, .int .u8 0, .int .u8 0, .int .u8 0, .int .u8 0, .int .u8 0, .int .u8 0, .int .u8 0] : Array Value) = FR .u8 32 (smL n) := rfl
theorem same_small (n : Int) (h : sameRow 32 (dig 256 n) (smL n) = true) (w : World) : (Op.equalIn 10000 22 (.agg (FR .u8 32 (dig 256 n))) (.agg #[.int .u8 n, .int .u8 0, .int .u8 0, .int .u8 0, .int .u8 0, .int .u8 0, .int .u8 0, .int .u8 0, .int .u8 0, .int .u8 0, .int .u8 0, .int .u8 0, .int .u8 0, .int .u8 0, .int .u8 0, .int .u8 0, .int .u8 0, .int .u8 0, .int .u8 0, .int .u8 0, .int .u8 0, .int .u8 0, .int .u8 0, .int .u8 0, .int .u8 0, .int .u8 0, .int .u8 0, .int .u8 0, .int .u8 0, .int .u8 0, .int .u8 0, .int .u8 0])).run Try.prog w = .ok true w := by
  rw [lit_row]; exact (equal22i _ _ w).trans (by rw [h])
theorem u8b {x : Int} (h : (Lit.int .u8 x).wf = true) : 0 ≤ x ∧ x < 256 := by
  have e1 : IntKind.u8.min = 0 := by decide
  have e2 : IntKind.u8.max = 255 := by decide
  simp [Lit.wf] at h; omega
theorem u32b {x : Int} (h : (Lit.int .u32 x).wf = true) : 0 ≤ x ∧ x < 4294967296 := by
  have e1 : IntKind.u32.min = 0 := by decide
  have e2 : IntKind.u32.max = 4294967295 := by decide
  simp [Lit.wf] at h; omega
theorem tab304 : rtab .any (opsOf Try.f3 4) = (true, [([], []), ([], []), ([1], [1]), ([0, 2, 2], [0, 2]), ([3, 3], [3]), ([4], [4]), ([5, 4, 4], [4, 5]), ([4], [4]), ([7, 4], [4, 7]), ([8, 6, 4], [4, 8]), ([6, 9, 9, 4], [4, 6, 9]), ([4, 10], [4, 10]), ([11, 10], [11]), ([12], [12]), ([12], [12]), ([14, 12, 12], [12, 14]), ([15, 15, 12], [12, 15]), ([13, 16, 16, 12], [12, 13, 16]), ([12, 17], [12, 17]), ([18, 17], [18]), ([19], [19]), ([20, 19, 19], [19, 20]), ([19], [19]), ([22, 21, 19], [19, 22]), ([23, 23, 19], [19, 23]), ([21, 24, 19], [19, 21, 24]), ([19, 25], [19, 25]), ([26, 24, 0, 1, 2, 3, 4, 5, 6, 7, 8, 9, 10, 11, 12, 13, 14, 15, 16, 17, 18, 19, 20, 21, 22, 23, 24, 25, 26], [26])]) := by kernel_rfl
theorem bits304 : waitsOk [([], []), ([], []), ([1], [1]), ([0, 2, 2], [0, 2]), ([3, 3], [3]), ([4], [4]), ([5, 4, 4], [4, 5]), ([4], [4]), ([7, 4], [4, 7]), ([8, 6, 4], [4, 8]), ([6, 9, 9, 4], [4, 6, 9]), ([4, 10], [4, 10]), ([11, 10], [11]), ([12], [12]), ([12], [12]), ([14, 12, 12], [12, 14]), ([15, 15, 12], [12, 15]), ([13, 16, 16, 12], [12, 13, 16]), ([12, 17], [12, 17]), ([18, 17], [18]), ([19], [19]), ([20, 19, 19], [19, 20]), ([19], [19]), ([22, 21, 19], [19, 22]), ([23, 23, 19], [19, 23]), ([21, 24, 19], [19, 21, 24]), ([19, 25], [19, 25]), ([26, 24, 0, 1, 2, 3, 4, 5, 6, 7, 8, 9, 10, 11, 12, 13, 14, 15, 16, 17, 18, 19, 20, 21, 22, 23, 24, 25, 26], [26])] [0, 0, 2, 7, 15, 31, 63, 31, 159, 511, 1023, 2047, 4095, 8191, 8191, 24575, 57343, 131071, 262143, 524287, 1048575, 2097151, 1048575, 8388607, 16777215, 33554431, 67108863, 134217727] = true := by kernel_rfl
theorem FieldReads_walk (a0 : Nat → Int) (a1 : Int) (w : World) (w0 : ∀ i, i < 32 → (Lit.int .u8 (a0 i)).wf = true) (w1 : (Lit.int .u32 a1).wf = true) :
    Calls Try.prog 3 #[.agg (FR .u8 32 a0), .int .u32 a1] w fun e w' => e = .returned (.bool true) ∧ Below w.heap.size w w' := by
  have HA : Aside0 (By a0) := ⟨fun j hj => u8b (w0 j hj)⟩
  have HN := Aside0.mk (u32b w1)
  have HL := Aside0.mk (of_Lm a0 HA.out)
  have HE : Aside0 (V51 (carr (ofL a0)) % PP = V16 (numD a0) % PP) := ⟨by rw [of_mod a0 HA.out, numD_V]⟩
  have HI : Aside0 (decide (V51 (carr (ofL a0)) % PP = V51 (carr (ofL (dig 256 (V51 (carr (ofL a0)) % PP)))) % PP) = true) := ⟨by
    rw [of_mod _ (dig_By _), N32_dig _ (modP_32 _), Int.emod_emod_of_dvd _ (Int.dvd_refl _)]; simp⟩
  have hn0 := HN.out
  have hwn : wrap64 a1 = a1 := w64 _ (by omega)
  have hwn2 : IntKind.i64.wrap a1 = a1 := i64w _ (by omega)
  have hs5 : sameRow 32 (dig 256 5) (smL 5) = true := by decide +kernel
  have heq := same_small 5 hs5
  clear w0 w1 hn0 hs5
  go_enter Try.func3, Try.ntmps3
  have HR0 := Aside0.mk (Row.new w .u8 32 a0 22)
  have HB0 := Aside0.mk ((Below.refl w.heap.size w).alloc (Nat.le_refl _) (.cells (FR .u8 32 a0) 22))
  go_wp2_with fail
  refine (small_elem_calls 5 _ (by omega)).mono ?_
  rintro e w2 ⟨rfl, hb⟩
  have HR1 := Aside0.mk (HR0.out.below hb HR0.out.lt)
  have HB1 := Aside0.mk (HB0.out.trans (hb.mono HB0.out.size))
  clear hb HR0 HB0
  go_wp2_with fail
  refine (bytes_is (smL 5) (smL_Lm 5 (by omega)) 5 (by rw [smL_V]; rfl) _).mono ?_
  rintro e w3 ⟨rfl, hb⟩
  have HR2 := Aside0.mk (HR1.out.below hb HR1.out.lt)
  have HB2 := Aside0.mk (HB1.out.trans (hb.mono HB1.out.size))
  clear hb HR1 HB1
  go_wp2_with (refine step_load HR2.out Try.underlying22 info22 rfl rfl rfl rfl ?_)
  refine (Of_elem_calls a0 _ HA.out).mono ?_
  rintro e w4 ⟨rfl, hb⟩
  have HR3 := Aside0.mk (HR2.out.below hb HR2.out.lt)
  have HB3 := Aside0.mk (HB2.out.trans (hb.mono HB2.out.size))
  have hl4 := HR3.out.lt
  clear hb HR2 HB2 heq
  have HNW := Aside0.mk (Row.new w4 .u64 5 (fun _ => 0) 27)
  have HR4 := Aside0.mk (HR3.out.alloc (.cells (FR .u64 5 fun _ => 0) 27))
  have HB4 := Aside0.mk (HB3.out.alloc HB3.out.size (.cells (FR .u64 5 fun _ => 0) 27))
  go_wp2_with (refine step_storeG _ HNW.out info27 rfl rfl rfl rfl rfl ?_; intro w5 hs hr; have HS5 := Aside0.mk hs; have HX5 := Aside0.mk hr; clear hs hr)
  have hg5 := HR4.out.stored HS5.out (show w.heap.size ≠ w4.heap.size by omega)
  have hh : Row w5.drew w.heap.size .u8 32 a0 22 ∧ Row w5.drew w4.heap.size .u64 5 (carr (ofL a0)) 27 := ⟨hg5, HX5.out⟩
  have HBd := Aside0.mk (HS5.out.bel _ _ (by omega) HB4.out).drew
  clear HR3 HB3 HR4 HB4 HNW hg5
  refine start_ (n := 28) (S := (fun w' => Row w' w.heap.size .u8 32 a0 22 ∧ Row w' w4.heap.size .u64 5 (carr (ofL a0)) 27)) (ds := []) #[false, false, false, false, false, false, false, false, false, false, false, false, false, false, false, false, false, false, false, false, false, false, false, false, false, false, false, false] (by kernel_rfl) rfl rfl hh (fun hHeld => ?_); refine with_tabW tab304 bits304 (fun HT_ HW_ => ?_)
  generalize w5.drew = w6 at HBd hHeld hh ⊢
  clear hh
  refine take_ (i := 0) (N := some 12) (v := ?_) (a' := ?_) #[true, false, false, false, false, false, false, false, false, false, false, false, false, false, false, false, false, false, false, false, false, false, false, false, false, false, false, false] rfl rfl (take_ofW HT_.out HW_.out (by kernel_rfl)) (fun _ _ _ h => h) (Or.inl ⟨by rfl, ?_⟩) hHeld ?_ ?_
  rotate_left
  · intro w' hsw
    refine exec_load (x := .tmp 5) hsw.2 Try.underlying27 info27 rfl ?_ ?_ <;> rfl
  rotate_left
  · simp only [Act.put, List.setIfInBounds_toArray, List.set_cons_zero, List.set_cons_succ, i64_w, i32_w]
    rfl
  refine take_ (i := 1) (N := some 13) (v := ?_) (a' := ?_) #[true, true, false, false, false, false, false, false, false, false, false, false, false, false, false, false, false, false, false, false, false, false, false, false, false, false, false, false] rfl rfl (take_ofW HT_.out HW_.out (by kernel_rfl)) (fun _ _ _ h => h) (Or.inl ⟨by rfl, ?_⟩) hHeld ?_ ?_
  rotate_left
  · intro w' hsw
    refine exec_load (x := .tmp 2) hsw.1 Try.underlying22 info22 rfl ?_ ?_ <;> rfl
  rotate_left
  · simp only [Act.put, List.setIfInBounds_toArray, List.set_cons_zero, List.set_cons_succ, i64_w, i32_w]
    rfl
  refine one_ (i := 2) (N := some 14) #[true, true, true, false, false, false, false, false, false, false, false, false, false, false, false, false, false, false, false, false, false, false, false, false, false, false, false, false] rfl rfl (one_of HT_.out (by kernel_rfl)) (by decide) (fun K hK => ?_)
  refine goes_ Try.func15 rfl rfl #[.agg (FR .u8 32 a0)] rfl rfl rfl (by simp only [List.map_toArray, List.map_cons, List.map_nil]; rfl) ((num_calls' a0 _ HA.out).mono ?_)
  rintro e wc1 ⟨rfl, hb⟩
  have hSn : Row wc1 w.heap.size .u8 32 a0 22 ∧ Row wc1 w4.heap.size .u64 5 (carr (ofL a0)) 27 := ⟨hHeld.1.below hb hHeld.1.lt, hHeld.2.below hb hHeld.2.lt⟩
  have HBc1 := Aside0.mk (HBd.out.trans (hb.mono HBd.out.size))
  clear hb
  refine ⟨_, rfl, hK.out _ _ hSn (fun hHeld => ?_)⟩
  clear hSn
  clear hK K
  refine norm_ (a' := ?_) ?_ ?_
  rotate_left
  · show Act.put _ (some 14) _ = _
    simp only [Act.put, List.setIfInBounds_toArray, List.set_cons_zero, List.set_cons_succ, i64_w, i32_w]
    rfl
  refine one_ (i := 3) (N := some 15) #[true, true, true, true, false, false, false, false, false, false, false, false, false, false, false, false, false, false, false, false, false, false, false, false, false, false, false, false] rfl rfl (one_of HT_.out (by kernel_rfl)) (by decide) (fun K hK => ?_)
  refine goes_ Try.func14 rfl rfl #[.agg (FR .u64 5 (carr (ofL a0))), .agg (FR .i64 16 (numD a0))] rfl rfl rfl (by simp only [List.map_toArray, List.map_cons, List.map_nil]; rfl) ((law_is_true _ _ HL.out (numD_D a0 HA.out).cb HE.out _).mono ?_)
  rintro e wc2 ⟨rfl, hb⟩
  have hSn : Row wc2 w.heap.size .u8 32 a0 22 ∧ Row wc2 w4.heap.size .u64 5 (carr (ofL a0)) 27 := ⟨hHeld.1.below hb hHeld.1.lt, hHeld.2.below hb hHeld.2.lt⟩
  have HBc2 := Aside0.mk (HBc1.out.trans (hb.mono HBc1.out.size))
  clear hb
  refine ⟨_, rfl, hK.out _ _ hSn (fun hHeld => ?_)⟩
  clear hSn
  clear hK K
  refine norm_ (a' := ?_) ?_ ?_
  rotate_left
  · show Act.put _ (some 15) _ = _
    simp only [Act.put, List.setIfInBounds_toArray, List.set_cons_zero, List.set_cons_succ, i64_w, i32_w]
    rfl
  refine pure_ (i := 4) (N := some 16) (v := ?_) (a' := ?_) #[true, true, true, true, true, false, false, false, false, false, false, false, false, false, false, false, false, false, false, false, false, false, false, false, false, false, false, false] rfl rfl (any_of HT_.out (by kernel_rfl)) (fun _ _ _ h => h) (Or.inl ⟨by rfl, ?_⟩) ?_ ?_
  rotate_left
  · intro w'
    go_simp
    with_reducible rfl
  rotate_left
  · simp only [Act.put, List.setIfInBounds_toArray, List.set_cons_zero, List.set_cons_succ, i64_w, i32_w]
    rfl
  refine pure_ (i := 5) (N := some 17) (v := ?_) (a' := ?_) #[true, true, true, true, true, true, false, false, false, false, false, false, false, false, false, false, false, false, false, false, false, false, false, false, false, false, false, false] rfl rfl (any_of HT_.out (by kernel_rfl)) (fun _ _ _ h => h) (Or.inl ⟨by rfl, ?_⟩) ?_ ?_
  rotate_left
  · intro w'
    go_simp
    with_reducible rfl
  rotate_left
  · simp only [Act.put, List.setIfInBounds_toArray, List.set_cons_zero, List.set_cons_succ, i64_w, i32_w]
    rfl
  refine pure_ (i := 7) (N := some 19) (v := ?_) (a' := ?_) #[true, true, true, true, true, true, false, true, false, false, false, false, false, false, false, false, false, false, false, false, false, false, false, false, false, false, false, false] rfl rfl (any_of HT_.out (by kernel_rfl)) (fun _ _ _ h => h) (Or.inl ⟨by rfl, ?_⟩) ?_ ?_
  rotate_left
  · intro w'
    go_simp
    with_reducible rfl
  rotate_left
  · simp only [Act.put, List.setIfInBounds_toArray, List.set_cons_zero, List.set_cons_succ, i64_w, i32_w]
    rfl
  refine pure_ (i := 8) (N := some 20) (v := ?_) (a' := ?_) #[true, true, true, true, true, true, false, true, true, false, false, false, false, false, false, false, false, false, false, false, false, false, false, false, false, false, false, false] rfl rfl (any_of HT_.out (by kernel_rfl)) (fun _ _ _ h => h) (Or.inl ⟨by rfl, ?_⟩) ?_ ?_
  rotate_left
  · intro w'
    go_simp
    with_reducible rfl
  rotate_left
  · simp only [Act.put, List.setIfInBounds_toArray, List.set_cons_zero, List.set_cons_succ, i64_w, i32_w]
    rfl
  refine one_ (i := 6) (N := some 18) #[true, true, true, true, true, true, true, true, true, false, false, false, false, false, false, false, false, false, false, false, false, false, false, false, false, false, false, false] rfl rfl (one_of HT_.out (by kernel_rfl)) (by decide) (fun K hK => ?_)
  refine goes_ Try.func11 rfl rfl #[.int .u32 a1] rfl rfl rfl (by simp only [List.map_toArray, List.map_cons, List.map_nil]; rfl) ((small_elem_calls a1 _ HN.out).mono ?_)
  rintro e wc3 ⟨rfl, hb⟩
  have hSn : Row wc3 w.heap.size .u8 32 a0 22 ∧ Row wc3 w4.heap.size .u64 5 (carr (ofL a0)) 27 := ⟨hHeld.1.below hb hHeld.1.lt, hHeld.2.below hb hHeld.2.lt⟩
  have HBc3 := Aside0.mk (HBc2.out.trans (hb.mono HBc2.out.size))
  clear hb
  refine ⟨_, rfl, hK.out _ _ hSn (fun hHeld => ?_)⟩
  clear hSn
  clear hK K
  refine norm_ (a' := ?_) ?_ ?_
  rotate_left
  · show Act.put _ (some 18) _ = _
    simp only [Act.put, List.setIfInBounds_toArray, List.set_cons_zero, List.set_cons_succ, i64_w, i32_w]
    rfl
  refine one_ (i := 9) (N := some 21) #[true, true, true, true, true, true, true, true, true, true, false, false, false, false, false, false, false, false, false, false, false, false, false, false, false, false, false, false] rfl rfl (one_of HT_.out (by kernel_rfl)) (by decide) (fun K hK => ?_)
  refine goes_ Try.func16 rfl rfl #[.int .i64 a1] rfl rfl rfl (by simp only [List.map_toArray, List.map_cons, List.map_nil]; rfl) ((small_ref_calls a1 _ HN.out).mono ?_)
  rintro e wc4 ⟨rfl, hb⟩
  have hSn : Row wc4 w.heap.size .u8 32 a0 22 ∧ Row wc4 w4.heap.size .u64 5 (carr (ofL a0)) 27 := ⟨hHeld.1.below hb hHeld.1.lt, hHeld.2.below hb hHeld.2.lt⟩
  have HBc4 := Aside0.mk (HBc3.out.trans (hb.mono HBc3.out.size))
  clear hb
  refine ⟨_, rfl, hK.out _ _ hSn (fun hHeld => ?_)⟩
  clear hSn
  clear hK K
  refine norm_ (a' := ?_) ?_ ?_
  rotate_left
  · show Act.put _ (some 21) _ = _
    simp only [Act.put, List.setIfInBounds_toArray, List.set_cons_zero, List.set_cons_succ, i64_w, i32_w]
    rfl
  refine one_ (i := 10) (N := some 22) #[true, true, true, true, true, true, true, true, true, true, true, false, false, false, false, false, false, false, false, false, false, false, false, false, false, false, false, false] rfl rfl (one_of HT_.out (by kernel_rfl)) (by decide) (fun K hK => ?_)
  refine goes_ Try.func14 rfl rfl #[.agg (FR .u64 5 (smL a1)), .agg (FR .i64 16 (carryN (fun i => if i = 0 then a1 else 0) 16))] rfl rfl rfl (by simp only [List.map_toArray, List.map_cons, List.map_nil]; rfl) ((law_is_true _ _ (smL_Lm a1 HN.out) (small_ref a1 HN.out).1 (by rw [smL_V, (small_ref a1 HN.out).2]) _).mono ?_)
  rintro e wc5 ⟨rfl, hb⟩
  have hSn : Row wc5 w.heap.size .u8 32 a0 22 ∧ Row wc5 w4.heap.size .u64 5 (carr (ofL a0)) 27 := ⟨hHeld.1.below hb hHeld.1.lt, hHeld.2.below hb hHeld.2.lt⟩
  have HBc5 := Aside0.mk (HBc4.out.trans (hb.mono HBc4.out.size))
  clear hb
  refine ⟨_, rfl, hK.out _ _ hSn (fun hHeld => ?_)⟩
  clear hSn
  clear hK K
  refine norm_ (a' := ?_) ?_ ?_
  rotate_left
  · show Act.put _ (some 22) _ = _
    simp only [Act.put, List.setIfInBounds_toArray, List.set_cons_zero, List.set_cons_succ, i64_w, i32_w]
    rfl
  refine pure_ (i := 11) (N := some 23) (v := ?_) (a' := ?_) #[true, true, true, true, true, true, true, true, true, true, true, true, false, false, false, false, false, false, false, false, false, false, false, false, false, false, false, false] rfl rfl (any_of HT_.out (by kernel_rfl)) (fun _ _ _ h => h) (Or.inl ⟨by rfl, ?_⟩) ?_ ?_
  rotate_left
  · intro w'
    go_simp
    with_reducible rfl
  rotate_left
  · simp only [Act.put, List.setIfInBounds_toArray, List.set_cons_zero, List.set_cons_succ, i64_w, i32_w]
    rfl
  refine pure_ (i := 12) (N := some 24) (v := ?_) (a' := ?_) #[true, true, true, true, true, true, true, true, true, true, true, true, true, false, false, false, false, false, false, false, false, false, false, false, false, false, false, false] rfl rfl (any_of HT_.out (by kernel_rfl)) (fun _ _ _ h => h) (Or.inl ⟨by rfl, ?_⟩) ?_ ?_
  rotate_left
  · intro w'
    go_simp
    with_reducible rfl
  rotate_left
  · simp only [Act.put, List.setIfInBounds_toArray, List.set_cons_zero, List.set_cons_succ, i64_w, i32_w]
    rfl
  refine take_ (i := 13) (N := some 25) (v := ?_) (a' := ?_) #[true, true, true, true, true, true, true, true, true, true, true, true, true, true, false, false, false, false, false, false, false, false, false, false, false, false, false, false] rfl rfl (take_ofW HT_.out HW_.out (by kernel_rfl)) (fun _ _ _ h => h) (Or.inl ⟨by rfl, ?_⟩) hHeld ?_ ?_
  rotate_left
  · intro w' hsw
    refine exec_load (x := .tmp 5) hsw.2 Try.underlying27 info27 rfl ?_ ?_ <;> rfl
  rotate_left
  · simp only [Act.put, List.setIfInBounds_toArray, List.set_cons_zero, List.set_cons_succ, i64_w, i32_w]
    rfl
  refine take_ (i := 14) (N := some 26) (v := ?_) (a' := ?_) #[true, true, true, true, true, true, true, true, true, true, true, true, true, true, true, false, false, false, false, false, false, false, false, false, false, false, false, false] rfl rfl (take_ofW HT_.out HW_.out (by kernel_rfl)) (fun _ _ _ h => h) (Or.inl ⟨by rfl, ?_⟩) hHeld ?_ ?_
  rotate_left
  · intro w' hsw
    refine exec_load (x := .tmp 5) hsw.2 Try.underlying27 info27 rfl ?_ ?_ <;> rfl
  rotate_left
  · simp only [Act.put, List.setIfInBounds_toArray, List.set_cons_zero, List.set_cons_succ, i64_w, i32_w]
    rfl
  refine one_ (i := 15) (N := some 27) #[true, true, true, true, true, true, true, true, true, true, true, true, true, true, true, true, false, false, false, false, false, false, false, false, false, false, false, false] rfl rfl (one_of HT_.out (by kernel_rfl)) (by decide) (fun K hK => ?_)
  refine goes_ Try.func12 rfl rfl #[.agg (FR .u64 5 (carr (ofL a0)))] rfl rfl rfl (by simp only [List.map_toArray, List.map_cons, List.map_nil]; rfl) ((bytes_is _ HL.out _ rfl _).mono ?_)
  rintro e wc6 ⟨rfl, hb⟩
  have hSn : Row wc6 w.heap.size .u8 32 a0 22 ∧ Row wc6 w4.heap.size .u64 5 (carr (ofL a0)) 27 := ⟨hHeld.1.below hb hHeld.1.lt, hHeld.2.below hb hHeld.2.lt⟩
  have HBc6 := Aside0.mk (HBc5.out.trans (hb.mono HBc5.out.size))
  clear hb
  refine ⟨_, rfl, hK.out _ _ hSn (fun hHeld => ?_)⟩
  clear hSn
  clear hK K
  refine norm_ (a' := ?_) ?_ ?_
  rotate_left
  · show Act.put _ (some 27) _ = _
    simp only [Act.put, List.setIfInBounds_toArray, List.set_cons_zero, List.set_cons_succ, i64_w, i32_w]
    rfl
  refine one_ (i := 16) (N := some 28) #[true, true, true, true, true, true, true, true, true, true, true, true, true, true, true, true, true, false, false, false, false, false, false, false, false, false, false, false] rfl rfl (one_of HT_.out (by kernel_rfl)) (by decide) (fun K hK => ?_)
  refine goes_ Try.func13 rfl rfl #[.agg (FR .u8 32 (dig 256 (V51 (carr (ofL a0)) % PP)))] rfl rfl rfl (by simp only [List.map_toArray, List.map_cons, List.map_nil]; rfl) ((Of_elem_calls _ _ (dig_By _)).mono ?_)
  rintro e wc7 ⟨rfl, hb⟩
  have hSn : Row wc7 w.heap.size .u8 32 a0 22 ∧ Row wc7 w4.heap.size .u64 5 (carr (ofL a0)) 27 := ⟨hHeld.1.below hb hHeld.1.lt, hHeld.2.below hb hHeld.2.lt⟩
  have HBc7 := Aside0.mk (HBc6.out.trans (hb.mono HBc6.out.size))
  clear hb
  refine ⟨_, rfl, hK.out _ _ hSn (fun hHeld => ?_)⟩
  clear hSn
  clear hK K
  refine norm_ (a' := ?_) ?_ ?_
  rotate_left
  · show Act.put _ (some 28) _ = _
    simp only [Act.put, List.setIfInBounds_toArray, List.set_cons_zero, List.set_cons_succ, i64_w, i32_w]
    rfl
  refine one_ (i := 17) (N := some 29) #[true, true, true, true, true, true, true, true, true, true, true, true, true, true, true, true, true, true, false, false, false, false, false, false, false, false, false, false] rfl rfl (one_of HT_.out (by kernel_rfl)) (by decide) (fun K hK => ?_)
  refine goes_ Try.func17 rfl rfl #[.agg (FR .u64 5 (carr (ofL a0))), .agg (FR .u64 5 (carr (ofL (dig 256 (V51 (carr (ofL a0)) % PP)))))] rfl rfl rfl (by simp only [List.map_toArray, List.map_cons, List.map_nil]; rfl) ((elem_is_bool _ _ HL.out (of_Lm _ (dig_By _)) true HI.out _).mono ?_)
  rintro e wc8 ⟨rfl, hb⟩
  have hSn : Row wc8 w.heap.size .u8 32 a0 22 ∧ Row wc8 w4.heap.size .u64 5 (carr (ofL a0)) 27 := ⟨hHeld.1.below hb hHeld.1.lt, hHeld.2.below hb hHeld.2.lt⟩
  have HBc8 := Aside0.mk (HBc7.out.trans (hb.mono HBc7.out.size))
  clear hb
  refine ⟨_, rfl, hK.out _ _ hSn (fun hHeld => ?_)⟩
  clear hSn
  clear hK K
  refine norm_ (a' := ?_) ?_ ?_
  rotate_left
  · show Act.put _ (some 29) _ = _
    simp only [Act.put, List.setIfInBounds_toArray, List.set_cons_zero, List.set_cons_succ, i64_w, i32_w]
    rfl
  refine pure_ (i := 18) (N := some 30) (v := ?_) (a' := ?_) #[true, true, true, true, true, true, true, true, true, true, true, true, true, true, true, true, true, true, true, false, false, false, false, false, false, false, false, false] rfl rfl (any_of HT_.out (by kernel_rfl)) (fun _ _ _ h => h) (Or.inl ⟨by rfl, ?_⟩) ?_ ?_
  rotate_left
  · intro w'
    go_simp
    with_reducible rfl
  rotate_left
  · simp only [Act.put, List.setIfInBounds_toArray, List.set_cons_zero, List.set_cons_succ, i64_w, i32_w]
    rfl
  refine pure_ (i := 19) (N := some 31) (v := ?_) (a' := ?_) #[true, true, true, true, true, true, true, true, true, true, true, true, true, true, true, true, true, true, true, true, false, false, false, false, false, false, false, false] rfl rfl (any_of HT_.out (by kernel_rfl)) (fun _ _ _ h => h) (Or.inl ⟨by rfl, ?_⟩) ?_ ?_
  rotate_left
  · intro w'
    go_simp
    with_reducible rfl
  rotate_left
  · simp only [Act.put, List.setIfInBounds_toArray, List.set_cons_zero, List.set_cons_succ, i64_w, i32_w]
    rfl
  refine take_ (i := 20) (N := some 32) (v := ?_) (a' := ?_) #[true, true, true, true, true, true, true, true, true, true, true, true, true, true, true, true, true, true, true, true, true, false, false, false, false, false, false, false] rfl rfl (take_ofW HT_.out HW_.out (by kernel_rfl)) (fun _ _ _ h => h) (Or.inl ⟨by rfl, ?_⟩) hHeld ?_ ?_
  rotate_left
  · intro w' hsw
    refine exec_load (x := .tmp 5) hsw.2 Try.underlying27 info27 rfl ?_ ?_ <;> rfl
  rotate_left
  · simp only [Act.put, List.setIfInBounds_toArray, List.set_cons_zero, List.set_cons_succ, i64_w, i32_w]
    rfl
  refine take_ (i := 22) (N := some 34) (v := ?_) (a' := ?_) #[true, true, true, true, true, true, true, true, true, true, true, true, true, true, true, true, true, true, true, true, true, false, true, false, false, false, false, false] rfl rfl (take_ofW HT_.out HW_.out (by kernel_rfl)) (fun _ _ _ h => h) (Or.inl ⟨by rfl, ?_⟩) hHeld ?_ ?_
  rotate_left
  · intro w' hsw
    refine exec_load (x := .tmp 2) hsw.1 Try.underlying22 info22 rfl ?_ ?_ <;> rfl
  rotate_left
  · simp only [Act.put, List.setIfInBounds_toArray, List.set_cons_zero, List.set_cons_succ, i64_w, i32_w]
    rfl
  refine one_ (i := 21) (N := some 33) #[true, true, true, true, true, true, true, true, true, true, true, true, true, true, true, true, true, true, true, true, true, true, true, false, false, false, false, false] rfl rfl (one_of HT_.out (by kernel_rfl)) (by decide) (fun K hK => ?_)
  refine goes_ Try.func18 rfl rfl #[.agg (FR .u64 5 (carr (ofL a0)))] rfl rfl rfl (by simp only [List.map_toArray, List.map_cons, List.map_nil]; rfl) ((elem_odd_calls _ _ HL.out.c).mono ?_)
  rintro e wc9 ⟨rfl, hb⟩
  have hSn : Row wc9 w.heap.size .u8 32 a0 22 ∧ Row wc9 w4.heap.size .u64 5 (carr (ofL a0)) 27 := ⟨hHeld.1.below hb hHeld.1.lt, hHeld.2.below hb hHeld.2.lt⟩
  have HBc9 := Aside0.mk (HBc8.out.trans (hb.mono HBc8.out.size))
  clear hb
  refine ⟨_, rfl, hK.out _ _ hSn (fun hHeld => ?_)⟩
  clear hSn
  clear hK K
  refine norm_ (a' := ?_) ?_ ?_
  rotate_left
  · show Act.put _ (some 33) _ = _
    simp only [Act.put, List.setIfInBounds_toArray, List.set_cons_zero, List.set_cons_succ, i64_w, i32_w]
    rfl
  refine one_ (i := 23) (N := some 35) #[true, true, true, true, true, true, true, true, true, true, true, true, true, true, true, true, true, true, true, true, true, true, true, true, false, false, false, false] rfl rfl (one_of HT_.out (by kernel_rfl)) (by decide) (fun K hK => ?_)
  refine goes_ Try.func15 rfl rfl #[.agg (FR .u8 32 a0)] rfl rfl rfl (by simp only [List.map_toArray, List.map_cons, List.map_nil]; rfl) ((num_calls' a0 _ HA.out).mono ?_)
  rintro e wc10 ⟨rfl, hb⟩
  have hSn : Row wc10 w.heap.size .u8 32 a0 22 ∧ Row wc10 w4.heap.size .u64 5 (carr (ofL a0)) 27 := ⟨hHeld.1.below hb hHeld.1.lt, hHeld.2.below hb hHeld.2.lt⟩
  have HBc10 := Aside0.mk (HBc9.out.trans (hb.mono HBc9.out.size))
  clear hb
  refine ⟨_, rfl, hK.out _ _ hSn (fun hHeld => ?_)⟩
  clear hSn
  clear hK K
  refine norm_ (a' := ?_) ?_ ?_
  rotate_left
  · show Act.put _ (some 35) _ = _
    simp only [Act.put, List.setIfInBounds_toArray, List.set_cons_zero, List.set_cons_succ, i64_w, i32_w]
    rfl
  refine one_ (i := 24) (N := some 36) #[true, true, true, true, true, true, true, true, true, true, true, true, true, true, true, true, true, true, true, true, true, true, true, true, true, false, false, false] rfl rfl (one_of HT_.out (by kernel_rfl)) (by decide) (fun K hK => ?_)
  refine goes_ Try.func19 rfl rfl #[.agg (FR .i64 16 (numD a0))] rfl rfl rfl (by simp only [List.map_toArray, List.map_cons, List.map_nil]; rfl) ((ref_odd_calls _ _ (numD_D a0 HA.out).cb).mono ?_)
  rintro e wc11 ⟨rfl, hb⟩
  have hSn : Row wc11 w.heap.size .u8 32 a0 22 ∧ Row wc11 w4.heap.size .u64 5 (carr (ofL a0)) 27 := ⟨hHeld.1.below hb hHeld.1.lt, hHeld.2.below hb hHeld.2.lt⟩
  have HBc11 := Aside0.mk (HBc10.out.trans (hb.mono HBc10.out.size))
  clear hb
  rw [← HE.out]
  refine ⟨_, rfl, hK.out _ _ hSn (fun hHeld => ?_)⟩
  clear hSn
  clear hK K
  refine norm_ (a' := ?_) ?_ ?_
  rotate_left
  · show Act.put _ (some 36) _ = _
    simp only [Act.put, List.setIfInBounds_toArray, List.set_cons_zero, List.set_cons_succ, i64_w, i32_w]
    rfl
  refine pure_ (i := 25) (N := some 37) (v := ?_) (a' := ?_) #[true, true, true, true, true, true, true, true, true, true, true, true, true, true, true, true, true, true, true, true, true, true, true, true, true, true, false, false] rfl rfl (any_of HT_.out (by kernel_rfl)) (fun _ _ _ h => h) (Or.inl ⟨by rfl, ?_⟩) ?_ ?_
  rotate_left
  · intro w'
    go_simp
    with_reducible rfl
  rotate_left
  · simp only [Act.put, List.setIfInBounds_toArray, List.set_cons_zero, List.set_cons_succ, i64_w, i32_w]
    rfl
  refine pure_ (i := 26) (N := some 38) (v := ?_) (a' := ?_) #[true, true, true, true, true, true, true, true, true, true, true, true, true, true, true, true, true, true, true, true, true, true, true, true, true, true, true, false] rfl rfl (any_of HT_.out (by kernel_rfl)) (fun _ _ _ h => h) (Or.inl ⟨by rfl, ?_⟩) ?_ ?_
  rotate_left
  · intro w'
    go_simp
    with_reducible rfl
  rotate_left
  · simp only [Act.put, List.setIfInBounds_toArray, List.set_cons_zero, List.set_cons_succ, i64_w, i32_w]
    rfl
  refine pure_ (i := 27) (N := some 4) (v := ?_) (a' := ?_) #[true, true, true, true, true, true, true, true, true, true, true, true, true, true, true, true, true, true, true, true, true, true, true, true, true, true, true, true] rfl rfl (any_of HT_.out (by kernel_rfl)) (fun _ _ _ h => h) (Or.inl ⟨by rfl, ?_⟩) ?_ ?_
  rotate_left
  · intro w'
    go_simp
    with_reducible rfl
  rotate_left
  · simp only [Act.put, List.setIfInBounds_toArray, List.set_cons_zero, List.set_cons_succ, i64_w, i32_w]
    rfl
  refine done_ (done_of HT_.out (by kernel_rfl)) ?_
  try go_wp2
  go_ret
  exact ⟨rfl, HBc11.out⟩
end
section
set_option linter.unusedVariables false
set_option linter.unusedSimpArgs false
open Go.RowKit
/-- Limbs that stand for the number n's rest. -/
def Fe (f : Nat → Int) (n : Int) : Prop := Lm f ∧ V51 f % PP = n % PP
/-- Digits as the document keeps them. -/
def Rn (g : Nat → Int) : Prop := (∀ j, j < 16 → j ≠ 0 → 0 ≤ g j ∧ g j < 65536) ∧ (-100000 ≤ g 0 ∧ g 0 ≤ 200000)
/-- Digits that stand for the number n's rest. -/
def Re (g : Nat → Int) (n : Int) : Prop := Rn g ∧ V16 g % PP = n % PP
theorem mod_add {a b n m : Int} (h1 : a % PP = n % PP) (h2 : b % PP = m % PP) : (a + b) % PP = (n + m) % PP := by rw [Int.add_emod, h1, h2, ← Int.add_emod]
theorem mod_sub {a b n m : Int} (h1 : a % PP = n % PP) (h2 : b % PP = m % PP) : (a - b) % PP = (n - m) % PP := by rw [Int.sub_emod, h1, h2, ← Int.sub_emod]
theorem mod_mul {a b n m : Int} (h1 : a % PP = n % PP) (h2 : b % PP = m % PP) : (a * b) % PP = (n * m) % PP := by rw [Int.mul_emod, h1, h2, ← Int.mul_emod]
theorem Rn.b {g : Nat → Int} (h : Rn g) (j : Nat) (hj : j < 16) : -100000 ≤ g j ∧ g j ≤ 200000 := by
  by_cases h0 : j = 0
  · subst h0; exact h.2
  · have := h.1 j hj h0; omega
theorem Rn.cb {g : Nat → Int} (h : Rn g) : CB g := fun j hj => by have := h.b j hj; omega
theorem Rn.cb0 {g : Nat → Int} (h : Rn g) : CB0 g := fun j hj => by have := h.b j hj; omega
theorem D16.rn {g : Nat → Int} (h : D16 g) : Rn g := ⟨fun j hj _ => h j hj, by have := h 0 (by omega); omega⟩
theorem V16_small (f : Nat → Int) (hf : ∀ j, j < 16 → -400000 ≤ f j ∧ f j ≤ 400000) : -10 * QQ ≤ V16 f ∧ V16 f ≤ 10 * QQ := by
  rw [V16_eq]
  have h0 := hf 0 (by omega); have h1 := hf 1 (by omega); have h2 := hf 2 (by omega); have h3 := hf 3 (by omega)
  have h4 := hf 4 (by omega); have h5 := hf 5 (by omega); have h6 := hf 6 (by omega); have h7 := hf 7 (by omega)
  have h8 := hf 8 (by omega); have h9 := hf 9 (by omega); have h10 := hf 10 (by omega); have h11 := hf 11 (by omega)
  have h12 := hf 12 (by omega); have h13 := hf 13 (by omega); have h14 := hf 14 (by omega); have h15 := hf 15 (by omega)
  unfold QQ
  omega
theorem carry_Rn (f : Nat → Int) (hV : -10 * QQ ≤ V16 f ∧ V16 f ≤ 10 * QQ) : Rn (carryN f 16) := by
  refine ⟨carry_digits f, ?_⟩
  rw [carry_zero]
  generalize V16 f = x at *
  unfold QQ at *
  omega
def addR (f g : Nat → Int) : Nat → Int := carryN (fun i => f i + g i) 16
def subR (f g : Nat → Int) : Nat → Int := carryN (fun i => f i - g i) 16
theorem addR_c (f g : Nat → Int) (w : World) (hf : Rn f) (hg : Rn g) : Calls Try.prog 21 #[.agg (FR .i64 16 f), .agg (FR .i64 16 g)] w fun e w' => e = .returned (.agg (FR .i64 16 (addR f g))) ∧ Below w.heap.size w w' := addR_calls f g w hf.cb0 hg.cb0
theorem subR_c (f g : Nat → Int) (w : World) (hf : Rn f) (hg : Rn g) : Calls Try.prog 23 #[.agg (FR .i64 16 f), .agg (FR .i64 16 g)] w fun e w' => e = .returned (.agg (FR .i64 16 (subR f g))) ∧ Below w.heap.size w w' := subR_calls f g w hf.cb0 hg.cb0
theorem Re.add {f g : Nat → Int} {n m : Int} (hf : Re f n) (hg : Re g m) : Re (addR f g) (n + m) := by
  refine ⟨carry_Rn _ (V16_small _ (fun j hj => by have := hf.1.b j hj; have := hg.1.b j hj; omega)), ?_⟩
  unfold addR
  rw [V16_carry_mod]
  have e : V16 (fun i => f i + g i) = V16 f + V16 g := val_add 65536 f g 16
  rw [e]; exact mod_add hf.2 hg.2
theorem Re.sub {f g : Nat → Int} {n m : Int} (hf : Re f n) (hg : Re g m) : Re (subR f g) (n - m) := by
  refine ⟨carry_Rn _ (V16_small _ (fun j hj => by have := hf.1.b j hj; have := hg.1.b j hj; omega)), ?_⟩
  unfold subR
  rw [V16_carry_mod]
  have e : V16 (fun i => f i - g i) = V16 f - V16 g := val_sub 65536 f g 16
  rw [e]; exact mod_sub hf.2 hg.2
theorem Re.num (b : Nat → Int) (hb : By b) : Re (numD b) (N32 b) := ⟨(numD_D b hb).rn, by rw [numD_V]⟩
theorem Re.zero : Re (fun _ => 0) 0 := ⟨⟨fun j _ _ => by show 0 ≤ (0 : Int) ∧ (0 : Int) < 65536; omega, by show -100000 ≤ (0 : Int) ∧ (0 : Int) ≤ 200000; omega⟩, by decide⟩
theorem Re.small (n : Int) (h : 0 ≤ n ∧ n < 4294967296) : Re (carryN (fun i => if i = 0 then n else 0) 16) n := by
  have e : V16 (fun i => if i = 0 then n else 0) = n := by simp [V16, val]
  refine ⟨carry_Rn _ (by rw [e]; unfold QQ; omega), (small_ref n h).2⟩
def addE (f g : Nat → Int) : Nat → Int := carr (fun i => f i + g i)
def subM : Nat → Int
  | 0 => 9007199254740916
  | _ => 9007199254740988
def subE (f g : Nat → Int) : Nat → Int := carr (fun i => f i + (subM i - g i))
def negE (g : Nat → Int) : Nat → Int := carr (fun i => 0 + (subM i - g i))
theorem five_of {f : Nat → Int} (h : Lm f) : ∀ x ∈ [f 0, f 1, f 2, f 3, f 4], 0 ≤ x ∧ x < 4503599627370496 := by
  have h0 := h.b 0 (by omega); have h1 := h.b 1 (by omega); have h2 := h.b 2 (by omega); have h3 := h.b 3 (by omega); have h4 := h.b 4 (by omega)
  intro x hx
  simp only [List.mem_cons, List.not_mem_nil, or_false] at hx
  rcases hx with rfl | rfl | rfl | rfl | rfl <;> assumption
theorem addE_c (f g : Nat → Int) (w : World) (hf : Lm f) (hg : Lm g) : Calls Try.prog 20 #[.agg (FR .u64 5 f), .agg (FR .u64 5 g)] w fun e w' => e = .returned (.agg (FR .u64 5 (addE f g))) ∧ Below w.heap.size w w' := add_calls _ _ _ _ _ _ _ _ _ _ w (five_of hf) (five_of hg)
theorem subE_c (f g : Nat → Int) (w : World) (hf : Lm f) (hg : Lm g) : Calls Try.prog 22 #[.agg (FR .u64 5 f), .agg (FR .u64 5 g)] w fun e w' => e = .returned (.agg (FR .u64 5 (subE f g))) ∧ Below w.heap.size w w' := sub_calls _ _ _ _ _ _ _ _ _ _ w (five_of hf) (five_of hg)
theorem negE_c (g : Nat → Int) (w : World) (hg : Lm g) : Calls Try.prog 24 #[.agg (FR .u64 5 g)] w fun e w' => e = .returned (.agg (FR .u64 5 (negE g))) ∧ Below w.heap.size w w' := neg_calls _ _ _ _ _ w (five_of hg)
theorem Fe.add {f g : Nat → Int} {n m : Int} (hf : Fe f n) (hg : Fe g m) : Fe (addE f g) (n + m) := by
  refine ⟨carr_Lm _ (fun i hi => by have := hf.1.b i hi; have := hg.1.b i hi; omega), ?_⟩
  unfold addE
  rw [carr_mod]
  have e : V51 (fun i => f i + g i) = V51 f + V51 g := by unfold V51; dsimp only; omega
  rw [e]; exact mod_add hf.2 hg.2
theorem subM_V (f g : Nat → Int) : V51 (fun i => f i + (subM i - g i)) = V51 f - V51 g + PP * 4 := by
  unfold V51 PP
  simp only [subM]
  omega
theorem Fe.sub {f g : Nat → Int} {n m : Int} (hf : Fe f n) (hg : Fe g m) : Fe (subE f g) (n - m) := by
  refine ⟨carr_Lm _ (fun i hi => by have := hf.1.b i hi; have := hg.1.b i hi; unfold subM; split <;> omega), ?_⟩
  unfold subE
  rw [carr_mod, subM_V, Int.add_mul_emod_self_left]
  exact mod_sub hf.2 hg.2
theorem Fe.neg {g : Nat → Int} {m : Int} (hg : Fe g m) : Fe (negE g) (0 - m) := by
  refine ⟨carr_Lm _ (fun i hi => by have := hg.1.b i hi; unfold subM; split <;> omega), ?_⟩
  unfold negE
  rw [carr_mod, subM_V (fun _ => 0) g, Int.add_mul_emod_self_left]
  exact mod_sub (by decide) hg.2
theorem Fe.of (b : Nat → Int) (hb : By b) : Fe (carr (ofL b)) (N32 b) := ⟨of_Lm b hb, of_mod b hb⟩
theorem Fe.small (n : Int) (h : 0 ≤ n ∧ n < 4294967296) : Fe (smL n) n := ⟨smL_Lm n h, by rw [smL_V]⟩
end
section
set_option linter.unusedVariables false
set_option linter.unusedSimpArgs false
open Go.RowKit Go.Proofs.YthonoagpiofojaaW.PrintWords Go.Proofs.YthonoagpiofojaaW.PrintLast Go.Proofs.YthonoagpiofojaaW.PrintMore
theorem oper_storeG {P : Program} {o : Oper} {ops : Array Oper} {a : Act} {w : World} {K : Act → World → Prop} {Q : Exit → Act → World → Prop} {k : IntKind} {n : Nat} {f : Nat → Int} {t ty : TypeId} {x y : Operand} {g : Nat}
    (f' : Nat → Int) (hr : Row w g k n f t) (hi : (P.info? ty).map (·.size) = some n) (hw : Region.wanted o (yielded ops a.tmps) = true) (hdst : o.dst = none) (ho : o.op = .store ty x y) (hx : a.eval x = .pointer (some ⟨g, 0, none⟩)) (hy : a.eval y = .agg (FR k n f'))
    (h : ∀ w', Stored w w' g → Row w' g k n f' t → K a w') : if Region.wanted o (yielded ops a.tmps) = true then Oper.wp P o a w K Q else K (a.put none undef) w := by
  rw [if_pos hw]
  obtain ⟨ie, hie, hs⟩ : ∃ ie, P.info? ty = some ie ∧ ie.size = n := by
    cases he : P.info? ty with
    | none => rw [he] at hi; cases hi
    | some ie => rw [he] at hi; exact ⟨ie, rfl, Option.some.inj hi⟩
  unfold Oper.wp execOp
  simp only [ho, hx, hy, Instr.storeAt, Instr.sureAddr, Sem.run_bind, Sem.run_pure, Result.andThen_ok, run_storeVar_row ty ie hie g t (FR k n f) (FR k n f') w hr (by rw [FR_size, FR_size]) (by rw [FR_size, hs]) (FR_one k n f')]
  have := h _ ⟨fun k hk => setCells_other hk _ _ _, setCells_size g _ _ _, fun B W hB hb => bel_setCells hB _ _ _ hb⟩ (Row.all hr)
  show K (a.put o.dst undef) _
  rw [hdst]
  exact this
theorem is_true_of (f g : Nat → Int) (n : Int) (hf : Fe f n) (hg : Re g n) (w : World) : Calls Try.prog 14 #[.agg (FR .u64 5 f), .agg (FR .i64 16 g)] w fun e w' => e = .returned (.bool true) ∧ Below w.heap.size w w' :=
  law_is_true f g hf.1 hg.1.cb (by rw [hf.2, hg.2]) w
end
section
set_option linter.unusedVariables false
set_option linter.unusedSimpArgs false
open Go.RowKit
theorem and32 (x : Nat) (h : x < 18446744073709551616) : Go.bits .and .u64 (x : Int) 4294967295 = ((x % 4294967296 : Nat) : Int) := by
  rw [u64_and _ _ (by omega) (by omega) (by omega) (by omega), show (4294967295 : Int).toNat = 2 ^ 32 - 1 from rfl, Nat.and_two_pow_sub_one_eq_mod]
  rfl
theorem add64_run (x y c : Int) (hx : 0 ≤ x) (hy : 0 ≤ y) (hc0 : 0 ≤ c) (hc : c ≤ 1) (w : World) :
    (callFunc 41 #[.int .u64 x, .int .u64 y, .int .u64 c]).run Try.prog w = .ok (.value (.tuple #[.int .u64 ((x + y + c) % 18446744073709551616), .int .u64 ((x + y + c) / 18446744073709551616)])) w := by
  rw [run_callFunc_extern Try.func41 (by kernel_rfl) (by kernel_rfl) (by kernel_rfl) (e := add64Entry) (by kernel_rfl), run_add64 x y c hx hy hc0 hc]
  rfl
theorem mod32 (z : Int) : Go.bits .and .u64 (z % 18446744073709551616) 4294967295 = z % 18446744073709551616 % 4294967296 := by
  have h := and32 (z % 18446744073709551616).toNat (by omega)
  rw [Int.toNat_of_nonneg (by omega)] at h
  rw [h]; omega
theorem u64wm (z : Int) : IntKind.u64.wrap z = z % 18446744073709551616 := rfl
theorem mul64_calls (x y : Nat) (hx : x < 18446744073709551616) (hy : y < 18446744073709551616) (w : World) :
    Calls Try.prog 47 #[.int .u64 (x : Int), .int .u64 (y : Int)] w fun e w' => e = .returned (.tuple #[.int .u64 ((x * y / 18446744073709551616 : Nat) : Int), .int .u64 ((x * y % 18446744073709551616 : Nat) : Int)]) ∧ w' = w := by
  obtain ⟨h1, h2, h3, h4⟩ := Lib.mul64_hi x y hx hy
  have a0 := and32 x hx
  have a1 := and32 y hy
  go_enter Try.func47, Try.ntmps47
  go_wp2_with fail
  go_ret2
  refine ⟨?_, rfl⟩
  show Ending.returned (Value.tuple #[_, _]) = _
  simp only [u64wm]
  have c1 : (x : Int) / 4294967296 * ((y : Int) / 4294967296) = ((x / 4294967296 * (y / 4294967296) : Nat) : Int) := by simp
  have c2 : (x : Int) / 4294967296 * ((y : Int) % 4294967296) = ((x / 4294967296 * (y % 4294967296) : Nat) : Int) := by simp
  have c3 : (x : Int) % 4294967296 * ((y : Int) / 4294967296) = ((x % 4294967296 * (y / 4294967296) : Nat) : Int) := by simp
  have c4 : (x : Int) % 4294967296 * ((y : Int) % 4294967296) = ((x % 4294967296 * (y % 4294967296) : Nat) : Int) := by simp
  have c5 : (x : Int) * (y : Int) = ((x * y : Nat) : Int) := by simp
  have hb : x * y / 18446744073709551616 < 18446744073709551616 := by
    rw [Nat.div_lt_iff_lt_mul (by omega)]
    exact Nat.mul_lt_mul_of_lt_of_lt hx hy
  rw [← h4] at hb
  rw [c1, c2, c3, c4, c5, ← h4]
  clear a0 a1 c1 c2 c3 c4 c5 h4
  generalize x / 4294967296 * (y / 4294967296) = A at *
  generalize x / 4294967296 * (y % 4294967296) = B at *
  generalize x % 4294967296 * (y / 4294967296) = C at *
  generalize x % 4294967296 * (y % 4294967296) = D at *
  rw [mod32]
  simp only [Array.getD_eq_getD_getElem?, List.getElem?_toArray, List.getElem?_cons_succ, List.getElem?_cons_zero, Option.getD_some, Ending.returned.injEq, Value.tuple.injEq, Array.mk.injEq, List.cons.injEq, Value.int.injEq, true_and, and_true]
  constructor
  · omega
  · omega
end
section
set_option linter.unusedVariables false
set_option linter.unusedSimpArgs false
open Go.RowKit
theorem val_upd (B : Int) (f : Nat → Int) (j : Nat) (x : Int) : ∀ n, j < n → val B (upd f j (f j + x)) n = val B f n + x * B ^ j
  | 0, h => absurd h (by omega)
  | n + 1, h => by
    rw [val, val]
    by_cases hj : j = n
    · subst hj
      rw [upd_same, val_congr B (upd f j (f j + x)) f j (fun i hi => upd_other _ _ _ _ (by omega))]
      grind
    · rw [val_upd B f j x n (by omega), upd_other _ _ _ _ (fun e => hj e.symm)]
      omega
/-- The columns behind s steps. -/
def tN (f g : Nat → Int) : Nat → Nat → Int
  | 0 => fun _ => 0
  | s + 1 => upd (tN f g s) (s / 16 + s % 16) (tN f g s (s / 16 + s % 16) + f (s / 16) * g (s % 16))
theorem tN_succ (f g : Nat → Int) (s : Nat) : tN f g (s + 1) = upd (tN f g s) (s / 16 + s % 16) (tN f g s (s / 16 + s % 16) + f (s / 16) * g (s % 16)) := rfl
theorem tN_step (f g : Nat → Int) (i k : Nat) (hk : k < 16) : tN f g (16 * i + (k + 1)) = upd (tN f g (16 * i + k)) (i + k) (tN f g (16 * i + k) (i + k) + f i * g k) := by
  have e1 : (16 * i + k) / 16 = i := by omega
  have e2 : (16 * i + k) % 16 = k := by omega
  have h := tN_succ f g (16 * i + k)
  rw [e1, e2] at h
  exact h
theorem val_succ (B : Int) (f : Nat → Int) (n : Nat) : val B f (n + 1) = val B f n + f n * B ^ n := rfl
theorem prod_b {x y : Int} (hx : -100000 ≤ x ∧ x ≤ 200000) (hy : -100000 ≤ y ∧ y ≤ 200000) : -40000000000 ≤ x * y ∧ x * y ≤ 40000000000 := by
  have h1 : x.natAbs ≤ 200000 := by omega
  have h2 : y.natAbs ≤ 200000 := by omega
  have h3 : x.natAbs * y.natAbs ≤ 200000 * 200000 := Nat.mul_le_mul h1 h2
  have h4 : (x * y).natAbs = x.natAbs * y.natAbs := Int.natAbs_mul x y
  omega
theorem tN_b (f g : Nat → Int) (hf : Rn f) (hg : Rn g) : ∀ s : Nat, s ≤ 256 → ∀ j, - ((s : Int) * 40000000000) ≤ tN f g s j ∧ tN f g s j ≤ (s : Int) * 40000000000
  | 0, _, j => by simp [tN]
  | s + 1, hs, j => by
    have ih := tN_b f g hf hg s (by omega)
    have hp := prod_b (hf.b (s / 16) (by omega)) (hg.b (s % 16) (by omega))
    have h1 := ih j
    have h2 := ih (s / 16 + s % 16)
    rw [tN_succ]
    unfold upd
    split
    · constructor <;> push_cast <;> omega
    · constructor <;> push_cast <;> omega
theorem tN_val (f g : Nat → Int) : ∀ i, i ≤ 16 → ∀ k, k ≤ 16 → val 65536 (tN f g (16 * i + k)) 31 = val 65536 f i * val 65536 g 16 + f i * 65536 ^ i * val 65536 g k ∨ (i = 16 ∧ 0 < k) := by
  have row : ∀ i, i < 16 → val 65536 (tN f g (16 * i)) 31 = val 65536 f i * val 65536 g 16 → ∀ k, k ≤ 16 → val 65536 (tN f g (16 * i + k)) 31 = val 65536 f i * val 65536 g 16 + f i * 65536 ^ i * val 65536 g k := by
    intro i hi h0 k
    induction k with
    | zero => intro _; show val 65536 (tN f g (16 * i)) 31 = _; rw [h0]; simp [val]
    | succ k ih =>
      intro hk
      rw [tN_step f g i k (by omega), val_upd 65536 _ _ _ 31 (by omega), ih (by omega), val_succ 65536 g k, Int.pow_add]
      grind
  have col : ∀ i, i ≤ 16 → val 65536 (tN f g (16 * i)) 31 = val 65536 f i * val 65536 g 16 := by
    intro i
    induction i with
    | zero => intro _; show val 65536 (fun _ => 0) 31 = _; simp [val]
    | succ i ih =>
      intro hi
      have h := row i (by omega) (ih (by omega)) 16 (by omega)
      rw [show 16 * (i + 1) = 16 * i + 16 by omega, h, val_succ 65536 f i]
      grind
  intro i hi k hk
  by_cases h : i = 16
  · subst h
    rcases Nat.eq_zero_or_pos k with h0 | h0
    · subst h0
      left
      rw [show 16 * 16 + 0 = 16 * 16 by omega, col 16 (by omega)]
      simp [val]
    · right; exact ⟨rfl, h0⟩
  · left; exact row i (by omega) (col i (by omega)) k hk
/-- What carries are taken of. -/
def outR (f g : Nat → Int) (i : Nat) : Int := if i < 15 then tN f g 256 i + 38 * tN f g 256 (i + 16) else tN f g 256 i
def mulR (f g : Nat → Int) : Nat → Int := carryN (carryN (outR f g) 16) 16
theorem outR_V (f g : Nat → Int) : V16 (outR f g) % PP = (V16 f * V16 g) % PP := by
  have h := tN_val f g 16 (by omega) 0 (by omega)
  have h1 : val 65536 (tN f g 256) 31 = V16 f * V16 g := by
    rcases h with h | h
    · have e : val 65536 (tN f g 256) 31 = val 65536 f 16 * val 65536 g 16 + f 16 * 65536 ^ 16 * val 65536 g 0 := h
      rw [e]; show V16 f * V16 g + f 16 * 65536 ^ 16 * 0 = _; omega
    · omega
  have h2 := val_split 65536 (tN f g 256) 16 15
  have e1 : V16 (outR f g) = val 65536 (tN f g 256) 16 + 38 * val 65536 (fun j => tN f g 256 (16 + j)) 15 := by
    rw [V16_eq]
    simp only [outR, val, Nat.reduceLT, Nat.reduceAdd, ↓reduceIte, if_true, if_false]
    omega
  rw [e1, ← h1, h2, QQ_pow, QQ_PP]
  generalize val 65536 (tN f g 256) 16 = x
  generalize val 65536 (fun j => tN f g 256 (16 + j)) 15 = y
  rw [show x + (2 * PP + 38) * y = (x + 38 * y) + PP * (2 * y) by grind, Int.add_mul_emod_self_left]
theorem outR_b (f g : Nat → Int) (hf : Rn f) (hg : Rn g) : CB (outR f g) := fun j hj => by
  have h1 := tN_b f g hf hg 256 (by omega) j
  have h2 := tN_b f g hf hg 256 (by omega) (j + 16)
  unfold outR
  split <;> omega
theorem Re.mul {f g : Nat → Int} {n m : Int} (hf : Re f n) (hg : Re g m) : Re (mulR f g) (n * m) := by
  have h1 := carry_CB1 _ (outR_b f g hf.1 hg.1)
  have h2 := V16_b1 _ h1
  refine ⟨carry_Rn _ (by unfold QQ at *; omega), ?_⟩
  unfold mulR
  rw [V16_carry_mod, V16_carry_mod, outR_V]
  exact mod_mul hf.2 hg.2
end
section
set_option linter.unusedVariables false
set_option linter.unusedSimpArgs false
open Go.RowKit
attribute [local go_sem] setCell_drewN
def URel (w : World) (f g : Nat → Int) (i : Nat) (v7 : Value) (wr : World) : Prop :=
  ∃ k : Nat, k ≤ 16 ∧ v7 = .int .i64 (k : Int) ∧ Below w.heap.size w wr ∧ Row wr w.heap.size .i64 16 f 33 ∧ Row wr (w.heap.size + 1) .i64 16 g 33 ∧ Row wr (w.heap.size + 1 + 1) .i64 16 (fun _ => 0) 33 ∧ Row wr (w.heap.size + 1 + 1 + 1) .i64 31 (tN f g (16 * i + k)) 67
def TRel (w : World) (f g : Nat → Int) (v6 : Value) (wr : World) : Prop :=
  ∃ i : Nat, i ≤ 16 ∧ v6 = .int .i64 (i : Int) ∧ Below w.heap.size w wr ∧ Row wr w.heap.size .i64 16 f 33 ∧ Row wr (w.heap.size + 1) .i64 16 g 33 ∧ Row wr (w.heap.size + 1 + 1) .i64 16 (fun _ => 0) 33 ∧ Row wr (w.heap.size + 1 + 1 + 1) .i64 31 (tN f g (16 * i)) 67
def XRel (w : World) (f g : Nat → Int) (v9 : Value) (bo : Nat) (wr : World) : Prop :=
  ∃ i : Nat, i ≤ 16 ∧ v9 = .int .i64 (i : Int) ∧ Below w.heap.size w wr ∧ Row wr (w.heap.size + 1 + 1) .i64 16 (fun _ => 0) 33 ∧ Row wr (w.heap.size + 1 + 1 + 1) .i64 31 (tN f g 256) 67 ∧ Row wr bo .i64 16 (fun j => if j < i then outR f g j else 0) 33
theorem ij_nat (i k : Nat) : ((i : Int) + (k : Int)).toNat = i + k := by omega
theorem bel_four (w : World) (a b c d : Obj) : Below w.heap.size w ((((w.alloc a).alloc b).alloc c).alloc d) := (bel_three w a b c).alloc (bel_three w a b c).size d
theorem four_new (w : World) (a b c d : Obj) : ((((w.alloc a).alloc b).alloc c).alloc d).heap[w.heap.size + 1 + 1 + 1]? = some d := by
  have h := heap_alloc_new (((w.alloc a).alloc b).alloc c) d
  have e : (((w.alloc a).alloc b).alloc c).heap.size = w.heap.size + 1 + 1 + 1 := by simp
  rwa [e] at h
theorem mul_wraps (i k : Nat) (hi : i < 16) (hk : k < 16) : wrap64 ((i : Int) + (k : Int)) = (i : Int) + (k : Int) ∧ IntKind.i64.wrap ((i : Int) + (k : Int)) = (i : Int) + (k : Int) := ⟨w64 _ (by omega), i64w _ (by omega)⟩
theorem mul_vals (f g : Nat → Int) (hf : Rn f) (hg : Rn g) (i k s : Nat) (hi : i < 16) (hk : k < 16) (hs : s ≤ 256) (j : Nat) : wrap64 (f i * g k) = f i * g k ∧ IntKind.i64.wrap (f i * g k) = f i * g k ∧ wrap64 (tN f g s j + f i * g k) = tN f g s j + f i * g k ∧ IntKind.i64.wrap (tN f g s j + f i * g k) = tN f g s j + f i * g k := by
  have h1 := prod_b (hf.b i hi) (hg.b k hk)
  have h2 := tN_b f g hf hg s hs j
  generalize f i * g k = x at *
  generalize tN f g s j = y at *
  exact ⟨w64 _ (by omega), i64w _ (by omega), w64 _ (by omega), i64w _ (by omega)⟩
theorem out_wraps (x y : Int) (hx : -((256 : Nat) : Int) * 40000000000 ≤ x ∧ x ≤ ((256 : Nat) : Int) * 40000000000) (hy : -((256 : Nat) : Int) * 40000000000 ≤ y ∧ y ≤ ((256 : Nat) : Int) * 40000000000) : wrap64 (38 * y) = 38 * y ∧ IntKind.i64.wrap (38 * y) = 38 * y ∧ wrap64 (x + 38 * y) = x + 38 * y ∧ IntKind.i64.wrap (x + 38 * y) = x + 38 * y := ⟨w64 _ (by omega), i64w _ (by omega), w64 _ (by omega), i64w _ (by omega)⟩
theorem mulR_c (f g : Nat → Int) (w : World) (hf : Rn f) (hg : Rn g) :
    Calls Try.prog 27 #[.agg (FR .i64 16 f), .agg (FR .i64 16 g)] w fun e w' => e = .returned (.agg (FR .i64 16 (mulR f g))) ∧ Below w.heap.size w w' := by
  have HF := Aside0.mk hf
  have HG := Aside0.mk hg
  have HO := Aside0.mk (outR_b f g hf hg)
  clear hf hg
  go_enter Try.func27, Try.ntmps27
  go_wp2_with fail
  have HB0 := Aside0.mk (bel_four w (.cells (FR .i64 16 f) 33) (.cells (FR .i64 16 g) 33) (.cells (FR .i64 16 fun _ => 0) 33) (.cells (FR .i64 31 fun _ => 0) 67))
  have HR0 : Aside0 (Row ((((w.alloc (.cells (FR .i64 16 f) 33)).alloc (.cells (FR .i64 16 g) 33)).alloc (.cells (FR .i64 16 fun _ => 0) 33)).alloc (.cells (FR .i64 31 fun _ => 0) 67)) w.heap.size .i64 16 f 33) := ⟨(((Row.new w .i64 16 f 33).alloc _).alloc _).alloc _⟩
  have HR1 : Aside0 (Row ((((w.alloc (.cells (FR .i64 16 f) 33)).alloc (.cells (FR .i64 16 g) 33)).alloc (.cells (FR .i64 16 fun _ => 0) 33)).alloc (.cells (FR .i64 31 fun _ => 0) 67)) (w.heap.size + 1) .i64 16 g 33) := ⟨Row.alloc (Row.alloc (show Row ((w.alloc (.cells (FR .i64 16 f) 33)).alloc (.cells (FR .i64 16 g) 33)) (w.heap.size + 1) .i64 16 g 33 from heap_alloc2_new w _ _) _) _⟩
  have HR2 : Aside0 (Row ((((w.alloc (.cells (FR .i64 16 f) 33)).alloc (.cells (FR .i64 16 g) 33)).alloc (.cells (FR .i64 16 fun _ => 0) 33)).alloc (.cells (FR .i64 31 fun _ => 0) 67)) (w.heap.size + 1 + 1) .i64 16 (fun _ => 0) 33) := ⟨Row.alloc (show Row (((w.alloc (.cells (FR .i64 16 f) 33)).alloc (.cells (FR .i64 16 g) 33)).alloc (.cells (FR .i64 16 fun _ => 0) 33)) (w.heap.size + 1 + 1) .i64 16 (fun _ => 0) 33 from three_new w _ _ _) _⟩
  have HR3 : Aside0 (Row ((((w.alloc (.cells (FR .i64 16 f) 33)).alloc (.cells (FR .i64 16 g) 33)).alloc (.cells (FR .i64 16 fun _ => 0) 33)).alloc (.cells (FR .i64 31 fun _ => 0) 67)) (w.heap.size + 1 + 1 + 1) .i64 31 (fun _ => 0) 67) := ⟨four_new w _ _ _ _⟩
  go_loopw [6] (fun v6 wr => TRel w f g v6 wr) (fun v _ => 16 - (intOf v).toNat)
  case atStart => exact ⟨0, by omega, rfl, HB0.out, HR0.out, HR1.out, HR2.out, row_eq HR3.out (fun j _ => by rw [Nat.mul_zero]; rfl)⟩
  case round =>
    clear HB0 HR0 HR1 HR2 HR3
    obtain ⟨i, hi, rfl, hb, hr, hg, hz, ht⟩ := hrel
    have HB := Aside0.mk hb
    have HR := Aside0.mk hr
    have HR2 := Aside0.mk hg
    have HZ := Aside0.mk hz
    have HT := Aside0.mk ht
    have hl1 := hr.lt
    have hl2 := hg.lt
    have hl3 := hz.lt
    have hl4 := ht.lt
    clear hb hr hg hz ht
    rcases Nat.lt_or_ge i 16 with h16 | h16
    · have hlt : ((i : Int) < 16) = True := eq_true (by omega)
      go_wp2_with fail
      go_loopw [7] (fun v7 wr => URel w f g i v7 wr) (fun v _ => 16 - (intOf v).toNat)
      case atStart => exact ⟨0, by omega, rfl, HB.out, HR.out, HR2.out, HZ.out, HT.out⟩
      case round =>
        clear HB HR HR2 HZ HT
        obtain ⟨k, hk, rfl, hb, hr, hg, hz, ht⟩ := hrel
        have HB := Aside0.mk hb
        have HR := Aside0.mk hr
        have HR2 := Aside0.mk hg
        have HZ := Aside0.mk hz
        have HT := Aside0.mk ht
        rcases Nat.lt_or_ge k 16 with h17 | h17
        · have hltk : ((k : Int) < 16) = True := eq_true (by omega)
          have hlt31 : ((i : Int) + (k : Int) < 31) = True := eq_true (by omega)
          have hij := ij_nat i k
          obtain ⟨q1, q2⟩ := mul_wraps i k h16 h17
          obtain ⟨q3, q4, q5, q6⟩ := mul_vals f g HF.out HG.out i k (16 * i + k) h16 h17 (by omega) (i + k)
          have k0 := hr.cell i (by omega)
          have k1 := hg.cell k (by omega)
          have k2 := ht.cell (i + k) (by omega)
          have f2 := ht.fro (i + k)
          have HS := Aside0.mk (ht.set (i + k) (tN f g (16 * i + k) (i + k) + f i * g k) (by omega))
          have HE := Aside0.mk (tN_step f g i k h17)
          clear hb hr hg hz ht
          go_wp2_with fail
          go_region
          all_goals go_wp2_with fail
          refine ⟨⟨k + 1, by omega, rfl, (bel_set HB.out ⟨w.heap.size + 1 + 1 + 1, i + k, none⟩ _ (by simp; omega)).drew, HR.out.other ⟨w.heap.size + 1 + 1 + 1, i + k, none⟩ _ (by simp; omega), HR2.out.other ⟨w.heap.size + 1 + 1 + 1, i + k, none⟩ _ (by simp), HZ.out.other ⟨w.heap.size + 1 + 1 + 1, i + k, none⟩ _ (by simp), ?_⟩, meas_up 16 k (by omega)⟩
          rw [HE.out]
          exact HS.out
        · obtain rfl : k = 16 := by omega
          clear hb hr hg hz ht
          go_wp2_with fail
          exact ⟨⟨i + 1, by omega, rfl, HB.out, HR.out, HR2.out, HZ.out, HT.out⟩, meas_up 16 i (by omega)⟩
    · obtain rfl : i = 16 := by omega
      clear HR HR2
      have HN := Aside0.mk (Row.new wr .i64 16 (fun _ => 0) 33)
      have HZ2 := Aside0.mk (HZ.out.alloc (.cells (FR .i64 16 fun _ => 0) 33))
      have HT2 := Aside0.mk (HT.out.alloc (.cells (FR .i64 16 fun _ => 0) 33))
      have HB2 := Aside0.mk (HB.out.alloc (by omega) (.cells (FR .i64 16 fun _ => 0) 33))
      go_wp2_with fail
      have hbo : w.heap.size + 1 + 1 + 1 < wr.heap.size := hl4
      generalize wr.heap.size = bo at *
      go_loopw [9] (fun v9 wr' => XRel w f g v9 bo wr') (fun v _ => 16 - (intOf v).toNat)
      case atStart => exact ⟨0, by omega, rfl, HB2.out, HZ2.out, HT2.out, row_eq HN.out (fun j hj => (if_neg (by omega)).symm)⟩
      case round =>
        clear HN HZ2 HT2 HB2 HB HZ HT
        obtain ⟨i, hi, rfl, hb, hz, ht, ho⟩ := hrel
        have HB := Aside0.mk hb
        have HZ := Aside0.mk hz
        have HT := Aside0.mk ht
        have HO2 := Aside0.mk ho
        rcases Nat.lt_or_ge i 16 with h16 | h16
        · have hlt : ((i : Int) < 16) = True := eq_true (by omega)
          have hlt31 : ((i : Int) < 31) = True := eq_true (by omega)
          have k0 := ht.cell i (by omega)
          have f0 := ho.fro i
          have k2 := ho.cell i (by omega)
          have HS := Aside0.mk (ho.set i (tN f g 256 i) (by omega))
          have hs1 := ho.set i (tN f g 256 i) (by omega)
          have hb1 := tN_b f g HF.out HG.out 256 (by omega) i
          have hb2 := tN_b f g HF.out HG.out 256 (by omega) (i + 16)
          rcases Nat.lt_or_ge i 15 with h15 | h15
          · have hlt15 : ((i : Int) < 15) = True := eq_true (by omega)
            have hlt3 : ((i : Int) + 16 < 31) = True := eq_true (by omega)
            have k1 := ht.cell (i + 16) (by omega)
            have HE : Aside0 (outR f g i = tN f g 256 i + 38 * tN f g 256 (i + 16)) := ⟨if_pos h15⟩
            generalize tN f g 256 i = x at *
            generalize tN f g 256 (i + 16) = y at *
            have q1 : wrap64 ((i : Int) + 16) = (i : Int) + 16 := w64 _ (by omega)
            have q2 : IntKind.i64.wrap ((i : Int) + 16) = (i : Int) + 16 := i64w _ (by omega)
            have q3 : ((i : Int) + 16).toNat = i + 16 := by omega
            obtain ⟨r1, r2, r3, r4⟩ := out_wraps x y (by omega) (by omega)
            have HS2 := Aside0.mk (hs1.set i (x + 38 * y) (by omega))
            clear hb hz ht ho hs1 hb1 hb2
            go_wp2_with fail
            go_region
            all_goals go_wp2_with fail
            refine ⟨⟨i + 1, by omega, rfl, ?_, ?_, ?_, ?_⟩, meas_up 16 i (by omega)⟩
            · exact (bel_set (bel_set HB.out ⟨bo, i, none⟩ _ (by simp; omega)) ⟨bo, i, none⟩ _ (by simp; omega)).drew
            · exact (HZ.out.other ⟨bo, i, none⟩ _ (by simp; omega)).other ⟨bo, i, none⟩ _ (by simp; omega)
            · exact (HT.out.other ⟨bo, i, none⟩ _ (by simp; omega)).other ⟨bo, i, none⟩ _ (by simp; omega)
            · exact row_eq HS2.out (fun j hj => by
                unfold upd
                by_cases hji : j = i
                · subst hji; rw [if_pos rfl, if_pos (by omega), HE.out]
                · rw [if_neg hji, if_neg hji]
                  show (if j < i then outR f g j else 0) = _
                  by_cases hjl : j < i
                  · rw [if_pos hjl, if_pos (by omega)]
                  · rw [if_neg hjl, if_neg (by omega)])
          · obtain rfl : i = 15 := by omega
            have HE : Aside0 (outR f g 15 = tN f g 256 15) := ⟨if_neg (by omega)⟩
            generalize tN f g 256 15 = x at *
            clear hb hz ht ho hs1 hb1 hb2
            go_wp2_with fail
            refine ⟨⟨16, by omega, rfl, ?_, ?_, ?_, ?_⟩, by decide⟩
            · exact bel_set HB.out ⟨bo, 15, none⟩ _ (by simp; omega)
            · exact HZ.out.other ⟨bo, 15, none⟩ _ (by simp; omega)
            · exact HT.out.other ⟨bo, 15, none⟩ _ (by simp; omega)
            · exact row_eq HS.out (fun j hj => by
                unfold upd
                by_cases hji : j = 15
                · subst hji; rw [if_pos rfl, if_pos (by omega), HE.out]
                · rw [if_neg hji]
                  show (if j < 15 then outR f g j else 0) = _
                  by_cases hjl : j < 15
                  · rw [if_pos hjl, if_pos (by omega)]
                  · omega)
        · obtain rfl : i = 16 := by omega
          have HO3 := Aside0.mk (row_eq HO2.out (f' := outR f g) (fun j hj => if_pos hj))
          have hlz := hz.lt
          clear hb hz ht ho HO2
          go_wp2_with (refine step_load HO3.out Try.underlying33 info33 rfl rfl rfl rfl ?_)
          refine (carry_calls _ _ HO.out).mono ?_
          rintro e w1 ⟨rfl, hb⟩
          have HZ1 := Aside0.mk (HZ.out.below hb hlz)
          have HB1 := Aside0.mk (HB.out.trans (hb.mono HB.out.size))
          clear hb
          go_wp2_with fail
          refine (carry_calls _ _ (carry_CB1 _ HO.out).cb).mono ?_
          rintro e w2 ⟨rfl, hb⟩
          have HZ2 := Aside0.mk (HZ1.out.below hb HZ1.out.lt)
          have HB2 := Aside0.mk (HB1.out.trans (hb.mono HB1.out.size))
          clear hb
          go_wp2_with (refine step_storeG _ HZ2.out info33 rfl rfl rfl rfl rfl ?_; intro w9 hs hr; have HS9 := Aside0.mk hs; have HR9 := Aside0.mk hr; clear hs hr)
          refine bodyPost_ret (row_results rfl HR9.out rfl Try.underlying33 rfl info33) rfl ?_
          exact ⟨rfl, HS9.out.bel _ _ (by omega) HB2.out⟩
end
section
set_option linter.unusedVariables false
set_option linter.unusedSimpArgs false
open Go.RowKit
attribute [local go_sem] setCell_drewN
/-- A number of 128 bits in two words. -/
def wd (W : Int) (i : Nat) : Int := if i = 0 then W / 18446744073709551616 else W % 18446744073709551616
theorem info62 : (Try.prog.info? 62).map (·.size) = some 2 := by kernel_rfl
theorem plus_calls (W : Int) (x y : Nat) (w : World) (hx : x < 18446744073709551616) (hy : y < 18446744073709551616) (hW : 0 ≤ W) (hs : W + (x : Int) * (y : Int) < 340282366920938463463374607431768211456) :
    Calls Try.prog 40 #[.agg (FR .u64 2 (wd W)), .int .u64 (x : Int), .int .u64 (y : Int)] w fun e w' => e = .returned (.agg (FR .u64 2 (wd (W + (x : Int) * (y : Int))))) ∧ Below w.heap.size w w' := by
  have HM := Aside0.mk (fun w => mul64_calls x y hx hy w)
  obtain ⟨H, hH⟩ : ∃ H, x * y / 18446744073709551616 = H := ⟨_, rfl⟩
  obtain ⟨L, hL⟩ : ∃ L, x * y % 18446744073709551616 = L := ⟨_, rfl⟩
  have hxy : (x : Int) * (y : Int) = ((x * y : Nat) : Int) := by simp
  rw [hxy] at hs ⊢
  rw [hH, hL] at HM
  have hsum : x * y = H * 18446744073709551616 + L := by omega
  have hLb : L < 18446744073709551616 := by omega
  rw [hsum] at hs ⊢
  clear hH hL hxy hsum
  have hw0 : wd W 0 = W / 18446744073709551616 := rfl
  have hw1 : wd W 1 = W % 18446744073709551616 := rfl
  have b0 : 0 ≤ wd W 0 ∧ wd W 0 < 18446744073709551616 := by omega
  have b1 : 0 ≤ wd W 1 ∧ wd W 1 < 18446744073709551616 := by omega
  have c1 := add64_run (wd W 1) (L : Int) 0 b1.1 (by omega) (by omega) (by omega)
  have c2 := add64_run (wd W 0) (H : Int) ((wd W 1 + (L : Int)) / 18446744073709551616) b0.1 (by omega) (by omega) (by omega)
  have HV : Aside0 (∀ i, i < 2 → (if i = 0 then (wd W 0 + (H : Int) + (wd W 1 + (L : Int)) / 18446744073709551616) % 18446744073709551616 else (wd W 1 + (L : Int)) % 18446744073709551616) = wd (W + ((H * 18446744073709551616 + L : Nat) : Int)) i) := ⟨fun i hi => by
    unfold wd
    split
    · subst_vars; rw [if_pos rfl, if_neg (by omega)]; omega
    · rw [if_neg (by omega)]; omega⟩
  have HR0 := Row.new w .u64 2 (wd W) 62
  have k0 := fun o => (HR0.alloc o).cell 0 (by omega)
  have k1 := fun o => (HR0.alloc o).cell 1 (by omega)
  clear hW hs b0 b1 hw0 hw1 HR0
  go_enter Try.func40, Try.ntmps40
  go_wp2_with fail
  refine (HM.out _).mono ?_
  rintro e w1 ⟨rfl, rfl⟩
  go_wp2_with fail
  have e : (#[.int .u64 ((wd W 0 + (H : Int) + (wd W 1 + (L : Int)) / 18446744073709551616) % 18446744073709551616), .int .u64 ((wd W 1 + (L : Int)) % 18446744073709551616)] : Array Value) = FR .u64 2 (wd (W + ((H * 18446744073709551616 + L : Nat) : Int))) := by
    rw [← FR_congr .u64 2 _ _ HV.out]; rfl
  rw [e]
  refine bodyPost_ret (row_results rfl (heap_alloc2_new _ _ _) rfl Try.underlying62 rfl info62) rfl ?_
  exact ⟨rfl, bel_two _ _ _⟩
end
section
set_option linter.unusedVariables false
set_option linter.unusedSimpArgs false
open Go.RowKit
/-- The factor that a column's product has. -/
def xk (f : Nat → Int) (i k : Nat) : Int := if 5 ≤ i + k then f i * 19 else f i
/-- The columns behind s steps. -/
def sN (f g : Nat → Int) : Nat → Nat → Int
  | 0 => fun _ => 0
  | s + 1 => upd (sN f g s) ((s / 5 + s % 5) % 5) (sN f g s ((s / 5 + s % 5) % 5) + xk f (s / 5) (s % 5) * g (s % 5))
theorem sN_succ (f g : Nat → Int) (s : Nat) : sN f g (s + 1) = upd (sN f g s) ((s / 5 + s % 5) % 5) (sN f g s ((s / 5 + s % 5) % 5) + xk f (s / 5) (s % 5) * g (s % 5)) := rfl
theorem sN_step (f g : Nat → Int) (i k : Nat) (hk : k < 5) : sN f g (5 * i + (k + 1)) = upd (sN f g (5 * i + k)) ((i + k) % 5) (sN f g (5 * i + k) ((i + k) % 5) + xk f i k * g k) := by
  have e1 : (5 * i + k) / 5 = i := by omega
  have e2 : (5 * i + k) % 5 = k := by omega
  have h := sN_succ f g (5 * i + k)
  rw [e1, e2] at h
  exact h
theorem xk_b {f : Nat → Int} (hf : Lm f) (i k : Nat) (hi : i < 5) : 0 ≤ xk f i k ∧ xk f i k ≤ 85568392920039424 := by
  have h := hf.b i hi
  unfold xk
  split <;> omega
theorem xprod_b {x y : Int} (hx : 0 ≤ x ∧ x ≤ 85568392920039424) (hy : 0 ≤ y ∧ y < 4503599627370496) : 0 ≤ x * y ∧ x * y ≤ 385365782469703125063557837455360 := by
  have h0 : 0 ≤ x * y := Int.mul_nonneg hx.1 hy.1
  have h1 : x * y ≤ 85568392920039424 * 4503599627370496 := Int.mul_le_mul hx.2 (by omega) hy.1 (by omega)
  omega
theorem sN_b (f g : Nat → Int) (hf : Lm f) (hg : Lm g) : ∀ s : Nat, s ≤ 25 → ∀ j, 0 ≤ sN f g s j ∧ sN f g s j ≤ (s : Int) * 385365782469703125063557837455360
  | 0, _, j => by simp [sN]
  | s + 1, hs, j => by
    have ih := sN_b f g hf hg s (by omega)
    have hp := xprod_b (xk_b hf (s / 5) (s % 5) (by omega)) (hg.b (s % 5) (by omega))
    have h1 := ih j
    have h2 := ih ((s / 5 + s % 5) % 5)
    rw [sN_succ]
    unfold upd
    split
    · constructor <;> push_cast <;> omega
    · constructor <;> push_cast <;> omega
theorem pow5 : (2251799813685248 : Int) ^ 5 = PP + 19 := by decide
theorem wrap_pow (x : Int) (n : Nat) : (x * 19 * 2251799813685248 ^ n) % PP = (x * 2251799813685248 ^ (n + 5)) % PP := by
  rw [Int.pow_add, pow5, show x * (2251799813685248 ^ n * (PP + 19)) = x * 19 * 2251799813685248 ^ n + PP * (x * 2251799813685248 ^ n) by grind, Int.add_mul_emod_self_left]
theorem xk_pow (f g : Nat → Int) (i k : Nat) (hi : i < 5) (hk : k < 5) : (xk f i k * g k * 2251799813685248 ^ ((i + k) % 5)) % PP = (f i * g k * 2251799813685248 ^ (i + k)) % PP := by
  unfold xk
  split
  · rename_i h
    obtain ⟨n, hn⟩ : ∃ n, i + k = n + 5 := ⟨i + k - 5, by omega⟩
    rw [show (i + k) % 5 = n by omega, hn, ← wrap_pow]
    congr 1; grind
  · rw [show (i + k) % 5 = i + k by omega]
theorem sN_val (f g : Nat → Int) : val 2251799813685248 (sN f g 25) 5 % PP = (V51 f * V51 g) % PP := by
  have row : ∀ i, i < 5 → val 2251799813685248 (sN f g (5 * i)) 5 % PP = (val 2251799813685248 f i * val 2251799813685248 g 5) % PP → ∀ k, k ≤ 5 → val 2251799813685248 (sN f g (5 * i + k)) 5 % PP = (val 2251799813685248 f i * val 2251799813685248 g 5 + f i * 2251799813685248 ^ i * val 2251799813685248 g k) % PP := by
    intro i hi h0 k
    induction k with
    | zero => intro _; show val 2251799813685248 (sN f g (5 * i)) 5 % PP = _; rw [h0]; simp [val]
    | succ k ih =>
      intro hk
      rw [sN_step f g i k (by omega), val_upd 2251799813685248 _ _ _ 5 (by omega), val_succ 2251799813685248 g k]
      rw [mod_add (ih (by omega)) (xk_pow f g i k hi (by omega)), Int.pow_add]
      congr 1; grind
  have col : ∀ i, i ≤ 5 → val 2251799813685248 (sN f g (5 * i)) 5 % PP = (val 2251799813685248 f i * val 2251799813685248 g 5) % PP := by
    intro i
    induction i with
    | zero => intro _; show val 2251799813685248 (fun _ => 0) 5 % PP = _; simp [val]
    | succ i ih =>
      intro hi
      have h := row i (by omega) (ih (by omega)) 5 (by omega)
      rw [show 5 * (i + 1) = 5 * i + 5 by omega, h, val_succ 2251799813685248 f i]
      congr 1; grind
  have h := col 5 (by omega)
  rw [V51_val, V51_val]
  exact h
/-- The columns' carries. -/
def mc (f g : Nat → Int) (i : Nat) : Int := cy 2251799813685248 (sN f g 25) i
def mulL (f g : Nat → Int) (i : Nat) : Int := (sN f g 25 i + mc f g i) % 2251799813685248
def mulE (f g : Nat → Int) : Nat → Int := carr (upd (mulL f g) 0 (mulL f g 0 + 19 * mc f g 5))
theorem mc_succ (f g : Nat → Int) (i : Nat) : mc f g (i + 1) = (sN f g 25 i + mc f g i) / 2251799813685248 := rfl
theorem mc_b (f g : Nat → Int) (hf : Lm f) (hg : Lm g) : ∀ i, i ≤ 5 → 0 ≤ mc f g i ∧ mc f g i ≤ 9223372036854775808
  | 0, _ => by simp [mc, cy]
  | i + 1, hi => by
    have ih := mc_b f g hf hg i (by omega)
    have h := sN_b f g hf hg 25 (by omega) i
    rw [mc_succ]
    omega
theorem pb {x y : Int} (hx : 0 ≤ x ∧ x < 4503599627370496) (hy : 0 ≤ y ∧ y < 4503599627370496) : 0 ≤ x * y ∧ x * y ≤ 20282409603651670423947251286016 := by
  have h0 : 0 ≤ x * y := Int.mul_nonneg hx.1 hy.1
  have h1 : x * y ≤ 4503599627370496 * 4503599627370496 := Int.mul_le_mul (by omega) (by omega) hy.1 (by omega)
  omega
theorem sN_four (f g : Nat → Int) : sN f g 25 4 = f 0 * g 4 + f 1 * g 3 + f 2 * g 2 + f 3 * g 1 + f 4 * g 0 := by
  simp [sN, upd, xk]
theorem mc_five (f g : Nat → Int) (hf : Lm f) (hg : Lm g) : 0 ≤ mc f g 5 ∧ mc f g 5 ≤ 144115188075855872 := by
  have h4 := mc_b f g hf hg 4 (by omega)
  have e : mc f g 5 = (sN f g 25 4 + mc f g 4) / 2251799813685248 := rfl
  have p0 := pb (hf.b 0 (by omega)) (hg.b 4 (by omega))
  have p1 := pb (hf.b 1 (by omega)) (hg.b 3 (by omega))
  have p2 := pb (hf.b 2 (by omega)) (hg.b 2 (by omega))
  have p3 := pb (hf.b 3 (by omega)) (hg.b 1 (by omega))
  have p4 := pb (hf.b 4 (by omega)) (hg.b 0 (by omega))
  rw [e, sN_four]
  omega
theorem mulL_b (f g : Nat → Int) (i : Nat) : 0 ≤ mulL f g i ∧ mulL f g i < 2251799813685248 := by unfold mulL; omega
theorem mulS_b (f g : Nat → Int) (hf : Lm f) (hg : Lm g) : ∀ i, i < 5 → 0 ≤ upd (mulL f g) 0 (mulL f g 0 + 19 * mc f g 5) i ∧ upd (mulL f g) 0 (mulL f g 0 + 19 * mc f g 5) i ≤ 9223372036854775808 := by
  intro i hi
  have h5 := mc_five f g hf hg
  have h0 := mulL_b f g 0
  have h1 := mulL_b f g i
  unfold upd
  split <;> omega
theorem Fe.mul {f g : Nat → Int} {n m : Int} (hf : Fe f n) (hg : Fe g m) : Fe (mulE f g) (n * m) := by
  refine ⟨carr_Lm _ (mulS_b f g hf.1 hg.1), ?_⟩
  unfold mulE
  rw [carr_mod, V51_val, val_upd0]
  have h1 := cy_val 2251799813685248 (by omega) (sN f g 25) 5
  have h2 : val 2251799813685248 (mulL f g) 5 + mc f g 5 * 2251799813685248 ^ 5 = val 2251799813685248 (sN f g 25) 5 := h1
  have e : val 2251799813685248 (mulL f g) (4 + 1) = val 2251799813685248 (mulL f g) 5 := rfl
  rw [e]
  have h3 : val 2251799813685248 (mulL f g) 5 + (mulL f g 0 + 19 * mc f g 5 - mulL f g 0) = val 2251799813685248 (sN f g 25) 5 + PP * (- mc f g 5) := by
    rw [← h2, pow5]; grind
  rw [h3, Int.add_mul_emod_self_left, sN_val]
  exact mod_mul hf.2 hg.2
end
section
set_option linter.unusedVariables false
set_option linter.unusedSimpArgs false
open Go.RowKit Go.Proofs.YthonoagpiofojaaW.PrintWords Go.Proofs.YthonoagpiofojaaW.PrintLast Go.Proofs.YthonoagpiofojaaW.PrintMore
attribute [local go_sem] setCell_drewN
theorem tab2611 : rtab .any (opsOf Try.f26 11) = (true, [([], []), ([], []), ([0, 1], [0, 1]), ([2], [2]), ([], []), ([], []), ([4, 5], [4, 5]), ([6], [6]), ([7], [7]), ([8], [8]), ([], []), ([], []), ([], []), ([12, 11], [11, 12]), ([13], [13]), ([9, 10, 14], [9, 10, 14]), ([3, 0, 1, 2, 3, 4, 5, 6, 7, 8, 9, 10, 11, 12, 13, 14, 15], [3]), ([16, 15, 15, 0, 1, 2, 3, 4, 5, 6, 7, 8, 9, 10, 11, 12, 13, 14, 15], [15, 16])]) := by kernel_rfl
theorem bits2611 : waitsOk [([], []), ([], []), ([0, 1], [0, 1]), ([2], [2]), ([], []), ([], []), ([4, 5], [4, 5]), ([6], [6]), ([7], [7]), ([8], [8]), ([], []), ([], []), ([], []), ([12, 11], [11, 12]), ([13], [13]), ([9, 10, 14], [9, 10, 14]), ([3, 0, 1, 2, 3, 4, 5, 6, 7, 8, 9, 10, 11, 12, 13, 14, 15], [3]), ([16, 15, 15, 0, 1, 2, 3, 4, 5, 6, 7, 8, 9, 10, 11, 12, 13, 14, 15], [15, 16])] [0, 0, 3, 7, 0, 0, 48, 112, 240, 496, 0, 0, 0, 6144, 14336, 32752, 65535, 131071] = true := by kernel_rfl
/-- Five numbers of 128 bits in ten words. -/
def sw (s : Nat → Int) (j : Nat) : Int := wd (s (j / 2)) (j % 2)
/-- Two words of the ten, read. -/
theorem exec_load2 {o : Oper} {ev : Operand → Value} {w : World} {x : Operand} {g off j : Nat} {s : Nat → Int} {t : TypeId} (hr : Row w g .u64 10 (sw s) t) (hj : j < 5) (hoff : off = 2 * j) (ho : o.op = .load 62 x) (hx : ev x = .pointer (some ⟨g, off, none⟩)) :
    (execOp ev o).run Try.prog w = .ok (.value (.agg (FR .u64 2 (wd (s j))))) w := by
  subst hoff
  have hl : (loadCells ⟨g, 2 * j, none⟩ 2).run Try.prog w = .ok ([.int .u64 (wd (s j) 0), .int .u64 (wd (s j) 1)] : List Value).toArray w :=
    run_loadCells_list (P := Try.prog) w ⟨g, 2 * j, none⟩ [.int .u64 (wd (s j) 0), .int .u64 (wd (s j) 1)] (fun k v hv => by
      have hadd : (⟨g, 2 * j, none⟩ : Addr).add k = ⟨g, 2 * j + k, none⟩ := by unfold Addr.add; split <;> simp_all
      rw [hadd]
      have hk : k = 0 ∨ k = 1 := by
        rcases Nat.lt_or_ge k 2 with h | h
        · omega
        · rw [List.getElem?_eq_none (by simp; omega)] at hv; cases hv
      rcases hk with rfl | rfl
      · rw [hr.cell (2 * j + 0) (by omega), ← hv]
        simp [sw, Nat.mul_div_cancel_left]
      · rw [hr.cell (2 * j + 1) (by omega), ← hv]
        have e1 : (2 * j + 1) / 2 = j := by omega
        have e2 : (2 * j + 1) % 2 = 1 := by omega
        simp [sw, e1, e2])
  have ha : (isAgg 62).run Try.prog w = .ok true w := by simp [isAgg, run_underlying Try.underlying62]
  obtain ⟨ie, hie, hs⟩ : ∃ ie, Try.prog.info? 62 = some ie ∧ ie.size = 2 := by
    have h := info62
    cases he : Try.prog.info? 62 with
    | none => rw [he] at h; cases h
    | some ie => rw [he] at h; exact ⟨ie, rfl, Option.some.inj h⟩
  have hti : (typeInfo 62).run Try.prog w = .ok ie w := by simp [typeInfo, hie]
  unfold execOp
  simp only [ho, hx, Instr.loadAt, Instr.sureAddr, Sem.run_bind, Sem.run_pure, Result.andThen_ok, loadVar, ha, sizeOf, hti, hs, hl, if_true]
  rfl
theorem sw_upd (s : Nat → Int) (j : Nat) (V : Int) (i : Nat) : upd (upd (sw s) (2 * j) (wd V 0)) (2 * j + 1) (wd V 1) i = sw (upd s j V) i := by
  unfold upd sw
  by_cases h1 : i = 2 * j + 1
  · subst h1
    rw [if_pos rfl, show (2 * j + 1) / 2 = j by omega, show (2 * j + 1) % 2 = 1 by omega]
    simp [upd]
  · rw [if_neg h1]
    by_cases h2 : i = 2 * j
    · subst h2
      rw [if_pos rfl, show (2 * j) / 2 = j by omega, show (2 * j) % 2 = 0 by omega]
      simp [upd]
    · rw [if_neg h2]
      have : i / 2 ≠ j := by omega
      simp [upd, this]
/-- Two words of the ten, stored. -/
theorem oper_store2 {o : Oper} {ops : Array Oper} {a : Act} {w : World} {K : Act → World → Prop} {Q : Exit → Act → World → Prop} {x y : Operand} {g off j : Nat} {s : Nat → Int} {t : TypeId} (V : Int)
    (hr : Row w g .u64 10 (sw s) t) (hj : j < 5) (hoff : off = 2 * j) (hw : Region.wanted o (yielded ops a.tmps) = true) (hdst : o.dst = none) (ho : o.op = .store 62 x y) (hx : a.eval x = .pointer (some ⟨g, off, none⟩)) (hy : a.eval y = .agg (FR .u64 2 (wd V)))
    (h : ∀ w', Stored w w' g → Row w' g .u64 10 (sw (upd s j V)) t → K a w') : if Region.wanted o (yielded ops a.tmps) = true then Oper.wp Try.prog o a w K Q else K (a.put none undef) w := by
  subst hoff
  rw [if_pos hw]
  have hst := run_storeCells_cells (P := Try.prog) g (2 * j) [.int .u64 (wd V 0), .int .u64 (wd V 1)] 0 w
    (fun k hk => by
      have hk2 : k < 2 := hk
      rw [hr.cell (2 * j + 0 + k) (by omega)]; rfl)
    (fun k hk => hr.fro _)
    (fun v hv => by simp at hv; rcases hv with rfl | rfl <;> rfl)
  obtain ⟨ie, hie, hs⟩ : ∃ ie, Try.prog.info? 62 = some ie ∧ ie.size = 2 := by
    have h := info62
    cases he : Try.prog.info? 62 with
    | none => rw [he] at h; cases h
    | some ie => rw [he] at h; exact ⟨ie, rfl, Option.some.inj h⟩
  have hti : (typeInfo 62).run Try.prog w = .ok ie w := by simp [typeInfo, hie]
  have hsv : (storeVar 62 ⟨g, 2 * j, none⟩ (.agg (FR .u64 2 (wd V)))).run Try.prog w = .ok () (w.setCells g (2 * j + 0) [.int .u64 (wd V 0), .int .u64 (wd V 1)]) := by
    show (storeVar 62 ⟨g, 2 * j, none⟩ (.agg #[.int .u64 (wd V 0), .int .u64 (wd V 1)])).run Try.prog w = _
    simp [storeVar, Value.cells, sizeOf, hti, hs, Result.andThen]
    simpa using hst
  unfold Oper.wp execOp
  simp only [ho, hx, hy, Instr.storeAt, Instr.sureAddr, Sem.run_bind, Sem.run_pure, Result.andThen_ok, hsv]
  have hrow : Row (w.setCells g (2 * j + 0) [.int .u64 (wd V 0), .int .u64 (wd V 1)]) g .u64 10 (sw (upd s j V)) t :=
    row_eq ((hr.set (2 * j) (wd V 0) (by omega)).set (2 * j + 1) (wd V 1) (by omega)) (fun i hi => sw_upd s j V i)
  have := h _ ⟨fun k hk => setCells_other hk _ _ _, setCells_size g _ _ _, fun B W hB hb => bel_setCells hB _ _ _ hb⟩ hrow
  show K (a.put o.dst undef) _
  rw [hdst]
  exact this
theorem plus_c (W x y : Int) (w : World) (hx : 0 ≤ x ∧ x < 18446744073709551616) (hy : 0 ≤ y ∧ y < 18446744073709551616) (hW : 0 ≤ W) (hs : W + x * y < 340282366920938463463374607431768211456) :
    Calls Try.prog 40 #[.agg (FR .u64 2 (wd W)), .int .u64 x, .int .u64 y] w fun e w' => e = .returned (.agg (FR .u64 2 (wd (W + x * y)))) ∧ Below w.heap.size w w' := by
  obtain ⟨X, rfl⟩ := Int.eq_ofNat_of_zero_le hx.1
  obtain ⟨Y, rfl⟩ := Int.eq_ofNat_of_zero_le hy.1
  exact plus_calls W X Y w (by omega) (by omega) hW hs
def SRel2 (w : World) (f g : Nat → Int) (i : Nat) (v19 : Value) (wr : World) : Prop :=
  ∃ k : Nat, k ≤ 5 ∧ v19 = .int .i64 (k : Int) ∧ Below w.heap.size w wr ∧ Row wr w.heap.size .u64 5 f 27 ∧ Row wr (w.heap.size + 1) .u64 5 g 27 ∧ Row wr (w.heap.size + 1 + 1) .u64 5 (fun _ => 0) 27 ∧ Row wr (w.heap.size + 1 + 1 + 1) .u64 10 (sw (sN f g (5 * i + k))) 63
def SRel1 (w : World) (f g : Nat → Int) (v16 : Value) (wr : World) : Prop :=
  ∃ i : Nat, i ≤ 5 ∧ v16 = .int .i64 (i : Int) ∧ Below w.heap.size w wr ∧ Row wr w.heap.size .u64 5 f 27 ∧ Row wr (w.heap.size + 1) .u64 5 g 27 ∧ Row wr (w.heap.size + 1 + 1) .u64 5 (fun _ => 0) 27 ∧ Row wr (w.heap.size + 1 + 1 + 1) .u64 10 (sw (sN f g (5 * i))) 63
theorem ij_nat5 (i k : Nat) : ((i : Int) + (k : Int)).toNat = i + k := by omega
theorem bel_four5 (w : World) (a b c d : Obj) : Below w.heap.size w ((((w.alloc a).alloc b).alloc c).alloc d) := (bel_three w a b c).alloc (bel_three w a b c).size d
theorem four_new5 (w : World) (a b c d : Obj) : ((((w.alloc a).alloc b).alloc c).alloc d).heap[w.heap.size + 1 + 1 + 1]? = some d := by
  have h := heap_alloc_new (((w.alloc a).alloc b).alloc c) d
  have e : (((w.alloc a).alloc b).alloc c).heap.size = w.heap.size + 1 + 1 + 1 := by simp
  rwa [e] at h
theorem m5_wraps (i k : Nat) (hi : i < 5) (hk : k < 5) : wrap64 ((i : Int) + (k : Int)) = (i : Int) + (k : Int) ∧ IntKind.i64.wrap ((i : Int) + (k : Int)) = (i : Int) + (k : Int) ∧ Int.tmod ((i : Int) + (k : Int)) 5 = (((i + k) % 5 : Nat) : Int) := ⟨w64 _ (by omega), i64w _ (by omega), by rw [Int.tmod_eq_emod_of_nonneg (by omega)]; omega⟩
theorem sw_zero (f g : Nat → Int) (j : Nat) : (fun _ : Nat => (0 : Int)) j = sw (sN f g (5 * 0)) j := by
  show (0 : Int) = wd (sN f g 0 (j / 2)) (j % 2)
  show (0 : Int) = wd 0 (j % 2)
  unfold wd
  split <;> rfl
theorem or13 (x y : Int) (h0 : 0 ≤ x ∧ x < 2251799813685248) (h1 : 0 ≤ y ∧ y < 8192) : Go.bits .or .u64 (x * 8192) y = x * 8192 + y := by
  rw [u64_or _ _ (by omega) (by omega) (by omega) (by omega)]
  have e : (x * 8192).toNat ||| y.toNat = x.toNat * 2 ^ 13 + y.toNat := by
    have : (x * 8192).toNat = x.toNat * 2 ^ 13 := by omega
    rw [this, Nat.mul_comm, ← Nat.two_pow_add_eq_or_of_lt (by omega)]
  rw [e]
  omega
theorem index63 (s : Nat → Int) (i : Nat) (hi : i < 5) (w : World) : (Instr.index 63 (.agg (FR .u64 10 (sw s))) (.int .i64 (i : Int))).run Try.prog w = .ok (.agg (FR .u64 2 (wd (s i)))) w := by
  obtain ⟨ie, hie, hs⟩ : ∃ ie, Try.prog.info? 62 = some ie ∧ ie.size = 2 := by
    have h := info62
    cases he : Try.prog.info? 62 with
    | none => rw [he] at h; cases h
    | some ie => rw [he] at h; exact ⟨ie, rfl, Option.some.inj h⟩
  have h1 : (asIntOf (.int .i64 (i : Int))).run Try.prog w = .ok (IntKind.i64, (i : Int)) w := by simp [asIntOf]
  have hin : 0 ≤ (i : Int) ∧ (i : Int) < ((5 : Nat) : Int) := by omega
  have h3 : (typeInfo 62).run Try.prog w = .ok ie w := by simp [typeInfo, hie]
  have ha : (isAgg 62).run Try.prog w = .ok true w := by simp [isAgg, run_underlying Try.underlying62]
  have he : (FR .u64 10 (sw s)).extract (i * 2) (i * 2 + 2) = FR .u64 2 (wd (s i)) := by
    apply Array.ext_getElem?
    intro j
    rw [Array.getElem?_extract, FR_size]
    by_cases hj : j < 2
    · rw [if_pos (by omega), FR_at _ _ _ _ (by omega), FR_at _ _ _ _ hj]
      unfold sw
      rw [show (i * 2 + j) / 2 = i by omega, show (i * 2 + j) % 2 = j by omega]
    · rw [if_neg (by omega), FR_out _ _ _ _ hj]
  simp only [Instr.index, Sem.run_bind, h1, Result.andThen_ok, run_underlying Try.underlying63, if_pos hin, sizeOf, h3, hs, Sem.run_pure, Int.toNat_natCast, part, ha, he, if_true]
theorem info63 : (Try.prog.info? 63).map (·.size) = some 10 := by kernel_rfl
def ZRel3 (w : World) (f g : Nat → Int) (bl : Nat) (v52 v10 : Value) (wr : World) : Prop :=
  ∃ i : Nat, i ≤ 5 ∧ v52 = .int .i64 (i : Int) ∧ v10 = .int .u64 (mc f g i) ∧ Below w.heap.size w wr ∧ Row wr (w.heap.size + 1 + 1) .u64 5 (fun _ => 0) 27 ∧ Row wr bl .u64 5 (fun j => if j < i then mulL f g j else 0) 25
theorem elem_mul_calls (f g : Nat → Int) (w : World) (hf : Lm f) (hg : Lm g) :
    Calls Try.prog 26 #[.agg (FR .u64 5 f), .agg (FR .u64 5 g)] w fun e w' => e = .returned (.agg (FR .u64 5 (mulE f g))) ∧ Below w.heap.size w w' := by
  have HF := Aside0.mk hf
  have HG := Aside0.mk hg
  clear hf hg
  go_enter Try.func26, Try.ntmps26
  have HB0 := Aside0.mk (bel_four5 w (.cells (FR .u64 5 f) 27) (.cells (FR .u64 5 g) 27) (.cells (FR .u64 5 fun _ => 0) 27) (.cells (FR .u64 10 fun _ => 0) 63))
  have HR0 : Aside0 (Row ((((w.alloc (.cells (FR .u64 5 f) 27)).alloc (.cells (FR .u64 5 g) 27)).alloc (.cells (FR .u64 5 fun _ => 0) 27)).alloc (.cells (FR .u64 10 fun _ => 0) 63)) w.heap.size .u64 5 f 27) := ⟨(((Row.new w .u64 5 f 27).alloc _).alloc _).alloc _⟩
  have HR1 : Aside0 (Row ((((w.alloc (.cells (FR .u64 5 f) 27)).alloc (.cells (FR .u64 5 g) 27)).alloc (.cells (FR .u64 5 fun _ => 0) 27)).alloc (.cells (FR .u64 10 fun _ => 0) 63)) (w.heap.size + 1) .u64 5 g 27) := ⟨Row.alloc (Row.alloc (show Row ((w.alloc (.cells (FR .u64 5 f) 27)).alloc (.cells (FR .u64 5 g) 27)) (w.heap.size + 1) .u64 5 g 27 from heap_alloc2_new w _ _) _) _⟩
  have HR2 : Aside0 (Row ((((w.alloc (.cells (FR .u64 5 f) 27)).alloc (.cells (FR .u64 5 g) 27)).alloc (.cells (FR .u64 5 fun _ => 0) 27)).alloc (.cells (FR .u64 10 fun _ => 0) 63)) (w.heap.size + 1 + 1) .u64 5 (fun _ => 0) 27) := ⟨Row.alloc (show Row (((w.alloc (.cells (FR .u64 5 f) 27)).alloc (.cells (FR .u64 5 g) 27)).alloc (.cells (FR .u64 5 fun _ => 0) 27)) (w.heap.size + 1 + 1) .u64 5 (fun _ => 0) 27 from three_new w _ _ _) _⟩
  have HR3 : Aside0 (Row ((((w.alloc (.cells (FR .u64 5 f) 27)).alloc (.cells (FR .u64 5 g) 27)).alloc (.cells (FR .u64 5 fun _ => 0) 27)).alloc (.cells (FR .u64 10 fun _ => 0) 63)) (w.heap.size + 1 + 1 + 1) .u64 10 (fun _ => 0) 63) := ⟨four_new5 w _ _ _ _⟩
  go_wp2_with fail
  go_loopw [16] (fun v16 wr => SRel1 w f g v16 wr) (fun v _ => 5 - (intOf v).toNat)
  case atStart => exact ⟨0, by omega, rfl, HB0.out, HR0.out, HR1.out, HR2.out, row_eq HR3.out (fun j _ => sw_zero f g j)⟩
  case round =>
    clear HB0 HR0 HR1 HR2 HR3
    obtain ⟨i, hi, rfl, hb, hr, hg, hz, ht⟩ := hrel
    have HB := Aside0.mk hb
    have HR := Aside0.mk hr
    have HR2 := Aside0.mk hg
    have HZ := Aside0.mk hz
    have HT := Aside0.mk ht
    have hl1 := hr.lt
    have hl2 := hg.lt
    have hl3 := hz.lt
    have hl4 := ht.lt
    clear hb hr hg hz ht
    rcases Nat.lt_or_ge i 5 with h16 | h16
    · have hlt : ((i : Int) < 5) = True := eq_true (by omega)
      go_wp2_with fail
      go_loopw [19] (fun v19 wr => SRel2 w f g i v19 wr) (fun v _ => 5 - (intOf v).toNat)
      case atStart => exact ⟨0, by omega, rfl, HB.out, HR.out, HR2.out, HZ.out, HT.out⟩
      case round =>
        clear HB HR HR2 HZ HT
        obtain ⟨k, hk, rfl, hb, hr, hg, hz, ht⟩ := hrel
        have HB := Aside0.mk hb
        have HR := Aside0.mk hr
        have HR2 := Aside0.mk hg
        have HZ := Aside0.mk hz
        have HT := Aside0.mk ht
        rcases Nat.lt_or_ge k 5 with h17 | h17
        · have hltk : ((k : Int) < 5) = True := eq_true (by omega)
          have hij := ij_nat5 i k
          obtain ⟨q1, q2, q3⟩ := m5_wraps i k h16 h17
          have k0 := hr.cell i (by omega)
          have k1 := hg.cell k (by omega)
          have hj5 : (i + k) % 5 < 5 := by omega
          have hc5 : (((i : Int) + (k : Int)) % 5 < 5) = True := eq_true (by omega)
          have hc0 : (0 ≤ ((i : Int) + (k : Int)) % 5) = True := eq_true (by omega)
          have hcn : (((i : Int) + (k : Int)) % 5).toNat = (i + k) % 5 := by omega
          have hxb := xk_b HF.out i k h16
          have hsb := sN_b f g HF.out HG.out (5 * i + k) (by omega) ((i + k) % 5)
          have hpb := xprod_b hxb (HG.out.b k h17)
          have hgb := HG.out.b k h17
          have HP : Aside0 (∀ w, Calls Try.prog 40 #[.agg (FR .u64 2 (wd (sN f g (5 * i + k) ((i + k) % 5)))), .int .u64 (xk f i k), .int .u64 (g k)] w fun e w' => e = .returned (.agg (FR .u64 2 (wd (sN f g (5 * i + k) ((i + k) % 5) + xk f i k * g k)))) ∧ Below w.heap.size w w') := ⟨fun w => plus_c _ _ _ w (by omega) (by omega) (by omega) (by omega)⟩
          have HST := Aside0.mk (sN_step f g i k h17)
          clear hb hr hg hz ht hxb hsb hpb hgb
          rcases Nat.lt_or_ge (i + k) 5 with hik | hik
          · have hxk : xk f i k = f i := by unfold xk; rw [if_neg (by omega)]
            rw [hxk] at HP HST
            clear hxk
            have hge : ((i : Int) + (k : Int) ≥ 5) = False := eq_false (by omega)
            have hge2 : (5 ≤ (i : Int) + (k : Int)) = False := eq_false (by omega)
            go_wp2_with fail
            have hh : Row wr.drew (w.heap.size + 1) .u64 5 g 27 ∧ Row wr.drew (w.heap.size + 1 + 1 + 1) .u64 10 (sw (sN f g (5 * i + k))) 63 := ⟨HR2.out, HT.out⟩
            have HBd := Aside0.mk HB.out.drew
            have HRd : Aside0 (Row wr.drew w.heap.size .u64 5 f 27) := ⟨HR.out⟩
            have HZd : Aside0 (Row wr.drew (w.heap.size + 1 + 1) .u64 5 (fun _ => 0) 27) := ⟨HZ.out⟩
            refine start_ (n := 18) (S := (fun w' => Row w' (w.heap.size + 1) .u64 5 g 27 ∧ Row w' (w.heap.size + 1 + 1 + 1) .u64 10 (sw (sN f g (5 * i + k))) 63)) (ds := [17]) #[false, false, false, false, false, false, false, false, false, false, false, false, false, false, false, false, false, false] (by kernel_rfl) rfl rfl hh (fun hHeld => ?_); refine with_tabW tab2611 bits2611 (fun HT_ HW_ => ?_)
            generalize wr.drew = w6 at HBd hHeld hh HRd HZd ⊢
            clear hh
            refine pure_ (i := 0) (N := some 32) (v := ?_) (a' := ?_) #[true, false, false, false, false, false, false, false, false, false, false, false, false, false, false, false, false, false] rfl rfl (any_of HT_.out (by kernel_rfl)) (fun _ _ _ h => h) (Or.inl ⟨by rfl, ?_⟩) ?_ ?_
            rotate_left
            · intro w'
              go_simp
              with_reducible rfl
            rotate_left
            · simp only [Act.put, List.setIfInBounds_toArray, List.set_cons_zero, List.set_cons_succ, i64_w, i32_w]
              rfl
            refine pure_ (i := 1) (N := some 33) (v := ?_) (a' := ?_) #[true, true, false, false, false, false, false, false, false, false, false, false, false, false, false, false, false, false] rfl rfl (any_of HT_.out (by kernel_rfl)) (fun _ _ _ h => h) (Or.inl ⟨by rfl, ?_⟩) ?_ ?_
            rotate_left
            · intro w'
              go_simp
              with_reducible rfl
            rotate_left
            · simp only [Act.put, List.setIfInBounds_toArray, List.set_cons_zero, List.set_cons_succ, i64_w, i32_w]
              rfl
            refine pure_ (i := 2) (N := some 34) (v := ?_) (a' := ?_) #[true, true, true, false, false, false, false, false, false, false, false, false, false, false, false, false, false, false] rfl rfl (any_of HT_.out (by kernel_rfl)) (fun _ _ _ h => h) (Or.inl ⟨by rfl, ?_⟩) ?_ ?_
            rotate_left
            · intro w'
              go_simp
              with_reducible rfl
            rotate_left
            · simp only [Act.put, List.setIfInBounds_toArray, List.set_cons_zero, List.set_cons_succ, i64_w, i32_w]
              rfl
            refine pure_ (i := 3) (N := some 35) (v := ?_) (a' := ?_) #[true, true, true, true, false, false, false, false, false, false, false, false, false, false, false, false, false, false] rfl rfl (any_of HT_.out (by kernel_rfl)) (fun _ _ _ h => h) (Or.inl ⟨by rfl, ?_⟩) ?_ ?_
            rotate_left
            · intro w'
              go_simp
              with_reducible rfl
            rotate_left
            · simp only [Act.put, List.setIfInBounds_toArray, List.set_cons_zero, List.set_cons_succ, i64_w, i32_w]
              rfl
            refine pure_ (i := 4) (N := some 36) (v := ?_) (a' := ?_) #[true, true, true, true, true, false, false, false, false, false, false, false, false, false, false, false, false, false] rfl rfl (any_of HT_.out (by kernel_rfl)) (fun _ _ _ h => h) (Or.inl ⟨by rfl, ?_⟩) ?_ ?_
            rotate_left
            · intro w'
              go_simp
              with_reducible rfl
            rotate_left
            · simp only [Act.put, List.setIfInBounds_toArray, List.set_cons_zero, List.set_cons_succ, i64_w, i32_w]
              rfl
            refine pure_ (i := 5) (N := some 37) (v := ?_) (a' := ?_) #[true, true, true, true, true, true, false, false, false, false, false, false, false, false, false, false, false, false] rfl rfl (any_of HT_.out (by kernel_rfl)) (fun _ _ _ h => h) (Or.inl ⟨by rfl, ?_⟩) ?_ ?_
            rotate_left
            · intro w'
              go_simp
              with_reducible rfl
            rotate_left
            · simp only [Act.put, List.setIfInBounds_toArray, List.set_cons_zero, List.set_cons_succ, i64_w, i32_w]
              rfl
            refine pure_ (i := 6) (N := some 38) (v := ?_) (a' := ?_) #[true, true, true, true, true, true, true, false, false, false, false, false, false, false, false, false, false, false] rfl rfl (any_of HT_.out (by kernel_rfl)) (fun _ _ _ h => h) (Or.inl ⟨by rfl, ?_⟩) ?_ ?_
            rotate_left
            · intro w'
              go_simp
              with_reducible rfl
            rotate_left
            · simp only [Act.put, List.setIfInBounds_toArray, List.set_cons_zero, List.set_cons_succ, i64_w, i32_w]
              rfl
            refine pure_ (i := 7) (N := some 39) (v := ?_) (a' := ?_) #[true, true, true, true, true, true, true, true, false, false, false, false, false, false, false, false, false, false] rfl rfl (any_of HT_.out (by kernel_rfl)) (fun _ _ _ h => h) (Or.inl ⟨by rfl, ?_⟩) ?_ ?_
            rotate_left
            · intro w'
              go_simp
              with_reducible rfl
            rotate_left
            · simp only [Act.put, List.setIfInBounds_toArray, List.set_cons_zero, List.set_cons_succ, i64_w, i32_w]
              rfl
            refine pure_ (i := 10) (N := some 42) (v := ?_) (a' := ?_) #[true, true, true, true, true, true, true, true, false, false, true, false, false, false, false, false, false, false] rfl rfl (any_of HT_.out (by kernel_rfl)) (fun _ _ _ h => h) (Or.inl ⟨by rfl, ?_⟩) ?_ ?_
            rotate_left
            · intro w'
              go_simp
              with_reducible rfl
            rotate_left
            · simp only [Act.put, List.setIfInBounds_toArray, List.set_cons_zero, List.set_cons_succ, i64_w, i32_w]
              rfl
            refine pure_ (i := 11) (N := some 43) (v := ?_) (a' := ?_) #[true, true, true, true, true, true, true, true, false, false, true, true, false, false, false, false, false, false] rfl rfl (any_of HT_.out (by kernel_rfl)) (fun _ _ _ h => h) (Or.inl ⟨by rfl, ?_⟩) ?_ ?_
            rotate_left
            · intro w'
              go_simp
              with_reducible rfl
            rotate_left
            · simp only [Act.put, List.setIfInBounds_toArray, List.set_cons_zero, List.set_cons_succ, i64_w, i32_w]
              rfl
            refine take_ (i := 8) (N := some 40) (v := ?_) (a' := ?_) #[true, true, true, true, true, true, true, true, true, false, true, true, false, false, false, false, false, false] rfl rfl (take_ofW HT_.out HW_.out (by kernel_rfl)) (fun _ _ _ h => h) (Or.inl ⟨by rfl, ?_⟩) hHeld ?_ ?_
            rotate_left
            · intro w' hsw
              go_simp
              with_reducible rfl
            rotate_left
            · simp only [Act.put, List.setIfInBounds_toArray, List.set_cons_zero, List.set_cons_succ, i64_w, i32_w]
              rfl
            refine take_ (i := 9) (N := some 41) (v := ?_) (a' := ?_) #[true, true, true, true, true, true, true, true, true, true, true, true, false, false, false, false, false, false] rfl rfl (take_ofW HT_.out HW_.out (by kernel_rfl)) (fun _ _ _ h => h) (Or.inl ⟨by rfl, ?_⟩) hHeld ?_ ?_
            rotate_left
            · intro w' hsw
              refine exec_load2 (x := .tmp 40) (off := (i + k) % 5 * 2) hsw.2 hj5 (by omega) ?_ ?_ <;> rfl
            rotate_left
            · simp only [Act.put, List.setIfInBounds_toArray, List.set_cons_zero, List.set_cons_succ, i64_w, i32_w]
              rfl
            refine take_ (i := 12) (N := some 44) (v := ?_) (a' := ?_) #[true, true, true, true, true, true, true, true, true, true, true, true, true, false, false, false, false, false] rfl rfl (take_ofW HT_.out HW_.out (by kernel_rfl)) (fun _ _ _ h => h) (Or.inl ⟨by rfl, ?_⟩) hHeld ?_ ?_
            rotate_left
            · intro w' hsw
              go_simp
              with_reducible rfl
            rotate_left
            · simp only [Act.put, List.setIfInBounds_toArray, List.set_cons_zero, List.set_cons_succ, i64_w, i32_w]
              rfl
            refine take_ (i := 13) (N := some 45) (v := ?_) (a' := ?_) #[true, true, true, true, true, true, true, true, true, true, true, true, true, true, false, false, false, false] rfl rfl (take_ofW HT_.out HW_.out (by kernel_rfl)) (fun _ _ _ h => h) (Or.inl ⟨by rfl, ?_⟩) hHeld ?_ ?_
            rotate_left
            · intro w' hsw
              go_simp
              with_reducible rfl
            rotate_left
            · simp only [Act.put, List.setIfInBounds_toArray, List.set_cons_zero, List.set_cons_succ, i64_w, i32_w]
              rfl
            refine take_ (i := 14) (N := some 46) (v := ?_) (a' := ?_) #[true, true, true, true, true, true, true, true, true, true, true, true, true, true, true, false, false, false] rfl rfl (take_ofW HT_.out HW_.out (by kernel_rfl)) (fun _ _ _ h => h) (Or.inl ⟨by rfl, ?_⟩) hHeld ?_ ?_
            rotate_left
            · intro w' hsw
              have kg := hsw.1.cell k h17
              go_simp
              with_reducible rfl
            rotate_left
            · simp only [Act.put, List.setIfInBounds_toArray, List.set_cons_zero, List.set_cons_succ, i64_w, i32_w]
              rfl
            refine one_ (i := 15) (N := some 47) #[true, true, true, true, true, true, true, true, true, true, true, true, true, true, true, true, false, false] rfl rfl (one_of HT_.out (by kernel_rfl)) (by decide) (fun K hK => ?_)
            refine goes_ Try.func40 rfl rfl #[.agg (FR .u64 2 (wd (sN f g (5 * i + k) ((i + k) % 5)))), .int .u64 (f i), .int .u64 (g k)] rfl rfl rfl (by simp only [List.map_toArray, List.map_cons, List.map_nil]; rfl) ((HP.out _).mono ?_)
            rintro e wc1 ⟨rfl, hb⟩
            have hSn : Row wc1 (w.heap.size + 1) .u64 5 g 27 ∧ Row wc1 (w.heap.size + 1 + 1 + 1) .u64 10 (sw (sN f g (5 * i + k))) 63 := ⟨hHeld.1.below hb hHeld.1.lt, hHeld.2.below hb hHeld.2.lt⟩
            have HBc1 := Aside0.mk (HBd.out.trans (hb.mono HBd.out.size))
            have HRc := Aside0.mk (HRd.out.below hb HRd.out.lt)
            have HZc := Aside0.mk (HZd.out.below hb HZd.out.lt)
            clear hb
            refine ⟨_, rfl, hK.out _ _ hSn (fun hHeld => ?_)⟩
            clear hSn
            clear hK K
            refine norm_ (a' := ?_) ?_ ?_
            rotate_left
            · show Act.put _ (some 47) _ = _
              simp only [Act.put, List.setIfInBounds_toArray, List.set_cons_zero, List.set_cons_succ, i64_w, i32_w]
              rfl
            refine take_ (i := 16) (N := some 48) (v := ?_) (a' := ?_) #[true, true, true, true, true, true, true, true, true, true, true, true, true, true, true, true, true, false] rfl rfl (take_ofW HT_.out HW_.out (by kernel_rfl)) (fun _ _ _ h => h) (Or.inl ⟨by rfl, ?_⟩) hHeld ?_ ?_
            rotate_left
            · intro w' hsw
              go_simp
              with_reducible rfl
            rotate_left
            · simp only [Act.put, List.setIfInBounds_toArray, List.set_cons_zero, List.set_cons_succ, i64_w, i32_w]
              rfl
            refine last_ (i := 17) (N := none) #[true, true, true, true, true, true, true, true, true, true, true, true, true, true, true, true, true, true] rfl rfl (one_of HT_.out (by kernel_rfl)) (by decide) (fun K hK => ?_)
            refine oper_store2 (off := (i + k) % 5 * 2) (sN f g (5 * i + k) ((i + k) % 5) + (f i) * g k) hHeld.2 hj5 (by omega) rfl rfl rfl rfl rfl ?_
            intro wk hs hr
            have HTk := Aside0.mk hr
            have HGk := Aside0.mk (hHeld.1.stored hs (by omega))
            have HBk := Aside0.mk (hs.bel _ _ (by omega) HBc1.out)
            have HSk := Aside0.mk hs
            have hHc := hHeld
            clear hs hr
            refine hK.out _ _ ?_
            clear hK K
            refine done_ (done_of HT_.out (by kernel_rfl)) ?_
            try go_wp2
            refine ⟨⟨k + 1, by omega, rfl, HBk.out, HRc.out.stored HSk.out (by omega), HGk.out, HZc.out.stored HSk.out (by omega), ?_⟩, meas_up 5 k (by omega)⟩
            rw [HST.out]
            exact HTk.out
          · have hxk : xk f i k = f i * 19 := by unfold xk; rw [if_pos (by omega)]
            rw [hxk] at HP HST
            clear hxk
            have hfb := HF.out.b i h16
            have hw19 : IntKind.u64.wrap (f i * 19) = f i * 19 := u64w _ (by omega) (by omega)
            clear hfb
            have hge : ((i : Int) + (k : Int) ≥ 5) = True := eq_true (by omega)
            have hge2 : (5 ≤ (i : Int) + (k : Int)) = True := eq_true (by omega)
            go_wp2_with fail
            have hh : Row wr.drew (w.heap.size + 1) .u64 5 g 27 ∧ Row wr.drew (w.heap.size + 1 + 1 + 1) .u64 10 (sw (sN f g (5 * i + k))) 63 := ⟨HR2.out, HT.out⟩
            have HBd := Aside0.mk HB.out.drew
            have HRd : Aside0 (Row wr.drew w.heap.size .u64 5 f 27) := ⟨HR.out⟩
            have HZd : Aside0 (Row wr.drew (w.heap.size + 1 + 1) .u64 5 (fun _ => 0) 27) := ⟨HZ.out⟩
            refine start_ (n := 18) (S := (fun w' => Row w' (w.heap.size + 1) .u64 5 g 27 ∧ Row w' (w.heap.size + 1 + 1 + 1) .u64 10 (sw (sN f g (5 * i + k))) 63)) (ds := [17]) #[false, false, false, false, false, false, false, false, false, false, false, false, false, false, false, false, false, false] (by kernel_rfl) rfl rfl hh (fun hHeld => ?_); refine with_tabW tab2611 bits2611 (fun HT_ HW_ => ?_)
            generalize wr.drew = w6 at HBd hHeld hh HRd HZd ⊢
            clear hh
            refine pure_ (i := 0) (N := some 32) (v := ?_) (a' := ?_) #[true, false, false, false, false, false, false, false, false, false, false, false, false, false, false, false, false, false] rfl rfl (any_of HT_.out (by kernel_rfl)) (fun _ _ _ h => h) (Or.inl ⟨by rfl, ?_⟩) ?_ ?_
            rotate_left
            · intro w'
              go_simp
              with_reducible rfl
            rotate_left
            · simp only [Act.put, List.setIfInBounds_toArray, List.set_cons_zero, List.set_cons_succ, i64_w, i32_w]
              rfl
            refine pure_ (i := 1) (N := some 33) (v := ?_) (a' := ?_) #[true, true, false, false, false, false, false, false, false, false, false, false, false, false, false, false, false, false] rfl rfl (any_of HT_.out (by kernel_rfl)) (fun _ _ _ h => h) (Or.inl ⟨by rfl, ?_⟩) ?_ ?_
            rotate_left
            · intro w'
              go_simp
              with_reducible rfl
            rotate_left
            · simp only [Act.put, List.setIfInBounds_toArray, List.set_cons_zero, List.set_cons_succ, i64_w, i32_w]
              rfl
            refine pure_ (i := 2) (N := some 34) (v := ?_) (a' := ?_) #[true, true, true, false, false, false, false, false, false, false, false, false, false, false, false, false, false, false] rfl rfl (any_of HT_.out (by kernel_rfl)) (fun _ _ _ h => h) (Or.inl ⟨by rfl, ?_⟩) ?_ ?_
            rotate_left
            · intro w'
              go_simp
              with_reducible rfl
            rotate_left
            · simp only [Act.put, List.setIfInBounds_toArray, List.set_cons_zero, List.set_cons_succ, i64_w, i32_w]
              rfl
            refine pure_ (i := 3) (N := some 35) (v := ?_) (a' := ?_) #[true, true, true, true, false, false, false, false, false, false, false, false, false, false, false, false, false, false] rfl rfl (any_of HT_.out (by kernel_rfl)) (fun _ _ _ h => h) (Or.inl ⟨by rfl, ?_⟩) ?_ ?_
            rotate_left
            · intro w'
              go_simp
              with_reducible rfl
            rotate_left
            · simp only [Act.put, List.setIfInBounds_toArray, List.set_cons_zero, List.set_cons_succ, i64_w, i32_w]
              rfl
            refine pure_ (i := 4) (N := some 36) (v := ?_) (a' := ?_) #[true, true, true, true, true, false, false, false, false, false, false, false, false, false, false, false, false, false] rfl rfl (any_of HT_.out (by kernel_rfl)) (fun _ _ _ h => h) (Or.inl ⟨by rfl, ?_⟩) ?_ ?_
            rotate_left
            · intro w'
              go_simp
              with_reducible rfl
            rotate_left
            · simp only [Act.put, List.setIfInBounds_toArray, List.set_cons_zero, List.set_cons_succ, i64_w, i32_w]
              rfl
            refine pure_ (i := 5) (N := some 37) (v := ?_) (a' := ?_) #[true, true, true, true, true, true, false, false, false, false, false, false, false, false, false, false, false, false] rfl rfl (any_of HT_.out (by kernel_rfl)) (fun _ _ _ h => h) (Or.inl ⟨by rfl, ?_⟩) ?_ ?_
            rotate_left
            · intro w'
              go_simp
              with_reducible rfl
            rotate_left
            · simp only [Act.put, List.setIfInBounds_toArray, List.set_cons_zero, List.set_cons_succ, i64_w, i32_w]
              rfl
            refine pure_ (i := 6) (N := some 38) (v := ?_) (a' := ?_) #[true, true, true, true, true, true, true, false, false, false, false, false, false, false, false, false, false, false] rfl rfl (any_of HT_.out (by kernel_rfl)) (fun _ _ _ h => h) (Or.inl ⟨by rfl, ?_⟩) ?_ ?_
            rotate_left
            · intro w'
              go_simp
              with_reducible rfl
            rotate_left
            · simp only [Act.put, List.setIfInBounds_toArray, List.set_cons_zero, List.set_cons_succ, i64_w, i32_w]
              rfl
            refine pure_ (i := 7) (N := some 39) (v := ?_) (a' := ?_) #[true, true, true, true, true, true, true, true, false, false, false, false, false, false, false, false, false, false] rfl rfl (any_of HT_.out (by kernel_rfl)) (fun _ _ _ h => h) (Or.inl ⟨by rfl, ?_⟩) ?_ ?_
            rotate_left
            · intro w'
              go_simp
              with_reducible rfl
            rotate_left
            · simp only [Act.put, List.setIfInBounds_toArray, List.set_cons_zero, List.set_cons_succ, i64_w, i32_w]
              rfl
            refine pure_ (i := 10) (N := some 42) (v := ?_) (a' := ?_) #[true, true, true, true, true, true, true, true, false, false, true, false, false, false, false, false, false, false] rfl rfl (any_of HT_.out (by kernel_rfl)) (fun _ _ _ h => h) (Or.inl ⟨by rfl, ?_⟩) ?_ ?_
            rotate_left
            · intro w'
              go_simp
              with_reducible rfl
            rotate_left
            · simp only [Act.put, List.setIfInBounds_toArray, List.set_cons_zero, List.set_cons_succ, i64_w, i32_w]
              rfl
            refine pure_ (i := 11) (N := some 43) (v := ?_) (a' := ?_) #[true, true, true, true, true, true, true, true, false, false, true, true, false, false, false, false, false, false] rfl rfl (any_of HT_.out (by kernel_rfl)) (fun _ _ _ h => h) (Or.inl ⟨by rfl, ?_⟩) ?_ ?_
            rotate_left
            · intro w'
              go_simp
              with_reducible rfl
            rotate_left
            · simp only [Act.put, List.setIfInBounds_toArray, List.set_cons_zero, List.set_cons_succ, i64_w, i32_w]
              rfl
            refine take_ (i := 8) (N := some 40) (v := ?_) (a' := ?_) #[true, true, true, true, true, true, true, true, true, false, true, true, false, false, false, false, false, false] rfl rfl (take_ofW HT_.out HW_.out (by kernel_rfl)) (fun _ _ _ h => h) (Or.inl ⟨by rfl, ?_⟩) hHeld ?_ ?_
            rotate_left
            · intro w' hsw
              go_simp
              with_reducible rfl
            rotate_left
            · simp only [Act.put, List.setIfInBounds_toArray, List.set_cons_zero, List.set_cons_succ, i64_w, i32_w]
              rfl
            refine take_ (i := 9) (N := some 41) (v := ?_) (a' := ?_) #[true, true, true, true, true, true, true, true, true, true, true, true, false, false, false, false, false, false] rfl rfl (take_ofW HT_.out HW_.out (by kernel_rfl)) (fun _ _ _ h => h) (Or.inl ⟨by rfl, ?_⟩) hHeld ?_ ?_
            rotate_left
            · intro w' hsw
              refine exec_load2 (x := .tmp 40) (off := (i + k) % 5 * 2) hsw.2 hj5 (by omega) ?_ ?_ <;> rfl
            rotate_left
            · simp only [Act.put, List.setIfInBounds_toArray, List.set_cons_zero, List.set_cons_succ, i64_w, i32_w]
              rfl
            refine take_ (i := 12) (N := some 44) (v := ?_) (a' := ?_) #[true, true, true, true, true, true, true, true, true, true, true, true, true, false, false, false, false, false] rfl rfl (take_ofW HT_.out HW_.out (by kernel_rfl)) (fun _ _ _ h => h) (Or.inl ⟨by rfl, ?_⟩) hHeld ?_ ?_
            rotate_left
            · intro w' hsw
              go_simp
              with_reducible rfl
            rotate_left
            · simp only [Act.put, List.setIfInBounds_toArray, List.set_cons_zero, List.set_cons_succ, i64_w, i32_w]
              rfl
            refine take_ (i := 13) (N := some 45) (v := ?_) (a' := ?_) #[true, true, true, true, true, true, true, true, true, true, true, true, true, true, false, false, false, false] rfl rfl (take_ofW HT_.out HW_.out (by kernel_rfl)) (fun _ _ _ h => h) (Or.inl ⟨by rfl, ?_⟩) hHeld ?_ ?_
            rotate_left
            · intro w' hsw
              go_simp
              with_reducible rfl
            rotate_left
            · simp only [Act.put, List.setIfInBounds_toArray, List.set_cons_zero, List.set_cons_succ, i64_w, i32_w]
              rfl
            refine take_ (i := 14) (N := some 46) (v := ?_) (a' := ?_) #[true, true, true, true, true, true, true, true, true, true, true, true, true, true, true, false, false, false] rfl rfl (take_ofW HT_.out HW_.out (by kernel_rfl)) (fun _ _ _ h => h) (Or.inl ⟨by rfl, ?_⟩) hHeld ?_ ?_
            rotate_left
            · intro w' hsw
              have kg := hsw.1.cell k h17
              go_simp
              with_reducible rfl
            rotate_left
            · simp only [Act.put, List.setIfInBounds_toArray, List.set_cons_zero, List.set_cons_succ, i64_w, i32_w]
              rfl
            refine one_ (i := 15) (N := some 47) #[true, true, true, true, true, true, true, true, true, true, true, true, true, true, true, true, false, false] rfl rfl (one_of HT_.out (by kernel_rfl)) (by decide) (fun K hK => ?_)
            refine goes_ Try.func40 rfl rfl #[.agg (FR .u64 2 (wd (sN f g (5 * i + k) ((i + k) % 5)))), .int .u64 (f i * 19), .int .u64 (g k)] rfl rfl rfl (by simp only [List.map_toArray, List.map_cons, List.map_nil]; rfl) ((HP.out _).mono ?_)
            rintro e wc1 ⟨rfl, hb⟩
            have hSn : Row wc1 (w.heap.size + 1) .u64 5 g 27 ∧ Row wc1 (w.heap.size + 1 + 1 + 1) .u64 10 (sw (sN f g (5 * i + k))) 63 := ⟨hHeld.1.below hb hHeld.1.lt, hHeld.2.below hb hHeld.2.lt⟩
            have HBc1 := Aside0.mk (HBd.out.trans (hb.mono HBd.out.size))
            have HRc := Aside0.mk (HRd.out.below hb HRd.out.lt)
            have HZc := Aside0.mk (HZd.out.below hb HZd.out.lt)
            clear hb
            refine ⟨_, rfl, hK.out _ _ hSn (fun hHeld => ?_)⟩
            clear hSn
            clear hK K
            refine norm_ (a' := ?_) ?_ ?_
            rotate_left
            · show Act.put _ (some 47) _ = _
              simp only [Act.put, List.setIfInBounds_toArray, List.set_cons_zero, List.set_cons_succ, i64_w, i32_w]
              rfl
            refine take_ (i := 16) (N := some 48) (v := ?_) (a' := ?_) #[true, true, true, true, true, true, true, true, true, true, true, true, true, true, true, true, true, false] rfl rfl (take_ofW HT_.out HW_.out (by kernel_rfl)) (fun _ _ _ h => h) (Or.inl ⟨by rfl, ?_⟩) hHeld ?_ ?_
            rotate_left
            · intro w' hsw
              go_simp
              with_reducible rfl
            rotate_left
            · simp only [Act.put, List.setIfInBounds_toArray, List.set_cons_zero, List.set_cons_succ, i64_w, i32_w]
              rfl
            refine last_ (i := 17) (N := none) #[true, true, true, true, true, true, true, true, true, true, true, true, true, true, true, true, true, true] rfl rfl (one_of HT_.out (by kernel_rfl)) (by decide) (fun K hK => ?_)
            refine oper_store2 (off := (i + k) % 5 * 2) (sN f g (5 * i + k) ((i + k) % 5) + (f i * 19) * g k) hHeld.2 hj5 (by omega) rfl rfl rfl rfl rfl ?_
            intro wk hs hr
            have HTk := Aside0.mk hr
            have HGk := Aside0.mk (hHeld.1.stored hs (by omega))
            have HBk := Aside0.mk (hs.bel _ _ (by omega) HBc1.out)
            have HSk := Aside0.mk hs
            have hHc := hHeld
            clear hs hr
            refine hK.out _ _ ?_
            clear hK K
            refine done_ (done_of HT_.out (by kernel_rfl)) ?_
            try go_wp2
            refine ⟨⟨k + 1, by omega, rfl, HBk.out, HRc.out.stored HSk.out (by omega), HGk.out, HZc.out.stored HSk.out (by omega), ?_⟩, meas_up 5 k (by omega)⟩
            rw [HST.out]
            exact HTk.out
        · obtain rfl : k = 5 := by omega
          clear hb hr hg hz ht
          go_wp2_with fail
          exact ⟨⟨i + 1, by omega, rfl, HB.out, HR.out, HR2.out, HZ.out, HT.out⟩, meas_up 5 i (by omega)⟩
    · obtain rfl : i = 5 := by omega
      have hbo : w.heap.size + 1 + 1 + 1 < wr.heap.size := hl4
      have HN := Aside0.mk (Row.new wr .u64 5 (fun _ => 0) 25)
      have HZ2 := Aside0.mk (HZ.out.alloc (.cells (FR .u64 5 fun _ => 0) 25))
      have HT2 := Aside0.mk (HT.out.alloc (.cells (FR .u64 5 fun _ => 0) 25))
      have HB2 := Aside0.mk (HB.out.alloc (by omega) (.cells (FR .u64 5 fun _ => 0) 25))
      clear HR HR2
      go_wp2_with (refine step_load HT2.out Try.underlying63 info63 rfl rfl rfl rfl ?_)
      generalize wr.heap.size = bl at *
      go_loopw [52, 10] (fun v52 v10 wr' => ZRel3 w f g bl v52 v10 wr') (fun v _ _ => 5 - (intOf v).toNat)
      case atStart => exact ⟨0, by omega, rfl, rfl, HB2.out, HZ2.out, row_eq HN.out (fun j hj => (if_neg (by omega)).symm)⟩
      case round =>
        clear HN HZ2 HT2 HB2 HB HZ HT
        obtain ⟨i, hi, rfl, rfl, hb, hz, ho⟩ := hrel
        have HB := Aside0.mk hb
        have HZ := Aside0.mk hz
        have HO2 := Aside0.mk ho
        have hlz := hz.lt
        have hlo := ho.lt
        clear hb hz ho
        rcases Nat.lt_or_ge i 5 with h5 | h5
        · have hlt : ((i : Int) < 5) = True := eq_true (by omega)
          have hix := index63 (sN f g 25) i h5
          have hix2 : ∀ w, (Instr.index 63 (.agg (FR .u64 10 (sw (sN f g (5 * 5))))) (.int .i64 (i : Int))).run Try.prog w = .ok (.agg (FR .u64 2 (wd (sN f g 25 i)))) w := hix
          have hcb := mc_b f g HF.out HG.out i (by omega)
          have hsb := sN_b f g HF.out HG.out 25 (by omega) i
          have HMS := Aside0.mk (mc_succ f g i)
          have HML : Aside0 (mulL f g i = (sN f g 25 i + mc f g i) % 2251799813685248) := ⟨rfl⟩
          generalize hSe : sN f g 25 i = S at *
          generalize hce : mc f g i = c at *
          have hw0 : wd S 0 = S / 18446744073709551616 := rfl
          have hw1 : wd S 1 = S % 18446744073709551616 := rfl
          have c1 := add64_run (wd S 1) c 0 (by omega) (by omega) (by omega) (by omega)
          have e1 : (wd S 1 + c) % 18446744073709551616 = (S + c) % 18446744073709551616 := by omega
          have e2 : IntKind.u64.wrap (wd S 0 + (wd S 1 + c) / 18446744073709551616) = (S + c) / 18446744073709551616 := by rw [u64w _ (by omega) (by omega)]; omega
          have m1 := mask51 ((S + c) % 18446744073709551616) (by omega) (by omega)
          have e3 : IntKind.u64.wrap ((S + c) / 18446744073709551616 * 8192) = (S + c) / 18446744073709551616 * 8192 := u64w _ (by omega) (by omega)
          have e4 := or13 ((S + c) / 18446744073709551616) ((S + c) % 18446744073709551616 / 2251799813685248) (by omega) (by omega)
          have HE5 : Aside0 ((S + c) / 18446744073709551616 * 8192 + (S + c) % 18446744073709551616 / 2251799813685248 = (S + c) / 2251799813685248) := ⟨by omega⟩
          have HE6 : Aside0 ((S + c) % 18446744073709551616 % 2251799813685248 = (S + c) % 2251799813685248) := ⟨by omega⟩
          clear hcb hsb hw0 hw1 hSe hce hix
          have HNw := Aside0.mk (Row.new wr .u64 2 (fun _ => 0) 62)
          have HZa := Aside0.mk (HZ.out.alloc (.cells (FR .u64 2 fun _ => 0) 62))
          have HOa := Aside0.mk (HO2.out.alloc (.cells (FR .u64 2 fun _ => 0) 62))
          have HBa := Aside0.mk (HB.out.alloc (by omega) (.cells (FR .u64 2 fun _ => 0) 62))
          go_wp2_with (refine step_storeG (wd S) HNw.out info62 rfl rfl rfl rfl rfl ?_; intro w9 hs hr; have HS9 := Aside0.mk hs; have kk0 := hr.cell 0 (by omega); have kk1 := hr.cell 1 (by omega); have ho9 := HOa.out.stored hs (by omega); have HO9 := Aside0.mk ho9; have fi := ho9.fro i; have ki := ho9.cell i (by omega); clear hs hr ho9)
          have HB9 := Aside0.mk (HS9.out.bel _ _ (by omega) HBa.out)
          have HZ9 := Aside0.mk (HZa.out.stored HS9.out (by omega))
          refine ⟨⟨i + 1, by omega, rfl, by rw [HE5.out, HMS.out], bel_set HB9.out ⟨bl, i, none⟩ _ (by simp; omega), HZ9.out.other ⟨bl, i, none⟩ _ (by simp; omega), ?_⟩, meas_up 5 i (by omega)⟩
          rw [← HML.out]
          exact part_step (F := mulL f g) (a := ⟨0, 0, none⟩) HO9.out h5
        · obtain rfl : i = 5 := by omega
          have HO3 := row_eq HO2.out (f' := mulL f g) (fun j hj => if_pos hj)
          have k0 := HO3.cell 0 (by omega)
          have f0 := HO3.fro 0
          have HSB := Aside0.mk (mulS_b f g HF.out HG.out)
          have h5c := mc_five f g HF.out HG.out
          have hb0 := mulL_b f g 0
          have q1 : IntKind.u64.wrap (19 * mc f g 5) = 19 * mc f g 5 := u64w _ (by omega) (by omega)
          have q2 : IntKind.u64.wrap (mulL f g 0 + 19 * mc f g 5) = mulL f g 0 + 19 * mc f g 5 := u64w _ (by omega) (by omega)
          have HRS := Aside0.mk (HO3.set 0 (mulL f g 0 + 19 * mc f g 5) (by omega))
          have HBS := Aside0.mk (bel_set HB.out ⟨bl, 0, none⟩ (.int .u64 (mulL f g 0 + 19 * mc f g 5)) (by simp; omega))
          have HZS := Aside0.mk (HZ.out.other ⟨bl, 0, none⟩ (.int .u64 (mulL f g 0 + 19 * mc f g 5)) (by simp; omega))
          clear h5c hb0 HO2 HO3 HB HZ
          go_wp2_with (refine step_load HRS.out Try.underlying25 info25 rfl rfl rfl rfl ?_)
          refine (carr_calls _ _ HSB.out).mono ?_
          rintro e w1 ⟨rfl, hb⟩
          have HZ1 := Aside0.mk (HZS.out.below hb HZS.out.lt)
          have HB1 := Aside0.mk (HBS.out.trans (hb.mono HBS.out.size))
          clear hb
          go_wp2_with (refine step_storeG _ HZ1.out info27 rfl rfl rfl rfl rfl ?_; intro w9 hs hr; have HS9 := Aside0.mk hs; have HR9 := Aside0.mk hr; clear hs hr)
          refine bodyPost_ret (row_results rfl HR9.out rfl Try.underlying27 rfl info27) rfl ?_
          exact ⟨rfl, HS9.out.bel _ _ (by omega) HB1.out⟩
end
end Go.Proofs.Ythonoagpiofojaa.P
