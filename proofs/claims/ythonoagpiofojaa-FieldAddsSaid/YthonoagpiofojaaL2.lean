/- The law FieldAdds: its walk. -/
import Derived.Test.YthonoagpiofojaaR1
namespace Go.Proofs.Ythonoagpiofojaa.P
set_option linter.unusedVariables false
set_option linter.unusedSimpArgs false
open Go.RowKit Go.Proofs.YthonoagpiofojaaW.PrintWords Go.Proofs.YthonoagpiofojaaW.PrintLast Go.Proofs.YthonoagpiofojaaW.PrintMore
attribute [local go_sem] setCell_drewN
theorem tab403 : rtab .any (opsOf Try.f4 3) = (true, [([], []), ([0], [0]), ([], []), ([2, 1], [2]), ([], []), ([], []), ([4, 1, 3, 0, 1, 4, 5], [1, 4]), ([5, 3, 6, 0, 1, 2, 3, 4, 5, 6], [3, 5])]) := by kernel_rfl
theorem bits403 : waitsOk [([], []), ([0], [0]), ([], []), ([2, 1], [2]), ([], []), ([], []), ([4, 1, 3, 0, 1, 4, 5], [1, 4]), ([5, 3, 6, 0, 1, 2, 3, 4, 5, 6], [3, 5])] [0, 1, 0, 7, 0, 0, 63, 127] = true := by kernel_rfl
theorem tab404 : rtab .any (opsOf Try.f4 4) = (true, [([], []), ([], []), ([0, 1], [0, 1]), ([], []), ([3, 2], [3]), ([], []), ([5, 4], [5]), ([4, 6, 6], [4, 6]), ([2, 7, 7], [2, 7]), ([8, 8], [8]), ([9], [9]), ([9], [9]), ([10, 11, 9, 9], [9, 10, 11]), ([9], [9]), ([13, 12, 9], [9, 13]), ([9], [9]), ([15, 14, 9], [9, 15]), ([14, 16, 16, 9], [9, 14, 16]), ([12, 17, 17, 9], [9, 12, 17]), ([9, 18], [9, 18]), ([19, 18], [19]), ([20], [20]), ([21, 20, 20], [20, 21]), ([20], [20]), ([20], [20]), ([24, 22, 20], [20, 24]), ([23, 25, 25, 20], [20, 23, 25]), ([22, 26, 26, 20], [20, 22, 26]), ([20, 27], [20, 27]), ([28, 27, 0, 1, 2, 3, 4, 5, 6, 7, 8, 9, 10, 11, 12, 13, 14, 15, 16, 17, 18, 19, 20, 21, 22, 23, 24, 25, 26, 27, 28], [28])]) := by kernel_rfl
theorem bits404 : waitsOk [([], []), ([], []), ([0, 1], [0, 1]), ([], []), ([3, 2], [3]), ([], []), ([5, 4], [5]), ([4, 6, 6], [4, 6]), ([2, 7, 7], [2, 7]), ([8, 8], [8]), ([9], [9]), ([9], [9]), ([10, 11, 9, 9], [9, 10, 11]), ([9], [9]), ([13, 12, 9], [9, 13]), ([9], [9]), ([15, 14, 9], [9, 15]), ([14, 16, 16, 9], [9, 14, 16]), ([12, 17, 17, 9], [9, 12, 17]), ([9, 18], [9, 18]), ([19, 18], [19]), ([20], [20]), ([21, 20, 20], [20, 21]), ([20], [20]), ([20], [20]), ([24, 22, 20], [20, 24]), ([23, 25, 25, 20], [20, 23, 25]), ([22, 26, 26, 20], [20, 22, 26]), ([20, 27], [20, 27]), ([28, 27, 0, 1, 2, 3, 4, 5, 6, 7, 8, 9, 10, 11, 12, 13, 14, 15, 16, 17, 18, 19, 20, 21, 22, 23, 24, 25, 26, 27, 28], [28])] [0, 0, 3, 0, 15, 0, 63, 127, 255, 511, 1023, 1023, 4095, 1023, 16383, 1023, 65535, 131071, 262143, 524287, 1048575, 2097151, 4194303, 2097151, 2097151, 25165823, 67108863, 134217727, 268435455, 536870911] = true := by kernel_rfl
theorem FieldAdds_walk (a0 a1 : Nat → Int) (w : World) (w0 : ∀ i, i < 32 → (Lit.int .u8 (a0 i)).wf = true) (w1 : ∀ i, i < 32 → (Lit.int .u8 (a1 i)).wf = true) :
    Calls Try.prog 4 #[.agg (FR .u8 32 a0), .agg (FR .u8 32 a1)] w fun e w' => e = .returned (.bool true) ∧ Below w.heap.size w w' := by
  have HA : Aside0 (By a0) := ⟨fun j hj => u8b (w0 j hj)⟩
  have HA1 : Aside0 (By a1) := ⟨fun j hj => u8b (w1 j hj)⟩
  have hs11 : sameRow 32 (dig 256 11) (smL 11) = true := by decide +kernel
  have heq := same_small 11 hs11
  have F5 := Aside0.mk (Fe.small 5 (by omega))
  have F6 := Aside0.mk (Fe.small 6 (by omega))
  clear w0 w1 hs11
  go_enter Try.func4, Try.ntmps4
  have hR0 : Row ((w.alloc (.cells (FR .u8 32 a0) 22)).alloc (.cells (FR .u8 32 a1) 22)) w.heap.size .u8 32 a0 22 ∧ Row ((w.alloc (.cells (FR .u8 32 a0) 22)).alloc (.cells (FR .u8 32 a1) 22)) (w.heap.size + 1) .u8 32 a1 22 := ⟨(Row.new w .u8 32 a0 22).alloc _, heap_alloc2_new w _ _⟩
  have HR0 := Aside0.mk hR0
  clear hR0
  have HB0 := Aside0.mk (bel_two w (.cells (FR .u8 32 a0) 22) (.cells (FR .u8 32 a1) 22))
  go_wp2_with fail
  refine (small_elem_calls 5 _ (by omega)).mono ?_
  rintro e w1 ⟨rfl, hb⟩
  have HR1 := Aside0.mk (And.intro (HR0.out.1.below hb HR0.out.1.lt) (HR0.out.2.below hb HR0.out.2.lt))
  have HB1 := Aside0.mk (HB0.out.trans (hb.mono HB0.out.size))
  clear hb HR0 HB0
  go_wp2_with fail
  refine (small_elem_calls 6 _ (by omega)).mono ?_
  rintro e w2 ⟨rfl, hb⟩
  have HR2 := Aside0.mk (And.intro (HR1.out.1.below hb HR1.out.1.lt) (HR1.out.2.below hb HR1.out.2.lt))
  have HB2 := Aside0.mk (HB1.out.trans (hb.mono HB1.out.size))
  clear hb HR1 HB1
  go_wp2_with fail
  refine (addE_c _ _ _ F5.out.1 F6.out.1).mono ?_
  rintro e w3 ⟨rfl, hb⟩
  have HR3 := Aside0.mk (And.intro (HR2.out.1.below hb HR2.out.1.lt) (HR2.out.2.below hb HR2.out.2.lt))
  have HB3 := Aside0.mk (HB2.out.trans (hb.mono HB2.out.size))
  clear hb HR2 HB2
  go_wp2_with fail
  refine (bytes_is _ (F5.out.add F6.out).1 11 (by rw [(F5.out.add F6.out).2]; rfl) _).mono ?_
  rintro e w5 ⟨rfl, hb⟩
  have HR4 := Aside0.mk (And.intro (HR3.out.1.below hb HR3.out.1.lt) (HR3.out.2.below hb HR3.out.2.lt))
  have HB4 := Aside0.mk (HB3.out.trans (hb.mono HB3.out.size))
  clear hb HR3 HB3 F5 F6
  go_wp2_with fail
  have hh : Row w5.drew w.heap.size .u8 32 a0 22 ∧ Row w5.drew (w.heap.size + 1) .u8 32 a1 22 := HR4.out
  have HBd := Aside0.mk HB4.out.drew
  clear heq HR4 HB4
  refine start_ (n := 8) (S := (fun w' => Row w' w.heap.size .u8 32 a0 22 ∧ Row w' (w.heap.size + 1) .u8 32 a1 22)) (ds := []) #[false, false, false, false, false, false, false, false] (by kernel_rfl) rfl rfl hh (fun hHeld => ?_); refine with_tabW tab403 bits403 (fun HT_ HW_ => ?_)
  generalize w5.drew = w6 at HBd hHeld hh ⊢
  clear hh
  refine take_ (i := 0) (N := some 13) (v := ?_) (a' := ?_) #[true, false, false, false, false, false, false, false] rfl rfl (take_ofW HT_.out HW_.out (by kernel_rfl)) (fun _ _ _ h => h) (Or.inl ⟨by rfl, ?_⟩) hHeld ?_ ?_
  rotate_left
  · intro w' hsw
    refine exec_load (x := .tmp 2) hsw.1 Try.underlying22 info22 rfl ?_ ?_ <;> rfl
  rotate_left
  · simp only [Act.put, List.setIfInBounds_toArray, List.set_cons_zero, List.set_cons_succ, i64_w, i32_w]
    rfl
  refine take_ (i := 2) (N := some 15) (v := ?_) (a' := ?_) #[true, false, true, false, false, false, false, false] rfl rfl (take_ofW HT_.out HW_.out (by kernel_rfl)) (fun _ _ _ h => h) (Or.inl ⟨by rfl, ?_⟩) hHeld ?_ ?_
  rotate_left
  · intro w' hsw
    refine exec_load (x := .tmp 3) hsw.2 Try.underlying22 info22 rfl ?_ ?_ <;> rfl
  rotate_left
  · simp only [Act.put, List.setIfInBounds_toArray, List.set_cons_zero, List.set_cons_succ, i64_w, i32_w]
    rfl
  refine join_ (σ := Nat × Nat) 2 #[true, true, true, true, true, true, false, false] (fun s => [(5, .pointer (some ⟨s.1, 0, none⟩)), (6, .pointer (some ⟨s.2, 0, none⟩)), (14, .agg (FR .u64 5 (carr (ofL a0)))), (16, .agg (FR .u64 5 (carr (ofL a1))))]) (fun s w' => Row w' s.1 .u64 5 (fun _ => 0) 27 ∧ Row w' s.2 .u64 5 (fun _ => 0) 27 ∧ Row w' w.heap.size .u8 32 a0 22 ∧ Row w' (w.heap.size + 1) .u8 32 a1 22 ∧ Below w.heap.size w w' ∧ (w.heap.size + 1) < s.1 ∧ (w.heap.size + 1) < s.2 ∧ s.2 ≠ s.1) ?_ ?_
  rotate_left
  · intro hCont
    refine three_ (i := 1) (j := 4) (k := 5) (Ni := some 14) (Nj := some 5) (Nk := some 6) #[true, true, true, false, false, false, false, false] #[true, false, true, false, true, false, false, false] #[true, false, true, false, false, true, false, false] rfl rfl rfl rfl rfl rfl (by kernel_rfl) (by decide) (by decide) (by decide) (fun K hK => ?_) (fun K hK => ?_) (fun K hK => ?_)
    · skip
      refine goes_ Try.func13 rfl rfl #[.agg (FR .u8 32 a0)] rfl rfl rfl (by simp only [List.map_toArray, List.map_cons, List.map_nil]; rfl) ((Of_elem_calls a0 _ HA.out).mono ?_)
      rintro e wf1 ⟨rfl, hb⟩
      have hSn : Row wf1 w.heap.size .u8 32 a0 22 ∧ Row wf1 (w.heap.size + 1) .u8 32 a1 22 := ⟨hHeld.1.below hb hHeld.1.lt, hHeld.2.below hb hHeld.2.lt⟩
      have HBf1 := Aside0.mk (HBd.out.trans (hb.mono HBd.out.size))
      clear hb
      refine ⟨_, rfl, hK.out _ _ hSn (fun hHeld => ?_)⟩
      clear hSn hK K
      refine norm_ (a' := ?_) ?_ ?_
      rotate_left
      · show Act.put _ (some 14) _ = _
        simp only [Act.put, List.setIfInBounds_toArray, List.set_cons_zero, List.set_cons_succ, i64_w, i32_w]
        rfl
      refine three_ (i := 3) (j := 4) (k := 5) (Ni := some 16) (Nj := some 5) (Nk := some 6) #[true, true, true, true, false, false, false, false] #[true, true, true, false, true, false, false, false] #[true, true, true, false, false, true, false, false] rfl rfl rfl rfl rfl rfl (by kernel_rfl) (by decide) (by decide) (by decide) (fun K hK => ?_) (fun K hK => ?_) (fun K hK => ?_)
      · skip
        refine goes_ Try.func13 rfl rfl #[.agg (FR .u8 32 a1)] rfl rfl rfl (by simp only [List.map_toArray, List.map_cons, List.map_nil]; rfl) ((Of_elem_calls a1 _ HA1.out).mono ?_)
        rintro e wf2 ⟨rfl, hb⟩
        have hSn : Row wf2 w.heap.size .u8 32 a0 22 ∧ Row wf2 (w.heap.size + 1) .u8 32 a1 22 := ⟨hHeld.1.below hb hHeld.1.lt, hHeld.2.below hb hHeld.2.lt⟩
        have HBf2 := Aside0.mk (HBf1.out.trans (hb.mono HBf1.out.size))
        clear hb
        refine ⟨_, rfl, hK.out _ _ hSn (fun hHeld => ?_)⟩
        clear hSn hK K
        refine norm_ (a' := ?_) ?_ ?_
        rotate_left
        · show Act.put _ (some 16) _ = _
          simp only [Act.put, List.setIfInBounds_toArray, List.set_cons_zero, List.set_cons_succ, i64_w, i32_w]
          rfl
        refine two_ (i := 4) (j := 5) (Ni := some 5) (Nj := some 6) #[true, true, true, true, true, false, false, false] #[true, true, true, true, false, true, false, false] rfl rfl rfl rfl (by kernel_rfl) (by decide) (by decide) (fun K hK => ?_) (fun K hK => ?_)
        · skip
          refine event_step (by rfl) (v := .pointer (some ⟨wf2.heap.size, 0, none⟩)) (w1 := wf2.alloc (.cells (FR .u64 5 fun _ => 0) 27)) (by first | (go_simp; done) | (go_simp; rfl)) ?_
          have hSn : Row (wf2.alloc (.cells (FR .u64 5 fun _ => 0) 27)) w.heap.size .u8 32 a0 22 ∧ Row (wf2.alloc (.cells (FR .u64 5 fun _ => 0) 27)) (w.heap.size + 1) .u8 32 a1 22 := ⟨hHeld.1.alloc _, hHeld.2.alloc _⟩
          have HBf3 := Aside0.mk (HBf2.out.alloc HBf2.out.size (.cells (FR .u64 5 fun _ => 0) 27))
          have hlo4 : (w.heap.size + 1) < wf2.heap.size := hHeld.2.lt
          have HRf3_4 := Aside0.mk (Row.new wf2 .u64 5 (fun _ => 0) 27)
          generalize wf2.alloc (.cells (FR .u64 5 fun _ => 0) 27) = wf3 at hSn HBf3 HRf3_4 ⊢
          refine hK.out _ _ hSn (fun hHeld => ?_)
          clear hSn hK K
          refine norm_ (a' := ?_) ?_ ?_
          rotate_left
          · show Act.put _ (some 5) _ = _
            simp only [Act.put, List.setIfInBounds_toArray, List.set_cons_zero, List.set_cons_succ, i64_w, i32_w]
            rfl
          refine one_ (i := 5) (N := some 6) #[true, true, true, true, true, true, false, false] rfl rfl (one_of HT_.out (by kernel_rfl)) (by decide) (fun K hK => ?_)
          refine event_step (by rfl) (v := .pointer (some ⟨wf3.heap.size, 0, none⟩)) (w1 := wf3.alloc (.cells (FR .u64 5 fun _ => 0) 27)) (by first | (go_simp; done) | (go_simp; rfl)) ?_
          have hSn : Row (wf3.alloc (.cells (FR .u64 5 fun _ => 0) 27)) w.heap.size .u8 32 a0 22 ∧ Row (wf3.alloc (.cells (FR .u64 5 fun _ => 0) 27)) (w.heap.size + 1) .u8 32 a1 22 := ⟨hHeld.1.alloc _, hHeld.2.alloc _⟩
          have HBf4 := Aside0.mk (HBf3.out.alloc HBf3.out.size (.cells (FR .u64 5 fun _ => 0) 27))
          have hlo5 : (w.heap.size + 1) < wf3.heap.size := hHeld.2.lt
          have hne5_4 : wf3.heap.size ≠ wf2.heap.size := by have := HRf3_4.out.lt; omega
          have HRf4_4 := Aside0.mk (HRf3_4.out.alloc (.cells (FR .u64 5 fun _ => 0) 27))
          have HRf4_5 := Aside0.mk (Row.new wf3 .u64 5 (fun _ => 0) 27)
          generalize wf3.alloc (.cells (FR .u64 5 fun _ => 0) 27) = wf4 at hSn HBf4 HRf4_4 HRf4_5 ⊢
          refine hK.out _ _ hSn (fun hHeld => ?_)
          clear hSn hK K
          refine norm_ (a' := ?_) ?_ ?_
          rotate_left
          · show Act.put _ (some 6) _ = _
            simp only [Act.put, List.setIfInBounds_toArray, List.set_cons_zero, List.set_cons_succ, i64_w, i32_w]
            rfl
          exact norm_ (by first | (simp only [putAll, Act.put, List.setIfInBounds_toArray, List.set_cons_zero, List.set_cons_succ]; done) | (simp only [putAll, Act.put, List.setIfInBounds_toArray, List.set_cons_zero, List.set_cons_succ]; rfl)) (hCont (wf2.heap.size, wf3.heap.size) _ ⟨HRf4_4.out, HRf4_5.out, hHeld.1, hHeld.2, HBf4.out, hlo4, hlo5, hne5_4⟩)
        · skip
          refine event_step (by rfl) (v := .pointer (some ⟨wf2.heap.size, 0, none⟩)) (w1 := wf2.alloc (.cells (FR .u64 5 fun _ => 0) 27)) (by first | (go_simp; done) | (go_simp; rfl)) ?_
          have hSn : Row (wf2.alloc (.cells (FR .u64 5 fun _ => 0) 27)) w.heap.size .u8 32 a0 22 ∧ Row (wf2.alloc (.cells (FR .u64 5 fun _ => 0) 27)) (w.heap.size + 1) .u8 32 a1 22 := ⟨hHeld.1.alloc _, hHeld.2.alloc _⟩
          have HBf5 := Aside0.mk (HBf2.out.alloc HBf2.out.size (.cells (FR .u64 5 fun _ => 0) 27))
          have hlo5 : (w.heap.size + 1) < wf2.heap.size := hHeld.2.lt
          have HRf5_5 := Aside0.mk (Row.new wf2 .u64 5 (fun _ => 0) 27)
          generalize wf2.alloc (.cells (FR .u64 5 fun _ => 0) 27) = wf5 at hSn HBf5 HRf5_5 ⊢
          refine hK.out _ _ hSn (fun hHeld => ?_)
          clear hSn hK K
          refine norm_ (a' := ?_) ?_ ?_
          rotate_left
          · show Act.put _ (some 6) _ = _
            simp only [Act.put, List.setIfInBounds_toArray, List.set_cons_zero, List.set_cons_succ, i64_w, i32_w]
            rfl
          refine one_ (i := 4) (N := some 5) #[true, true, true, true, true, true, false, false] rfl rfl (one_of HT_.out (by kernel_rfl)) (by decide) (fun K hK => ?_)
          refine event_step (by rfl) (v := .pointer (some ⟨wf5.heap.size, 0, none⟩)) (w1 := wf5.alloc (.cells (FR .u64 5 fun _ => 0) 27)) (by first | (go_simp; done) | (go_simp; rfl)) ?_
          have hSn : Row (wf5.alloc (.cells (FR .u64 5 fun _ => 0) 27)) w.heap.size .u8 32 a0 22 ∧ Row (wf5.alloc (.cells (FR .u64 5 fun _ => 0) 27)) (w.heap.size + 1) .u8 32 a1 22 := ⟨hHeld.1.alloc _, hHeld.2.alloc _⟩
          have HBf6 := Aside0.mk (HBf5.out.alloc HBf5.out.size (.cells (FR .u64 5 fun _ => 0) 27))
          have hlo4 : (w.heap.size + 1) < wf5.heap.size := hHeld.2.lt
          have hne5_4 : wf2.heap.size ≠ wf5.heap.size := by have := HRf5_5.out.lt; omega
          have HRf6_5 := Aside0.mk (HRf5_5.out.alloc (.cells (FR .u64 5 fun _ => 0) 27))
          have HRf6_4 := Aside0.mk (Row.new wf5 .u64 5 (fun _ => 0) 27)
          generalize wf5.alloc (.cells (FR .u64 5 fun _ => 0) 27) = wf6 at hSn HBf6 HRf6_5 HRf6_4 ⊢
          refine hK.out _ _ hSn (fun hHeld => ?_)
          clear hSn hK K
          refine norm_ (a' := ?_) ?_ ?_
          rotate_left
          · show Act.put _ (some 5) _ = _
            simp only [Act.put, List.setIfInBounds_toArray, List.set_cons_zero, List.set_cons_succ, i64_w, i32_w]
            rfl
          exact norm_ (by first | (simp only [putAll, Act.put, List.setIfInBounds_toArray, List.set_cons_zero, List.set_cons_succ]; done) | (simp only [putAll, Act.put, List.setIfInBounds_toArray, List.set_cons_zero, List.set_cons_succ]; rfl)) (hCont (wf5.heap.size, wf2.heap.size) _ ⟨HRf6_4.out, HRf6_5.out, hHeld.1, hHeld.2, HBf6.out, hlo4, hlo5, hne5_4⟩)
      · skip
        refine event_step (by rfl) (v := .pointer (some ⟨wf1.heap.size, 0, none⟩)) (w1 := wf1.alloc (.cells (FR .u64 5 fun _ => 0) 27)) (by first | (go_simp; done) | (go_simp; rfl)) ?_
        have hSn : Row (wf1.alloc (.cells (FR .u64 5 fun _ => 0) 27)) w.heap.size .u8 32 a0 22 ∧ Row (wf1.alloc (.cells (FR .u64 5 fun _ => 0) 27)) (w.heap.size + 1) .u8 32 a1 22 := ⟨hHeld.1.alloc _, hHeld.2.alloc _⟩
        have HBf7 := Aside0.mk (HBf1.out.alloc HBf1.out.size (.cells (FR .u64 5 fun _ => 0) 27))
        have hlo4 : (w.heap.size + 1) < wf1.heap.size := hHeld.2.lt
        have HRf7_4 := Aside0.mk (Row.new wf1 .u64 5 (fun _ => 0) 27)
        generalize wf1.alloc (.cells (FR .u64 5 fun _ => 0) 27) = wf7 at hSn HBf7 HRf7_4 ⊢
        refine hK.out _ _ hSn (fun hHeld => ?_)
        clear hSn hK K
        refine norm_ (a' := ?_) ?_ ?_
        rotate_left
        · show Act.put _ (some 5) _ = _
          simp only [Act.put, List.setIfInBounds_toArray, List.set_cons_zero, List.set_cons_succ, i64_w, i32_w]
          rfl
        refine two_ (i := 3) (j := 5) (Ni := some 16) (Nj := some 6) #[true, true, true, true, true, false, false, false] #[true, true, true, false, true, true, false, false] rfl rfl rfl rfl (by kernel_rfl) (by decide) (by decide) (fun K hK => ?_) (fun K hK => ?_)
        · skip
          refine goes_ Try.func13 rfl rfl #[.agg (FR .u8 32 a1)] rfl rfl rfl (by simp only [List.map_toArray, List.map_cons, List.map_nil]; rfl) ((Of_elem_calls a1 _ HA1.out).mono ?_)
          rintro e wf8 ⟨rfl, hb⟩
          have hSn : Row wf8 w.heap.size .u8 32 a0 22 ∧ Row wf8 (w.heap.size + 1) .u8 32 a1 22 := ⟨hHeld.1.below hb hHeld.1.lt, hHeld.2.below hb hHeld.2.lt⟩
          have HBf8 := Aside0.mk (HBf7.out.trans (hb.mono HBf7.out.size))
          have HRf8_4 := Aside0.mk (HRf7_4.out.below hb HRf7_4.out.lt)
          clear hb
          refine ⟨_, rfl, hK.out _ _ hSn (fun hHeld => ?_)⟩
          clear hSn hK K
          refine norm_ (a' := ?_) ?_ ?_
          rotate_left
          · show Act.put _ (some 16) _ = _
            simp only [Act.put, List.setIfInBounds_toArray, List.set_cons_zero, List.set_cons_succ, i64_w, i32_w]
            rfl
          refine one_ (i := 5) (N := some 6) #[true, true, true, true, true, true, false, false] rfl rfl (one_of HT_.out (by kernel_rfl)) (by decide) (fun K hK => ?_)
          refine event_step (by rfl) (v := .pointer (some ⟨wf8.heap.size, 0, none⟩)) (w1 := wf8.alloc (.cells (FR .u64 5 fun _ => 0) 27)) (by first | (go_simp; done) | (go_simp; rfl)) ?_
          have hSn : Row (wf8.alloc (.cells (FR .u64 5 fun _ => 0) 27)) w.heap.size .u8 32 a0 22 ∧ Row (wf8.alloc (.cells (FR .u64 5 fun _ => 0) 27)) (w.heap.size + 1) .u8 32 a1 22 := ⟨hHeld.1.alloc _, hHeld.2.alloc _⟩
          have HBf9 := Aside0.mk (HBf8.out.alloc HBf8.out.size (.cells (FR .u64 5 fun _ => 0) 27))
          have hlo5 : (w.heap.size + 1) < wf8.heap.size := hHeld.2.lt
          have hne5_4 : wf8.heap.size ≠ wf1.heap.size := by have := HRf8_4.out.lt; omega
          have HRf9_4 := Aside0.mk (HRf8_4.out.alloc (.cells (FR .u64 5 fun _ => 0) 27))
          have HRf9_5 := Aside0.mk (Row.new wf8 .u64 5 (fun _ => 0) 27)
          generalize wf8.alloc (.cells (FR .u64 5 fun _ => 0) 27) = wf9 at hSn HBf9 HRf9_4 HRf9_5 ⊢
          refine hK.out _ _ hSn (fun hHeld => ?_)
          clear hSn hK K
          refine norm_ (a' := ?_) ?_ ?_
          rotate_left
          · show Act.put _ (some 6) _ = _
            simp only [Act.put, List.setIfInBounds_toArray, List.set_cons_zero, List.set_cons_succ, i64_w, i32_w]
            rfl
          exact norm_ (by first | (simp only [putAll, Act.put, List.setIfInBounds_toArray, List.set_cons_zero, List.set_cons_succ]; done) | (simp only [putAll, Act.put, List.setIfInBounds_toArray, List.set_cons_zero, List.set_cons_succ]; rfl)) (hCont (wf1.heap.size, wf8.heap.size) _ ⟨HRf9_4.out, HRf9_5.out, hHeld.1, hHeld.2, HBf9.out, hlo4, hlo5, hne5_4⟩)
        · skip
          refine event_step (by rfl) (v := .pointer (some ⟨wf7.heap.size, 0, none⟩)) (w1 := wf7.alloc (.cells (FR .u64 5 fun _ => 0) 27)) (by first | (go_simp; done) | (go_simp; rfl)) ?_
          have hSn : Row (wf7.alloc (.cells (FR .u64 5 fun _ => 0) 27)) w.heap.size .u8 32 a0 22 ∧ Row (wf7.alloc (.cells (FR .u64 5 fun _ => 0) 27)) (w.heap.size + 1) .u8 32 a1 22 := ⟨hHeld.1.alloc _, hHeld.2.alloc _⟩
          have HBf10 := Aside0.mk (HBf7.out.alloc HBf7.out.size (.cells (FR .u64 5 fun _ => 0) 27))
          have hlo5 : (w.heap.size + 1) < wf7.heap.size := hHeld.2.lt
          have hne5_4 : wf7.heap.size ≠ wf1.heap.size := by have := HRf7_4.out.lt; omega
          have HRf10_4 := Aside0.mk (HRf7_4.out.alloc (.cells (FR .u64 5 fun _ => 0) 27))
          have HRf10_5 := Aside0.mk (Row.new wf7 .u64 5 (fun _ => 0) 27)
          generalize wf7.alloc (.cells (FR .u64 5 fun _ => 0) 27) = wf10 at hSn HBf10 HRf10_4 HRf10_5 ⊢
          refine hK.out _ _ hSn (fun hHeld => ?_)
          clear hSn hK K
          refine norm_ (a' := ?_) ?_ ?_
          rotate_left
          · show Act.put _ (some 6) _ = _
            simp only [Act.put, List.setIfInBounds_toArray, List.set_cons_zero, List.set_cons_succ, i64_w, i32_w]
            rfl
          refine one_ (i := 3) (N := some 16) #[true, true, true, true, true, true, false, false] rfl rfl (one_of HT_.out (by kernel_rfl)) (by decide) (fun K hK => ?_)
          refine goes_ Try.func13 rfl rfl #[.agg (FR .u8 32 a1)] rfl rfl rfl (by simp only [List.map_toArray, List.map_cons, List.map_nil]; rfl) ((Of_elem_calls a1 _ HA1.out).mono ?_)
          rintro e wf11 ⟨rfl, hb⟩
          have hSn : Row wf11 w.heap.size .u8 32 a0 22 ∧ Row wf11 (w.heap.size + 1) .u8 32 a1 22 := ⟨hHeld.1.below hb hHeld.1.lt, hHeld.2.below hb hHeld.2.lt⟩
          have HBf11 := Aside0.mk (HBf10.out.trans (hb.mono HBf10.out.size))
          have HRf11_4 := Aside0.mk (HRf10_4.out.below hb HRf10_4.out.lt)
          have HRf11_5 := Aside0.mk (HRf10_5.out.below hb HRf10_5.out.lt)
          clear hb
          refine ⟨_, rfl, hK.out _ _ hSn (fun hHeld => ?_)⟩
          clear hSn hK K
          refine norm_ (a' := ?_) ?_ ?_
          rotate_left
          · show Act.put _ (some 16) _ = _
            simp only [Act.put, List.setIfInBounds_toArray, List.set_cons_zero, List.set_cons_succ, i64_w, i32_w]
            rfl
          exact norm_ (by first | (simp only [putAll, Act.put, List.setIfInBounds_toArray, List.set_cons_zero, List.set_cons_succ]; done) | (simp only [putAll, Act.put, List.setIfInBounds_toArray, List.set_cons_zero, List.set_cons_succ]; rfl)) (hCont (wf1.heap.size, wf7.heap.size) _ ⟨HRf11_4.out, HRf11_5.out, hHeld.1, hHeld.2, HBf11.out, hlo4, hlo5, hne5_4⟩)
      · skip
        refine event_step (by rfl) (v := .pointer (some ⟨wf1.heap.size, 0, none⟩)) (w1 := wf1.alloc (.cells (FR .u64 5 fun _ => 0) 27)) (by first | (go_simp; done) | (go_simp; rfl)) ?_
        have hSn : Row (wf1.alloc (.cells (FR .u64 5 fun _ => 0) 27)) w.heap.size .u8 32 a0 22 ∧ Row (wf1.alloc (.cells (FR .u64 5 fun _ => 0) 27)) (w.heap.size + 1) .u8 32 a1 22 := ⟨hHeld.1.alloc _, hHeld.2.alloc _⟩
        have HBf12 := Aside0.mk (HBf1.out.alloc HBf1.out.size (.cells (FR .u64 5 fun _ => 0) 27))
        have hlo5 : (w.heap.size + 1) < wf1.heap.size := hHeld.2.lt
        have HRf12_5 := Aside0.mk (Row.new wf1 .u64 5 (fun _ => 0) 27)
        generalize wf1.alloc (.cells (FR .u64 5 fun _ => 0) 27) = wf12 at hSn HBf12 HRf12_5 ⊢
        refine hK.out _ _ hSn (fun hHeld => ?_)
        clear hSn hK K
        refine norm_ (a' := ?_) ?_ ?_
        rotate_left
        · show Act.put _ (some 6) _ = _
          simp only [Act.put, List.setIfInBounds_toArray, List.set_cons_zero, List.set_cons_succ, i64_w, i32_w]
          rfl
        refine two_ (i := 3) (j := 4) (Ni := some 16) (Nj := some 5) #[true, true, true, true, false, true, false, false] #[true, true, true, false, true, true, false, false] rfl rfl rfl rfl (by kernel_rfl) (by decide) (by decide) (fun K hK => ?_) (fun K hK => ?_)
        · skip
          refine goes_ Try.func13 rfl rfl #[.agg (FR .u8 32 a1)] rfl rfl rfl (by simp only [List.map_toArray, List.map_cons, List.map_nil]; rfl) ((Of_elem_calls a1 _ HA1.out).mono ?_)
          rintro e wf13 ⟨rfl, hb⟩
          have hSn : Row wf13 w.heap.size .u8 32 a0 22 ∧ Row wf13 (w.heap.size + 1) .u8 32 a1 22 := ⟨hHeld.1.below hb hHeld.1.lt, hHeld.2.below hb hHeld.2.lt⟩
          have HBf13 := Aside0.mk (HBf12.out.trans (hb.mono HBf12.out.size))
          have HRf13_5 := Aside0.mk (HRf12_5.out.below hb HRf12_5.out.lt)
          clear hb
          refine ⟨_, rfl, hK.out _ _ hSn (fun hHeld => ?_)⟩
          clear hSn hK K
          refine norm_ (a' := ?_) ?_ ?_
          rotate_left
          · show Act.put _ (some 16) _ = _
            simp only [Act.put, List.setIfInBounds_toArray, List.set_cons_zero, List.set_cons_succ, i64_w, i32_w]
            rfl
          refine one_ (i := 4) (N := some 5) #[true, true, true, true, true, true, false, false] rfl rfl (one_of HT_.out (by kernel_rfl)) (by decide) (fun K hK => ?_)
          refine event_step (by rfl) (v := .pointer (some ⟨wf13.heap.size, 0, none⟩)) (w1 := wf13.alloc (.cells (FR .u64 5 fun _ => 0) 27)) (by first | (go_simp; done) | (go_simp; rfl)) ?_
          have hSn : Row (wf13.alloc (.cells (FR .u64 5 fun _ => 0) 27)) w.heap.size .u8 32 a0 22 ∧ Row (wf13.alloc (.cells (FR .u64 5 fun _ => 0) 27)) (w.heap.size + 1) .u8 32 a1 22 := ⟨hHeld.1.alloc _, hHeld.2.alloc _⟩
          have HBf14 := Aside0.mk (HBf13.out.alloc HBf13.out.size (.cells (FR .u64 5 fun _ => 0) 27))
          have hlo4 : (w.heap.size + 1) < wf13.heap.size := hHeld.2.lt
          have hne5_4 : wf1.heap.size ≠ wf13.heap.size := by have := HRf13_5.out.lt; omega
          have HRf14_5 := Aside0.mk (HRf13_5.out.alloc (.cells (FR .u64 5 fun _ => 0) 27))
          have HRf14_4 := Aside0.mk (Row.new wf13 .u64 5 (fun _ => 0) 27)
          generalize wf13.alloc (.cells (FR .u64 5 fun _ => 0) 27) = wf14 at hSn HBf14 HRf14_5 HRf14_4 ⊢
          refine hK.out _ _ hSn (fun hHeld => ?_)
          clear hSn hK K
          refine norm_ (a' := ?_) ?_ ?_
          rotate_left
          · show Act.put _ (some 5) _ = _
            simp only [Act.put, List.setIfInBounds_toArray, List.set_cons_zero, List.set_cons_succ, i64_w, i32_w]
            rfl
          exact norm_ (by first | (simp only [putAll, Act.put, List.setIfInBounds_toArray, List.set_cons_zero, List.set_cons_succ]; done) | (simp only [putAll, Act.put, List.setIfInBounds_toArray, List.set_cons_zero, List.set_cons_succ]; rfl)) (hCont (wf13.heap.size, wf1.heap.size) _ ⟨HRf14_4.out, HRf14_5.out, hHeld.1, hHeld.2, HBf14.out, hlo4, hlo5, hne5_4⟩)
        · skip
          refine event_step (by rfl) (v := .pointer (some ⟨wf12.heap.size, 0, none⟩)) (w1 := wf12.alloc (.cells (FR .u64 5 fun _ => 0) 27)) (by first | (go_simp; done) | (go_simp; rfl)) ?_
          have hSn : Row (wf12.alloc (.cells (FR .u64 5 fun _ => 0) 27)) w.heap.size .u8 32 a0 22 ∧ Row (wf12.alloc (.cells (FR .u64 5 fun _ => 0) 27)) (w.heap.size + 1) .u8 32 a1 22 := ⟨hHeld.1.alloc _, hHeld.2.alloc _⟩
          have HBf15 := Aside0.mk (HBf12.out.alloc HBf12.out.size (.cells (FR .u64 5 fun _ => 0) 27))
          have hlo4 : (w.heap.size + 1) < wf12.heap.size := hHeld.2.lt
          have hne5_4 : wf1.heap.size ≠ wf12.heap.size := by have := HRf12_5.out.lt; omega
          have HRf15_5 := Aside0.mk (HRf12_5.out.alloc (.cells (FR .u64 5 fun _ => 0) 27))
          have HRf15_4 := Aside0.mk (Row.new wf12 .u64 5 (fun _ => 0) 27)
          generalize wf12.alloc (.cells (FR .u64 5 fun _ => 0) 27) = wf15 at hSn HBf15 HRf15_5 HRf15_4 ⊢
          refine hK.out _ _ hSn (fun hHeld => ?_)
          clear hSn hK K
          refine norm_ (a' := ?_) ?_ ?_
          rotate_left
          · show Act.put _ (some 5) _ = _
            simp only [Act.put, List.setIfInBounds_toArray, List.set_cons_zero, List.set_cons_succ, i64_w, i32_w]
            rfl
          refine one_ (i := 3) (N := some 16) #[true, true, true, true, true, true, false, false] rfl rfl (one_of HT_.out (by kernel_rfl)) (by decide) (fun K hK => ?_)
          refine goes_ Try.func13 rfl rfl #[.agg (FR .u8 32 a1)] rfl rfl rfl (by simp only [List.map_toArray, List.map_cons, List.map_nil]; rfl) ((Of_elem_calls a1 _ HA1.out).mono ?_)
          rintro e wf16 ⟨rfl, hb⟩
          have hSn : Row wf16 w.heap.size .u8 32 a0 22 ∧ Row wf16 (w.heap.size + 1) .u8 32 a1 22 := ⟨hHeld.1.below hb hHeld.1.lt, hHeld.2.below hb hHeld.2.lt⟩
          have HBf16 := Aside0.mk (HBf15.out.trans (hb.mono HBf15.out.size))
          have HRf16_5 := Aside0.mk (HRf15_5.out.below hb HRf15_5.out.lt)
          have HRf16_4 := Aside0.mk (HRf15_4.out.below hb HRf15_4.out.lt)
          clear hb
          refine ⟨_, rfl, hK.out _ _ hSn (fun hHeld => ?_)⟩
          clear hSn hK K
          refine norm_ (a' := ?_) ?_ ?_
          rotate_left
          · show Act.put _ (some 16) _ = _
            simp only [Act.put, List.setIfInBounds_toArray, List.set_cons_zero, List.set_cons_succ, i64_w, i32_w]
            rfl
          exact norm_ (by first | (simp only [putAll, Act.put, List.setIfInBounds_toArray, List.set_cons_zero, List.set_cons_succ]; done) | (simp only [putAll, Act.put, List.setIfInBounds_toArray, List.set_cons_zero, List.set_cons_succ]; rfl)) (hCont (wf12.heap.size, wf1.heap.size) _ ⟨HRf16_4.out, HRf16_5.out, hHeld.1, hHeld.2, HBf16.out, hlo4, hlo5, hne5_4⟩)
    · skip
      refine event_step (by rfl) (v := .pointer (some ⟨w6.heap.size, 0, none⟩)) (w1 := w6.alloc (.cells (FR .u64 5 fun _ => 0) 27)) (by first | (go_simp; done) | (go_simp; rfl)) ?_
      have hSn : Row (w6.alloc (.cells (FR .u64 5 fun _ => 0) 27)) w.heap.size .u8 32 a0 22 ∧ Row (w6.alloc (.cells (FR .u64 5 fun _ => 0) 27)) (w.heap.size + 1) .u8 32 a1 22 := ⟨hHeld.1.alloc _, hHeld.2.alloc _⟩
      have HBf17 := Aside0.mk (HBd.out.alloc HBd.out.size (.cells (FR .u64 5 fun _ => 0) 27))
      have hlo4 : (w.heap.size + 1) < w6.heap.size := hHeld.2.lt
      have HRf17_4 := Aside0.mk (Row.new w6 .u64 5 (fun _ => 0) 27)
      generalize w6.alloc (.cells (FR .u64 5 fun _ => 0) 27) = wf17 at hSn HBf17 HRf17_4 ⊢
      refine hK.out _ _ hSn (fun hHeld => ?_)
      clear hSn hK K
      refine norm_ (a' := ?_) ?_ ?_
      rotate_left
      · show Act.put _ (some 5) _ = _
        simp only [Act.put, List.setIfInBounds_toArray, List.set_cons_zero, List.set_cons_succ, i64_w, i32_w]
        rfl
      refine two_ (i := 1) (j := 5) (Ni := some 14) (Nj := some 6) #[true, true, true, false, true, false, false, false] #[true, false, true, false, true, true, false, false] rfl rfl rfl rfl (by kernel_rfl) (by decide) (by decide) (fun K hK => ?_) (fun K hK => ?_)
      · skip
        refine goes_ Try.func13 rfl rfl #[.agg (FR .u8 32 a0)] rfl rfl rfl (by simp only [List.map_toArray, List.map_cons, List.map_nil]; rfl) ((Of_elem_calls a0 _ HA.out).mono ?_)
        rintro e wf18 ⟨rfl, hb⟩
        have hSn : Row wf18 w.heap.size .u8 32 a0 22 ∧ Row wf18 (w.heap.size + 1) .u8 32 a1 22 := ⟨hHeld.1.below hb hHeld.1.lt, hHeld.2.below hb hHeld.2.lt⟩
        have HBf18 := Aside0.mk (HBf17.out.trans (hb.mono HBf17.out.size))
        have HRf18_4 := Aside0.mk (HRf17_4.out.below hb HRf17_4.out.lt)
        clear hb
        refine ⟨_, rfl, hK.out _ _ hSn (fun hHeld => ?_)⟩
        clear hSn hK K
        refine norm_ (a' := ?_) ?_ ?_
        rotate_left
        · show Act.put _ (some 14) _ = _
          simp only [Act.put, List.setIfInBounds_toArray, List.set_cons_zero, List.set_cons_succ, i64_w, i32_w]
          rfl
        refine two_ (i := 3) (j := 5) (Ni := some 16) (Nj := some 6) #[true, true, true, true, true, false, false, false] #[true, true, true, false, true, true, false, false] rfl rfl rfl rfl (by kernel_rfl) (by decide) (by decide) (fun K hK => ?_) (fun K hK => ?_)
        · skip
          refine goes_ Try.func13 rfl rfl #[.agg (FR .u8 32 a1)] rfl rfl rfl (by simp only [List.map_toArray, List.map_cons, List.map_nil]; rfl) ((Of_elem_calls a1 _ HA1.out).mono ?_)
          rintro e wf19 ⟨rfl, hb⟩
          have hSn : Row wf19 w.heap.size .u8 32 a0 22 ∧ Row wf19 (w.heap.size + 1) .u8 32 a1 22 := ⟨hHeld.1.below hb hHeld.1.lt, hHeld.2.below hb hHeld.2.lt⟩
          have HBf19 := Aside0.mk (HBf18.out.trans (hb.mono HBf18.out.size))
          have HRf19_4 := Aside0.mk (HRf18_4.out.below hb HRf18_4.out.lt)
          clear hb
          refine ⟨_, rfl, hK.out _ _ hSn (fun hHeld => ?_)⟩
          clear hSn hK K
          refine norm_ (a' := ?_) ?_ ?_
          rotate_left
          · show Act.put _ (some 16) _ = _
            simp only [Act.put, List.setIfInBounds_toArray, List.set_cons_zero, List.set_cons_succ, i64_w, i32_w]
            rfl
          refine one_ (i := 5) (N := some 6) #[true, true, true, true, true, true, false, false] rfl rfl (one_of HT_.out (by kernel_rfl)) (by decide) (fun K hK => ?_)
          refine event_step (by rfl) (v := .pointer (some ⟨wf19.heap.size, 0, none⟩)) (w1 := wf19.alloc (.cells (FR .u64 5 fun _ => 0) 27)) (by first | (go_simp; done) | (go_simp; rfl)) ?_
          have hSn : Row (wf19.alloc (.cells (FR .u64 5 fun _ => 0) 27)) w.heap.size .u8 32 a0 22 ∧ Row (wf19.alloc (.cells (FR .u64 5 fun _ => 0) 27)) (w.heap.size + 1) .u8 32 a1 22 := ⟨hHeld.1.alloc _, hHeld.2.alloc _⟩
          have HBf20 := Aside0.mk (HBf19.out.alloc HBf19.out.size (.cells (FR .u64 5 fun _ => 0) 27))
          have hlo5 : (w.heap.size + 1) < wf19.heap.size := hHeld.2.lt
          have hne5_4 : wf19.heap.size ≠ w6.heap.size := by have := HRf19_4.out.lt; omega
          have HRf20_4 := Aside0.mk (HRf19_4.out.alloc (.cells (FR .u64 5 fun _ => 0) 27))
          have HRf20_5 := Aside0.mk (Row.new wf19 .u64 5 (fun _ => 0) 27)
          generalize wf19.alloc (.cells (FR .u64 5 fun _ => 0) 27) = wf20 at hSn HBf20 HRf20_4 HRf20_5 ⊢
          refine hK.out _ _ hSn (fun hHeld => ?_)
          clear hSn hK K
          refine norm_ (a' := ?_) ?_ ?_
          rotate_left
          · show Act.put _ (some 6) _ = _
            simp only [Act.put, List.setIfInBounds_toArray, List.set_cons_zero, List.set_cons_succ, i64_w, i32_w]
            rfl
          exact norm_ (by first | (simp only [putAll, Act.put, List.setIfInBounds_toArray, List.set_cons_zero, List.set_cons_succ]; done) | (simp only [putAll, Act.put, List.setIfInBounds_toArray, List.set_cons_zero, List.set_cons_succ]; rfl)) (hCont (w6.heap.size, wf19.heap.size) _ ⟨HRf20_4.out, HRf20_5.out, hHeld.1, hHeld.2, HBf20.out, hlo4, hlo5, hne5_4⟩)
        · skip
          refine event_step (by rfl) (v := .pointer (some ⟨wf18.heap.size, 0, none⟩)) (w1 := wf18.alloc (.cells (FR .u64 5 fun _ => 0) 27)) (by first | (go_simp; done) | (go_simp; rfl)) ?_
          have hSn : Row (wf18.alloc (.cells (FR .u64 5 fun _ => 0) 27)) w.heap.size .u8 32 a0 22 ∧ Row (wf18.alloc (.cells (FR .u64 5 fun _ => 0) 27)) (w.heap.size + 1) .u8 32 a1 22 := ⟨hHeld.1.alloc _, hHeld.2.alloc _⟩
          have HBf21 := Aside0.mk (HBf18.out.alloc HBf18.out.size (.cells (FR .u64 5 fun _ => 0) 27))
          have hlo5 : (w.heap.size + 1) < wf18.heap.size := hHeld.2.lt
          have hne5_4 : wf18.heap.size ≠ w6.heap.size := by have := HRf18_4.out.lt; omega
          have HRf21_4 := Aside0.mk (HRf18_4.out.alloc (.cells (FR .u64 5 fun _ => 0) 27))
          have HRf21_5 := Aside0.mk (Row.new wf18 .u64 5 (fun _ => 0) 27)
          generalize wf18.alloc (.cells (FR .u64 5 fun _ => 0) 27) = wf21 at hSn HBf21 HRf21_4 HRf21_5 ⊢
          refine hK.out _ _ hSn (fun hHeld => ?_)
          clear hSn hK K
          refine norm_ (a' := ?_) ?_ ?_
          rotate_left
          · show Act.put _ (some 6) _ = _
            simp only [Act.put, List.setIfInBounds_toArray, List.set_cons_zero, List.set_cons_succ, i64_w, i32_w]
            rfl
          refine one_ (i := 3) (N := some 16) #[true, true, true, true, true, true, false, false] rfl rfl (one_of HT_.out (by kernel_rfl)) (by decide) (fun K hK => ?_)
          refine goes_ Try.func13 rfl rfl #[.agg (FR .u8 32 a1)] rfl rfl rfl (by simp only [List.map_toArray, List.map_cons, List.map_nil]; rfl) ((Of_elem_calls a1 _ HA1.out).mono ?_)
          rintro e wf22 ⟨rfl, hb⟩
          have hSn : Row wf22 w.heap.size .u8 32 a0 22 ∧ Row wf22 (w.heap.size + 1) .u8 32 a1 22 := ⟨hHeld.1.below hb hHeld.1.lt, hHeld.2.below hb hHeld.2.lt⟩
          have HBf22 := Aside0.mk (HBf21.out.trans (hb.mono HBf21.out.size))
          have HRf22_4 := Aside0.mk (HRf21_4.out.below hb HRf21_4.out.lt)
          have HRf22_5 := Aside0.mk (HRf21_5.out.below hb HRf21_5.out.lt)
          clear hb
          refine ⟨_, rfl, hK.out _ _ hSn (fun hHeld => ?_)⟩
          clear hSn hK K
          refine norm_ (a' := ?_) ?_ ?_
          rotate_left
          · show Act.put _ (some 16) _ = _
            simp only [Act.put, List.setIfInBounds_toArray, List.set_cons_zero, List.set_cons_succ, i64_w, i32_w]
            rfl
          exact norm_ (by first | (simp only [putAll, Act.put, List.setIfInBounds_toArray, List.set_cons_zero, List.set_cons_succ]; done) | (simp only [putAll, Act.put, List.setIfInBounds_toArray, List.set_cons_zero, List.set_cons_succ]; rfl)) (hCont (w6.heap.size, wf18.heap.size) _ ⟨HRf22_4.out, HRf22_5.out, hHeld.1, hHeld.2, HBf22.out, hlo4, hlo5, hne5_4⟩)
      · skip
        refine event_step (by rfl) (v := .pointer (some ⟨wf17.heap.size, 0, none⟩)) (w1 := wf17.alloc (.cells (FR .u64 5 fun _ => 0) 27)) (by first | (go_simp; done) | (go_simp; rfl)) ?_
        have hSn : Row (wf17.alloc (.cells (FR .u64 5 fun _ => 0) 27)) w.heap.size .u8 32 a0 22 ∧ Row (wf17.alloc (.cells (FR .u64 5 fun _ => 0) 27)) (w.heap.size + 1) .u8 32 a1 22 := ⟨hHeld.1.alloc _, hHeld.2.alloc _⟩
        have HBf23 := Aside0.mk (HBf17.out.alloc HBf17.out.size (.cells (FR .u64 5 fun _ => 0) 27))
        have hlo5 : (w.heap.size + 1) < wf17.heap.size := hHeld.2.lt
        have hne5_4 : wf17.heap.size ≠ w6.heap.size := by have := HRf17_4.out.lt; omega
        have HRf23_4 := Aside0.mk (HRf17_4.out.alloc (.cells (FR .u64 5 fun _ => 0) 27))
        have HRf23_5 := Aside0.mk (Row.new wf17 .u64 5 (fun _ => 0) 27)
        generalize wf17.alloc (.cells (FR .u64 5 fun _ => 0) 27) = wf23 at hSn HBf23 HRf23_4 HRf23_5 ⊢
        refine hK.out _ _ hSn (fun hHeld => ?_)
        clear hSn hK K
        refine norm_ (a' := ?_) ?_ ?_
        rotate_left
        · show Act.put _ (some 6) _ = _
          simp only [Act.put, List.setIfInBounds_toArray, List.set_cons_zero, List.set_cons_succ, i64_w, i32_w]
          rfl
        refine one_ (i := 1) (N := some 14) #[true, true, true, false, true, true, false, false] rfl rfl (one_of HT_.out (by kernel_rfl)) (by decide) (fun K hK => ?_)
        refine goes_ Try.func13 rfl rfl #[.agg (FR .u8 32 a0)] rfl rfl rfl (by simp only [List.map_toArray, List.map_cons, List.map_nil]; rfl) ((Of_elem_calls a0 _ HA.out).mono ?_)
        rintro e wf24 ⟨rfl, hb⟩
        have hSn : Row wf24 w.heap.size .u8 32 a0 22 ∧ Row wf24 (w.heap.size + 1) .u8 32 a1 22 := ⟨hHeld.1.below hb hHeld.1.lt, hHeld.2.below hb hHeld.2.lt⟩
        have HBf24 := Aside0.mk (HBf23.out.trans (hb.mono HBf23.out.size))
        have HRf24_4 := Aside0.mk (HRf23_4.out.below hb HRf23_4.out.lt)
        have HRf24_5 := Aside0.mk (HRf23_5.out.below hb HRf23_5.out.lt)
        clear hb
        refine ⟨_, rfl, hK.out _ _ hSn (fun hHeld => ?_)⟩
        clear hSn hK K
        refine norm_ (a' := ?_) ?_ ?_
        rotate_left
        · show Act.put _ (some 14) _ = _
          simp only [Act.put, List.setIfInBounds_toArray, List.set_cons_zero, List.set_cons_succ, i64_w, i32_w]
          rfl
        refine one_ (i := 3) (N := some 16) #[true, true, true, true, true, true, false, false] rfl rfl (one_of HT_.out (by kernel_rfl)) (by decide) (fun K hK => ?_)
        refine goes_ Try.func13 rfl rfl #[.agg (FR .u8 32 a1)] rfl rfl rfl (by simp only [List.map_toArray, List.map_cons, List.map_nil]; rfl) ((Of_elem_calls a1 _ HA1.out).mono ?_)
        rintro e wf25 ⟨rfl, hb⟩
        have hSn : Row wf25 w.heap.size .u8 32 a0 22 ∧ Row wf25 (w.heap.size + 1) .u8 32 a1 22 := ⟨hHeld.1.below hb hHeld.1.lt, hHeld.2.below hb hHeld.2.lt⟩
        have HBf25 := Aside0.mk (HBf24.out.trans (hb.mono HBf24.out.size))
        have HRf25_4 := Aside0.mk (HRf24_4.out.below hb HRf24_4.out.lt)
        have HRf25_5 := Aside0.mk (HRf24_5.out.below hb HRf24_5.out.lt)
        clear hb
        refine ⟨_, rfl, hK.out _ _ hSn (fun hHeld => ?_)⟩
        clear hSn hK K
        refine norm_ (a' := ?_) ?_ ?_
        rotate_left
        · show Act.put _ (some 16) _ = _
          simp only [Act.put, List.setIfInBounds_toArray, List.set_cons_zero, List.set_cons_succ, i64_w, i32_w]
          rfl
        exact norm_ (by first | (simp only [putAll, Act.put, List.setIfInBounds_toArray, List.set_cons_zero, List.set_cons_succ]; done) | (simp only [putAll, Act.put, List.setIfInBounds_toArray, List.set_cons_zero, List.set_cons_succ]; rfl)) (hCont (w6.heap.size, wf17.heap.size) _ ⟨HRf25_4.out, HRf25_5.out, hHeld.1, hHeld.2, HBf25.out, hlo4, hlo5, hne5_4⟩)
    · skip
      refine event_step (by rfl) (v := .pointer (some ⟨w6.heap.size, 0, none⟩)) (w1 := w6.alloc (.cells (FR .u64 5 fun _ => 0) 27)) (by first | (go_simp; done) | (go_simp; rfl)) ?_
      have hSn : Row (w6.alloc (.cells (FR .u64 5 fun _ => 0) 27)) w.heap.size .u8 32 a0 22 ∧ Row (w6.alloc (.cells (FR .u64 5 fun _ => 0) 27)) (w.heap.size + 1) .u8 32 a1 22 := ⟨hHeld.1.alloc _, hHeld.2.alloc _⟩
      have HBf26 := Aside0.mk (HBd.out.alloc HBd.out.size (.cells (FR .u64 5 fun _ => 0) 27))
      have hlo5 : (w.heap.size + 1) < w6.heap.size := hHeld.2.lt
      have HRf26_5 := Aside0.mk (Row.new w6 .u64 5 (fun _ => 0) 27)
      generalize w6.alloc (.cells (FR .u64 5 fun _ => 0) 27) = wf26 at hSn HBf26 HRf26_5 ⊢
      refine hK.out _ _ hSn (fun hHeld => ?_)
      clear hSn hK K
      refine norm_ (a' := ?_) ?_ ?_
      rotate_left
      · show Act.put _ (some 6) _ = _
        simp only [Act.put, List.setIfInBounds_toArray, List.set_cons_zero, List.set_cons_succ, i64_w, i32_w]
        rfl
      refine two_ (i := 1) (j := 4) (Ni := some 14) (Nj := some 5) #[true, true, true, false, false, true, false, false] #[true, false, true, false, true, true, false, false] rfl rfl rfl rfl (by kernel_rfl) (by decide) (by decide) (fun K hK => ?_) (fun K hK => ?_)
      · skip
        refine goes_ Try.func13 rfl rfl #[.agg (FR .u8 32 a0)] rfl rfl rfl (by simp only [List.map_toArray, List.map_cons, List.map_nil]; rfl) ((Of_elem_calls a0 _ HA.out).mono ?_)
        rintro e wf27 ⟨rfl, hb⟩
        have hSn : Row wf27 w.heap.size .u8 32 a0 22 ∧ Row wf27 (w.heap.size + 1) .u8 32 a1 22 := ⟨hHeld.1.below hb hHeld.1.lt, hHeld.2.below hb hHeld.2.lt⟩
        have HBf27 := Aside0.mk (HBf26.out.trans (hb.mono HBf26.out.size))
        have HRf27_5 := Aside0.mk (HRf26_5.out.below hb HRf26_5.out.lt)
        clear hb
        refine ⟨_, rfl, hK.out _ _ hSn (fun hHeld => ?_)⟩
        clear hSn hK K
        refine norm_ (a' := ?_) ?_ ?_
        rotate_left
        · show Act.put _ (some 14) _ = _
          simp only [Act.put, List.setIfInBounds_toArray, List.set_cons_zero, List.set_cons_succ, i64_w, i32_w]
          rfl
        refine two_ (i := 3) (j := 4) (Ni := some 16) (Nj := some 5) #[true, true, true, true, false, true, false, false] #[true, true, true, false, true, true, false, false] rfl rfl rfl rfl (by kernel_rfl) (by decide) (by decide) (fun K hK => ?_) (fun K hK => ?_)
        · skip
          refine goes_ Try.func13 rfl rfl #[.agg (FR .u8 32 a1)] rfl rfl rfl (by simp only [List.map_toArray, List.map_cons, List.map_nil]; rfl) ((Of_elem_calls a1 _ HA1.out).mono ?_)
          rintro e wf28 ⟨rfl, hb⟩
          have hSn : Row wf28 w.heap.size .u8 32 a0 22 ∧ Row wf28 (w.heap.size + 1) .u8 32 a1 22 := ⟨hHeld.1.below hb hHeld.1.lt, hHeld.2.below hb hHeld.2.lt⟩
          have HBf28 := Aside0.mk (HBf27.out.trans (hb.mono HBf27.out.size))
          have HRf28_5 := Aside0.mk (HRf27_5.out.below hb HRf27_5.out.lt)
          clear hb
          refine ⟨_, rfl, hK.out _ _ hSn (fun hHeld => ?_)⟩
          clear hSn hK K
          refine norm_ (a' := ?_) ?_ ?_
          rotate_left
          · show Act.put _ (some 16) _ = _
            simp only [Act.put, List.setIfInBounds_toArray, List.set_cons_zero, List.set_cons_succ, i64_w, i32_w]
            rfl
          refine one_ (i := 4) (N := some 5) #[true, true, true, true, true, true, false, false] rfl rfl (one_of HT_.out (by kernel_rfl)) (by decide) (fun K hK => ?_)
          refine event_step (by rfl) (v := .pointer (some ⟨wf28.heap.size, 0, none⟩)) (w1 := wf28.alloc (.cells (FR .u64 5 fun _ => 0) 27)) (by first | (go_simp; done) | (go_simp; rfl)) ?_
          have hSn : Row (wf28.alloc (.cells (FR .u64 5 fun _ => 0) 27)) w.heap.size .u8 32 a0 22 ∧ Row (wf28.alloc (.cells (FR .u64 5 fun _ => 0) 27)) (w.heap.size + 1) .u8 32 a1 22 := ⟨hHeld.1.alloc _, hHeld.2.alloc _⟩
          have HBf29 := Aside0.mk (HBf28.out.alloc HBf28.out.size (.cells (FR .u64 5 fun _ => 0) 27))
          have hlo4 : (w.heap.size + 1) < wf28.heap.size := hHeld.2.lt
          have hne5_4 : w6.heap.size ≠ wf28.heap.size := by have := HRf28_5.out.lt; omega
          have HRf29_5 := Aside0.mk (HRf28_5.out.alloc (.cells (FR .u64 5 fun _ => 0) 27))
          have HRf29_4 := Aside0.mk (Row.new wf28 .u64 5 (fun _ => 0) 27)
          generalize wf28.alloc (.cells (FR .u64 5 fun _ => 0) 27) = wf29 at hSn HBf29 HRf29_5 HRf29_4 ⊢
          refine hK.out _ _ hSn (fun hHeld => ?_)
          clear hSn hK K
          refine norm_ (a' := ?_) ?_ ?_
          rotate_left
          · show Act.put _ (some 5) _ = _
            simp only [Act.put, List.setIfInBounds_toArray, List.set_cons_zero, List.set_cons_succ, i64_w, i32_w]
            rfl
          exact norm_ (by first | (simp only [putAll, Act.put, List.setIfInBounds_toArray, List.set_cons_zero, List.set_cons_succ]; done) | (simp only [putAll, Act.put, List.setIfInBounds_toArray, List.set_cons_zero, List.set_cons_succ]; rfl)) (hCont (wf28.heap.size, w6.heap.size) _ ⟨HRf29_4.out, HRf29_5.out, hHeld.1, hHeld.2, HBf29.out, hlo4, hlo5, hne5_4⟩)
        · skip
          refine event_step (by rfl) (v := .pointer (some ⟨wf27.heap.size, 0, none⟩)) (w1 := wf27.alloc (.cells (FR .u64 5 fun _ => 0) 27)) (by first | (go_simp; done) | (go_simp; rfl)) ?_
          have hSn : Row (wf27.alloc (.cells (FR .u64 5 fun _ => 0) 27)) w.heap.size .u8 32 a0 22 ∧ Row (wf27.alloc (.cells (FR .u64 5 fun _ => 0) 27)) (w.heap.size + 1) .u8 32 a1 22 := ⟨hHeld.1.alloc _, hHeld.2.alloc _⟩
          have HBf30 := Aside0.mk (HBf27.out.alloc HBf27.out.size (.cells (FR .u64 5 fun _ => 0) 27))
          have hlo4 : (w.heap.size + 1) < wf27.heap.size := hHeld.2.lt
          have hne5_4 : w6.heap.size ≠ wf27.heap.size := by have := HRf27_5.out.lt; omega
          have HRf30_5 := Aside0.mk (HRf27_5.out.alloc (.cells (FR .u64 5 fun _ => 0) 27))
          have HRf30_4 := Aside0.mk (Row.new wf27 .u64 5 (fun _ => 0) 27)
          generalize wf27.alloc (.cells (FR .u64 5 fun _ => 0) 27) = wf30 at hSn HBf30 HRf30_5 HRf30_4 ⊢
          refine hK.out _ _ hSn (fun hHeld => ?_)
          clear hSn hK K
          refine norm_ (a' := ?_) ?_ ?_
          rotate_left
          · show Act.put _ (some 5) _ = _
            simp only [Act.put, List.setIfInBounds_toArray, List.set_cons_zero, List.set_cons_succ, i64_w, i32_w]
            rfl
          refine one_ (i := 3) (N := some 16) #[true, true, true, true, true, true, false, false] rfl rfl (one_of HT_.out (by kernel_rfl)) (by decide) (fun K hK => ?_)
          refine goes_ Try.func13 rfl rfl #[.agg (FR .u8 32 a1)] rfl rfl rfl (by simp only [List.map_toArray, List.map_cons, List.map_nil]; rfl) ((Of_elem_calls a1 _ HA1.out).mono ?_)
          rintro e wf31 ⟨rfl, hb⟩
          have hSn : Row wf31 w.heap.size .u8 32 a0 22 ∧ Row wf31 (w.heap.size + 1) .u8 32 a1 22 := ⟨hHeld.1.below hb hHeld.1.lt, hHeld.2.below hb hHeld.2.lt⟩
          have HBf31 := Aside0.mk (HBf30.out.trans (hb.mono HBf30.out.size))
          have HRf31_5 := Aside0.mk (HRf30_5.out.below hb HRf30_5.out.lt)
          have HRf31_4 := Aside0.mk (HRf30_4.out.below hb HRf30_4.out.lt)
          clear hb
          refine ⟨_, rfl, hK.out _ _ hSn (fun hHeld => ?_)⟩
          clear hSn hK K
          refine norm_ (a' := ?_) ?_ ?_
          rotate_left
          · show Act.put _ (some 16) _ = _
            simp only [Act.put, List.setIfInBounds_toArray, List.set_cons_zero, List.set_cons_succ, i64_w, i32_w]
            rfl
          exact norm_ (by first | (simp only [putAll, Act.put, List.setIfInBounds_toArray, List.set_cons_zero, List.set_cons_succ]; done) | (simp only [putAll, Act.put, List.setIfInBounds_toArray, List.set_cons_zero, List.set_cons_succ]; rfl)) (hCont (wf27.heap.size, w6.heap.size) _ ⟨HRf31_4.out, HRf31_5.out, hHeld.1, hHeld.2, HBf31.out, hlo4, hlo5, hne5_4⟩)
      · skip
        refine event_step (by rfl) (v := .pointer (some ⟨wf26.heap.size, 0, none⟩)) (w1 := wf26.alloc (.cells (FR .u64 5 fun _ => 0) 27)) (by first | (go_simp; done) | (go_simp; rfl)) ?_
        have hSn : Row (wf26.alloc (.cells (FR .u64 5 fun _ => 0) 27)) w.heap.size .u8 32 a0 22 ∧ Row (wf26.alloc (.cells (FR .u64 5 fun _ => 0) 27)) (w.heap.size + 1) .u8 32 a1 22 := ⟨hHeld.1.alloc _, hHeld.2.alloc _⟩
        have HBf32 := Aside0.mk (HBf26.out.alloc HBf26.out.size (.cells (FR .u64 5 fun _ => 0) 27))
        have hlo4 : (w.heap.size + 1) < wf26.heap.size := hHeld.2.lt
        have hne5_4 : w6.heap.size ≠ wf26.heap.size := by have := HRf26_5.out.lt; omega
        have HRf32_5 := Aside0.mk (HRf26_5.out.alloc (.cells (FR .u64 5 fun _ => 0) 27))
        have HRf32_4 := Aside0.mk (Row.new wf26 .u64 5 (fun _ => 0) 27)
        generalize wf26.alloc (.cells (FR .u64 5 fun _ => 0) 27) = wf32 at hSn HBf32 HRf32_5 HRf32_4 ⊢
        refine hK.out _ _ hSn (fun hHeld => ?_)
        clear hSn hK K
        refine norm_ (a' := ?_) ?_ ?_
        rotate_left
        · show Act.put _ (some 5) _ = _
          simp only [Act.put, List.setIfInBounds_toArray, List.set_cons_zero, List.set_cons_succ, i64_w, i32_w]
          rfl
        refine one_ (i := 1) (N := some 14) #[true, true, true, false, true, true, false, false] rfl rfl (one_of HT_.out (by kernel_rfl)) (by decide) (fun K hK => ?_)
        refine goes_ Try.func13 rfl rfl #[.agg (FR .u8 32 a0)] rfl rfl rfl (by simp only [List.map_toArray, List.map_cons, List.map_nil]; rfl) ((Of_elem_calls a0 _ HA.out).mono ?_)
        rintro e wf33 ⟨rfl, hb⟩
        have hSn : Row wf33 w.heap.size .u8 32 a0 22 ∧ Row wf33 (w.heap.size + 1) .u8 32 a1 22 := ⟨hHeld.1.below hb hHeld.1.lt, hHeld.2.below hb hHeld.2.lt⟩
        have HBf33 := Aside0.mk (HBf32.out.trans (hb.mono HBf32.out.size))
        have HRf33_5 := Aside0.mk (HRf32_5.out.below hb HRf32_5.out.lt)
        have HRf33_4 := Aside0.mk (HRf32_4.out.below hb HRf32_4.out.lt)
        clear hb
        refine ⟨_, rfl, hK.out _ _ hSn (fun hHeld => ?_)⟩
        clear hSn hK K
        refine norm_ (a' := ?_) ?_ ?_
        rotate_left
        · show Act.put _ (some 14) _ = _
          simp only [Act.put, List.setIfInBounds_toArray, List.set_cons_zero, List.set_cons_succ, i64_w, i32_w]
          rfl
        refine one_ (i := 3) (N := some 16) #[true, true, true, true, true, true, false, false] rfl rfl (one_of HT_.out (by kernel_rfl)) (by decide) (fun K hK => ?_)
        refine goes_ Try.func13 rfl rfl #[.agg (FR .u8 32 a1)] rfl rfl rfl (by simp only [List.map_toArray, List.map_cons, List.map_nil]; rfl) ((Of_elem_calls a1 _ HA1.out).mono ?_)
        rintro e wf34 ⟨rfl, hb⟩
        have hSn : Row wf34 w.heap.size .u8 32 a0 22 ∧ Row wf34 (w.heap.size + 1) .u8 32 a1 22 := ⟨hHeld.1.below hb hHeld.1.lt, hHeld.2.below hb hHeld.2.lt⟩
        have HBf34 := Aside0.mk (HBf33.out.trans (hb.mono HBf33.out.size))
        have HRf34_5 := Aside0.mk (HRf33_5.out.below hb HRf33_5.out.lt)
        have HRf34_4 := Aside0.mk (HRf33_4.out.below hb HRf33_4.out.lt)
        clear hb
        refine ⟨_, rfl, hK.out _ _ hSn (fun hHeld => ?_)⟩
        clear hSn hK K
        refine norm_ (a' := ?_) ?_ ?_
        rotate_left
        · show Act.put _ (some 16) _ = _
          simp only [Act.put, List.setIfInBounds_toArray, List.set_cons_zero, List.set_cons_succ, i64_w, i32_w]
          rfl
        exact norm_ (by first | (simp only [putAll, Act.put, List.setIfInBounds_toArray, List.set_cons_zero, List.set_cons_succ]; done) | (simp only [putAll, Act.put, List.setIfInBounds_toArray, List.set_cons_zero, List.set_cons_succ]; rfl)) (hCont (wf26.heap.size, w6.heap.size) _ ⟨HRf34_4.out, HRf34_5.out, hHeld.1, hHeld.2, HBf34.out, hlo4, hlo5, hne5_4⟩)
  rintro ⟨n4, n5⟩ wj ⟨HX4, HX5, hq0, hq1, hbj, hlo4, hlo5, hne5_4⟩
  have HX4 := Aside0.mk HX4
  have HX5 := Aside0.mk HX5
  have HBj := Aside0.mk hbj
  clear hbj
  have hHeld : Row wj w.heap.size .u8 32 a0 22 ∧ Row wj (w.heap.size + 1) .u8 32 a1 22 := ⟨hq0, hq1⟩
  clear hq0 hq1
  refine norm_ (a' := ?_) ?_ ?_
  rotate_left
  · simp only [putAll, Act.put, List.setIfInBounds_toArray, List.set_cons_zero, List.set_cons_succ]
    rfl
  refine one_ (i := 6) (N := none) #[true, true, true, true, true, true, true, false] rfl rfl (one_of HT_.out (by kernel_rfl)) (by decide) (fun K hK => ?_)
  refine oper_storeG (carr (ofL a0)) HX4.out info27 rfl rfl rfl rfl rfl ?_
  intro wk hs hr
  have hSn : Row wk w.heap.size .u8 32 a0 22 ∧ Row wk (w.heap.size + 1) .u8 32 a1 22 := ⟨hHeld.1.stored hs (by omega), hHeld.2.stored hs (by omega)⟩
  have HX4 := Aside0.mk hr
  have HX5 := Aside0.mk (HX5.out.stored hs (by omega))
  have HBk := Aside0.mk (hs.bel _ _ (by omega) HBj.out)
  clear hs hr HBj
  refine hK.out _ _ hSn (fun hHeld => ?_)
  clear hSn hK K
  refine one_ (i := 7) (N := none) #[true, true, true, true, true, true, true, true] rfl rfl (one_of HT_.out (by kernel_rfl)) (by decide) (fun K hK => ?_)
  refine oper_storeG (carr (ofL a1)) HX5.out info27 rfl rfl rfl rfl rfl ?_
  intro wl hs hr
  have hSn : Row wl w.heap.size .u8 32 a0 22 ∧ Row wl (w.heap.size + 1) .u8 32 a1 22 := ⟨hHeld.1.stored hs (by omega), hHeld.2.stored hs (by omega)⟩
  have HX5 := Aside0.mk hr
  have HX4 := Aside0.mk (HX4.out.stored hs (by omega))
  have HBl := Aside0.mk (hs.bel _ _ (by omega) HBk.out)
  clear hs hr HBk
  refine hK.out _ _ hSn (fun hHeld => ?_)
  clear hSn hK K
  refine done_ (done_of HT_.out (by kernel_rfl)) ?_
  try go_wp2
  have hl1 := HX4.out.lt
  have hh : Row wl.drew w.heap.size .u8 32 a0 22 ∧ Row wl.drew (w.heap.size + 1) .u8 32 a1 22 ∧ Row wl.drew n4 .u64 5 (carr (ofL a0)) 27 ∧ Row wl.drew n5 .u64 5 (carr (ofL a1)) 27 := ⟨hHeld.1, hHeld.2, HX4.out, HX5.out⟩
  have HBd := Aside0.mk HBl.out.drew
  clear hHeld HBl HX4 HX5 HT_ HW_
  refine start_ (n := 30) (S := (fun w' => Row w' w.heap.size .u8 32 a0 22 ∧ Row w' (w.heap.size + 1) .u8 32 a1 22 ∧ Row w' n4 .u64 5 (carr (ofL a0)) 27 ∧ Row w' n5 .u64 5 (carr (ofL a1)) 27)) (ds := []) #[false, false, false, false, false, false, false, false, false, false, false, false, false, false, false, false, false, false, false, false, false, false, false, false, false, false, false, false, false, false] (by kernel_rfl) rfl rfl hh (fun hHeld => ?_); refine with_tabW tab404 bits404 (fun HT_ HW_ => ?_)
  generalize wl.drew = w7 at HBd hHeld hh ⊢
  clear hh
  refine take_ (i := 0) (N := some 17) (v := ?_) (a' := ?_) #[true, false, false, false, false, false, false, false, false, false, false, false, false, false, false, false, false, false, false, false, false, false, false, false, false, false, false, false, false, false] rfl rfl (take_ofW HT_.out HW_.out (by kernel_rfl)) (fun _ _ _ h => h) (Or.inl ⟨by rfl, ?_⟩) hHeld ?_ ?_
  rotate_left
  · intro w' hsw
    refine exec_load (x := .tmp 5) hsw.2.2.1 Try.underlying27 info27 rfl ?_ ?_ <;> rfl
  rotate_left
  · simp only [Act.put, List.setIfInBounds_toArray, List.set_cons_zero, List.set_cons_succ, i64_w, i32_w]
    rfl
  refine take_ (i := 1) (N := some 18) (v := ?_) (a' := ?_) #[true, true, false, false, false, false, false, false, false, false, false, false, false, false, false, false, false, false, false, false, false, false, false, false, false, false, false, false, false, false] rfl rfl (take_ofW HT_.out HW_.out (by kernel_rfl)) (fun _ _ _ h => h) (Or.inl ⟨by rfl, ?_⟩) hHeld ?_ ?_
  rotate_left
  · intro w' hsw
    refine exec_load (x := .tmp 6) hsw.2.2.2 Try.underlying27 info27 rfl ?_ ?_ <;> rfl
  rotate_left
  · simp only [Act.put, List.setIfInBounds_toArray, List.set_cons_zero, List.set_cons_succ, i64_w, i32_w]
    rfl
  refine take_ (i := 3) (N := some 20) (v := ?_) (a' := ?_) #[true, true, false, true, false, false, false, false, false, false, false, false, false, false, false, false, false, false, false, false, false, false, false, false, false, false, false, false, false, false] rfl rfl (take_ofW HT_.out HW_.out (by kernel_rfl)) (fun _ _ _ h => h) (Or.inl ⟨by rfl, ?_⟩) hHeld ?_ ?_
  rotate_left
  · intro w' hsw
    refine exec_load (x := .tmp 2) hsw.1 Try.underlying22 info22 rfl ?_ ?_ <;> rfl
  rotate_left
  · simp only [Act.put, List.setIfInBounds_toArray, List.set_cons_zero, List.set_cons_succ, i64_w, i32_w]
    rfl
  refine take_ (i := 5) (N := some 22) (v := ?_) (a' := ?_) #[true, true, false, true, false, true, false, false, false, false, false, false, false, false, false, false, false, false, false, false, false, false, false, false, false, false, false, false, false, false] rfl rfl (take_ofW HT_.out HW_.out (by kernel_rfl)) (fun _ _ _ h => h) (Or.inl ⟨by rfl, ?_⟩) hHeld ?_ ?_
  rotate_left
  · intro w' hsw
    refine exec_load (x := .tmp 3) hsw.2.1 Try.underlying22 info22 rfl ?_ ?_ <;> rfl
  rotate_left
  · simp only [Act.put, List.setIfInBounds_toArray, List.set_cons_zero, List.set_cons_succ, i64_w, i32_w]
    rfl
  refine one_ (i := 2) (N := some 19) #[true, true, true, true, false, true, false, false, false, false, false, false, false, false, false, false, false, false, false, false, false, false, false, false, false, false, false, false, false, false] rfl rfl (one_of HT_.out (by kernel_rfl)) (by decide) (fun K hK => ?_)
  refine goes_ Try.func20 rfl rfl #[.agg (FR .u64 5 (carr (ofL a0))), .agg (FR .u64 5 (carr (ofL a1)))] rfl rfl rfl (by simp only [List.map_toArray, List.map_cons, List.map_nil]; rfl) ((addE_c _ _ _ (Fe.of a0 HA.out).1 (Fe.of a1 HA1.out).1).mono ?_)
  rintro e wc51 ⟨rfl, hb⟩
  have hSn : Row wc51 w.heap.size .u8 32 a0 22 ∧ Row wc51 (w.heap.size + 1) .u8 32 a1 22 ∧ Row wc51 n4 .u64 5 (carr (ofL a0)) 27 ∧ Row wc51 n5 .u64 5 (carr (ofL a1)) 27 := ⟨hHeld.1.below hb hHeld.1.lt, hHeld.2.1.below hb hHeld.2.1.lt, hHeld.2.2.1.below hb hHeld.2.2.1.lt, hHeld.2.2.2.below hb hHeld.2.2.2.lt⟩
  have HBc51 := Aside0.mk (HBd.out.trans (hb.mono HBd.out.size))
  clear hb
  refine ⟨_, rfl, hK.out _ _ hSn (fun hHeld => ?_)⟩
  clear hSn
  clear hK K
  refine norm_ (a' := ?_) ?_ ?_
  rotate_left
  · show Act.put _ (some 19) _ = _
    simp only [Act.put, List.setIfInBounds_toArray, List.set_cons_zero, List.set_cons_succ, i64_w, i32_w]
    rfl
  refine one_ (i := 4) (N := some 21) #[true, true, true, true, true, true, false, false, false, false, false, false, false, false, false, false, false, false, false, false, false, false, false, false, false, false, false, false, false, false] rfl rfl (one_of HT_.out (by kernel_rfl)) (by decide) (fun K hK => ?_)
  refine goes_ Try.func15 rfl rfl #[.agg (FR .u8 32 a0)] rfl rfl rfl (by simp only [List.map_toArray, List.map_cons, List.map_nil]; rfl) ((num_calls' a0 _ HA.out).mono ?_)
  rintro e wc52 ⟨rfl, hb⟩
  have hSn : Row wc52 w.heap.size .u8 32 a0 22 ∧ Row wc52 (w.heap.size + 1) .u8 32 a1 22 ∧ Row wc52 n4 .u64 5 (carr (ofL a0)) 27 ∧ Row wc52 n5 .u64 5 (carr (ofL a1)) 27 := ⟨hHeld.1.below hb hHeld.1.lt, hHeld.2.1.below hb hHeld.2.1.lt, hHeld.2.2.1.below hb hHeld.2.2.1.lt, hHeld.2.2.2.below hb hHeld.2.2.2.lt⟩
  have HBc52 := Aside0.mk (HBc51.out.trans (hb.mono HBc51.out.size))
  clear hb
  refine ⟨_, rfl, hK.out _ _ hSn (fun hHeld => ?_)⟩
  clear hSn
  clear hK K
  refine norm_ (a' := ?_) ?_ ?_
  rotate_left
  · show Act.put _ (some 21) _ = _
    simp only [Act.put, List.setIfInBounds_toArray, List.set_cons_zero, List.set_cons_succ, i64_w, i32_w]
    rfl
  refine one_ (i := 6) (N := some 23) #[true, true, true, true, true, true, true, false, false, false, false, false, false, false, false, false, false, false, false, false, false, false, false, false, false, false, false, false, false, false] rfl rfl (one_of HT_.out (by kernel_rfl)) (by decide) (fun K hK => ?_)
  refine goes_ Try.func15 rfl rfl #[.agg (FR .u8 32 a1)] rfl rfl rfl (by simp only [List.map_toArray, List.map_cons, List.map_nil]; rfl) ((num_calls' a1 _ HA1.out).mono ?_)
  rintro e wc53 ⟨rfl, hb⟩
  have hSn : Row wc53 w.heap.size .u8 32 a0 22 ∧ Row wc53 (w.heap.size + 1) .u8 32 a1 22 ∧ Row wc53 n4 .u64 5 (carr (ofL a0)) 27 ∧ Row wc53 n5 .u64 5 (carr (ofL a1)) 27 := ⟨hHeld.1.below hb hHeld.1.lt, hHeld.2.1.below hb hHeld.2.1.lt, hHeld.2.2.1.below hb hHeld.2.2.1.lt, hHeld.2.2.2.below hb hHeld.2.2.2.lt⟩
  have HBc53 := Aside0.mk (HBc52.out.trans (hb.mono HBc52.out.size))
  clear hb
  refine ⟨_, rfl, hK.out _ _ hSn (fun hHeld => ?_)⟩
  clear hSn
  clear hK K
  refine norm_ (a' := ?_) ?_ ?_
  rotate_left
  · show Act.put _ (some 23) _ = _
    simp only [Act.put, List.setIfInBounds_toArray, List.set_cons_zero, List.set_cons_succ, i64_w, i32_w]
    rfl
  refine one_ (i := 7) (N := some 24) #[true, true, true, true, true, true, true, true, false, false, false, false, false, false, false, false, false, false, false, false, false, false, false, false, false, false, false, false, false, false] rfl rfl (one_of HT_.out (by kernel_rfl)) (by decide) (fun K hK => ?_)
  refine goes_ Try.func21 rfl rfl #[.agg (FR .i64 16 (numD a0)), .agg (FR .i64 16 (numD a1))] rfl rfl rfl (by simp only [List.map_toArray, List.map_cons, List.map_nil]; rfl) ((addR_c _ _ _ (Re.num a0 HA.out).1 (Re.num a1 HA1.out).1).mono ?_)
  rintro e wc54 ⟨rfl, hb⟩
  have hSn : Row wc54 w.heap.size .u8 32 a0 22 ∧ Row wc54 (w.heap.size + 1) .u8 32 a1 22 ∧ Row wc54 n4 .u64 5 (carr (ofL a0)) 27 ∧ Row wc54 n5 .u64 5 (carr (ofL a1)) 27 := ⟨hHeld.1.below hb hHeld.1.lt, hHeld.2.1.below hb hHeld.2.1.lt, hHeld.2.2.1.below hb hHeld.2.2.1.lt, hHeld.2.2.2.below hb hHeld.2.2.2.lt⟩
  have HBc54 := Aside0.mk (HBc53.out.trans (hb.mono HBc53.out.size))
  clear hb
  refine ⟨_, rfl, hK.out _ _ hSn (fun hHeld => ?_)⟩
  clear hSn
  clear hK K
  refine norm_ (a' := ?_) ?_ ?_
  rotate_left
  · show Act.put _ (some 24) _ = _
    simp only [Act.put, List.setIfInBounds_toArray, List.set_cons_zero, List.set_cons_succ, i64_w, i32_w]
    rfl
  refine one_ (i := 8) (N := some 25) #[true, true, true, true, true, true, true, true, true, false, false, false, false, false, false, false, false, false, false, false, false, false, false, false, false, false, false, false, false, false] rfl rfl (one_of HT_.out (by kernel_rfl)) (by decide) (fun K hK => ?_)
  refine goes_ Try.func14 rfl rfl #[.agg (FR .u64 5 (addE (carr (ofL a0)) (carr (ofL a1)))), .agg (FR .i64 16 (addR (numD a0) (numD a1)))] rfl rfl rfl (by simp only [List.map_toArray, List.map_cons, List.map_nil]; rfl) ((is_true_of _ _ _ ((Fe.of a0 HA.out).add (Fe.of a1 HA1.out)) ((Re.num a0 HA.out).add (Re.num a1 HA1.out)) _).mono ?_)
  rintro e wc55 ⟨rfl, hb⟩
  have hSn : Row wc55 w.heap.size .u8 32 a0 22 ∧ Row wc55 (w.heap.size + 1) .u8 32 a1 22 ∧ Row wc55 n4 .u64 5 (carr (ofL a0)) 27 ∧ Row wc55 n5 .u64 5 (carr (ofL a1)) 27 := ⟨hHeld.1.below hb hHeld.1.lt, hHeld.2.1.below hb hHeld.2.1.lt, hHeld.2.2.1.below hb hHeld.2.2.1.lt, hHeld.2.2.2.below hb hHeld.2.2.2.lt⟩
  have HBc55 := Aside0.mk (HBc54.out.trans (hb.mono HBc54.out.size))
  clear hb
  refine ⟨_, rfl, hK.out _ _ hSn (fun hHeld => ?_)⟩
  clear hSn
  clear hK K
  refine norm_ (a' := ?_) ?_ ?_
  rotate_left
  · show Act.put _ (some 25) _ = _
    simp only [Act.put, List.setIfInBounds_toArray, List.set_cons_zero, List.set_cons_succ, i64_w, i32_w]
    rfl
  refine pure_ (i := 9) (N := some 26) (v := ?_) (a' := ?_) #[true, true, true, true, true, true, true, true, true, true, false, false, false, false, false, false, false, false, false, false, false, false, false, false, false, false, false, false, false, false] rfl rfl (any_of HT_.out (by kernel_rfl)) (fun _ _ _ h => h) (Or.inl ⟨by rfl, ?_⟩) ?_ ?_
  rotate_left
  · intro w'
    go_simp
    with_reducible rfl
  rotate_left
  · simp only [Act.put, List.setIfInBounds_toArray, List.set_cons_zero, List.set_cons_succ, i64_w, i32_w]
    rfl
  refine take_ (i := 10) (N := some 27) (v := ?_) (a' := ?_) #[true, true, true, true, true, true, true, true, true, true, true, false, false, false, false, false, false, false, false, false, false, false, false, false, false, false, false, false, false, false] rfl rfl (take_ofW HT_.out HW_.out (by kernel_rfl)) (fun _ _ _ h => h) (Or.inl ⟨by rfl, ?_⟩) hHeld ?_ ?_
  rotate_left
  · intro w' hsw
    refine exec_load (x := .tmp 5) hsw.2.2.1 Try.underlying27 info27 rfl ?_ ?_ <;> rfl
  rotate_left
  · simp only [Act.put, List.setIfInBounds_toArray, List.set_cons_zero, List.set_cons_succ, i64_w, i32_w]
    rfl
  refine take_ (i := 11) (N := some 28) (v := ?_) (a' := ?_) #[true, true, true, true, true, true, true, true, true, true, true, true, false, false, false, false, false, false, false, false, false, false, false, false, false, false, false, false, false, false] rfl rfl (take_ofW HT_.out HW_.out (by kernel_rfl)) (fun _ _ _ h => h) (Or.inl ⟨by rfl, ?_⟩) hHeld ?_ ?_
  rotate_left
  · intro w' hsw
    refine exec_load (x := .tmp 6) hsw.2.2.2 Try.underlying27 info27 rfl ?_ ?_ <;> rfl
  rotate_left
  · simp only [Act.put, List.setIfInBounds_toArray, List.set_cons_zero, List.set_cons_succ, i64_w, i32_w]
    rfl
  refine take_ (i := 13) (N := some 30) (v := ?_) (a' := ?_) #[true, true, true, true, true, true, true, true, true, true, true, true, false, true, false, false, false, false, false, false, false, false, false, false, false, false, false, false, false, false] rfl rfl (take_ofW HT_.out HW_.out (by kernel_rfl)) (fun _ _ _ h => h) (Or.inl ⟨by rfl, ?_⟩) hHeld ?_ ?_
  rotate_left
  · intro w' hsw
    refine exec_load (x := .tmp 2) hsw.1 Try.underlying22 info22 rfl ?_ ?_ <;> rfl
  rotate_left
  · simp only [Act.put, List.setIfInBounds_toArray, List.set_cons_zero, List.set_cons_succ, i64_w, i32_w]
    rfl
  refine take_ (i := 15) (N := some 32) (v := ?_) (a' := ?_) #[true, true, true, true, true, true, true, true, true, true, true, true, false, true, false, true, false, false, false, false, false, false, false, false, false, false, false, false, false, false] rfl rfl (take_ofW HT_.out HW_.out (by kernel_rfl)) (fun _ _ _ h => h) (Or.inl ⟨by rfl, ?_⟩) hHeld ?_ ?_
  rotate_left
  · intro w' hsw
    refine exec_load (x := .tmp 3) hsw.2.1 Try.underlying22 info22 rfl ?_ ?_ <;> rfl
  rotate_left
  · simp only [Act.put, List.setIfInBounds_toArray, List.set_cons_zero, List.set_cons_succ, i64_w, i32_w]
    rfl
  refine one_ (i := 12) (N := some 29) #[true, true, true, true, true, true, true, true, true, true, true, true, true, true, false, true, false, false, false, false, false, false, false, false, false, false, false, false, false, false] rfl rfl (one_of HT_.out (by kernel_rfl)) (by decide) (fun K hK => ?_)
  refine goes_ Try.func22 rfl rfl #[.agg (FR .u64 5 (carr (ofL a0))), .agg (FR .u64 5 (carr (ofL a1)))] rfl rfl rfl (by simp only [List.map_toArray, List.map_cons, List.map_nil]; rfl) ((subE_c _ _ _ (Fe.of a0 HA.out).1 (Fe.of a1 HA1.out).1).mono ?_)
  rintro e wc56 ⟨rfl, hb⟩
  have hSn : Row wc56 w.heap.size .u8 32 a0 22 ∧ Row wc56 (w.heap.size + 1) .u8 32 a1 22 ∧ Row wc56 n4 .u64 5 (carr (ofL a0)) 27 ∧ Row wc56 n5 .u64 5 (carr (ofL a1)) 27 := ⟨hHeld.1.below hb hHeld.1.lt, hHeld.2.1.below hb hHeld.2.1.lt, hHeld.2.2.1.below hb hHeld.2.2.1.lt, hHeld.2.2.2.below hb hHeld.2.2.2.lt⟩
  have HBc56 := Aside0.mk (HBc55.out.trans (hb.mono HBc55.out.size))
  clear hb
  refine ⟨_, rfl, hK.out _ _ hSn (fun hHeld => ?_)⟩
  clear hSn
  clear hK K
  refine norm_ (a' := ?_) ?_ ?_
  rotate_left
  · show Act.put _ (some 29) _ = _
    simp only [Act.put, List.setIfInBounds_toArray, List.set_cons_zero, List.set_cons_succ, i64_w, i32_w]
    rfl
  refine one_ (i := 14) (N := some 31) #[true, true, true, true, true, true, true, true, true, true, true, true, true, true, true, true, false, false, false, false, false, false, false, false, false, false, false, false, false, false] rfl rfl (one_of HT_.out (by kernel_rfl)) (by decide) (fun K hK => ?_)
  refine goes_ Try.func15 rfl rfl #[.agg (FR .u8 32 a0)] rfl rfl rfl (by simp only [List.map_toArray, List.map_cons, List.map_nil]; rfl) ((num_calls' a0 _ HA.out).mono ?_)
  rintro e wc57 ⟨rfl, hb⟩
  have hSn : Row wc57 w.heap.size .u8 32 a0 22 ∧ Row wc57 (w.heap.size + 1) .u8 32 a1 22 ∧ Row wc57 n4 .u64 5 (carr (ofL a0)) 27 ∧ Row wc57 n5 .u64 5 (carr (ofL a1)) 27 := ⟨hHeld.1.below hb hHeld.1.lt, hHeld.2.1.below hb hHeld.2.1.lt, hHeld.2.2.1.below hb hHeld.2.2.1.lt, hHeld.2.2.2.below hb hHeld.2.2.2.lt⟩
  have HBc57 := Aside0.mk (HBc56.out.trans (hb.mono HBc56.out.size))
  clear hb
  refine ⟨_, rfl, hK.out _ _ hSn (fun hHeld => ?_)⟩
  clear hSn
  clear hK K
  refine norm_ (a' := ?_) ?_ ?_
  rotate_left
  · show Act.put _ (some 31) _ = _
    simp only [Act.put, List.setIfInBounds_toArray, List.set_cons_zero, List.set_cons_succ, i64_w, i32_w]
    rfl
  refine one_ (i := 16) (N := some 33) #[true, true, true, true, true, true, true, true, true, true, true, true, true, true, true, true, true, false, false, false, false, false, false, false, false, false, false, false, false, false] rfl rfl (one_of HT_.out (by kernel_rfl)) (by decide) (fun K hK => ?_)
  refine goes_ Try.func15 rfl rfl #[.agg (FR .u8 32 a1)] rfl rfl rfl (by simp only [List.map_toArray, List.map_cons, List.map_nil]; rfl) ((num_calls' a1 _ HA1.out).mono ?_)
  rintro e wc58 ⟨rfl, hb⟩
  have hSn : Row wc58 w.heap.size .u8 32 a0 22 ∧ Row wc58 (w.heap.size + 1) .u8 32 a1 22 ∧ Row wc58 n4 .u64 5 (carr (ofL a0)) 27 ∧ Row wc58 n5 .u64 5 (carr (ofL a1)) 27 := ⟨hHeld.1.below hb hHeld.1.lt, hHeld.2.1.below hb hHeld.2.1.lt, hHeld.2.2.1.below hb hHeld.2.2.1.lt, hHeld.2.2.2.below hb hHeld.2.2.2.lt⟩
  have HBc58 := Aside0.mk (HBc57.out.trans (hb.mono HBc57.out.size))
  clear hb
  refine ⟨_, rfl, hK.out _ _ hSn (fun hHeld => ?_)⟩
  clear hSn
  clear hK K
  refine norm_ (a' := ?_) ?_ ?_
  rotate_left
  · show Act.put _ (some 33) _ = _
    simp only [Act.put, List.setIfInBounds_toArray, List.set_cons_zero, List.set_cons_succ, i64_w, i32_w]
    rfl
  refine one_ (i := 17) (N := some 34) #[true, true, true, true, true, true, true, true, true, true, true, true, true, true, true, true, true, true, false, false, false, false, false, false, false, false, false, false, false, false] rfl rfl (one_of HT_.out (by kernel_rfl)) (by decide) (fun K hK => ?_)
  refine goes_ Try.func23 rfl rfl #[.agg (FR .i64 16 (numD a0)), .agg (FR .i64 16 (numD a1))] rfl rfl rfl (by simp only [List.map_toArray, List.map_cons, List.map_nil]; rfl) ((subR_c _ _ _ (Re.num a0 HA.out).1 (Re.num a1 HA1.out).1).mono ?_)
  rintro e wc59 ⟨rfl, hb⟩
  have hSn : Row wc59 w.heap.size .u8 32 a0 22 ∧ Row wc59 (w.heap.size + 1) .u8 32 a1 22 ∧ Row wc59 n4 .u64 5 (carr (ofL a0)) 27 ∧ Row wc59 n5 .u64 5 (carr (ofL a1)) 27 := ⟨hHeld.1.below hb hHeld.1.lt, hHeld.2.1.below hb hHeld.2.1.lt, hHeld.2.2.1.below hb hHeld.2.2.1.lt, hHeld.2.2.2.below hb hHeld.2.2.2.lt⟩
  have HBc59 := Aside0.mk (HBc58.out.trans (hb.mono HBc58.out.size))
  clear hb
  refine ⟨_, rfl, hK.out _ _ hSn (fun hHeld => ?_)⟩
  clear hSn
  clear hK K
  refine norm_ (a' := ?_) ?_ ?_
  rotate_left
  · show Act.put _ (some 34) _ = _
    simp only [Act.put, List.setIfInBounds_toArray, List.set_cons_zero, List.set_cons_succ, i64_w, i32_w]
    rfl
  refine one_ (i := 18) (N := some 35) #[true, true, true, true, true, true, true, true, true, true, true, true, true, true, true, true, true, true, true, false, false, false, false, false, false, false, false, false, false, false] rfl rfl (one_of HT_.out (by kernel_rfl)) (by decide) (fun K hK => ?_)
  refine goes_ Try.func14 rfl rfl #[.agg (FR .u64 5 (subE (carr (ofL a0)) (carr (ofL a1)))), .agg (FR .i64 16 (subR (numD a0) (numD a1)))] rfl rfl rfl (by simp only [List.map_toArray, List.map_cons, List.map_nil]; rfl) ((is_true_of _ _ _ ((Fe.of a0 HA.out).sub (Fe.of a1 HA1.out)) ((Re.num a0 HA.out).sub (Re.num a1 HA1.out)) _).mono ?_)
  rintro e wc60 ⟨rfl, hb⟩
  have hSn : Row wc60 w.heap.size .u8 32 a0 22 ∧ Row wc60 (w.heap.size + 1) .u8 32 a1 22 ∧ Row wc60 n4 .u64 5 (carr (ofL a0)) 27 ∧ Row wc60 n5 .u64 5 (carr (ofL a1)) 27 := ⟨hHeld.1.below hb hHeld.1.lt, hHeld.2.1.below hb hHeld.2.1.lt, hHeld.2.2.1.below hb hHeld.2.2.1.lt, hHeld.2.2.2.below hb hHeld.2.2.2.lt⟩
  have HBc60 := Aside0.mk (HBc59.out.trans (hb.mono HBc59.out.size))
  clear hb
  refine ⟨_, rfl, hK.out _ _ hSn (fun hHeld => ?_)⟩
  clear hSn
  clear hK K
  refine norm_ (a' := ?_) ?_ ?_
  rotate_left
  · show Act.put _ (some 35) _ = _
    simp only [Act.put, List.setIfInBounds_toArray, List.set_cons_zero, List.set_cons_succ, i64_w, i32_w]
    rfl
  refine pure_ (i := 19) (N := some 36) (v := ?_) (a' := ?_) #[true, true, true, true, true, true, true, true, true, true, true, true, true, true, true, true, true, true, true, true, false, false, false, false, false, false, false, false, false, false] rfl rfl (any_of HT_.out (by kernel_rfl)) (fun _ _ _ h => h) (Or.inl ⟨by rfl, ?_⟩) ?_ ?_
  rotate_left
  · intro w'
    go_simp
    with_reducible rfl
  rotate_left
  · simp only [Act.put, List.setIfInBounds_toArray, List.set_cons_zero, List.set_cons_succ, i64_w, i32_w]
    rfl
  refine pure_ (i := 20) (N := some 37) (v := ?_) (a' := ?_) #[true, true, true, true, true, true, true, true, true, true, true, true, true, true, true, true, true, true, true, true, true, false, false, false, false, false, false, false, false, false] rfl rfl (any_of HT_.out (by kernel_rfl)) (fun _ _ _ h => h) (Or.inl ⟨by rfl, ?_⟩) ?_ ?_
  rotate_left
  · intro w'
    go_simp
    with_reducible rfl
  rotate_left
  · simp only [Act.put, List.setIfInBounds_toArray, List.set_cons_zero, List.set_cons_succ, i64_w, i32_w]
    rfl
  refine take_ (i := 21) (N := some 38) (v := ?_) (a' := ?_) #[true, true, true, true, true, true, true, true, true, true, true, true, true, true, true, true, true, true, true, true, true, true, false, false, false, false, false, false, false, false] rfl rfl (take_ofW HT_.out HW_.out (by kernel_rfl)) (fun _ _ _ h => h) (Or.inl ⟨by rfl, ?_⟩) hHeld ?_ ?_
  rotate_left
  · intro w' hsw
    refine exec_load (x := .tmp 5) hsw.2.2.1 Try.underlying27 info27 rfl ?_ ?_ <;> rfl
  rotate_left
  · simp only [Act.put, List.setIfInBounds_toArray, List.set_cons_zero, List.set_cons_succ, i64_w, i32_w]
    rfl
  refine pure_ (i := 23) (N := some 40) (v := ?_) (a' := ?_) #[true, true, true, true, true, true, true, true, true, true, true, true, true, true, true, true, true, true, true, true, true, true, false, true, false, false, false, false, false, false] rfl rfl (any_of HT_.out (by kernel_rfl)) (fun _ _ _ h => h) (Or.inl ⟨by rfl, ?_⟩) ?_ ?_
  rotate_left
  · intro w'
    go_simp
    with_reducible rfl
  rotate_left
  · simp only [Act.put, List.setIfInBounds_toArray, List.set_cons_zero, List.set_cons_succ, i64_w, i32_w]
    rfl
  refine take_ (i := 24) (N := some 41) (v := ?_) (a' := ?_) #[true, true, true, true, true, true, true, true, true, true, true, true, true, true, true, true, true, true, true, true, true, true, false, true, true, false, false, false, false, false] rfl rfl (take_ofW HT_.out HW_.out (by kernel_rfl)) (fun _ _ _ h => h) (Or.inl ⟨by rfl, ?_⟩) hHeld ?_ ?_
  rotate_left
  · intro w' hsw
    refine exec_load (x := .tmp 2) hsw.1 Try.underlying22 info22 rfl ?_ ?_ <;> rfl
  rotate_left
  · simp only [Act.put, List.setIfInBounds_toArray, List.set_cons_zero, List.set_cons_succ, i64_w, i32_w]
    rfl
  refine one_ (i := 22) (N := some 39) #[true, true, true, true, true, true, true, true, true, true, true, true, true, true, true, true, true, true, true, true, true, true, true, true, true, false, false, false, false, false] rfl rfl (one_of HT_.out (by kernel_rfl)) (by decide) (fun K hK => ?_)
  refine goes_ Try.func24 rfl rfl #[.agg (FR .u64 5 (carr (ofL a0)))] rfl rfl rfl (by simp only [List.map_toArray, List.map_cons, List.map_nil]; rfl) ((negE_c _ _ (Fe.of a0 HA.out).1).mono ?_)
  rintro e wc61 ⟨rfl, hb⟩
  have hSn : Row wc61 w.heap.size .u8 32 a0 22 ∧ Row wc61 (w.heap.size + 1) .u8 32 a1 22 ∧ Row wc61 n4 .u64 5 (carr (ofL a0)) 27 ∧ Row wc61 n5 .u64 5 (carr (ofL a1)) 27 := ⟨hHeld.1.below hb hHeld.1.lt, hHeld.2.1.below hb hHeld.2.1.lt, hHeld.2.2.1.below hb hHeld.2.2.1.lt, hHeld.2.2.2.below hb hHeld.2.2.2.lt⟩
  have HBc61 := Aside0.mk (HBc60.out.trans (hb.mono HBc60.out.size))
  clear hb
  refine ⟨_, rfl, hK.out _ _ hSn (fun hHeld => ?_)⟩
  clear hSn
  clear hK K
  refine norm_ (a' := ?_) ?_ ?_
  rotate_left
  · show Act.put _ (some 39) _ = _
    simp only [Act.put, List.setIfInBounds_toArray, List.set_cons_zero, List.set_cons_succ, i64_w, i32_w]
    rfl
  refine one_ (i := 25) (N := some 42) #[true, true, true, true, true, true, true, true, true, true, true, true, true, true, true, true, true, true, true, true, true, true, true, true, true, true, false, false, false, false] rfl rfl (one_of HT_.out (by kernel_rfl)) (by decide) (fun K hK => ?_)
  refine goes_ Try.func15 rfl rfl #[.agg (FR .u8 32 a0)] rfl rfl rfl (by simp only [List.map_toArray, List.map_cons, List.map_nil]; rfl) ((num_calls' a0 _ HA.out).mono ?_)
  rintro e wc62 ⟨rfl, hb⟩
  have hSn : Row wc62 w.heap.size .u8 32 a0 22 ∧ Row wc62 (w.heap.size + 1) .u8 32 a1 22 ∧ Row wc62 n4 .u64 5 (carr (ofL a0)) 27 ∧ Row wc62 n5 .u64 5 (carr (ofL a1)) 27 := ⟨hHeld.1.below hb hHeld.1.lt, hHeld.2.1.below hb hHeld.2.1.lt, hHeld.2.2.1.below hb hHeld.2.2.1.lt, hHeld.2.2.2.below hb hHeld.2.2.2.lt⟩
  have HBc62 := Aside0.mk (HBc61.out.trans (hb.mono HBc61.out.size))
  clear hb
  refine ⟨_, rfl, hK.out _ _ hSn (fun hHeld => ?_)⟩
  clear hSn
  clear hK K
  refine norm_ (a' := ?_) ?_ ?_
  rotate_left
  · show Act.put _ (some 42) _ = _
    simp only [Act.put, List.setIfInBounds_toArray, List.set_cons_zero, List.set_cons_succ, i64_w, i32_w]
    rfl
  refine one_ (i := 26) (N := some 43) #[true, true, true, true, true, true, true, true, true, true, true, true, true, true, true, true, true, true, true, true, true, true, true, true, true, true, true, false, false, false] rfl rfl (one_of HT_.out (by kernel_rfl)) (by decide) (fun K hK => ?_)
  refine goes_ Try.func23 rfl rfl #[.agg (FR .i64 16 (fun _ => 0)), .agg (FR .i64 16 (numD a0))] rfl rfl rfl (by simp only [List.map_toArray, List.map_cons, List.map_nil]; rfl) ((subR_c _ _ _ Re.zero.1 (Re.num a0 HA.out).1).mono ?_)
  rintro e wc63 ⟨rfl, hb⟩
  have hSn : Row wc63 w.heap.size .u8 32 a0 22 ∧ Row wc63 (w.heap.size + 1) .u8 32 a1 22 ∧ Row wc63 n4 .u64 5 (carr (ofL a0)) 27 ∧ Row wc63 n5 .u64 5 (carr (ofL a1)) 27 := ⟨hHeld.1.below hb hHeld.1.lt, hHeld.2.1.below hb hHeld.2.1.lt, hHeld.2.2.1.below hb hHeld.2.2.1.lt, hHeld.2.2.2.below hb hHeld.2.2.2.lt⟩
  have HBc63 := Aside0.mk (HBc62.out.trans (hb.mono HBc62.out.size))
  clear hb
  refine ⟨_, rfl, hK.out _ _ hSn (fun hHeld => ?_)⟩
  clear hSn
  clear hK K
  refine norm_ (a' := ?_) ?_ ?_
  rotate_left
  · show Act.put _ (some 43) _ = _
    simp only [Act.put, List.setIfInBounds_toArray, List.set_cons_zero, List.set_cons_succ, i64_w, i32_w]
    rfl
  refine one_ (i := 27) (N := some 44) #[true, true, true, true, true, true, true, true, true, true, true, true, true, true, true, true, true, true, true, true, true, true, true, true, true, true, true, true, false, false] rfl rfl (one_of HT_.out (by kernel_rfl)) (by decide) (fun K hK => ?_)
  refine goes_ Try.func14 rfl rfl #[.agg (FR .u64 5 (negE (carr (ofL a0)))), .agg (FR .i64 16 (subR (fun _ => 0) (numD a0)))] rfl rfl rfl (by simp only [List.map_toArray, List.map_cons, List.map_nil]; rfl) ((is_true_of _ _ _ (Fe.of a0 HA.out).neg (Re.zero.sub (Re.num a0 HA.out)) _).mono ?_)
  rintro e wc64 ⟨rfl, hb⟩
  have hSn : Row wc64 w.heap.size .u8 32 a0 22 ∧ Row wc64 (w.heap.size + 1) .u8 32 a1 22 ∧ Row wc64 n4 .u64 5 (carr (ofL a0)) 27 ∧ Row wc64 n5 .u64 5 (carr (ofL a1)) 27 := ⟨hHeld.1.below hb hHeld.1.lt, hHeld.2.1.below hb hHeld.2.1.lt, hHeld.2.2.1.below hb hHeld.2.2.1.lt, hHeld.2.2.2.below hb hHeld.2.2.2.lt⟩
  have HBc64 := Aside0.mk (HBc63.out.trans (hb.mono HBc63.out.size))
  clear hb
  refine ⟨_, rfl, hK.out _ _ hSn (fun hHeld => ?_)⟩
  clear hSn
  clear hK K
  refine norm_ (a' := ?_) ?_ ?_
  rotate_left
  · show Act.put _ (some 44) _ = _
    simp only [Act.put, List.setIfInBounds_toArray, List.set_cons_zero, List.set_cons_succ, i64_w, i32_w]
    rfl
  refine pure_ (i := 28) (N := some 45) (v := ?_) (a' := ?_) #[true, true, true, true, true, true, true, true, true, true, true, true, true, true, true, true, true, true, true, true, true, true, true, true, true, true, true, true, true, false] rfl rfl (any_of HT_.out (by kernel_rfl)) (fun _ _ _ h => h) (Or.inl ⟨by rfl, ?_⟩) ?_ ?_
  rotate_left
  · intro w'
    go_simp
    with_reducible rfl
  rotate_left
  · simp only [Act.put, List.setIfInBounds_toArray, List.set_cons_zero, List.set_cons_succ, i64_w, i32_w]
    rfl
  refine pure_ (i := 29) (N := some 4) (v := ?_) (a' := ?_) #[true, true, true, true, true, true, true, true, true, true, true, true, true, true, true, true, true, true, true, true, true, true, true, true, true, true, true, true, true, true] rfl rfl (any_of HT_.out (by kernel_rfl)) (fun _ _ _ h => h) (Or.inl ⟨by rfl, ?_⟩) ?_ ?_
  rotate_left
  · intro w'
    go_simp
    with_reducible rfl
  rotate_left
  · simp only [Act.put, List.setIfInBounds_toArray, List.set_cons_zero, List.set_cons_succ, i64_w, i32_w]
    rfl
  refine done_ (done_of HT_.out (by kernel_rfl)) ?_
  try go_wp2
  go_ret
  exact ⟨rfl, HBc64.out⟩
end Go.Proofs.Ythonoagpiofojaa.P
