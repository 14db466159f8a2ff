/- The law FieldMuls and what asks first: their walks. -/
import Derived.Test.YthonoagpiofojaaR1
import Derived.Test.YthonoagpiofojaaP3
import Derived.Test.YthonoagpiofojaaC7
namespace Go.Proofs.Ythonoagpiofojaa.P
set_option linter.unusedVariables false
set_option linter.unusedSimpArgs false
open Go.RowKit Go.Proofs.YthonoagpiofojaaW.PrintWords Go.Proofs.YthonoagpiofojaaW.PrintLast Go.Proofs.YthonoagpiofojaaW.PrintMore
attribute [local go_sem] setCell_drewN
def alB (i : Nat) : Int := if i = 0 then 237 else if i = 1 then 255 else if i = 31 then 127 else 0
theorem al_row : (#[.int .u8 237, .int .u8 255, .int .u8 0, .int .u8 0, .int .u8 0, .int .u8 0, .int .u8 0, .int .u8 0, .int .u8 0, .int .u8 0, .int .u8 0, .int .u8 0, .int .u8 0, .int .u8 0, .int .u8 0, .int .u8 0, .int .u8 0, .int .u8 0, .int .u8 0, .int .u8 0, .int .u8 0, .int .u8 0, .int .u8 0, .int .u8 0, .int .u8 0, .int .u8 0, .int .u8 0, .int .u8 0, .int .u8 0, .int .u8 0, .int .u8 0, .int .u8 127] : Array Value) = FR .u8 32 alB := by kernel_rfl
theorem al_By : By alB := fun j hj => by unfold alB; repeat' split
                                         all_goals omega
theorem al_val : N32 alB % PP = 57443731770074831323412168344153766786583156455220123566449660816425654222829 := by decide
theorem zero_row : (#[.int .u8 0, .int .u8 0, .int .u8 0, .int .u8 0, .int .u8 0, .int .u8 0, .int .u8 0, .int .u8 0, .int .u8 0, .int .u8 0, .int .u8 0, .int .u8 0, .int .u8 0, .int .u8 0, .int .u8 0, .int .u8 0, .int .u8 0, .int .u8 0, .int .u8 0, .int .u8 0, .int .u8 0, .int .u8 0, .int .u8 0, .int .u8 0, .int .u8 0, .int .u8 0, .int .u8 0, .int .u8 0, .int .u8 0, .int .u8 0, .int .u8 0, .int .u8 0] : Array Value) = FR .u8 32 (fun _ => 0) := rfl
theorem al_ne (w : World) : (Op.equalIn 10000 22 (.agg (FR .u8 32 (dig 256 57443731770074831323412168344153766786583156455220123566449660816425654222829))) (.agg #[.int .u8 0, .int .u8 0, .int .u8 0, .int .u8 0, .int .u8 0, .int .u8 0, .int .u8 0, .int .u8 0, .int .u8 0, .int .u8 0, .int .u8 0, .int .u8 0, .int .u8 0, .int .u8 0, .int .u8 0, .int .u8 0, .int .u8 0, .int .u8 0, .int .u8 0, .int .u8 0, .int .u8 0, .int .u8 0, .int .u8 0, .int .u8 0, .int .u8 0, .int .u8 0, .int .u8 0, .int .u8 0, .int .u8 0, .int .u8 0, .int .u8 0, .int .u8 0])).run Try.prog w = .ok false w := by
  rw [zero_row]
  have h : sameRow 32 (dig 256 57443731770074831323412168344153766786583156455220123566449660816425654222829) (fun _ => 0) = false := by decide +kernel
  exact (equal22i _ _ w).trans (by rw [h])
theorem alive_calls (w : World) : Calls Try.prog 25 #[] w fun e w' => e = .returned (.bool true) ∧ Below w.heap.size w w' := by
  have heq5 := same_small 5 (by decide +kernel)
  have heq12 := same_small 12 (by decide +kernel)
  have hne := al_ne
  have F3 := Aside0.mk (Fe.small 3 (by omega))
  have F4 := Aside0.mk (Fe.small 4 (by omega))
  go_enter Try.func25, Try.ntmps25
  go_wp2_with fail
  rw [al_row]
  refine (Of_elem_calls alB _ al_By).mono ?_
  rintro e w1 ⟨rfl, hb⟩
  have HB1 := Aside0.mk hb
  clear hb
  go_wp2_with fail
  refine (bytes_is _ (of_Lm alB al_By) _ (by rw [of_mod alB al_By, al_val]) _).mono ?_
  rintro e w2 ⟨rfl, hb⟩
  have HB2 := Aside0.mk (HB1.out.trans (hb.mono HB1.out.size))
  clear hb HB1
  go_wp2_with fail
  refine (small_elem_calls 5 _ (by omega)).mono ?_
  rintro e w3 ⟨rfl, hb⟩
  have HB3 := Aside0.mk (HB2.out.trans (hb.mono HB2.out.size))
  clear hb HB2
  go_wp2_with fail
  refine (bytes_is (smL 5) (smL_Lm 5 (by omega)) 5 (by rw [smL_V]; rfl) _).mono ?_
  rintro e w4 ⟨rfl, hb⟩
  have HB4 := Aside0.mk (HB3.out.trans (hb.mono HB3.out.size))
  clear hb HB3
  go_wp2_with fail
  refine (small_elem_calls 4 _ (by omega)).mono ?_
  rintro e w5 ⟨rfl, hb⟩
  have HB5 := Aside0.mk (HB4.out.trans (hb.mono HB4.out.size))
  clear hb HB4
  go_wp2_with fail
  refine (small_elem_calls 3 _ (by omega)).mono ?_
  rintro e w6 ⟨rfl, hb⟩
  have HB6 := Aside0.mk (HB5.out.trans (hb.mono HB5.out.size))
  clear hb HB5
  go_wp2_with fail
  refine (elem_mul_calls _ _ _ F4.out.1 F3.out.1).mono ?_
  rintro e w7 ⟨rfl, hb⟩
  have HB7 := Aside0.mk (HB6.out.trans (hb.mono HB6.out.size))
  clear hb HB6
  go_wp2_with fail
  refine (bytes_is _ (F4.out.mul F3.out).1 12 (by rw [(F4.out.mul F3.out).2]; rfl) _).mono ?_
  rintro e w8 ⟨rfl, hb⟩
  have HB8 := Aside0.mk (HB7.out.trans (hb.mono HB7.out.size))
  clear hb HB7
  go_wp2_with fail
  go_ret
  exact ⟨rfl, HB8.out⟩
theorem tab503 : rtab .any (opsOf Try.f5 3) = (true, [([], []), ([0], [0]), ([], []), ([2, 1], [2]), ([1, 3, 3], [1, 3]), ([], []), ([5, 4], [5]), ([], []), ([7, 6], [7]), ([6, 8, 8], [6, 8]), ([4, 9, 9], [4, 9]), ([10, 10, 0, 1, 2, 3, 4, 5, 6, 7, 8, 9, 10], [10])]) := by kernel_rfl
theorem bits503 : waitsOk [([], []), ([0], [0]), ([], []), ([2, 1], [2]), ([1, 3, 3], [1, 3]), ([], []), ([5, 4], [5]), ([], []), ([7, 6], [7]), ([6, 8, 8], [6, 8]), ([4, 9, 9], [4, 9]), ([10, 10, 0, 1, 2, 3, 4, 5, 6, 7, 8, 9, 10], [10])] [0, 1, 0, 7, 15, 0, 63, 0, 255, 511, 1023, 2047] = true := by kernel_rfl
theorem FieldMuls_walk (a0 a1 : Nat → Int) (w : World) (w0 : ∀ i, i < 32 → (Lit.int .u8 (a0 i)).wf = true) (w1 : ∀ i, i < 32 → (Lit.int .u8 (a1 i)).wf = true) :
    Calls Try.prog 5 #[.agg (FR .u8 32 a0), .agg (FR .u8 32 a1)] w fun e w' => e = .returned (.bool true) ∧ Below w.heap.size w w' := by
  have HA : Aside0 (By a0) := ⟨fun j hj => u8b (w0 j hj)⟩
  have HA1 : Aside0 (By a1) := ⟨fun j hj => u8b (w1 j hj)⟩
  clear w0 w1
  go_enter Try.func5, Try.ntmps5
  have hR0 : Row ((w.alloc (.cells (FR .u8 32 a0) 22)).alloc (.cells (FR .u8 32 a1) 22)) w.heap.size .u8 32 a0 22 ∧ Row ((w.alloc (.cells (FR .u8 32 a0) 22)).alloc (.cells (FR .u8 32 a1) 22)) (w.heap.size + 1) .u8 32 a1 22 := ⟨(Row.new w .u8 32 a0 22).alloc _, heap_alloc2_new w _ _⟩
  have HR0 := Aside0.mk hR0
  clear hR0
  have HB0 := Aside0.mk (bel_two w (.cells (FR .u8 32 a0) 22) (.cells (FR .u8 32 a1) 22))
  go_wp2_with fail
  refine (alive_calls _).mono ?_
  rintro e w5 ⟨rfl, hb⟩
  have HR4 := Aside0.mk (And.intro (HR0.out.1.below hb HR0.out.1.lt) (HR0.out.2.below hb HR0.out.2.lt))
  have HB4 := Aside0.mk (HB0.out.trans (hb.mono HB0.out.size))
  clear hb HR0 HB0
  go_wp2_with fail
  have hh : Row w5.drew w.heap.size .u8 32 a0 22 ∧ Row w5.drew (w.heap.size + 1) .u8 32 a1 22 := HR4.out
  have HBd := Aside0.mk HB4.out.drew
  clear HR4 HB4
  refine start_ (n := 12) (S := (fun w' => Row w' w.heap.size .u8 32 a0 22 ∧ Row w' (w.heap.size + 1) .u8 32 a1 22)) (ds := []) #[false, false, false, false, false, false, false, false, false, false, false, false] (by kernel_rfl) rfl rfl hh (fun hHeld => ?_); refine with_tabW tab503 bits503 (fun HT_ HW_ => ?_)
  generalize w5.drew = w6 at HBd hHeld hh ⊢
  clear hh
  refine take_ (i := 0) (N := some 7) (v := ?_) (a' := ?_) #[true, false, false, false, false, false, false, false, false, false, false, false] rfl rfl (take_ofW HT_.out HW_.out (by kernel_rfl)) (fun _ _ _ h => h) (Or.inl ⟨by rfl, ?_⟩) hHeld ?_ ?_
  rotate_left
  · intro w' hsw
    refine exec_load (x := .tmp 2) hsw.1 Try.underlying22 info22 rfl ?_ ?_ <;> rfl
  rotate_left
  · simp only [Act.put, List.setIfInBounds_toArray, List.set_cons_zero, List.set_cons_succ, i64_w, i32_w]
    rfl
  refine take_ (i := 2) (N := some 9) (v := ?_) (a' := ?_) #[true, false, true, false, false, false, false, false, false, false, false, false] rfl rfl (take_ofW HT_.out HW_.out (by kernel_rfl)) (fun _ _ _ h => h) (Or.inl ⟨by rfl, ?_⟩) hHeld ?_ ?_
  rotate_left
  · intro w' hsw
    refine exec_load (x := .tmp 3) hsw.2 Try.underlying22 info22 rfl ?_ ?_ <;> rfl
  rotate_left
  · simp only [Act.put, List.setIfInBounds_toArray, List.set_cons_zero, List.set_cons_succ, i64_w, i32_w]
    rfl
  refine take_ (i := 5) (N := some 12) (v := ?_) (a' := ?_) #[true, false, true, false, false, true, false, false, false, false, false, false] rfl rfl (take_ofW HT_.out HW_.out (by kernel_rfl)) (fun _ _ _ h => h) (Or.inl ⟨by rfl, ?_⟩) hHeld ?_ ?_
  rotate_left
  · intro w' hsw
    refine exec_load (x := .tmp 2) hsw.1 Try.underlying22 info22 rfl ?_ ?_ <;> rfl
  rotate_left
  · simp only [Act.put, List.setIfInBounds_toArray, List.set_cons_zero, List.set_cons_succ, i64_w, i32_w]
    rfl
  refine take_ (i := 7) (N := some 14) (v := ?_) (a' := ?_) #[true, false, true, false, false, true, false, true, false, false, false, false] rfl rfl (take_ofW HT_.out HW_.out (by kernel_rfl)) (fun _ _ _ h => h) (Or.inl ⟨by rfl, ?_⟩) hHeld ?_ ?_
  rotate_left
  · intro w' hsw
    refine exec_load (x := .tmp 3) hsw.2 Try.underlying22 info22 rfl ?_ ?_ <;> rfl
  rotate_left
  · simp only [Act.put, List.setIfInBounds_toArray, List.set_cons_zero, List.set_cons_succ, i64_w, i32_w]
    rfl
  refine one_ (i := 1) (N := some 8) #[true, true, true, false, false, true, false, true, false, false, false, false] rfl rfl (one_of HT_.out (by kernel_rfl)) (by decide) (fun K hK => ?_)
  refine goes_ Try.func13 rfl rfl #[.agg (FR .u8 32 a0)] rfl rfl rfl (by simp only [List.map_toArray, List.map_cons, List.map_nil]; rfl) ((Of_elem_calls a0 _ HA.out).mono ?_)
  rintro e wc1 ⟨rfl, hb⟩
  have hSn : Row wc1 w.heap.size .u8 32 a0 22 ∧ Row wc1 (w.heap.size + 1) .u8 32 a1 22 := ⟨hHeld.1.below hb hHeld.1.lt, hHeld.2.below hb hHeld.2.lt⟩
  have HBc1 := Aside0.mk (HBd.out.trans (hb.mono HBd.out.size))
  clear hb
  refine ⟨_, rfl, hK.out _ _ hSn (fun hHeld => ?_)⟩
  clear hSn
  clear hK K
  refine norm_ (a' := ?_) ?_ ?_
  rotate_left
  · show Act.put _ (some 8) _ = _
    simp only [Act.put, List.setIfInBounds_toArray, List.set_cons_zero, List.set_cons_succ, i64_w, i32_w]
    rfl
  refine one_ (i := 3) (N := some 10) #[true, true, true, true, false, true, false, true, false, false, false, false] rfl rfl (one_of HT_.out (by kernel_rfl)) (by decide) (fun K hK => ?_)
  refine goes_ Try.func13 rfl rfl #[.agg (FR .u8 32 a1)] rfl rfl rfl (by simp only [List.map_toArray, List.map_cons, List.map_nil]; rfl) ((Of_elem_calls a1 _ HA1.out).mono ?_)
  rintro e wc2 ⟨rfl, hb⟩
  have hSn : Row wc2 w.heap.size .u8 32 a0 22 ∧ Row wc2 (w.heap.size + 1) .u8 32 a1 22 := ⟨hHeld.1.below hb hHeld.1.lt, hHeld.2.below hb hHeld.2.lt⟩
  have HBc2 := Aside0.mk (HBc1.out.trans (hb.mono HBc1.out.size))
  clear hb
  refine ⟨_, rfl, hK.out _ _ hSn (fun hHeld => ?_)⟩
  clear hSn
  clear hK K
  refine norm_ (a' := ?_) ?_ ?_
  rotate_left
  · show Act.put _ (some 10) _ = _
    simp only [Act.put, List.setIfInBounds_toArray, List.set_cons_zero, List.set_cons_succ, i64_w, i32_w]
    rfl
  refine one_ (i := 4) (N := some 11) #[true, true, true, true, true, true, false, true, false, false, false, false] rfl rfl (one_of HT_.out (by kernel_rfl)) (by decide) (fun K hK => ?_)
  refine goes_ Try.func26 rfl rfl #[.agg (FR .u64 5 (carr (ofL a0))), .agg (FR .u64 5 (carr (ofL a1)))] rfl rfl rfl (by simp only [List.map_toArray, List.map_cons, List.map_nil]; rfl) ((elem_mul_calls _ _ _ (Fe.of a0 HA.out).1 (Fe.of a1 HA1.out).1).mono ?_)
  rintro e wc3 ⟨rfl, hb⟩
  have hSn : Row wc3 w.heap.size .u8 32 a0 22 ∧ Row wc3 (w.heap.size + 1) .u8 32 a1 22 := ⟨hHeld.1.below hb hHeld.1.lt, hHeld.2.below hb hHeld.2.lt⟩
  have HBc3 := Aside0.mk (HBc2.out.trans (hb.mono HBc2.out.size))
  clear hb
  refine ⟨_, rfl, hK.out _ _ hSn (fun hHeld => ?_)⟩
  clear hSn
  clear hK K
  refine norm_ (a' := ?_) ?_ ?_
  rotate_left
  · show Act.put _ (some 11) _ = _
    simp only [Act.put, List.setIfInBounds_toArray, List.set_cons_zero, List.set_cons_succ, i64_w, i32_w]
    rfl
  refine one_ (i := 6) (N := some 13) #[true, true, true, true, true, true, true, true, false, false, false, false] rfl rfl (one_of HT_.out (by kernel_rfl)) (by decide) (fun K hK => ?_)
  refine goes_ Try.func15 rfl rfl #[.agg (FR .u8 32 a0)] rfl rfl rfl (by simp only [List.map_toArray, List.map_cons, List.map_nil]; rfl) ((num_calls' a0 _ HA.out).mono ?_)
  rintro e wc4 ⟨rfl, hb⟩
  have hSn : Row wc4 w.heap.size .u8 32 a0 22 ∧ Row wc4 (w.heap.size + 1) .u8 32 a1 22 := ⟨hHeld.1.below hb hHeld.1.lt, hHeld.2.below hb hHeld.2.lt⟩
  have HBc4 := Aside0.mk (HBc3.out.trans (hb.mono HBc3.out.size))
  clear hb
  refine ⟨_, rfl, hK.out _ _ hSn (fun hHeld => ?_)⟩
  clear hSn
  clear hK K
  refine norm_ (a' := ?_) ?_ ?_
  rotate_left
  · show Act.put _ (some 13) _ = _
    simp only [Act.put, List.setIfInBounds_toArray, List.set_cons_zero, List.set_cons_succ, i64_w, i32_w]
    rfl
  refine one_ (i := 8) (N := some 15) #[true, true, true, true, true, true, true, true, true, false, false, false] rfl rfl (one_of HT_.out (by kernel_rfl)) (by decide) (fun K hK => ?_)
  refine goes_ Try.func15 rfl rfl #[.agg (FR .u8 32 a1)] rfl rfl rfl (by simp only [List.map_toArray, List.map_cons, List.map_nil]; rfl) ((num_calls' a1 _ HA1.out).mono ?_)
  rintro e wc5 ⟨rfl, hb⟩
  have hSn : Row wc5 w.heap.size .u8 32 a0 22 ∧ Row wc5 (w.heap.size + 1) .u8 32 a1 22 := ⟨hHeld.1.below hb hHeld.1.lt, hHeld.2.below hb hHeld.2.lt⟩
  have HBc5 := Aside0.mk (HBc4.out.trans (hb.mono HBc4.out.size))
  clear hb
  refine ⟨_, rfl, hK.out _ _ hSn (fun hHeld => ?_)⟩
  clear hSn
  clear hK K
  refine norm_ (a' := ?_) ?_ ?_
  rotate_left
  · show Act.put _ (some 15) _ = _
    simp only [Act.put, List.setIfInBounds_toArray, List.set_cons_zero, List.set_cons_succ, i64_w, i32_w]
    rfl
  refine one_ (i := 9) (N := some 16) #[true, true, true, true, true, true, true, true, true, true, false, false] rfl rfl (one_of HT_.out (by kernel_rfl)) (by decide) (fun K hK => ?_)
  refine goes_ Try.func27 rfl rfl #[.agg (FR .i64 16 (numD a0)), .agg (FR .i64 16 (numD a1))] rfl rfl rfl (by simp only [List.map_toArray, List.map_cons, List.map_nil]; rfl) ((mulR_c _ _ _ (Re.num a0 HA.out).1 (Re.num a1 HA1.out).1).mono ?_)
  rintro e wc6 ⟨rfl, hb⟩
  have hSn : Row wc6 w.heap.size .u8 32 a0 22 ∧ Row wc6 (w.heap.size + 1) .u8 32 a1 22 := ⟨hHeld.1.below hb hHeld.1.lt, hHeld.2.below hb hHeld.2.lt⟩
  have HBc6 := Aside0.mk (HBc5.out.trans (hb.mono HBc5.out.size))
  clear hb
  refine ⟨_, rfl, hK.out _ _ hSn (fun hHeld => ?_)⟩
  clear hSn
  clear hK K
  refine norm_ (a' := ?_) ?_ ?_
  rotate_left
  · show Act.put _ (some 16) _ = _
    simp only [Act.put, List.setIfInBounds_toArray, List.set_cons_zero, List.set_cons_succ, i64_w, i32_w]
    rfl
  refine one_ (i := 10) (N := some 17) #[true, true, true, true, true, true, true, true, true, true, true, false] rfl rfl (one_of HT_.out (by kernel_rfl)) (by decide) (fun K hK => ?_)
  refine goes_ Try.func14 rfl rfl #[.agg (FR .u64 5 (mulE (carr (ofL a0)) (carr (ofL a1)))), .agg (FR .i64 16 (mulR (numD a0) (numD a1)))] rfl rfl rfl (by simp only [List.map_toArray, List.map_cons, List.map_nil]; rfl) ((is_true_of _ _ _ ((Fe.of a0 HA.out).mul (Fe.of a1 HA1.out)) ((Re.num a0 HA.out).mul (Re.num a1 HA1.out)) _).mono ?_)
  rintro e wc7 ⟨rfl, hb⟩
  have hSn : Row wc7 w.heap.size .u8 32 a0 22 ∧ Row wc7 (w.heap.size + 1) .u8 32 a1 22 := ⟨hHeld.1.below hb hHeld.1.lt, hHeld.2.below hb hHeld.2.lt⟩
  have HBc7 := Aside0.mk (HBc6.out.trans (hb.mono HBc6.out.size))
  clear hb
  refine ⟨_, rfl, hK.out _ _ hSn (fun hHeld => ?_)⟩
  clear hSn
  clear hK K
  refine norm_ (a' := ?_) ?_ ?_
  rotate_left
  · show Act.put _ (some 17) _ = _
    simp only [Act.put, List.setIfInBounds_toArray, List.set_cons_zero, List.set_cons_succ, i64_w, i32_w]
    rfl
  refine pure_ (i := 11) (N := some 4) (v := ?_) (a' := ?_) #[true, true, true, true, true, true, true, true, true, true, true, true] rfl rfl (any_of HT_.out (by kernel_rfl)) (fun _ _ _ h => h) (Or.inl ⟨by rfl, ?_⟩) ?_ ?_
  rotate_left
  · intro w'
    go_simp
    with_reducible rfl
  rotate_left
  · simp only [Act.put, List.setIfInBounds_toArray, List.set_cons_zero, List.set_cons_succ, i64_w, i32_w]
    rfl
  refine done_ (done_of HT_.out (by kernel_rfl)) ?_
  try go_wp2
  go_ret
  exact ⟨rfl, HBc7.out⟩
end Go.Proofs.Ythonoagpiofojaa.P
