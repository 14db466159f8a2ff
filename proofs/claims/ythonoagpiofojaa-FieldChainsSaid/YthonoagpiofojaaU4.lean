/- Texts L3, A9, P4, P5, L4 of this session, in one (wip/tools/merge.py). -/
import Derived.Test.YthonoagpiofojaaU3
import Derived.Test.YthonoagpiofojaaU2
namespace Go.Proofs.Ythonoagpiofojaa.P
section
set_option linter.unusedVariables false
set_option linter.unusedSimpArgs false
open Go.RowKit Go.Proofs.YthonoagpiofojaaW.PrintWords Go.Proofs.YthonoagpiofojaaW.PrintLast Go.Proofs.YthonoagpiofojaaW.PrintMore
attribute [local go_sem] setCell_drewN
def alB (i : Nat) : Int := if i = 0 then 237 else if i = 1 then 255 else if i = 31 then 127 else 0
theorem al_row : (#[.int .u8 237, .int .u8 255, .int .u8 0, .int .u8 0, .int .u8 0, .int .u8 0, .int .u8 0, .int .u8 0, .int .u8 0, .int .u8 0, .int .u8 0, .int .u8 0, .int .u8 0, .int .u8 0, .int .u8 0, .int .u8 0, .int .u8 0, .int .u8 0, .int .u8 0, .int .u8 0, .int .u8 0, .int .u8 0, .int .u8 0, .int .u8 0, .int .u8 0, .int .u8 0, .int .u8 0, .int .u8 0, .int .u8 0, .int .u8 0, .int .u8 0, .int .u8 127] : Array Value) = FR .u8 32 alB := by kernel_rfl
theorem al_By : By alB := fun j hj => by unfold alB; repeat' split
                                         all_goals omega
theorem al_val : N32 alB % PP = 57443731770074831323412168344153766786583156455220123566449660816425654222829 := by decide
theorem zero_row : (#[.int .u8 0, .int .u8 0, .int .u8 0, .int .u8 0, .int .u8 0, .int .u8 0, .int .u8 0, .int .u8 0, .int .u8 0, .int .u8 0, .int .u8 0, .int .u8 0, .int .u8 0, .int .u8 0, .int .u8 0, .int .u8 0, .int .u8 0, .int .u8 0, .int .u8 0, .int .u8 0, .int .u8 0, .int .u8 0, .int .u8 0, .int .u8 0, .int .u8 0, .int .u8 0, .int .u8 0, .int .u8 0, .int .u8 0, .int .u8 0, .int .u8 0, .int .u8 0] : Array Value) = FR .u8 32 (fun _ => 0) := rfl
theorem al_ne (w : World) : (Op.equalIn 10000 22 (.agg (FR .u8 32 (dig 256 57443731770074831323412168344153766786583156455220123566449660816425654222829))) (.agg #[.int .u8 0, .int .u8 0, .int .u8 0, .int .u8 0, .int .u8 0, .int .u8 0, .int .u8 0, .int .u8 0, .int .u8 0, .int .u8 0, .int .u8 0, .int .u8 0, .int .u8 0, .int .u8 0, .int .u8 0, .int .u8 0, .int .u8 0, .int .u8 0, .int .u8 0, .int .u8 0, .int .u8 0, .int .u8 0, .int .u8 0, .int .u8 0, .int .u8 0, .int .u8 0, .int .u8 0, .int .u8 0, .int .u8 0, .int .u8 0, .int .u8 0, .int .u8 0])).run Try.prog w = .ok false w := by
  rw [zero_row]
  have h : sameRow 32 (dig 256 57443731770074831323412168344153766786583156455220123566449660816425654222829) (fun _ => 0) = false := by decide +kernel
  exact (equal22i _ _ w).trans (by rw [h])
theorem alive_calls (w : World) : Calls Try.prog 25 #[] w fun e w' => e = .returned (.bool true) ∧ Below w.heap.size w w' := by
  have heq5 := same_small 5 (by decide +kernel)
  have heq12 := same_small 12 (by decide +kernel)
  have hne := al_ne
  have F3 := Aside0.mk (Fe.small 3 (by omega))
  have F4 := Aside0.mk (Fe.small 4 (by omega))
  go_enter Try.func25, Try.ntmps25
  go_wp2_with fail
  rw [al_row]
  refine (Of_elem_calls alB _ al_By).mono ?_
  rintro e w1 ⟨rfl, hb⟩
  have HB1 := Aside0.mk hb
  clear hb
  go_wp2_with fail
  refine (bytes_is _ (of_Lm alB al_By) _ (by rw [of_mod alB al_By, al_val]) _).mono ?_
  rintro e w2 ⟨rfl, hb⟩
  have HB2 := Aside0.mk (HB1.out.trans (hb.mono HB1.out.size))
  clear hb HB1
  go_wp2_with fail
  refine (small_elem_calls 5 _ (by omega)).mono ?_
  rintro e w3 ⟨rfl, hb⟩
  have HB3 := Aside0.mk (HB2.out.trans (hb.mono HB2.out.size))
  clear hb HB2
  go_wp2_with fail
  refine (bytes_is (smL 5) (smL_Lm 5 (by omega)) 5 (by rw [smL_V]; rfl) _).mono ?_
  rintro e w4 ⟨rfl, hb⟩
  have HB4 := Aside0.mk (HB3.out.trans (hb.mono HB3.out.size))
  clear hb HB3
  go_wp2_with fail
  refine (small_elem_calls 4 _ (by omega)).mono ?_
  rintro e w5 ⟨rfl, hb⟩
  have HB5 := Aside0.mk (HB4.out.trans (hb.mono HB4.out.size))
  clear hb HB4
  go_wp2_with fail
  refine (small_elem_calls 3 _ (by omega)).mono ?_
  rintro e w6 ⟨rfl, hb⟩
  have HB6 := Aside0.mk (HB5.out.trans (hb.mono HB5.out.size))
  clear hb HB5
  go_wp2_with fail
  refine (elem_mul_calls _ _ _ F4.out.1 F3.out.1).mono ?_
  rintro e w7 ⟨rfl, hb⟩
  have HB7 := Aside0.mk (HB6.out.trans (hb.mono HB6.out.size))
  clear hb HB6
  go_wp2_with fail
  refine (bytes_is _ (F4.out.mul F3.out).1 12 (by rw [(F4.out.mul F3.out).2]; rfl) _).mono ?_
  rintro e w8 ⟨rfl, hb⟩
  have HB8 := Aside0.mk (HB7.out.trans (hb.mono HB7.out.size))
  clear hb HB7
  go_wp2_with fail
  go_ret
  exact ⟨rfl, HB8.out⟩
theorem tab503 : rtab .any (opsOf Try.f5 3) = (true, [([], []), ([0], [0]), ([], []), ([2, 1], [2]), ([1, 3, 3], [1, 3]), ([], []), ([5, 4], [5]), ([], []), ([7, 6], [7]), ([6, 8, 8], [6, 8]), ([4, 9, 9], [4, 9]), ([10, 10, 0, 1, 2, 3, 4, 5, 6, 7, 8, 9, 10], [10])]) := by kernel_rfl
theorem bits503 : waitsOk [([], []), ([0], [0]), ([], []), ([2, 1], [2]), ([1, 3, 3], [1, 3]), ([], []), ([5, 4], [5]), ([], []), ([7, 6], [7]), ([6, 8, 8], [6, 8]), ([4, 9, 9], [4, 9]), ([10, 10, 0, 1, 2, 3, 4, 5, 6, 7, 8, 9, 10], [10])] [0, 1, 0, 7, 15, 0, 63, 0, 255, 511, 1023, 2047] = true := by kernel_rfl
theorem FieldMuls_walk (a0 a1 : Nat → Int) (w : World) (w0 : ∀ i, i < 32 → (Lit.int .u8 (a0 i)).wf = true) (w1 : ∀ i, i < 32 → (Lit.int .u8 (a1 i)).wf = true) :
    Calls Try.prog 5 #[.agg (FR .u8 32 a0), .agg (FR .u8 32 a1)] w fun e w' => e = .returned (.bool true) ∧ Below w.heap.size w w' := by
  have HA : Aside0 (By a0) := ⟨fun j hj => u8b (w0 j hj)⟩
  have HA1 : Aside0 (By a1) := ⟨fun j hj => u8b (w1 j hj)⟩
  clear w0 w1
  go_enter Try.func5, Try.ntmps5
  have hR0 : Row ((w.alloc (.cells (FR .u8 32 a0) 22)).alloc (.cells (FR .u8 32 a1) 22)) w.heap.size .u8 32 a0 22 ∧ Row ((w.alloc (.cells (FR .u8 32 a0) 22)).alloc (.cells (FR .u8 32 a1) 22)) (w.heap.size + 1) .u8 32 a1 22 := ⟨(Row.new w .u8 32 a0 22).alloc _, heap_alloc2_new w _ _⟩
  have HR0 := Aside0.mk hR0
  clear hR0
  have HB0 := Aside0.mk (bel_two w (.cells (FR .u8 32 a0) 22) (.cells (FR .u8 32 a1) 22))
  go_wp2_with fail
  refine (alive_calls _).mono ?_
  rintro e w5 ⟨rfl, hb⟩
  have HR4 := Aside0.mk (And.intro (HR0.out.1.below hb HR0.out.1.lt) (HR0.out.2.below hb HR0.out.2.lt))
  have HB4 := Aside0.mk (HB0.out.trans (hb.mono HB0.out.size))
  clear hb HR0 HB0
  go_wp2_with fail
  have hh : Row w5.drew w.heap.size .u8 32 a0 22 ∧ Row w5.drew (w.heap.size + 1) .u8 32 a1 22 := HR4.out
  have HBd := Aside0.mk HB4.out.drew
  clear HR4 HB4
  refine start_ (n := 12) (S := (fun w' => Row w' w.heap.size .u8 32 a0 22 ∧ Row w' (w.heap.size + 1) .u8 32 a1 22)) (ds := []) #[false, false, false, false, false, false, false, false, false, false, false, false] (by kernel_rfl) rfl rfl hh (fun hHeld => ?_); refine with_tabW tab503 bits503 (fun HT_ HW_ => ?_)
  generalize w5.drew = w6 at HBd hHeld hh ⊢
  clear hh
  refine take_ (i := 0) (N := some 7) (v := ?_) (a' := ?_) #[true, false, false, false, false, false, false, false, false, false, false, false] rfl rfl (take_ofW HT_.out HW_.out (by kernel_rfl)) (fun _ _ _ h => h) (Or.inl ⟨by rfl, ?_⟩) hHeld ?_ ?_
  rotate_left
  · intro w' hsw
    refine exec_load (x := .tmp 2) hsw.1 Try.underlying22 info22 rfl ?_ ?_ <;> rfl
  rotate_left
  · simp only [Act.put, List.setIfInBounds_toArray, List.set_cons_zero, List.set_cons_succ, i64_w, i32_w]
    rfl
  refine take_ (i := 2) (N := some 9) (v := ?_) (a' := ?_) #[true, false, true, false, false, false, false, false, false, false, false, false] rfl rfl (take_ofW HT_.out HW_.out (by kernel_rfl)) (fun _ _ _ h => h) (Or.inl ⟨by rfl, ?_⟩) hHeld ?_ ?_
  rotate_left
  · intro w' hsw
    refine exec_load (x := .tmp 3) hsw.2 Try.underlying22 info22 rfl ?_ ?_ <;> rfl
  rotate_left
  · simp only [Act.put, List.setIfInBounds_toArray, List.set_cons_zero, List.set_cons_succ, i64_w, i32_w]
    rfl
  refine take_ (i := 5) (N := some 12) (v := ?_) (a' := ?_) #[true, false, true, false, false, true, false, false, false, false, false, false] rfl rfl (take_ofW HT_.out HW_.out (by kernel_rfl)) (fun _ _ _ h => h) (Or.inl ⟨by rfl, ?_⟩) hHeld ?_ ?_
  rotate_left
  · intro w' hsw
    refine exec_load (x := .tmp 2) hsw.1 Try.underlying22 info22 rfl ?_ ?_ <;> rfl
  rotate_left
  · simp only [Act.put, List.setIfInBounds_toArray, List.set_cons_zero, List.set_cons_succ, i64_w, i32_w]
    rfl
  refine take_ (i := 7) (N := some 14) (v := ?_) (a' := ?_) #[true, false, true, false, false, true, false, true, false, false, false, false] rfl rfl (take_ofW HT_.out HW_.out (by kernel_rfl)) (fun _ _ _ h => h) (Or.inl ⟨by rfl, ?_⟩) hHeld ?_ ?_
  rotate_left
  · intro w' hsw
    refine exec_load (x := .tmp 3) hsw.2 Try.underlying22 info22 rfl ?_ ?_ <;> rfl
  rotate_left
  · simp only [Act.put, List.setIfInBounds_toArray, List.set_cons_zero, List.set_cons_succ, i64_w, i32_w]
    rfl
  refine one_ (i := 1) (N := some 8) #[true, true, true, false, false, true, false, true, false, false, false, false] rfl rfl (one_of HT_.out (by kernel_rfl)) (by decide) (fun K hK => ?_)
  refine goes_ Try.func13 rfl rfl #[.agg (FR .u8 32 a0)] rfl rfl rfl (by simp only [List.map_toArray, List.map_cons, List.map_nil]; rfl) ((Of_elem_calls a0 _ HA.out).mono ?_)
  rintro e wc1 ⟨rfl, hb⟩
  have hSn : Row wc1 w.heap.size .u8 32 a0 22 ∧ Row wc1 (w.heap.size + 1) .u8 32 a1 22 := ⟨hHeld.1.below hb hHeld.1.lt, hHeld.2.below hb hHeld.2.lt⟩
  have HBc1 := Aside0.mk (HBd.out.trans (hb.mono HBd.out.size))
  clear hb
  refine ⟨_, rfl, hK.out _ _ hSn (fun hHeld => ?_)⟩
  clear hSn
  clear hK K
  refine norm_ (a' := ?_) ?_ ?_
  rotate_left
  · show Act.put _ (some 8) _ = _
    simp only [Act.put, List.setIfInBounds_toArray, List.set_cons_zero, List.set_cons_succ, i64_w, i32_w]
    rfl
  refine one_ (i := 3) (N := some 10) #[true, true, true, true, false, true, false, true, false, false, false, false] rfl rfl (one_of HT_.out (by kernel_rfl)) (by decide) (fun K hK => ?_)
  refine goes_ Try.func13 rfl rfl #[.agg (FR .u8 32 a1)] rfl rfl rfl (by simp only [List.map_toArray, List.map_cons, List.map_nil]; rfl) ((Of_elem_calls a1 _ HA1.out).mono ?_)
  rintro e wc2 ⟨rfl, hb⟩
  have hSn : Row wc2 w.heap.size .u8 32 a0 22 ∧ Row wc2 (w.heap.size + 1) .u8 32 a1 22 := ⟨hHeld.1.below hb hHeld.1.lt, hHeld.2.below hb hHeld.2.lt⟩
  have HBc2 := Aside0.mk (HBc1.out.trans (hb.mono HBc1.out.size))
  clear hb
  refine ⟨_, rfl, hK.out _ _ hSn (fun hHeld => ?_)⟩
  clear hSn
  clear hK K
  refine norm_ (a' := ?_) ?_ ?_
  rotate_left
  · show Act.put _ (some 10) _ = _
    simp only [Act.put, List.setIfInBounds_toArray, List.set_cons_zero, List.set_cons_succ, i64_w, i32_w]
    rfl
  refine one_ (i := 4) (N := some 11) #[true, true, true, true, true, true, false, true, false, false, false, false] rfl rfl (one_of HT_.out (by kernel_rfl)) (by decide) (fun K hK => ?_)
  refine goes_ Try.func26 rfl rfl #[.agg (FR .u64 5 (carr (ofL a0))), .agg (FR .u64 5 (carr (ofL a1)))] rfl rfl rfl (by simp only [List.map_toArray, List.map_cons, List.map_nil]; rfl) ((elem_mul_calls _ _ _ (Fe.of a0 HA.out).1 (Fe.of a1 HA1.out).1).mono ?_)
  rintro e wc3 ⟨rfl, hb⟩
  have hSn : Row wc3 w.heap.size .u8 32 a0 22 ∧ Row wc3 (w.heap.size + 1) .u8 32 a1 22 := ⟨hHeld.1.below hb hHeld.1.lt, hHeld.2.below hb hHeld.2.lt⟩
  have HBc3 := Aside0.mk (HBc2.out.trans (hb.mono HBc2.out.size))
  clear hb
  refine ⟨_, rfl, hK.out _ _ hSn (fun hHeld => ?_)⟩
  clear hSn
  clear hK K
  refine norm_ (a' := ?_) ?_ ?_
  rotate_left
  · show Act.put _ (some 11) _ = _
    simp only [Act.put, List.setIfInBounds_toArray, List.set_cons_zero, List.set_cons_succ, i64_w, i32_w]
    rfl
  refine one_ (i := 6) (N := some 13) #[true, true, true, true, true, true, true, true, false, false, false, false] rfl rfl (one_of HT_.out (by kernel_rfl)) (by decide) (fun K hK => ?_)
  refine goes_ Try.func15 rfl rfl #[.agg (FR .u8 32 a0)] rfl rfl rfl (by simp only [List.map_toArray, List.map_cons, List.map_nil]; rfl) ((num_calls' a0 _ HA.out).mono ?_)
  rintro e wc4 ⟨rfl, hb⟩
  have hSn : Row wc4 w.heap.size .u8 32 a0 22 ∧ Row wc4 (w.heap.size + 1) .u8 32 a1 22 := ⟨hHeld.1.below hb hHeld.1.lt, hHeld.2.below hb hHeld.2.lt⟩
  have HBc4 := Aside0.mk (HBc3.out.trans (hb.mono HBc3.out.size))
  clear hb
  refine ⟨_, rfl, hK.out _ _ hSn (fun hHeld => ?_)⟩
  clear hSn
  clear hK K
  refine norm_ (a' := ?_) ?_ ?_
  rotate_left
  · show Act.put _ (some 13) _ = _
    simp only [Act.put, List.setIfInBounds_toArray, List.set_cons_zero, List.set_cons_succ, i64_w, i32_w]
    rfl
  refine one_ (i := 8) (N := some 15) #[true, true, true, true, true, true, true, true, true, false, false, false] rfl rfl (one_of HT_.out (by kernel_rfl)) (by decide) (fun K hK => ?_)
  refine goes_ Try.func15 rfl rfl #[.agg (FR .u8 32 a1)] rfl rfl rfl (by simp only [List.map_toArray, List.map_cons, List.map_nil]; rfl) ((num_calls' a1 _ HA1.out).mono ?_)
  rintro e wc5 ⟨rfl, hb⟩
  have hSn : Row wc5 w.heap.size .u8 32 a0 22 ∧ Row wc5 (w.heap.size + 1) .u8 32 a1 22 := ⟨hHeld.1.below hb hHeld.1.lt, hHeld.2.below hb hHeld.2.lt⟩
  have HBc5 := Aside0.mk (HBc4.out.trans (hb.mono HBc4.out.size))
  clear hb
  refine ⟨_, rfl, hK.out _ _ hSn (fun hHeld => ?_)⟩
  clear hSn
  clear hK K
  refine norm_ (a' := ?_) ?_ ?_
  rotate_left
  · show Act.put _ (some 15) _ = _
    simp only [Act.put, List.setIfInBounds_toArray, List.set_cons_zero, List.set_cons_succ, i64_w, i32_w]
    rfl
  refine one_ (i := 9) (N := some 16) #[true, true, true, true, true, true, true, true, true, true, false, false] rfl rfl (one_of HT_.out (by kernel_rfl)) (by decide) (fun K hK => ?_)
  refine goes_ Try.func27 rfl rfl #[.agg (FR .i64 16 (numD a0)), .agg (FR .i64 16 (numD a1))] rfl rfl rfl (by simp only [List.map_toArray, List.map_cons, List.map_nil]; rfl) ((mulR_c _ _ _ (Re.num a0 HA.out).1 (Re.num a1 HA1.out).1).mono ?_)
  rintro e wc6 ⟨rfl, hb⟩
  have hSn : Row wc6 w.heap.size .u8 32 a0 22 ∧ Row wc6 (w.heap.size + 1) .u8 32 a1 22 := ⟨hHeld.1.below hb hHeld.1.lt, hHeld.2.below hb hHeld.2.lt⟩
  have HBc6 := Aside0.mk (HBc5.out.trans (hb.mono HBc5.out.size))
  clear hb
  refine ⟨_, rfl, hK.out _ _ hSn (fun hHeld => ?_)⟩
  clear hSn
  clear hK K
  refine norm_ (a' := ?_) ?_ ?_
  rotate_left
  · show Act.put _ (some 16) _ = _
    simp only [Act.put, List.setIfInBounds_toArray, List.set_cons_zero, List.set_cons_succ, i64_w, i32_w]
    rfl
  refine one_ (i := 10) (N := some 17) #[true, true, true, true, true, true, true, true, true, true, true, false] rfl rfl (one_of HT_.out (by kernel_rfl)) (by decide) (fun K hK => ?_)
  refine goes_ Try.func14 rfl rfl #[.agg (FR .u64 5 (mulE (carr (ofL a0)) (carr (ofL a1)))), .agg (FR .i64 16 (mulR (numD a0) (numD a1)))] rfl rfl rfl (by simp only [List.map_toArray, List.map_cons, List.map_nil]; rfl) ((is_true_of _ _ _ ((Fe.of a0 HA.out).mul (Fe.of a1 HA1.out)) ((Re.num a0 HA.out).mul (Re.num a1 HA1.out)) _).mono ?_)
  rintro e wc7 ⟨rfl, hb⟩
  have hSn : Row wc7 w.heap.size .u8 32 a0 22 ∧ Row wc7 (w.heap.size + 1) .u8 32 a1 22 := ⟨hHeld.1.below hb hHeld.1.lt, hHeld.2.below hb hHeld.2.lt⟩
  have HBc7 := Aside0.mk (HBc6.out.trans (hb.mono HBc6.out.size))
  clear hb
  refine ⟨_, rfl, hK.out _ _ hSn (fun hHeld => ?_)⟩
  clear hSn
  clear hK K
  refine norm_ (a' := ?_) ?_ ?_
  rotate_left
  · show Act.put _ (some 17) _ = _
    simp only [Act.put, List.setIfInBounds_toArray, List.set_cons_zero, List.set_cons_succ, i64_w, i32_w]
    rfl
  refine pure_ (i := 11) (N := some 4) (v := ?_) (a' := ?_) #[true, true, true, true, true, true, true, true, true, true, true, true] rfl rfl (any_of HT_.out (by kernel_rfl)) (fun _ _ _ h => h) (Or.inl ⟨by rfl, ?_⟩) ?_ ?_
  rotate_left
  · intro w'
    go_simp
    with_reducible rfl
  rotate_left
  · simp only [Act.put, List.setIfInBounds_toArray, List.set_cons_zero, List.set_cons_succ, i64_w, i32_w]
    rfl
  refine done_ (done_of HT_.out (by kernel_rfl)) ?_
  try go_wp2
  go_ret
  exact ⟨rfl, HBc7.out⟩
end
section
set_option linter.unusedVariables false
set_option linter.unusedSimpArgs false
open Go.RowKit
/-- A bit of a number in bytes. -/
def bitB (e : Nat → Int) (i : Nat) : Bool := e (i / 8) / 2 ^ (i % 8) % 2 == 1
/-- The exponent that the bits 255 .. i are. -/
def expN (e : Nat → Int) : Nat → Nat
  | 0 => 0
  | s + 1 => 2 * expN e s + (if bitB e (255 - s) then 1 else 0)
def powE (f e : Nat → Int) : Nat → (Nat → Int)
  | 0 => smL 1
  | s + 1 => if bitB e (255 - s) then mulE (mulE (powE f e s) (powE f e s)) f else mulE (powE f e s) (powE f e s)
def powR (g e : Nat → Int) : Nat → (Nat → Int)
  | 0 => carryN (fun i => if i = 0 then 1 else 0) 16
  | s + 1 => if bitB e (255 - s) then mulR (mulR (powR g e s) (powR g e s)) g else mulR (powR g e s) (powR g e s)
theorem pow_two_mul (n : Int) (k : Nat) : n ^ (2 * k) = n ^ k * n ^ k := by rw [Nat.two_mul, Int.pow_add]
theorem Fe.pow {f : Nat → Int} {n : Int} (hf : Fe f n) (e : Nat → Int) : ∀ s, Fe (powE f e s) (n ^ expN e s)
  | 0 => by simpa [powE, expN] using Fe.small 1 (by omega)
  | s + 1 => by
    have ih := Fe.pow hf e s
    have h2 := ih.mul ih
    unfold powE expN
    by_cases hb : bitB e (255 - s) = true
    · rw [if_pos hb, if_pos hb, Int.pow_succ, pow_two_mul]; exact h2.mul hf
    · rw [if_neg hb, if_neg hb, Nat.add_zero, pow_two_mul]; exact h2
theorem Re.pow {g : Nat → Int} {n : Int} (hg : Re g n) (e : Nat → Int) : ∀ s, Re (powR g e s) (n ^ expN e s)
  | 0 => by simpa [powR, expN] using Re.small 1 (by omega)
  | s + 1 => by
    have ih := Re.pow hg e s
    have h2 := ih.mul ih
    unfold powR expN
    by_cases hb : bitB e (255 - s) = true
    · rw [if_pos hb, if_pos hb, Int.pow_succ, pow_two_mul]; exact h2.mul hg
    · rw [if_neg hb, if_neg hb, Nat.add_zero, pow_two_mul]; exact h2
/-- The bytes of 2 to this power, less k (as the code reckons them). -/
def expB (p : Nat) (k : Int) (j : Nat) : Int := if j = 0 then ((2 ^ (min 8 p) - 1) - k) % 256 else 2 ^ (min 8 (p - 8 * j)) - 1
def onesB (p j : Nat) : Int := 2 ^ (min 8 (p - 8 * j)) - 1
theorem onesB_step (i j : Nat) : onesB (i + 1) j = upd (onesB i) (i / 8) (onesB i (i / 8) + 2 ^ (i % 8)) j := by
  by_cases h : j = i / 8
  · subst h
    rw [upd_same]
    unfold onesB
    rw [show min 8 (i + 1 - 8 * (i / 8)) = i % 8 + 1 by omega, show min 8 (i - 8 * (i / 8)) = i % 8 by omega, Int.pow_succ]
    omega
  · rw [upd_other _ _ _ _ h]
    unfold onesB
    rw [show min 8 (i + 1 - 8 * j) = min 8 (i - 8 * j) by omega]
theorem pow8_le (r : Nat) (h : r ≤ 8) : (1 : Int) ≤ 2 ^ r ∧ (2 : Int) ^ r ≤ 256 := by
  have hc : r = 0 ∨ r = 1 ∨ r = 2 ∨ r = 3 ∨ r = 4 ∨ r = 5 ∨ r = 6 ∨ r = 7 ∨ r = 8 := by omega
  rcases hc with h | h | h | h | h | h | h | h | h <;> subst h <;> decide
theorem onesB_b (p j : Nat) : 0 ≤ onesB p j ∧ onesB p j < 256 := by
  have := pow8_le (min 8 (p - 8 * j)) (by omega)
  unfold onesB; omega
theorem ones_or (i : Nat) : Go.bits .or .u8 (onesB i (i / 8)) (2 ^ (i % 8)) = onesB i (i / 8) + 2 ^ (i % 8) := by
  have h := or_bit (onesB i (i / 8)) 1 (i % 8) (by omega) (by
    unfold onesB
    rw [show min 8 (i - 8 * (i / 8)) = i % 8 by omega]
    have := pow8_le (i % 8) (by omega)
    omega) (Or.inr rfl)
  have hp := pow8_le (i % 8) (by omega)
  have h8 : (2 : Int) ^ (i % 8) ≤ 128 := by
    have hc : i % 8 = 0 ∨ i % 8 = 1 ∨ i % 8 = 2 ∨ i % 8 = 3 ∨ i % 8 = 4 ∨ i % 8 = 5 ∨ i % 8 = 6 ∨ i % 8 = 7 := by omega
    rcases hc with h | h | h | h | h | h | h | h <;> rw [h] <;> decide
  have e : (1 : Int) % 256 * 2 ^ (i % 8) % 256 = 2 ^ (i % 8) := by
    rw [show (1 : Int) % 256 = 1 by decide, Int.one_mul, Int.emod_eq_of_lt (by omega) (by omega)]
  rw [e, Int.one_mul] at h
  exact h
end
section
set_option linter.unusedVariables false
set_option linter.unusedSimpArgs false
open Go.RowKit
attribute [local go_sem] setCell_drewN
theorem bit_and (e : Nat → Int) (j : Nat) (h : 0 ≤ e (j / 8) ∧ e (j / 8) < 256) : Go.bits .and .u8 (e (j / 8) / 2 ^ (j % 8)) 1 = e (j / 8) / 2 ^ (j % 8) % 2 := by
  have hp := pow8_le (j % 8) (by omega)
  have h0 : 0 ≤ e (j / 8) / 2 ^ (j % 8) := Int.ediv_nonneg h.1 (by omega)
  have h1 : e (j / 8) / 2 ^ (j % 8) ≤ e (j / 8) := Int.ediv_le_self _ h.1
  rw [u8_and _ _ h0 (by omega) (by omega) (by omega), show (1 : Int).toNat = 2 ^ 1 - 1 from rfl, Nat.and_two_pow_sub_one_eq_mod]
  omega
theorem meas_down (j : Nat) : (intOf (Value.int IntKind.i64 ((j : Int) - 1)) + 1).toNat < (intOf (Value.int IntKind.i64 (j : Int)) + 1).toNat := by
  have e1 : intOf (Value.int IntKind.i64 ((j : Int) - 1)) = (j : Int) - 1 := rfl
  have e2 : intOf (Value.int IntKind.i64 (j : Int)) = (j : Int) := rfl
  rw [e1, e2]; omega
def pow_elemRel (w : World) (f e : Nat → Int) (ba : Nat) (v6 : Value) (wr : World) : Prop :=
  ∃ i : Nat, i ≤ 256 ∧ v6 = .int .i64 ((i : Int) - 1) ∧ Below w.heap.size w wr ∧ Row wr w.heap.size .u64 5 f 27 ∧ Row wr (w.heap.size + 1 + 1) .u64 5 (fun _ => 0) 27 ∧ Row wr ba .u64 5 (powE f e (256 - i)) 27 ∧ Row wr (w.heap.size + 1) .u8 32 e 22
theorem pow_elem (f e : Nat → Int) (w : World) (hf : Lm f) (he : By e) :
    Calls Try.prog 28 #[.agg (FR .u64 5 f), .agg (FR .u8 32 e)] w fun e' w' => e' = .returned (.agg (FR .u64 5 (powE f e 256))) ∧ Below w.heap.size w w' := by
  have HF := Aside0.mk hf
  have HE := Aside0.mk he
  have HI : Aside0 (∀ s, Lm (powE f e s)) := ⟨fun s => (Fe.pow ⟨hf, rfl⟩ e s).1⟩
  clear hf he
  go_enter Try.func28, Try.ntmps28
  have HB0 := Aside0.mk (bel_three w (.cells (FR .u64 5 f) 27) (.cells (FR .u8 32 e) 22) (.cells (FR .u64 5 fun _ => 0) 27))
  have HR0 : Aside0 (Row (((w.alloc (.cells (FR .u64 5 f) 27)).alloc (.cells (FR .u8 32 e) 22)).alloc (.cells (FR .u64 5 fun _ => 0) 27)) w.heap.size .u64 5 f 27) := ⟨((Row.new w .u64 5 f 27).alloc _).alloc _⟩
  have HE0 : Aside0 (Row (((w.alloc (.cells (FR .u64 5 f) 27)).alloc (.cells (FR .u8 32 e) 22)).alloc (.cells (FR .u64 5 fun _ => 0) 27)) (w.heap.size + 1) .u8 32 e 22) := ⟨Row.alloc (show Row ((w.alloc (.cells (FR .u64 5 f) 27)).alloc (.cells (FR .u8 32 e) 22)) (w.heap.size + 1) .u8 32 e 22 from heap_alloc2_new w _ _) _⟩
  have HZ0 : Aside0 (Row (((w.alloc (.cells (FR .u64 5 f) 27)).alloc (.cells (FR .u8 32 e) 22)).alloc (.cells (FR .u64 5 fun _ => 0) 27)) (w.heap.size + 1 + 1) .u64 5 (fun _ => 0) 27) := ⟨three_new w _ _ _⟩
  go_wp2_with fail
  refine (small_elem_calls 1 _ (by omega)).mono ?_
  rintro e' w1 ⟨rfl, hb⟩
  have HR1 := Aside0.mk (HR0.out.below hb HR0.out.lt)
  have HZ1 := Aside0.mk (HZ0.out.below hb HZ0.out.lt)
  have HE1 := Aside0.mk (HE0.out.below hb HE0.out.lt)
  have HB1 := Aside0.mk (HB0.out.trans (hb.mono HB0.out.size))
  have hl1 := HZ1.out.lt
  have hl0 := HR1.out.lt
  clear hb HR0 HZ0 HB0 HE0
  have HN := Aside0.mk (Row.new w1 .u64 5 (fun _ => 0) 27)
  have HR2 := Aside0.mk (HR1.out.alloc (.cells (FR .u64 5 fun _ => 0) 27))
  have HZ2 := Aside0.mk (HZ1.out.alloc (.cells (FR .u64 5 fun _ => 0) 27))
  have HE2 := Aside0.mk (HE1.out.alloc (.cells (FR .u64 5 fun _ => 0) 27))
  have HB2 := Aside0.mk (HB1.out.alloc (by omega) (.cells (FR .u64 5 fun _ => 0) 27))
  clear HR1 HZ1 HB1 HE1
  go_wp2_with (refine step_storeG (smL 1) HN.out info27 rfl rfl rfl rfl rfl ?_; intro w3 hs hr; have HS3 := Aside0.mk hs; have HA3 := Aside0.mk hr; clear hs hr)
  have HR3 := Aside0.mk (HR2.out.stored HS3.out (by omega))
  have HZ3 := Aside0.mk (HZ2.out.stored HS3.out (by omega))
  have HE3 := Aside0.mk (HE2.out.stored HS3.out (by omega))
  have HB3 := Aside0.mk (HS3.out.bel _ _ (by omega) HB2.out)
  clear HN HR2 HZ2 HB2 HS3 HE2
  generalize w1.heap.size = ba at *
  go_loopw [6] (fun v6 wr => pow_elemRel w f e ba v6 wr) (fun v _ => (intOf v + 1).toNat)
  case atStart => exact ⟨256, by omega, rfl, HB3.out, HR3.out, HZ3.out, HA3.out, HE3.out⟩
  case round =>
    clear HR3 HZ3 HB3 HA3 HE3
    obtain ⟨i, hi, rfl, hb, hr, hz, ha, hee⟩ := hrel
    have HB := Aside0.mk hb
    have HR := Aside0.mk hr
    have HZ := Aside0.mk hz
    have HA := Aside0.mk ha
    have HEE := Aside0.mk hee
    have hlr := hr.lt
    have hlz := hz.lt
    have hla := ha.lt
    clear hb hr hz ha hee
    rcases Nat.eq_zero_or_pos i with h0 | h0
    · subst h0
      go_wp2_with (first | refine step_load HA.out Try.underlying27 info27 rfl rfl rfl rfl ?_ | (refine step_storeG (powE f e 256) HZ.out info27 rfl rfl rfl rfl rfl ?_; intro w9 hs hr; have HS9 := Aside0.mk hs; have HR9 := Aside0.mk hr; clear hs hr))
      refine bodyPost_ret (row_results rfl HR9.out rfl Try.underlying27 rfl info27) rfl ?_
      exact ⟨rfl, HS9.out.bel _ _ (by omega) HB.out⟩
    · obtain ⟨j, rfl⟩ : ∃ j, i = j + 1 := ⟨i - 1, by omega⟩
      have e1 : ((j + 1 : Nat) : Int) - 1 = (j : Int) := by omega
      rw [e1]
      have hge : ((j : Int) ≥ 0) = True := eq_true (by omega)
      have HST : Aside0 (powE f e (256 - j) = if bitB e j then mulE (mulE (powE f e (256 - (j + 1))) (powE f e (256 - (j + 1)))) f else mulE (powE f e (256 - (j + 1))) (powE f e (256 - (j + 1)))) := ⟨by
        have es : 256 - j = (256 - (j + 1)) + 1 := by omega
        rw [es]
        show (if bitB e (255 - (256 - (j + 1))) then _ else _) = _
        rw [show 255 - (256 - (j + 1)) = j by omega]⟩
      have HP := Aside0.mk (HI.out (256 - (j + 1)))
      generalize powE f e (256 - (j + 1)) = q at *
      go_wp2_with (refine step_load HA.out Try.underlying27 info27 rfl rfl rfl rfl ?_)
      refine (elem_mul_calls q q _ HP.out HP.out).mono ?_
      rintro e' w1 ⟨rfl, hb⟩
      have HR1 := Aside0.mk (HR.out.below hb hlr)
      have HZ1 := Aside0.mk (HZ.out.below hb hlz)
      have HA1 := Aside0.mk (HA.out.below hb hla)
      have HE1 := Aside0.mk (HEE.out.below hb HEE.out.lt)
      have HB1 := Aside0.mk (HB.out.trans (hb.mono HB.out.size))
      clear hb
      have d8 : Int.tdiv (j : Int) 8 = ((j / 8 : Nat) : Int) := rfl
      have r8 : Int.tmod (j : Int) 8 = ((j % 8 : Nat) : Int) := rfl
      have hba := bit_and e j (HE.out (j / 8) (by omega))
      have hbq : (e (j / 8) / 2 ^ (j % 8) % 2 == 1) = bitB e j := rfl
      have l8 : (((j / 8 : Nat) : Int) < 32) = True := eq_true (by omega)
      have HSQ : Aside0 (Lm (mulE q q)) := ⟨(Fe.mul ⟨HP.out, rfl⟩ ⟨HP.out, rfl⟩).1⟩
      cases hbj : bitB e j
      · rw [hbj] at hbq
        have HBJ := Aside0.mk hbj
        clear hbj
        go_wp2_with (refine step_storeG (mulE q q) HA1.out info27 rfl rfl rfl rfl rfl ?_; intro w2 hs hr; have HS2 := Aside0.mk hs; have HA2 := Aside0.mk hr; have HR2 := Aside0.mk (HR1.out.stored hs (by omega)); have hee := HE1.out.stored hs (by omega); have HE2 := Aside0.mk hee; have k8 := hee.cell (j / 8) (by omega); clear hs hr hee)
        refine ⟨⟨j, by omega, rfl, HS2.out.bel _ _ (by omega) HB1.out, HR2.out, HZ1.out.stored HS2.out (by omega), ?_, HE2.out⟩, meas_down j⟩
        rw [HST.out, if_neg (by rw [HBJ.out]; decide)]
        exact HA2.out
      · rw [hbj] at hbq
        have HBJ := Aside0.mk hbj
        clear hbj
        go_wp2_with (first | (refine step_storeG (mulE q q) HA1.out info27 rfl rfl rfl rfl rfl ?_; intro w2 hs hr; have HS2 := Aside0.mk hs; have HA2 := Aside0.mk hr; have HR2 := Aside0.mk (HR1.out.stored hs (by omega)); have hee := HE1.out.stored hs (by omega); have HE2 := Aside0.mk hee; have k8 := hee.cell (j / 8) (by omega); clear hs hr hee) | refine step_load HA2.out Try.underlying27 info27 rfl rfl rfl rfl ?_ | refine step_load HR2.out Try.underlying27 info27 rfl rfl rfl rfl ?_)
        refine (elem_mul_calls _ _ _ HSQ.out HF.out).mono ?_
        rintro e' w4 ⟨rfl, hb⟩
        have HB2 := Aside0.mk (HS2.out.bel _ _ (by omega) HB1.out)
        have HR4 := Aside0.mk (HR2.out.below hb HR2.out.lt)
        have HZ4 := Aside0.mk ((HZ1.out.stored HS2.out (by omega)).below hb (HZ1.out.stored HS2.out (by omega)).lt)
        have HA4 := Aside0.mk (HA2.out.below hb HA2.out.lt)
        have HE4 := Aside0.mk (HE2.out.below hb HE2.out.lt)
        have HB4 := Aside0.mk (HB2.out.trans (hb.mono HB2.out.size))
        clear hb
        go_wp2_with (refine step_storeG (mulE (mulE q q) f) HA4.out info27 rfl rfl rfl rfl rfl ?_; intro w5 hs hr; have HS5 := Aside0.mk hs; have HA5 := Aside0.mk hr; clear hs hr)
        refine ⟨⟨j, by omega, rfl, HS5.out.bel _ _ (by omega) HB4.out, HR4.out.stored HS5.out (by omega), HZ4.out.stored HS5.out (by omega), ?_, HE4.out.stored HS5.out (by omega)⟩, meas_down j⟩
        rw [HST.out, if_pos HBJ.out]
        exact HA5.out
def pow_refRel (w : World) (f e : Nat → Int) (ba : Nat) (v6 : Value) (wr : World) : Prop :=
  ∃ i : Nat, i ≤ 256 ∧ v6 = .int .i64 ((i : Int) - 1) ∧ Below w.heap.size w wr ∧ Row wr w.heap.size .i64 16 f 33 ∧ Row wr (w.heap.size + 1) .i64 16 (fun _ => 0) 33 ∧ Row wr ba .i64 16 (powR f e (256 - i)) 33
theorem pow_ref (f e : Nat → Int) (w : World) (hf : Rn f) (he : By e) :
    Calls Try.prog 29 #[.agg (FR .i64 16 f), .string (sOf e)] w fun e' w' => e' = .returned (.agg (FR .i64 16 (powR f e 256))) ∧ Below w.heap.size w w' := by
  have HF := Aside0.mk hf
  have HE := Aside0.mk he
  have HI : Aside0 (∀ s, Rn (powR f e s)) := ⟨fun s => (Re.pow ⟨hf, rfl⟩ e s).1⟩
  clear hf he
  go_enter Try.func29, Try.ntmps29
  have HB0 := Aside0.mk (bel_two w (.cells (FR .i64 16 f) 33) (.cells (FR .i64 16 fun _ => 0) 33))
  have HR0 : Aside0 (Row ((w.alloc (.cells (FR .i64 16 f) 33)).alloc (.cells (FR .i64 16 fun _ => 0) 33)) w.heap.size .i64 16 f 33) := ⟨(Row.new w .i64 16 f 33).alloc _⟩
  have HZ0 : Aside0 (Row ((w.alloc (.cells (FR .i64 16 f) 33)).alloc (.cells (FR .i64 16 fun _ => 0) 33)) (w.heap.size + 1) .i64 16 (fun _ => 0) 33) := ⟨heap_alloc2_new w _ _⟩
  go_wp2_with fail
  refine (small_ref_calls 1 _ (by omega)).mono ?_
  rintro e' w1 ⟨rfl, hb⟩
  have HR1 := Aside0.mk (HR0.out.below hb HR0.out.lt)
  have HZ1 := Aside0.mk (HZ0.out.below hb HZ0.out.lt)
  have HB1 := Aside0.mk (HB0.out.trans (hb.mono HB0.out.size))
  have hl1 := HZ1.out.lt
  have hl0 := HR1.out.lt
  clear hb HR0 HZ0 HB0
  have HN := Aside0.mk (Row.new w1 .i64 16 (fun _ => 0) 33)
  have HR2 := Aside0.mk (HR1.out.alloc (.cells (FR .i64 16 fun _ => 0) 33))
  have HZ2 := Aside0.mk (HZ1.out.alloc (.cells (FR .i64 16 fun _ => 0) 33))
  have HB2 := Aside0.mk (HB1.out.alloc (by omega) (.cells (FR .i64 16 fun _ => 0) 33))
  clear HR1 HZ1 HB1
  go_wp2_with (refine step_storeG (carryN (fun i => if i = 0 then 1 else 0) 16) HN.out info33 rfl rfl rfl rfl rfl ?_; intro w3 hs hr; have HS3 := Aside0.mk hs; have HA3 := Aside0.mk hr; clear hs hr)
  have HR3 := Aside0.mk (HR2.out.stored HS3.out (by omega))
  have HZ3 := Aside0.mk (HZ2.out.stored HS3.out (by omega))
  have HB3 := Aside0.mk (HS3.out.bel _ _ (by omega) HB2.out)
  clear HN HR2 HZ2 HB2 HS3
  generalize w1.heap.size = ba at *
  go_loopw [6] (fun v6 wr => pow_refRel w f e ba v6 wr) (fun v _ => (intOf v + 1).toNat)
  case atStart => exact ⟨256, by omega, rfl, HB3.out, HR3.out, HZ3.out, HA3.out⟩
  case round =>
    clear HR3 HZ3 HB3 HA3
    obtain ⟨i, hi, rfl, hb, hr, hz, ha⟩ := hrel
    have HB := Aside0.mk hb
    have HR := Aside0.mk hr
    have HZ := Aside0.mk hz
    have HA := Aside0.mk ha
    have hlr := hr.lt
    have hlz := hz.lt
    have hla := ha.lt
    clear hb hr hz ha
    rcases Nat.eq_zero_or_pos i with h0 | h0
    · subst h0
      go_wp2_with (first | refine step_load HA.out Try.underlying33 info33 rfl rfl rfl rfl ?_ | (refine step_storeG (powR f e 256) HZ.out info33 rfl rfl rfl rfl rfl ?_; intro w9 hs hr; have HS9 := Aside0.mk hs; have HR9 := Aside0.mk hr; clear hs hr))
      refine bodyPost_ret (row_results rfl HR9.out rfl Try.underlying33 rfl info33) rfl ?_
      exact ⟨rfl, HS9.out.bel _ _ (by omega) HB.out⟩
    · obtain ⟨j, rfl⟩ : ∃ j, i = j + 1 := ⟨i - 1, by omega⟩
      have e1 : ((j + 1 : Nat) : Int) - 1 = (j : Int) := by omega
      rw [e1]
      have hge : ((j : Int) ≥ 0) = True := eq_true (by omega)
      have HST : Aside0 (powR f e (256 - j) = if bitB e j then mulR (mulR (powR f e (256 - (j + 1))) (powR f e (256 - (j + 1)))) f else mulR (powR f e (256 - (j + 1))) (powR f e (256 - (j + 1)))) := ⟨by
        have es : 256 - j = (256 - (j + 1)) + 1 := by omega
        rw [es]
        show (if bitB e (255 - (256 - (j + 1))) then _ else _) = _
        rw [show 255 - (256 - (j + 1)) = j by omega]⟩
      have HP := Aside0.mk (HI.out (256 - (j + 1)))
      generalize powR f e (256 - (j + 1)) = q at *
      go_wp2_with (refine step_load HA.out Try.underlying33 info33 rfl rfl rfl rfl ?_)
      refine (mulR_c q q _ HP.out HP.out).mono ?_
      rintro e' w1 ⟨rfl, hb⟩
      have HR1 := Aside0.mk (HR.out.below hb hlr)
      have HZ1 := Aside0.mk (HZ.out.below hb hlz)
      have HA1 := Aside0.mk (HA.out.below hb hla)
      have HB1 := Aside0.mk (HB.out.trans (hb.mono HB.out.size))
      clear hb
      have d8 : Int.tdiv (j : Int) 8 = ((j / 8 : Nat) : Int) := rfl
      have r8 : Int.tmod (j : Int) 8 = ((j % 8 : Nat) : Int) := rfl
      have hba := bit_and e j (HE.out (j / 8) (by omega))
      have hbq : (e (j / 8) / 2 ^ (j % 8) % 2 == 1) = bitB e j := rfl
      have l8 : (((j / 8 : Nat) : Int) < 32) = True := eq_true (by omega)
      have hsz := sOf_size e
      obtain ⟨c, hc1, hc2⟩ := sB_at (sOf e) (j / 8) (by omega)
      rw [sB_sOf e HE.out (j / 8) (by omega)] at hc2
      have l9 : ((j : Int) / 8 < ((sOf e).size : Int)) = True := eq_true (by omega)
      have l10 : (0 ≤ (j : Int) / 8) = True := eq_true (by omega)
      have l11 : ((j : Int) / 8).toNat = j / 8 := by omega
      have l12 : IntKind.u64.wrap ((j : Int) % 8) = (j : Int) % 8 := u64w _ (by omega) (by omega)
      have l13 : ((j : Int) % 8).toNat = j % 8 := by omega
      rw [← hc2] at hba hbq
      clear hsz hc2
      have HSQ : Aside0 (Rn (mulR q q)) := ⟨(Re.mul ⟨HP.out, rfl⟩ ⟨HP.out, rfl⟩).1⟩
      cases hbj : bitB e j
      · rw [hbj] at hbq
        have HBJ := Aside0.mk hbj
        clear hbj
        go_wp2_with (refine step_storeG (mulR q q) HA1.out info33 rfl rfl rfl rfl rfl ?_; intro w2 hs hr; have HS2 := Aside0.mk hs; have HA2 := Aside0.mk hr; have HR2 := Aside0.mk (HR1.out.stored hs (by omega)); clear hs hr)
        refine ⟨⟨j, by omega, rfl, HS2.out.bel _ _ (by omega) HB1.out, HR2.out, HZ1.out.stored HS2.out (by omega), ?_⟩, meas_down j⟩
        rw [HST.out, if_neg (by rw [HBJ.out]; decide)]
        exact HA2.out
      · rw [hbj] at hbq
        have HBJ := Aside0.mk hbj
        clear hbj
        go_wp2_with (first | (refine step_storeG (mulR q q) HA1.out info33 rfl rfl rfl rfl rfl ?_; intro w2 hs hr; have HS2 := Aside0.mk hs; have HA2 := Aside0.mk hr; have HR2 := Aside0.mk (HR1.out.stored hs (by omega)); clear hs hr) | refine step_load HA2.out Try.underlying33 info33 rfl rfl rfl rfl ?_ | refine step_load HR2.out Try.underlying33 info33 rfl rfl rfl rfl ?_)
        refine (mulR_c _ _ _ HSQ.out HF.out).mono ?_
        rintro e' w4 ⟨rfl, hb⟩
        have HB2 := Aside0.mk (HS2.out.bel _ _ (by omega) HB1.out)
        have HR4 := Aside0.mk (HR2.out.below hb HR2.out.lt)
        have HZ4 := Aside0.mk ((HZ1.out.stored HS2.out (by omega)).below hb (HZ1.out.stored HS2.out (by omega)).lt)
        have HA4 := Aside0.mk (HA2.out.below hb HA2.out.lt)
        have HB4 := Aside0.mk (HB2.out.trans (hb.mono HB2.out.size))
        clear hb
        go_wp2_with (refine step_storeG (mulR (mulR q q) f) HA4.out info33 rfl rfl rfl rfl rfl ?_; intro w5 hs hr; have HS5 := Aside0.mk hs; have HA5 := Aside0.mk hr; clear hs hr)
        refine ⟨⟨j, by omega, rfl, HS5.out.bel _ _ (by omega) HB4.out, HR4.out.stored HS5.out (by omega), HZ4.out.stored HS5.out (by omega), ?_⟩, meas_down j⟩
        rw [HST.out, if_pos HBJ.out]
        exact HA5.out
end
section
set_option linter.unusedVariables false
set_option linter.unusedSimpArgs false
open Go.RowKit
attribute [local go_sem] setCell_drewN
/-- The bytes of 2 to a power, less k. -/
def exB (p : Nat) (k : Int) : Nat → Int := upd (onesB p) 0 ((onesB p 0 - (k - 1)) % 256)
def ERel (w : World) (v8 : Value) (p : Nat) (wr : World) : Prop :=
  ∃ i : Nat, i ≤ p ∧ v8 = .int .i64 (i : Int) ∧ Below w.heap.size w wr ∧ Row wr w.heap.size .u8 32 (fun _ => 0) 22 ∧ Row wr (w.heap.size + 1) .u8 32 (onesB i) 22
theorem onesB_zero (j : Nat) : (fun _ : Nat => (0 : Int)) j = onesB 0 j := by
  unfold onesB; rw [show min 8 (0 - 8 * j) = 0 by omega]; rfl
theorem pow8m (r : Nat) (h : r < 8) : (2 : Int) ^ r % 256 = 2 ^ r := by
  have hc : r = 0 ∨ r = 1 ∨ r = 2 ∨ r = 3 ∨ r = 4 ∨ r = 5 ∨ r = 6 ∨ r = 7 := by omega
  rcases hc with h | h | h | h | h | h | h | h <;> subst h <;> decide
theorem u8wm (z : Int) : IntKind.u8.wrap z = z % 256 := rfl
theorem exponent_calls (p : Nat) (k : Int) (w : World) (hp : p ≤ 255) (hk : 1 ≤ k ∧ k < 256) :
    Calls Try.prog 42 #[.int .i64 (p : Int), .int .u8 k] w fun e w' => e = .returned (.agg (FR .u8 32 (exB p k))) ∧ Below w.heap.size w w' := by
  go_enter Try.func42, Try.ntmps42
  have HB0 := Aside0.mk (bel_two w (.cells (FR .u8 32 fun _ => 0) 22) (.cells (FR .u8 32 fun _ => 0) 22))
  have HZ0 : Aside0 (Row ((w.alloc (.cells (FR .u8 32 fun _ => 0) 22)).alloc (.cells (FR .u8 32 fun _ => 0) 22)) w.heap.size .u8 32 (fun _ => 0) 22) := ⟨(Row.new w .u8 32 (fun _ => 0) 22).alloc _⟩
  have HE0 : Aside0 (Row ((w.alloc (.cells (FR .u8 32 fun _ => 0) 22)).alloc (.cells (FR .u8 32 fun _ => 0) 22)) (w.heap.size + 1) .u8 32 (fun _ => 0) 22) := ⟨heap_alloc2_new w _ _⟩
  go_wp2_with fail
  go_loopw [8] (fun v8 wr => ERel w v8 p wr) (fun v _ => p - (intOf v).toNat)
  case atStart => exact ⟨0, by omega, rfl, HB0.out, HZ0.out, row_eq HE0.out (fun j _ => onesB_zero j)⟩
  case round =>
    clear HB0 HE0 HZ0
    obtain ⟨i, hi, rfl, hb, hz, he⟩ := hrel
    have HB := Aside0.mk hb
    have HZ := Aside0.mk hz
    have hlz := hz.lt
    have HE := Aside0.mk he
    have hle := he.lt
    rcases Nat.lt_or_ge i p with h5 | h5
    · have hlt : ((i : Int) < (p : Int)) = True := eq_true (by omega)
      have d8 : Int.tdiv (i : Int) 8 = ((i / 8 : Nat) : Int) := rfl
      have r8 : Int.tmod (i : Int) 8 = ((i % 8 : Nat) : Int) := rfl
      have l8 : (((i / 8 : Nat) : Int) < 32) = True := eq_true (by omega)
      have l9 : ((i : Int) / 8 < 32) = True := eq_true (by omega)
      have l10 : (0 ≤ (i : Int) / 8) = True := eq_true (by omega)
      have l11 : ((i : Int) / 8).toNat = i / 8 := by omega
      have l12 : IntKind.u64.wrap ((i : Int) % 8) = (i : Int) % 8 := u64w _ (by omega) (by omega)
      have l13 : ((i : Int) % 8).toNat = i % 8 := by omega
      have k8 := he.cell (i / 8) (by omega)
      have f8 := he.fro (i / 8)
      have hor := ones_or i
      have hpm := pow8m (i % 8) (by omega)
      have HS := Aside0.mk (row_eq (he.set (i / 8) (onesB i (i / 8) + 2 ^ (i % 8)) (by omega)) (f' := onesB (i + 1)) (fun j hj => (onesB_step i j).symm))
      have HK := Aside0.mk hk
      clear hb hz he hk
      go_wp2_with fail
      go_region
      all_goals go_wp2_with fail
      refine ⟨⟨i + 1, by omega, rfl, (bel_set HB.out ⟨(w.heap.size + 1), i / 8, none⟩ _ (by simp)).drew, HZ.out.other ⟨w.heap.size + 1, i / 8, none⟩ _ (by simp), HS.out⟩, meas_up p i h5⟩
    · obtain rfl : i = p := by omega
      have k0 := he.cell 0 (by omega)
      have f0 := he.fro 0
      have hob := onesB_b i 0
      have q1 : IntKind.u8.wrap (k - 1) = k - 1 := by rw [u8wm]; omega
      have q1m : (k - 1) % 256 = k - 1 := by omega
      have q2 : IntKind.u8.wrap (onesB i 0 - (k - 1)) = (onesB i 0 - (k - 1)) % 256 := rfl
      have q3 : IntKind.i64.wrap (k - 1) = k - 1 := i64w _ (by omega)
      have q4 : wrap64 (k - 1) = k - 1 := w64 _ (by omega)
      have HS : Aside0 (Row (wr.setCell ⟨(w.heap.size + 1), 0, none⟩ (.int .u8 ((onesB i 0 - (k - 1)) % 256))) (w.heap.size + 1) .u8 32 (exB i k) 22) := ⟨he.set 0 _ (by omega)⟩
      have HBS := Aside0.mk (bel_set HB.out ⟨(w.heap.size + 1), 0, none⟩ (.int .u8 ((onesB i 0 - (k - 1)) % 256)) (by simp))
      have HZS := Aside0.mk (HZ.out.other ⟨w.heap.size + 1, 0, none⟩ (.int .u8 ((onesB i 0 - (k - 1)) % 256)) (by simp))
      clear hb hz he hob hk
      go_wp2_with (first | refine step_load HS.out Try.underlying22 info22 rfl rfl rfl rfl ?_ | (refine step_storeG (exB i k) HZS.out info22 rfl rfl rfl rfl rfl ?_; intro w9 hs hr; have HS9 := Aside0.mk hs; have HR9 := Aside0.mk hr; clear hs hr))
      refine bodyPost_ret (row_results rfl HR9.out rfl Try.underlying22 rfl info22) rfl ?_
      exact ⟨rfl, HS9.out.bel _ _ (by omega) HBS.out⟩
def ERelR (w : World) (v8 : Value) (p : Nat) (wr : World) : Prop :=
  ∃ i : Nat, i ≤ p ∧ v8 = .int .i64 (i : Int) ∧ Below w.heap.size w wr ∧ Row wr w.heap.size .u8 32 (onesB i) 22
theorem Exponent_calls (p : Nat) (k : Int) (w : World) (hp : p ≤ 255) (hk : 1 ≤ k ∧ k < 256) :
    Calls Try.prog 43 #[.int .i64 (p : Int), .int .i64 k] w fun e w' => e = .returned (.string (sOf (exB p k))) ∧ Below w.heap.size w w' := by
  go_enter Try.func43, Try.ntmps43
  have HB0 := Aside0.mk ((Below.refl w.heap.size w).alloc (Nat.le_refl _) (.cells (FR .u8 32 fun _ => 0) 22))
  have HE0 := Aside0.mk (Row.new w .u8 32 (fun _ => 0) 22)
  go_wp2_with fail
  go_loopw [6] (fun v8 wr => ERelR w v8 p wr) (fun v _ => p - (intOf v).toNat)
  case atStart => exact ⟨0, by omega, rfl, HB0.out, row_eq HE0.out (fun j _ => onesB_zero j)⟩
  case round =>
    clear HB0 HE0
    obtain ⟨i, hi, rfl, hb, he⟩ := hrel
    have HB := Aside0.mk hb
    have HE := Aside0.mk he
    have hle := he.lt
    rcases Nat.lt_or_ge i p with h5 | h5
    · have hlt : ((i : Int) < (p : Int)) = True := eq_true (by omega)
      have d8 : Int.tdiv (i : Int) 8 = ((i / 8 : Nat) : Int) := rfl
      have r8 : Int.tmod (i : Int) 8 = ((i % 8 : Nat) : Int) := rfl
      have l8 : (((i / 8 : Nat) : Int) < 32) = True := eq_true (by omega)
      have l9 : ((i : Int) / 8 < 32) = True := eq_true (by omega)
      have l10 : (0 ≤ (i : Int) / 8) = True := eq_true (by omega)
      have l11 : ((i : Int) / 8).toNat = i / 8 := by omega
      have l12 : IntKind.u64.wrap ((i : Int) % 8) = (i : Int) % 8 := u64w _ (by omega) (by omega)
      have l13 : ((i : Int) % 8).toNat = i % 8 := by omega
      have k8 := he.cell (i / 8) (by omega)
      have f8 := he.fro (i / 8)
      have hor := ones_or i
      have hpm := pow8m (i % 8) (by omega)
      have HS := Aside0.mk (row_eq (he.set (i / 8) (onesB i (i / 8) + 2 ^ (i % 8)) (by omega)) (f' := onesB (i + 1)) (fun j hj => (onesB_step i j).symm))
      have HK := Aside0.mk hk
      clear hb he hk
      go_wp2_with fail
      refine ⟨⟨i + 1, by omega, rfl, bel_set HB.out ⟨w.heap.size, i / 8, none⟩ _ (by simp), HS.out⟩, meas_up p i h5⟩
    · obtain rfl : i = p := by omega
      have k0 := he.cell 0 (by omega)
      have f0 := he.fro 0
      have hob := onesB_b i 0
      have q1 : IntKind.u8.wrap (k - 1) = k - 1 := by rw [u8wm]; omega
      have q1m : (k - 1) % 256 = k - 1 := by omega
      have q2 : IntKind.u8.wrap (onesB i 0 - (k - 1)) = (onesB i 0 - (k - 1)) % 256 := rfl
      have q3 : IntKind.i64.wrap (k - 1) = k - 1 := i64w _ (by omega)
      have q4 : wrap64 (k - 1) = k - 1 := w64 _ (by omega)
      have HS : Aside0 (Row (wr.setCell ⟨w.heap.size, 0, none⟩ (.int .u8 ((onesB i 0 - (k - 1)) % 256))) w.heap.size .u8 32 (exB i k) 22) := ⟨he.set 0 _ (by omega)⟩
      have HBS := Aside0.mk (bel_set HB.out ⟨w.heap.size, 0, none⟩ (.int .u8 ((onesB i 0 - (k - 1)) % 256)) (by simp))
      have hcv := conv_row HS.out
      clear hb he hob hk
      go_wp2_with fail
      go_ret
      exact ⟨rfl, HBS.out⟩
end
section
set_option linter.unusedVariables false
set_option linter.unusedSimpArgs false
open Go.RowKit Go.Proofs.YthonoagpiofojaaW.PrintWords Go.Proofs.YthonoagpiofojaaW.PrintLast Go.Proofs.YthonoagpiofojaaW.PrintMore
attribute [local go_sem] setCell_drewN
theorem exB_By (p : Nat) (k : Int) : By (exB p k) := fun j hj => by
  have := onesB_b p j
  unfold exB upd
  split <;> omega
def invE (f : Nat → Int) : Nat → Int := powE f (exB 255 21) 256
def invR (g : Nat → Int) : Nat → Int := powR g (exB 255 21) 256
theorem tab3001 : rtab .any (opsOf Try.f30 1) = (true, [([], []), ([], []), ([0, 1, 1], [0, 1]), ([2, 2, 0, 1, 2], [2])]) := by kernel_rfl
theorem bits3001 : waitsOk [([], []), ([], []), ([0, 1, 1], [0, 1]), ([2, 2, 0, 1, 2], [2])] [0, 0, 3, 7] = true := by kernel_rfl
theorem invE_calls (f : Nat → Int) (w : World) (hf : Lm f) :
    Calls Try.prog 30 #[.agg (FR .u64 5 f)] w fun e w' => e = .returned (.agg (FR .u64 5 (invE f))) ∧ Below w.heap.size w w' := by
  have HF := Aside0.mk hf
  clear hf
  go_enter Try.func30, Try.ntmps30
  go_wp2_with fail
  have hh : Row (((w.alloc (.cells (FR .u64 5 f) 27)).alloc (.cells #[.int .u64 0, .int .u64 0, .int .u64 0, .int .u64 0, .int .u64 0] 27)).drew) w.heap.size .u64 5 f 27 := (Row.new w .u64 5 f 27).alloc _
  have HZd : Aside0 (Row (((w.alloc (.cells (FR .u64 5 f) 27)).alloc (.cells #[.int .u64 0, .int .u64 0, .int .u64 0, .int .u64 0, .int .u64 0] 27)).drew) (w.heap.size + 1) .u64 5 (fun _ => 0) 27) := ⟨heap_alloc2_new w _ _⟩
  have HBd := Aside0.mk ((bel_two w (.cells (FR .u64 5 f) 27) (.cells #[.int .u64 0, .int .u64 0, .int .u64 0, .int .u64 0, .int .u64 0] 27)).drew)
  refine start_ (n := 4) (S := (fun w' => Row w' w.heap.size .u64 5 f 27)) (ds := [3]) #[false, false, false, false] (by kernel_rfl) rfl rfl hh (fun hHeld => ?_); refine with_tabW tab3001 bits3001 (fun HT_ HW_ => ?_)
  generalize ((w.alloc (.cells (FR .u64 5 f) 27)).alloc (.cells #[.int .u64 0, .int .u64 0, .int .u64 0, .int .u64 0, .int .u64 0] 27)).drew = w6 at HBd hHeld hh HZd ⊢
  clear hh
  refine take_ (i := 0) (N := some 3) (v := ?_) (a' := ?_) #[true, false, false, false] rfl rfl (take_ofW HT_.out HW_.out (by kernel_rfl)) (fun _ _ _ h => h) (Or.inl ⟨by rfl, ?_⟩) hHeld ?_ ?_
  rotate_left
  · intro w' hsw
    refine exec_load (x := .tmp 1) hsw Try.underlying27 info27 rfl ?_ ?_ <;> rfl
  rotate_left
  · simp only [Act.put, List.setIfInBounds_toArray, List.set_cons_zero, List.set_cons_succ, i64_w, i32_w]
    rfl
  refine one_ (i := 1) (N := some 4) #[true, true, false, false] rfl rfl (one_of HT_.out (by kernel_rfl)) (by decide) (fun K hK => ?_)
  refine goes_ Try.func42 rfl rfl #[.int .i64 255, .int .u8 21] rfl rfl rfl (by simp only [List.map_toArray, List.map_cons, List.map_nil]; rfl) ((exponent_calls 255 21 _ (by omega) (by omega)).mono ?_)
  rintro e wc1 ⟨rfl, hb⟩
  have hSn : Row wc1 w.heap.size .u64 5 f 27 := hHeld.below hb hHeld.lt
  have HBc1 := Aside0.mk (HBd.out.trans (hb.mono HBd.out.size))
  have HZc1 := Aside0.mk (HZd.out.below hb HZd.out.lt)
  clear hb
  refine ⟨_, rfl, hK.out _ _ hSn (fun hHeld => ?_)⟩
  clear hSn
  clear hK K
  refine norm_ (a' := ?_) ?_ ?_
  rotate_left
  · show Act.put _ (some 4) _ = _
    simp only [Act.put, List.setIfInBounds_toArray, List.set_cons_zero, List.set_cons_succ, i64_w, i32_w]
    rfl
  refine one_ (i := 2) (N := some 5) #[true, true, true, false] rfl rfl (one_of HT_.out (by kernel_rfl)) (by decide) (fun K hK => ?_)
  refine goes_ Try.func28 rfl rfl #[.agg (FR .u64 5 f), .agg (FR .u8 32 (exB 255 21))] rfl rfl rfl (by simp only [List.map_toArray, List.map_cons, List.map_nil]; rfl) ((pow_elem f (exB 255 21) _ HF.out (exB_By _ _)).mono ?_)
  rintro e wc2 ⟨rfl, hb⟩
  have hSn : Row wc2 w.heap.size .u64 5 f 27 := hHeld.below hb hHeld.lt
  have HBc2 := Aside0.mk (HBc1.out.trans (hb.mono HBc1.out.size))
  have HZc2 := Aside0.mk (HZc1.out.below hb HZc1.out.lt)
  clear hb
  refine ⟨_, rfl, hK.out _ _ hSn (fun hHeld => ?_)⟩
  clear hSn
  clear hK K
  refine norm_ (a' := ?_) ?_ ?_
  rotate_left
  · show Act.put _ (some 5) _ = _
    simp only [Act.put, List.setIfInBounds_toArray, List.set_cons_zero, List.set_cons_succ, i64_w, i32_w]
    rfl
  refine last_ (i := 3) (N := none) #[true, true, true, true] rfl rfl (one_of HT_.out (by kernel_rfl)) (by decide) (fun K hK => ?_)
  refine oper_storeG (invE f) HZc2.out info27 rfl rfl rfl rfl rfl ?_
  intro wk hs hr
  have HRk := Aside0.mk hr
  have HBk := Aside0.mk (hs.bel _ _ (by omega) HBc2.out)
  clear hs hr
  refine hK.out _ _ ?_
  clear hK K
  refine done_ (done_of HT_.out (by kernel_rfl)) ?_
  try go_wp2
  refine bodyPost_ret (row_results rfl HRk.out rfl Try.underlying27 rfl info27) rfl ?_
  exact ⟨rfl, HBk.out⟩
theorem tab3101 : rtab .any (opsOf Try.f31 1) = (true, [([], []), ([], []), ([0, 1, 1], [0, 1]), ([2, 2, 0, 1, 2], [2])]) := by kernel_rfl
theorem bits3101 : waitsOk [([], []), ([], []), ([0, 1, 1], [0, 1]), ([2, 2, 0, 1, 2], [2])] [0, 0, 3, 7] = true := by kernel_rfl
theorem invR_calls (f : Nat → Int) (w : World) (hf : Rn f) :
    Calls Try.prog 31 #[.agg (FR .i64 16 f)] w fun e w' => e = .returned (.agg (FR .i64 16 (invR f))) ∧ Below w.heap.size w w' := by
  have HF := Aside0.mk hf
  clear hf
  go_enter Try.func31, Try.ntmps31
  go_wp2_with fail
  have hh : Row (((w.alloc (.cells (FR .i64 16 f) 33)).alloc (.cells #[.int .i64 0, .int .i64 0, .int .i64 0, .int .i64 0, .int .i64 0, .int .i64 0, .int .i64 0, .int .i64 0, .int .i64 0, .int .i64 0, .int .i64 0, .int .i64 0, .int .i64 0, .int .i64 0, .int .i64 0, .int .i64 0] 33)).drew) w.heap.size .i64 16 f 33 := (Row.new w .i64 16 f 33).alloc _
  have HZd : Aside0 (Row (((w.alloc (.cells (FR .i64 16 f) 33)).alloc (.cells #[.int .i64 0, .int .i64 0, .int .i64 0, .int .i64 0, .int .i64 0, .int .i64 0, .int .i64 0, .int .i64 0, .int .i64 0, .int .i64 0, .int .i64 0, .int .i64 0, .int .i64 0, .int .i64 0, .int .i64 0, .int .i64 0] 33)).drew) (w.heap.size + 1) .i64 16 (fun _ => 0) 33) := ⟨heap_alloc2_new w _ _⟩
  have HBd := Aside0.mk ((bel_two w (.cells (FR .i64 16 f) 33) (.cells #[.int .i64 0, .int .i64 0, .int .i64 0, .int .i64 0, .int .i64 0, .int .i64 0, .int .i64 0, .int .i64 0, .int .i64 0, .int .i64 0, .int .i64 0, .int .i64 0, .int .i64 0, .int .i64 0, .int .i64 0, .int .i64 0] 33)).drew)
  refine start_ (n := 4) (S := (fun w' => Row w' w.heap.size .i64 16 f 33)) (ds := [3]) #[false, false, false, false] (by kernel_rfl) rfl rfl hh (fun hHeld => ?_); refine with_tabW tab3101 bits3101 (fun HT_ HW_ => ?_)
  generalize ((w.alloc (.cells (FR .i64 16 f) 33)).alloc (.cells #[.int .i64 0, .int .i64 0, .int .i64 0, .int .i64 0, .int .i64 0, .int .i64 0, .int .i64 0, .int .i64 0, .int .i64 0, .int .i64 0, .int .i64 0, .int .i64 0, .int .i64 0, .int .i64 0, .int .i64 0, .int .i64 0] 33)).drew = w6 at HBd hHeld hh HZd ⊢
  clear hh
  refine take_ (i := 0) (N := some 3) (v := ?_) (a' := ?_) #[true, false, false, false] rfl rfl (take_ofW HT_.out HW_.out (by kernel_rfl)) (fun _ _ _ h => h) (Or.inl ⟨by rfl, ?_⟩) hHeld ?_ ?_
  rotate_left
  · intro w' hsw
    refine exec_load (x := .tmp 1) hsw Try.underlying33 info33 rfl ?_ ?_ <;> rfl
  rotate_left
  · simp only [Act.put, List.setIfInBounds_toArray, List.set_cons_zero, List.set_cons_succ, i64_w, i32_w]
    rfl
  refine one_ (i := 1) (N := some 4) #[true, true, false, false] rfl rfl (one_of HT_.out (by kernel_rfl)) (by decide) (fun K hK => ?_)
  refine goes_ Try.func43 rfl rfl #[.int .i64 255, .int .i64 21] rfl rfl rfl (by simp only [List.map_toArray, List.map_cons, List.map_nil]; rfl) ((Exponent_calls 255 21 _ (by omega) (by omega)).mono ?_)
  rintro e wc1 ⟨rfl, hb⟩
  have hSn : Row wc1 w.heap.size .i64 16 f 33 := hHeld.below hb hHeld.lt
  have HBc1 := Aside0.mk (HBd.out.trans (hb.mono HBd.out.size))
  have HZc1 := Aside0.mk (HZd.out.below hb HZd.out.lt)
  clear hb
  refine ⟨_, rfl, hK.out _ _ hSn (fun hHeld => ?_)⟩
  clear hSn
  clear hK K
  refine norm_ (a' := ?_) ?_ ?_
  rotate_left
  · show Act.put _ (some 4) _ = _
    simp only [Act.put, List.setIfInBounds_toArray, List.set_cons_zero, List.set_cons_succ, i64_w, i32_w]
    rfl
  refine one_ (i := 2) (N := some 5) #[true, true, true, false] rfl rfl (one_of HT_.out (by kernel_rfl)) (by decide) (fun K hK => ?_)
  refine goes_ Try.func29 rfl rfl #[.agg (FR .i64 16 f), .string (sOf (exB 255 21))] rfl rfl rfl (by simp only [List.map_toArray, List.map_cons, List.map_nil]; rfl) ((pow_ref f (exB 255 21) _ HF.out (exB_By _ _)).mono ?_)
  rintro e wc2 ⟨rfl, hb⟩
  have hSn : Row wc2 w.heap.size .i64 16 f 33 := hHeld.below hb hHeld.lt
  have HBc2 := Aside0.mk (HBc1.out.trans (hb.mono HBc1.out.size))
  have HZc2 := Aside0.mk (HZc1.out.below hb HZc1.out.lt)
  clear hb
  refine ⟨_, rfl, hK.out _ _ hSn (fun hHeld => ?_)⟩
  clear hSn
  clear hK K
  refine norm_ (a' := ?_) ?_ ?_
  rotate_left
  · show Act.put _ (some 5) _ = _
    simp only [Act.put, List.setIfInBounds_toArray, List.set_cons_zero, List.set_cons_succ, i64_w, i32_w]
    rfl
  refine last_ (i := 3) (N := none) #[true, true, true, true] rfl rfl (one_of HT_.out (by kernel_rfl)) (by decide) (fun K hK => ?_)
  refine oper_storeG (invR f) HZc2.out info33 rfl rfl rfl rfl rfl ?_
  intro wk hs hr
  have HRk := Aside0.mk hr
  have HBk := Aside0.mk (hs.bel _ _ (by omega) HBc2.out)
  clear hs hr
  refine hK.out _ _ ?_
  clear hK K
  refine done_ (done_of HT_.out (by kernel_rfl)) ?_
  try go_wp2
  refine bodyPost_ret (row_results rfl HRk.out rfl Try.underlying33 rfl info33) rfl ?_
  exact ⟨rfl, HBk.out⟩
theorem tab804 : rtab .any (opsOf Try.f8 4) = (true, [([], []), ([], []), ([0, 1], [0, 1]), ([], []), ([3, 2], [3]), ([], []), ([5], [5]), ([4, 6, 4], [4, 6]), ([2, 7, 7], [2, 7]), ([8, 8], [8]), ([9], [9]), ([10, 9, 9], [9, 10]), ([9], [9]), ([12, 11, 9], [9, 12]), ([13, 13, 9], [9, 13]), ([11, 14, 14, 9], [9, 11, 14]), ([9, 15], [9, 15]), ([16, 15, 0, 1, 2, 3, 4, 5, 6, 7, 8, 9, 10, 11, 12, 13, 14, 15, 16], [16])]) := by kernel_rfl
theorem bits804 : waitsOk [([], []), ([], []), ([0, 1], [0, 1]), ([], []), ([3, 2], [3]), ([], []), ([5], [5]), ([4, 6, 4], [4, 6]), ([2, 7, 7], [2, 7]), ([8, 8], [8]), ([9], [9]), ([10, 9, 9], [9, 10]), ([9], [9]), ([12, 11, 9], [9, 12]), ([13, 13, 9], [9, 13]), ([11, 14, 14, 9], [9, 11, 14]), ([9, 15], [9, 15]), ([16, 15, 0, 1, 2, 3, 4, 5, 6, 7, 8, 9, 10, 11, 12, 13, 14, 15, 16], [16])] [0, 0, 3, 0, 15, 0, 32, 127, 255, 511, 1023, 2047, 1023, 8191, 16383, 32767, 65535, 131071] = true := by kernel_rfl
theorem FieldPowers_walk (a0 a1 : Nat → Int) (w : World) (w0 : ∀ i, i < 32 → (Lit.int .u8 (a0 i)).wf = true) (w1 : ∀ i, i < 32 → (Lit.int .u8 (a1 i)).wf = true) :
    Calls Try.prog 8 #[.agg (FR .u8 32 a0), .agg (FR .u8 32 a1)] w fun e w' => e = .returned (.bool true) ∧ Below w.heap.size w w' := by
  have HA : Aside0 (By a0) := ⟨fun j hj => u8b (w0 j hj)⟩
  have HA1 : Aside0 (By a1) := ⟨fun j hj => u8b (w1 j hj)⟩
  clear w0 w1
  go_enter Try.func8, Try.ntmps8
  have HR0 : Aside0 (Row ((w.alloc (.cells (FR .u8 32 a0) 22)).alloc (.cells (FR .u8 32 a1) 22)) w.heap.size .u8 32 a0 22) := ⟨(Row.new w .u8 32 a0 22).alloc _⟩
  have HQ0 : Aside0 (Row ((w.alloc (.cells (FR .u8 32 a0) 22)).alloc (.cells (FR .u8 32 a1) 22)) (w.heap.size + 1) .u8 32 a1 22) := ⟨heap_alloc2_new w _ _⟩
  have HB0 := Aside0.mk (bel_two w (.cells (FR .u8 32 a0) 22) (.cells (FR .u8 32 a1) 22))
  go_wp2_with fail
  refine (alive_calls _).mono ?_
  rintro e w4 ⟨rfl, hb⟩
  have HR4 := Aside0.mk (HR0.out.below hb HR0.out.lt)
  have HQ4 := Aside0.mk (HQ0.out.below hb HQ0.out.lt)
  have HB4 := Aside0.mk (HB0.out.trans (hb.mono HB0.out.size))
  clear hb HR0 HB0 HQ0
  go_wp2_with (refine step_load HR4.out Try.underlying22 info22 rfl rfl rfl rfl ?_)
  refine (Of_elem_calls a0 _ HA.out).mono ?_
  rintro e w5 ⟨rfl, hb⟩
  have HR5 := Aside0.mk (HR4.out.below hb HR4.out.lt)
  have HQ5 := Aside0.mk (HQ4.out.below hb HQ4.out.lt)
  have HB5 := Aside0.mk (HB4.out.trans (hb.mono HB4.out.size))
  have hl5 := HQ5.out.lt
  clear hb HR4 HB4 HQ4
  have HNW := Aside0.mk (Row.new w5 .u64 5 (fun _ => 0) 27)
  have HR6 := Aside0.mk (HR5.out.alloc (.cells (FR .u64 5 fun _ => 0) 27))
  have HQ6 := Aside0.mk (HQ5.out.alloc (.cells (FR .u64 5 fun _ => 0) 27))
  have HB6 := Aside0.mk (HB5.out.alloc HB5.out.size (.cells (FR .u64 5 fun _ => 0) 27))
  go_wp2_with (refine step_storeG _ HNW.out info27 rfl rfl rfl rfl rfl ?_; intro w7 hs hr; have HS7 := Aside0.mk hs; have HX7 := Aside0.mk hr; clear hs hr)
  have hg7 := HR6.out.stored HS7.out (show w.heap.size ≠ w5.heap.size by omega)
  have hq7 := HQ6.out.stored HS7.out (show w.heap.size + 1 ≠ w5.heap.size by omega)
  have hh : Row w7.drew w.heap.size .u8 32 a0 22 ∧ Row w7.drew (w.heap.size + 1) .u8 32 a1 22 ∧ Row w7.drew w5.heap.size .u64 5 (carr (ofL a0)) 27 := ⟨hg7, hq7, HX7.out⟩
  have HBd := Aside0.mk (HS7.out.bel _ _ (by omega) HB6.out).drew
  clear HR5 HB5 HQ5 HNW HR6 HQ6 HB6 hg7 hq7
  refine start_ (n := 18) (S := (fun w' => Row w' w.heap.size .u8 32 a0 22 ∧ Row w' (w.heap.size + 1) .u8 32 a1 22 ∧ Row w' w5.heap.size .u64 5 (carr (ofL a0)) 27)) (ds := []) #[false, false, false, false, false, false, false, false, false, false, false, false, false, false, false, false, false, false] (by kernel_rfl) rfl rfl hh (fun hHeld => ?_); refine with_tabW tab804 bits804 (fun HT_ HW_ => ?_)
  generalize w7.drew = w6 at HBd hHeld hh ⊢
  clear hh
  refine take_ (i := 0) (N := some 10) (v := ?_) (a' := ?_) #[true, false, false, false, false, false, false, false, false, false, false, false, false, false, false, false, false, false] rfl rfl (take_ofW HT_.out HW_.out (by kernel_rfl)) (fun _ _ _ h => h) (Or.inl ⟨by rfl, ?_⟩) hHeld ?_ ?_
  rotate_left
  · intro w' hsw
    refine exec_load (x := .tmp 5) hsw.2.2 Try.underlying27 info27 rfl ?_ ?_ <;> rfl
  rotate_left
  · simp only [Act.put, List.setIfInBounds_toArray, List.set_cons_zero, List.set_cons_succ, i64_w, i32_w]
    rfl
  refine take_ (i := 1) (N := some 11) (v := ?_) (a' := ?_) #[true, true, false, false, false, false, false, false, false, false, false, false, false, false, false, false, false, false] rfl rfl (take_ofW HT_.out HW_.out (by kernel_rfl)) (fun _ _ _ h => h) (Or.inl ⟨by rfl, ?_⟩) hHeld ?_ ?_
  rotate_left
  · intro w' hsw
    refine exec_load (x := .tmp 3) hsw.2.1 Try.underlying22 info22 rfl ?_ ?_ <;> rfl
  rotate_left
  · simp only [Act.put, List.setIfInBounds_toArray, List.set_cons_zero, List.set_cons_succ, i64_w, i32_w]
    rfl
  refine take_ (i := 3) (N := some 13) (v := ?_) (a' := ?_) #[true, true, false, true, false, false, false, false, false, false, false, false, false, false, false, false, false, false] rfl rfl (take_ofW HT_.out HW_.out (by kernel_rfl)) (fun _ _ _ h => h) (Or.inl ⟨by rfl, ?_⟩) hHeld ?_ ?_
  rotate_left
  · intro w' hsw
    refine exec_load (x := .tmp 2) hsw.1 Try.underlying22 info22 rfl ?_ ?_ <;> rfl
  rotate_left
  · simp only [Act.put, List.setIfInBounds_toArray, List.set_cons_zero, List.set_cons_succ, i64_w, i32_w]
    rfl
  refine pure_ (i := 5) (N := some 15) (v := ?_) (a' := ?_) #[true, true, false, true, false, true, false, false, false, false, false, false, false, false, false, false, false, false] rfl rfl (any_of HT_.out (by kernel_rfl)) (fun _ _ _ h => h) (Or.inl ⟨by rfl, ?_⟩) ?_ ?_
  rotate_left
  · intro w'
    go_simp
    with_reducible rfl
  rotate_left
  · simp only [Act.put, List.setIfInBounds_toArray, List.set_cons_zero, List.set_cons_succ, i64_w, i32_w]
    rfl
  refine take_ (i := 6) (N := some 16) (v := ?_) (a' := ?_) #[true, true, false, true, false, true, true, false, false, false, false, false, false, false, false, false, false, false] rfl rfl (take_ofW HT_.out HW_.out (by kernel_rfl)) (fun _ _ _ h => h) (Or.inl ⟨by rfl, ?_⟩) hHeld ?_ ?_
  rotate_left
  · intro w' hsw
    have hcv := conv_row hsw.2.1
    go_simp
    with_reducible rfl
  rotate_left
  · simp only [Act.put, List.setIfInBounds_toArray, List.set_cons_zero, List.set_cons_succ, i64_w, i32_w]
    rfl
  refine one_ (i := 2) (N := some 12) #[true, true, true, true, false, true, true, false, false, false, false, false, false, false, false, false, false, false] rfl rfl (one_of HT_.out (by kernel_rfl)) (by decide) (fun K hK => ?_)
  refine goes_ Try.func28 rfl rfl #[.agg (FR .u64 5 (carr (ofL a0))), .agg (FR .u8 32 a1)] rfl rfl rfl (by simp only [List.map_toArray, List.map_cons, List.map_nil]; rfl) ((pow_elem _ _ _ (Fe.of a0 HA.out).1 HA1.out).mono ?_)
  rintro e wc1 ⟨rfl, hb⟩
  have hSn : Row wc1 w.heap.size .u8 32 a0 22 ∧ Row wc1 (w.heap.size + 1) .u8 32 a1 22 ∧ Row wc1 w5.heap.size .u64 5 (carr (ofL a0)) 27 := ⟨hHeld.1.below hb hHeld.1.lt, hHeld.2.1.below hb hHeld.2.1.lt, hHeld.2.2.below hb hHeld.2.2.lt⟩
  have HBc1 := Aside0.mk (HBd.out.trans (hb.mono HBd.out.size))
  clear hb
  refine ⟨_, rfl, hK.out _ _ hSn (fun hHeld => ?_)⟩
  clear hSn
  clear hK K
  refine norm_ (a' := ?_) ?_ ?_
  rotate_left
  · show Act.put _ (some 12) _ = _
    simp only [Act.put, List.setIfInBounds_toArray, List.set_cons_zero, List.set_cons_succ, i64_w, i32_w]
    rfl
  refine one_ (i := 4) (N := some 14) #[true, true, true, true, true, true, true, false, false, false, false, false, false, false, false, false, false, false] rfl rfl (one_of HT_.out (by kernel_rfl)) (by decide) (fun K hK => ?_)
  refine goes_ Try.func15 rfl rfl #[.agg (FR .u8 32 a0)] rfl rfl rfl (by simp only [List.map_toArray, List.map_cons, List.map_nil]; rfl) ((num_calls' a0 _ HA.out).mono ?_)
  rintro e wc2 ⟨rfl, hb⟩
  have hSn : Row wc2 w.heap.size .u8 32 a0 22 ∧ Row wc2 (w.heap.size + 1) .u8 32 a1 22 ∧ Row wc2 w5.heap.size .u64 5 (carr (ofL a0)) 27 := ⟨hHeld.1.below hb hHeld.1.lt, hHeld.2.1.below hb hHeld.2.1.lt, hHeld.2.2.below hb hHeld.2.2.lt⟩
  have HBc2 := Aside0.mk (HBc1.out.trans (hb.mono HBc1.out.size))
  clear hb
  refine ⟨_, rfl, hK.out _ _ hSn (fun hHeld => ?_)⟩
  clear hSn
  clear hK K
  refine norm_ (a' := ?_) ?_ ?_
  rotate_left
  · show Act.put _ (some 14) _ = _
    simp only [Act.put, List.setIfInBounds_toArray, List.set_cons_zero, List.set_cons_succ, i64_w, i32_w]
    rfl
  refine one_ (i := 7) (N := some 17) #[true, true, true, true, true, true, true, true, false, false, false, false, false, false, false, false, false, false] rfl rfl (one_of HT_.out (by kernel_rfl)) (by decide) (fun K hK => ?_)
  refine goes_ Try.func29 rfl rfl #[.agg (FR .i64 16 (numD a0)), .string (sOf a1)] rfl rfl rfl (by simp only [List.map_toArray, List.map_cons, List.map_nil]; rfl) ((pow_ref _ _ _ (Re.num a0 HA.out).1 HA1.out).mono ?_)
  rintro e wc3 ⟨rfl, hb⟩
  have hSn : Row wc3 w.heap.size .u8 32 a0 22 ∧ Row wc3 (w.heap.size + 1) .u8 32 a1 22 ∧ Row wc3 w5.heap.size .u64 5 (carr (ofL a0)) 27 := ⟨hHeld.1.below hb hHeld.1.lt, hHeld.2.1.below hb hHeld.2.1.lt, hHeld.2.2.below hb hHeld.2.2.lt⟩
  have HBc3 := Aside0.mk (HBc2.out.trans (hb.mono HBc2.out.size))
  clear hb
  refine ⟨_, rfl, hK.out _ _ hSn (fun hHeld => ?_)⟩
  clear hSn
  clear hK K
  refine norm_ (a' := ?_) ?_ ?_
  rotate_left
  · show Act.put _ (some 17) _ = _
    simp only [Act.put, List.setIfInBounds_toArray, List.set_cons_zero, List.set_cons_succ, i64_w, i32_w]
    rfl
  refine one_ (i := 8) (N := some 18) #[true, true, true, true, true, true, true, true, true, false, false, false, false, false, false, false, false, false] rfl rfl (one_of HT_.out (by kernel_rfl)) (by decide) (fun K hK => ?_)
  refine goes_ Try.func14 rfl rfl #[.agg (FR .u64 5 (powE (carr (ofL a0)) a1 256)), .agg (FR .i64 16 (powR (numD a0) a1 256))] rfl rfl rfl (by simp only [List.map_toArray, List.map_cons, List.map_nil]; rfl) ((is_true_of _ _ _ ((Fe.of a0 HA.out).pow a1 256) ((Re.num a0 HA.out).pow a1 256) _).mono ?_)
  rintro e wc4 ⟨rfl, hb⟩
  have hSn : Row wc4 w.heap.size .u8 32 a0 22 ∧ Row wc4 (w.heap.size + 1) .u8 32 a1 22 ∧ Row wc4 w5.heap.size .u64 5 (carr (ofL a0)) 27 := ⟨hHeld.1.below hb hHeld.1.lt, hHeld.2.1.below hb hHeld.2.1.lt, hHeld.2.2.below hb hHeld.2.2.lt⟩
  have HBc4 := Aside0.mk (HBc3.out.trans (hb.mono HBc3.out.size))
  clear hb
  refine ⟨_, rfl, hK.out _ _ hSn (fun hHeld => ?_)⟩
  clear hSn
  clear hK K
  refine norm_ (a' := ?_) ?_ ?_
  rotate_left
  · show Act.put _ (some 18) _ = _
    simp only [Act.put, List.setIfInBounds_toArray, List.set_cons_zero, List.set_cons_succ, i64_w, i32_w]
    rfl
  refine pure_ (i := 9) (N := some 19) (v := ?_) (a' := ?_) #[true, true, true, true, true, true, true, true, true, true, false, false, false, false, false, false, false, false] rfl rfl (any_of HT_.out (by kernel_rfl)) (fun _ _ _ h => h) (Or.inl ⟨by rfl, ?_⟩) ?_ ?_
  rotate_left
  · intro w'
    go_simp
    with_reducible rfl
  rotate_left
  · simp only [Act.put, List.setIfInBounds_toArray, List.set_cons_zero, List.set_cons_succ, i64_w, i32_w]
    rfl
  refine take_ (i := 10) (N := some 20) (v := ?_) (a' := ?_) #[true, true, true, true, true, true, true, true, true, true, true, false, false, false, false, false, false, false] rfl rfl (take_ofW HT_.out HW_.out (by kernel_rfl)) (fun _ _ _ h => h) (Or.inl ⟨by rfl, ?_⟩) hHeld ?_ ?_
  rotate_left
  · intro w' hsw
    refine exec_load (x := .tmp 5) hsw.2.2 Try.underlying27 info27 rfl ?_ ?_ <;> rfl
  rotate_left
  · simp only [Act.put, List.setIfInBounds_toArray, List.set_cons_zero, List.set_cons_succ, i64_w, i32_w]
    rfl
  refine take_ (i := 12) (N := some 22) (v := ?_) (a' := ?_) #[true, true, true, true, true, true, true, true, true, true, true, false, true, false, false, false, false, false] rfl rfl (take_ofW HT_.out HW_.out (by kernel_rfl)) (fun _ _ _ h => h) (Or.inl ⟨by rfl, ?_⟩) hHeld ?_ ?_
  rotate_left
  · intro w' hsw
    refine exec_load (x := .tmp 2) hsw.1 Try.underlying22 info22 rfl ?_ ?_ <;> rfl
  rotate_left
  · simp only [Act.put, List.setIfInBounds_toArray, List.set_cons_zero, List.set_cons_succ, i64_w, i32_w]
    rfl
  refine one_ (i := 11) (N := some 21) #[true, true, true, true, true, true, true, true, true, true, true, true, true, false, false, false, false, false] rfl rfl (one_of HT_.out (by kernel_rfl)) (by decide) (fun K hK => ?_)
  refine goes_ Try.func30 rfl rfl #[.agg (FR .u64 5 (carr (ofL a0)))] rfl rfl rfl (by simp only [List.map_toArray, List.map_cons, List.map_nil]; rfl) ((invE_calls _ _ (Fe.of a0 HA.out).1).mono ?_)
  rintro e wc5 ⟨rfl, hb⟩
  have hSn : Row wc5 w.heap.size .u8 32 a0 22 ∧ Row wc5 (w.heap.size + 1) .u8 32 a1 22 ∧ Row wc5 w5.heap.size .u64 5 (carr (ofL a0)) 27 := ⟨hHeld.1.below hb hHeld.1.lt, hHeld.2.1.below hb hHeld.2.1.lt, hHeld.2.2.below hb hHeld.2.2.lt⟩
  have HBc5 := Aside0.mk (HBc4.out.trans (hb.mono HBc4.out.size))
  clear hb
  refine ⟨_, rfl, hK.out _ _ hSn (fun hHeld => ?_)⟩
  clear hSn
  clear hK K
  refine norm_ (a' := ?_) ?_ ?_
  rotate_left
  · show Act.put _ (some 21) _ = _
    simp only [Act.put, List.setIfInBounds_toArray, List.set_cons_zero, List.set_cons_succ, i64_w, i32_w]
    rfl
  refine one_ (i := 13) (N := some 23) #[true, true, true, true, true, true, true, true, true, true, true, true, true, true, false, false, false, false] rfl rfl (one_of HT_.out (by kernel_rfl)) (by decide) (fun K hK => ?_)
  refine goes_ Try.func15 rfl rfl #[.agg (FR .u8 32 a0)] rfl rfl rfl (by simp only [List.map_toArray, List.map_cons, List.map_nil]; rfl) ((num_calls' a0 _ HA.out).mono ?_)
  rintro e wc6 ⟨rfl, hb⟩
  have hSn : Row wc6 w.heap.size .u8 32 a0 22 ∧ Row wc6 (w.heap.size + 1) .u8 32 a1 22 ∧ Row wc6 w5.heap.size .u64 5 (carr (ofL a0)) 27 := ⟨hHeld.1.below hb hHeld.1.lt, hHeld.2.1.below hb hHeld.2.1.lt, hHeld.2.2.below hb hHeld.2.2.lt⟩
  have HBc6 := Aside0.mk (HBc5.out.trans (hb.mono HBc5.out.size))
  clear hb
  refine ⟨_, rfl, hK.out _ _ hSn (fun hHeld => ?_)⟩
  clear hSn
  clear hK K
  refine norm_ (a' := ?_) ?_ ?_
  rotate_left
  · show Act.put _ (some 23) _ = _
    simp only [Act.put, List.setIfInBounds_toArray, List.set_cons_zero, List.set_cons_succ, i64_w, i32_w]
    rfl
  refine one_ (i := 14) (N := some 24) #[true, true, true, true, true, true, true, true, true, true, true, true, true, true, true, false, false, false] rfl rfl (one_of HT_.out (by kernel_rfl)) (by decide) (fun K hK => ?_)
  refine goes_ Try.func31 rfl rfl #[.agg (FR .i64 16 (numD a0))] rfl rfl rfl (by simp only [List.map_toArray, List.map_cons, List.map_nil]; rfl) ((invR_calls _ _ (Re.num a0 HA.out).1).mono ?_)
  rintro e wc7 ⟨rfl, hb⟩
  have hSn : Row wc7 w.heap.size .u8 32 a0 22 ∧ Row wc7 (w.heap.size + 1) .u8 32 a1 22 ∧ Row wc7 w5.heap.size .u64 5 (carr (ofL a0)) 27 := ⟨hHeld.1.below hb hHeld.1.lt, hHeld.2.1.below hb hHeld.2.1.lt, hHeld.2.2.below hb hHeld.2.2.lt⟩
  have HBc7 := Aside0.mk (HBc6.out.trans (hb.mono HBc6.out.size))
  clear hb
  refine ⟨_, rfl, hK.out _ _ hSn (fun hHeld => ?_)⟩
  clear hSn
  clear hK K
  refine norm_ (a' := ?_) ?_ ?_
  rotate_left
  · show Act.put _ (some 24) _ = _
    simp only [Act.put, List.setIfInBounds_toArray, List.set_cons_zero, List.set_cons_succ, i64_w, i32_w]
    rfl
  refine one_ (i := 15) (N := some 25) #[true, true, true, true, true, true, true, true, true, true, true, true, true, true, true, true, false, false] rfl rfl (one_of HT_.out (by kernel_rfl)) (by decide) (fun K hK => ?_)
  refine goes_ Try.func14 rfl rfl #[.agg (FR .u64 5 (invE (carr (ofL a0)))), .agg (FR .i64 16 (invR (numD a0)))] rfl rfl rfl (by simp only [List.map_toArray, List.map_cons, List.map_nil]; rfl) ((is_true_of _ _ _ ((Fe.of a0 HA.out).pow (exB 255 21) 256) ((Re.num a0 HA.out).pow (exB 255 21) 256) _).mono ?_)
  rintro e wc8 ⟨rfl, hb⟩
  have hSn : Row wc8 w.heap.size .u8 32 a0 22 ∧ Row wc8 (w.heap.size + 1) .u8 32 a1 22 ∧ Row wc8 w5.heap.size .u64 5 (carr (ofL a0)) 27 := ⟨hHeld.1.below hb hHeld.1.lt, hHeld.2.1.below hb hHeld.2.1.lt, hHeld.2.2.below hb hHeld.2.2.lt⟩
  have HBc8 := Aside0.mk (HBc7.out.trans (hb.mono HBc7.out.size))
  clear hb
  refine ⟨_, rfl, hK.out _ _ hSn (fun hHeld => ?_)⟩
  clear hSn
  clear hK K
  refine norm_ (a' := ?_) ?_ ?_
  rotate_left
  · show Act.put _ (some 25) _ = _
    simp only [Act.put, List.setIfInBounds_toArray, List.set_cons_zero, List.set_cons_succ, i64_w, i32_w]
    rfl
  refine pure_ (i := 16) (N := some 26) (v := ?_) (a' := ?_) #[true, true, true, true, true, true, true, true, true, true, true, true, true, true, true, true, true, false] rfl rfl (any_of HT_.out (by kernel_rfl)) (fun _ _ _ h => h) (Or.inl ⟨by rfl, ?_⟩) ?_ ?_
  rotate_left
  · intro w'
    go_simp
    with_reducible rfl
  rotate_left
  · simp only [Act.put, List.setIfInBounds_toArray, List.set_cons_zero, List.set_cons_succ, i64_w, i32_w]
    rfl
  refine pure_ (i := 17) (N := some 4) (v := ?_) (a' := ?_) #[true, true, true, true, true, true, true, true, true, true, true, true, true, true, true, true, true, true] rfl rfl (any_of HT_.out (by kernel_rfl)) (fun _ _ _ h => h) (Or.inl ⟨by rfl, ?_⟩) ?_ ?_
  rotate_left
  · intro w'
    go_simp
    with_reducible rfl
  rotate_left
  · simp only [Act.put, List.setIfInBounds_toArray, List.set_cons_zero, List.set_cons_succ, i64_w, i32_w]
    rfl
  refine done_ (done_of HT_.out (by kernel_rfl)) ?_
  try go_wp2
  go_ret
  exact ⟨rfl, HBc8.out⟩
end
end Go.Proofs.Ythonoagpiofojaa.P
