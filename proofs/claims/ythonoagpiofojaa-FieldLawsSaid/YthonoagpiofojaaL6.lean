/- The law FieldLaws: its walk. -/
import Derived.Test.YthonoagpiofojaaR2
import Derived.Test.YthonoagpiofojaaWFour
namespace Go.Proofs.Ythonoagpiofojaa.P
set_option linter.unusedVariables false
set_option linter.unusedSimpArgs false
open Go.RowKit Go.Proofs.YthonoagpiofojaaW.PrintWords Go.Proofs.YthonoagpiofojaaW.PrintLast Go.Proofs.YthonoagpiofojaaW.PrintMore
attribute [local go_sem] setCell_drewN
theorem tab903 : rtab .any (opsOf Try.f9 3) = (true, [([], []), ([0], [0]), ([], []), ([2, 1], [2]), ([], []), ([4, 3], [4]), ([], []), ([], []), ([], []), ([6, 1, 5, 0, 1, 6, 7, 8], [1, 6]), ([7, 3, 9, 0, 1, 2, 3, 6, 7, 8, 9], [3, 7]), ([8, 5, 10, 0, 1, 2, 3, 4, 5, 6, 7, 8, 9, 10], [5, 8])]) := by kernel_rfl
theorem bits903 : waitsOk [([], []), ([0], [0]), ([], []), ([2, 1], [2]), ([], []), ([4, 3], [4]), ([], []), ([], []), ([], []), ([6, 1, 5, 0, 1, 6, 7, 8], [1, 6]), ([7, 3, 9, 0, 1, 2, 3, 6, 7, 8, 9], [3, 7]), ([8, 5, 10, 0, 1, 2, 3, 4, 5, 6, 7, 8, 9, 10], [5, 8])] [0, 1, 0, 7, 0, 31, 0, 0, 0, 511, 1023, 2047] = true := by kernel_rfl
theorem tab904 : rtab .any (opsOf Try.f9 4) = (true, [([], []), ([], []), ([0, 1], [0, 1]), ([], []), ([], []), ([3, 4, 2], [3, 4]), ([2, 5, 5], [2, 5]), ([6], [6]), ([7, 6], [7]), ([8], [8]), ([8], [8]), ([9, 10, 8, 8], [8, 9, 10]), ([8], [8]), ([8], [8]), ([12, 13, 11, 8], [8, 12, 13]), ([11, 14, 14, 8], [8, 11, 14]), ([15, 8], [8, 15]), ([8, 16], [8, 16]), ([17, 15], [17]), ([18], [18]), ([18], [18]), ([19, 20, 18, 18], [18, 19, 20]), ([18], [18]), ([21, 22, 21, 18], [18, 21, 22]), ([18], [18]), ([18], [18]), ([18], [18]), ([25, 26, 23, 18], [18, 25, 26]), ([24, 27, 27, 18], [18, 24, 27]), ([23, 28, 28, 18], [18, 23, 28]), ([29, 18], [18, 29]), ([18, 30], [18, 30]), ([31, 29], [31]), ([32], [32]), ([32], [32]), ([33, 34, 32, 32], [32, 33, 34]), ([32], [32]), ([35, 36, 35, 32], [32, 35, 36]), ([32], [32]), ([32], [32]), ([38, 39, 37, 32], [32, 38, 39]), ([32], [32]), ([32], [32]), ([41, 42, 40, 32], [32, 41, 42]), ([40, 43, 43, 32], [32, 40, 43]), ([37, 44, 44, 32], [32, 37, 44]), ([45, 32], [32, 45]), ([32, 46], [32, 46])]) := by kernel_rfl
theorem bits904 : waitsOk [([], []), ([], []), ([0, 1], [0, 1]), ([], []), ([], []), ([3, 4, 2], [3, 4]), ([2, 5, 5], [2, 5]), ([6], [6]), ([7, 6], [7]), ([8], [8]), ([8], [8]), ([9, 10, 8, 8], [8, 9, 10]), ([8], [8]), ([8], [8]), ([12, 13, 11, 8], [8, 12, 13]), ([11, 14, 14, 8], [8, 11, 14]), ([15, 8], [8, 15]), ([8, 16], [8, 16]), ([17, 15], [17]), ([18], [18]), ([18], [18]), ([19, 20, 18, 18], [18, 19, 20]), ([18], [18]), ([21, 22, 21, 18], [18, 21, 22]), ([18], [18]), ([18], [18]), ([18], [18]), ([25, 26, 23, 18], [18, 25, 26]), ([24, 27, 27, 18], [18, 24, 27]), ([23, 28, 28, 18], [18, 23, 28]), ([29, 18], [18, 29]), ([18, 30], [18, 30]), ([31, 29], [31]), ([32], [32]), ([32], [32]), ([33, 34, 32, 32], [32, 33, 34]), ([32], [32]), ([35, 36, 35, 32], [32, 35, 36]), ([32], [32]), ([32], [32]), ([38, 39, 37, 32], [32, 38, 39]), ([32], [32]), ([32], [32]), ([41, 42, 40, 32], [32, 41, 42]), ([40, 43, 43, 32], [32, 40, 43]), ([37, 44, 44, 32], [32, 37, 44]), ([45, 32], [32, 45]), ([32, 46], [32, 46])] [0, 0, 3, 0, 0, 31, 63, 127, 255, 511, 511, 2047, 511, 511, 16383, 32767, 65535, 131071, 262143, 524287, 524287, 2097151, 524287, 8388607, 524287, 524287, 524287, 117440511, 268435455, 536870911, 1073741823, 2147483647, 4294967295, 8589934591, 8589934591, 34359738367, 8589934591, 137438953471, 8589934591, 8589934591, 1099511627775, 8589934591, 8589934591, 8796093022207, 17592186044415, 35184372088831, 70368744177663, 140737488355327] = true := by kernel_rfl
theorem tab907 : rtab .any (opsOf Try.f9 7) = (true, [([], []), ([], []), ([0, 1], [0, 1]), ([], []), ([2, 3, 2], [2, 3]), ([], []), ([4, 5, 4], [4, 5]), ([6, 6], [6]), ([7], [7]), ([7], [7]), ([9, 7, 7], [7, 9]), ([8, 10, 10, 7], [7, 8, 10]), ([7], [7]), ([11, 12, 11, 7], [7, 11, 12]), ([7, 13], [7, 13]), ([14, 13], [14]), ([15], [15]), ([15], [15]), ([17, 15, 15], [15, 17]), ([16, 18, 18, 15], [15, 16, 18]), ([19, 15], [15]), ([19, 20, 20, 15], [15, 19, 20]), ([15], [15]), ([15], [15]), ([22, 23, 21, 15], [15, 22, 23]), ([21, 24, 15], [15, 21, 24]), ([15, 25], [15, 25]), ([26, 24], [26]), ([27], [27]), ([28, 27, 27], [27, 28]), ([27], [27]), ([29, 30, 29, 27], [27, 29, 30]), ([27, 31], [27, 31]), ([32, 31, 0, 1, 2, 3, 4, 5, 6, 7, 8, 9, 10, 11, 12, 13, 14, 15, 16, 17, 18, 19, 20, 21, 22, 23, 24, 25, 26, 27, 28, 29, 30, 31, 32], [32])]) := by kernel_rfl
theorem bits907 : waitsOk [([], []), ([], []), ([0, 1], [0, 1]), ([], []), ([2, 3, 2], [2, 3]), ([], []), ([4, 5, 4], [4, 5]), ([6, 6], [6]), ([7], [7]), ([7], [7]), ([9, 7, 7], [7, 9]), ([8, 10, 10, 7], [7, 8, 10]), ([7], [7]), ([11, 12, 11, 7], [7, 11, 12]), ([7, 13], [7, 13]), ([14, 13], [14]), ([15], [15]), ([15], [15]), ([17, 15, 15], [15, 17]), ([16, 18, 18, 15], [15, 16, 18]), ([19, 15], [15]), ([19, 20, 20, 15], [15, 19, 20]), ([15], [15]), ([15], [15]), ([22, 23, 21, 15], [15, 22, 23]), ([21, 24, 15], [15, 21, 24]), ([15, 25], [15, 25]), ([26, 24], [26]), ([27], [27]), ([28, 27, 27], [27, 28]), ([27], [27]), ([29, 30, 29, 27], [27, 29, 30]), ([27, 31], [27, 31]), ([32, 31, 0, 1, 2, 3, 4, 5, 6, 7, 8, 9, 10, 11, 12, 13, 14, 15, 16, 17, 18, 19, 20, 21, 22, 23, 24, 25, 26, 27, 28, 29, 30, 31, 32], [32])] [0, 0, 3, 0, 15, 0, 63, 127, 255, 255, 767, 2047, 255, 8191, 16383, 32767, 65535, 65535, 196607, 524287, 1048575, 2097151, 65535, 65535, 16777215, 33554431, 67108863, 134217727, 268435455, 536870911, 268435455, 2147483647, 4294967295, 8589934591] = true := by kernel_rfl
set_option maxHeartbeats 4000000 in
theorem FieldLaws_walk (a0 a1 a2 : Nat → Int) (w : World) (w0 : ∀ i, i < 32 → (Lit.int .u8 (a0 i)).wf = true) (w1 : ∀ i, i < 32 → (Lit.int .u8 (a1 i)).wf = true) (w2 : ∀ i, i < 32 → (Lit.int .u8 (a2 i)).wf = true) :
    Calls Try.prog 9 #[.agg (FR .u8 32 a0), .agg (FR .u8 32 a1), .agg (FR .u8 32 a2)] w fun e w' => e = .returned (.bool true) ∧ Below w.heap.size w w' := by
  have HA0 : Aside0 (By a0) := ⟨fun j hj => u8b (w0 j hj)⟩
  have HA1 : Aside0 (By a1) := ⟨fun j hj => u8b (w1 j hj)⟩
  have HA2 : Aside0 (By a2) := ⟨fun j hj => u8b (w2 j hj)⟩
  clear w0 w1 w2
  obtain ⟨z, hz⟩ : ∃ z, z = decide (N32 a0 % PP = 0) := ⟨_, rfl⟩
  have HZZ := Aside0.mk hz
  have hzz : ((!z) != z) = true := by cases z <;> rfl
  clear hz
  go_enter Try.func9, Try.ntmps9
  have hR0 : Row (((w.alloc (.cells (FR .u8 32 a0) 22)).alloc (.cells (FR .u8 32 a1) 22)).alloc (.cells (FR .u8 32 a2) 22)) w.heap.size .u8 32 a0 22 ∧ Row (((w.alloc (.cells (FR .u8 32 a0) 22)).alloc (.cells (FR .u8 32 a1) 22)).alloc (.cells (FR .u8 32 a2) 22)) (w.heap.size + 1) .u8 32 a1 22 ∧ Row (((w.alloc (.cells (FR .u8 32 a0) 22)).alloc (.cells (FR .u8 32 a1) 22)).alloc (.cells (FR .u8 32 a2) 22)) (w.heap.size + 1 + 1) .u8 32 a2 22 := ⟨((Row.new w .u8 32 a0 22).alloc _).alloc _, Row.alloc (show Row ((w.alloc (.cells (FR .u8 32 a0) 22)).alloc (.cells (FR .u8 32 a1) 22)) (w.heap.size + 1) .u8 32 a1 22 from heap_alloc2_new w _ _) _, three_new w _ _ _⟩
  have HR0 := Aside0.mk hR0
  clear hR0
  have HB0 := Aside0.mk (bel_three w (.cells (FR .u8 32 a0) 22) (.cells (FR .u8 32 a1) 22) (.cells (FR .u8 32 a2) 22))
  go_wp2_with fail
  refine (alive_calls _).mono ?_
  rintro e w5 ⟨rfl, hb⟩
  have HR4 := Aside0.mk (And.intro (HR0.out.1.below hb HR0.out.1.lt) (And.intro (HR0.out.2.1.below hb HR0.out.2.1.lt) (HR0.out.2.2.below hb HR0.out.2.2.lt)))
  have HB4 := Aside0.mk (HB0.out.trans (hb.mono HB0.out.size))
  clear hb HR0 HB0
  go_wp2_with fail
  have hh : Row w5.drew w.heap.size .u8 32 a0 22 ∧ Row w5.drew (w.heap.size + 1) .u8 32 a1 22 ∧ Row w5.drew (w.heap.size + 1 + 1) .u8 32 a2 22 := HR4.out
  have HBd := Aside0.mk HB4.out.drew
  clear HR4 HB4
  refine start_ (n := 12) (S := (fun w' => Row w' w.heap.size .u8 32 a0 22 ∧ Row w' (w.heap.size + 1) .u8 32 a1 22 ∧ Row w' (w.heap.size + 1 + 1) .u8 32 a2 22)) (ds := []) #[false, false, false, false, false, false, false, false, false, false, false, false] (by kernel_rfl) rfl rfl hh (fun hHeld => ?_); refine with_tabW tab903 bits903 (fun HT_ HW_ => ?_)
  generalize w5.drew = w6 at HBd hHeld hh ⊢
  clear hh
  refine take_ (i := 0) (N := some 13) (v := ?_) (a' := ?_) #[true, false, false, false, false, false, false, false, false, false, false, false] rfl rfl (take_ofW HT_.out HW_.out (by kernel_rfl)) (fun _ _ _ h => h) (Or.inl ⟨by rfl, ?_⟩) hHeld ?_ ?_
  rotate_left
  · intro w' hsw
    refine exec_load (x := .tmp 3) hsw.1 Try.underlying22 info22 rfl ?_ ?_ <;> rfl
  rotate_left
  · simp only [Act.put, List.setIfInBounds_toArray, List.set_cons_zero, List.set_cons_succ, i64_w, i32_w]
    rfl
  refine take_ (i := 2) (N := some 15) (v := ?_) (a' := ?_) #[true, false, true, false, false, false, false, false, false, false, false, false] rfl rfl (take_ofW HT_.out HW_.out (by kernel_rfl)) (fun _ _ _ h => h) (Or.inl ⟨by rfl, ?_⟩) hHeld ?_ ?_
  rotate_left
  · intro w' hsw
    refine exec_load (x := .tmp 4) hsw.2.1 Try.underlying22 info22 rfl ?_ ?_ <;> rfl
  rotate_left
  · simp only [Act.put, List.setIfInBounds_toArray, List.set_cons_zero, List.set_cons_succ, i64_w, i32_w]
    rfl
  refine take_ (i := 4) (N := some 17) (v := ?_) (a' := ?_) #[true, false, true, false, true, false, false, false, false, false, false, false] rfl rfl (take_ofW HT_.out HW_.out (by kernel_rfl)) (fun _ _ _ h => h) (Or.inl ⟨by rfl, ?_⟩) hHeld ?_ ?_
  rotate_left
  · intro w' hsw
    refine exec_load (x := .tmp 5) hsw.2.2 Try.underlying22 info22 rfl ?_ ?_ <;> rfl
  rotate_left
  · simp only [Act.put, List.setIfInBounds_toArray, List.set_cons_zero, List.set_cons_succ, i64_w, i32_w]
    rfl
  refine join_ (σ := Nat × Nat × Nat) 3 #[true, true, true, true, true, true, true, true, true, false, false, false] (fun s => [(14, .agg (FR .u64 5 (carr (ofL a0)))), (16, .agg (FR .u64 5 (carr (ofL a1)))), (18, .agg (FR .u64 5 (carr (ofL a2)))), (7, .pointer (some ⟨s.1, 0, none⟩)), (8, .pointer (some ⟨s.2.1, 0, none⟩)), (9, .pointer (some ⟨s.2.2, 0, none⟩))]) (fun s w' => Row w' s.1 .u64 5 (fun _ => 0) 27 ∧ Row w' s.2.1 .u64 5 (fun _ => 0) 27 ∧ Row w' s.2.2 .u64 5 (fun _ => 0) 27 ∧ Row w' w.heap.size .u8 32 a0 22 ∧ Row w' (w.heap.size + 1) .u8 32 a1 22 ∧ Row w' (w.heap.size + 1 + 1) .u8 32 a2 22 ∧ Below w.heap.size w w' ∧ (w.heap.size + 1 + 1) < s.1 ∧ (w.heap.size + 1 + 1) < s.2.1 ∧ (w.heap.size + 1 + 1) < s.2.2 ∧ s.2.1 ≠ s.1 ∧ s.2.2 ≠ s.1 ∧ s.2.2 ≠ s.2.1) ?_ ?_
  rotate_left
  ·intro hJ1_3_5_6_7_8
   refine join_ (σ := Nat × Nat) 4 #[true, true, true, true, true, true, true, true, false, false, false, false] (fun s => [(14, .agg (FR .u64 5 (carr (ofL a0)))), (16, .agg (FR .u64 5 (carr (ofL a1)))), (18, .agg (FR .u64 5 (carr (ofL a2)))), (7, .pointer (some ⟨s.1, 0, none⟩)), (8, .pointer (some ⟨s.2, 0, none⟩))]) (fun s w' => Row w' s.1 .u64 5 (fun _ => 0) 27 ∧ Row w' s.2 .u64 5 (fun _ => 0) 27 ∧ Row w' w.heap.size .u8 32 a0 22 ∧ Row w' (w.heap.size + 1) .u8 32 a1 22 ∧ Row w' (w.heap.size + 1 + 1) .u8 32 a2 22 ∧ Below w.heap.size w w' ∧ (w.heap.size + 1 + 1) < s.1 ∧ (w.heap.size + 1 + 1) < s.2 ∧ s.2 ≠ s.1) ?_ ?_
   rotate_left
   ·intro hJ1_3_5_6_7
    refine join_ (σ := Nat × Nat) 4 #[true, true, true, true, true, true, true, false, true, false, false, false] (fun s => [(14, .agg (FR .u64 5 (carr (ofL a0)))), (16, .agg (FR .u64 5 (carr (ofL a1)))), (18, .agg (FR .u64 5 (carr (ofL a2)))), (7, .pointer (some ⟨s.1, 0, none⟩)), (9, .pointer (some ⟨s.2, 0, none⟩))]) (fun s w' => Row w' s.1 .u64 5 (fun _ => 0) 27 ∧ Row w' s.2 .u64 5 (fun _ => 0) 27 ∧ Row w' w.heap.size .u8 32 a0 22 ∧ Row w' (w.heap.size + 1) .u8 32 a1 22 ∧ Row w' (w.heap.size + 1 + 1) .u8 32 a2 22 ∧ Below w.heap.size w w' ∧ (w.heap.size + 1 + 1) < s.1 ∧ (w.heap.size + 1 + 1) < s.2 ∧ s.2 ≠ s.1) ?_ ?_
    rotate_left
    ·intro hJ1_3_5_6_8
     refine join_ (σ := Nat × Nat) 4 #[true, true, true, true, true, true, false, true, true, false, false, false] (fun s => [(14, .agg (FR .u64 5 (carr (ofL a0)))), (16, .agg (FR .u64 5 (carr (ofL a1)))), (18, .agg (FR .u64 5 (carr (ofL a2)))), (8, .pointer (some ⟨s.1, 0, none⟩)), (9, .pointer (some ⟨s.2, 0, none⟩))]) (fun s w' => Row w' s.1 .u64 5 (fun _ => 0) 27 ∧ Row w' s.2 .u64 5 (fun _ => 0) 27 ∧ Row w' w.heap.size .u8 32 a0 22 ∧ Row w' (w.heap.size + 1) .u8 32 a1 22 ∧ Row w' (w.heap.size + 1 + 1) .u8 32 a2 22 ∧ Below w.heap.size w w' ∧ (w.heap.size + 1 + 1) < s.1 ∧ (w.heap.size + 1 + 1) < s.2 ∧ s.2 ≠ s.1) ?_ ?_
     rotate_left
     ·intro hJ1_3_5_7_8
      refine join_ (σ := Nat × Nat × Nat) 4 #[true, true, true, true, true, false, true, true, true, false, false, false] (fun s => [(14, .agg (FR .u64 5 (carr (ofL a0)))), (16, .agg (FR .u64 5 (carr (ofL a1)))), (7, .pointer (some ⟨s.1, 0, none⟩)), (8, .pointer (some ⟨s.2.1, 0, none⟩)), (9, .pointer (some ⟨s.2.2, 0, none⟩))]) (fun s w' => Row w' s.1 .u64 5 (fun _ => 0) 27 ∧ Row w' s.2.1 .u64 5 (fun _ => 0) 27 ∧ Row w' s.2.2 .u64 5 (fun _ => 0) 27 ∧ Row w' w.heap.size .u8 32 a0 22 ∧ Row w' (w.heap.size + 1) .u8 32 a1 22 ∧ Row w' (w.heap.size + 1 + 1) .u8 32 a2 22 ∧ Below w.heap.size w w' ∧ (w.heap.size + 1 + 1) < s.1 ∧ (w.heap.size + 1 + 1) < s.2.1 ∧ (w.heap.size + 1 + 1) < s.2.2 ∧ s.2.1 ≠ s.1 ∧ s.2.2 ≠ s.1 ∧ s.2.2 ≠ s.2.1) ?_ ?_
      rotate_left
      ·intro hJ1_3_6_7_8
       refine join_ (σ := Nat) 5 #[true, true, true, true, true, true, true, false, false, false, false, false] (fun s => [(14, .agg (FR .u64 5 (carr (ofL a0)))), (16, .agg (FR .u64 5 (carr (ofL a1)))), (18, .agg (FR .u64 5 (carr (ofL a2)))), (7, .pointer (some ⟨s, 0, none⟩))]) (fun s w' => Row w' s .u64 5 (fun _ => 0) 27 ∧ Row w' w.heap.size .u8 32 a0 22 ∧ Row w' (w.heap.size + 1) .u8 32 a1 22 ∧ Row w' (w.heap.size + 1 + 1) .u8 32 a2 22 ∧ Below w.heap.size w w' ∧ (w.heap.size + 1 + 1) < s) ?_ ?_
       rotate_left
       ·intro hJ1_3_5_6
        refine join_ (σ := Nat) 5 #[true, true, true, true, true, true, false, true, false, false, false, false] (fun s => [(14, .agg (FR .u64 5 (carr (ofL a0)))), (16, .agg (FR .u64 5 (carr (ofL a1)))), (18, .agg (FR .u64 5 (carr (ofL a2)))), (8, .pointer (some ⟨s, 0, none⟩))]) (fun s w' => Row w' s .u64 5 (fun _ => 0) 27 ∧ Row w' w.heap.size .u8 32 a0 22 ∧ Row w' (w.heap.size + 1) .u8 32 a1 22 ∧ Row w' (w.heap.size + 1 + 1) .u8 32 a2 22 ∧ Below w.heap.size w w' ∧ (w.heap.size + 1 + 1) < s) ?_ ?_
        rotate_left
        ·intro hJ1_3_5_7
         refine join_ (σ := Nat) 5 #[true, true, true, true, true, true, false, false, true, false, false, false] (fun s => [(14, .agg (FR .u64 5 (carr (ofL a0)))), (16, .agg (FR .u64 5 (carr (ofL a1)))), (18, .agg (FR .u64 5 (carr (ofL a2)))), (9, .pointer (some ⟨s, 0, none⟩))]) (fun s w' => Row w' s .u64 5 (fun _ => 0) 27 ∧ Row w' w.heap.size .u8 32 a0 22 ∧ Row w' (w.heap.size + 1) .u8 32 a1 22 ∧ Row w' (w.heap.size + 1 + 1) .u8 32 a2 22 ∧ Below w.heap.size w w' ∧ (w.heap.size + 1 + 1) < s) ?_ ?_
         rotate_left
         ·intro hJ1_3_5_8
          refine join_ (σ := Nat × Nat) 5 #[true, true, true, true, true, false, true, true, false, false, false, false] (fun s => [(14, .agg (FR .u64 5 (carr (ofL a0)))), (16, .agg (FR .u64 5 (carr (ofL a1)))), (7, .pointer (some ⟨s.1, 0, none⟩)), (8, .pointer (some ⟨s.2, 0, none⟩))]) (fun s w' => Row w' s.1 .u64 5 (fun _ => 0) 27 ∧ Row w' s.2 .u64 5 (fun _ => 0) 27 ∧ Row w' w.heap.size .u8 32 a0 22 ∧ Row w' (w.heap.size + 1) .u8 32 a1 22 ∧ Row w' (w.heap.size + 1 + 1) .u8 32 a2 22 ∧ Below w.heap.size w w' ∧ (w.heap.size + 1 + 1) < s.1 ∧ (w.heap.size + 1 + 1) < s.2 ∧ s.2 ≠ s.1) ?_ ?_
          rotate_left
          ·intro hJ1_3_6_7
           refine join_ (σ := Nat × Nat) 5 #[true, true, true, true, true, false, true, false, true, false, false, false] (fun s => [(14, .agg (FR .u64 5 (carr (ofL a0)))), (16, .agg (FR .u64 5 (carr (ofL a1)))), (7, .pointer (some ⟨s.1, 0, none⟩)), (9, .pointer (some ⟨s.2, 0, none⟩))]) (fun s w' => Row w' s.1 .u64 5 (fun _ => 0) 27 ∧ Row w' s.2 .u64 5 (fun _ => 0) 27 ∧ Row w' w.heap.size .u8 32 a0 22 ∧ Row w' (w.heap.size + 1) .u8 32 a1 22 ∧ Row w' (w.heap.size + 1 + 1) .u8 32 a2 22 ∧ Below w.heap.size w w' ∧ (w.heap.size + 1 + 1) < s.1 ∧ (w.heap.size + 1 + 1) < s.2 ∧ s.2 ≠ s.1) ?_ ?_
           rotate_left
           ·intro hJ1_3_6_8
            refine join_ (σ := Nat × Nat) 5 #[true, true, true, true, true, false, false, true, true, false, false, false] (fun s => [(14, .agg (FR .u64 5 (carr (ofL a0)))), (16, .agg (FR .u64 5 (carr (ofL a1)))), (8, .pointer (some ⟨s.1, 0, none⟩)), (9, .pointer (some ⟨s.2, 0, none⟩))]) (fun s w' => Row w' s.1 .u64 5 (fun _ => 0) 27 ∧ Row w' s.2 .u64 5 (fun _ => 0) 27 ∧ Row w' w.heap.size .u8 32 a0 22 ∧ Row w' (w.heap.size + 1) .u8 32 a1 22 ∧ Row w' (w.heap.size + 1 + 1) .u8 32 a2 22 ∧ Below w.heap.size w w' ∧ (w.heap.size + 1 + 1) < s.1 ∧ (w.heap.size + 1 + 1) < s.2 ∧ s.2 ≠ s.1) ?_ ?_
            rotate_left
            ·intro hJ1_3_7_8
             refine join_ (σ := Nat × Nat × Nat) 5 #[true, true, true, false, true, false, true, true, true, false, false, false] (fun s => [(14, .agg (FR .u64 5 (carr (ofL a0)))), (7, .pointer (some ⟨s.1, 0, none⟩)), (8, .pointer (some ⟨s.2.1, 0, none⟩)), (9, .pointer (some ⟨s.2.2, 0, none⟩))]) (fun s w' => Row w' s.1 .u64 5 (fun _ => 0) 27 ∧ Row w' s.2.1 .u64 5 (fun _ => 0) 27 ∧ Row w' s.2.2 .u64 5 (fun _ => 0) 27 ∧ Row w' w.heap.size .u8 32 a0 22 ∧ Row w' (w.heap.size + 1) .u8 32 a1 22 ∧ Row w' (w.heap.size + 1 + 1) .u8 32 a2 22 ∧ Below w.heap.size w w' ∧ (w.heap.size + 1 + 1) < s.1 ∧ (w.heap.size + 1 + 1) < s.2.1 ∧ (w.heap.size + 1 + 1) < s.2.2 ∧ s.2.1 ≠ s.1 ∧ s.2.2 ≠ s.1 ∧ s.2.2 ≠ s.2.1) ?_ ?_
             rotate_left
             ·intro hJ1_6_7_8
              refine join_ (σ := Unit) 6 #[true, true, true, true, true, true, false, false, false, false, false, false] (fun s => [(14, .agg (FR .u64 5 (carr (ofL a0)))), (16, .agg (FR .u64 5 (carr (ofL a1)))), (18, .agg (FR .u64 5 (carr (ofL a2))))]) (fun s w' => Row w' w.heap.size .u8 32 a0 22 ∧ Row w' (w.heap.size + 1) .u8 32 a1 22 ∧ Row w' (w.heap.size + 1 + 1) .u8 32 a2 22 ∧ Below w.heap.size w w') ?_ ?_
              rotate_left
              ·intro hJ1_3_5
               refine join_ (σ := Nat) 6 #[true, true, true, true, true, false, true, false, false, false, false, false] (fun s => [(14, .agg (FR .u64 5 (carr (ofL a0)))), (16, .agg (FR .u64 5 (carr (ofL a1)))), (7, .pointer (some ⟨s, 0, none⟩))]) (fun s w' => Row w' s .u64 5 (fun _ => 0) 27 ∧ Row w' w.heap.size .u8 32 a0 22 ∧ Row w' (w.heap.size + 1) .u8 32 a1 22 ∧ Row w' (w.heap.size + 1 + 1) .u8 32 a2 22 ∧ Below w.heap.size w w' ∧ (w.heap.size + 1 + 1) < s) ?_ ?_
               rotate_left
               ·intro hJ1_3_6
                refine join_ (σ := Nat) 6 #[true, true, true, true, true, false, false, true, false, false, false, false] (fun s => [(14, .agg (FR .u64 5 (carr (ofL a0)))), (16, .agg (FR .u64 5 (carr (ofL a1)))), (8, .pointer (some ⟨s, 0, none⟩))]) (fun s w' => Row w' s .u64 5 (fun _ => 0) 27 ∧ Row w' w.heap.size .u8 32 a0 22 ∧ Row w' (w.heap.size + 1) .u8 32 a1 22 ∧ Row w' (w.heap.size + 1 + 1) .u8 32 a2 22 ∧ Below w.heap.size w w' ∧ (w.heap.size + 1 + 1) < s) ?_ ?_
                rotate_left
                ·intro hJ1_3_7
                 refine join_ (σ := Nat) 6 #[true, true, true, true, true, false, false, false, true, false, false, false] (fun s => [(14, .agg (FR .u64 5 (carr (ofL a0)))), (16, .agg (FR .u64 5 (carr (ofL a1)))), (9, .pointer (some ⟨s, 0, none⟩))]) (fun s w' => Row w' s .u64 5 (fun _ => 0) 27 ∧ Row w' w.heap.size .u8 32 a0 22 ∧ Row w' (w.heap.size + 1) .u8 32 a1 22 ∧ Row w' (w.heap.size + 1 + 1) .u8 32 a2 22 ∧ Below w.heap.size w w' ∧ (w.heap.size + 1 + 1) < s) ?_ ?_
                 rotate_left
                 ·intro hJ1_3_8
                  refine join_ (σ := Nat × Nat) 6 #[true, true, true, false, true, false, true, true, false, false, false, false] (fun s => [(14, .agg (FR .u64 5 (carr (ofL a0)))), (7, .pointer (some ⟨s.1, 0, none⟩)), (8, .pointer (some ⟨s.2, 0, none⟩))]) (fun s w' => Row w' s.1 .u64 5 (fun _ => 0) 27 ∧ Row w' s.2 .u64 5 (fun _ => 0) 27 ∧ Row w' w.heap.size .u8 32 a0 22 ∧ Row w' (w.heap.size + 1) .u8 32 a1 22 ∧ Row w' (w.heap.size + 1 + 1) .u8 32 a2 22 ∧ Below w.heap.size w w' ∧ (w.heap.size + 1 + 1) < s.1 ∧ (w.heap.size + 1 + 1) < s.2 ∧ s.2 ≠ s.1) ?_ ?_
                  rotate_left
                  ·intro hJ1_6_7
                   refine join_ (σ := Nat × Nat) 6 #[true, true, true, false, true, false, true, false, true, false, false, false] (fun s => [(14, .agg (FR .u64 5 (carr (ofL a0)))), (7, .pointer (some ⟨s.1, 0, none⟩)), (9, .pointer (some ⟨s.2, 0, none⟩))]) (fun s w' => Row w' s.1 .u64 5 (fun _ => 0) 27 ∧ Row w' s.2 .u64 5 (fun _ => 0) 27 ∧ Row w' w.heap.size .u8 32 a0 22 ∧ Row w' (w.heap.size + 1) .u8 32 a1 22 ∧ Row w' (w.heap.size + 1 + 1) .u8 32 a2 22 ∧ Below w.heap.size w w' ∧ (w.heap.size + 1 + 1) < s.1 ∧ (w.heap.size + 1 + 1) < s.2 ∧ s.2 ≠ s.1) ?_ ?_
                   rotate_left
                   ·intro hJ1_6_8
                    refine join_ (σ := Nat × Nat) 6 #[true, true, true, false, true, false, false, true, true, false, false, false] (fun s => [(14, .agg (FR .u64 5 (carr (ofL a0)))), (8, .pointer (some ⟨s.1, 0, none⟩)), (9, .pointer (some ⟨s.2, 0, none⟩))]) (fun s w' => Row w' s.1 .u64 5 (fun _ => 0) 27 ∧ Row w' s.2 .u64 5 (fun _ => 0) 27 ∧ Row w' w.heap.size .u8 32 a0 22 ∧ Row w' (w.heap.size + 1) .u8 32 a1 22 ∧ Row w' (w.heap.size + 1 + 1) .u8 32 a2 22 ∧ Below w.heap.size w w' ∧ (w.heap.size + 1 + 1) < s.1 ∧ (w.heap.size + 1 + 1) < s.2 ∧ s.2 ≠ s.1) ?_ ?_
                    rotate_left
                    ·intro hJ1_7_8
                     refine join_ (σ := Nat × Nat × Nat) 6 #[true, false, true, false, true, false, true, true, true, false, false, false] (fun s => [(7, .pointer (some ⟨s.1, 0, none⟩)), (8, .pointer (some ⟨s.2.1, 0, none⟩)), (9, .pointer (some ⟨s.2.2, 0, none⟩))]) (fun s w' => Row w' s.1 .u64 5 (fun _ => 0) 27 ∧ Row w' s.2.1 .u64 5 (fun _ => 0) 27 ∧ Row w' s.2.2 .u64 5 (fun _ => 0) 27 ∧ Row w' w.heap.size .u8 32 a0 22 ∧ Row w' (w.heap.size + 1) .u8 32 a1 22 ∧ Row w' (w.heap.size + 1 + 1) .u8 32 a2 22 ∧ Below w.heap.size w w' ∧ (w.heap.size + 1 + 1) < s.1 ∧ (w.heap.size + 1 + 1) < s.2.1 ∧ (w.heap.size + 1 + 1) < s.2.2 ∧ s.2.1 ≠ s.1 ∧ s.2.2 ≠ s.1 ∧ s.2.2 ≠ s.2.1) ?_ ?_
                     rotate_left
                     ·intro hJ6_7_8
                      refine join_ (σ := Unit) 7 #[true, true, true, true, true, false, false, false, false, false, false, false] (fun s => [(14, .agg (FR .u64 5 (carr (ofL a0)))), (16, .agg (FR .u64 5 (carr (ofL a1))))]) (fun s w' => Row w' w.heap.size .u8 32 a0 22 ∧ Row w' (w.heap.size + 1) .u8 32 a1 22 ∧ Row w' (w.heap.size + 1 + 1) .u8 32 a2 22 ∧ Below w.heap.size w w') ?_ ?_
                      rotate_left
                      ·intro hJ1_3
                       refine join_ (σ := Nat) 7 #[true, true, true, false, true, false, true, false, false, false, false, false] (fun s => [(14, .agg (FR .u64 5 (carr (ofL a0)))), (7, .pointer (some ⟨s, 0, none⟩))]) (fun s w' => Row w' s .u64 5 (fun _ => 0) 27 ∧ Row w' w.heap.size .u8 32 a0 22 ∧ Row w' (w.heap.size + 1) .u8 32 a1 22 ∧ Row w' (w.heap.size + 1 + 1) .u8 32 a2 22 ∧ Below w.heap.size w w' ∧ (w.heap.size + 1 + 1) < s) ?_ ?_
                       rotate_left
                       ·intro hJ1_6
                        refine join_ (σ := Nat) 7 #[true, true, true, false, true, false, false, true, false, false, false, false] (fun s => [(14, .agg (FR .u64 5 (carr (ofL a0)))), (8, .pointer (some ⟨s, 0, none⟩))]) (fun s w' => Row w' s .u64 5 (fun _ => 0) 27 ∧ Row w' w.heap.size .u8 32 a0 22 ∧ Row w' (w.heap.size + 1) .u8 32 a1 22 ∧ Row w' (w.heap.size + 1 + 1) .u8 32 a2 22 ∧ Below w.heap.size w w' ∧ (w.heap.size + 1 + 1) < s) ?_ ?_
                        rotate_left
                        ·intro hJ1_7
                         refine join_ (σ := Nat) 7 #[true, true, true, false, true, false, false, false, true, false, false, false] (fun s => [(14, .agg (FR .u64 5 (carr (ofL a0)))), (9, .pointer (some ⟨s, 0, none⟩))]) (fun s w' => Row w' s .u64 5 (fun _ => 0) 27 ∧ Row w' w.heap.size .u8 32 a0 22 ∧ Row w' (w.heap.size + 1) .u8 32 a1 22 ∧ Row w' (w.heap.size + 1 + 1) .u8 32 a2 22 ∧ Below w.heap.size w w' ∧ (w.heap.size + 1 + 1) < s) ?_ ?_
                         rotate_left
                         ·intro hJ1_8
                          refine join_ (σ := Nat × Nat) 7 #[true, false, true, false, true, false, true, true, false, false, false, false] (fun s => [(7, .pointer (some ⟨s.1, 0, none⟩)), (8, .pointer (some ⟨s.2, 0, none⟩))]) (fun s w' => Row w' s.1 .u64 5 (fun _ => 0) 27 ∧ Row w' s.2 .u64 5 (fun _ => 0) 27 ∧ Row w' w.heap.size .u8 32 a0 22 ∧ Row w' (w.heap.size + 1) .u8 32 a1 22 ∧ Row w' (w.heap.size + 1 + 1) .u8 32 a2 22 ∧ Below w.heap.size w w' ∧ (w.heap.size + 1 + 1) < s.1 ∧ (w.heap.size + 1 + 1) < s.2 ∧ s.2 ≠ s.1) ?_ ?_
                          rotate_left
                          ·intro hJ6_7
                           refine join_ (σ := Nat × Nat) 7 #[true, false, true, false, true, false, true, false, true, false, false, false] (fun s => [(7, .pointer (some ⟨s.1, 0, none⟩)), (9, .pointer (some ⟨s.2, 0, none⟩))]) (fun s w' => Row w' s.1 .u64 5 (fun _ => 0) 27 ∧ Row w' s.2 .u64 5 (fun _ => 0) 27 ∧ Row w' w.heap.size .u8 32 a0 22 ∧ Row w' (w.heap.size + 1) .u8 32 a1 22 ∧ Row w' (w.heap.size + 1 + 1) .u8 32 a2 22 ∧ Below w.heap.size w w' ∧ (w.heap.size + 1 + 1) < s.1 ∧ (w.heap.size + 1 + 1) < s.2 ∧ s.2 ≠ s.1) ?_ ?_
                           rotate_left
                           ·intro hJ6_8
                            refine join_ (σ := Nat × Nat) 7 #[true, false, true, false, true, false, false, true, true, false, false, false] (fun s => [(8, .pointer (some ⟨s.1, 0, none⟩)), (9, .pointer (some ⟨s.2, 0, none⟩))]) (fun s w' => Row w' s.1 .u64 5 (fun _ => 0) 27 ∧ Row w' s.2 .u64 5 (fun _ => 0) 27 ∧ Row w' w.heap.size .u8 32 a0 22 ∧ Row w' (w.heap.size + 1) .u8 32 a1 22 ∧ Row w' (w.heap.size + 1 + 1) .u8 32 a2 22 ∧ Below w.heap.size w w' ∧ (w.heap.size + 1 + 1) < s.1 ∧ (w.heap.size + 1 + 1) < s.2 ∧ s.2 ≠ s.1) ?_ ?_
                            rotate_left
                            ·intro hJ7_8
                             refine join_ (σ := Unit) 8 #[true, true, true, false, true, false, false, false, false, false, false, false] (fun s => [(14, .agg (FR .u64 5 (carr (ofL a0))))]) (fun s w' => Row w' w.heap.size .u8 32 a0 22 ∧ Row w' (w.heap.size + 1) .u8 32 a1 22 ∧ Row w' (w.heap.size + 1 + 1) .u8 32 a2 22 ∧ Below w.heap.size w w') ?_ ?_
                             rotate_left
                             ·intro hJ1
                              refine join_ (σ := Nat) 8 #[true, false, true, false, true, false, true, false, false, false, false, false] (fun s => [(7, .pointer (some ⟨s, 0, none⟩))]) (fun s w' => Row w' s .u64 5 (fun _ => 0) 27 ∧ Row w' w.heap.size .u8 32 a0 22 ∧ Row w' (w.heap.size + 1) .u8 32 a1 22 ∧ Row w' (w.heap.size + 1 + 1) .u8 32 a2 22 ∧ Below w.heap.size w w' ∧ (w.heap.size + 1 + 1) < s) ?_ ?_
                              rotate_left
                              ·intro hJ6
                               refine join_ (σ := Nat) 8 #[true, false, true, false, true, false, false, true, false, false, false, false] (fun s => [(8, .pointer (some ⟨s, 0, none⟩))]) (fun s w' => Row w' s .u64 5 (fun _ => 0) 27 ∧ Row w' w.heap.size .u8 32 a0 22 ∧ Row w' (w.heap.size + 1) .u8 32 a1 22 ∧ Row w' (w.heap.size + 1 + 1) .u8 32 a2 22 ∧ Below w.heap.size w w' ∧ (w.heap.size + 1 + 1) < s) ?_ ?_
                               rotate_left
                               ·intro hJ7
                                refine join_ (σ := Nat) 8 #[true, false, true, false, true, false, false, false, true, false, false, false] (fun s => [(9, .pointer (some ⟨s, 0, none⟩))]) (fun s w' => Row w' s .u64 5 (fun _ => 0) 27 ∧ Row w' w.heap.size .u8 32 a0 22 ∧ Row w' (w.heap.size + 1) .u8 32 a1 22 ∧ Row w' (w.heap.size + 1 + 1) .u8 32 a2 22 ∧ Below w.heap.size w w' ∧ (w.heap.size + 1 + 1) < s) ?_ ?_
                                rotate_left
                                ·intro hJ8
                                 refine four_ (i := 1) (j := 6) (k := 7) (m := 8) (Ni := some 14) (Nj := some 7) (Nk := some 8) (Nm := some 9) #[true, true, true, false, true, false, false, false, false, false, false, false] #[true, false, true, false, true, false, true, false, false, false, false, false] #[true, false, true, false, true, false, false, true, false, false, false, false] #[true, false, true, false, true, false, false, false, true, false, false, false] rfl rfl rfl rfl rfl rfl rfl rfl (by kernel_rfl) (by decide) (by decide) (by decide) (by decide) (fun K hK => ?_) (fun K hK => ?_) (fun K hK => ?_) (fun K hK => ?_)
                                 · skip
                                   refine goes_ Try.func13 rfl rfl #[.agg (FR .u8 32 a0)] rfl rfl rfl (by simp only [List.map_toArray, List.map_cons, List.map_nil]; rfl) ((Of_elem_calls a0 _ HA0.out).mono ?_)
                                   rintro e wf1 ⟨rfl, hb⟩
                                   have hSn : Row wf1 w.heap.size .u8 32 a0 22 ∧ Row wf1 (w.heap.size + 1) .u8 32 a1 22 ∧ Row wf1 (w.heap.size + 1 + 1) .u8 32 a2 22 := ⟨hHeld.1.below hb hHeld.1.lt, hHeld.2.1.below hb hHeld.2.1.lt, hHeld.2.2.below hb hHeld.2.2.lt⟩
                                   have HBf := Aside0.mk (HBd.out.trans (hb.mono HBd.out.size))
                                   clear hb
                                   refine ⟨_, rfl, hK.out _ _ hSn (fun hHeld => ?_)⟩
                                   clear hSn hK K
                                   refine norm_ (a' := ?_) ?_ ?_
                                   rotate_left
                                   · show Act.put _ (some 14) _ = _
                                     simp only [Act.put, List.setIfInBounds_toArray, List.set_cons_zero, List.set_cons_succ, i64_w, i32_w]
                                     rfl
                                   exact norm_ (by first | (simp only [putAll, Act.put, List.setIfInBounds_toArray, List.set_cons_zero, List.set_cons_succ]; done) | (simp only [putAll, Act.put, List.setIfInBounds_toArray, List.set_cons_zero, List.set_cons_succ]; rfl)) (hJ1 () _ ⟨hHeld.1, hHeld.2.1, hHeld.2.2, HBf.out⟩)
                                 · skip
                                   refine event_step (by rfl) (v := .pointer (some ⟨w6.heap.size, 0, none⟩)) (w1 := w6.alloc (.cells (FR .u64 5 fun _ => 0) 27)) (by first | (go_simp; done) | (go_simp; rfl)) ?_
                                   have hSn : Row (w6.alloc (.cells (FR .u64 5 fun _ => 0) 27)) w.heap.size .u8 32 a0 22 ∧ Row (w6.alloc (.cells (FR .u64 5 fun _ => 0) 27)) (w.heap.size + 1) .u8 32 a1 22 ∧ Row (w6.alloc (.cells (FR .u64 5 fun _ => 0) 27)) (w.heap.size + 1 + 1) .u8 32 a2 22 := ⟨hHeld.1.alloc _, hHeld.2.1.alloc _, hHeld.2.2.alloc _⟩
                                   have HBf := Aside0.mk (HBd.out.alloc HBd.out.size (.cells (FR .u64 5 fun _ => 0) 27))
                                   have hlo6 : (w.heap.size + 1 + 1) < w6.heap.size := hHeld.2.2.lt
                                   have HR6 := Aside0.mk (Row.new w6 .u64 5 (fun _ => 0) 27)
                                   generalize w6.alloc (.cells (FR .u64 5 fun _ => 0) 27) = wf2 at hSn HBf HR6 ⊢
                                   refine hK.out _ _ hSn (fun hHeld => ?_)
                                   clear hSn hK K
                                   refine norm_ (a' := ?_) ?_ ?_
                                   rotate_left
                                   · show Act.put _ (some 7) _ = _
                                     simp only [Act.put, List.setIfInBounds_toArray, List.set_cons_zero, List.set_cons_succ, i64_w, i32_w]
                                     rfl
                                   exact norm_ (by first | (simp only [putAll, Act.put, List.setIfInBounds_toArray, List.set_cons_zero, List.set_cons_succ]; done) | (simp only [putAll, Act.put, List.setIfInBounds_toArray, List.set_cons_zero, List.set_cons_succ]; rfl)) (hJ6 w6.heap.size _ ⟨HR6.out, hHeld.1, hHeld.2.1, hHeld.2.2, HBf.out, hlo6⟩)
                                 · skip
                                   refine event_step (by rfl) (v := .pointer (some ⟨w6.heap.size, 0, none⟩)) (w1 := w6.alloc (.cells (FR .u64 5 fun _ => 0) 27)) (by first | (go_simp; done) | (go_simp; rfl)) ?_
                                   have hSn : Row (w6.alloc (.cells (FR .u64 5 fun _ => 0) 27)) w.heap.size .u8 32 a0 22 ∧ Row (w6.alloc (.cells (FR .u64 5 fun _ => 0) 27)) (w.heap.size + 1) .u8 32 a1 22 ∧ Row (w6.alloc (.cells (FR .u64 5 fun _ => 0) 27)) (w.heap.size + 1 + 1) .u8 32 a2 22 := ⟨hHeld.1.alloc _, hHeld.2.1.alloc _, hHeld.2.2.alloc _⟩
                                   have HBf := Aside0.mk (HBd.out.alloc HBd.out.size (.cells (FR .u64 5 fun _ => 0) 27))
                                   have hlo7 : (w.heap.size + 1 + 1) < w6.heap.size := hHeld.2.2.lt
                                   have HR7 := Aside0.mk (Row.new w6 .u64 5 (fun _ => 0) 27)
                                   generalize w6.alloc (.cells (FR .u64 5 fun _ => 0) 27) = wf3 at hSn HBf HR7 ⊢
                                   refine hK.out _ _ hSn (fun hHeld => ?_)
                                   clear hSn hK K
                                   refine norm_ (a' := ?_) ?_ ?_
                                   rotate_left
                                   · show Act.put _ (some 8) _ = _
                                     simp only [Act.put, List.setIfInBounds_toArray, List.set_cons_zero, List.set_cons_succ, i64_w, i32_w]
                                     rfl
                                   exact norm_ (by first | (simp only [putAll, Act.put, List.setIfInBounds_toArray, List.set_cons_zero, List.set_cons_succ]; done) | (simp only [putAll, Act.put, List.setIfInBounds_toArray, List.set_cons_zero, List.set_cons_succ]; rfl)) (hJ7 w6.heap.size _ ⟨HR7.out, hHeld.1, hHeld.2.1, hHeld.2.2, HBf.out, hlo7⟩)
                                 · skip
                                   refine event_step (by rfl) (v := .pointer (some ⟨w6.heap.size, 0, none⟩)) (w1 := w6.alloc (.cells (FR .u64 5 fun _ => 0) 27)) (by first | (go_simp; done) | (go_simp; rfl)) ?_
                                   have hSn : Row (w6.alloc (.cells (FR .u64 5 fun _ => 0) 27)) w.heap.size .u8 32 a0 22 ∧ Row (w6.alloc (.cells (FR .u64 5 fun _ => 0) 27)) (w.heap.size + 1) .u8 32 a1 22 ∧ Row (w6.alloc (.cells (FR .u64 5 fun _ => 0) 27)) (w.heap.size + 1 + 1) .u8 32 a2 22 := ⟨hHeld.1.alloc _, hHeld.2.1.alloc _, hHeld.2.2.alloc _⟩
                                   have HBf := Aside0.mk (HBd.out.alloc HBd.out.size (.cells (FR .u64 5 fun _ => 0) 27))
                                   have hlo8 : (w.heap.size + 1 + 1) < w6.heap.size := hHeld.2.2.lt
                                   have HR8 := Aside0.mk (Row.new w6 .u64 5 (fun _ => 0) 27)
                                   generalize w6.alloc (.cells (FR .u64 5 fun _ => 0) 27) = wf4 at hSn HBf HR8 ⊢
                                   refine hK.out _ _ hSn (fun hHeld => ?_)
                                   clear hSn hK K
                                   refine norm_ (a' := ?_) ?_ ?_
                                   rotate_left
                                   · show Act.put _ (some 9) _ = _
                                     simp only [Act.put, List.setIfInBounds_toArray, List.set_cons_zero, List.set_cons_succ, i64_w, i32_w]
                                     rfl
                                   exact norm_ (by first | (simp only [putAll, Act.put, List.setIfInBounds_toArray, List.set_cons_zero, List.set_cons_succ]; done) | (simp only [putAll, Act.put, List.setIfInBounds_toArray, List.set_cons_zero, List.set_cons_succ]; rfl)) (hJ8 w6.heap.size _ ⟨HR8.out, hHeld.1, hHeld.2.1, hHeld.2.2, HBf.out, hlo8⟩)
                                ·skip
                                 rintro n8 wg ⟨HX8, hq0, hq1, hq2, hbj, hlo8⟩
                                 have HX8 := Aside0.mk HX8
                                 have HBj := Aside0.mk hbj
                                 clear hbj
                                 have hHeld : Row wg w.heap.size .u8 32 a0 22 ∧ Row wg (w.heap.size + 1) .u8 32 a1 22 ∧ Row wg (w.heap.size + 1 + 1) .u8 32 a2 22 := ⟨hq0, hq1, hq2⟩
                                 clear hq0 hq1 hq2
                                 refine norm_ (a' := ?_) ?_ ?_
                                 rotate_left
                                 · simp only [putAll, Act.put, List.setIfInBounds_toArray, List.set_cons_zero, List.set_cons_succ]
                                   rfl
                                 refine three_ (i := 1) (j := 6) (k := 7) (Ni := some 14) (Nj := some 7) (Nk := some 8) #[true, true, true, false, true, false, false, false, true, false, false, false] #[true, false, true, false, true, false, true, false, true, false, false, false] #[true, false, true, false, true, false, false, true, true, false, false, false] rfl rfl rfl rfl rfl rfl (by kernel_rfl) (by decide) (by decide) (by decide) (fun K hK => ?_) (fun K hK => ?_) (fun K hK => ?_)
                                 · skip
                                   refine goes_ Try.func13 rfl rfl #[.agg (FR .u8 32 a0)] rfl rfl rfl (by simp only [List.map_toArray, List.map_cons, List.map_nil]; rfl) ((Of_elem_calls a0 _ HA0.out).mono ?_)
                                   rintro e wf5 ⟨rfl, hb⟩
                                   have hSn : Row wf5 w.heap.size .u8 32 a0 22 ∧ Row wf5 (w.heap.size + 1) .u8 32 a1 22 ∧ Row wf5 (w.heap.size + 1 + 1) .u8 32 a2 22 := ⟨hHeld.1.below hb hHeld.1.lt, hHeld.2.1.below hb hHeld.2.1.lt, hHeld.2.2.below hb hHeld.2.2.lt⟩
                                   have HBf := Aside0.mk (HBj.out.trans (hb.mono HBj.out.size))
                                   have HR8 := Aside0.mk (HX8.out.below hb HX8.out.lt)
                                   clear hb
                                   refine ⟨_, rfl, hK.out _ _ hSn (fun hHeld => ?_)⟩
                                   clear hSn hK K
                                   refine norm_ (a' := ?_) ?_ ?_
                                   rotate_left
                                   · show Act.put _ (some 14) _ = _
                                     simp only [Act.put, List.setIfInBounds_toArray, List.set_cons_zero, List.set_cons_succ, i64_w, i32_w]
                                     rfl
                                   exact norm_ (by first | (simp only [putAll, Act.put, List.setIfInBounds_toArray, List.set_cons_zero, List.set_cons_succ]; done) | (simp only [putAll, Act.put, List.setIfInBounds_toArray, List.set_cons_zero, List.set_cons_succ]; rfl)) (hJ1_8 n8 _ ⟨HR8.out, hHeld.1, hHeld.2.1, hHeld.2.2, HBf.out, hlo8⟩)
                                 · skip
                                   refine event_step (by rfl) (v := .pointer (some ⟨wg.heap.size, 0, none⟩)) (w1 := wg.alloc (.cells (FR .u64 5 fun _ => 0) 27)) (by first | (go_simp; done) | (go_simp; rfl)) ?_
                                   have hSn : Row (wg.alloc (.cells (FR .u64 5 fun _ => 0) 27)) w.heap.size .u8 32 a0 22 ∧ Row (wg.alloc (.cells (FR .u64 5 fun _ => 0) 27)) (w.heap.size + 1) .u8 32 a1 22 ∧ Row (wg.alloc (.cells (FR .u64 5 fun _ => 0) 27)) (w.heap.size + 1 + 1) .u8 32 a2 22 := ⟨hHeld.1.alloc _, hHeld.2.1.alloc _, hHeld.2.2.alloc _⟩
                                   have HBf := Aside0.mk (HBj.out.alloc HBj.out.size (.cells (FR .u64 5 fun _ => 0) 27))
                                   have hlo6 : (w.heap.size + 1 + 1) < wg.heap.size := hHeld.2.2.lt
                                   have hne8_6 : n8 ≠ wg.heap.size := by have := HX8.out.lt; omega
                                   have HR8 := Aside0.mk (HX8.out.alloc (.cells (FR .u64 5 fun _ => 0) 27))
                                   have HR6 := Aside0.mk (Row.new wg .u64 5 (fun _ => 0) 27)
                                   generalize wg.alloc (.cells (FR .u64 5 fun _ => 0) 27) = wf6 at hSn HBf HR8 HR6 ⊢
                                   refine hK.out _ _ hSn (fun hHeld => ?_)
                                   clear hSn hK K
                                   refine norm_ (a' := ?_) ?_ ?_
                                   rotate_left
                                   · show Act.put _ (some 7) _ = _
                                     simp only [Act.put, List.setIfInBounds_toArray, List.set_cons_zero, List.set_cons_succ, i64_w, i32_w]
                                     rfl
                                   exact norm_ (by first | (simp only [putAll, Act.put, List.setIfInBounds_toArray, List.set_cons_zero, List.set_cons_succ]; done) | (simp only [putAll, Act.put, List.setIfInBounds_toArray, List.set_cons_zero, List.set_cons_succ]; rfl)) (hJ6_8 (wg.heap.size, n8) _ ⟨HR6.out, HR8.out, hHeld.1, hHeld.2.1, hHeld.2.2, HBf.out, hlo6, hlo8, hne8_6⟩)
                                 · skip
                                   refine event_step (by rfl) (v := .pointer (some ⟨wg.heap.size, 0, none⟩)) (w1 := wg.alloc (.cells (FR .u64 5 fun _ => 0) 27)) (by first | (go_simp; done) | (go_simp; rfl)) ?_
                                   have hSn : Row (wg.alloc (.cells (FR .u64 5 fun _ => 0) 27)) w.heap.size .u8 32 a0 22 ∧ Row (wg.alloc (.cells (FR .u64 5 fun _ => 0) 27)) (w.heap.size + 1) .u8 32 a1 22 ∧ Row (wg.alloc (.cells (FR .u64 5 fun _ => 0) 27)) (w.heap.size + 1 + 1) .u8 32 a2 22 := ⟨hHeld.1.alloc _, hHeld.2.1.alloc _, hHeld.2.2.alloc _⟩
                                   have HBf := Aside0.mk (HBj.out.alloc HBj.out.size (.cells (FR .u64 5 fun _ => 0) 27))
                                   have hlo7 : (w.heap.size + 1 + 1) < wg.heap.size := hHeld.2.2.lt
                                   have hne8_7 : n8 ≠ wg.heap.size := by have := HX8.out.lt; omega
                                   have HR8 := Aside0.mk (HX8.out.alloc (.cells (FR .u64 5 fun _ => 0) 27))
                                   have HR7 := Aside0.mk (Row.new wg .u64 5 (fun _ => 0) 27)
                                   generalize wg.alloc (.cells (FR .u64 5 fun _ => 0) 27) = wf7 at hSn HBf HR8 HR7 ⊢
                                   refine hK.out _ _ hSn (fun hHeld => ?_)
                                   clear hSn hK K
                                   refine norm_ (a' := ?_) ?_ ?_
                                   rotate_left
                                   · show Act.put _ (some 8) _ = _
                                     simp only [Act.put, List.setIfInBounds_toArray, List.set_cons_zero, List.set_cons_succ, i64_w, i32_w]
                                     rfl
                                   exact norm_ (by first | (simp only [putAll, Act.put, List.setIfInBounds_toArray, List.set_cons_zero, List.set_cons_succ]; done) | (simp only [putAll, Act.put, List.setIfInBounds_toArray, List.set_cons_zero, List.set_cons_succ]; rfl)) (hJ7_8 (wg.heap.size, n8) _ ⟨HR7.out, HR8.out, hHeld.1, hHeld.2.1, hHeld.2.2, HBf.out, hlo7, hlo8, hne8_7⟩)
                               ·skip
                                rintro n7 wg ⟨HX7, hq0, hq1, hq2, hbj, hlo7⟩
                                have HX7 := Aside0.mk HX7
                                have HBj := Aside0.mk hbj
                                clear hbj
                                have hHeld : Row wg w.heap.size .u8 32 a0 22 ∧ Row wg (w.heap.size + 1) .u8 32 a1 22 ∧ Row wg (w.heap.size + 1 + 1) .u8 32 a2 22 := ⟨hq0, hq1, hq2⟩
                                clear hq0 hq1 hq2
                                refine norm_ (a' := ?_) ?_ ?_
                                rotate_left
                                · simp only [putAll, Act.put, List.setIfInBounds_toArray, List.set_cons_zero, List.set_cons_succ]
                                  rfl
                                refine three_ (i := 1) (j := 6) (k := 8) (Ni := some 14) (Nj := some 7) (Nk := some 9) #[true, true, true, false, true, false, false, true, false, false, false, false] #[true, false, true, false, true, false, true, true, false, false, false, false] #[true, false, true, false, true, false, false, true, true, false, false, false] rfl rfl rfl rfl rfl rfl (by kernel_rfl) (by decide) (by decide) (by decide) (fun K hK => ?_) (fun K hK => ?_) (fun K hK => ?_)
                                · skip
                                  refine goes_ Try.func13 rfl rfl #[.agg (FR .u8 32 a0)] rfl rfl rfl (by simp only [List.map_toArray, List.map_cons, List.map_nil]; rfl) ((Of_elem_calls a0 _ HA0.out).mono ?_)
                                  rintro e wf8 ⟨rfl, hb⟩
                                  have hSn : Row wf8 w.heap.size .u8 32 a0 22 ∧ Row wf8 (w.heap.size + 1) .u8 32 a1 22 ∧ Row wf8 (w.heap.size + 1 + 1) .u8 32 a2 22 := ⟨hHeld.1.below hb hHeld.1.lt, hHeld.2.1.below hb hHeld.2.1.lt, hHeld.2.2.below hb hHeld.2.2.lt⟩
                                  have HBf := Aside0.mk (HBj.out.trans (hb.mono HBj.out.size))
                                  have HR7 := Aside0.mk (HX7.out.below hb HX7.out.lt)
                                  clear hb
                                  refine ⟨_, rfl, hK.out _ _ hSn (fun hHeld => ?_)⟩
                                  clear hSn hK K
                                  refine norm_ (a' := ?_) ?_ ?_
                                  rotate_left
                                  · show Act.put _ (some 14) _ = _
                                    simp only [Act.put, List.setIfInBounds_toArray, List.set_cons_zero, List.set_cons_succ, i64_w, i32_w]
                                    rfl
                                  exact norm_ (by first | (simp only [putAll, Act.put, List.setIfInBounds_toArray, List.set_cons_zero, List.set_cons_succ]; done) | (simp only [putAll, Act.put, List.setIfInBounds_toArray, List.set_cons_zero, List.set_cons_succ]; rfl)) (hJ1_7 n7 _ ⟨HR7.out, hHeld.1, hHeld.2.1, hHeld.2.2, HBf.out, hlo7⟩)
                                · skip
                                  refine event_step (by rfl) (v := .pointer (some ⟨wg.heap.size, 0, none⟩)) (w1 := wg.alloc (.cells (FR .u64 5 fun _ => 0) 27)) (by first | (go_simp; done) | (go_simp; rfl)) ?_
                                  have hSn : Row (wg.alloc (.cells (FR .u64 5 fun _ => 0) 27)) w.heap.size .u8 32 a0 22 ∧ Row (wg.alloc (.cells (FR .u64 5 fun _ => 0) 27)) (w.heap.size + 1) .u8 32 a1 22 ∧ Row (wg.alloc (.cells (FR .u64 5 fun _ => 0) 27)) (w.heap.size + 1 + 1) .u8 32 a2 22 := ⟨hHeld.1.alloc _, hHeld.2.1.alloc _, hHeld.2.2.alloc _⟩
                                  have HBf := Aside0.mk (HBj.out.alloc HBj.out.size (.cells (FR .u64 5 fun _ => 0) 27))
                                  have hlo6 : (w.heap.size + 1 + 1) < wg.heap.size := hHeld.2.2.lt
                                  have hne7_6 : n7 ≠ wg.heap.size := by have := HX7.out.lt; omega
                                  have HR7 := Aside0.mk (HX7.out.alloc (.cells (FR .u64 5 fun _ => 0) 27))
                                  have HR6 := Aside0.mk (Row.new wg .u64 5 (fun _ => 0) 27)
                                  generalize wg.alloc (.cells (FR .u64 5 fun _ => 0) 27) = wf9 at hSn HBf HR7 HR6 ⊢
                                  refine hK.out _ _ hSn (fun hHeld => ?_)
                                  clear hSn hK K
                                  refine norm_ (a' := ?_) ?_ ?_
                                  rotate_left
                                  · show Act.put _ (some 7) _ = _
                                    simp only [Act.put, List.setIfInBounds_toArray, List.set_cons_zero, List.set_cons_succ, i64_w, i32_w]
                                    rfl
                                  exact norm_ (by first | (simp only [putAll, Act.put, List.setIfInBounds_toArray, List.set_cons_zero, List.set_cons_succ]; done) | (simp only [putAll, Act.put, List.setIfInBounds_toArray, List.set_cons_zero, List.set_cons_succ]; rfl)) (hJ6_7 (wg.heap.size, n7) _ ⟨HR6.out, HR7.out, hHeld.1, hHeld.2.1, hHeld.2.2, HBf.out, hlo6, hlo7, hne7_6⟩)
                                · skip
                                  refine event_step (by rfl) (v := .pointer (some ⟨wg.heap.size, 0, none⟩)) (w1 := wg.alloc (.cells (FR .u64 5 fun _ => 0) 27)) (by first | (go_simp; done) | (go_simp; rfl)) ?_
                                  have hSn : Row (wg.alloc (.cells (FR .u64 5 fun _ => 0) 27)) w.heap.size .u8 32 a0 22 ∧ Row (wg.alloc (.cells (FR .u64 5 fun _ => 0) 27)) (w.heap.size + 1) .u8 32 a1 22 ∧ Row (wg.alloc (.cells (FR .u64 5 fun _ => 0) 27)) (w.heap.size + 1 + 1) .u8 32 a2 22 := ⟨hHeld.1.alloc _, hHeld.2.1.alloc _, hHeld.2.2.alloc _⟩
                                  have HBf := Aside0.mk (HBj.out.alloc HBj.out.size (.cells (FR .u64 5 fun _ => 0) 27))
                                  have hlo8 : (w.heap.size + 1 + 1) < wg.heap.size := hHeld.2.2.lt
                                  have hne8_7 : wg.heap.size ≠ n7 := by have := HX7.out.lt; omega
                                  have HR7 := Aside0.mk (HX7.out.alloc (.cells (FR .u64 5 fun _ => 0) 27))
                                  have HR8 := Aside0.mk (Row.new wg .u64 5 (fun _ => 0) 27)
                                  generalize wg.alloc (.cells (FR .u64 5 fun _ => 0) 27) = wf10 at hSn HBf HR7 HR8 ⊢
                                  refine hK.out _ _ hSn (fun hHeld => ?_)
                                  clear hSn hK K
                                  refine norm_ (a' := ?_) ?_ ?_
                                  rotate_left
                                  · show Act.put _ (some 9) _ = _
                                    simp only [Act.put, List.setIfInBounds_toArray, List.set_cons_zero, List.set_cons_succ, i64_w, i32_w]
                                    rfl
                                  exact norm_ (by first | (simp only [putAll, Act.put, List.setIfInBounds_toArray, List.set_cons_zero, List.set_cons_succ]; done) | (simp only [putAll, Act.put, List.setIfInBounds_toArray, List.set_cons_zero, List.set_cons_succ]; rfl)) (hJ7_8 (n7, wg.heap.size) _ ⟨HR7.out, HR8.out, hHeld.1, hHeld.2.1, hHeld.2.2, HBf.out, hlo7, hlo8, hne8_7⟩)
                              ·skip
                               rintro n6 wg ⟨HX6, hq0, hq1, hq2, hbj, hlo6⟩
                               have HX6 := Aside0.mk HX6
                               have HBj := Aside0.mk hbj
                               clear hbj
                               have hHeld : Row wg w.heap.size .u8 32 a0 22 ∧ Row wg (w.heap.size + 1) .u8 32 a1 22 ∧ Row wg (w.heap.size + 1 + 1) .u8 32 a2 22 := ⟨hq0, hq1, hq2⟩
                               clear hq0 hq1 hq2
                               refine norm_ (a' := ?_) ?_ ?_
                               rotate_left
                               · simp only [putAll, Act.put, List.setIfInBounds_toArray, List.set_cons_zero, List.set_cons_succ]
                                 rfl
                               refine three_ (i := 1) (j := 7) (k := 8) (Ni := some 14) (Nj := some 8) (Nk := some 9) #[true, true, true, false, true, false, true, false, false, false, false, false] #[true, false, true, false, true, false, true, true, false, false, false, false] #[true, false, true, false, true, false, true, false, true, false, false, false] rfl rfl rfl rfl rfl rfl (by kernel_rfl) (by decide) (by decide) (by decide) (fun K hK => ?_) (fun K hK => ?_) (fun K hK => ?_)
                               · skip
                                 refine goes_ Try.func13 rfl rfl #[.agg (FR .u8 32 a0)] rfl rfl rfl (by simp only [List.map_toArray, List.map_cons, List.map_nil]; rfl) ((Of_elem_calls a0 _ HA0.out).mono ?_)
                                 rintro e wf11 ⟨rfl, hb⟩
                                 have hSn : Row wf11 w.heap.size .u8 32 a0 22 ∧ Row wf11 (w.heap.size + 1) .u8 32 a1 22 ∧ Row wf11 (w.heap.size + 1 + 1) .u8 32 a2 22 := ⟨hHeld.1.below hb hHeld.1.lt, hHeld.2.1.below hb hHeld.2.1.lt, hHeld.2.2.below hb hHeld.2.2.lt⟩
                                 have HBf := Aside0.mk (HBj.out.trans (hb.mono HBj.out.size))
                                 have HR6 := Aside0.mk (HX6.out.below hb HX6.out.lt)
                                 clear hb
                                 refine ⟨_, rfl, hK.out _ _ hSn (fun hHeld => ?_)⟩
                                 clear hSn hK K
                                 refine norm_ (a' := ?_) ?_ ?_
                                 rotate_left
                                 · show Act.put _ (some 14) _ = _
                                   simp only [Act.put, List.setIfInBounds_toArray, List.set_cons_zero, List.set_cons_succ, i64_w, i32_w]
                                   rfl
                                 exact norm_ (by first | (simp only [putAll, Act.put, List.setIfInBounds_toArray, List.set_cons_zero, List.set_cons_succ]; done) | (simp only [putAll, Act.put, List.setIfInBounds_toArray, List.set_cons_zero, List.set_cons_succ]; rfl)) (hJ1_6 n6 _ ⟨HR6.out, hHeld.1, hHeld.2.1, hHeld.2.2, HBf.out, hlo6⟩)
                               · skip
                                 refine event_step (by rfl) (v := .pointer (some ⟨wg.heap.size, 0, none⟩)) (w1 := wg.alloc (.cells (FR .u64 5 fun _ => 0) 27)) (by first | (go_simp; done) | (go_simp; rfl)) ?_
                                 have hSn : Row (wg.alloc (.cells (FR .u64 5 fun _ => 0) 27)) w.heap.size .u8 32 a0 22 ∧ Row (wg.alloc (.cells (FR .u64 5 fun _ => 0) 27)) (w.heap.size + 1) .u8 32 a1 22 ∧ Row (wg.alloc (.cells (FR .u64 5 fun _ => 0) 27)) (w.heap.size + 1 + 1) .u8 32 a2 22 := ⟨hHeld.1.alloc _, hHeld.2.1.alloc _, hHeld.2.2.alloc _⟩
                                 have HBf := Aside0.mk (HBj.out.alloc HBj.out.size (.cells (FR .u64 5 fun _ => 0) 27))
                                 have hlo7 : (w.heap.size + 1 + 1) < wg.heap.size := hHeld.2.2.lt
                                 have hne7_6 : wg.heap.size ≠ n6 := by have := HX6.out.lt; omega
                                 have HR6 := Aside0.mk (HX6.out.alloc (.cells (FR .u64 5 fun _ => 0) 27))
                                 have HR7 := Aside0.mk (Row.new wg .u64 5 (fun _ => 0) 27)
                                 generalize wg.alloc (.cells (FR .u64 5 fun _ => 0) 27) = wf12 at hSn HBf HR6 HR7 ⊢
                                 refine hK.out _ _ hSn (fun hHeld => ?_)
                                 clear hSn hK K
                                 refine norm_ (a' := ?_) ?_ ?_
                                 rotate_left
                                 · show Act.put _ (some 8) _ = _
                                   simp only [Act.put, List.setIfInBounds_toArray, List.set_cons_zero, List.set_cons_succ, i64_w, i32_w]
                                   rfl
                                 exact norm_ (by first | (simp only [putAll, Act.put, List.setIfInBounds_toArray, List.set_cons_zero, List.set_cons_succ]; done) | (simp only [putAll, Act.put, List.setIfInBounds_toArray, List.set_cons_zero, List.set_cons_succ]; rfl)) (hJ6_7 (n6, wg.heap.size) _ ⟨HR6.out, HR7.out, hHeld.1, hHeld.2.1, hHeld.2.2, HBf.out, hlo6, hlo7, hne7_6⟩)
                               · skip
                                 refine event_step (by rfl) (v := .pointer (some ⟨wg.heap.size, 0, none⟩)) (w1 := wg.alloc (.cells (FR .u64 5 fun _ => 0) 27)) (by first | (go_simp; done) | (go_simp; rfl)) ?_
                                 have hSn : Row (wg.alloc (.cells (FR .u64 5 fun _ => 0) 27)) w.heap.size .u8 32 a0 22 ∧ Row (wg.alloc (.cells (FR .u64 5 fun _ => 0) 27)) (w.heap.size + 1) .u8 32 a1 22 ∧ Row (wg.alloc (.cells (FR .u64 5 fun _ => 0) 27)) (w.heap.size + 1 + 1) .u8 32 a2 22 := ⟨hHeld.1.alloc _, hHeld.2.1.alloc _, hHeld.2.2.alloc _⟩
                                 have HBf := Aside0.mk (HBj.out.alloc HBj.out.size (.cells (FR .u64 5 fun _ => 0) 27))
                                 have hlo8 : (w.heap.size + 1 + 1) < wg.heap.size := hHeld.2.2.lt
                                 have hne8_6 : wg.heap.size ≠ n6 := by have := HX6.out.lt; omega
                                 have HR6 := Aside0.mk (HX6.out.alloc (.cells (FR .u64 5 fun _ => 0) 27))
                                 have HR8 := Aside0.mk (Row.new wg .u64 5 (fun _ => 0) 27)
                                 generalize wg.alloc (.cells (FR .u64 5 fun _ => 0) 27) = wf13 at hSn HBf HR6 HR8 ⊢
                                 refine hK.out _ _ hSn (fun hHeld => ?_)
                                 clear hSn hK K
                                 refine norm_ (a' := ?_) ?_ ?_
                                 rotate_left
                                 · show Act.put _ (some 9) _ = _
                                   simp only [Act.put, List.setIfInBounds_toArray, List.set_cons_zero, List.set_cons_succ, i64_w, i32_w]
                                   rfl
                                 exact norm_ (by first | (simp only [putAll, Act.put, List.setIfInBounds_toArray, List.set_cons_zero, List.set_cons_succ]; done) | (simp only [putAll, Act.put, List.setIfInBounds_toArray, List.set_cons_zero, List.set_cons_succ]; rfl)) (hJ6_8 (n6, wg.heap.size) _ ⟨HR6.out, HR8.out, hHeld.1, hHeld.2.1, hHeld.2.2, HBf.out, hlo6, hlo8, hne8_6⟩)
                             ·skip
                              rintro _ wg ⟨hq0, hq1, hq2, hbj⟩
                              have HBj := Aside0.mk hbj
                              clear hbj
                              have hHeld : Row wg w.heap.size .u8 32 a0 22 ∧ Row wg (w.heap.size + 1) .u8 32 a1 22 ∧ Row wg (w.heap.size + 1 + 1) .u8 32 a2 22 := ⟨hq0, hq1, hq2⟩
                              clear hq0 hq1 hq2
                              refine norm_ (a' := ?_) ?_ ?_
                              rotate_left
                              · simp only [putAll, Act.put, List.setIfInBounds_toArray, List.set_cons_zero, List.set_cons_succ]
                                rfl
                              refine four_ (i := 3) (j := 6) (k := 7) (m := 8) (Ni := some 16) (Nj := some 7) (Nk := some 8) (Nm := some 9) #[true, true, true, true, true, false, false, false, false, false, false, false] #[true, true, true, false, true, false, true, false, false, false, false, false] #[true, true, true, false, true, false, false, true, false, false, false, false] #[true, true, true, false, true, false, false, false, true, false, false, false] rfl rfl rfl rfl rfl rfl rfl rfl (by kernel_rfl) (by decide) (by decide) (by decide) (by decide) (fun K hK => ?_) (fun K hK => ?_) (fun K hK => ?_) (fun K hK => ?_)
                              · skip
                                refine goes_ Try.func13 rfl rfl #[.agg (FR .u8 32 a1)] rfl rfl rfl (by simp only [List.map_toArray, List.map_cons, List.map_nil]; rfl) ((Of_elem_calls a1 _ HA1.out).mono ?_)
                                rintro e wf14 ⟨rfl, hb⟩
                                have hSn : Row wf14 w.heap.size .u8 32 a0 22 ∧ Row wf14 (w.heap.size + 1) .u8 32 a1 22 ∧ Row wf14 (w.heap.size + 1 + 1) .u8 32 a2 22 := ⟨hHeld.1.below hb hHeld.1.lt, hHeld.2.1.below hb hHeld.2.1.lt, hHeld.2.2.below hb hHeld.2.2.lt⟩
                                have HBf := Aside0.mk (HBj.out.trans (hb.mono HBj.out.size))
                                clear hb
                                refine ⟨_, rfl, hK.out _ _ hSn (fun hHeld => ?_)⟩
                                clear hSn hK K
                                refine norm_ (a' := ?_) ?_ ?_
                                rotate_left
                                · show Act.put _ (some 16) _ = _
                                  simp only [Act.put, List.setIfInBounds_toArray, List.set_cons_zero, List.set_cons_succ, i64_w, i32_w]
                                  rfl
                                exact norm_ (by first | (simp only [putAll, Act.put, List.setIfInBounds_toArray, List.set_cons_zero, List.set_cons_succ]; done) | (simp only [putAll, Act.put, List.setIfInBounds_toArray, List.set_cons_zero, List.set_cons_succ]; rfl)) (hJ1_3 () _ ⟨hHeld.1, hHeld.2.1, hHeld.2.2, HBf.out⟩)
                              · skip
                                refine event_step (by rfl) (v := .pointer (some ⟨wg.heap.size, 0, none⟩)) (w1 := wg.alloc (.cells (FR .u64 5 fun _ => 0) 27)) (by first | (go_simp; done) | (go_simp; rfl)) ?_
                                have hSn : Row (wg.alloc (.cells (FR .u64 5 fun _ => 0) 27)) w.heap.size .u8 32 a0 22 ∧ Row (wg.alloc (.cells (FR .u64 5 fun _ => 0) 27)) (w.heap.size + 1) .u8 32 a1 22 ∧ Row (wg.alloc (.cells (FR .u64 5 fun _ => 0) 27)) (w.heap.size + 1 + 1) .u8 32 a2 22 := ⟨hHeld.1.alloc _, hHeld.2.1.alloc _, hHeld.2.2.alloc _⟩
                                have HBf := Aside0.mk (HBj.out.alloc HBj.out.size (.cells (FR .u64 5 fun _ => 0) 27))
                                have hlo6 : (w.heap.size + 1 + 1) < wg.heap.size := hHeld.2.2.lt
                                have HR6 := Aside0.mk (Row.new wg .u64 5 (fun _ => 0) 27)
                                generalize wg.alloc (.cells (FR .u64 5 fun _ => 0) 27) = wf15 at hSn HBf HR6 ⊢
                                refine hK.out _ _ hSn (fun hHeld => ?_)
                                clear hSn hK K
                                refine norm_ (a' := ?_) ?_ ?_
                                rotate_left
                                · show Act.put _ (some 7) _ = _
                                  simp only [Act.put, List.setIfInBounds_toArray, List.set_cons_zero, List.set_cons_succ, i64_w, i32_w]
                                  rfl
                                exact norm_ (by first | (simp only [putAll, Act.put, List.setIfInBounds_toArray, List.set_cons_zero, List.set_cons_succ]; done) | (simp only [putAll, Act.put, List.setIfInBounds_toArray, List.set_cons_zero, List.set_cons_succ]; rfl)) (hJ1_6 wg.heap.size _ ⟨HR6.out, hHeld.1, hHeld.2.1, hHeld.2.2, HBf.out, hlo6⟩)
                              · skip
                                refine event_step (by rfl) (v := .pointer (some ⟨wg.heap.size, 0, none⟩)) (w1 := wg.alloc (.cells (FR .u64 5 fun _ => 0) 27)) (by first | (go_simp; done) | (go_simp; rfl)) ?_
                                have hSn : Row (wg.alloc (.cells (FR .u64 5 fun _ => 0) 27)) w.heap.size .u8 32 a0 22 ∧ Row (wg.alloc (.cells (FR .u64 5 fun _ => 0) 27)) (w.heap.size + 1) .u8 32 a1 22 ∧ Row (wg.alloc (.cells (FR .u64 5 fun _ => 0) 27)) (w.heap.size + 1 + 1) .u8 32 a2 22 := ⟨hHeld.1.alloc _, hHeld.2.1.alloc _, hHeld.2.2.alloc _⟩
                                have HBf := Aside0.mk (HBj.out.alloc HBj.out.size (.cells (FR .u64 5 fun _ => 0) 27))
                                have hlo7 : (w.heap.size + 1 + 1) < wg.heap.size := hHeld.2.2.lt
                                have HR7 := Aside0.mk (Row.new wg .u64 5 (fun _ => 0) 27)
                                generalize wg.alloc (.cells (FR .u64 5 fun _ => 0) 27) = wf16 at hSn HBf HR7 ⊢
                                refine hK.out _ _ hSn (fun hHeld => ?_)
                                clear hSn hK K
                                refine norm_ (a' := ?_) ?_ ?_
                                rotate_left
                                · show Act.put _ (some 8) _ = _
                                  simp only [Act.put, List.setIfInBounds_toArray, List.set_cons_zero, List.set_cons_succ, i64_w, i32_w]
                                  rfl
                                exact norm_ (by first | (simp only [putAll, Act.put, List.setIfInBounds_toArray, List.set_cons_zero, List.set_cons_succ]; done) | (simp only [putAll, Act.put, List.setIfInBounds_toArray, List.set_cons_zero, List.set_cons_succ]; rfl)) (hJ1_7 wg.heap.size _ ⟨HR7.out, hHeld.1, hHeld.2.1, hHeld.2.2, HBf.out, hlo7⟩)
                              · skip
                                refine event_step (by rfl) (v := .pointer (some ⟨wg.heap.size, 0, none⟩)) (w1 := wg.alloc (.cells (FR .u64 5 fun _ => 0) 27)) (by first | (go_simp; done) | (go_simp; rfl)) ?_
                                have hSn : Row (wg.alloc (.cells (FR .u64 5 fun _ => 0) 27)) w.heap.size .u8 32 a0 22 ∧ Row (wg.alloc (.cells (FR .u64 5 fun _ => 0) 27)) (w.heap.size + 1) .u8 32 a1 22 ∧ Row (wg.alloc (.cells (FR .u64 5 fun _ => 0) 27)) (w.heap.size + 1 + 1) .u8 32 a2 22 := ⟨hHeld.1.alloc _, hHeld.2.1.alloc _, hHeld.2.2.alloc _⟩
                                have HBf := Aside0.mk (HBj.out.alloc HBj.out.size (.cells (FR .u64 5 fun _ => 0) 27))
                                have hlo8 : (w.heap.size + 1 + 1) < wg.heap.size := hHeld.2.2.lt
                                have HR8 := Aside0.mk (Row.new wg .u64 5 (fun _ => 0) 27)
                                generalize wg.alloc (.cells (FR .u64 5 fun _ => 0) 27) = wf17 at hSn HBf HR8 ⊢
                                refine hK.out _ _ hSn (fun hHeld => ?_)
                                clear hSn hK K
                                refine norm_ (a' := ?_) ?_ ?_
                                rotate_left
                                · show Act.put _ (some 9) _ = _
                                  simp only [Act.put, List.setIfInBounds_toArray, List.set_cons_zero, List.set_cons_succ, i64_w, i32_w]
                                  rfl
                                exact norm_ (by first | (simp only [putAll, Act.put, List.setIfInBounds_toArray, List.set_cons_zero, List.set_cons_succ]; done) | (simp only [putAll, Act.put, List.setIfInBounds_toArray, List.set_cons_zero, List.set_cons_succ]; rfl)) (hJ1_8 wg.heap.size _ ⟨HR8.out, hHeld.1, hHeld.2.1, hHeld.2.2, HBf.out, hlo8⟩)
                            ·skip
                             rintro ⟨n7, n8⟩ wg ⟨HX7, HX8, hq0, hq1, hq2, hbj, hlo7, hlo8, hne8_7⟩
                             have HX7 := Aside0.mk HX7
                             have HX8 := Aside0.mk HX8
                             have HBj := Aside0.mk hbj
                             clear hbj
                             have hHeld : Row wg w.heap.size .u8 32 a0 22 ∧ Row wg (w.heap.size + 1) .u8 32 a1 22 ∧ Row wg (w.heap.size + 1 + 1) .u8 32 a2 22 := ⟨hq0, hq1, hq2⟩
                             clear hq0 hq1 hq2
                             refine norm_ (a' := ?_) ?_ ?_
                             rotate_left
                             · simp only [putAll, Act.put, List.setIfInBounds_toArray, List.set_cons_zero, List.set_cons_succ]
                               rfl
                             refine two_ (i := 1) (j := 6) (Ni := some 14) (Nj := some 7) #[true, true, true, false, true, false, false, true, true, false, false, false] #[true, false, true, false, true, false, true, true, true, false, false, false] rfl rfl rfl rfl (by kernel_rfl) (by decide) (by decide) (fun K hK => ?_) (fun K hK => ?_)
                             · skip
                               refine goes_ Try.func13 rfl rfl #[.agg (FR .u8 32 a0)] rfl rfl rfl (by simp only [List.map_toArray, List.map_cons, List.map_nil]; rfl) ((Of_elem_calls a0 _ HA0.out).mono ?_)
                               rintro e wf18 ⟨rfl, hb⟩
                               have hSn : Row wf18 w.heap.size .u8 32 a0 22 ∧ Row wf18 (w.heap.size + 1) .u8 32 a1 22 ∧ Row wf18 (w.heap.size + 1 + 1) .u8 32 a2 22 := ⟨hHeld.1.below hb hHeld.1.lt, hHeld.2.1.below hb hHeld.2.1.lt, hHeld.2.2.below hb hHeld.2.2.lt⟩
                               have HBf := Aside0.mk (HBj.out.trans (hb.mono HBj.out.size))
                               have HR7 := Aside0.mk (HX7.out.below hb HX7.out.lt)
                               have HR8 := Aside0.mk (HX8.out.below hb HX8.out.lt)
                               clear hb
                               refine ⟨_, rfl, hK.out _ _ hSn (fun hHeld => ?_)⟩
                               clear hSn hK K
                               refine norm_ (a' := ?_) ?_ ?_
                               rotate_left
                               · show Act.put _ (some 14) _ = _
                                 simp only [Act.put, List.setIfInBounds_toArray, List.set_cons_zero, List.set_cons_succ, i64_w, i32_w]
                                 rfl
                               exact norm_ (by first | (simp only [putAll, Act.put, List.setIfInBounds_toArray, List.set_cons_zero, List.set_cons_succ]; done) | (simp only [putAll, Act.put, List.setIfInBounds_toArray, List.set_cons_zero, List.set_cons_succ]; rfl)) (hJ1_7_8 (n7, n8) _ ⟨HR7.out, HR8.out, hHeld.1, hHeld.2.1, hHeld.2.2, HBf.out, hlo7, hlo8, hne8_7⟩)
                             · skip
                               refine event_step (by rfl) (v := .pointer (some ⟨wg.heap.size, 0, none⟩)) (w1 := wg.alloc (.cells (FR .u64 5 fun _ => 0) 27)) (by first | (go_simp; done) | (go_simp; rfl)) ?_
                               have hSn : Row (wg.alloc (.cells (FR .u64 5 fun _ => 0) 27)) w.heap.size .u8 32 a0 22 ∧ Row (wg.alloc (.cells (FR .u64 5 fun _ => 0) 27)) (w.heap.size + 1) .u8 32 a1 22 ∧ Row (wg.alloc (.cells (FR .u64 5 fun _ => 0) 27)) (w.heap.size + 1 + 1) .u8 32 a2 22 := ⟨hHeld.1.alloc _, hHeld.2.1.alloc _, hHeld.2.2.alloc _⟩
                               have HBf := Aside0.mk (HBj.out.alloc HBj.out.size (.cells (FR .u64 5 fun _ => 0) 27))
                               have hlo6 : (w.heap.size + 1 + 1) < wg.heap.size := hHeld.2.2.lt
                               have hne7_6 : n7 ≠ wg.heap.size := by have := HX7.out.lt; omega
                               have HR7 := Aside0.mk (HX7.out.alloc (.cells (FR .u64 5 fun _ => 0) 27))
                               have hne8_6 : n8 ≠ wg.heap.size := by have := HX8.out.lt; omega
                               have HR8 := Aside0.mk (HX8.out.alloc (.cells (FR .u64 5 fun _ => 0) 27))
                               have HR6 := Aside0.mk (Row.new wg .u64 5 (fun _ => 0) 27)
                               generalize wg.alloc (.cells (FR .u64 5 fun _ => 0) 27) = wf19 at hSn HBf HR7 HR8 HR6 ⊢
                               refine hK.out _ _ hSn (fun hHeld => ?_)
                               clear hSn hK K
                               refine norm_ (a' := ?_) ?_ ?_
                               rotate_left
                               · show Act.put _ (some 7) _ = _
                                 simp only [Act.put, List.setIfInBounds_toArray, List.set_cons_zero, List.set_cons_succ, i64_w, i32_w]
                                 rfl
                               exact norm_ (by first | (simp only [putAll, Act.put, List.setIfInBounds_toArray, List.set_cons_zero, List.set_cons_succ]; done) | (simp only [putAll, Act.put, List.setIfInBounds_toArray, List.set_cons_zero, List.set_cons_succ]; rfl)) (hJ6_7_8 (wg.heap.size, n7, n8) _ ⟨HR6.out, HR7.out, HR8.out, hHeld.1, hHeld.2.1, hHeld.2.2, HBf.out, hlo6, hlo7, hlo8, hne7_6, hne8_6, hne8_7⟩)
                           ·skip
                            rintro ⟨n6, n8⟩ wg ⟨HX6, HX8, hq0, hq1, hq2, hbj, hlo6, hlo8, hne8_6⟩
                            have HX6 := Aside0.mk HX6
                            have HX8 := Aside0.mk HX8
                            have HBj := Aside0.mk hbj
                            clear hbj
                            have hHeld : Row wg w.heap.size .u8 32 a0 22 ∧ Row wg (w.heap.size + 1) .u8 32 a1 22 ∧ Row wg (w.heap.size + 1 + 1) .u8 32 a2 22 := ⟨hq0, hq1, hq2⟩
                            clear hq0 hq1 hq2
                            refine norm_ (a' := ?_) ?_ ?_
                            rotate_left
                            · simp only [putAll, Act.put, List.setIfInBounds_toArray, List.set_cons_zero, List.set_cons_succ]
                              rfl
                            refine two_ (i := 1) (j := 7) (Ni := some 14) (Nj := some 8) #[true, true, true, false, true, false, true, false, true, false, false, false] #[true, false, true, false, true, false, true, true, true, false, false, false] rfl rfl rfl rfl (by kernel_rfl) (by decide) (by decide) (fun K hK => ?_) (fun K hK => ?_)
                            · skip
                              refine goes_ Try.func13 rfl rfl #[.agg (FR .u8 32 a0)] rfl rfl rfl (by simp only [List.map_toArray, List.map_cons, List.map_nil]; rfl) ((Of_elem_calls a0 _ HA0.out).mono ?_)
                              rintro e wf20 ⟨rfl, hb⟩
                              have hSn : Row wf20 w.heap.size .u8 32 a0 22 ∧ Row wf20 (w.heap.size + 1) .u8 32 a1 22 ∧ Row wf20 (w.heap.size + 1 + 1) .u8 32 a2 22 := ⟨hHeld.1.below hb hHeld.1.lt, hHeld.2.1.below hb hHeld.2.1.lt, hHeld.2.2.below hb hHeld.2.2.lt⟩
                              have HBf := Aside0.mk (HBj.out.trans (hb.mono HBj.out.size))
                              have HR6 := Aside0.mk (HX6.out.below hb HX6.out.lt)
                              have HR8 := Aside0.mk (HX8.out.below hb HX8.out.lt)
                              clear hb
                              refine ⟨_, rfl, hK.out _ _ hSn (fun hHeld => ?_)⟩
                              clear hSn hK K
                              refine norm_ (a' := ?_) ?_ ?_
                              rotate_left
                              · show Act.put _ (some 14) _ = _
                                simp only [Act.put, List.setIfInBounds_toArray, List.set_cons_zero, List.set_cons_succ, i64_w, i32_w]
                                rfl
                              exact norm_ (by first | (simp only [putAll, Act.put, List.setIfInBounds_toArray, List.set_cons_zero, List.set_cons_succ]; done) | (simp only [putAll, Act.put, List.setIfInBounds_toArray, List.set_cons_zero, List.set_cons_succ]; rfl)) (hJ1_6_8 (n6, n8) _ ⟨HR6.out, HR8.out, hHeld.1, hHeld.2.1, hHeld.2.2, HBf.out, hlo6, hlo8, hne8_6⟩)
                            · skip
                              refine event_step (by rfl) (v := .pointer (some ⟨wg.heap.size, 0, none⟩)) (w1 := wg.alloc (.cells (FR .u64 5 fun _ => 0) 27)) (by first | (go_simp; done) | (go_simp; rfl)) ?_
                              have hSn : Row (wg.alloc (.cells (FR .u64 5 fun _ => 0) 27)) w.heap.size .u8 32 a0 22 ∧ Row (wg.alloc (.cells (FR .u64 5 fun _ => 0) 27)) (w.heap.size + 1) .u8 32 a1 22 ∧ Row (wg.alloc (.cells (FR .u64 5 fun _ => 0) 27)) (w.heap.size + 1 + 1) .u8 32 a2 22 := ⟨hHeld.1.alloc _, hHeld.2.1.alloc _, hHeld.2.2.alloc _⟩
                              have HBf := Aside0.mk (HBj.out.alloc HBj.out.size (.cells (FR .u64 5 fun _ => 0) 27))
                              have hlo7 : (w.heap.size + 1 + 1) < wg.heap.size := hHeld.2.2.lt
                              have hne7_6 : wg.heap.size ≠ n6 := by have := HX6.out.lt; omega
                              have HR6 := Aside0.mk (HX6.out.alloc (.cells (FR .u64 5 fun _ => 0) 27))
                              have hne8_7 : n8 ≠ wg.heap.size := by have := HX8.out.lt; omega
                              have HR8 := Aside0.mk (HX8.out.alloc (.cells (FR .u64 5 fun _ => 0) 27))
                              have HR7 := Aside0.mk (Row.new wg .u64 5 (fun _ => 0) 27)
                              generalize wg.alloc (.cells (FR .u64 5 fun _ => 0) 27) = wf21 at hSn HBf HR6 HR8 HR7 ⊢
                              refine hK.out _ _ hSn (fun hHeld => ?_)
                              clear hSn hK K
                              refine norm_ (a' := ?_) ?_ ?_
                              rotate_left
                              · show Act.put _ (some 8) _ = _
                                simp only [Act.put, List.setIfInBounds_toArray, List.set_cons_zero, List.set_cons_succ, i64_w, i32_w]
                                rfl
                              exact norm_ (by first | (simp only [putAll, Act.put, List.setIfInBounds_toArray, List.set_cons_zero, List.set_cons_succ]; done) | (simp only [putAll, Act.put, List.setIfInBounds_toArray, List.set_cons_zero, List.set_cons_succ]; rfl)) (hJ6_7_8 (n6, wg.heap.size, n8) _ ⟨HR6.out, HR7.out, HR8.out, hHeld.1, hHeld.2.1, hHeld.2.2, HBf.out, hlo6, hlo7, hlo8, hne7_6, hne8_6, hne8_7⟩)
                          ·skip
                           rintro ⟨n6, n7⟩ wg ⟨HX6, HX7, hq0, hq1, hq2, hbj, hlo6, hlo7, hne7_6⟩
                           have HX6 := Aside0.mk HX6
                           have HX7 := Aside0.mk HX7
                           have HBj := Aside0.mk hbj
                           clear hbj
                           have hHeld : Row wg w.heap.size .u8 32 a0 22 ∧ Row wg (w.heap.size + 1) .u8 32 a1 22 ∧ Row wg (w.heap.size + 1 + 1) .u8 32 a2 22 := ⟨hq0, hq1, hq2⟩
                           clear hq0 hq1 hq2
                           refine norm_ (a' := ?_) ?_ ?_
                           rotate_left
                           · simp only [putAll, Act.put, List.setIfInBounds_toArray, List.set_cons_zero, List.set_cons_succ]
                             rfl
                           refine two_ (i := 1) (j := 8) (Ni := some 14) (Nj := some 9) #[true, true, true, false, true, false, true, true, false, false, false, false] #[true, false, true, false, true, false, true, true, true, false, false, false] rfl rfl rfl rfl (by kernel_rfl) (by decide) (by decide) (fun K hK => ?_) (fun K hK => ?_)
                           · skip
                             refine goes_ Try.func13 rfl rfl #[.agg (FR .u8 32 a0)] rfl rfl rfl (by simp only [List.map_toArray, List.map_cons, List.map_nil]; rfl) ((Of_elem_calls a0 _ HA0.out).mono ?_)
                             rintro e wf22 ⟨rfl, hb⟩
                             have hSn : Row wf22 w.heap.size .u8 32 a0 22 ∧ Row wf22 (w.heap.size + 1) .u8 32 a1 22 ∧ Row wf22 (w.heap.size + 1 + 1) .u8 32 a2 22 := ⟨hHeld.1.below hb hHeld.1.lt, hHeld.2.1.below hb hHeld.2.1.lt, hHeld.2.2.below hb hHeld.2.2.lt⟩
                             have HBf := Aside0.mk (HBj.out.trans (hb.mono HBj.out.size))
                             have HR6 := Aside0.mk (HX6.out.below hb HX6.out.lt)
                             have HR7 := Aside0.mk (HX7.out.below hb HX7.out.lt)
                             clear hb
                             refine ⟨_, rfl, hK.out _ _ hSn (fun hHeld => ?_)⟩
                             clear hSn hK K
                             refine norm_ (a' := ?_) ?_ ?_
                             rotate_left
                             · show Act.put _ (some 14) _ = _
                               simp only [Act.put, List.setIfInBounds_toArray, List.set_cons_zero, List.set_cons_succ, i64_w, i32_w]
                               rfl
                             exact norm_ (by first | (simp only [putAll, Act.put, List.setIfInBounds_toArray, List.set_cons_zero, List.set_cons_succ]; done) | (simp only [putAll, Act.put, List.setIfInBounds_toArray, List.set_cons_zero, List.set_cons_succ]; rfl)) (hJ1_6_7 (n6, n7) _ ⟨HR6.out, HR7.out, hHeld.1, hHeld.2.1, hHeld.2.2, HBf.out, hlo6, hlo7, hne7_6⟩)
                           · skip
                             refine event_step (by rfl) (v := .pointer (some ⟨wg.heap.size, 0, none⟩)) (w1 := wg.alloc (.cells (FR .u64 5 fun _ => 0) 27)) (by first | (go_simp; done) | (go_simp; rfl)) ?_
                             have hSn : Row (wg.alloc (.cells (FR .u64 5 fun _ => 0) 27)) w.heap.size .u8 32 a0 22 ∧ Row (wg.alloc (.cells (FR .u64 5 fun _ => 0) 27)) (w.heap.size + 1) .u8 32 a1 22 ∧ Row (wg.alloc (.cells (FR .u64 5 fun _ => 0) 27)) (w.heap.size + 1 + 1) .u8 32 a2 22 := ⟨hHeld.1.alloc _, hHeld.2.1.alloc _, hHeld.2.2.alloc _⟩
                             have HBf := Aside0.mk (HBj.out.alloc HBj.out.size (.cells (FR .u64 5 fun _ => 0) 27))
                             have hlo8 : (w.heap.size + 1 + 1) < wg.heap.size := hHeld.2.2.lt
                             have hne8_6 : wg.heap.size ≠ n6 := by have := HX6.out.lt; omega
                             have HR6 := Aside0.mk (HX6.out.alloc (.cells (FR .u64 5 fun _ => 0) 27))
                             have hne8_7 : wg.heap.size ≠ n7 := by have := HX7.out.lt; omega
                             have HR7 := Aside0.mk (HX7.out.alloc (.cells (FR .u64 5 fun _ => 0) 27))
                             have HR8 := Aside0.mk (Row.new wg .u64 5 (fun _ => 0) 27)
                             generalize wg.alloc (.cells (FR .u64 5 fun _ => 0) 27) = wf23 at hSn HBf HR6 HR7 HR8 ⊢
                             refine hK.out _ _ hSn (fun hHeld => ?_)
                             clear hSn hK K
                             refine norm_ (a' := ?_) ?_ ?_
                             rotate_left
                             · show Act.put _ (some 9) _ = _
                               simp only [Act.put, List.setIfInBounds_toArray, List.set_cons_zero, List.set_cons_succ, i64_w, i32_w]
                               rfl
                             exact norm_ (by first | (simp only [putAll, Act.put, List.setIfInBounds_toArray, List.set_cons_zero, List.set_cons_succ]; done) | (simp only [putAll, Act.put, List.setIfInBounds_toArray, List.set_cons_zero, List.set_cons_succ]; rfl)) (hJ6_7_8 (n6, n7, wg.heap.size) _ ⟨HR6.out, HR7.out, HR8.out, hHeld.1, hHeld.2.1, hHeld.2.2, HBf.out, hlo6, hlo7, hlo8, hne7_6, hne8_6, hne8_7⟩)
                         ·skip
                          rintro n8 wg ⟨HX8, hq0, hq1, hq2, hbj, hlo8⟩
                          have HX8 := Aside0.mk HX8
                          have HBj := Aside0.mk hbj
                          clear hbj
                          have hHeld : Row wg w.heap.size .u8 32 a0 22 ∧ Row wg (w.heap.size + 1) .u8 32 a1 22 ∧ Row wg (w.heap.size + 1 + 1) .u8 32 a2 22 := ⟨hq0, hq1, hq2⟩
                          clear hq0 hq1 hq2
                          refine norm_ (a' := ?_) ?_ ?_
                          rotate_left
                          · simp only [putAll, Act.put, List.setIfInBounds_toArray, List.set_cons_zero, List.set_cons_succ]
                            rfl
                          refine three_ (i := 3) (j := 6) (k := 7) (Ni := some 16) (Nj := some 7) (Nk := some 8) #[true, true, true, true, true, false, false, false, true, false, false, false] #[true, true, true, false, true, false, true, false, true, false, false, false] #[true, true, true, false, true, false, false, true, true, false, false, false] rfl rfl rfl rfl rfl rfl (by kernel_rfl) (by decide) (by decide) (by decide) (fun K hK => ?_) (fun K hK => ?_) (fun K hK => ?_)
                          · skip
                            refine goes_ Try.func13 rfl rfl #[.agg (FR .u8 32 a1)] rfl rfl rfl (by simp only [List.map_toArray, List.map_cons, List.map_nil]; rfl) ((Of_elem_calls a1 _ HA1.out).mono ?_)
                            rintro e wf24 ⟨rfl, hb⟩
                            have hSn : Row wf24 w.heap.size .u8 32 a0 22 ∧ Row wf24 (w.heap.size + 1) .u8 32 a1 22 ∧ Row wf24 (w.heap.size + 1 + 1) .u8 32 a2 22 := ⟨hHeld.1.below hb hHeld.1.lt, hHeld.2.1.below hb hHeld.2.1.lt, hHeld.2.2.below hb hHeld.2.2.lt⟩
                            have HBf := Aside0.mk (HBj.out.trans (hb.mono HBj.out.size))
                            have HR8 := Aside0.mk (HX8.out.below hb HX8.out.lt)
                            clear hb
                            refine ⟨_, rfl, hK.out _ _ hSn (fun hHeld => ?_)⟩
                            clear hSn hK K
                            refine norm_ (a' := ?_) ?_ ?_
                            rotate_left
                            · show Act.put _ (some 16) _ = _
                              simp only [Act.put, List.setIfInBounds_toArray, List.set_cons_zero, List.set_cons_succ, i64_w, i32_w]
                              rfl
                            exact norm_ (by first | (simp only [putAll, Act.put, List.setIfInBounds_toArray, List.set_cons_zero, List.set_cons_succ]; done) | (simp only [putAll, Act.put, List.setIfInBounds_toArray, List.set_cons_zero, List.set_cons_succ]; rfl)) (hJ1_3_8 n8 _ ⟨HR8.out, hHeld.1, hHeld.2.1, hHeld.2.2, HBf.out, hlo8⟩)
                          · skip
                            refine event_step (by rfl) (v := .pointer (some ⟨wg.heap.size, 0, none⟩)) (w1 := wg.alloc (.cells (FR .u64 5 fun _ => 0) 27)) (by first | (go_simp; done) | (go_simp; rfl)) ?_
                            have hSn : Row (wg.alloc (.cells (FR .u64 5 fun _ => 0) 27)) w.heap.size .u8 32 a0 22 ∧ Row (wg.alloc (.cells (FR .u64 5 fun _ => 0) 27)) (w.heap.size + 1) .u8 32 a1 22 ∧ Row (wg.alloc (.cells (FR .u64 5 fun _ => 0) 27)) (w.heap.size + 1 + 1) .u8 32 a2 22 := ⟨hHeld.1.alloc _, hHeld.2.1.alloc _, hHeld.2.2.alloc _⟩
                            have HBf := Aside0.mk (HBj.out.alloc HBj.out.size (.cells (FR .u64 5 fun _ => 0) 27))
                            have hlo6 : (w.heap.size + 1 + 1) < wg.heap.size := hHeld.2.2.lt
                            have hne8_6 : n8 ≠ wg.heap.size := by have := HX8.out.lt; omega
                            have HR8 := Aside0.mk (HX8.out.alloc (.cells (FR .u64 5 fun _ => 0) 27))
                            have HR6 := Aside0.mk (Row.new wg .u64 5 (fun _ => 0) 27)
                            generalize wg.alloc (.cells (FR .u64 5 fun _ => 0) 27) = wf25 at hSn HBf HR8 HR6 ⊢
                            refine hK.out _ _ hSn (fun hHeld => ?_)
                            clear hSn hK K
                            refine norm_ (a' := ?_) ?_ ?_
                            rotate_left
                            · show Act.put _ (some 7) _ = _
                              simp only [Act.put, List.setIfInBounds_toArray, List.set_cons_zero, List.set_cons_succ, i64_w, i32_w]
                              rfl
                            exact norm_ (by first | (simp only [putAll, Act.put, List.setIfInBounds_toArray, List.set_cons_zero, List.set_cons_succ]; done) | (simp only [putAll, Act.put, List.setIfInBounds_toArray, List.set_cons_zero, List.set_cons_succ]; rfl)) (hJ1_6_8 (wg.heap.size, n8) _ ⟨HR6.out, HR8.out, hHeld.1, hHeld.2.1, hHeld.2.2, HBf.out, hlo6, hlo8, hne8_6⟩)
                          · skip
                            refine event_step (by rfl) (v := .pointer (some ⟨wg.heap.size, 0, none⟩)) (w1 := wg.alloc (.cells (FR .u64 5 fun _ => 0) 27)) (by first | (go_simp; done) | (go_simp; rfl)) ?_
                            have hSn : Row (wg.alloc (.cells (FR .u64 5 fun _ => 0) 27)) w.heap.size .u8 32 a0 22 ∧ Row (wg.alloc (.cells (FR .u64 5 fun _ => 0) 27)) (w.heap.size + 1) .u8 32 a1 22 ∧ Row (wg.alloc (.cells (FR .u64 5 fun _ => 0) 27)) (w.heap.size + 1 + 1) .u8 32 a2 22 := ⟨hHeld.1.alloc _, hHeld.2.1.alloc _, hHeld.2.2.alloc _⟩
                            have HBf := Aside0.mk (HBj.out.alloc HBj.out.size (.cells (FR .u64 5 fun _ => 0) 27))
                            have hlo7 : (w.heap.size + 1 + 1) < wg.heap.size := hHeld.2.2.lt
                            have hne8_7 : n8 ≠ wg.heap.size := by have := HX8.out.lt; omega
                            have HR8 := Aside0.mk (HX8.out.alloc (.cells (FR .u64 5 fun _ => 0) 27))
                            have HR7 := Aside0.mk (Row.new wg .u64 5 (fun _ => 0) 27)
                            generalize wg.alloc (.cells (FR .u64 5 fun _ => 0) 27) = wf26 at hSn HBf HR8 HR7 ⊢
                            refine hK.out _ _ hSn (fun hHeld => ?_)
                            clear hSn hK K
                            refine norm_ (a' := ?_) ?_ ?_
                            rotate_left
                            · show Act.put _ (some 8) _ = _
                              simp only [Act.put, List.setIfInBounds_toArray, List.set_cons_zero, List.set_cons_succ, i64_w, i32_w]
                              rfl
                            exact norm_ (by first | (simp only [putAll, Act.put, List.setIfInBounds_toArray, List.set_cons_zero, List.set_cons_succ]; done) | (simp only [putAll, Act.put, List.setIfInBounds_toArray, List.set_cons_zero, List.set_cons_succ]; rfl)) (hJ1_7_8 (wg.heap.size, n8) _ ⟨HR7.out, HR8.out, hHeld.1, hHeld.2.1, hHeld.2.2, HBf.out, hlo7, hlo8, hne8_7⟩)
                        ·skip
                         rintro n7 wg ⟨HX7, hq0, hq1, hq2, hbj, hlo7⟩
                         have HX7 := Aside0.mk HX7
                         have HBj := Aside0.mk hbj
                         clear hbj
                         have hHeld : Row wg w.heap.size .u8 32 a0 22 ∧ Row wg (w.heap.size + 1) .u8 32 a1 22 ∧ Row wg (w.heap.size + 1 + 1) .u8 32 a2 22 := ⟨hq0, hq1, hq2⟩
                         clear hq0 hq1 hq2
                         refine norm_ (a' := ?_) ?_ ?_
                         rotate_left
                         · simp only [putAll, Act.put, List.setIfInBounds_toArray, List.set_cons_zero, List.set_cons_succ]
                           rfl
                         refine three_ (i := 3) (j := 6) (k := 8) (Ni := some 16) (Nj := some 7) (Nk := some 9) #[true, true, true, true, true, false, false, true, false, false, false, false] #[true, true, true, false, true, false, true, true, false, false, false, false] #[true, true, true, false, true, false, false, true, true, false, false, false] rfl rfl rfl rfl rfl rfl (by kernel_rfl) (by decide) (by decide) (by decide) (fun K hK => ?_) (fun K hK => ?_) (fun K hK => ?_)
                         · skip
                           refine goes_ Try.func13 rfl rfl #[.agg (FR .u8 32 a1)] rfl rfl rfl (by simp only [List.map_toArray, List.map_cons, List.map_nil]; rfl) ((Of_elem_calls a1 _ HA1.out).mono ?_)
                           rintro e wf27 ⟨rfl, hb⟩
                           have hSn : Row wf27 w.heap.size .u8 32 a0 22 ∧ Row wf27 (w.heap.size + 1) .u8 32 a1 22 ∧ Row wf27 (w.heap.size + 1 + 1) .u8 32 a2 22 := ⟨hHeld.1.below hb hHeld.1.lt, hHeld.2.1.below hb hHeld.2.1.lt, hHeld.2.2.below hb hHeld.2.2.lt⟩
                           have HBf := Aside0.mk (HBj.out.trans (hb.mono HBj.out.size))
                           have HR7 := Aside0.mk (HX7.out.below hb HX7.out.lt)
                           clear hb
                           refine ⟨_, rfl, hK.out _ _ hSn (fun hHeld => ?_)⟩
                           clear hSn hK K
                           refine norm_ (a' := ?_) ?_ ?_
                           rotate_left
                           · show Act.put _ (some 16) _ = _
                             simp only [Act.put, List.setIfInBounds_toArray, List.set_cons_zero, List.set_cons_succ, i64_w, i32_w]
                             rfl
                           exact norm_ (by first | (simp only [putAll, Act.put, List.setIfInBounds_toArray, List.set_cons_zero, List.set_cons_succ]; done) | (simp only [putAll, Act.put, List.setIfInBounds_toArray, List.set_cons_zero, List.set_cons_succ]; rfl)) (hJ1_3_7 n7 _ ⟨HR7.out, hHeld.1, hHeld.2.1, hHeld.2.2, HBf.out, hlo7⟩)
                         · skip
                           refine event_step (by rfl) (v := .pointer (some ⟨wg.heap.size, 0, none⟩)) (w1 := wg.alloc (.cells (FR .u64 5 fun _ => 0) 27)) (by first | (go_simp; done) | (go_simp; rfl)) ?_
                           have hSn : Row (wg.alloc (.cells (FR .u64 5 fun _ => 0) 27)) w.heap.size .u8 32 a0 22 ∧ Row (wg.alloc (.cells (FR .u64 5 fun _ => 0) 27)) (w.heap.size + 1) .u8 32 a1 22 ∧ Row (wg.alloc (.cells (FR .u64 5 fun _ => 0) 27)) (w.heap.size + 1 + 1) .u8 32 a2 22 := ⟨hHeld.1.alloc _, hHeld.2.1.alloc _, hHeld.2.2.alloc _⟩
                           have HBf := Aside0.mk (HBj.out.alloc HBj.out.size (.cells (FR .u64 5 fun _ => 0) 27))
                           have hlo6 : (w.heap.size + 1 + 1) < wg.heap.size := hHeld.2.2.lt
                           have hne7_6 : n7 ≠ wg.heap.size := by have := HX7.out.lt; omega
                           have HR7 := Aside0.mk (HX7.out.alloc (.cells (FR .u64 5 fun _ => 0) 27))
                           have HR6 := Aside0.mk (Row.new wg .u64 5 (fun _ => 0) 27)
                           generalize wg.alloc (.cells (FR .u64 5 fun _ => 0) 27) = wf28 at hSn HBf HR7 HR6 ⊢
                           refine hK.out _ _ hSn (fun hHeld => ?_)
                           clear hSn hK K
                           refine norm_ (a' := ?_) ?_ ?_
                           rotate_left
                           · show Act.put _ (some 7) _ = _
                             simp only [Act.put, List.setIfInBounds_toArray, List.set_cons_zero, List.set_cons_succ, i64_w, i32_w]
                             rfl
                           exact norm_ (by first | (simp only [putAll, Act.put, List.setIfInBounds_toArray, List.set_cons_zero, List.set_cons_succ]; done) | (simp only [putAll, Act.put, List.setIfInBounds_toArray, List.set_cons_zero, List.set_cons_succ]; rfl)) (hJ1_6_7 (wg.heap.size, n7) _ ⟨HR6.out, HR7.out, hHeld.1, hHeld.2.1, hHeld.2.2, HBf.out, hlo6, hlo7, hne7_6⟩)
                         · skip
                           refine event_step (by rfl) (v := .pointer (some ⟨wg.heap.size, 0, none⟩)) (w1 := wg.alloc (.cells (FR .u64 5 fun _ => 0) 27)) (by first | (go_simp; done) | (go_simp; rfl)) ?_
                           have hSn : Row (wg.alloc (.cells (FR .u64 5 fun _ => 0) 27)) w.heap.size .u8 32 a0 22 ∧ Row (wg.alloc (.cells (FR .u64 5 fun _ => 0) 27)) (w.heap.size + 1) .u8 32 a1 22 ∧ Row (wg.alloc (.cells (FR .u64 5 fun _ => 0) 27)) (w.heap.size + 1 + 1) .u8 32 a2 22 := ⟨hHeld.1.alloc _, hHeld.2.1.alloc _, hHeld.2.2.alloc _⟩
                           have HBf := Aside0.mk (HBj.out.alloc HBj.out.size (.cells (FR .u64 5 fun _ => 0) 27))
                           have hlo8 : (w.heap.size + 1 + 1) < wg.heap.size := hHeld.2.2.lt
                           have hne8_7 : wg.heap.size ≠ n7 := by have := HX7.out.lt; omega
                           have HR7 := Aside0.mk (HX7.out.alloc (.cells (FR .u64 5 fun _ => 0) 27))
                           have HR8 := Aside0.mk (Row.new wg .u64 5 (fun _ => 0) 27)
                           generalize wg.alloc (.cells (FR .u64 5 fun _ => 0) 27) = wf29 at hSn HBf HR7 HR8 ⊢
                           refine hK.out _ _ hSn (fun hHeld => ?_)
                           clear hSn hK K
                           refine norm_ (a' := ?_) ?_ ?_
                           rotate_left
                           · show Act.put _ (some 9) _ = _
                             simp only [Act.put, List.setIfInBounds_toArray, List.set_cons_zero, List.set_cons_succ, i64_w, i32_w]
                             rfl
                           exact norm_ (by first | (simp only [putAll, Act.put, List.setIfInBounds_toArray, List.set_cons_zero, List.set_cons_succ]; done) | (simp only [putAll, Act.put, List.setIfInBounds_toArray, List.set_cons_zero, List.set_cons_succ]; rfl)) (hJ1_7_8 (n7, wg.heap.size) _ ⟨HR7.out, HR8.out, hHeld.1, hHeld.2.1, hHeld.2.2, HBf.out, hlo7, hlo8, hne8_7⟩)
                       ·skip
                        rintro n6 wg ⟨HX6, hq0, hq1, hq2, hbj, hlo6⟩
                        have HX6 := Aside0.mk HX6
                        have HBj := Aside0.mk hbj
                        clear hbj
                        have hHeld : Row wg w.heap.size .u8 32 a0 22 ∧ Row wg (w.heap.size + 1) .u8 32 a1 22 ∧ Row wg (w.heap.size + 1 + 1) .u8 32 a2 22 := ⟨hq0, hq1, hq2⟩
                        clear hq0 hq1 hq2
                        refine norm_ (a' := ?_) ?_ ?_
                        rotate_left
                        · simp only [putAll, Act.put, List.setIfInBounds_toArray, List.set_cons_zero, List.set_cons_succ]
                          rfl
                        refine three_ (i := 3) (j := 7) (k := 8) (Ni := some 16) (Nj := some 8) (Nk := some 9) #[true, true, true, true, true, false, true, false, false, false, false, false] #[true, true, true, false, true, false, true, true, false, false, false, false] #[true, true, true, false, true, false, true, false, true, false, false, false] rfl rfl rfl rfl rfl rfl (by kernel_rfl) (by decide) (by decide) (by decide) (fun K hK => ?_) (fun K hK => ?_) (fun K hK => ?_)
                        · skip
                          refine goes_ Try.func13 rfl rfl #[.agg (FR .u8 32 a1)] rfl rfl rfl (by simp only [List.map_toArray, List.map_cons, List.map_nil]; rfl) ((Of_elem_calls a1 _ HA1.out).mono ?_)
                          rintro e wf30 ⟨rfl, hb⟩
                          have hSn : Row wf30 w.heap.size .u8 32 a0 22 ∧ Row wf30 (w.heap.size + 1) .u8 32 a1 22 ∧ Row wf30 (w.heap.size + 1 + 1) .u8 32 a2 22 := ⟨hHeld.1.below hb hHeld.1.lt, hHeld.2.1.below hb hHeld.2.1.lt, hHeld.2.2.below hb hHeld.2.2.lt⟩
                          have HBf := Aside0.mk (HBj.out.trans (hb.mono HBj.out.size))
                          have HR6 := Aside0.mk (HX6.out.below hb HX6.out.lt)
                          clear hb
                          refine ⟨_, rfl, hK.out _ _ hSn (fun hHeld => ?_)⟩
                          clear hSn hK K
                          refine norm_ (a' := ?_) ?_ ?_
                          rotate_left
                          · show Act.put _ (some 16) _ = _
                            simp only [Act.put, List.setIfInBounds_toArray, List.set_cons_zero, List.set_cons_succ, i64_w, i32_w]
                            rfl
                          exact norm_ (by first | (simp only [putAll, Act.put, List.setIfInBounds_toArray, List.set_cons_zero, List.set_cons_succ]; done) | (simp only [putAll, Act.put, List.setIfInBounds_toArray, List.set_cons_zero, List.set_cons_succ]; rfl)) (hJ1_3_6 n6 _ ⟨HR6.out, hHeld.1, hHeld.2.1, hHeld.2.2, HBf.out, hlo6⟩)
                        · skip
                          refine event_step (by rfl) (v := .pointer (some ⟨wg.heap.size, 0, none⟩)) (w1 := wg.alloc (.cells (FR .u64 5 fun _ => 0) 27)) (by first | (go_simp; done) | (go_simp; rfl)) ?_
                          have hSn : Row (wg.alloc (.cells (FR .u64 5 fun _ => 0) 27)) w.heap.size .u8 32 a0 22 ∧ Row (wg.alloc (.cells (FR .u64 5 fun _ => 0) 27)) (w.heap.size + 1) .u8 32 a1 22 ∧ Row (wg.alloc (.cells (FR .u64 5 fun _ => 0) 27)) (w.heap.size + 1 + 1) .u8 32 a2 22 := ⟨hHeld.1.alloc _, hHeld.2.1.alloc _, hHeld.2.2.alloc _⟩
                          have HBf := Aside0.mk (HBj.out.alloc HBj.out.size (.cells (FR .u64 5 fun _ => 0) 27))
                          have hlo7 : (w.heap.size + 1 + 1) < wg.heap.size := hHeld.2.2.lt
                          have hne7_6 : wg.heap.size ≠ n6 := by have := HX6.out.lt; omega
                          have HR6 := Aside0.mk (HX6.out.alloc (.cells (FR .u64 5 fun _ => 0) 27))
                          have HR7 := Aside0.mk (Row.new wg .u64 5 (fun _ => 0) 27)
                          generalize wg.alloc (.cells (FR .u64 5 fun _ => 0) 27) = wf31 at hSn HBf HR6 HR7 ⊢
                          refine hK.out _ _ hSn (fun hHeld => ?_)
                          clear hSn hK K
                          refine norm_ (a' := ?_) ?_ ?_
                          rotate_left
                          · show Act.put _ (some 8) _ = _
                            simp only [Act.put, List.setIfInBounds_toArray, List.set_cons_zero, List.set_cons_succ, i64_w, i32_w]
                            rfl
                          exact norm_ (by first | (simp only [putAll, Act.put, List.setIfInBounds_toArray, List.set_cons_zero, List.set_cons_succ]; done) | (simp only [putAll, Act.put, List.setIfInBounds_toArray, List.set_cons_zero, List.set_cons_succ]; rfl)) (hJ1_6_7 (n6, wg.heap.size) _ ⟨HR6.out, HR7.out, hHeld.1, hHeld.2.1, hHeld.2.2, HBf.out, hlo6, hlo7, hne7_6⟩)
                        · skip
                          refine event_step (by rfl) (v := .pointer (some ⟨wg.heap.size, 0, none⟩)) (w1 := wg.alloc (.cells (FR .u64 5 fun _ => 0) 27)) (by first | (go_simp; done) | (go_simp; rfl)) ?_
                          have hSn : Row (wg.alloc (.cells (FR .u64 5 fun _ => 0) 27)) w.heap.size .u8 32 a0 22 ∧ Row (wg.alloc (.cells (FR .u64 5 fun _ => 0) 27)) (w.heap.size + 1) .u8 32 a1 22 ∧ Row (wg.alloc (.cells (FR .u64 5 fun _ => 0) 27)) (w.heap.size + 1 + 1) .u8 32 a2 22 := ⟨hHeld.1.alloc _, hHeld.2.1.alloc _, hHeld.2.2.alloc _⟩
                          have HBf := Aside0.mk (HBj.out.alloc HBj.out.size (.cells (FR .u64 5 fun _ => 0) 27))
                          have hlo8 : (w.heap.size + 1 + 1) < wg.heap.size := hHeld.2.2.lt
                          have hne8_6 : wg.heap.size ≠ n6 := by have := HX6.out.lt; omega
                          have HR6 := Aside0.mk (HX6.out.alloc (.cells (FR .u64 5 fun _ => 0) 27))
                          have HR8 := Aside0.mk (Row.new wg .u64 5 (fun _ => 0) 27)
                          generalize wg.alloc (.cells (FR .u64 5 fun _ => 0) 27) = wf32 at hSn HBf HR6 HR8 ⊢
                          refine hK.out _ _ hSn (fun hHeld => ?_)
                          clear hSn hK K
                          refine norm_ (a' := ?_) ?_ ?_
                          rotate_left
                          · show Act.put _ (some 9) _ = _
                            simp only [Act.put, List.setIfInBounds_toArray, List.set_cons_zero, List.set_cons_succ, i64_w, i32_w]
                            rfl
                          exact norm_ (by first | (simp only [putAll, Act.put, List.setIfInBounds_toArray, List.set_cons_zero, List.set_cons_succ]; done) | (simp only [putAll, Act.put, List.setIfInBounds_toArray, List.set_cons_zero, List.set_cons_succ]; rfl)) (hJ1_6_8 (n6, wg.heap.size) _ ⟨HR6.out, HR8.out, hHeld.1, hHeld.2.1, hHeld.2.2, HBf.out, hlo6, hlo8, hne8_6⟩)
                      ·skip
                       rintro _ wg ⟨hq0, hq1, hq2, hbj⟩
                       have HBj := Aside0.mk hbj
                       clear hbj
                       have hHeld : Row wg w.heap.size .u8 32 a0 22 ∧ Row wg (w.heap.size + 1) .u8 32 a1 22 ∧ Row wg (w.heap.size + 1 + 1) .u8 32 a2 22 := ⟨hq0, hq1, hq2⟩
                       clear hq0 hq1 hq2
                       refine norm_ (a' := ?_) ?_ ?_
                       rotate_left
                       · simp only [putAll, Act.put, List.setIfInBounds_toArray, List.set_cons_zero, List.set_cons_succ]
                         rfl
                       refine four_ (i := 5) (j := 6) (k := 7) (m := 8) (Ni := some 18) (Nj := some 7) (Nk := some 8) (Nm := some 9) #[true, true, true, true, true, true, false, false, false, false, false, false] #[true, true, true, true, true, false, true, false, false, false, false, false] #[true, true, true, true, true, false, false, true, false, false, false, false] #[true, true, true, true, true, false, false, false, true, false, false, false] rfl rfl rfl rfl rfl rfl rfl rfl (by kernel_rfl) (by decide) (by decide) (by decide) (by decide) (fun K hK => ?_) (fun K hK => ?_) (fun K hK => ?_) (fun K hK => ?_)
                       · skip
                         refine goes_ Try.func13 rfl rfl #[.agg (FR .u8 32 a2)] rfl rfl rfl (by simp only [List.map_toArray, List.map_cons, List.map_nil]; rfl) ((Of_elem_calls a2 _ HA2.out).mono ?_)
                         rintro e wf33 ⟨rfl, hb⟩
                         have hSn : Row wf33 w.heap.size .u8 32 a0 22 ∧ Row wf33 (w.heap.size + 1) .u8 32 a1 22 ∧ Row wf33 (w.heap.size + 1 + 1) .u8 32 a2 22 := ⟨hHeld.1.below hb hHeld.1.lt, hHeld.2.1.below hb hHeld.2.1.lt, hHeld.2.2.below hb hHeld.2.2.lt⟩
                         have HBf := Aside0.mk (HBj.out.trans (hb.mono HBj.out.size))
                         clear hb
                         refine ⟨_, rfl, hK.out _ _ hSn (fun hHeld => ?_)⟩
                         clear hSn hK K
                         refine norm_ (a' := ?_) ?_ ?_
                         rotate_left
                         · show Act.put _ (some 18) _ = _
                           simp only [Act.put, List.setIfInBounds_toArray, List.set_cons_zero, List.set_cons_succ, i64_w, i32_w]
                           rfl
                         exact norm_ (by first | (simp only [putAll, Act.put, List.setIfInBounds_toArray, List.set_cons_zero, List.set_cons_succ]; done) | (simp only [putAll, Act.put, List.setIfInBounds_toArray, List.set_cons_zero, List.set_cons_succ]; rfl)) (hJ1_3_5 () _ ⟨hHeld.1, hHeld.2.1, hHeld.2.2, HBf.out⟩)
                       · skip
                         refine event_step (by rfl) (v := .pointer (some ⟨wg.heap.size, 0, none⟩)) (w1 := wg.alloc (.cells (FR .u64 5 fun _ => 0) 27)) (by first | (go_simp; done) | (go_simp; rfl)) ?_
                         have hSn : Row (wg.alloc (.cells (FR .u64 5 fun _ => 0) 27)) w.heap.size .u8 32 a0 22 ∧ Row (wg.alloc (.cells (FR .u64 5 fun _ => 0) 27)) (w.heap.size + 1) .u8 32 a1 22 ∧ Row (wg.alloc (.cells (FR .u64 5 fun _ => 0) 27)) (w.heap.size + 1 + 1) .u8 32 a2 22 := ⟨hHeld.1.alloc _, hHeld.2.1.alloc _, hHeld.2.2.alloc _⟩
                         have HBf := Aside0.mk (HBj.out.alloc HBj.out.size (.cells (FR .u64 5 fun _ => 0) 27))
                         have hlo6 : (w.heap.size + 1 + 1) < wg.heap.size := hHeld.2.2.lt
                         have HR6 := Aside0.mk (Row.new wg .u64 5 (fun _ => 0) 27)
                         generalize wg.alloc (.cells (FR .u64 5 fun _ => 0) 27) = wf34 at hSn HBf HR6 ⊢
                         refine hK.out _ _ hSn (fun hHeld => ?_)
                         clear hSn hK K
                         refine norm_ (a' := ?_) ?_ ?_
                         rotate_left
                         · show Act.put _ (some 7) _ = _
                           simp only [Act.put, List.setIfInBounds_toArray, List.set_cons_zero, List.set_cons_succ, i64_w, i32_w]
                           rfl
                         exact norm_ (by first | (simp only [putAll, Act.put, List.setIfInBounds_toArray, List.set_cons_zero, List.set_cons_succ]; done) | (simp only [putAll, Act.put, List.setIfInBounds_toArray, List.set_cons_zero, List.set_cons_succ]; rfl)) (hJ1_3_6 wg.heap.size _ ⟨HR6.out, hHeld.1, hHeld.2.1, hHeld.2.2, HBf.out, hlo6⟩)
                       · skip
                         refine event_step (by rfl) (v := .pointer (some ⟨wg.heap.size, 0, none⟩)) (w1 := wg.alloc (.cells (FR .u64 5 fun _ => 0) 27)) (by first | (go_simp; done) | (go_simp; rfl)) ?_
                         have hSn : Row (wg.alloc (.cells (FR .u64 5 fun _ => 0) 27)) w.heap.size .u8 32 a0 22 ∧ Row (wg.alloc (.cells (FR .u64 5 fun _ => 0) 27)) (w.heap.size + 1) .u8 32 a1 22 ∧ Row (wg.alloc (.cells (FR .u64 5 fun _ => 0) 27)) (w.heap.size + 1 + 1) .u8 32 a2 22 := ⟨hHeld.1.alloc _, hHeld.2.1.alloc _, hHeld.2.2.alloc _⟩
                         have HBf := Aside0.mk (HBj.out.alloc HBj.out.size (.cells (FR .u64 5 fun _ => 0) 27))
                         have hlo7 : (w.heap.size + 1 + 1) < wg.heap.size := hHeld.2.2.lt
                         have HR7 := Aside0.mk (Row.new wg .u64 5 (fun _ => 0) 27)
                         generalize wg.alloc (.cells (FR .u64 5 fun _ => 0) 27) = wf35 at hSn HBf HR7 ⊢
                         refine hK.out _ _ hSn (fun hHeld => ?_)
                         clear hSn hK K
                         refine norm_ (a' := ?_) ?_ ?_
                         rotate_left
                         · show Act.put _ (some 8) _ = _
                           simp only [Act.put, List.setIfInBounds_toArray, List.set_cons_zero, List.set_cons_succ, i64_w, i32_w]
                           rfl
                         exact norm_ (by first | (simp only [putAll, Act.put, List.setIfInBounds_toArray, List.set_cons_zero, List.set_cons_succ]; done) | (simp only [putAll, Act.put, List.setIfInBounds_toArray, List.set_cons_zero, List.set_cons_succ]; rfl)) (hJ1_3_7 wg.heap.size _ ⟨HR7.out, hHeld.1, hHeld.2.1, hHeld.2.2, HBf.out, hlo7⟩)
                       · skip
                         refine event_step (by rfl) (v := .pointer (some ⟨wg.heap.size, 0, none⟩)) (w1 := wg.alloc (.cells (FR .u64 5 fun _ => 0) 27)) (by first | (go_simp; done) | (go_simp; rfl)) ?_
                         have hSn : Row (wg.alloc (.cells (FR .u64 5 fun _ => 0) 27)) w.heap.size .u8 32 a0 22 ∧ Row (wg.alloc (.cells (FR .u64 5 fun _ => 0) 27)) (w.heap.size + 1) .u8 32 a1 22 ∧ Row (wg.alloc (.cells (FR .u64 5 fun _ => 0) 27)) (w.heap.size + 1 + 1) .u8 32 a2 22 := ⟨hHeld.1.alloc _, hHeld.2.1.alloc _, hHeld.2.2.alloc _⟩
                         have HBf := Aside0.mk (HBj.out.alloc HBj.out.size (.cells (FR .u64 5 fun _ => 0) 27))
                         have hlo8 : (w.heap.size + 1 + 1) < wg.heap.size := hHeld.2.2.lt
                         have HR8 := Aside0.mk (Row.new wg .u64 5 (fun _ => 0) 27)
                         generalize wg.alloc (.cells (FR .u64 5 fun _ => 0) 27) = wf36 at hSn HBf HR8 ⊢
                         refine hK.out _ _ hSn (fun hHeld => ?_)
                         clear hSn hK K
                         refine norm_ (a' := ?_) ?_ ?_
                         rotate_left
                         · show Act.put _ (some 9) _ = _
                           simp only [Act.put, List.setIfInBounds_toArray, List.set_cons_zero, List.set_cons_succ, i64_w, i32_w]
                           rfl
                         exact norm_ (by first | (simp only [putAll, Act.put, List.setIfInBounds_toArray, List.set_cons_zero, List.set_cons_succ]; done) | (simp only [putAll, Act.put, List.setIfInBounds_toArray, List.set_cons_zero, List.set_cons_succ]; rfl)) (hJ1_3_8 wg.heap.size _ ⟨HR8.out, hHeld.1, hHeld.2.1, hHeld.2.2, HBf.out, hlo8⟩)
                     ·skip
                      rintro ⟨n6, n7, n8⟩ wg ⟨HX6, HX7, HX8, hq0, hq1, hq2, hbj, hlo6, hlo7, hlo8, hne7_6, hne8_6, hne8_7⟩
                      have HX6 := Aside0.mk HX6
                      have HX7 := Aside0.mk HX7
                      have HX8 := Aside0.mk HX8
                      have HBj := Aside0.mk hbj
                      clear hbj
                      have hHeld : Row wg w.heap.size .u8 32 a0 22 ∧ Row wg (w.heap.size + 1) .u8 32 a1 22 ∧ Row wg (w.heap.size + 1 + 1) .u8 32 a2 22 := ⟨hq0, hq1, hq2⟩
                      clear hq0 hq1 hq2
                      refine norm_ (a' := ?_) ?_ ?_
                      rotate_left
                      · simp only [putAll, Act.put, List.setIfInBounds_toArray, List.set_cons_zero, List.set_cons_succ]
                        rfl
                      refine one_ (i := 1) (N := some 14) #[true, true, true, false, true, false, true, true, true, false, false, false] rfl rfl (one_of HT_.out (by kernel_rfl)) (by decide) (fun K hK => ?_)
                      refine goes_ Try.func13 rfl rfl #[.agg (FR .u8 32 a0)] rfl rfl rfl (by simp only [List.map_toArray, List.map_cons, List.map_nil]; rfl) ((Of_elem_calls a0 _ HA0.out).mono ?_)
                      rintro e wf37 ⟨rfl, hb⟩
                      have hSn : Row wf37 w.heap.size .u8 32 a0 22 ∧ Row wf37 (w.heap.size + 1) .u8 32 a1 22 ∧ Row wf37 (w.heap.size + 1 + 1) .u8 32 a2 22 := ⟨hHeld.1.below hb hHeld.1.lt, hHeld.2.1.below hb hHeld.2.1.lt, hHeld.2.2.below hb hHeld.2.2.lt⟩
                      have HBf := Aside0.mk (HBj.out.trans (hb.mono HBj.out.size))
                      have HR6 := Aside0.mk (HX6.out.below hb HX6.out.lt)
                      have HR7 := Aside0.mk (HX7.out.below hb HX7.out.lt)
                      have HR8 := Aside0.mk (HX8.out.below hb HX8.out.lt)
                      clear hb
                      refine ⟨_, rfl, hK.out _ _ hSn (fun hHeld => ?_)⟩
                      clear hSn hK K
                      refine norm_ (a' := ?_) ?_ ?_
                      rotate_left
                      · show Act.put _ (some 14) _ = _
                        simp only [Act.put, List.setIfInBounds_toArray, List.set_cons_zero, List.set_cons_succ, i64_w, i32_w]
                        rfl
                      exact norm_ (by first | (simp only [putAll, Act.put, List.setIfInBounds_toArray, List.set_cons_zero, List.set_cons_succ]; done) | (simp only [putAll, Act.put, List.setIfInBounds_toArray, List.set_cons_zero, List.set_cons_succ]; rfl)) (hJ1_6_7_8 (n6, n7, n8) _ ⟨HR6.out, HR7.out, HR8.out, hHeld.1, hHeld.2.1, hHeld.2.2, HBf.out, hlo6, hlo7, hlo8, hne7_6, hne8_6, hne8_7⟩)
                    ·skip
                     rintro ⟨n7, n8⟩ wg ⟨HX7, HX8, hq0, hq1, hq2, hbj, hlo7, hlo8, hne8_7⟩
                     have HX7 := Aside0.mk HX7
                     have HX8 := Aside0.mk HX8
                     have HBj := Aside0.mk hbj
                     clear hbj
                     have hHeld : Row wg w.heap.size .u8 32 a0 22 ∧ Row wg (w.heap.size + 1) .u8 32 a1 22 ∧ Row wg (w.heap.size + 1 + 1) .u8 32 a2 22 := ⟨hq0, hq1, hq2⟩
                     clear hq0 hq1 hq2
                     refine norm_ (a' := ?_) ?_ ?_
                     rotate_left
                     · simp only [putAll, Act.put, List.setIfInBounds_toArray, List.set_cons_zero, List.set_cons_succ]
                       rfl
                     refine two_ (i := 3) (j := 6) (Ni := some 16) (Nj := some 7) #[true, true, true, true, true, false, false, true, true, false, false, false] #[true, true, true, false, true, false, true, true, true, false, false, false] rfl rfl rfl rfl (by kernel_rfl) (by decide) (by decide) (fun K hK => ?_) (fun K hK => ?_)
                     · skip
                       refine goes_ Try.func13 rfl rfl #[.agg (FR .u8 32 a1)] rfl rfl rfl (by simp only [List.map_toArray, List.map_cons, List.map_nil]; rfl) ((Of_elem_calls a1 _ HA1.out).mono ?_)
                       rintro e wf38 ⟨rfl, hb⟩
                       have hSn : Row wf38 w.heap.size .u8 32 a0 22 ∧ Row wf38 (w.heap.size + 1) .u8 32 a1 22 ∧ Row wf38 (w.heap.size + 1 + 1) .u8 32 a2 22 := ⟨hHeld.1.below hb hHeld.1.lt, hHeld.2.1.below hb hHeld.2.1.lt, hHeld.2.2.below hb hHeld.2.2.lt⟩
                       have HBf := Aside0.mk (HBj.out.trans (hb.mono HBj.out.size))
                       have HR7 := Aside0.mk (HX7.out.below hb HX7.out.lt)
                       have HR8 := Aside0.mk (HX8.out.below hb HX8.out.lt)
                       clear hb
                       refine ⟨_, rfl, hK.out _ _ hSn (fun hHeld => ?_)⟩
                       clear hSn hK K
                       refine norm_ (a' := ?_) ?_ ?_
                       rotate_left
                       · show Act.put _ (some 16) _ = _
                         simp only [Act.put, List.setIfInBounds_toArray, List.set_cons_zero, List.set_cons_succ, i64_w, i32_w]
                         rfl
                       exact norm_ (by first | (simp only [putAll, Act.put, List.setIfInBounds_toArray, List.set_cons_zero, List.set_cons_succ]; done) | (simp only [putAll, Act.put, List.setIfInBounds_toArray, List.set_cons_zero, List.set_cons_succ]; rfl)) (hJ1_3_7_8 (n7, n8) _ ⟨HR7.out, HR8.out, hHeld.1, hHeld.2.1, hHeld.2.2, HBf.out, hlo7, hlo8, hne8_7⟩)
                     · skip
                       refine event_step (by rfl) (v := .pointer (some ⟨wg.heap.size, 0, none⟩)) (w1 := wg.alloc (.cells (FR .u64 5 fun _ => 0) 27)) (by first | (go_simp; done) | (go_simp; rfl)) ?_
                       have hSn : Row (wg.alloc (.cells (FR .u64 5 fun _ => 0) 27)) w.heap.size .u8 32 a0 22 ∧ Row (wg.alloc (.cells (FR .u64 5 fun _ => 0) 27)) (w.heap.size + 1) .u8 32 a1 22 ∧ Row (wg.alloc (.cells (FR .u64 5 fun _ => 0) 27)) (w.heap.size + 1 + 1) .u8 32 a2 22 := ⟨hHeld.1.alloc _, hHeld.2.1.alloc _, hHeld.2.2.alloc _⟩
                       have HBf := Aside0.mk (HBj.out.alloc HBj.out.size (.cells (FR .u64 5 fun _ => 0) 27))
                       have hlo6 : (w.heap.size + 1 + 1) < wg.heap.size := hHeld.2.2.lt
                       have hne7_6 : n7 ≠ wg.heap.size := by have := HX7.out.lt; omega
                       have HR7 := Aside0.mk (HX7.out.alloc (.cells (FR .u64 5 fun _ => 0) 27))
                       have hne8_6 : n8 ≠ wg.heap.size := by have := HX8.out.lt; omega
                       have HR8 := Aside0.mk (HX8.out.alloc (.cells (FR .u64 5 fun _ => 0) 27))
                       have HR6 := Aside0.mk (Row.new wg .u64 5 (fun _ => 0) 27)
                       generalize wg.alloc (.cells (FR .u64 5 fun _ => 0) 27) = wf39 at hSn HBf HR7 HR8 HR6 ⊢
                       refine hK.out _ _ hSn (fun hHeld => ?_)
                       clear hSn hK K
                       refine norm_ (a' := ?_) ?_ ?_
                       rotate_left
                       · show Act.put _ (some 7) _ = _
                         simp only [Act.put, List.setIfInBounds_toArray, List.set_cons_zero, List.set_cons_succ, i64_w, i32_w]
                         rfl
                       exact norm_ (by first | (simp only [putAll, Act.put, List.setIfInBounds_toArray, List.set_cons_zero, List.set_cons_succ]; done) | (simp only [putAll, Act.put, List.setIfInBounds_toArray, List.set_cons_zero, List.set_cons_succ]; rfl)) (hJ1_6_7_8 (wg.heap.size, n7, n8) _ ⟨HR6.out, HR7.out, HR8.out, hHeld.1, hHeld.2.1, hHeld.2.2, HBf.out, hlo6, hlo7, hlo8, hne7_6, hne8_6, hne8_7⟩)
                   ·skip
                    rintro ⟨n6, n8⟩ wg ⟨HX6, HX8, hq0, hq1, hq2, hbj, hlo6, hlo8, hne8_6⟩
                    have HX6 := Aside0.mk HX6
                    have HX8 := Aside0.mk HX8
                    have HBj := Aside0.mk hbj
                    clear hbj
                    have hHeld : Row wg w.heap.size .u8 32 a0 22 ∧ Row wg (w.heap.size + 1) .u8 32 a1 22 ∧ Row wg (w.heap.size + 1 + 1) .u8 32 a2 22 := ⟨hq0, hq1, hq2⟩
                    clear hq0 hq1 hq2
                    refine norm_ (a' := ?_) ?_ ?_
                    rotate_left
                    · simp only [putAll, Act.put, List.setIfInBounds_toArray, List.set_cons_zero, List.set_cons_succ]
                      rfl
                    refine two_ (i := 3) (j := 7) (Ni := some 16) (Nj := some 8) #[true, true, true, true, true, false, true, false, true, false, false, false] #[true, true, true, false, true, false, true, true, true, false, false, false] rfl rfl rfl rfl (by kernel_rfl) (by decide) (by decide) (fun K hK => ?_) (fun K hK => ?_)
                    · skip
                      refine goes_ Try.func13 rfl rfl #[.agg (FR .u8 32 a1)] rfl rfl rfl (by simp only [List.map_toArray, List.map_cons, List.map_nil]; rfl) ((Of_elem_calls a1 _ HA1.out).mono ?_)
                      rintro e wf40 ⟨rfl, hb⟩
                      have hSn : Row wf40 w.heap.size .u8 32 a0 22 ∧ Row wf40 (w.heap.size + 1) .u8 32 a1 22 ∧ Row wf40 (w.heap.size + 1 + 1) .u8 32 a2 22 := ⟨hHeld.1.below hb hHeld.1.lt, hHeld.2.1.below hb hHeld.2.1.lt, hHeld.2.2.below hb hHeld.2.2.lt⟩
                      have HBf := Aside0.mk (HBj.out.trans (hb.mono HBj.out.size))
                      have HR6 := Aside0.mk (HX6.out.below hb HX6.out.lt)
                      have HR8 := Aside0.mk (HX8.out.below hb HX8.out.lt)
                      clear hb
                      refine ⟨_, rfl, hK.out _ _ hSn (fun hHeld => ?_)⟩
                      clear hSn hK K
                      refine norm_ (a' := ?_) ?_ ?_
                      rotate_left
                      · show Act.put _ (some 16) _ = _
                        simp only [Act.put, List.setIfInBounds_toArray, List.set_cons_zero, List.set_cons_succ, i64_w, i32_w]
                        rfl
                      exact norm_ (by first | (simp only [putAll, Act.put, List.setIfInBounds_toArray, List.set_cons_zero, List.set_cons_succ]; done) | (simp only [putAll, Act.put, List.setIfInBounds_toArray, List.set_cons_zero, List.set_cons_succ]; rfl)) (hJ1_3_6_8 (n6, n8) _ ⟨HR6.out, HR8.out, hHeld.1, hHeld.2.1, hHeld.2.2, HBf.out, hlo6, hlo8, hne8_6⟩)
                    · skip
                      refine event_step (by rfl) (v := .pointer (some ⟨wg.heap.size, 0, none⟩)) (w1 := wg.alloc (.cells (FR .u64 5 fun _ => 0) 27)) (by first | (go_simp; done) | (go_simp; rfl)) ?_
                      have hSn : Row (wg.alloc (.cells (FR .u64 5 fun _ => 0) 27)) w.heap.size .u8 32 a0 22 ∧ Row (wg.alloc (.cells (FR .u64 5 fun _ => 0) 27)) (w.heap.size + 1) .u8 32 a1 22 ∧ Row (wg.alloc (.cells (FR .u64 5 fun _ => 0) 27)) (w.heap.size + 1 + 1) .u8 32 a2 22 := ⟨hHeld.1.alloc _, hHeld.2.1.alloc _, hHeld.2.2.alloc _⟩
                      have HBf := Aside0.mk (HBj.out.alloc HBj.out.size (.cells (FR .u64 5 fun _ => 0) 27))
                      have hlo7 : (w.heap.size + 1 + 1) < wg.heap.size := hHeld.2.2.lt
                      have hne7_6 : wg.heap.size ≠ n6 := by have := HX6.out.lt; omega
                      have HR6 := Aside0.mk (HX6.out.alloc (.cells (FR .u64 5 fun _ => 0) 27))
                      have hne8_7 : n8 ≠ wg.heap.size := by have := HX8.out.lt; omega
                      have HR8 := Aside0.mk (HX8.out.alloc (.cells (FR .u64 5 fun _ => 0) 27))
                      have HR7 := Aside0.mk (Row.new wg .u64 5 (fun _ => 0) 27)
                      generalize wg.alloc (.cells (FR .u64 5 fun _ => 0) 27) = wf41 at hSn HBf HR6 HR8 HR7 ⊢
                      refine hK.out _ _ hSn (fun hHeld => ?_)
                      clear hSn hK K
                      refine norm_ (a' := ?_) ?_ ?_
                      rotate_left
                      · show Act.put _ (some 8) _ = _
                        simp only [Act.put, List.setIfInBounds_toArray, List.set_cons_zero, List.set_cons_succ, i64_w, i32_w]
                        rfl
                      exact norm_ (by first | (simp only [putAll, Act.put, List.setIfInBounds_toArray, List.set_cons_zero, List.set_cons_succ]; done) | (simp only [putAll, Act.put, List.setIfInBounds_toArray, List.set_cons_zero, List.set_cons_succ]; rfl)) (hJ1_6_7_8 (n6, wg.heap.size, n8) _ ⟨HR6.out, HR7.out, HR8.out, hHeld.1, hHeld.2.1, hHeld.2.2, HBf.out, hlo6, hlo7, hlo8, hne7_6, hne8_6, hne8_7⟩)
                  ·skip
                   rintro ⟨n6, n7⟩ wg ⟨HX6, HX7, hq0, hq1, hq2, hbj, hlo6, hlo7, hne7_6⟩
                   have HX6 := Aside0.mk HX6
                   have HX7 := Aside0.mk HX7
                   have HBj := Aside0.mk hbj
                   clear hbj
                   have hHeld : Row wg w.heap.size .u8 32 a0 22 ∧ Row wg (w.heap.size + 1) .u8 32 a1 22 ∧ Row wg (w.heap.size + 1 + 1) .u8 32 a2 22 := ⟨hq0, hq1, hq2⟩
                   clear hq0 hq1 hq2
                   refine norm_ (a' := ?_) ?_ ?_
                   rotate_left
                   · simp only [putAll, Act.put, List.setIfInBounds_toArray, List.set_cons_zero, List.set_cons_succ]
                     rfl
                   refine two_ (i := 3) (j := 8) (Ni := some 16) (Nj := some 9) #[true, true, true, true, true, false, true, true, false, false, false, false] #[true, true, true, false, true, false, true, true, true, false, false, false] rfl rfl rfl rfl (by kernel_rfl) (by decide) (by decide) (fun K hK => ?_) (fun K hK => ?_)
                   · skip
                     refine goes_ Try.func13 rfl rfl #[.agg (FR .u8 32 a1)] rfl rfl rfl (by simp only [List.map_toArray, List.map_cons, List.map_nil]; rfl) ((Of_elem_calls a1 _ HA1.out).mono ?_)
                     rintro e wf42 ⟨rfl, hb⟩
                     have hSn : Row wf42 w.heap.size .u8 32 a0 22 ∧ Row wf42 (w.heap.size + 1) .u8 32 a1 22 ∧ Row wf42 (w.heap.size + 1 + 1) .u8 32 a2 22 := ⟨hHeld.1.below hb hHeld.1.lt, hHeld.2.1.below hb hHeld.2.1.lt, hHeld.2.2.below hb hHeld.2.2.lt⟩
                     have HBf := Aside0.mk (HBj.out.trans (hb.mono HBj.out.size))
                     have HR6 := Aside0.mk (HX6.out.below hb HX6.out.lt)
                     have HR7 := Aside0.mk (HX7.out.below hb HX7.out.lt)
                     clear hb
                     refine ⟨_, rfl, hK.out _ _ hSn (fun hHeld => ?_)⟩
                     clear hSn hK K
                     refine norm_ (a' := ?_) ?_ ?_
                     rotate_left
                     · show Act.put _ (some 16) _ = _
                       simp only [Act.put, List.setIfInBounds_toArray, List.set_cons_zero, List.set_cons_succ, i64_w, i32_w]
                       rfl
                     exact norm_ (by first | (simp only [putAll, Act.put, List.setIfInBounds_toArray, List.set_cons_zero, List.set_cons_succ]; done) | (simp only [putAll, Act.put, List.setIfInBounds_toArray, List.set_cons_zero, List.set_cons_succ]; rfl)) (hJ1_3_6_7 (n6, n7) _ ⟨HR6.out, HR7.out, hHeld.1, hHeld.2.1, hHeld.2.2, HBf.out, hlo6, hlo7, hne7_6⟩)
                   · skip
                     refine event_step (by rfl) (v := .pointer (some ⟨wg.heap.size, 0, none⟩)) (w1 := wg.alloc (.cells (FR .u64 5 fun _ => 0) 27)) (by first | (go_simp; done) | (go_simp; rfl)) ?_
                     have hSn : Row (wg.alloc (.cells (FR .u64 5 fun _ => 0) 27)) w.heap.size .u8 32 a0 22 ∧ Row (wg.alloc (.cells (FR .u64 5 fun _ => 0) 27)) (w.heap.size + 1) .u8 32 a1 22 ∧ Row (wg.alloc (.cells (FR .u64 5 fun _ => 0) 27)) (w.heap.size + 1 + 1) .u8 32 a2 22 := ⟨hHeld.1.alloc _, hHeld.2.1.alloc _, hHeld.2.2.alloc _⟩
                     have HBf := Aside0.mk (HBj.out.alloc HBj.out.size (.cells (FR .u64 5 fun _ => 0) 27))
                     have hlo8 : (w.heap.size + 1 + 1) < wg.heap.size := hHeld.2.2.lt
                     have hne8_6 : wg.heap.size ≠ n6 := by have := HX6.out.lt; omega
                     have HR6 := Aside0.mk (HX6.out.alloc (.cells (FR .u64 5 fun _ => 0) 27))
                     have hne8_7 : wg.heap.size ≠ n7 := by have := HX7.out.lt; omega
                     have HR7 := Aside0.mk (HX7.out.alloc (.cells (FR .u64 5 fun _ => 0) 27))
                     have HR8 := Aside0.mk (Row.new wg .u64 5 (fun _ => 0) 27)
                     generalize wg.alloc (.cells (FR .u64 5 fun _ => 0) 27) = wf43 at hSn HBf HR6 HR7 HR8 ⊢
                     refine hK.out _ _ hSn (fun hHeld => ?_)
                     clear hSn hK K
                     refine norm_ (a' := ?_) ?_ ?_
                     rotate_left
                     · show Act.put _ (some 9) _ = _
                       simp only [Act.put, List.setIfInBounds_toArray, List.set_cons_zero, List.set_cons_succ, i64_w, i32_w]
                       rfl
                     exact norm_ (by first | (simp only [putAll, Act.put, List.setIfInBounds_toArray, List.set_cons_zero, List.set_cons_succ]; done) | (simp only [putAll, Act.put, List.setIfInBounds_toArray, List.set_cons_zero, List.set_cons_succ]; rfl)) (hJ1_6_7_8 (n6, n7, wg.heap.size) _ ⟨HR6.out, HR7.out, HR8.out, hHeld.1, hHeld.2.1, hHeld.2.2, HBf.out, hlo6, hlo7, hlo8, hne7_6, hne8_6, hne8_7⟩)
                 ·skip
                  rintro n8 wg ⟨HX8, hq0, hq1, hq2, hbj, hlo8⟩
                  have HX8 := Aside0.mk HX8
                  have HBj := Aside0.mk hbj
                  clear hbj
                  have hHeld : Row wg w.heap.size .u8 32 a0 22 ∧ Row wg (w.heap.size + 1) .u8 32 a1 22 ∧ Row wg (w.heap.size + 1 + 1) .u8 32 a2 22 := ⟨hq0, hq1, hq2⟩
                  clear hq0 hq1 hq2
                  refine norm_ (a' := ?_) ?_ ?_
                  rotate_left
                  · simp only [putAll, Act.put, List.setIfInBounds_toArray, List.set_cons_zero, List.set_cons_succ]
                    rfl
                  refine three_ (i := 5) (j := 6) (k := 7) (Ni := some 18) (Nj := some 7) (Nk := some 8) #[true, true, true, true, true, true, false, false, true, false, false, false] #[true, true, true, true, true, false, true, false, true, false, false, false] #[true, true, true, true, true, false, false, true, true, false, false, false] rfl rfl rfl rfl rfl rfl (by kernel_rfl) (by decide) (by decide) (by decide) (fun K hK => ?_) (fun K hK => ?_) (fun K hK => ?_)
                  · skip
                    refine goes_ Try.func13 rfl rfl #[.agg (FR .u8 32 a2)] rfl rfl rfl (by simp only [List.map_toArray, List.map_cons, List.map_nil]; rfl) ((Of_elem_calls a2 _ HA2.out).mono ?_)
                    rintro e wf44 ⟨rfl, hb⟩
                    have hSn : Row wf44 w.heap.size .u8 32 a0 22 ∧ Row wf44 (w.heap.size + 1) .u8 32 a1 22 ∧ Row wf44 (w.heap.size + 1 + 1) .u8 32 a2 22 := ⟨hHeld.1.below hb hHeld.1.lt, hHeld.2.1.below hb hHeld.2.1.lt, hHeld.2.2.below hb hHeld.2.2.lt⟩
                    have HBf := Aside0.mk (HBj.out.trans (hb.mono HBj.out.size))
                    have HR8 := Aside0.mk (HX8.out.below hb HX8.out.lt)
                    clear hb
                    refine ⟨_, rfl, hK.out _ _ hSn (fun hHeld => ?_)⟩
                    clear hSn hK K
                    refine norm_ (a' := ?_) ?_ ?_
                    rotate_left
                    · show Act.put _ (some 18) _ = _
                      simp only [Act.put, List.setIfInBounds_toArray, List.set_cons_zero, List.set_cons_succ, i64_w, i32_w]
                      rfl
                    exact norm_ (by first | (simp only [putAll, Act.put, List.setIfInBounds_toArray, List.set_cons_zero, List.set_cons_succ]; done) | (simp only [putAll, Act.put, List.setIfInBounds_toArray, List.set_cons_zero, List.set_cons_succ]; rfl)) (hJ1_3_5_8 n8 _ ⟨HR8.out, hHeld.1, hHeld.2.1, hHeld.2.2, HBf.out, hlo8⟩)
                  · skip
                    refine event_step (by rfl) (v := .pointer (some ⟨wg.heap.size, 0, none⟩)) (w1 := wg.alloc (.cells (FR .u64 5 fun _ => 0) 27)) (by first | (go_simp; done) | (go_simp; rfl)) ?_
                    have hSn : Row (wg.alloc (.cells (FR .u64 5 fun _ => 0) 27)) w.heap.size .u8 32 a0 22 ∧ Row (wg.alloc (.cells (FR .u64 5 fun _ => 0) 27)) (w.heap.size + 1) .u8 32 a1 22 ∧ Row (wg.alloc (.cells (FR .u64 5 fun _ => 0) 27)) (w.heap.size + 1 + 1) .u8 32 a2 22 := ⟨hHeld.1.alloc _, hHeld.2.1.alloc _, hHeld.2.2.alloc _⟩
                    have HBf := Aside0.mk (HBj.out.alloc HBj.out.size (.cells (FR .u64 5 fun _ => 0) 27))
                    have hlo6 : (w.heap.size + 1 + 1) < wg.heap.size := hHeld.2.2.lt
                    have hne8_6 : n8 ≠ wg.heap.size := by have := HX8.out.lt; omega
                    have HR8 := Aside0.mk (HX8.out.alloc (.cells (FR .u64 5 fun _ => 0) 27))
                    have HR6 := Aside0.mk (Row.new wg .u64 5 (fun _ => 0) 27)
                    generalize wg.alloc (.cells (FR .u64 5 fun _ => 0) 27) = wf45 at hSn HBf HR8 HR6 ⊢
                    refine hK.out _ _ hSn (fun hHeld => ?_)
                    clear hSn hK K
                    refine norm_ (a' := ?_) ?_ ?_
                    rotate_left
                    · show Act.put _ (some 7) _ = _
                      simp only [Act.put, List.setIfInBounds_toArray, List.set_cons_zero, List.set_cons_succ, i64_w, i32_w]
                      rfl
                    exact norm_ (by first | (simp only [putAll, Act.put, List.setIfInBounds_toArray, List.set_cons_zero, List.set_cons_succ]; done) | (simp only [putAll, Act.put, List.setIfInBounds_toArray, List.set_cons_zero, List.set_cons_succ]; rfl)) (hJ1_3_6_8 (wg.heap.size, n8) _ ⟨HR6.out, HR8.out, hHeld.1, hHeld.2.1, hHeld.2.2, HBf.out, hlo6, hlo8, hne8_6⟩)
                  · skip
                    refine event_step (by rfl) (v := .pointer (some ⟨wg.heap.size, 0, none⟩)) (w1 := wg.alloc (.cells (FR .u64 5 fun _ => 0) 27)) (by first | (go_simp; done) | (go_simp; rfl)) ?_
                    have hSn : Row (wg.alloc (.cells (FR .u64 5 fun _ => 0) 27)) w.heap.size .u8 32 a0 22 ∧ Row (wg.alloc (.cells (FR .u64 5 fun _ => 0) 27)) (w.heap.size + 1) .u8 32 a1 22 ∧ Row (wg.alloc (.cells (FR .u64 5 fun _ => 0) 27)) (w.heap.size + 1 + 1) .u8 32 a2 22 := ⟨hHeld.1.alloc _, hHeld.2.1.alloc _, hHeld.2.2.alloc _⟩
                    have HBf := Aside0.mk (HBj.out.alloc HBj.out.size (.cells (FR .u64 5 fun _ => 0) 27))
                    have hlo7 : (w.heap.size + 1 + 1) < wg.heap.size := hHeld.2.2.lt
                    have hne8_7 : n8 ≠ wg.heap.size := by have := HX8.out.lt; omega
                    have HR8 := Aside0.mk (HX8.out.alloc (.cells (FR .u64 5 fun _ => 0) 27))
                    have HR7 := Aside0.mk (Row.new wg .u64 5 (fun _ => 0) 27)
                    generalize wg.alloc (.cells (FR .u64 5 fun _ => 0) 27) = wf46 at hSn HBf HR8 HR7 ⊢
                    refine hK.out _ _ hSn (fun hHeld => ?_)
                    clear hSn hK K
                    refine norm_ (a' := ?_) ?_ ?_
                    rotate_left
                    · show Act.put _ (some 8) _ = _
                      simp only [Act.put, List.setIfInBounds_toArray, List.set_cons_zero, List.set_cons_succ, i64_w, i32_w]
                      rfl
                    exact norm_ (by first | (simp only [putAll, Act.put, List.setIfInBounds_toArray, List.set_cons_zero, List.set_cons_succ]; done) | (simp only [putAll, Act.put, List.setIfInBounds_toArray, List.set_cons_zero, List.set_cons_succ]; rfl)) (hJ1_3_7_8 (wg.heap.size, n8) _ ⟨HR7.out, HR8.out, hHeld.1, hHeld.2.1, hHeld.2.2, HBf.out, hlo7, hlo8, hne8_7⟩)
                ·skip
                 rintro n7 wg ⟨HX7, hq0, hq1, hq2, hbj, hlo7⟩
                 have HX7 := Aside0.mk HX7
                 have HBj := Aside0.mk hbj
                 clear hbj
                 have hHeld : Row wg w.heap.size .u8 32 a0 22 ∧ Row wg (w.heap.size + 1) .u8 32 a1 22 ∧ Row wg (w.heap.size + 1 + 1) .u8 32 a2 22 := ⟨hq0, hq1, hq2⟩
                 clear hq0 hq1 hq2
                 refine norm_ (a' := ?_) ?_ ?_
                 rotate_left
                 · simp only [putAll, Act.put, List.setIfInBounds_toArray, List.set_cons_zero, List.set_cons_succ]
                   rfl
                 refine three_ (i := 5) (j := 6) (k := 8) (Ni := some 18) (Nj := some 7) (Nk := some 9) #[true, true, true, true, true, true, false, true, false, false, false, false] #[true, true, true, true, true, false, true, true, false, false, false, false] #[true, true, true, true, true, false, false, true, true, false, false, false] rfl rfl rfl rfl rfl rfl (by kernel_rfl) (by decide) (by decide) (by decide) (fun K hK => ?_) (fun K hK => ?_) (fun K hK => ?_)
                 · skip
                   refine goes_ Try.func13 rfl rfl #[.agg (FR .u8 32 a2)] rfl rfl rfl (by simp only [List.map_toArray, List.map_cons, List.map_nil]; rfl) ((Of_elem_calls a2 _ HA2.out).mono ?_)
                   rintro e wf47 ⟨rfl, hb⟩
                   have hSn : Row wf47 w.heap.size .u8 32 a0 22 ∧ Row wf47 (w.heap.size + 1) .u8 32 a1 22 ∧ Row wf47 (w.heap.size + 1 + 1) .u8 32 a2 22 := ⟨hHeld.1.below hb hHeld.1.lt, hHeld.2.1.below hb hHeld.2.1.lt, hHeld.2.2.below hb hHeld.2.2.lt⟩
                   have HBf := Aside0.mk (HBj.out.trans (hb.mono HBj.out.size))
                   have HR7 := Aside0.mk (HX7.out.below hb HX7.out.lt)
                   clear hb
                   refine ⟨_, rfl, hK.out _ _ hSn (fun hHeld => ?_)⟩
                   clear hSn hK K
                   refine norm_ (a' := ?_) ?_ ?_
                   rotate_left
                   · show Act.put _ (some 18) _ = _
                     simp only [Act.put, List.setIfInBounds_toArray, List.set_cons_zero, List.set_cons_succ, i64_w, i32_w]
                     rfl
                   exact norm_ (by first | (simp only [putAll, Act.put, List.setIfInBounds_toArray, List.set_cons_zero, List.set_cons_succ]; done) | (simp only [putAll, Act.put, List.setIfInBounds_toArray, List.set_cons_zero, List.set_cons_succ]; rfl)) (hJ1_3_5_7 n7 _ ⟨HR7.out, hHeld.1, hHeld.2.1, hHeld.2.2, HBf.out, hlo7⟩)
                 · skip
                   refine event_step (by rfl) (v := .pointer (some ⟨wg.heap.size, 0, none⟩)) (w1 := wg.alloc (.cells (FR .u64 5 fun _ => 0) 27)) (by first | (go_simp; done) | (go_simp; rfl)) ?_
                   have hSn : Row (wg.alloc (.cells (FR .u64 5 fun _ => 0) 27)) w.heap.size .u8 32 a0 22 ∧ Row (wg.alloc (.cells (FR .u64 5 fun _ => 0) 27)) (w.heap.size + 1) .u8 32 a1 22 ∧ Row (wg.alloc (.cells (FR .u64 5 fun _ => 0) 27)) (w.heap.size + 1 + 1) .u8 32 a2 22 := ⟨hHeld.1.alloc _, hHeld.2.1.alloc _, hHeld.2.2.alloc _⟩
                   have HBf := Aside0.mk (HBj.out.alloc HBj.out.size (.cells (FR .u64 5 fun _ => 0) 27))
                   have hlo6 : (w.heap.size + 1 + 1) < wg.heap.size := hHeld.2.2.lt
                   have hne7_6 : n7 ≠ wg.heap.size := by have := HX7.out.lt; omega
                   have HR7 := Aside0.mk (HX7.out.alloc (.cells (FR .u64 5 fun _ => 0) 27))
                   have HR6 := Aside0.mk (Row.new wg .u64 5 (fun _ => 0) 27)
                   generalize wg.alloc (.cells (FR .u64 5 fun _ => 0) 27) = wf48 at hSn HBf HR7 HR6 ⊢
                   refine hK.out _ _ hSn (fun hHeld => ?_)
                   clear hSn hK K
                   refine norm_ (a' := ?_) ?_ ?_
                   rotate_left
                   · show Act.put _ (some 7) _ = _
                     simp only [Act.put, List.setIfInBounds_toArray, List.set_cons_zero, List.set_cons_succ, i64_w, i32_w]
                     rfl
                   exact norm_ (by first | (simp only [putAll, Act.put, List.setIfInBounds_toArray, List.set_cons_zero, List.set_cons_succ]; done) | (simp only [putAll, Act.put, List.setIfInBounds_toArray, List.set_cons_zero, List.set_cons_succ]; rfl)) (hJ1_3_6_7 (wg.heap.size, n7) _ ⟨HR6.out, HR7.out, hHeld.1, hHeld.2.1, hHeld.2.2, HBf.out, hlo6, hlo7, hne7_6⟩)
                 · skip
                   refine event_step (by rfl) (v := .pointer (some ⟨wg.heap.size, 0, none⟩)) (w1 := wg.alloc (.cells (FR .u64 5 fun _ => 0) 27)) (by first | (go_simp; done) | (go_simp; rfl)) ?_
                   have hSn : Row (wg.alloc (.cells (FR .u64 5 fun _ => 0) 27)) w.heap.size .u8 32 a0 22 ∧ Row (wg.alloc (.cells (FR .u64 5 fun _ => 0) 27)) (w.heap.size + 1) .u8 32 a1 22 ∧ Row (wg.alloc (.cells (FR .u64 5 fun _ => 0) 27)) (w.heap.size + 1 + 1) .u8 32 a2 22 := ⟨hHeld.1.alloc _, hHeld.2.1.alloc _, hHeld.2.2.alloc _⟩
                   have HBf := Aside0.mk (HBj.out.alloc HBj.out.size (.cells (FR .u64 5 fun _ => 0) 27))
                   have hlo8 : (w.heap.size + 1 + 1) < wg.heap.size := hHeld.2.2.lt
                   have hne8_7 : wg.heap.size ≠ n7 := by have := HX7.out.lt; omega
                   have HR7 := Aside0.mk (HX7.out.alloc (.cells (FR .u64 5 fun _ => 0) 27))
                   have HR8 := Aside0.mk (Row.new wg .u64 5 (fun _ => 0) 27)
                   generalize wg.alloc (.cells (FR .u64 5 fun _ => 0) 27) = wf49 at hSn HBf HR7 HR8 ⊢
                   refine hK.out _ _ hSn (fun hHeld => ?_)
                   clear hSn hK K
                   refine norm_ (a' := ?_) ?_ ?_
                   rotate_left
                   · show Act.put _ (some 9) _ = _
                     simp only [Act.put, List.setIfInBounds_toArray, List.set_cons_zero, List.set_cons_succ, i64_w, i32_w]
                     rfl
                   exact norm_ (by first | (simp only [putAll, Act.put, List.setIfInBounds_toArray, List.set_cons_zero, List.set_cons_succ]; done) | (simp only [putAll, Act.put, List.setIfInBounds_toArray, List.set_cons_zero, List.set_cons_succ]; rfl)) (hJ1_3_7_8 (n7, wg.heap.size) _ ⟨HR7.out, HR8.out, hHeld.1, hHeld.2.1, hHeld.2.2, HBf.out, hlo7, hlo8, hne8_7⟩)
               ·skip
                rintro n6 wg ⟨HX6, hq0, hq1, hq2, hbj, hlo6⟩
                have HX6 := Aside0.mk HX6
                have HBj := Aside0.mk hbj
                clear hbj
                have hHeld : Row wg w.heap.size .u8 32 a0 22 ∧ Row wg (w.heap.size + 1) .u8 32 a1 22 ∧ Row wg (w.heap.size + 1 + 1) .u8 32 a2 22 := ⟨hq0, hq1, hq2⟩
                clear hq0 hq1 hq2
                refine norm_ (a' := ?_) ?_ ?_
                rotate_left
                · simp only [putAll, Act.put, List.setIfInBounds_toArray, List.set_cons_zero, List.set_cons_succ]
                  rfl
                refine three_ (i := 5) (j := 7) (k := 8) (Ni := some 18) (Nj := some 8) (Nk := some 9) #[true, true, true, true, true, true, true, false, false, false, false, false] #[true, true, true, true, true, false, true, true, false, false, false, false] #[true, true, true, true, true, false, true, false, true, false, false, false] rfl rfl rfl rfl rfl rfl (by kernel_rfl) (by decide) (by decide) (by decide) (fun K hK => ?_) (fun K hK => ?_) (fun K hK => ?_)
                · skip
                  refine goes_ Try.func13 rfl rfl #[.agg (FR .u8 32 a2)] rfl rfl rfl (by simp only [List.map_toArray, List.map_cons, List.map_nil]; rfl) ((Of_elem_calls a2 _ HA2.out).mono ?_)
                  rintro e wf50 ⟨rfl, hb⟩
                  have hSn : Row wf50 w.heap.size .u8 32 a0 22 ∧ Row wf50 (w.heap.size + 1) .u8 32 a1 22 ∧ Row wf50 (w.heap.size + 1 + 1) .u8 32 a2 22 := ⟨hHeld.1.below hb hHeld.1.lt, hHeld.2.1.below hb hHeld.2.1.lt, hHeld.2.2.below hb hHeld.2.2.lt⟩
                  have HBf := Aside0.mk (HBj.out.trans (hb.mono HBj.out.size))
                  have HR6 := Aside0.mk (HX6.out.below hb HX6.out.lt)
                  clear hb
                  refine ⟨_, rfl, hK.out _ _ hSn (fun hHeld => ?_)⟩
                  clear hSn hK K
                  refine norm_ (a' := ?_) ?_ ?_
                  rotate_left
                  · show Act.put _ (some 18) _ = _
                    simp only [Act.put, List.setIfInBounds_toArray, List.set_cons_zero, List.set_cons_succ, i64_w, i32_w]
                    rfl
                  exact norm_ (by first | (simp only [putAll, Act.put, List.setIfInBounds_toArray, List.set_cons_zero, List.set_cons_succ]; done) | (simp only [putAll, Act.put, List.setIfInBounds_toArray, List.set_cons_zero, List.set_cons_succ]; rfl)) (hJ1_3_5_6 n6 _ ⟨HR6.out, hHeld.1, hHeld.2.1, hHeld.2.2, HBf.out, hlo6⟩)
                · skip
                  refine event_step (by rfl) (v := .pointer (some ⟨wg.heap.size, 0, none⟩)) (w1 := wg.alloc (.cells (FR .u64 5 fun _ => 0) 27)) (by first | (go_simp; done) | (go_simp; rfl)) ?_
                  have hSn : Row (wg.alloc (.cells (FR .u64 5 fun _ => 0) 27)) w.heap.size .u8 32 a0 22 ∧ Row (wg.alloc (.cells (FR .u64 5 fun _ => 0) 27)) (w.heap.size + 1) .u8 32 a1 22 ∧ Row (wg.alloc (.cells (FR .u64 5 fun _ => 0) 27)) (w.heap.size + 1 + 1) .u8 32 a2 22 := ⟨hHeld.1.alloc _, hHeld.2.1.alloc _, hHeld.2.2.alloc _⟩
                  have HBf := Aside0.mk (HBj.out.alloc HBj.out.size (.cells (FR .u64 5 fun _ => 0) 27))
                  have hlo7 : (w.heap.size + 1 + 1) < wg.heap.size := hHeld.2.2.lt
                  have hne7_6 : wg.heap.size ≠ n6 := by have := HX6.out.lt; omega
                  have HR6 := Aside0.mk (HX6.out.alloc (.cells (FR .u64 5 fun _ => 0) 27))
                  have HR7 := Aside0.mk (Row.new wg .u64 5 (fun _ => 0) 27)
                  generalize wg.alloc (.cells (FR .u64 5 fun _ => 0) 27) = wf51 at hSn HBf HR6 HR7 ⊢
                  refine hK.out _ _ hSn (fun hHeld => ?_)
                  clear hSn hK K
                  refine norm_ (a' := ?_) ?_ ?_
                  rotate_left
                  · show Act.put _ (some 8) _ = _
                    simp only [Act.put, List.setIfInBounds_toArray, List.set_cons_zero, List.set_cons_succ, i64_w, i32_w]
                    rfl
                  exact norm_ (by first | (simp only [putAll, Act.put, List.setIfInBounds_toArray, List.set_cons_zero, List.set_cons_succ]; done) | (simp only [putAll, Act.put, List.setIfInBounds_toArray, List.set_cons_zero, List.set_cons_succ]; rfl)) (hJ1_3_6_7 (n6, wg.heap.size) _ ⟨HR6.out, HR7.out, hHeld.1, hHeld.2.1, hHeld.2.2, HBf.out, hlo6, hlo7, hne7_6⟩)
                · skip
                  refine event_step (by rfl) (v := .pointer (some ⟨wg.heap.size, 0, none⟩)) (w1 := wg.alloc (.cells (FR .u64 5 fun _ => 0) 27)) (by first | (go_simp; done) | (go_simp; rfl)) ?_
                  have hSn : Row (wg.alloc (.cells (FR .u64 5 fun _ => 0) 27)) w.heap.size .u8 32 a0 22 ∧ Row (wg.alloc (.cells (FR .u64 5 fun _ => 0) 27)) (w.heap.size + 1) .u8 32 a1 22 ∧ Row (wg.alloc (.cells (FR .u64 5 fun _ => 0) 27)) (w.heap.size + 1 + 1) .u8 32 a2 22 := ⟨hHeld.1.alloc _, hHeld.2.1.alloc _, hHeld.2.2.alloc _⟩
                  have HBf := Aside0.mk (HBj.out.alloc HBj.out.size (.cells (FR .u64 5 fun _ => 0) 27))
                  have hlo8 : (w.heap.size + 1 + 1) < wg.heap.size := hHeld.2.2.lt
                  have hne8_6 : wg.heap.size ≠ n6 := by have := HX6.out.lt; omega
                  have HR6 := Aside0.mk (HX6.out.alloc (.cells (FR .u64 5 fun _ => 0) 27))
                  have HR8 := Aside0.mk (Row.new wg .u64 5 (fun _ => 0) 27)
                  generalize wg.alloc (.cells (FR .u64 5 fun _ => 0) 27) = wf52 at hSn HBf HR6 HR8 ⊢
                  refine hK.out _ _ hSn (fun hHeld => ?_)
                  clear hSn hK K
                  refine norm_ (a' := ?_) ?_ ?_
                  rotate_left
                  · show Act.put _ (some 9) _ = _
                    simp only [Act.put, List.setIfInBounds_toArray, List.set_cons_zero, List.set_cons_succ, i64_w, i32_w]
                    rfl
                  exact norm_ (by first | (simp only [putAll, Act.put, List.setIfInBounds_toArray, List.set_cons_zero, List.set_cons_succ]; done) | (simp only [putAll, Act.put, List.setIfInBounds_toArray, List.set_cons_zero, List.set_cons_succ]; rfl)) (hJ1_3_6_8 (n6, wg.heap.size) _ ⟨HR6.out, HR8.out, hHeld.1, hHeld.2.1, hHeld.2.2, HBf.out, hlo6, hlo8, hne8_6⟩)
              ·skip
               rintro _ wg ⟨hq0, hq1, hq2, hbj⟩
               have HBj := Aside0.mk hbj
               clear hbj
               have hHeld : Row wg w.heap.size .u8 32 a0 22 ∧ Row wg (w.heap.size + 1) .u8 32 a1 22 ∧ Row wg (w.heap.size + 1 + 1) .u8 32 a2 22 := ⟨hq0, hq1, hq2⟩
               clear hq0 hq1 hq2
               refine norm_ (a' := ?_) ?_ ?_
               rotate_left
               · simp only [putAll, Act.put, List.setIfInBounds_toArray, List.set_cons_zero, List.set_cons_succ]
                 rfl
               refine three_ (i := 6) (j := 7) (k := 8) (Ni := some 7) (Nj := some 8) (Nk := some 9) #[true, true, true, true, true, true, true, false, false, false, false, false] #[true, true, true, true, true, true, false, true, false, false, false, false] #[true, true, true, true, true, true, false, false, true, false, false, false] rfl rfl rfl rfl rfl rfl (by kernel_rfl) (by decide) (by decide) (by decide) (fun K hK => ?_) (fun K hK => ?_) (fun K hK => ?_)
               · skip
                 refine event_step (by rfl) (v := .pointer (some ⟨wg.heap.size, 0, none⟩)) (w1 := wg.alloc (.cells (FR .u64 5 fun _ => 0) 27)) (by first | (go_simp; done) | (go_simp; rfl)) ?_
                 have hSn : Row (wg.alloc (.cells (FR .u64 5 fun _ => 0) 27)) w.heap.size .u8 32 a0 22 ∧ Row (wg.alloc (.cells (FR .u64 5 fun _ => 0) 27)) (w.heap.size + 1) .u8 32 a1 22 ∧ Row (wg.alloc (.cells (FR .u64 5 fun _ => 0) 27)) (w.heap.size + 1 + 1) .u8 32 a2 22 := ⟨hHeld.1.alloc _, hHeld.2.1.alloc _, hHeld.2.2.alloc _⟩
                 have HBf := Aside0.mk (HBj.out.alloc HBj.out.size (.cells (FR .u64 5 fun _ => 0) 27))
                 have hlo6 : (w.heap.size + 1 + 1) < wg.heap.size := hHeld.2.2.lt
                 have HR6 := Aside0.mk (Row.new wg .u64 5 (fun _ => 0) 27)
                 generalize wg.alloc (.cells (FR .u64 5 fun _ => 0) 27) = wf53 at hSn HBf HR6 ⊢
                 refine hK.out _ _ hSn (fun hHeld => ?_)
                 clear hSn hK K
                 refine norm_ (a' := ?_) ?_ ?_
                 rotate_left
                 · show Act.put _ (some 7) _ = _
                   simp only [Act.put, List.setIfInBounds_toArray, List.set_cons_zero, List.set_cons_succ, i64_w, i32_w]
                   rfl
                 exact norm_ (by first | (simp only [putAll, Act.put, List.setIfInBounds_toArray, List.set_cons_zero, List.set_cons_succ]; done) | (simp only [putAll, Act.put, List.setIfInBounds_toArray, List.set_cons_zero, List.set_cons_succ]; rfl)) (hJ1_3_5_6 wg.heap.size _ ⟨HR6.out, hHeld.1, hHeld.2.1, hHeld.2.2, HBf.out, hlo6⟩)
               · skip
                 refine event_step (by rfl) (v := .pointer (some ⟨wg.heap.size, 0, none⟩)) (w1 := wg.alloc (.cells (FR .u64 5 fun _ => 0) 27)) (by first | (go_simp; done) | (go_simp; rfl)) ?_
                 have hSn : Row (wg.alloc (.cells (FR .u64 5 fun _ => 0) 27)) w.heap.size .u8 32 a0 22 ∧ Row (wg.alloc (.cells (FR .u64 5 fun _ => 0) 27)) (w.heap.size + 1) .u8 32 a1 22 ∧ Row (wg.alloc (.cells (FR .u64 5 fun _ => 0) 27)) (w.heap.size + 1 + 1) .u8 32 a2 22 := ⟨hHeld.1.alloc _, hHeld.2.1.alloc _, hHeld.2.2.alloc _⟩
                 have HBf := Aside0.mk (HBj.out.alloc HBj.out.size (.cells (FR .u64 5 fun _ => 0) 27))
                 have hlo7 : (w.heap.size + 1 + 1) < wg.heap.size := hHeld.2.2.lt
                 have HR7 := Aside0.mk (Row.new wg .u64 5 (fun _ => 0) 27)
                 generalize wg.alloc (.cells (FR .u64 5 fun _ => 0) 27) = wf54 at hSn HBf HR7 ⊢
                 refine hK.out _ _ hSn (fun hHeld => ?_)
                 clear hSn hK K
                 refine norm_ (a' := ?_) ?_ ?_
                 rotate_left
                 · show Act.put _ (some 8) _ = _
                   simp only [Act.put, List.setIfInBounds_toArray, List.set_cons_zero, List.set_cons_succ, i64_w, i32_w]
                   rfl
                 exact norm_ (by first | (simp only [putAll, Act.put, List.setIfInBounds_toArray, List.set_cons_zero, List.set_cons_succ]; done) | (simp only [putAll, Act.put, List.setIfInBounds_toArray, List.set_cons_zero, List.set_cons_succ]; rfl)) (hJ1_3_5_7 wg.heap.size _ ⟨HR7.out, hHeld.1, hHeld.2.1, hHeld.2.2, HBf.out, hlo7⟩)
               · skip
                 refine event_step (by rfl) (v := .pointer (some ⟨wg.heap.size, 0, none⟩)) (w1 := wg.alloc (.cells (FR .u64 5 fun _ => 0) 27)) (by first | (go_simp; done) | (go_simp; rfl)) ?_
                 have hSn : Row (wg.alloc (.cells (FR .u64 5 fun _ => 0) 27)) w.heap.size .u8 32 a0 22 ∧ Row (wg.alloc (.cells (FR .u64 5 fun _ => 0) 27)) (w.heap.size + 1) .u8 32 a1 22 ∧ Row (wg.alloc (.cells (FR .u64 5 fun _ => 0) 27)) (w.heap.size + 1 + 1) .u8 32 a2 22 := ⟨hHeld.1.alloc _, hHeld.2.1.alloc _, hHeld.2.2.alloc _⟩
                 have HBf := Aside0.mk (HBj.out.alloc HBj.out.size (.cells (FR .u64 5 fun _ => 0) 27))
                 have hlo8 : (w.heap.size + 1 + 1) < wg.heap.size := hHeld.2.2.lt
                 have HR8 := Aside0.mk (Row.new wg .u64 5 (fun _ => 0) 27)
                 generalize wg.alloc (.cells (FR .u64 5 fun _ => 0) 27) = wf55 at hSn HBf HR8 ⊢
                 refine hK.out _ _ hSn (fun hHeld => ?_)
                 clear hSn hK K
                 refine norm_ (a' := ?_) ?_ ?_
                 rotate_left
                 · show Act.put _ (some 9) _ = _
                   simp only [Act.put, List.setIfInBounds_toArray, List.set_cons_zero, List.set_cons_succ, i64_w, i32_w]
                   rfl
                 exact norm_ (by first | (simp only [putAll, Act.put, List.setIfInBounds_toArray, List.set_cons_zero, List.set_cons_succ]; done) | (simp only [putAll, Act.put, List.setIfInBounds_toArray, List.set_cons_zero, List.set_cons_succ]; rfl)) (hJ1_3_5_8 wg.heap.size _ ⟨HR8.out, hHeld.1, hHeld.2.1, hHeld.2.2, HBf.out, hlo8⟩)
             ·skip
              rintro ⟨n6, n7, n8⟩ wg ⟨HX6, HX7, HX8, hq0, hq1, hq2, hbj, hlo6, hlo7, hlo8, hne7_6, hne8_6, hne8_7⟩
              have HX6 := Aside0.mk HX6
              have HX7 := Aside0.mk HX7
              have HX8 := Aside0.mk HX8
              have HBj := Aside0.mk hbj
              clear hbj
              have hHeld : Row wg w.heap.size .u8 32 a0 22 ∧ Row wg (w.heap.size + 1) .u8 32 a1 22 ∧ Row wg (w.heap.size + 1 + 1) .u8 32 a2 22 := ⟨hq0, hq1, hq2⟩
              clear hq0 hq1 hq2
              refine norm_ (a' := ?_) ?_ ?_
              rotate_left
              · simp only [putAll, Act.put, List.setIfInBounds_toArray, List.set_cons_zero, List.set_cons_succ]
                rfl
              refine one_ (i := 3) (N := some 16) #[true, true, true, true, true, false, true, true, true, false, false, false] rfl rfl (one_of HT_.out (by kernel_rfl)) (by decide) (fun K hK => ?_)
              refine goes_ Try.func13 rfl rfl #[.agg (FR .u8 32 a1)] rfl rfl rfl (by simp only [List.map_toArray, List.map_cons, List.map_nil]; rfl) ((Of_elem_calls a1 _ HA1.out).mono ?_)
              rintro e wf56 ⟨rfl, hb⟩
              have hSn : Row wf56 w.heap.size .u8 32 a0 22 ∧ Row wf56 (w.heap.size + 1) .u8 32 a1 22 ∧ Row wf56 (w.heap.size + 1 + 1) .u8 32 a2 22 := ⟨hHeld.1.below hb hHeld.1.lt, hHeld.2.1.below hb hHeld.2.1.lt, hHeld.2.2.below hb hHeld.2.2.lt⟩
              have HBf := Aside0.mk (HBj.out.trans (hb.mono HBj.out.size))
              have HR6 := Aside0.mk (HX6.out.below hb HX6.out.lt)
              have HR7 := Aside0.mk (HX7.out.below hb HX7.out.lt)
              have HR8 := Aside0.mk (HX8.out.below hb HX8.out.lt)
              clear hb
              refine ⟨_, rfl, hK.out _ _ hSn (fun hHeld => ?_)⟩
              clear hSn hK K
              refine norm_ (a' := ?_) ?_ ?_
              rotate_left
              · show Act.put _ (some 16) _ = _
                simp only [Act.put, List.setIfInBounds_toArray, List.set_cons_zero, List.set_cons_succ, i64_w, i32_w]
                rfl
              exact norm_ (by first | (simp only [putAll, Act.put, List.setIfInBounds_toArray, List.set_cons_zero, List.set_cons_succ]; done) | (simp only [putAll, Act.put, List.setIfInBounds_toArray, List.set_cons_zero, List.set_cons_succ]; rfl)) (hJ1_3_6_7_8 (n6, n7, n8) _ ⟨HR6.out, HR7.out, HR8.out, hHeld.1, hHeld.2.1, hHeld.2.2, HBf.out, hlo6, hlo7, hlo8, hne7_6, hne8_6, hne8_7⟩)
            ·skip
             rintro ⟨n7, n8⟩ wg ⟨HX7, HX8, hq0, hq1, hq2, hbj, hlo7, hlo8, hne8_7⟩
             have HX7 := Aside0.mk HX7
             have HX8 := Aside0.mk HX8
             have HBj := Aside0.mk hbj
             clear hbj
             have hHeld : Row wg w.heap.size .u8 32 a0 22 ∧ Row wg (w.heap.size + 1) .u8 32 a1 22 ∧ Row wg (w.heap.size + 1 + 1) .u8 32 a2 22 := ⟨hq0, hq1, hq2⟩
             clear hq0 hq1 hq2
             refine norm_ (a' := ?_) ?_ ?_
             rotate_left
             · simp only [putAll, Act.put, List.setIfInBounds_toArray, List.set_cons_zero, List.set_cons_succ]
               rfl
             refine two_ (i := 5) (j := 6) (Ni := some 18) (Nj := some 7) #[true, true, true, true, true, true, false, true, true, false, false, false] #[true, true, true, true, true, false, true, true, true, false, false, false] rfl rfl rfl rfl (by kernel_rfl) (by decide) (by decide) (fun K hK => ?_) (fun K hK => ?_)
             · skip
               refine goes_ Try.func13 rfl rfl #[.agg (FR .u8 32 a2)] rfl rfl rfl (by simp only [List.map_toArray, List.map_cons, List.map_nil]; rfl) ((Of_elem_calls a2 _ HA2.out).mono ?_)
               rintro e wf57 ⟨rfl, hb⟩
               have hSn : Row wf57 w.heap.size .u8 32 a0 22 ∧ Row wf57 (w.heap.size + 1) .u8 32 a1 22 ∧ Row wf57 (w.heap.size + 1 + 1) .u8 32 a2 22 := ⟨hHeld.1.below hb hHeld.1.lt, hHeld.2.1.below hb hHeld.2.1.lt, hHeld.2.2.below hb hHeld.2.2.lt⟩
               have HBf := Aside0.mk (HBj.out.trans (hb.mono HBj.out.size))
               have HR7 := Aside0.mk (HX7.out.below hb HX7.out.lt)
               have HR8 := Aside0.mk (HX8.out.below hb HX8.out.lt)
               clear hb
               refine ⟨_, rfl, hK.out _ _ hSn (fun hHeld => ?_)⟩
               clear hSn hK K
               refine norm_ (a' := ?_) ?_ ?_
               rotate_left
               · show Act.put _ (some 18) _ = _
                 simp only [Act.put, List.setIfInBounds_toArray, List.set_cons_zero, List.set_cons_succ, i64_w, i32_w]
                 rfl
               exact norm_ (by first | (simp only [putAll, Act.put, List.setIfInBounds_toArray, List.set_cons_zero, List.set_cons_succ]; done) | (simp only [putAll, Act.put, List.setIfInBounds_toArray, List.set_cons_zero, List.set_cons_succ]; rfl)) (hJ1_3_5_7_8 (n7, n8) _ ⟨HR7.out, HR8.out, hHeld.1, hHeld.2.1, hHeld.2.2, HBf.out, hlo7, hlo8, hne8_7⟩)
             · skip
               refine event_step (by rfl) (v := .pointer (some ⟨wg.heap.size, 0, none⟩)) (w1 := wg.alloc (.cells (FR .u64 5 fun _ => 0) 27)) (by first | (go_simp; done) | (go_simp; rfl)) ?_
               have hSn : Row (wg.alloc (.cells (FR .u64 5 fun _ => 0) 27)) w.heap.size .u8 32 a0 22 ∧ Row (wg.alloc (.cells (FR .u64 5 fun _ => 0) 27)) (w.heap.size + 1) .u8 32 a1 22 ∧ Row (wg.alloc (.cells (FR .u64 5 fun _ => 0) 27)) (w.heap.size + 1 + 1) .u8 32 a2 22 := ⟨hHeld.1.alloc _, hHeld.2.1.alloc _, hHeld.2.2.alloc _⟩
               have HBf := Aside0.mk (HBj.out.alloc HBj.out.size (.cells (FR .u64 5 fun _ => 0) 27))
               have hlo6 : (w.heap.size + 1 + 1) < wg.heap.size := hHeld.2.2.lt
               have hne7_6 : n7 ≠ wg.heap.size := by have := HX7.out.lt; omega
               have HR7 := Aside0.mk (HX7.out.alloc (.cells (FR .u64 5 fun _ => 0) 27))
               have hne8_6 : n8 ≠ wg.heap.size := by have := HX8.out.lt; omega
               have HR8 := Aside0.mk (HX8.out.alloc (.cells (FR .u64 5 fun _ => 0) 27))
               have HR6 := Aside0.mk (Row.new wg .u64 5 (fun _ => 0) 27)
               generalize wg.alloc (.cells (FR .u64 5 fun _ => 0) 27) = wf58 at hSn HBf HR7 HR8 HR6 ⊢
               refine hK.out _ _ hSn (fun hHeld => ?_)
               clear hSn hK K
               refine norm_ (a' := ?_) ?_ ?_
               rotate_left
               · show Act.put _ (some 7) _ = _
                 simp only [Act.put, List.setIfInBounds_toArray, List.set_cons_zero, List.set_cons_succ, i64_w, i32_w]
                 rfl
               exact norm_ (by first | (simp only [putAll, Act.put, List.setIfInBounds_toArray, List.set_cons_zero, List.set_cons_succ]; done) | (simp only [putAll, Act.put, List.setIfInBounds_toArray, List.set_cons_zero, List.set_cons_succ]; rfl)) (hJ1_3_6_7_8 (wg.heap.size, n7, n8) _ ⟨HR6.out, HR7.out, HR8.out, hHeld.1, hHeld.2.1, hHeld.2.2, HBf.out, hlo6, hlo7, hlo8, hne7_6, hne8_6, hne8_7⟩)
           ·skip
            rintro ⟨n6, n8⟩ wg ⟨HX6, HX8, hq0, hq1, hq2, hbj, hlo6, hlo8, hne8_6⟩
            have HX6 := Aside0.mk HX6
            have HX8 := Aside0.mk HX8
            have HBj := Aside0.mk hbj
            clear hbj
            have hHeld : Row wg w.heap.size .u8 32 a0 22 ∧ Row wg (w.heap.size + 1) .u8 32 a1 22 ∧ Row wg (w.heap.size + 1 + 1) .u8 32 a2 22 := ⟨hq0, hq1, hq2⟩
            clear hq0 hq1 hq2
            refine norm_ (a' := ?_) ?_ ?_
            rotate_left
            · simp only [putAll, Act.put, List.setIfInBounds_toArray, List.set_cons_zero, List.set_cons_succ]
              rfl
            refine two_ (i := 5) (j := 7) (Ni := some 18) (Nj := some 8) #[true, true, true, true, true, true, true, false, true, false, false, false] #[true, true, true, true, true, false, true, true, true, false, false, false] rfl rfl rfl rfl (by kernel_rfl) (by decide) (by decide) (fun K hK => ?_) (fun K hK => ?_)
            · skip
              refine goes_ Try.func13 rfl rfl #[.agg (FR .u8 32 a2)] rfl rfl rfl (by simp only [List.map_toArray, List.map_cons, List.map_nil]; rfl) ((Of_elem_calls a2 _ HA2.out).mono ?_)
              rintro e wf59 ⟨rfl, hb⟩
              have hSn : Row wf59 w.heap.size .u8 32 a0 22 ∧ Row wf59 (w.heap.size + 1) .u8 32 a1 22 ∧ Row wf59 (w.heap.size + 1 + 1) .u8 32 a2 22 := ⟨hHeld.1.below hb hHeld.1.lt, hHeld.2.1.below hb hHeld.2.1.lt, hHeld.2.2.below hb hHeld.2.2.lt⟩
              have HBf := Aside0.mk (HBj.out.trans (hb.mono HBj.out.size))
              have HR6 := Aside0.mk (HX6.out.below hb HX6.out.lt)
              have HR8 := Aside0.mk (HX8.out.below hb HX8.out.lt)
              clear hb
              refine ⟨_, rfl, hK.out _ _ hSn (fun hHeld => ?_)⟩
              clear hSn hK K
              refine norm_ (a' := ?_) ?_ ?_
              rotate_left
              · show Act.put _ (some 18) _ = _
                simp only [Act.put, List.setIfInBounds_toArray, List.set_cons_zero, List.set_cons_succ, i64_w, i32_w]
                rfl
              exact norm_ (by first | (simp only [putAll, Act.put, List.setIfInBounds_toArray, List.set_cons_zero, List.set_cons_succ]; done) | (simp only [putAll, Act.put, List.setIfInBounds_toArray, List.set_cons_zero, List.set_cons_succ]; rfl)) (hJ1_3_5_6_8 (n6, n8) _ ⟨HR6.out, HR8.out, hHeld.1, hHeld.2.1, hHeld.2.2, HBf.out, hlo6, hlo8, hne8_6⟩)
            · skip
              refine event_step (by rfl) (v := .pointer (some ⟨wg.heap.size, 0, none⟩)) (w1 := wg.alloc (.cells (FR .u64 5 fun _ => 0) 27)) (by first | (go_simp; done) | (go_simp; rfl)) ?_
              have hSn : Row (wg.alloc (.cells (FR .u64 5 fun _ => 0) 27)) w.heap.size .u8 32 a0 22 ∧ Row (wg.alloc (.cells (FR .u64 5 fun _ => 0) 27)) (w.heap.size + 1) .u8 32 a1 22 ∧ Row (wg.alloc (.cells (FR .u64 5 fun _ => 0) 27)) (w.heap.size + 1 + 1) .u8 32 a2 22 := ⟨hHeld.1.alloc _, hHeld.2.1.alloc _, hHeld.2.2.alloc _⟩
              have HBf := Aside0.mk (HBj.out.alloc HBj.out.size (.cells (FR .u64 5 fun _ => 0) 27))
              have hlo7 : (w.heap.size + 1 + 1) < wg.heap.size := hHeld.2.2.lt
              have hne7_6 : wg.heap.size ≠ n6 := by have := HX6.out.lt; omega
              have HR6 := Aside0.mk (HX6.out.alloc (.cells (FR .u64 5 fun _ => 0) 27))
              have hne8_7 : n8 ≠ wg.heap.size := by have := HX8.out.lt; omega
              have HR8 := Aside0.mk (HX8.out.alloc (.cells (FR .u64 5 fun _ => 0) 27))
              have HR7 := Aside0.mk (Row.new wg .u64 5 (fun _ => 0) 27)
              generalize wg.alloc (.cells (FR .u64 5 fun _ => 0) 27) = wf60 at hSn HBf HR6 HR8 HR7 ⊢
              refine hK.out _ _ hSn (fun hHeld => ?_)
              clear hSn hK K
              refine norm_ (a' := ?_) ?_ ?_
              rotate_left
              · show Act.put _ (some 8) _ = _
                simp only [Act.put, List.setIfInBounds_toArray, List.set_cons_zero, List.set_cons_succ, i64_w, i32_w]
                rfl
              exact norm_ (by first | (simp only [putAll, Act.put, List.setIfInBounds_toArray, List.set_cons_zero, List.set_cons_succ]; done) | (simp only [putAll, Act.put, List.setIfInBounds_toArray, List.set_cons_zero, List.set_cons_succ]; rfl)) (hJ1_3_6_7_8 (n6, wg.heap.size, n8) _ ⟨HR6.out, HR7.out, HR8.out, hHeld.1, hHeld.2.1, hHeld.2.2, HBf.out, hlo6, hlo7, hlo8, hne7_6, hne8_6, hne8_7⟩)
          ·skip
           rintro ⟨n6, n7⟩ wg ⟨HX6, HX7, hq0, hq1, hq2, hbj, hlo6, hlo7, hne7_6⟩
           have HX6 := Aside0.mk HX6
           have HX7 := Aside0.mk HX7
           have HBj := Aside0.mk hbj
           clear hbj
           have hHeld : Row wg w.heap.size .u8 32 a0 22 ∧ Row wg (w.heap.size + 1) .u8 32 a1 22 ∧ Row wg (w.heap.size + 1 + 1) .u8 32 a2 22 := ⟨hq0, hq1, hq2⟩
           clear hq0 hq1 hq2
           refine norm_ (a' := ?_) ?_ ?_
           rotate_left
           · simp only [putAll, Act.put, List.setIfInBounds_toArray, List.set_cons_zero, List.set_cons_succ]
             rfl
           refine two_ (i := 5) (j := 8) (Ni := some 18) (Nj := some 9) #[true, true, true, true, true, true, true, true, false, false, false, false] #[true, true, true, true, true, false, true, true, true, false, false, false] rfl rfl rfl rfl (by kernel_rfl) (by decide) (by decide) (fun K hK => ?_) (fun K hK => ?_)
           · skip
             refine goes_ Try.func13 rfl rfl #[.agg (FR .u8 32 a2)] rfl rfl rfl (by simp only [List.map_toArray, List.map_cons, List.map_nil]; rfl) ((Of_elem_calls a2 _ HA2.out).mono ?_)
             rintro e wf61 ⟨rfl, hb⟩
             have hSn : Row wf61 w.heap.size .u8 32 a0 22 ∧ Row wf61 (w.heap.size + 1) .u8 32 a1 22 ∧ Row wf61 (w.heap.size + 1 + 1) .u8 32 a2 22 := ⟨hHeld.1.below hb hHeld.1.lt, hHeld.2.1.below hb hHeld.2.1.lt, hHeld.2.2.below hb hHeld.2.2.lt⟩
             have HBf := Aside0.mk (HBj.out.trans (hb.mono HBj.out.size))
             have HR6 := Aside0.mk (HX6.out.below hb HX6.out.lt)
             have HR7 := Aside0.mk (HX7.out.below hb HX7.out.lt)
             clear hb
             refine ⟨_, rfl, hK.out _ _ hSn (fun hHeld => ?_)⟩
             clear hSn hK K
             refine norm_ (a' := ?_) ?_ ?_
             rotate_left
             · show Act.put _ (some 18) _ = _
               simp only [Act.put, List.setIfInBounds_toArray, List.set_cons_zero, List.set_cons_succ, i64_w, i32_w]
               rfl
             exact norm_ (by first | (simp only [putAll, Act.put, List.setIfInBounds_toArray, List.set_cons_zero, List.set_cons_succ]; done) | (simp only [putAll, Act.put, List.setIfInBounds_toArray, List.set_cons_zero, List.set_cons_succ]; rfl)) (hJ1_3_5_6_7 (n6, n7) _ ⟨HR6.out, HR7.out, hHeld.1, hHeld.2.1, hHeld.2.2, HBf.out, hlo6, hlo7, hne7_6⟩)
           · skip
             refine event_step (by rfl) (v := .pointer (some ⟨wg.heap.size, 0, none⟩)) (w1 := wg.alloc (.cells (FR .u64 5 fun _ => 0) 27)) (by first | (go_simp; done) | (go_simp; rfl)) ?_
             have hSn : Row (wg.alloc (.cells (FR .u64 5 fun _ => 0) 27)) w.heap.size .u8 32 a0 22 ∧ Row (wg.alloc (.cells (FR .u64 5 fun _ => 0) 27)) (w.heap.size + 1) .u8 32 a1 22 ∧ Row (wg.alloc (.cells (FR .u64 5 fun _ => 0) 27)) (w.heap.size + 1 + 1) .u8 32 a2 22 := ⟨hHeld.1.alloc _, hHeld.2.1.alloc _, hHeld.2.2.alloc _⟩
             have HBf := Aside0.mk (HBj.out.alloc HBj.out.size (.cells (FR .u64 5 fun _ => 0) 27))
             have hlo8 : (w.heap.size + 1 + 1) < wg.heap.size := hHeld.2.2.lt
             have hne8_6 : wg.heap.size ≠ n6 := by have := HX6.out.lt; omega
             have HR6 := Aside0.mk (HX6.out.alloc (.cells (FR .u64 5 fun _ => 0) 27))
             have hne8_7 : wg.heap.size ≠ n7 := by have := HX7.out.lt; omega
             have HR7 := Aside0.mk (HX7.out.alloc (.cells (FR .u64 5 fun _ => 0) 27))
             have HR8 := Aside0.mk (Row.new wg .u64 5 (fun _ => 0) 27)
             generalize wg.alloc (.cells (FR .u64 5 fun _ => 0) 27) = wf62 at hSn HBf HR6 HR7 HR8 ⊢
             refine hK.out _ _ hSn (fun hHeld => ?_)
             clear hSn hK K
             refine norm_ (a' := ?_) ?_ ?_
             rotate_left
             · show Act.put _ (some 9) _ = _
               simp only [Act.put, List.setIfInBounds_toArray, List.set_cons_zero, List.set_cons_succ, i64_w, i32_w]
               rfl
             exact norm_ (by first | (simp only [putAll, Act.put, List.setIfInBounds_toArray, List.set_cons_zero, List.set_cons_succ]; done) | (simp only [putAll, Act.put, List.setIfInBounds_toArray, List.set_cons_zero, List.set_cons_succ]; rfl)) (hJ1_3_6_7_8 (n6, n7, wg.heap.size) _ ⟨HR6.out, HR7.out, HR8.out, hHeld.1, hHeld.2.1, hHeld.2.2, HBf.out, hlo6, hlo7, hlo8, hne7_6, hne8_6, hne8_7⟩)
         ·skip
          rintro n8 wg ⟨HX8, hq0, hq1, hq2, hbj, hlo8⟩
          have HX8 := Aside0.mk HX8
          have HBj := Aside0.mk hbj
          clear hbj
          have hHeld : Row wg w.heap.size .u8 32 a0 22 ∧ Row wg (w.heap.size + 1) .u8 32 a1 22 ∧ Row wg (w.heap.size + 1 + 1) .u8 32 a2 22 := ⟨hq0, hq1, hq2⟩
          clear hq0 hq1 hq2
          refine norm_ (a' := ?_) ?_ ?_
          rotate_left
          · simp only [putAll, Act.put, List.setIfInBounds_toArray, List.set_cons_zero, List.set_cons_succ]
            rfl
          refine two_ (i := 6) (j := 7) (Ni := some 7) (Nj := some 8) #[true, true, true, true, true, true, true, false, true, false, false, false] #[true, true, true, true, true, true, false, true, true, false, false, false] rfl rfl rfl rfl (by kernel_rfl) (by decide) (by decide) (fun K hK => ?_) (fun K hK => ?_)
          · skip
            refine event_step (by rfl) (v := .pointer (some ⟨wg.heap.size, 0, none⟩)) (w1 := wg.alloc (.cells (FR .u64 5 fun _ => 0) 27)) (by first | (go_simp; done) | (go_simp; rfl)) ?_
            have hSn : Row (wg.alloc (.cells (FR .u64 5 fun _ => 0) 27)) w.heap.size .u8 32 a0 22 ∧ Row (wg.alloc (.cells (FR .u64 5 fun _ => 0) 27)) (w.heap.size + 1) .u8 32 a1 22 ∧ Row (wg.alloc (.cells (FR .u64 5 fun _ => 0) 27)) (w.heap.size + 1 + 1) .u8 32 a2 22 := ⟨hHeld.1.alloc _, hHeld.2.1.alloc _, hHeld.2.2.alloc _⟩
            have HBf := Aside0.mk (HBj.out.alloc HBj.out.size (.cells (FR .u64 5 fun _ => 0) 27))
            have hlo6 : (w.heap.size + 1 + 1) < wg.heap.size := hHeld.2.2.lt
            have hne8_6 : n8 ≠ wg.heap.size := by have := HX8.out.lt; omega
            have HR8 := Aside0.mk (HX8.out.alloc (.cells (FR .u64 5 fun _ => 0) 27))
            have HR6 := Aside0.mk (Row.new wg .u64 5 (fun _ => 0) 27)
            generalize wg.alloc (.cells (FR .u64 5 fun _ => 0) 27) = wf63 at hSn HBf HR8 HR6 ⊢
            refine hK.out _ _ hSn (fun hHeld => ?_)
            clear hSn hK K
            refine norm_ (a' := ?_) ?_ ?_
            rotate_left
            · show Act.put _ (some 7) _ = _
              simp only [Act.put, List.setIfInBounds_toArray, List.set_cons_zero, List.set_cons_succ, i64_w, i32_w]
              rfl
            exact norm_ (by first | (simp only [putAll, Act.put, List.setIfInBounds_toArray, List.set_cons_zero, List.set_cons_succ]; done) | (simp only [putAll, Act.put, List.setIfInBounds_toArray, List.set_cons_zero, List.set_cons_succ]; rfl)) (hJ1_3_5_6_8 (wg.heap.size, n8) _ ⟨HR6.out, HR8.out, hHeld.1, hHeld.2.1, hHeld.2.2, HBf.out, hlo6, hlo8, hne8_6⟩)
          · skip
            refine event_step (by rfl) (v := .pointer (some ⟨wg.heap.size, 0, none⟩)) (w1 := wg.alloc (.cells (FR .u64 5 fun _ => 0) 27)) (by first | (go_simp; done) | (go_simp; rfl)) ?_
            have hSn : Row (wg.alloc (.cells (FR .u64 5 fun _ => 0) 27)) w.heap.size .u8 32 a0 22 ∧ Row (wg.alloc (.cells (FR .u64 5 fun _ => 0) 27)) (w.heap.size + 1) .u8 32 a1 22 ∧ Row (wg.alloc (.cells (FR .u64 5 fun _ => 0) 27)) (w.heap.size + 1 + 1) .u8 32 a2 22 := ⟨hHeld.1.alloc _, hHeld.2.1.alloc _, hHeld.2.2.alloc _⟩
            have HBf := Aside0.mk (HBj.out.alloc HBj.out.size (.cells (FR .u64 5 fun _ => 0) 27))
            have hlo7 : (w.heap.size + 1 + 1) < wg.heap.size := hHeld.2.2.lt
            have hne8_7 : n8 ≠ wg.heap.size := by have := HX8.out.lt; omega
            have HR8 := Aside0.mk (HX8.out.alloc (.cells (FR .u64 5 fun _ => 0) 27))
            have HR7 := Aside0.mk (Row.new wg .u64 5 (fun _ => 0) 27)
            generalize wg.alloc (.cells (FR .u64 5 fun _ => 0) 27) = wf64 at hSn HBf HR8 HR7 ⊢
            refine hK.out _ _ hSn (fun hHeld => ?_)
            clear hSn hK K
            refine norm_ (a' := ?_) ?_ ?_
            rotate_left
            · show Act.put _ (some 8) _ = _
              simp only [Act.put, List.setIfInBounds_toArray, List.set_cons_zero, List.set_cons_succ, i64_w, i32_w]
              rfl
            exact norm_ (by first | (simp only [putAll, Act.put, List.setIfInBounds_toArray, List.set_cons_zero, List.set_cons_succ]; done) | (simp only [putAll, Act.put, List.setIfInBounds_toArray, List.set_cons_zero, List.set_cons_succ]; rfl)) (hJ1_3_5_7_8 (wg.heap.size, n8) _ ⟨HR7.out, HR8.out, hHeld.1, hHeld.2.1, hHeld.2.2, HBf.out, hlo7, hlo8, hne8_7⟩)
        ·skip
         rintro n7 wg ⟨HX7, hq0, hq1, hq2, hbj, hlo7⟩
         have HX7 := Aside0.mk HX7
         have HBj := Aside0.mk hbj
         clear hbj
         have hHeld : Row wg w.heap.size .u8 32 a0 22 ∧ Row wg (w.heap.size + 1) .u8 32 a1 22 ∧ Row wg (w.heap.size + 1 + 1) .u8 32 a2 22 := ⟨hq0, hq1, hq2⟩
         clear hq0 hq1 hq2
         refine norm_ (a' := ?_) ?_ ?_
         rotate_left
         · simp only [putAll, Act.put, List.setIfInBounds_toArray, List.set_cons_zero, List.set_cons_succ]
           rfl
         refine two_ (i := 6) (j := 8) (Ni := some 7) (Nj := some 9) #[true, true, true, true, true, true, true, true, false, false, false, false] #[true, true, true, true, true, true, false, true, true, false, false, false] rfl rfl rfl rfl (by kernel_rfl) (by decide) (by decide) (fun K hK => ?_) (fun K hK => ?_)
         · skip
           refine event_step (by rfl) (v := .pointer (some ⟨wg.heap.size, 0, none⟩)) (w1 := wg.alloc (.cells (FR .u64 5 fun _ => 0) 27)) (by first | (go_simp; done) | (go_simp; rfl)) ?_
           have hSn : Row (wg.alloc (.cells (FR .u64 5 fun _ => 0) 27)) w.heap.size .u8 32 a0 22 ∧ Row (wg.alloc (.cells (FR .u64 5 fun _ => 0) 27)) (w.heap.size + 1) .u8 32 a1 22 ∧ Row (wg.alloc (.cells (FR .u64 5 fun _ => 0) 27)) (w.heap.size + 1 + 1) .u8 32 a2 22 := ⟨hHeld.1.alloc _, hHeld.2.1.alloc _, hHeld.2.2.alloc _⟩
           have HBf := Aside0.mk (HBj.out.alloc HBj.out.size (.cells (FR .u64 5 fun _ => 0) 27))
           have hlo6 : (w.heap.size + 1 + 1) < wg.heap.size := hHeld.2.2.lt
           have hne7_6 : n7 ≠ wg.heap.size := by have := HX7.out.lt; omega
           have HR7 := Aside0.mk (HX7.out.alloc (.cells (FR .u64 5 fun _ => 0) 27))
           have HR6 := Aside0.mk (Row.new wg .u64 5 (fun _ => 0) 27)
           generalize wg.alloc (.cells (FR .u64 5 fun _ => 0) 27) = wf65 at hSn HBf HR7 HR6 ⊢
           refine hK.out _ _ hSn (fun hHeld => ?_)
           clear hSn hK K
           refine norm_ (a' := ?_) ?_ ?_
           rotate_left
           · show Act.put _ (some 7) _ = _
             simp only [Act.put, List.setIfInBounds_toArray, List.set_cons_zero, List.set_cons_succ, i64_w, i32_w]
             rfl
           exact norm_ (by first | (simp only [putAll, Act.put, List.setIfInBounds_toArray, List.set_cons_zero, List.set_cons_succ]; done) | (simp only [putAll, Act.put, List.setIfInBounds_toArray, List.set_cons_zero, List.set_cons_succ]; rfl)) (hJ1_3_5_6_7 (wg.heap.size, n7) _ ⟨HR6.out, HR7.out, hHeld.1, hHeld.2.1, hHeld.2.2, HBf.out, hlo6, hlo7, hne7_6⟩)
         · skip
           refine event_step (by rfl) (v := .pointer (some ⟨wg.heap.size, 0, none⟩)) (w1 := wg.alloc (.cells (FR .u64 5 fun _ => 0) 27)) (by first | (go_simp; done) | (go_simp; rfl)) ?_
           have hSn : Row (wg.alloc (.cells (FR .u64 5 fun _ => 0) 27)) w.heap.size .u8 32 a0 22 ∧ Row (wg.alloc (.cells (FR .u64 5 fun _ => 0) 27)) (w.heap.size + 1) .u8 32 a1 22 ∧ Row (wg.alloc (.cells (FR .u64 5 fun _ => 0) 27)) (w.heap.size + 1 + 1) .u8 32 a2 22 := ⟨hHeld.1.alloc _, hHeld.2.1.alloc _, hHeld.2.2.alloc _⟩
           have HBf := Aside0.mk (HBj.out.alloc HBj.out.size (.cells (FR .u64 5 fun _ => 0) 27))
           have hlo8 : (w.heap.size + 1 + 1) < wg.heap.size := hHeld.2.2.lt
           have hne8_7 : wg.heap.size ≠ n7 := by have := HX7.out.lt; omega
           have HR7 := Aside0.mk (HX7.out.alloc (.cells (FR .u64 5 fun _ => 0) 27))
           have HR8 := Aside0.mk (Row.new wg .u64 5 (fun _ => 0) 27)
           generalize wg.alloc (.cells (FR .u64 5 fun _ => 0) 27) = wf66 at hSn HBf HR7 HR8 ⊢
           refine hK.out _ _ hSn (fun hHeld => ?_)
           clear hSn hK K
           refine norm_ (a' := ?_) ?_ ?_
           rotate_left
           · show Act.put _ (some 9) _ = _
             simp only [Act.put, List.setIfInBounds_toArray, List.set_cons_zero, List.set_cons_succ, i64_w, i32_w]
             rfl
           exact norm_ (by first | (simp only [putAll, Act.put, List.setIfInBounds_toArray, List.set_cons_zero, List.set_cons_succ]; done) | (simp only [putAll, Act.put, List.setIfInBounds_toArray, List.set_cons_zero, List.set_cons_succ]; rfl)) (hJ1_3_5_7_8 (n7, wg.heap.size) _ ⟨HR7.out, HR8.out, hHeld.1, hHeld.2.1, hHeld.2.2, HBf.out, hlo7, hlo8, hne8_7⟩)
       ·skip
        rintro n6 wg ⟨HX6, hq0, hq1, hq2, hbj, hlo6⟩
        have HX6 := Aside0.mk HX6
        have HBj := Aside0.mk hbj
        clear hbj
        have hHeld : Row wg w.heap.size .u8 32 a0 22 ∧ Row wg (w.heap.size + 1) .u8 32 a1 22 ∧ Row wg (w.heap.size + 1 + 1) .u8 32 a2 22 := ⟨hq0, hq1, hq2⟩
        clear hq0 hq1 hq2
        refine norm_ (a' := ?_) ?_ ?_
        rotate_left
        · simp only [putAll, Act.put, List.setIfInBounds_toArray, List.set_cons_zero, List.set_cons_succ]
          rfl
        refine two_ (i := 7) (j := 8) (Ni := some 8) (Nj := some 9) #[true, true, true, true, true, true, true, true, false, false, false, false] #[true, true, true, true, true, true, true, false, true, false, false, false] rfl rfl rfl rfl (by kernel_rfl) (by decide) (by decide) (fun K hK => ?_) (fun K hK => ?_)
        · skip
          refine event_step (by rfl) (v := .pointer (some ⟨wg.heap.size, 0, none⟩)) (w1 := wg.alloc (.cells (FR .u64 5 fun _ => 0) 27)) (by first | (go_simp; done) | (go_simp; rfl)) ?_
          have hSn : Row (wg.alloc (.cells (FR .u64 5 fun _ => 0) 27)) w.heap.size .u8 32 a0 22 ∧ Row (wg.alloc (.cells (FR .u64 5 fun _ => 0) 27)) (w.heap.size + 1) .u8 32 a1 22 ∧ Row (wg.alloc (.cells (FR .u64 5 fun _ => 0) 27)) (w.heap.size + 1 + 1) .u8 32 a2 22 := ⟨hHeld.1.alloc _, hHeld.2.1.alloc _, hHeld.2.2.alloc _⟩
          have HBf := Aside0.mk (HBj.out.alloc HBj.out.size (.cells (FR .u64 5 fun _ => 0) 27))
          have hlo7 : (w.heap.size + 1 + 1) < wg.heap.size := hHeld.2.2.lt
          have hne7_6 : wg.heap.size ≠ n6 := by have := HX6.out.lt; omega
          have HR6 := Aside0.mk (HX6.out.alloc (.cells (FR .u64 5 fun _ => 0) 27))
          have HR7 := Aside0.mk (Row.new wg .u64 5 (fun _ => 0) 27)
          generalize wg.alloc (.cells (FR .u64 5 fun _ => 0) 27) = wf67 at hSn HBf HR6 HR7 ⊢
          refine hK.out _ _ hSn (fun hHeld => ?_)
          clear hSn hK K
          refine norm_ (a' := ?_) ?_ ?_
          rotate_left
          · show Act.put _ (some 8) _ = _
            simp only [Act.put, List.setIfInBounds_toArray, List.set_cons_zero, List.set_cons_succ, i64_w, i32_w]
            rfl
          exact norm_ (by first | (simp only [putAll, Act.put, List.setIfInBounds_toArray, List.set_cons_zero, List.set_cons_succ]; done) | (simp only [putAll, Act.put, List.setIfInBounds_toArray, List.set_cons_zero, List.set_cons_succ]; rfl)) (hJ1_3_5_6_7 (n6, wg.heap.size) _ ⟨HR6.out, HR7.out, hHeld.1, hHeld.2.1, hHeld.2.2, HBf.out, hlo6, hlo7, hne7_6⟩)
        · skip
          refine event_step (by rfl) (v := .pointer (some ⟨wg.heap.size, 0, none⟩)) (w1 := wg.alloc (.cells (FR .u64 5 fun _ => 0) 27)) (by first | (go_simp; done) | (go_simp; rfl)) ?_
          have hSn : Row (wg.alloc (.cells (FR .u64 5 fun _ => 0) 27)) w.heap.size .u8 32 a0 22 ∧ Row (wg.alloc (.cells (FR .u64 5 fun _ => 0) 27)) (w.heap.size + 1) .u8 32 a1 22 ∧ Row (wg.alloc (.cells (FR .u64 5 fun _ => 0) 27)) (w.heap.size + 1 + 1) .u8 32 a2 22 := ⟨hHeld.1.alloc _, hHeld.2.1.alloc _, hHeld.2.2.alloc _⟩
          have HBf := Aside0.mk (HBj.out.alloc HBj.out.size (.cells (FR .u64 5 fun _ => 0) 27))
          have hlo8 : (w.heap.size + 1 + 1) < wg.heap.size := hHeld.2.2.lt
          have hne8_6 : wg.heap.size ≠ n6 := by have := HX6.out.lt; omega
          have HR6 := Aside0.mk (HX6.out.alloc (.cells (FR .u64 5 fun _ => 0) 27))
          have HR8 := Aside0.mk (Row.new wg .u64 5 (fun _ => 0) 27)
          generalize wg.alloc (.cells (FR .u64 5 fun _ => 0) 27) = wf68 at hSn HBf HR6 HR8 ⊢
          refine hK.out _ _ hSn (fun hHeld => ?_)
          clear hSn hK K
          refine norm_ (a' := ?_) ?_ ?_
          rotate_left
          · show Act.put _ (some 9) _ = _
            simp only [Act.put, List.setIfInBounds_toArray, List.set_cons_zero, List.set_cons_succ, i64_w, i32_w]
            rfl
          exact norm_ (by first | (simp only [putAll, Act.put, List.setIfInBounds_toArray, List.set_cons_zero, List.set_cons_succ]; done) | (simp only [putAll, Act.put, List.setIfInBounds_toArray, List.set_cons_zero, List.set_cons_succ]; rfl)) (hJ1_3_5_6_8 (n6, wg.heap.size) _ ⟨HR6.out, HR8.out, hHeld.1, hHeld.2.1, hHeld.2.2, HBf.out, hlo6, hlo8, hne8_6⟩)
      ·skip
       rintro ⟨n6, n7, n8⟩ wg ⟨HX6, HX7, HX8, hq0, hq1, hq2, hbj, hlo6, hlo7, hlo8, hne7_6, hne8_6, hne8_7⟩
       have HX6 := Aside0.mk HX6
       have HX7 := Aside0.mk HX7
       have HX8 := Aside0.mk HX8
       have HBj := Aside0.mk hbj
       clear hbj
       have hHeld : Row wg w.heap.size .u8 32 a0 22 ∧ Row wg (w.heap.size + 1) .u8 32 a1 22 ∧ Row wg (w.heap.size + 1 + 1) .u8 32 a2 22 := ⟨hq0, hq1, hq2⟩
       clear hq0 hq1 hq2
       refine norm_ (a' := ?_) ?_ ?_
       rotate_left
       · simp only [putAll, Act.put, List.setIfInBounds_toArray, List.set_cons_zero, List.set_cons_succ]
         rfl
       refine one_ (i := 5) (N := some 18) #[true, true, true, true, true, true, true, true, true, false, false, false] rfl rfl (one_of HT_.out (by kernel_rfl)) (by decide) (fun K hK => ?_)
       refine goes_ Try.func13 rfl rfl #[.agg (FR .u8 32 a2)] rfl rfl rfl (by simp only [List.map_toArray, List.map_cons, List.map_nil]; rfl) ((Of_elem_calls a2 _ HA2.out).mono ?_)
       rintro e wf69 ⟨rfl, hb⟩
       have hSn : Row wf69 w.heap.size .u8 32 a0 22 ∧ Row wf69 (w.heap.size + 1) .u8 32 a1 22 ∧ Row wf69 (w.heap.size + 1 + 1) .u8 32 a2 22 := ⟨hHeld.1.below hb hHeld.1.lt, hHeld.2.1.below hb hHeld.2.1.lt, hHeld.2.2.below hb hHeld.2.2.lt⟩
       have HBf := Aside0.mk (HBj.out.trans (hb.mono HBj.out.size))
       have HR6 := Aside0.mk (HX6.out.below hb HX6.out.lt)
       have HR7 := Aside0.mk (HX7.out.below hb HX7.out.lt)
       have HR8 := Aside0.mk (HX8.out.below hb HX8.out.lt)
       clear hb
       refine ⟨_, rfl, hK.out _ _ hSn (fun hHeld => ?_)⟩
       clear hSn hK K
       refine norm_ (a' := ?_) ?_ ?_
       rotate_left
       · show Act.put _ (some 18) _ = _
         simp only [Act.put, List.setIfInBounds_toArray, List.set_cons_zero, List.set_cons_succ, i64_w, i32_w]
         rfl
       exact norm_ (by first | (simp only [putAll, Act.put, List.setIfInBounds_toArray, List.set_cons_zero, List.set_cons_succ]; done) | (simp only [putAll, Act.put, List.setIfInBounds_toArray, List.set_cons_zero, List.set_cons_succ]; rfl)) (hJ1_3_5_6_7_8 (n6, n7, n8) _ ⟨HR6.out, HR7.out, HR8.out, hHeld.1, hHeld.2.1, hHeld.2.2, HBf.out, hlo6, hlo7, hlo8, hne7_6, hne8_6, hne8_7⟩)
     ·skip
      rintro ⟨n7, n8⟩ wg ⟨HX7, HX8, hq0, hq1, hq2, hbj, hlo7, hlo8, hne8_7⟩
      have HX7 := Aside0.mk HX7
      have HX8 := Aside0.mk HX8
      have HBj := Aside0.mk hbj
      clear hbj
      have hHeld : Row wg w.heap.size .u8 32 a0 22 ∧ Row wg (w.heap.size + 1) .u8 32 a1 22 ∧ Row wg (w.heap.size + 1 + 1) .u8 32 a2 22 := ⟨hq0, hq1, hq2⟩
      clear hq0 hq1 hq2
      refine norm_ (a' := ?_) ?_ ?_
      rotate_left
      · simp only [putAll, Act.put, List.setIfInBounds_toArray, List.set_cons_zero, List.set_cons_succ]
        rfl
      refine one_ (i := 6) (N := some 7) #[true, true, true, true, true, true, true, true, true, false, false, false] rfl rfl (one_of HT_.out (by kernel_rfl)) (by decide) (fun K hK => ?_)
      refine event_step (by rfl) (v := .pointer (some ⟨wg.heap.size, 0, none⟩)) (w1 := wg.alloc (.cells (FR .u64 5 fun _ => 0) 27)) (by first | (go_simp; done) | (go_simp; rfl)) ?_
      have hSn : Row (wg.alloc (.cells (FR .u64 5 fun _ => 0) 27)) w.heap.size .u8 32 a0 22 ∧ Row (wg.alloc (.cells (FR .u64 5 fun _ => 0) 27)) (w.heap.size + 1) .u8 32 a1 22 ∧ Row (wg.alloc (.cells (FR .u64 5 fun _ => 0) 27)) (w.heap.size + 1 + 1) .u8 32 a2 22 := ⟨hHeld.1.alloc _, hHeld.2.1.alloc _, hHeld.2.2.alloc _⟩
      have HBf := Aside0.mk (HBj.out.alloc HBj.out.size (.cells (FR .u64 5 fun _ => 0) 27))
      have hlo6 : (w.heap.size + 1 + 1) < wg.heap.size := hHeld.2.2.lt
      have hne7_6 : n7 ≠ wg.heap.size := by have := HX7.out.lt; omega
      have HR7 := Aside0.mk (HX7.out.alloc (.cells (FR .u64 5 fun _ => 0) 27))
      have hne8_6 : n8 ≠ wg.heap.size := by have := HX8.out.lt; omega
      have HR8 := Aside0.mk (HX8.out.alloc (.cells (FR .u64 5 fun _ => 0) 27))
      have HR6 := Aside0.mk (Row.new wg .u64 5 (fun _ => 0) 27)
      generalize wg.alloc (.cells (FR .u64 5 fun _ => 0) 27) = wf70 at hSn HBf HR7 HR8 HR6 ⊢
      refine hK.out _ _ hSn (fun hHeld => ?_)
      clear hSn hK K
      refine norm_ (a' := ?_) ?_ ?_
      rotate_left
      · show Act.put _ (some 7) _ = _
        simp only [Act.put, List.setIfInBounds_toArray, List.set_cons_zero, List.set_cons_succ, i64_w, i32_w]
        rfl
      exact norm_ (by first | (simp only [putAll, Act.put, List.setIfInBounds_toArray, List.set_cons_zero, List.set_cons_succ]; done) | (simp only [putAll, Act.put, List.setIfInBounds_toArray, List.set_cons_zero, List.set_cons_succ]; rfl)) (hJ1_3_5_6_7_8 (wg.heap.size, n7, n8) _ ⟨HR6.out, HR7.out, HR8.out, hHeld.1, hHeld.2.1, hHeld.2.2, HBf.out, hlo6, hlo7, hlo8, hne7_6, hne8_6, hne8_7⟩)
    ·skip
     rintro ⟨n6, n8⟩ wg ⟨HX6, HX8, hq0, hq1, hq2, hbj, hlo6, hlo8, hne8_6⟩
     have HX6 := Aside0.mk HX6
     have HX8 := Aside0.mk HX8
     have HBj := Aside0.mk hbj
     clear hbj
     have hHeld : Row wg w.heap.size .u8 32 a0 22 ∧ Row wg (w.heap.size + 1) .u8 32 a1 22 ∧ Row wg (w.heap.size + 1 + 1) .u8 32 a2 22 := ⟨hq0, hq1, hq2⟩
     clear hq0 hq1 hq2
     refine norm_ (a' := ?_) ?_ ?_
     rotate_left
     · simp only [putAll, Act.put, List.setIfInBounds_toArray, List.set_cons_zero, List.set_cons_succ]
       rfl
     refine one_ (i := 7) (N := some 8) #[true, true, true, true, true, true, true, true, true, false, false, false] rfl rfl (one_of HT_.out (by kernel_rfl)) (by decide) (fun K hK => ?_)
     refine event_step (by rfl) (v := .pointer (some ⟨wg.heap.size, 0, none⟩)) (w1 := wg.alloc (.cells (FR .u64 5 fun _ => 0) 27)) (by first | (go_simp; done) | (go_simp; rfl)) ?_
     have hSn : Row (wg.alloc (.cells (FR .u64 5 fun _ => 0) 27)) w.heap.size .u8 32 a0 22 ∧ Row (wg.alloc (.cells (FR .u64 5 fun _ => 0) 27)) (w.heap.size + 1) .u8 32 a1 22 ∧ Row (wg.alloc (.cells (FR .u64 5 fun _ => 0) 27)) (w.heap.size + 1 + 1) .u8 32 a2 22 := ⟨hHeld.1.alloc _, hHeld.2.1.alloc _, hHeld.2.2.alloc _⟩
     have HBf := Aside0.mk (HBj.out.alloc HBj.out.size (.cells (FR .u64 5 fun _ => 0) 27))
     have hlo7 : (w.heap.size + 1 + 1) < wg.heap.size := hHeld.2.2.lt
     have hne7_6 : wg.heap.size ≠ n6 := by have := HX6.out.lt; omega
     have HR6 := Aside0.mk (HX6.out.alloc (.cells (FR .u64 5 fun _ => 0) 27))
     have hne8_7 : n8 ≠ wg.heap.size := by have := HX8.out.lt; omega
     have HR8 := Aside0.mk (HX8.out.alloc (.cells (FR .u64 5 fun _ => 0) 27))
     have HR7 := Aside0.mk (Row.new wg .u64 5 (fun _ => 0) 27)
     generalize wg.alloc (.cells (FR .u64 5 fun _ => 0) 27) = wf71 at hSn HBf HR6 HR8 HR7 ⊢
     refine hK.out _ _ hSn (fun hHeld => ?_)
     clear hSn hK K
     refine norm_ (a' := ?_) ?_ ?_
     rotate_left
     · show Act.put _ (some 8) _ = _
       simp only [Act.put, List.setIfInBounds_toArray, List.set_cons_zero, List.set_cons_succ, i64_w, i32_w]
       rfl
     exact norm_ (by first | (simp only [putAll, Act.put, List.setIfInBounds_toArray, List.set_cons_zero, List.set_cons_succ]; done) | (simp only [putAll, Act.put, List.setIfInBounds_toArray, List.set_cons_zero, List.set_cons_succ]; rfl)) (hJ1_3_5_6_7_8 (n6, wg.heap.size, n8) _ ⟨HR6.out, HR7.out, HR8.out, hHeld.1, hHeld.2.1, hHeld.2.2, HBf.out, hlo6, hlo7, hlo8, hne7_6, hne8_6, hne8_7⟩)
   ·skip
    rintro ⟨n6, n7⟩ wg ⟨HX6, HX7, hq0, hq1, hq2, hbj, hlo6, hlo7, hne7_6⟩
    have HX6 := Aside0.mk HX6
    have HX7 := Aside0.mk HX7
    have HBj := Aside0.mk hbj
    clear hbj
    have hHeld : Row wg w.heap.size .u8 32 a0 22 ∧ Row wg (w.heap.size + 1) .u8 32 a1 22 ∧ Row wg (w.heap.size + 1 + 1) .u8 32 a2 22 := ⟨hq0, hq1, hq2⟩
    clear hq0 hq1 hq2
    refine norm_ (a' := ?_) ?_ ?_
    rotate_left
    · simp only [putAll, Act.put, List.setIfInBounds_toArray, List.set_cons_zero, List.set_cons_succ]
      rfl
    refine one_ (i := 8) (N := some 9) #[true, true, true, true, true, true, true, true, true, false, false, false] rfl rfl (one_of HT_.out (by kernel_rfl)) (by decide) (fun K hK => ?_)
    refine event_step (by rfl) (v := .pointer (some ⟨wg.heap.size, 0, none⟩)) (w1 := wg.alloc (.cells (FR .u64 5 fun _ => 0) 27)) (by first | (go_simp; done) | (go_simp; rfl)) ?_
    have hSn : Row (wg.alloc (.cells (FR .u64 5 fun _ => 0) 27)) w.heap.size .u8 32 a0 22 ∧ Row (wg.alloc (.cells (FR .u64 5 fun _ => 0) 27)) (w.heap.size + 1) .u8 32 a1 22 ∧ Row (wg.alloc (.cells (FR .u64 5 fun _ => 0) 27)) (w.heap.size + 1 + 1) .u8 32 a2 22 := ⟨hHeld.1.alloc _, hHeld.2.1.alloc _, hHeld.2.2.alloc _⟩
    have HBf := Aside0.mk (HBj.out.alloc HBj.out.size (.cells (FR .u64 5 fun _ => 0) 27))
    have hlo8 : (w.heap.size + 1 + 1) < wg.heap.size := hHeld.2.2.lt
    have hne8_6 : wg.heap.size ≠ n6 := by have := HX6.out.lt; omega
    have HR6 := Aside0.mk (HX6.out.alloc (.cells (FR .u64 5 fun _ => 0) 27))
    have hne8_7 : wg.heap.size ≠ n7 := by have := HX7.out.lt; omega
    have HR7 := Aside0.mk (HX7.out.alloc (.cells (FR .u64 5 fun _ => 0) 27))
    have HR8 := Aside0.mk (Row.new wg .u64 5 (fun _ => 0) 27)
    generalize wg.alloc (.cells (FR .u64 5 fun _ => 0) 27) = wf72 at hSn HBf HR6 HR7 HR8 ⊢
    refine hK.out _ _ hSn (fun hHeld => ?_)
    clear hSn hK K
    refine norm_ (a' := ?_) ?_ ?_
    rotate_left
    · show Act.put _ (some 9) _ = _
      simp only [Act.put, List.setIfInBounds_toArray, List.set_cons_zero, List.set_cons_succ, i64_w, i32_w]
      rfl
    exact norm_ (by first | (simp only [putAll, Act.put, List.setIfInBounds_toArray, List.set_cons_zero, List.set_cons_succ]; done) | (simp only [putAll, Act.put, List.setIfInBounds_toArray, List.set_cons_zero, List.set_cons_succ]; rfl)) (hJ1_3_5_6_7_8 (n6, n7, wg.heap.size) _ ⟨HR6.out, HR7.out, HR8.out, hHeld.1, hHeld.2.1, hHeld.2.2, HBf.out, hlo6, hlo7, hlo8, hne7_6, hne8_6, hne8_7⟩)
  rintro ⟨n6, n7, n8⟩ wj ⟨HX6, HX7, HX8, hq0, hq1, hq2, hbj, hlo6, hlo7, hlo8, hne7_6, hne8_6, hne8_7⟩
  have HX6 := Aside0.mk HX6
  have HX7 := Aside0.mk HX7
  have HX8 := Aside0.mk HX8
  have HBj := Aside0.mk hbj
  clear hbj
  have hHeld : Row wj w.heap.size .u8 32 a0 22 ∧ Row wj (w.heap.size + 1) .u8 32 a1 22 ∧ Row wj (w.heap.size + 1 + 1) .u8 32 a2 22 := ⟨hq0, hq1, hq2⟩
  clear hq0 hq1 hq2
  refine norm_ (a' := ?_) ?_ ?_
  rotate_left
  · simp only [putAll, Act.put, List.setIfInBounds_toArray, List.set_cons_zero, List.set_cons_succ]
    rfl
  refine one_ (i := 9) (N := none) #[true, true, true, true, true, true, true, true, true, true, false, false] rfl rfl (one_of HT_.out (by kernel_rfl)) (by decide) (fun K hK => ?_)
  refine oper_storeG (carr (ofL a0)) HX6.out info27 rfl rfl rfl rfl rfl ?_
  intro ws73 hs hr
  have hSn : Row ws73 w.heap.size .u8 32 a0 22 ∧ Row ws73 (w.heap.size + 1) .u8 32 a1 22 ∧ Row ws73 (w.heap.size + 1 + 1) .u8 32 a2 22 := ⟨hHeld.1.stored hs (by omega), hHeld.2.1.stored hs (by omega), hHeld.2.2.stored hs (by omega)⟩
  have HX7 := Aside0.mk (HX7.out.stored hs (by omega))
  have HX8 := Aside0.mk (HX8.out.stored hs (by omega))
  have HX6 := Aside0.mk hr
  have HBs73 := Aside0.mk (hs.bel _ _ (by omega) HBj.out)
  clear hs hr
  refine hK.out _ _ hSn (fun hHeld => ?_)
  clear hSn hK K
  refine one_ (i := 10) (N := none) #[true, true, true, true, true, true, true, true, true, true, true, false] rfl rfl (one_of HT_.out (by kernel_rfl)) (by decide) (fun K hK => ?_)
  refine oper_storeG (carr (ofL a1)) HX7.out info27 rfl rfl rfl rfl rfl ?_
  intro ws74 hs hr
  have hSn : Row ws74 w.heap.size .u8 32 a0 22 ∧ Row ws74 (w.heap.size + 1) .u8 32 a1 22 ∧ Row ws74 (w.heap.size + 1 + 1) .u8 32 a2 22 := ⟨hHeld.1.stored hs (by omega), hHeld.2.1.stored hs (by omega), hHeld.2.2.stored hs (by omega)⟩
  have HX6 := Aside0.mk (HX6.out.stored hs (by omega))
  have HX8 := Aside0.mk (HX8.out.stored hs (by omega))
  have HX7 := Aside0.mk hr
  have HBs74 := Aside0.mk (hs.bel _ _ (by omega) HBs73.out)
  clear hs hr
  refine hK.out _ _ hSn (fun hHeld => ?_)
  clear hSn hK K
  refine one_ (i := 11) (N := none) #[true, true, true, true, true, true, true, true, true, true, true, true] rfl rfl (one_of HT_.out (by kernel_rfl)) (by decide) (fun K hK => ?_)
  refine oper_storeG (carr (ofL a2)) HX8.out info27 rfl rfl rfl rfl rfl ?_
  intro ws75 hs hr
  have hSn : Row ws75 w.heap.size .u8 32 a0 22 ∧ Row ws75 (w.heap.size + 1) .u8 32 a1 22 ∧ Row ws75 (w.heap.size + 1 + 1) .u8 32 a2 22 := ⟨hHeld.1.stored hs (by omega), hHeld.2.1.stored hs (by omega), hHeld.2.2.stored hs (by omega)⟩
  have HX6 := Aside0.mk (HX6.out.stored hs (by omega))
  have HX7 := Aside0.mk (HX7.out.stored hs (by omega))
  have HX8 := Aside0.mk hr
  have HBs75 := Aside0.mk (hs.bel _ _ (by omega) HBs74.out)
  clear hs hr
  refine hK.out _ _ hSn (fun hHeld => ?_)
  clear hSn hK K
  refine done_ (done_of HT_.out (by kernel_rfl)) ?_
  try go_wp2
  have hh : Row ws75.drew n6 .u64 5 (carr (ofL a0)) 27 ∧ Row ws75.drew n7 .u64 5 (carr (ofL a1)) 27 ∧ Row ws75.drew n8 .u64 5 (carr (ofL a2)) 27 := ⟨HX6.out, HX7.out, HX8.out⟩
  have HBe := Aside0.mk HBs75.out.drew
  have hws := HBe.out.size
  clear hHeld HBs75 HX6 HX7 HX8 HT_ HW_
  refine start_ (n := 48) (S := (fun w' => Row w' n6 .u64 5 (carr (ofL a0)) 27 ∧ Row w' n7 .u64 5 (carr (ofL a1)) 27 ∧ Row w' n8 .u64 5 (carr (ofL a2)) 27)) (ds := []) #[false, false, false, false, false, false, false, false, false, false, false, false, false, false, false, false, false, false, false, false, false, false, false, false, false, false, false, false, false, false, false, false, false, false, false, false, false, false, false, false, false, false, false, false, false, false, false, false] (by kernel_rfl) rfl rfl hh (fun hHeld => ?_); refine with_tabW tab904 bits904 (fun HT_ HW_ => ?_)
  generalize ws75.drew = w7 at HBe hHeld hh hws ⊢
  clear hh
  refine take_ (i := 0) (N := some 19) (v := ?_) (a' := ?_) #[true, false, false, false, false, false, false, false, false, false, false, false, false, false, false, false, false, false, false, false, false, false, false, false, false, false, false, false, false, false, false, false, false, false, false, false, false, false, false, false, false, false, false, false, false, false, false, false] rfl rfl (take_ofW HT_.out HW_.out (by kernel_rfl)) (fun _ _ _ h => h) (Or.inl ⟨by rfl, ?_⟩) hHeld ?_ ?_
  rotate_left
  · intro w' hsw
    refine exec_load (x := .tmp 7) hsw.1 Try.underlying27 info27 rfl ?_ ?_ <;> rfl
  rotate_left
  · simp only [Act.put, List.setIfInBounds_toArray, List.set_cons_zero, List.set_cons_succ, i64_w, i32_w]
    rfl
  refine take_ (i := 1) (N := some 20) (v := ?_) (a' := ?_) #[true, true, false, false, false, false, false, false, false, false, false, false, false, false, false, false, false, false, false, false, false, false, false, false, false, false, false, false, false, false, false, false, false, false, false, false, false, false, false, false, false, false, false, false, false, false, false, false] rfl rfl (take_ofW HT_.out HW_.out (by kernel_rfl)) (fun _ _ _ h => h) (Or.inl ⟨by rfl, ?_⟩) hHeld ?_ ?_
  rotate_left
  · intro w' hsw
    refine exec_load (x := .tmp 8) hsw.2.1 Try.underlying27 info27 rfl ?_ ?_ <;> rfl
  rotate_left
  · simp only [Act.put, List.setIfInBounds_toArray, List.set_cons_zero, List.set_cons_succ, i64_w, i32_w]
    rfl
  refine take_ (i := 3) (N := some 22) (v := ?_) (a' := ?_) #[true, true, false, true, false, false, false, false, false, false, false, false, false, false, false, false, false, false, false, false, false, false, false, false, false, false, false, false, false, false, false, false, false, false, false, false, false, false, false, false, false, false, false, false, false, false, false, false] rfl rfl (take_ofW HT_.out HW_.out (by kernel_rfl)) (fun _ _ _ h => h) (Or.inl ⟨by rfl, ?_⟩) hHeld ?_ ?_
  rotate_left
  · intro w' hsw
    refine exec_load (x := .tmp 8) hsw.2.1 Try.underlying27 info27 rfl ?_ ?_ <;> rfl
  rotate_left
  · simp only [Act.put, List.setIfInBounds_toArray, List.set_cons_zero, List.set_cons_succ, i64_w, i32_w]
    rfl
  refine take_ (i := 4) (N := some 23) (v := ?_) (a' := ?_) #[true, true, false, true, true, false, false, false, false, false, false, false, false, false, false, false, false, false, false, false, false, false, false, false, false, false, false, false, false, false, false, false, false, false, false, false, false, false, false, false, false, false, false, false, false, false, false, false] rfl rfl (take_ofW HT_.out HW_.out (by kernel_rfl)) (fun _ _ _ h => h) (Or.inl ⟨by rfl, ?_⟩) hHeld ?_ ?_
  rotate_left
  · intro w' hsw
    refine exec_load (x := .tmp 7) hsw.1 Try.underlying27 info27 rfl ?_ ?_ <;> rfl
  rotate_left
  · simp only [Act.put, List.setIfInBounds_toArray, List.set_cons_zero, List.set_cons_succ, i64_w, i32_w]
    rfl
  refine one_ (i := 2) (N := some 21) #[true, true, true, true, true, false, false, false, false, false, false, false, false, false, false, false, false, false, false, false, false, false, false, false, false, false, false, false, false, false, false, false, false, false, false, false, false, false, false, false, false, false, false, false, false, false, false, false] rfl rfl (one_of HT_.out (by kernel_rfl)) (by decide) (fun K hK => ?_)
  refine goes_ Try.func20 rfl rfl #[.agg (FR .u64 5 (carr (ofL a0))), .agg (FR .u64 5 (carr (ofL a1)))] rfl rfl rfl (by simp only [List.map_toArray, List.map_cons, List.map_nil]; rfl) ((addE_c _ _ _ (Fe.of _ HA0.out).1 (Fe.of _ HA1.out).1).mono ?_)
  rintro e wc201 ⟨rfl, hb⟩
  have hSn : Row wc201 n6 .u64 5 (carr (ofL a0)) 27 ∧ Row wc201 n7 .u64 5 (carr (ofL a1)) 27 ∧ Row wc201 n8 .u64 5 (carr (ofL a2)) 27 := ⟨hHeld.1.below hb hHeld.1.lt, hHeld.2.1.below hb hHeld.2.1.lt, hHeld.2.2.below hb hHeld.2.2.lt⟩
  have HBc201 := Aside0.mk (HBe.out.trans (hb.mono HBe.out.size))
  clear hb
  refine ⟨_, rfl, hK.out _ _ hSn (fun hHeld => ?_)⟩
  clear hSn
  clear hK K
  refine norm_ (a' := ?_) ?_ ?_
  rotate_left
  · show Act.put _ (some 21) _ = _
    simp only [Act.put, List.setIfInBounds_toArray, List.set_cons_zero, List.set_cons_succ, i64_w, i32_w]
    rfl
  refine one_ (i := 5) (N := some 24) #[true, true, true, true, true, true, false, false, false, false, false, false, false, false, false, false, false, false, false, false, false, false, false, false, false, false, false, false, false, false, false, false, false, false, false, false, false, false, false, false, false, false, false, false, false, false, false, false] rfl rfl (one_of HT_.out (by kernel_rfl)) (by decide) (fun K hK => ?_)
  refine goes_ Try.func20 rfl rfl #[.agg (FR .u64 5 (carr (ofL a1))), .agg (FR .u64 5 (carr (ofL a0)))] rfl rfl rfl (by simp only [List.map_toArray, List.map_cons, List.map_nil]; rfl) ((addE_c _ _ _ (Fe.of _ HA1.out).1 (Fe.of _ HA0.out).1).mono ?_)
  rintro e wc202 ⟨rfl, hb⟩
  have hSn : Row wc202 n6 .u64 5 (carr (ofL a0)) 27 ∧ Row wc202 n7 .u64 5 (carr (ofL a1)) 27 ∧ Row wc202 n8 .u64 5 (carr (ofL a2)) 27 := ⟨hHeld.1.below hb hHeld.1.lt, hHeld.2.1.below hb hHeld.2.1.lt, hHeld.2.2.below hb hHeld.2.2.lt⟩
  have HBc202 := Aside0.mk (HBc201.out.trans (hb.mono HBc201.out.size))
  clear hb
  refine ⟨_, rfl, hK.out _ _ hSn (fun hHeld => ?_)⟩
  clear hSn
  clear hK K
  refine norm_ (a' := ?_) ?_ ?_
  rotate_left
  · show Act.put _ (some 24) _ = _
    simp only [Act.put, List.setIfInBounds_toArray, List.set_cons_zero, List.set_cons_succ, i64_w, i32_w]
    rfl
  refine one_ (i := 6) (N := some 25) #[true, true, true, true, true, true, true, false, false, false, false, false, false, false, false, false, false, false, false, false, false, false, false, false, false, false, false, false, false, false, false, false, false, false, false, false, false, false, false, false, false, false, false, false, false, false, false, false] rfl rfl (one_of HT_.out (by kernel_rfl)) (by decide) (fun K hK => ?_)
  refine goes_ Try.func17 rfl rfl #[.agg (FR .u64 5 (addE (carr (ofL a0)) (carr (ofL a1)))), .agg (FR .u64 5 (addE (carr (ofL a1)) (carr (ofL a0))))] rfl rfl rfl (by simp only [List.map_toArray, List.map_cons, List.map_nil]; rfl) ((is_same (Fe.add (Fe.of _ HA0.out) (Fe.of _ HA1.out)) (Fe.add (Fe.of _ HA1.out) (Fe.of _ HA0.out)) (by first | rfl | (congr 1; grind)) _).mono ?_)
  rintro e wc203 ⟨rfl, hb⟩
  have hSn : Row wc203 n6 .u64 5 (carr (ofL a0)) 27 ∧ Row wc203 n7 .u64 5 (carr (ofL a1)) 27 ∧ Row wc203 n8 .u64 5 (carr (ofL a2)) 27 := ⟨hHeld.1.below hb hHeld.1.lt, hHeld.2.1.below hb hHeld.2.1.lt, hHeld.2.2.below hb hHeld.2.2.lt⟩
  have HBc203 := Aside0.mk (HBc202.out.trans (hb.mono HBc202.out.size))
  clear hb
  refine ⟨_, rfl, hK.out _ _ hSn (fun hHeld => ?_)⟩
  clear hSn
  clear hK K
  refine norm_ (a' := ?_) ?_ ?_
  rotate_left
  · show Act.put _ (some 25) _ = _
    simp only [Act.put, List.setIfInBounds_toArray, List.set_cons_zero, List.set_cons_succ, i64_w, i32_w]
    rfl
  refine pure_ (i := 7) (N := some 26) (v := ?_) (a' := ?_) #[true, true, true, true, true, true, true, true, false, false, false, false, false, false, false, false, false, false, false, false, false, false, false, false, false, false, false, false, false, false, false, false, false, false, false, false, false, false, false, false, false, false, false, false, false, false, false, false] rfl rfl (any_of HT_.out (by kernel_rfl)) (fun _ _ _ h => h) (Or.inl ⟨by rfl, ?_⟩) ?_ ?_
  rotate_left
  · intro w'
    go_simp
    with_reducible rfl
  rotate_left
  · simp only [Act.put, List.setIfInBounds_toArray, List.set_cons_zero, List.set_cons_succ, i64_w, i32_w]
    rfl
  refine pure_ (i := 8) (N := some 27) (v := ?_) (a' := ?_) #[true, true, true, true, true, true, true, true, true, false, false, false, false, false, false, false, false, false, false, false, false, false, false, false, false, false, false, false, false, false, false, false, false, false, false, false, false, false, false, false, false, false, false, false, false, false, false, false] rfl rfl (any_of HT_.out (by kernel_rfl)) (fun _ _ _ h => h) (Or.inl ⟨by rfl, ?_⟩) ?_ ?_
  rotate_left
  · intro w'
    go_simp
    with_reducible rfl
  rotate_left
  · simp only [Act.put, List.setIfInBounds_toArray, List.set_cons_zero, List.set_cons_succ, i64_w, i32_w]
    rfl
  refine take_ (i := 9) (N := some 28) (v := ?_) (a' := ?_) #[true, true, true, true, true, true, true, true, true, true, false, false, false, false, false, false, false, false, false, false, false, false, false, false, false, false, false, false, false, false, false, false, false, false, false, false, false, false, false, false, false, false, false, false, false, false, false, false] rfl rfl (take_ofW HT_.out HW_.out (by kernel_rfl)) (fun _ _ _ h => h) (Or.inl ⟨by rfl, ?_⟩) hHeld ?_ ?_
  rotate_left
  · intro w' hsw
    refine exec_load (x := .tmp 7) hsw.1 Try.underlying27 info27 rfl ?_ ?_ <;> rfl
  rotate_left
  · simp only [Act.put, List.setIfInBounds_toArray, List.set_cons_zero, List.set_cons_succ, i64_w, i32_w]
    rfl
  refine take_ (i := 10) (N := some 29) (v := ?_) (a' := ?_) #[true, true, true, true, true, true, true, true, true, true, true, false, false, false, false, false, false, false, false, false, false, false, false, false, false, false, false, false, false, false, false, false, false, false, false, false, false, false, false, false, false, false, false, false, false, false, false, false] rfl rfl (take_ofW HT_.out HW_.out (by kernel_rfl)) (fun _ _ _ h => h) (Or.inl ⟨by rfl, ?_⟩) hHeld ?_ ?_
  rotate_left
  · intro w' hsw
    refine exec_load (x := .tmp 8) hsw.2.1 Try.underlying27 info27 rfl ?_ ?_ <;> rfl
  rotate_left
  · simp only [Act.put, List.setIfInBounds_toArray, List.set_cons_zero, List.set_cons_succ, i64_w, i32_w]
    rfl
  refine take_ (i := 12) (N := some 31) (v := ?_) (a' := ?_) #[true, true, true, true, true, true, true, true, true, true, true, false, true, false, false, false, false, false, false, false, false, false, false, false, false, false, false, false, false, false, false, false, false, false, false, false, false, false, false, false, false, false, false, false, false, false, false, false] rfl rfl (take_ofW HT_.out HW_.out (by kernel_rfl)) (fun _ _ _ h => h) (Or.inl ⟨by rfl, ?_⟩) hHeld ?_ ?_
  rotate_left
  · intro w' hsw
    refine exec_load (x := .tmp 8) hsw.2.1 Try.underlying27 info27 rfl ?_ ?_ <;> rfl
  rotate_left
  · simp only [Act.put, List.setIfInBounds_toArray, List.set_cons_zero, List.set_cons_succ, i64_w, i32_w]
    rfl
  refine take_ (i := 13) (N := some 32) (v := ?_) (a' := ?_) #[true, true, true, true, true, true, true, true, true, true, true, false, true, true, false, false, false, false, false, false, false, false, false, false, false, false, false, false, false, false, false, false, false, false, false, false, false, false, false, false, false, false, false, false, false, false, false, false] rfl rfl (take_ofW HT_.out HW_.out (by kernel_rfl)) (fun _ _ _ h => h) (Or.inl ⟨by rfl, ?_⟩) hHeld ?_ ?_
  rotate_left
  · intro w' hsw
    refine exec_load (x := .tmp 7) hsw.1 Try.underlying27 info27 rfl ?_ ?_ <;> rfl
  rotate_left
  · simp only [Act.put, List.setIfInBounds_toArray, List.set_cons_zero, List.set_cons_succ, i64_w, i32_w]
    rfl
  refine one_ (i := 11) (N := some 30) #[true, true, true, true, true, true, true, true, true, true, true, true, true, true, false, false, false, false, false, false, false, false, false, false, false, false, false, false, false, false, false, false, false, false, false, false, false, false, false, false, false, false, false, false, false, false, false, false] rfl rfl (one_of HT_.out (by kernel_rfl)) (by decide) (fun K hK => ?_)
  refine goes_ Try.func26 rfl rfl #[.agg (FR .u64 5 (carr (ofL a0))), .agg (FR .u64 5 (carr (ofL a1)))] rfl rfl rfl (by simp only [List.map_toArray, List.map_cons, List.map_nil]; rfl) ((elem_mul_calls _ _ _ (Fe.of _ HA0.out).1 (Fe.of _ HA1.out).1).mono ?_)
  rintro e wc204 ⟨rfl, hb⟩
  have hSn : Row wc204 n6 .u64 5 (carr (ofL a0)) 27 ∧ Row wc204 n7 .u64 5 (carr (ofL a1)) 27 ∧ Row wc204 n8 .u64 5 (carr (ofL a2)) 27 := ⟨hHeld.1.below hb hHeld.1.lt, hHeld.2.1.below hb hHeld.2.1.lt, hHeld.2.2.below hb hHeld.2.2.lt⟩
  have HBc204 := Aside0.mk (HBc203.out.trans (hb.mono HBc203.out.size))
  clear hb
  refine ⟨_, rfl, hK.out _ _ hSn (fun hHeld => ?_)⟩
  clear hSn
  clear hK K
  refine norm_ (a' := ?_) ?_ ?_
  rotate_left
  · show Act.put _ (some 30) _ = _
    simp only [Act.put, List.setIfInBounds_toArray, List.set_cons_zero, List.set_cons_succ, i64_w, i32_w]
    rfl
  refine one_ (i := 14) (N := some 33) #[true, true, true, true, true, true, true, true, true, true, true, true, true, true, true, false, false, false, false, false, false, false, false, false, false, false, false, false, false, false, false, false, false, false, false, false, false, false, false, false, false, false, false, false, false, false, false, false] rfl rfl (one_of HT_.out (by kernel_rfl)) (by decide) (fun K hK => ?_)
  refine goes_ Try.func26 rfl rfl #[.agg (FR .u64 5 (carr (ofL a1))), .agg (FR .u64 5 (carr (ofL a0)))] rfl rfl rfl (by simp only [List.map_toArray, List.map_cons, List.map_nil]; rfl) ((elem_mul_calls _ _ _ (Fe.of _ HA1.out).1 (Fe.of _ HA0.out).1).mono ?_)
  rintro e wc205 ⟨rfl, hb⟩
  have hSn : Row wc205 n6 .u64 5 (carr (ofL a0)) 27 ∧ Row wc205 n7 .u64 5 (carr (ofL a1)) 27 ∧ Row wc205 n8 .u64 5 (carr (ofL a2)) 27 := ⟨hHeld.1.below hb hHeld.1.lt, hHeld.2.1.below hb hHeld.2.1.lt, hHeld.2.2.below hb hHeld.2.2.lt⟩
  have HBc205 := Aside0.mk (HBc204.out.trans (hb.mono HBc204.out.size))
  clear hb
  refine ⟨_, rfl, hK.out _ _ hSn (fun hHeld => ?_)⟩
  clear hSn
  clear hK K
  refine norm_ (a' := ?_) ?_ ?_
  rotate_left
  · show Act.put _ (some 33) _ = _
    simp only [Act.put, List.setIfInBounds_toArray, List.set_cons_zero, List.set_cons_succ, i64_w, i32_w]
    rfl
  refine one_ (i := 15) (N := some 34) #[true, true, true, true, true, true, true, true, true, true, true, true, true, true, true, true, false, false, false, false, false, false, false, false, false, false, false, false, false, false, false, false, false, false, false, false, false, false, false, false, false, false, false, false, false, false, false, false] rfl rfl (one_of HT_.out (by kernel_rfl)) (by decide) (fun K hK => ?_)
  refine goes_ Try.func17 rfl rfl #[.agg (FR .u64 5 (mulE (carr (ofL a0)) (carr (ofL a1)))), .agg (FR .u64 5 (mulE (carr (ofL a1)) (carr (ofL a0))))] rfl rfl rfl (by simp only [List.map_toArray, List.map_cons, List.map_nil]; rfl) ((is_same (Fe.mul (Fe.of _ HA0.out) (Fe.of _ HA1.out)) (Fe.mul (Fe.of _ HA1.out) (Fe.of _ HA0.out)) (by first | rfl | (congr 1; grind)) _).mono ?_)
  rintro e wc206 ⟨rfl, hb⟩
  have hSn : Row wc206 n6 .u64 5 (carr (ofL a0)) 27 ∧ Row wc206 n7 .u64 5 (carr (ofL a1)) 27 ∧ Row wc206 n8 .u64 5 (carr (ofL a2)) 27 := ⟨hHeld.1.below hb hHeld.1.lt, hHeld.2.1.below hb hHeld.2.1.lt, hHeld.2.2.below hb hHeld.2.2.lt⟩
  have HBc206 := Aside0.mk (HBc205.out.trans (hb.mono HBc205.out.size))
  clear hb
  refine ⟨_, rfl, hK.out _ _ hSn (fun hHeld => ?_)⟩
  clear hSn
  clear hK K
  refine norm_ (a' := ?_) ?_ ?_
  rotate_left
  · show Act.put _ (some 34) _ = _
    simp only [Act.put, List.setIfInBounds_toArray, List.set_cons_zero, List.set_cons_succ, i64_w, i32_w]
    rfl
  refine pure_ (i := 16) (N := some 35) (v := ?_) (a' := ?_) #[true, true, true, true, true, true, true, true, true, true, true, true, true, true, true, true, true, false, false, false, false, false, false, false, false, false, false, false, false, false, false, false, false, false, false, false, false, false, false, false, false, false, false, false, false, false, false, false] rfl rfl (any_of HT_.out (by kernel_rfl)) (fun _ _ _ h => h) (Or.inl ⟨by rfl, ?_⟩) ?_ ?_
  rotate_left
  · intro w'
    go_simp
    with_reducible rfl
  rotate_left
  · simp only [Act.put, List.setIfInBounds_toArray, List.set_cons_zero, List.set_cons_succ, i64_w, i32_w]
    rfl
  refine pure_ (i := 17) (N := some 36) (v := ?_) (a' := ?_) #[true, true, true, true, true, true, true, true, true, true, true, true, true, true, true, true, true, true, false, false, false, false, false, false, false, false, false, false, false, false, false, false, false, false, false, false, false, false, false, false, false, false, false, false, false, false, false, false] rfl rfl (any_of HT_.out (by kernel_rfl)) (fun _ _ _ h => h) (Or.inl ⟨by rfl, ?_⟩) ?_ ?_
  rotate_left
  · intro w'
    go_simp
    with_reducible rfl
  rotate_left
  · simp only [Act.put, List.setIfInBounds_toArray, List.set_cons_zero, List.set_cons_succ, i64_w, i32_w]
    rfl
  refine pure_ (i := 18) (N := some 37) (v := ?_) (a' := ?_) #[true, true, true, true, true, true, true, true, true, true, true, true, true, true, true, true, true, true, true, false, false, false, false, false, false, false, false, false, false, false, false, false, false, false, false, false, false, false, false, false, false, false, false, false, false, false, false, false] rfl rfl (any_of HT_.out (by kernel_rfl)) (fun _ _ _ h => h) (Or.inl ⟨by rfl, ?_⟩) ?_ ?_
  rotate_left
  · intro w'
    go_simp
    with_reducible rfl
  rotate_left
  · simp only [Act.put, List.setIfInBounds_toArray, List.set_cons_zero, List.set_cons_succ, i64_w, i32_w]
    rfl
  refine take_ (i := 19) (N := some 38) (v := ?_) (a' := ?_) #[true, true, true, true, true, true, true, true, true, true, true, true, true, true, true, true, true, true, true, true, false, false, false, false, false, false, false, false, false, false, false, false, false, false, false, false, false, false, false, false, false, false, false, false, false, false, false, false] rfl rfl (take_ofW HT_.out HW_.out (by kernel_rfl)) (fun _ _ _ h => h) (Or.inl ⟨by rfl, ?_⟩) hHeld ?_ ?_
  rotate_left
  · intro w' hsw
    refine exec_load (x := .tmp 7) hsw.1 Try.underlying27 info27 rfl ?_ ?_ <;> rfl
  rotate_left
  · simp only [Act.put, List.setIfInBounds_toArray, List.set_cons_zero, List.set_cons_succ, i64_w, i32_w]
    rfl
  refine take_ (i := 20) (N := some 39) (v := ?_) (a' := ?_) #[true, true, true, true, true, true, true, true, true, true, true, true, true, true, true, true, true, true, true, true, true, false, false, false, false, false, false, false, false, false, false, false, false, false, false, false, false, false, false, false, false, false, false, false, false, false, false, false] rfl rfl (take_ofW HT_.out HW_.out (by kernel_rfl)) (fun _ _ _ h => h) (Or.inl ⟨by rfl, ?_⟩) hHeld ?_ ?_
  rotate_left
  · intro w' hsw
    refine exec_load (x := .tmp 8) hsw.2.1 Try.underlying27 info27 rfl ?_ ?_ <;> rfl
  rotate_left
  · simp only [Act.put, List.setIfInBounds_toArray, List.set_cons_zero, List.set_cons_succ, i64_w, i32_w]
    rfl
  refine take_ (i := 22) (N := some 41) (v := ?_) (a' := ?_) #[true, true, true, true, true, true, true, true, true, true, true, true, true, true, true, true, true, true, true, true, true, false, true, false, false, false, false, false, false, false, false, false, false, false, false, false, false, false, false, false, false, false, false, false, false, false, false, false] rfl rfl (take_ofW HT_.out HW_.out (by kernel_rfl)) (fun _ _ _ h => h) (Or.inl ⟨by rfl, ?_⟩) hHeld ?_ ?_
  rotate_left
  · intro w' hsw
    refine exec_load (x := .tmp 9) hsw.2.2 Try.underlying27 info27 rfl ?_ ?_ <;> rfl
  rotate_left
  · simp only [Act.put, List.setIfInBounds_toArray, List.set_cons_zero, List.set_cons_succ, i64_w, i32_w]
    rfl
  refine take_ (i := 24) (N := some 43) (v := ?_) (a' := ?_) #[true, true, true, true, true, true, true, true, true, true, true, true, true, true, true, true, true, true, true, true, true, false, true, false, true, false, false, false, false, false, false, false, false, false, false, false, false, false, false, false, false, false, false, false, false, false, false, false] rfl rfl (take_ofW HT_.out HW_.out (by kernel_rfl)) (fun _ _ _ h => h) (Or.inl ⟨by rfl, ?_⟩) hHeld ?_ ?_
  rotate_left
  · intro w' hsw
    refine exec_load (x := .tmp 7) hsw.1 Try.underlying27 info27 rfl ?_ ?_ <;> rfl
  rotate_left
  · simp only [Act.put, List.setIfInBounds_toArray, List.set_cons_zero, List.set_cons_succ, i64_w, i32_w]
    rfl
  refine take_ (i := 25) (N := some 44) (v := ?_) (a' := ?_) #[true, true, true, true, true, true, true, true, true, true, true, true, true, true, true, true, true, true, true, true, true, false, true, false, true, true, false, false, false, false, false, false, false, false, false, false, false, false, false, false, false, false, false, false, false, false, false, false] rfl rfl (take_ofW HT_.out HW_.out (by kernel_rfl)) (fun _ _ _ h => h) (Or.inl ⟨by rfl, ?_⟩) hHeld ?_ ?_
  rotate_left
  · intro w' hsw
    refine exec_load (x := .tmp 8) hsw.2.1 Try.underlying27 info27 rfl ?_ ?_ <;> rfl
  rotate_left
  · simp only [Act.put, List.setIfInBounds_toArray, List.set_cons_zero, List.set_cons_succ, i64_w, i32_w]
    rfl
  refine take_ (i := 26) (N := some 45) (v := ?_) (a' := ?_) #[true, true, true, true, true, true, true, true, true, true, true, true, true, true, true, true, true, true, true, true, true, false, true, false, true, true, true, false, false, false, false, false, false, false, false, false, false, false, false, false, false, false, false, false, false, false, false, false] rfl rfl (take_ofW HT_.out HW_.out (by kernel_rfl)) (fun _ _ _ h => h) (Or.inl ⟨by rfl, ?_⟩) hHeld ?_ ?_
  rotate_left
  · intro w' hsw
    refine exec_load (x := .tmp 9) hsw.2.2 Try.underlying27 info27 rfl ?_ ?_ <;> rfl
  rotate_left
  · simp only [Act.put, List.setIfInBounds_toArray, List.set_cons_zero, List.set_cons_succ, i64_w, i32_w]
    rfl
  refine one_ (i := 21) (N := some 40) #[true, true, true, true, true, true, true, true, true, true, true, true, true, true, true, true, true, true, true, true, true, true, true, false, true, true, true, false, false, false, false, false, false, false, false, false, false, false, false, false, false, false, false, false, false, false, false, false] rfl rfl (one_of HT_.out (by kernel_rfl)) (by decide) (fun K hK => ?_)
  refine goes_ Try.func26 rfl rfl #[.agg (FR .u64 5 (carr (ofL a0))), .agg (FR .u64 5 (carr (ofL a1)))] rfl rfl rfl (by simp only [List.map_toArray, List.map_cons, List.map_nil]; rfl) ((elem_mul_calls _ _ _ (Fe.of _ HA0.out).1 (Fe.of _ HA1.out).1).mono ?_)
  rintro e wc207 ⟨rfl, hb⟩
  have hSn : Row wc207 n6 .u64 5 (carr (ofL a0)) 27 ∧ Row wc207 n7 .u64 5 (carr (ofL a1)) 27 ∧ Row wc207 n8 .u64 5 (carr (ofL a2)) 27 := ⟨hHeld.1.below hb hHeld.1.lt, hHeld.2.1.below hb hHeld.2.1.lt, hHeld.2.2.below hb hHeld.2.2.lt⟩
  have HBc207 := Aside0.mk (HBc206.out.trans (hb.mono HBc206.out.size))
  clear hb
  refine ⟨_, rfl, hK.out _ _ hSn (fun hHeld => ?_)⟩
  clear hSn
  clear hK K
  refine norm_ (a' := ?_) ?_ ?_
  rotate_left
  · show Act.put _ (some 40) _ = _
    simp only [Act.put, List.setIfInBounds_toArray, List.set_cons_zero, List.set_cons_succ, i64_w, i32_w]
    rfl
  refine one_ (i := 23) (N := some 42) #[true, true, true, true, true, true, true, true, true, true, true, true, true, true, true, true, true, true, true, true, true, true, true, true, true, true, true, false, false, false, false, false, false, false, false, false, false, false, false, false, false, false, false, false, false, false, false, false] rfl rfl (one_of HT_.out (by kernel_rfl)) (by decide) (fun K hK => ?_)
  refine goes_ Try.func26 rfl rfl #[.agg (FR .u64 5 (mulE (carr (ofL a0)) (carr (ofL a1)))), .agg (FR .u64 5 (carr (ofL a2)))] rfl rfl rfl (by simp only [List.map_toArray, List.map_cons, List.map_nil]; rfl) ((elem_mul_calls _ _ _ (Fe.mul (Fe.of _ HA0.out) (Fe.of _ HA1.out)).1 (Fe.of _ HA2.out).1).mono ?_)
  rintro e wc208 ⟨rfl, hb⟩
  have hSn : Row wc208 n6 .u64 5 (carr (ofL a0)) 27 ∧ Row wc208 n7 .u64 5 (carr (ofL a1)) 27 ∧ Row wc208 n8 .u64 5 (carr (ofL a2)) 27 := ⟨hHeld.1.below hb hHeld.1.lt, hHeld.2.1.below hb hHeld.2.1.lt, hHeld.2.2.below hb hHeld.2.2.lt⟩
  have HBc208 := Aside0.mk (HBc207.out.trans (hb.mono HBc207.out.size))
  clear hb
  refine ⟨_, rfl, hK.out _ _ hSn (fun hHeld => ?_)⟩
  clear hSn
  clear hK K
  refine norm_ (a' := ?_) ?_ ?_
  rotate_left
  · show Act.put _ (some 42) _ = _
    simp only [Act.put, List.setIfInBounds_toArray, List.set_cons_zero, List.set_cons_succ, i64_w, i32_w]
    rfl
  refine one_ (i := 27) (N := some 46) #[true, true, true, true, true, true, true, true, true, true, true, true, true, true, true, true, true, true, true, true, true, true, true, true, true, true, true, true, false, false, false, false, false, false, false, false, false, false, false, false, false, false, false, false, false, false, false, false] rfl rfl (one_of HT_.out (by kernel_rfl)) (by decide) (fun K hK => ?_)
  refine goes_ Try.func26 rfl rfl #[.agg (FR .u64 5 (carr (ofL a1))), .agg (FR .u64 5 (carr (ofL a2)))] rfl rfl rfl (by simp only [List.map_toArray, List.map_cons, List.map_nil]; rfl) ((elem_mul_calls _ _ _ (Fe.of _ HA1.out).1 (Fe.of _ HA2.out).1).mono ?_)
  rintro e wc209 ⟨rfl, hb⟩
  have hSn : Row wc209 n6 .u64 5 (carr (ofL a0)) 27 ∧ Row wc209 n7 .u64 5 (carr (ofL a1)) 27 ∧ Row wc209 n8 .u64 5 (carr (ofL a2)) 27 := ⟨hHeld.1.below hb hHeld.1.lt, hHeld.2.1.below hb hHeld.2.1.lt, hHeld.2.2.below hb hHeld.2.2.lt⟩
  have HBc209 := Aside0.mk (HBc208.out.trans (hb.mono HBc208.out.size))
  clear hb
  refine ⟨_, rfl, hK.out _ _ hSn (fun hHeld => ?_)⟩
  clear hSn
  clear hK K
  refine norm_ (a' := ?_) ?_ ?_
  rotate_left
  · show Act.put _ (some 46) _ = _
    simp only [Act.put, List.setIfInBounds_toArray, List.set_cons_zero, List.set_cons_succ, i64_w, i32_w]
    rfl
  refine one_ (i := 28) (N := some 47) #[true, true, true, true, true, true, true, true, true, true, true, true, true, true, true, true, true, true, true, true, true, true, true, true, true, true, true, true, true, false, false, false, false, false, false, false, false, false, false, false, false, false, false, false, false, false, false, false] rfl rfl (one_of HT_.out (by kernel_rfl)) (by decide) (fun K hK => ?_)
  refine goes_ Try.func26 rfl rfl #[.agg (FR .u64 5 (carr (ofL a0))), .agg (FR .u64 5 (mulE (carr (ofL a1)) (carr (ofL a2))))] rfl rfl rfl (by simp only [List.map_toArray, List.map_cons, List.map_nil]; rfl) ((elem_mul_calls _ _ _ (Fe.of _ HA0.out).1 (Fe.mul (Fe.of _ HA1.out) (Fe.of _ HA2.out)).1).mono ?_)
  rintro e wc210 ⟨rfl, hb⟩
  have hSn : Row wc210 n6 .u64 5 (carr (ofL a0)) 27 ∧ Row wc210 n7 .u64 5 (carr (ofL a1)) 27 ∧ Row wc210 n8 .u64 5 (carr (ofL a2)) 27 := ⟨hHeld.1.below hb hHeld.1.lt, hHeld.2.1.below hb hHeld.2.1.lt, hHeld.2.2.below hb hHeld.2.2.lt⟩
  have HBc210 := Aside0.mk (HBc209.out.trans (hb.mono HBc209.out.size))
  clear hb
  refine ⟨_, rfl, hK.out _ _ hSn (fun hHeld => ?_)⟩
  clear hSn
  clear hK K
  refine norm_ (a' := ?_) ?_ ?_
  rotate_left
  · show Act.put _ (some 47) _ = _
    simp only [Act.put, List.setIfInBounds_toArray, List.set_cons_zero, List.set_cons_succ, i64_w, i32_w]
    rfl
  refine one_ (i := 29) (N := some 48) #[true, true, true, true, true, true, true, true, true, true, true, true, true, true, true, true, true, true, true, true, true, true, true, true, true, true, true, true, true, true, false, false, false, false, false, false, false, false, false, false, false, false, false, false, false, false, false, false] rfl rfl (one_of HT_.out (by kernel_rfl)) (by decide) (fun K hK => ?_)
  refine goes_ Try.func17 rfl rfl #[.agg (FR .u64 5 (mulE (mulE (carr (ofL a0)) (carr (ofL a1))) (carr (ofL a2)))), .agg (FR .u64 5 (mulE (carr (ofL a0)) (mulE (carr (ofL a1)) (carr (ofL a2)))))] rfl rfl rfl (by simp only [List.map_toArray, List.map_cons, List.map_nil]; rfl) ((is_same (Fe.mul (Fe.mul (Fe.of _ HA0.out) (Fe.of _ HA1.out)) (Fe.of _ HA2.out)) (Fe.mul (Fe.of _ HA0.out) (Fe.mul (Fe.of _ HA1.out) (Fe.of _ HA2.out))) (by first | rfl | (congr 1; grind)) _).mono ?_)
  rintro e wc211 ⟨rfl, hb⟩
  have hSn : Row wc211 n6 .u64 5 (carr (ofL a0)) 27 ∧ Row wc211 n7 .u64 5 (carr (ofL a1)) 27 ∧ Row wc211 n8 .u64 5 (carr (ofL a2)) 27 := ⟨hHeld.1.below hb hHeld.1.lt, hHeld.2.1.below hb hHeld.2.1.lt, hHeld.2.2.below hb hHeld.2.2.lt⟩
  have HBc211 := Aside0.mk (HBc210.out.trans (hb.mono HBc210.out.size))
  clear hb
  refine ⟨_, rfl, hK.out _ _ hSn (fun hHeld => ?_)⟩
  clear hSn
  clear hK K
  refine norm_ (a' := ?_) ?_ ?_
  rotate_left
  · show Act.put _ (some 48) _ = _
    simp only [Act.put, List.setIfInBounds_toArray, List.set_cons_zero, List.set_cons_succ, i64_w, i32_w]
    rfl
  refine pure_ (i := 30) (N := some 49) (v := ?_) (a' := ?_) #[true, true, true, true, true, true, true, true, true, true, true, true, true, true, true, true, true, true, true, true, true, true, true, true, true, true, true, true, true, true, true, false, false, false, false, false, false, false, false, false, false, false, false, false, false, false, false, false] rfl rfl (any_of HT_.out (by kernel_rfl)) (fun _ _ _ h => h) (Or.inl ⟨by rfl, ?_⟩) ?_ ?_
  rotate_left
  · intro w'
    go_simp
    with_reducible rfl
  rotate_left
  · simp only [Act.put, List.setIfInBounds_toArray, List.set_cons_zero, List.set_cons_succ, i64_w, i32_w]
    rfl
  refine pure_ (i := 31) (N := some 50) (v := ?_) (a' := ?_) #[true, true, true, true, true, true, true, true, true, true, true, true, true, true, true, true, true, true, true, true, true, true, true, true, true, true, true, true, true, true, true, true, false, false, false, false, false, false, false, false, false, false, false, false, false, false, false, false] rfl rfl (any_of HT_.out (by kernel_rfl)) (fun _ _ _ h => h) (Or.inl ⟨by rfl, ?_⟩) ?_ ?_
  rotate_left
  · intro w'
    go_simp
    with_reducible rfl
  rotate_left
  · simp only [Act.put, List.setIfInBounds_toArray, List.set_cons_zero, List.set_cons_succ, i64_w, i32_w]
    rfl
  refine pure_ (i := 32) (N := some 51) (v := ?_) (a' := ?_) #[true, true, true, true, true, true, true, true, true, true, true, true, true, true, true, true, true, true, true, true, true, true, true, true, true, true, true, true, true, true, true, true, true, false, false, false, false, false, false, false, false, false, false, false, false, false, false, false] rfl rfl (any_of HT_.out (by kernel_rfl)) (fun _ _ _ h => h) (Or.inl ⟨by rfl, ?_⟩) ?_ ?_
  rotate_left
  · intro w'
    go_simp
    with_reducible rfl
  rotate_left
  · simp only [Act.put, List.setIfInBounds_toArray, List.set_cons_zero, List.set_cons_succ, i64_w, i32_w]
    rfl
  refine take_ (i := 33) (N := some 52) (v := ?_) (a' := ?_) #[true, true, true, true, true, true, true, true, true, true, true, true, true, true, true, true, true, true, true, true, true, true, true, true, true, true, true, true, true, true, true, true, true, true, false, false, false, false, false, false, false, false, false, false, false, false, false, false] rfl rfl (take_ofW HT_.out HW_.out (by kernel_rfl)) (fun _ _ _ h => h) (Or.inl ⟨by rfl, ?_⟩) hHeld ?_ ?_
  rotate_left
  · intro w' hsw
    refine exec_load (x := .tmp 7) hsw.1 Try.underlying27 info27 rfl ?_ ?_ <;> rfl
  rotate_left
  · simp only [Act.put, List.setIfInBounds_toArray, List.set_cons_zero, List.set_cons_succ, i64_w, i32_w]
    rfl
  refine take_ (i := 34) (N := some 53) (v := ?_) (a' := ?_) #[true, true, true, true, true, true, true, true, true, true, true, true, true, true, true, true, true, true, true, true, true, true, true, true, true, true, true, true, true, true, true, true, true, true, true, false, false, false, false, false, false, false, false, false, false, false, false, false] rfl rfl (take_ofW HT_.out HW_.out (by kernel_rfl)) (fun _ _ _ h => h) (Or.inl ⟨by rfl, ?_⟩) hHeld ?_ ?_
  rotate_left
  · intro w' hsw
    refine exec_load (x := .tmp 8) hsw.2.1 Try.underlying27 info27 rfl ?_ ?_ <;> rfl
  rotate_left
  · simp only [Act.put, List.setIfInBounds_toArray, List.set_cons_zero, List.set_cons_succ, i64_w, i32_w]
    rfl
  refine take_ (i := 36) (N := some 55) (v := ?_) (a' := ?_) #[true, true, true, true, true, true, true, true, true, true, true, true, true, true, true, true, true, true, true, true, true, true, true, true, true, true, true, true, true, true, true, true, true, true, true, false, true, false, false, false, false, false, false, false, false, false, false, false] rfl rfl (take_ofW HT_.out HW_.out (by kernel_rfl)) (fun _ _ _ h => h) (Or.inl ⟨by rfl, ?_⟩) hHeld ?_ ?_
  rotate_left
  · intro w' hsw
    refine exec_load (x := .tmp 9) hsw.2.2 Try.underlying27 info27 rfl ?_ ?_ <;> rfl
  rotate_left
  · simp only [Act.put, List.setIfInBounds_toArray, List.set_cons_zero, List.set_cons_succ, i64_w, i32_w]
    rfl
  refine take_ (i := 38) (N := some 57) (v := ?_) (a' := ?_) #[true, true, true, true, true, true, true, true, true, true, true, true, true, true, true, true, true, true, true, true, true, true, true, true, true, true, true, true, true, true, true, true, true, true, true, false, true, false, true, false, false, false, false, false, false, false, false, false] rfl rfl (take_ofW HT_.out HW_.out (by kernel_rfl)) (fun _ _ _ h => h) (Or.inl ⟨by rfl, ?_⟩) hHeld ?_ ?_
  rotate_left
  · intro w' hsw
    refine exec_load (x := .tmp 7) hsw.1 Try.underlying27 info27 rfl ?_ ?_ <;> rfl
  rotate_left
  · simp only [Act.put, List.setIfInBounds_toArray, List.set_cons_zero, List.set_cons_succ, i64_w, i32_w]
    rfl
  refine take_ (i := 39) (N := some 58) (v := ?_) (a' := ?_) #[true, true, true, true, true, true, true, true, true, true, true, true, true, true, true, true, true, true, true, true, true, true, true, true, true, true, true, true, true, true, true, true, true, true, true, false, true, false, true, true, false, false, false, false, false, false, false, false] rfl rfl (take_ofW HT_.out HW_.out (by kernel_rfl)) (fun _ _ _ h => h) (Or.inl ⟨by rfl, ?_⟩) hHeld ?_ ?_
  rotate_left
  · intro w' hsw
    refine exec_load (x := .tmp 9) hsw.2.2 Try.underlying27 info27 rfl ?_ ?_ <;> rfl
  rotate_left
  · simp only [Act.put, List.setIfInBounds_toArray, List.set_cons_zero, List.set_cons_succ, i64_w, i32_w]
    rfl
  refine take_ (i := 41) (N := some 60) (v := ?_) (a' := ?_) #[true, true, true, true, true, true, true, true, true, true, true, true, true, true, true, true, true, true, true, true, true, true, true, true, true, true, true, true, true, true, true, true, true, true, true, false, true, false, true, true, false, true, false, false, false, false, false, false] rfl rfl (take_ofW HT_.out HW_.out (by kernel_rfl)) (fun _ _ _ h => h) (Or.inl ⟨by rfl, ?_⟩) hHeld ?_ ?_
  rotate_left
  · intro w' hsw
    refine exec_load (x := .tmp 8) hsw.2.1 Try.underlying27 info27 rfl ?_ ?_ <;> rfl
  rotate_left
  · simp only [Act.put, List.setIfInBounds_toArray, List.set_cons_zero, List.set_cons_succ, i64_w, i32_w]
    rfl
  refine take_ (i := 42) (N := some 61) (v := ?_) (a' := ?_) #[true, true, true, true, true, true, true, true, true, true, true, true, true, true, true, true, true, true, true, true, true, true, true, true, true, true, true, true, true, true, true, true, true, true, true, false, true, false, true, true, false, true, true, false, false, false, false, false] rfl rfl (take_ofW HT_.out HW_.out (by kernel_rfl)) (fun _ _ _ h => h) (Or.inl ⟨by rfl, ?_⟩) hHeld ?_ ?_
  rotate_left
  · intro w' hsw
    refine exec_load (x := .tmp 9) hsw.2.2 Try.underlying27 info27 rfl ?_ ?_ <;> rfl
  rotate_left
  · simp only [Act.put, List.setIfInBounds_toArray, List.set_cons_zero, List.set_cons_succ, i64_w, i32_w]
    rfl
  refine one_ (i := 35) (N := some 54) #[true, true, true, true, true, true, true, true, true, true, true, true, true, true, true, true, true, true, true, true, true, true, true, true, true, true, true, true, true, true, true, true, true, true, true, true, true, false, true, true, false, true, true, false, false, false, false, false] rfl rfl (one_of HT_.out (by kernel_rfl)) (by decide) (fun K hK => ?_)
  refine goes_ Try.func20 rfl rfl #[.agg (FR .u64 5 (carr (ofL a0))), .agg (FR .u64 5 (carr (ofL a1)))] rfl rfl rfl (by simp only [List.map_toArray, List.map_cons, List.map_nil]; rfl) ((addE_c _ _ _ (Fe.of _ HA0.out).1 (Fe.of _ HA1.out).1).mono ?_)
  rintro e wc212 ⟨rfl, hb⟩
  have hSn : Row wc212 n6 .u64 5 (carr (ofL a0)) 27 ∧ Row wc212 n7 .u64 5 (carr (ofL a1)) 27 ∧ Row wc212 n8 .u64 5 (carr (ofL a2)) 27 := ⟨hHeld.1.below hb hHeld.1.lt, hHeld.2.1.below hb hHeld.2.1.lt, hHeld.2.2.below hb hHeld.2.2.lt⟩
  have HBc212 := Aside0.mk (HBc211.out.trans (hb.mono HBc211.out.size))
  clear hb
  refine ⟨_, rfl, hK.out _ _ hSn (fun hHeld => ?_)⟩
  clear hSn
  clear hK K
  refine norm_ (a' := ?_) ?_ ?_
  rotate_left
  · show Act.put _ (some 54) _ = _
    simp only [Act.put, List.setIfInBounds_toArray, List.set_cons_zero, List.set_cons_succ, i64_w, i32_w]
    rfl
  refine one_ (i := 37) (N := some 56) #[true, true, true, true, true, true, true, true, true, true, true, true, true, true, true, true, true, true, true, true, true, true, true, true, true, true, true, true, true, true, true, true, true, true, true, true, true, true, true, true, false, true, true, false, false, false, false, false] rfl rfl (one_of HT_.out (by kernel_rfl)) (by decide) (fun K hK => ?_)
  refine goes_ Try.func26 rfl rfl #[.agg (FR .u64 5 (addE (carr (ofL a0)) (carr (ofL a1)))), .agg (FR .u64 5 (carr (ofL a2)))] rfl rfl rfl (by simp only [List.map_toArray, List.map_cons, List.map_nil]; rfl) ((elem_mul_calls _ _ _ (Fe.add (Fe.of _ HA0.out) (Fe.of _ HA1.out)).1 (Fe.of _ HA2.out).1).mono ?_)
  rintro e wc213 ⟨rfl, hb⟩
  have hSn : Row wc213 n6 .u64 5 (carr (ofL a0)) 27 ∧ Row wc213 n7 .u64 5 (carr (ofL a1)) 27 ∧ Row wc213 n8 .u64 5 (carr (ofL a2)) 27 := ⟨hHeld.1.below hb hHeld.1.lt, hHeld.2.1.below hb hHeld.2.1.lt, hHeld.2.2.below hb hHeld.2.2.lt⟩
  have HBc213 := Aside0.mk (HBc212.out.trans (hb.mono HBc212.out.size))
  clear hb
  refine ⟨_, rfl, hK.out _ _ hSn (fun hHeld => ?_)⟩
  clear hSn
  clear hK K
  refine norm_ (a' := ?_) ?_ ?_
  rotate_left
  · show Act.put _ (some 56) _ = _
    simp only [Act.put, List.setIfInBounds_toArray, List.set_cons_zero, List.set_cons_succ, i64_w, i32_w]
    rfl
  refine one_ (i := 40) (N := some 59) #[true, true, true, true, true, true, true, true, true, true, true, true, true, true, true, true, true, true, true, true, true, true, true, true, true, true, true, true, true, true, true, true, true, true, true, true, true, true, true, true, true, true, true, false, false, false, false, false] rfl rfl (one_of HT_.out (by kernel_rfl)) (by decide) (fun K hK => ?_)
  refine goes_ Try.func26 rfl rfl #[.agg (FR .u64 5 (carr (ofL a0))), .agg (FR .u64 5 (carr (ofL a2)))] rfl rfl rfl (by simp only [List.map_toArray, List.map_cons, List.map_nil]; rfl) ((elem_mul_calls _ _ _ (Fe.of _ HA0.out).1 (Fe.of _ HA2.out).1).mono ?_)
  rintro e wc214 ⟨rfl, hb⟩
  have hSn : Row wc214 n6 .u64 5 (carr (ofL a0)) 27 ∧ Row wc214 n7 .u64 5 (carr (ofL a1)) 27 ∧ Row wc214 n8 .u64 5 (carr (ofL a2)) 27 := ⟨hHeld.1.below hb hHeld.1.lt, hHeld.2.1.below hb hHeld.2.1.lt, hHeld.2.2.below hb hHeld.2.2.lt⟩
  have HBc214 := Aside0.mk (HBc213.out.trans (hb.mono HBc213.out.size))
  clear hb
  refine ⟨_, rfl, hK.out _ _ hSn (fun hHeld => ?_)⟩
  clear hSn
  clear hK K
  refine norm_ (a' := ?_) ?_ ?_
  rotate_left
  · show Act.put _ (some 59) _ = _
    simp only [Act.put, List.setIfInBounds_toArray, List.set_cons_zero, List.set_cons_succ, i64_w, i32_w]
    rfl
  refine one_ (i := 43) (N := some 62) #[true, true, true, true, true, true, true, true, true, true, true, true, true, true, true, true, true, true, true, true, true, true, true, true, true, true, true, true, true, true, true, true, true, true, true, true, true, true, true, true, true, true, true, true, false, false, false, false] rfl rfl (one_of HT_.out (by kernel_rfl)) (by decide) (fun K hK => ?_)
  refine goes_ Try.func26 rfl rfl #[.agg (FR .u64 5 (carr (ofL a1))), .agg (FR .u64 5 (carr (ofL a2)))] rfl rfl rfl (by simp only [List.map_toArray, List.map_cons, List.map_nil]; rfl) ((elem_mul_calls _ _ _ (Fe.of _ HA1.out).1 (Fe.of _ HA2.out).1).mono ?_)
  rintro e wc215 ⟨rfl, hb⟩
  have hSn : Row wc215 n6 .u64 5 (carr (ofL a0)) 27 ∧ Row wc215 n7 .u64 5 (carr (ofL a1)) 27 ∧ Row wc215 n8 .u64 5 (carr (ofL a2)) 27 := ⟨hHeld.1.below hb hHeld.1.lt, hHeld.2.1.below hb hHeld.2.1.lt, hHeld.2.2.below hb hHeld.2.2.lt⟩
  have HBc215 := Aside0.mk (HBc214.out.trans (hb.mono HBc214.out.size))
  clear hb
  refine ⟨_, rfl, hK.out _ _ hSn (fun hHeld => ?_)⟩
  clear hSn
  clear hK K
  refine norm_ (a' := ?_) ?_ ?_
  rotate_left
  · show Act.put _ (some 62) _ = _
    simp only [Act.put, List.setIfInBounds_toArray, List.set_cons_zero, List.set_cons_succ, i64_w, i32_w]
    rfl
  refine one_ (i := 44) (N := some 63) #[true, true, true, true, true, true, true, true, true, true, true, true, true, true, true, true, true, true, true, true, true, true, true, true, true, true, true, true, true, true, true, true, true, true, true, true, true, true, true, true, true, true, true, true, true, false, false, false] rfl rfl (one_of HT_.out (by kernel_rfl)) (by decide) (fun K hK => ?_)
  refine goes_ Try.func20 rfl rfl #[.agg (FR .u64 5 (mulE (carr (ofL a0)) (carr (ofL a2)))), .agg (FR .u64 5 (mulE (carr (ofL a1)) (carr (ofL a2))))] rfl rfl rfl (by simp only [List.map_toArray, List.map_cons, List.map_nil]; rfl) ((addE_c _ _ _ (Fe.mul (Fe.of _ HA0.out) (Fe.of _ HA2.out)).1 (Fe.mul (Fe.of _ HA1.out) (Fe.of _ HA2.out)).1).mono ?_)
  rintro e wc216 ⟨rfl, hb⟩
  have hSn : Row wc216 n6 .u64 5 (carr (ofL a0)) 27 ∧ Row wc216 n7 .u64 5 (carr (ofL a1)) 27 ∧ Row wc216 n8 .u64 5 (carr (ofL a2)) 27 := ⟨hHeld.1.below hb hHeld.1.lt, hHeld.2.1.below hb hHeld.2.1.lt, hHeld.2.2.below hb hHeld.2.2.lt⟩
  have HBc216 := Aside0.mk (HBc215.out.trans (hb.mono HBc215.out.size))
  clear hb
  refine ⟨_, rfl, hK.out _ _ hSn (fun hHeld => ?_)⟩
  clear hSn
  clear hK K
  refine norm_ (a' := ?_) ?_ ?_
  rotate_left
  · show Act.put _ (some 63) _ = _
    simp only [Act.put, List.setIfInBounds_toArray, List.set_cons_zero, List.set_cons_succ, i64_w, i32_w]
    rfl
  refine one_ (i := 45) (N := some 64) #[true, true, true, true, true, true, true, true, true, true, true, true, true, true, true, true, true, true, true, true, true, true, true, true, true, true, true, true, true, true, true, true, true, true, true, true, true, true, true, true, true, true, true, true, true, true, false, false] rfl rfl (one_of HT_.out (by kernel_rfl)) (by decide) (fun K hK => ?_)
  refine goes_ Try.func17 rfl rfl #[.agg (FR .u64 5 (mulE (addE (carr (ofL a0)) (carr (ofL a1))) (carr (ofL a2)))), .agg (FR .u64 5 (addE (mulE (carr (ofL a0)) (carr (ofL a2))) (mulE (carr (ofL a1)) (carr (ofL a2)))))] rfl rfl rfl (by simp only [List.map_toArray, List.map_cons, List.map_nil]; rfl) ((is_same (Fe.mul (Fe.add (Fe.of _ HA0.out) (Fe.of _ HA1.out)) (Fe.of _ HA2.out)) (Fe.add (Fe.mul (Fe.of _ HA0.out) (Fe.of _ HA2.out)) (Fe.mul (Fe.of _ HA1.out) (Fe.of _ HA2.out))) (by first | rfl | (congr 1; grind)) _).mono ?_)
  rintro e wc217 ⟨rfl, hb⟩
  have hSn : Row wc217 n6 .u64 5 (carr (ofL a0)) 27 ∧ Row wc217 n7 .u64 5 (carr (ofL a1)) 27 ∧ Row wc217 n8 .u64 5 (carr (ofL a2)) 27 := ⟨hHeld.1.below hb hHeld.1.lt, hHeld.2.1.below hb hHeld.2.1.lt, hHeld.2.2.below hb hHeld.2.2.lt⟩
  have HBc217 := Aside0.mk (HBc216.out.trans (hb.mono HBc216.out.size))
  clear hb
  refine ⟨_, rfl, hK.out _ _ hSn (fun hHeld => ?_)⟩
  clear hSn
  clear hK K
  refine norm_ (a' := ?_) ?_ ?_
  rotate_left
  · show Act.put _ (some 64) _ = _
    simp only [Act.put, List.setIfInBounds_toArray, List.set_cons_zero, List.set_cons_succ, i64_w, i32_w]
    rfl
  refine pure_ (i := 46) (N := some 65) (v := ?_) (a' := ?_) #[true, true, true, true, true, true, true, true, true, true, true, true, true, true, true, true, true, true, true, true, true, true, true, true, true, true, true, true, true, true, true, true, true, true, true, true, true, true, true, true, true, true, true, true, true, true, true, false] rfl rfl (any_of HT_.out (by kernel_rfl)) (fun _ _ _ h => h) (Or.inl ⟨by rfl, ?_⟩) ?_ ?_
  rotate_left
  · intro w'
    go_simp
    with_reducible rfl
  rotate_left
  · simp only [Act.put, List.setIfInBounds_toArray, List.set_cons_zero, List.set_cons_succ, i64_w, i32_w]
    rfl
  refine pure_ (i := 47) (N := some 66) (v := ?_) (a' := ?_) #[true, true, true, true, true, true, true, true, true, true, true, true, true, true, true, true, true, true, true, true, true, true, true, true, true, true, true, true, true, true, true, true, true, true, true, true, true, true, true, true, true, true, true, true, true, true, true, true] rfl rfl (any_of HT_.out (by kernel_rfl)) (fun _ _ _ h => h) (Or.inl ⟨by rfl, ?_⟩) ?_ ?_
  rotate_left
  · intro w'
    go_simp
    with_reducible rfl
  rotate_left
  · simp only [Act.put, List.setIfInBounds_toArray, List.set_cons_zero, List.set_cons_succ, i64_w, i32_w]
    rfl
  refine done_ (done_of HT_.out (by kernel_rfl)) ?_
  have HXX := Aside0.mk hHeld
  have HNW := Aside0.mk (Row.new wc217 .u64 5 (fun _ => 0) 27)
  have HBA := Aside0.mk (HBc217.out.alloc HBc217.out.size (.cells (FR .u64 5 fun _ => 0) 27))
  have hws2 := HBc217.out.size
  clear hHeld HT_ HW_ hws
  go_wp2_with (refine step_storeG (fun _ => 0) HNW.out info27 rfl rfl rfl rfl rfl ?_; intro w8 hs hr; have HS8 := Aside0.mk hs; have HX10 := Aside0.mk hr; clear hs hr)
  have x6 : Row w8 n6 .u64 5 (carr (ofL a0)) 27 := (HXX.out.1.alloc _).stored HS8.out (show n6 ≠ wc217.heap.size by have := HXX.out.1.lt; omega)
  have x7 : Row w8 n7 .u64 5 (carr (ofL a1)) 27 := (HXX.out.2.1.alloc _).stored HS8.out (show n7 ≠ wc217.heap.size by have := HXX.out.2.1.lt; omega)
  have x8 : Row w8 n8 .u64 5 (carr (ofL a2)) 27 := (HXX.out.2.2.alloc _).stored HS8.out (show n8 ≠ wc217.heap.size by have := HXX.out.2.2.lt; omega)
  have hh : Row w8.drew n6 .u64 5 (carr (ofL a0)) 27 ∧ Row w8.drew n7 .u64 5 (carr (ofL a1)) 27 ∧ Row w8.drew n8 .u64 5 (carr (ofL a2)) 27 ∧ Row w8.drew wc217.heap.size .u64 5 (fun _ => 0) 27 := ⟨x6, x7, x8, HX10.out⟩
  clear x6 x7 x8
  have HBg := Aside0.mk (HS8.out.bel _ _ (by omega) HBA.out).drew
  clear HXX HNW HBA HS8 HX10
  refine start_ (n := 34) (S := (fun w' => Row w' n6 .u64 5 (carr (ofL a0)) 27 ∧ Row w' n7 .u64 5 (carr (ofL a1)) 27 ∧ Row w' n8 .u64 5 (carr (ofL a2)) 27 ∧ Row w' wc217.heap.size .u64 5 (fun _ => 0) 27)) (ds := []) #[false, false, false, false, false, false, false, false, false, false, false, false, false, false, false, false, false, false, false, false, false, false, false, false, false, false, false, false, false, false, false, false, false, false] (by kernel_rfl) rfl rfl hh (fun hHeld => ?_); refine with_tabW tab907 bits907 (fun HT_ HW_ => ?_)
  generalize w8.drew = w9 at HBg hHeld hh ⊢
  clear hh
  refine take_ (i := 0) (N := some 68) (v := ?_) (a' := ?_) #[true, false, false, false, false, false, false, false, false, false, false, false, false, false, false, false, false, false, false, false, false, false, false, false, false, false, false, false, false, false, false, false, false, false] rfl rfl (take_ofW HT_.out HW_.out (by kernel_rfl)) (fun _ _ _ h => h) (Or.inl ⟨by rfl, ?_⟩) hHeld ?_ ?_
  rotate_left
  · intro w' hsw
    refine exec_load (x := .tmp 7) hsw.1 Try.underlying27 info27 rfl ?_ ?_ <;> rfl
  rotate_left
  · simp only [Act.put, List.setIfInBounds_toArray, List.set_cons_zero, List.set_cons_succ, i64_w, i32_w]
    rfl
  refine take_ (i := 1) (N := some 69) (v := ?_) (a' := ?_) #[true, true, false, false, false, false, false, false, false, false, false, false, false, false, false, false, false, false, false, false, false, false, false, false, false, false, false, false, false, false, false, false, false, false] rfl rfl (take_ofW HT_.out HW_.out (by kernel_rfl)) (fun _ _ _ h => h) (Or.inl ⟨by rfl, ?_⟩) hHeld ?_ ?_
  rotate_left
  · intro w' hsw
    refine exec_load (x := .tmp 8) hsw.2.1 Try.underlying27 info27 rfl ?_ ?_ <;> rfl
  rotate_left
  · simp only [Act.put, List.setIfInBounds_toArray, List.set_cons_zero, List.set_cons_succ, i64_w, i32_w]
    rfl
  refine take_ (i := 3) (N := some 71) (v := ?_) (a' := ?_) #[true, true, false, true, false, false, false, false, false, false, false, false, false, false, false, false, false, false, false, false, false, false, false, false, false, false, false, false, false, false, false, false, false, false] rfl rfl (take_ofW HT_.out HW_.out (by kernel_rfl)) (fun _ _ _ h => h) (Or.inl ⟨by rfl, ?_⟩) hHeld ?_ ?_
  rotate_left
  · intro w' hsw
    refine exec_load (x := .tmp 8) hsw.2.1 Try.underlying27 info27 rfl ?_ ?_ <;> rfl
  rotate_left
  · simp only [Act.put, List.setIfInBounds_toArray, List.set_cons_zero, List.set_cons_succ, i64_w, i32_w]
    rfl
  refine take_ (i := 5) (N := some 73) (v := ?_) (a' := ?_) #[true, true, false, true, false, true, false, false, false, false, false, false, false, false, false, false, false, false, false, false, false, false, false, false, false, false, false, false, false, false, false, false, false, false] rfl rfl (take_ofW HT_.out HW_.out (by kernel_rfl)) (fun _ _ _ h => h) (Or.inl ⟨by rfl, ?_⟩) hHeld ?_ ?_
  rotate_left
  · intro w' hsw
    refine exec_load (x := .tmp 7) hsw.1 Try.underlying27 info27 rfl ?_ ?_ <;> rfl
  rotate_left
  · simp only [Act.put, List.setIfInBounds_toArray, List.set_cons_zero, List.set_cons_succ, i64_w, i32_w]
    rfl
  refine one_ (i := 2) (N := some 70) #[true, true, true, true, false, true, false, false, false, false, false, false, false, false, false, false, false, false, false, false, false, false, false, false, false, false, false, false, false, false, false, false, false, false] rfl rfl (one_of HT_.out (by kernel_rfl)) (by decide) (fun K hK => ?_)
  refine goes_ Try.func20 rfl rfl #[.agg (FR .u64 5 (carr (ofL a0))), .agg (FR .u64 5 (carr (ofL a1)))] rfl rfl rfl (by simp only [List.map_toArray, List.map_cons, List.map_nil]; rfl) ((addE_c _ _ _ (Fe.of _ HA0.out).1 (Fe.of _ HA1.out).1).mono ?_)
  rintro e wc401 ⟨rfl, hb⟩
  have hSn : Row wc401 n6 .u64 5 (carr (ofL a0)) 27 ∧ Row wc401 n7 .u64 5 (carr (ofL a1)) 27 ∧ Row wc401 n8 .u64 5 (carr (ofL a2)) 27 ∧ Row wc401 wc217.heap.size .u64 5 (fun _ => 0) 27 := ⟨hHeld.1.below hb hHeld.1.lt, hHeld.2.1.below hb hHeld.2.1.lt, hHeld.2.2.1.below hb hHeld.2.2.1.lt, hHeld.2.2.2.below hb hHeld.2.2.2.lt⟩
  have HBc401 := Aside0.mk (HBg.out.trans (hb.mono HBg.out.size))
  clear hb
  refine ⟨_, rfl, hK.out _ _ hSn (fun hHeld => ?_)⟩
  clear hSn
  clear hK K
  refine norm_ (a' := ?_) ?_ ?_
  rotate_left
  · show Act.put _ (some 70) _ = _
    simp only [Act.put, List.setIfInBounds_toArray, List.set_cons_zero, List.set_cons_succ, i64_w, i32_w]
    rfl
  refine one_ (i := 4) (N := some 72) #[true, true, true, true, true, true, false, false, false, false, false, false, false, false, false, false, false, false, false, false, false, false, false, false, false, false, false, false, false, false, false, false, false, false] rfl rfl (one_of HT_.out (by kernel_rfl)) (by decide) (fun K hK => ?_)
  refine goes_ Try.func22 rfl rfl #[.agg (FR .u64 5 (addE (carr (ofL a0)) (carr (ofL a1)))), .agg (FR .u64 5 (carr (ofL a1)))] rfl rfl rfl (by simp only [List.map_toArray, List.map_cons, List.map_nil]; rfl) ((subE_c _ _ _ (Fe.add (Fe.of _ HA0.out) (Fe.of _ HA1.out)).1 (Fe.of _ HA1.out).1).mono ?_)
  rintro e wc402 ⟨rfl, hb⟩
  have hSn : Row wc402 n6 .u64 5 (carr (ofL a0)) 27 ∧ Row wc402 n7 .u64 5 (carr (ofL a1)) 27 ∧ Row wc402 n8 .u64 5 (carr (ofL a2)) 27 ∧ Row wc402 wc217.heap.size .u64 5 (fun _ => 0) 27 := ⟨hHeld.1.below hb hHeld.1.lt, hHeld.2.1.below hb hHeld.2.1.lt, hHeld.2.2.1.below hb hHeld.2.2.1.lt, hHeld.2.2.2.below hb hHeld.2.2.2.lt⟩
  have HBc402 := Aside0.mk (HBc401.out.trans (hb.mono HBc401.out.size))
  clear hb
  refine ⟨_, rfl, hK.out _ _ hSn (fun hHeld => ?_)⟩
  clear hSn
  clear hK K
  refine norm_ (a' := ?_) ?_ ?_
  rotate_left
  · show Act.put _ (some 72) _ = _
    simp only [Act.put, List.setIfInBounds_toArray, List.set_cons_zero, List.set_cons_succ, i64_w, i32_w]
    rfl
  refine one_ (i := 6) (N := some 74) #[true, true, true, true, true, true, true, false, false, false, false, false, false, false, false, false, false, false, false, false, false, false, false, false, false, false, false, false, false, false, false, false, false, false] rfl rfl (one_of HT_.out (by kernel_rfl)) (by decide) (fun K hK => ?_)
  refine goes_ Try.func17 rfl rfl #[.agg (FR .u64 5 (subE (addE (carr (ofL a0)) (carr (ofL a1))) (carr (ofL a1)))), .agg (FR .u64 5 (carr (ofL a0)))] rfl rfl rfl (by simp only [List.map_toArray, List.map_cons, List.map_nil]; rfl) ((is_same (Fe.sub (Fe.add (Fe.of _ HA0.out) (Fe.of _ HA1.out)) (Fe.of _ HA1.out)) (Fe.of _ HA0.out) (by first | rfl | (congr 1; grind)) _).mono ?_)
  rintro e wc403 ⟨rfl, hb⟩
  have hSn : Row wc403 n6 .u64 5 (carr (ofL a0)) 27 ∧ Row wc403 n7 .u64 5 (carr (ofL a1)) 27 ∧ Row wc403 n8 .u64 5 (carr (ofL a2)) 27 ∧ Row wc403 wc217.heap.size .u64 5 (fun _ => 0) 27 := ⟨hHeld.1.below hb hHeld.1.lt, hHeld.2.1.below hb hHeld.2.1.lt, hHeld.2.2.1.below hb hHeld.2.2.1.lt, hHeld.2.2.2.below hb hHeld.2.2.2.lt⟩
  have HBc403 := Aside0.mk (HBc402.out.trans (hb.mono HBc402.out.size))
  clear hb
  refine ⟨_, rfl, hK.out _ _ hSn (fun hHeld => ?_)⟩
  clear hSn
  clear hK K
  refine norm_ (a' := ?_) ?_ ?_
  rotate_left
  · show Act.put _ (some 74) _ = _
    simp only [Act.put, List.setIfInBounds_toArray, List.set_cons_zero, List.set_cons_succ, i64_w, i32_w]
    rfl
  refine pure_ (i := 7) (N := some 75) (v := ?_) (a' := ?_) #[true, true, true, true, true, true, true, true, false, false, false, false, false, false, false, false, false, false, false, false, false, false, false, false, false, false, false, false, false, false, false, false, false, false] rfl rfl (any_of HT_.out (by kernel_rfl)) (fun _ _ _ h => h) (Or.inl ⟨by rfl, ?_⟩) ?_ ?_
  rotate_left
  · intro w'
    go_simp
    with_reducible rfl
  rotate_left
  · simp only [Act.put, List.setIfInBounds_toArray, List.set_cons_zero, List.set_cons_succ, i64_w, i32_w]
    rfl
  refine take_ (i := 8) (N := some 76) (v := ?_) (a' := ?_) #[true, true, true, true, true, true, true, true, true, false, false, false, false, false, false, false, false, false, false, false, false, false, false, false, false, false, false, false, false, false, false, false, false, false] rfl rfl (take_ofW HT_.out HW_.out (by kernel_rfl)) (fun _ _ _ h => h) (Or.inl ⟨by rfl, ?_⟩) hHeld ?_ ?_
  rotate_left
  · intro w' hsw
    refine exec_load (x := .tmp 7) hsw.1 Try.underlying27 info27 rfl ?_ ?_ <;> rfl
  rotate_left
  · simp only [Act.put, List.setIfInBounds_toArray, List.set_cons_zero, List.set_cons_succ, i64_w, i32_w]
    rfl
  refine take_ (i := 9) (N := some 77) (v := ?_) (a' := ?_) #[true, true, true, true, true, true, true, true, true, true, false, false, false, false, false, false, false, false, false, false, false, false, false, false, false, false, false, false, false, false, false, false, false, false] rfl rfl (take_ofW HT_.out HW_.out (by kernel_rfl)) (fun _ _ _ h => h) (Or.inl ⟨by rfl, ?_⟩) hHeld ?_ ?_
  rotate_left
  · intro w' hsw
    refine exec_load (x := .tmp 7) hsw.1 Try.underlying27 info27 rfl ?_ ?_ <;> rfl
  rotate_left
  · simp only [Act.put, List.setIfInBounds_toArray, List.set_cons_zero, List.set_cons_succ, i64_w, i32_w]
    rfl
  refine take_ (i := 12) (N := some 80) (v := ?_) (a' := ?_) #[true, true, true, true, true, true, true, true, true, true, false, false, true, false, false, false, false, false, false, false, false, false, false, false, false, false, false, false, false, false, false, false, false, false] rfl rfl (take_ofW HT_.out HW_.out (by kernel_rfl)) (fun _ _ _ h => h) (Or.inl ⟨by rfl, ?_⟩) hHeld ?_ ?_
  rotate_left
  · intro w' hsw
    refine exec_load (x := .tmp 10) hsw.2.2.2 Try.underlying27 info27 rfl ?_ ?_ <;> rfl
  rotate_left
  · simp only [Act.put, List.setIfInBounds_toArray, List.set_cons_zero, List.set_cons_succ, i64_w, i32_w]
    rfl
  refine one_ (i := 10) (N := some 78) #[true, true, true, true, true, true, true, true, true, true, true, false, true, false, false, false, false, false, false, false, false, false, false, false, false, false, false, false, false, false, false, false, false, false] rfl rfl (one_of HT_.out (by kernel_rfl)) (by decide) (fun K hK => ?_)
  refine goes_ Try.func24 rfl rfl #[.agg (FR .u64 5 (carr (ofL a0)))] rfl rfl rfl (by simp only [List.map_toArray, List.map_cons, List.map_nil]; rfl) ((negE_c _ _ (Fe.of _ HA0.out).1).mono ?_)
  rintro e wc404 ⟨rfl, hb⟩
  have hSn : Row wc404 n6 .u64 5 (carr (ofL a0)) 27 ∧ Row wc404 n7 .u64 5 (carr (ofL a1)) 27 ∧ Row wc404 n8 .u64 5 (carr (ofL a2)) 27 ∧ Row wc404 wc217.heap.size .u64 5 (fun _ => 0) 27 := ⟨hHeld.1.below hb hHeld.1.lt, hHeld.2.1.below hb hHeld.2.1.lt, hHeld.2.2.1.below hb hHeld.2.2.1.lt, hHeld.2.2.2.below hb hHeld.2.2.2.lt⟩
  have HBc404 := Aside0.mk (HBc403.out.trans (hb.mono HBc403.out.size))
  clear hb
  refine ⟨_, rfl, hK.out _ _ hSn (fun hHeld => ?_)⟩
  clear hSn
  clear hK K
  refine norm_ (a' := ?_) ?_ ?_
  rotate_left
  · show Act.put _ (some 78) _ = _
    simp only [Act.put, List.setIfInBounds_toArray, List.set_cons_zero, List.set_cons_succ, i64_w, i32_w]
    rfl
  refine one_ (i := 11) (N := some 79) #[true, true, true, true, true, true, true, true, true, true, true, true, true, false, false, false, false, false, false, false, false, false, false, false, false, false, false, false, false, false, false, false, false, false] rfl rfl (one_of HT_.out (by kernel_rfl)) (by decide) (fun K hK => ?_)
  refine goes_ Try.func20 rfl rfl #[.agg (FR .u64 5 (carr (ofL a0))), .agg (FR .u64 5 (negE (carr (ofL a0))))] rfl rfl rfl (by simp only [List.map_toArray, List.map_cons, List.map_nil]; rfl) ((addE_c _ _ _ (Fe.of _ HA0.out).1 (Fe.neg (Fe.of _ HA0.out)).1).mono ?_)
  rintro e wc405 ⟨rfl, hb⟩
  have hSn : Row wc405 n6 .u64 5 (carr (ofL a0)) 27 ∧ Row wc405 n7 .u64 5 (carr (ofL a1)) 27 ∧ Row wc405 n8 .u64 5 (carr (ofL a2)) 27 ∧ Row wc405 wc217.heap.size .u64 5 (fun _ => 0) 27 := ⟨hHeld.1.below hb hHeld.1.lt, hHeld.2.1.below hb hHeld.2.1.lt, hHeld.2.2.1.below hb hHeld.2.2.1.lt, hHeld.2.2.2.below hb hHeld.2.2.2.lt⟩
  have HBc405 := Aside0.mk (HBc404.out.trans (hb.mono HBc404.out.size))
  clear hb
  refine ⟨_, rfl, hK.out _ _ hSn (fun hHeld => ?_)⟩
  clear hSn
  clear hK K
  refine norm_ (a' := ?_) ?_ ?_
  rotate_left
  · show Act.put _ (some 79) _ = _
    simp only [Act.put, List.setIfInBounds_toArray, List.set_cons_zero, List.set_cons_succ, i64_w, i32_w]
    rfl
  refine one_ (i := 13) (N := some 81) #[true, true, true, true, true, true, true, true, true, true, true, true, true, true, false, false, false, false, false, false, false, false, false, false, false, false, false, false, false, false, false, false, false, false] rfl rfl (one_of HT_.out (by kernel_rfl)) (by decide) (fun K hK => ?_)
  refine goes_ Try.func17 rfl rfl #[.agg (FR .u64 5 (addE (carr (ofL a0)) (negE (carr (ofL a0))))), .agg (FR .u64 5 (fun _ => 0))] rfl rfl rfl (by simp only [List.map_toArray, List.map_cons, List.map_nil]; rfl) ((is_same (Fe.add (Fe.of _ HA0.out) (Fe.neg (Fe.of _ HA0.out))) (Fe.zero) (by first | rfl | (congr 1; grind)) _).mono ?_)
  rintro e wc406 ⟨rfl, hb⟩
  have hSn : Row wc406 n6 .u64 5 (carr (ofL a0)) 27 ∧ Row wc406 n7 .u64 5 (carr (ofL a1)) 27 ∧ Row wc406 n8 .u64 5 (carr (ofL a2)) 27 ∧ Row wc406 wc217.heap.size .u64 5 (fun _ => 0) 27 := ⟨hHeld.1.below hb hHeld.1.lt, hHeld.2.1.below hb hHeld.2.1.lt, hHeld.2.2.1.below hb hHeld.2.2.1.lt, hHeld.2.2.2.below hb hHeld.2.2.2.lt⟩
  have HBc406 := Aside0.mk (HBc405.out.trans (hb.mono HBc405.out.size))
  clear hb
  refine ⟨_, rfl, hK.out _ _ hSn (fun hHeld => ?_)⟩
  clear hSn
  clear hK K
  refine norm_ (a' := ?_) ?_ ?_
  rotate_left
  · show Act.put _ (some 81) _ = _
    simp only [Act.put, List.setIfInBounds_toArray, List.set_cons_zero, List.set_cons_succ, i64_w, i32_w]
    rfl
  refine pure_ (i := 14) (N := some 82) (v := ?_) (a' := ?_) #[true, true, true, true, true, true, true, true, true, true, true, true, true, true, true, false, false, false, false, false, false, false, false, false, false, false, false, false, false, false, false, false, false, false] rfl rfl (any_of HT_.out (by kernel_rfl)) (fun _ _ _ h => h) (Or.inl ⟨by rfl, ?_⟩) ?_ ?_
  rotate_left
  · intro w'
    go_simp
    with_reducible rfl
  rotate_left
  · simp only [Act.put, List.setIfInBounds_toArray, List.set_cons_zero, List.set_cons_succ, i64_w, i32_w]
    rfl
  refine pure_ (i := 15) (N := some 83) (v := ?_) (a' := ?_) #[true, true, true, true, true, true, true, true, true, true, true, true, true, true, true, true, false, false, false, false, false, false, false, false, false, false, false, false, false, false, false, false, false, false] rfl rfl (any_of HT_.out (by kernel_rfl)) (fun _ _ _ h => h) (Or.inl ⟨by rfl, ?_⟩) ?_ ?_
  rotate_left
  · intro w'
    go_simp
    with_reducible rfl
  rotate_left
  · simp only [Act.put, List.setIfInBounds_toArray, List.set_cons_zero, List.set_cons_succ, i64_w, i32_w]
    rfl
  refine take_ (i := 16) (N := some 84) (v := ?_) (a' := ?_) #[true, true, true, true, true, true, true, true, true, true, true, true, true, true, true, true, true, false, false, false, false, false, false, false, false, false, false, false, false, false, false, false, false, false] rfl rfl (take_ofW HT_.out HW_.out (by kernel_rfl)) (fun _ _ _ h => h) (Or.inl ⟨by rfl, ?_⟩) hHeld ?_ ?_
  rotate_left
  · intro w' hsw
    refine exec_load (x := .tmp 7) hsw.1 Try.underlying27 info27 rfl ?_ ?_ <;> rfl
  rotate_left
  · simp only [Act.put, List.setIfInBounds_toArray, List.set_cons_zero, List.set_cons_succ, i64_w, i32_w]
    rfl
  refine take_ (i := 17) (N := some 85) (v := ?_) (a' := ?_) #[true, true, true, true, true, true, true, true, true, true, true, true, true, true, true, true, true, true, false, false, false, false, false, false, false, false, false, false, false, false, false, false, false, false] rfl rfl (take_ofW HT_.out HW_.out (by kernel_rfl)) (fun _ _ _ h => h) (Or.inl ⟨by rfl, ?_⟩) hHeld ?_ ?_
  rotate_left
  · intro w' hsw
    refine exec_load (x := .tmp 7) hsw.1 Try.underlying27 info27 rfl ?_ ?_ <;> rfl
  rotate_left
  · simp only [Act.put, List.setIfInBounds_toArray, List.set_cons_zero, List.set_cons_succ, i64_w, i32_w]
    rfl
  refine take_ (i := 22) (N := some 90) (v := ?_) (a' := ?_) #[true, true, true, true, true, true, true, true, true, true, true, true, true, true, true, true, true, true, false, false, false, false, true, false, false, false, false, false, false, false, false, false, false, false] rfl rfl (take_ofW HT_.out HW_.out (by kernel_rfl)) (fun _ _ _ h => h) (Or.inl ⟨by rfl, ?_⟩) hHeld ?_ ?_
  rotate_left
  · intro w' hsw
    refine exec_load (x := .tmp 7) hsw.1 Try.underlying27 info27 rfl ?_ ?_ <;> rfl
  rotate_left
  · simp only [Act.put, List.setIfInBounds_toArray, List.set_cons_zero, List.set_cons_succ, i64_w, i32_w]
    rfl
  refine take_ (i := 23) (N := some 91) (v := ?_) (a' := ?_) #[true, true, true, true, true, true, true, true, true, true, true, true, true, true, true, true, true, true, false, false, false, false, true, true, false, false, false, false, false, false, false, false, false, false] rfl rfl (take_ofW HT_.out HW_.out (by kernel_rfl)) (fun _ _ _ h => h) (Or.inl ⟨by rfl, ?_⟩) hHeld ?_ ?_
  rotate_left
  · intro w' hsw
    refine exec_load (x := .tmp 10) hsw.2.2.2 Try.underlying27 info27 rfl ?_ ?_ <;> rfl
  rotate_left
  · simp only [Act.put, List.setIfInBounds_toArray, List.set_cons_zero, List.set_cons_succ, i64_w, i32_w]
    rfl
  refine one_ (i := 18) (N := some 86) #[true, true, true, true, true, true, true, true, true, true, true, true, true, true, true, true, true, true, true, false, false, false, true, true, false, false, false, false, false, false, false, false, false, false] rfl rfl (one_of HT_.out (by kernel_rfl)) (by decide) (fun K hK => ?_)
  refine goes_ Try.func30 rfl rfl #[.agg (FR .u64 5 (carr (ofL a0)))] rfl rfl rfl (by simp only [List.map_toArray, List.map_cons, List.map_nil]; rfl) ((invE_calls _ _ (Fe.of _ HA0.out).1).mono ?_)
  rintro e wc407 ⟨rfl, hb⟩
  have hSn : Row wc407 n6 .u64 5 (carr (ofL a0)) 27 ∧ Row wc407 n7 .u64 5 (carr (ofL a1)) 27 ∧ Row wc407 n8 .u64 5 (carr (ofL a2)) 27 ∧ Row wc407 wc217.heap.size .u64 5 (fun _ => 0) 27 := ⟨hHeld.1.below hb hHeld.1.lt, hHeld.2.1.below hb hHeld.2.1.lt, hHeld.2.2.1.below hb hHeld.2.2.1.lt, hHeld.2.2.2.below hb hHeld.2.2.2.lt⟩
  have HBc407 := Aside0.mk (HBc406.out.trans (hb.mono HBc406.out.size))
  clear hb
  refine ⟨_, rfl, hK.out _ _ hSn (fun hHeld => ?_)⟩
  clear hSn
  clear hK K
  refine norm_ (a' := ?_) ?_ ?_
  rotate_left
  · show Act.put _ (some 86) _ = _
    simp only [Act.put, List.setIfInBounds_toArray, List.set_cons_zero, List.set_cons_succ, i64_w, i32_w]
    rfl
  refine one_ (i := 19) (N := some 87) #[true, true, true, true, true, true, true, true, true, true, true, true, true, true, true, true, true, true, true, true, false, false, true, true, false, false, false, false, false, false, false, false, false, false] rfl rfl (one_of HT_.out (by kernel_rfl)) (by decide) (fun K hK => ?_)
  refine goes_ Try.func26 rfl rfl #[.agg (FR .u64 5 (carr (ofL a0))), .agg (FR .u64 5 (invE (carr (ofL a0))))] rfl rfl rfl (by simp only [List.map_toArray, List.map_cons, List.map_nil]; rfl) ((elem_mul_calls _ _ _ (Fe.of _ HA0.out).1 (Fe.inv (Fe.of _ HA0.out)).1).mono ?_)
  rintro e wc408 ⟨rfl, hb⟩
  have hSn : Row wc408 n6 .u64 5 (carr (ofL a0)) 27 ∧ Row wc408 n7 .u64 5 (carr (ofL a1)) 27 ∧ Row wc408 n8 .u64 5 (carr (ofL a2)) 27 ∧ Row wc408 wc217.heap.size .u64 5 (fun _ => 0) 27 := ⟨hHeld.1.below hb hHeld.1.lt, hHeld.2.1.below hb hHeld.2.1.lt, hHeld.2.2.1.below hb hHeld.2.2.1.lt, hHeld.2.2.2.below hb hHeld.2.2.2.lt⟩
  have HBc408 := Aside0.mk (HBc407.out.trans (hb.mono HBc407.out.size))
  clear hb
  refine ⟨_, rfl, hK.out _ _ hSn (fun hHeld => ?_)⟩
  clear hSn
  clear hK K
  refine norm_ (a' := ?_) ?_ ?_
  rotate_left
  · show Act.put _ (some 87) _ = _
    simp only [Act.put, List.setIfInBounds_toArray, List.set_cons_zero, List.set_cons_succ, i64_w, i32_w]
    rfl
  refine one_ (i := 20) (N := some 88) #[true, true, true, true, true, true, true, true, true, true, true, true, true, true, true, true, true, true, true, true, true, false, true, true, false, false, false, false, false, false, false, false, false, false] rfl rfl (one_of HT_.out (by kernel_rfl)) (by decide) (fun K hK => ?_)
  refine goes_ Try.func11 rfl rfl #[.int .u32 1] rfl rfl rfl (by simp only [List.map_toArray, List.map_cons, List.map_nil]; rfl) ((small_elem_calls 1 _ (by omega)).mono ?_)
  rintro e wc409 ⟨rfl, hb⟩
  have hSn : Row wc409 n6 .u64 5 (carr (ofL a0)) 27 ∧ Row wc409 n7 .u64 5 (carr (ofL a1)) 27 ∧ Row wc409 n8 .u64 5 (carr (ofL a2)) 27 ∧ Row wc409 wc217.heap.size .u64 5 (fun _ => 0) 27 := ⟨hHeld.1.below hb hHeld.1.lt, hHeld.2.1.below hb hHeld.2.1.lt, hHeld.2.2.1.below hb hHeld.2.2.1.lt, hHeld.2.2.2.below hb hHeld.2.2.2.lt⟩
  have HBc409 := Aside0.mk (HBc408.out.trans (hb.mono HBc408.out.size))
  clear hb
  refine ⟨_, rfl, hK.out _ _ hSn (fun hHeld => ?_)⟩
  clear hSn
  clear hK K
  refine norm_ (a' := ?_) ?_ ?_
  rotate_left
  · show Act.put _ (some 88) _ = _
    simp only [Act.put, List.setIfInBounds_toArray, List.set_cons_zero, List.set_cons_succ, i64_w, i32_w]
    rfl
  refine one_ (i := 21) (N := some 89) #[true, true, true, true, true, true, true, true, true, true, true, true, true, true, true, true, true, true, true, true, true, true, true, true, false, false, false, false, false, false, false, false, false, false] rfl rfl (one_of HT_.out (by kernel_rfl)) (by decide) (fun K hK => ?_)
  refine goes_ Try.func17 rfl rfl #[.agg (FR .u64 5 (mulE (carr (ofL a0)) (invE (carr (ofL a0))))), .agg (FR .u64 5 (smL 1))] rfl rfl rfl (by simp only [List.map_toArray, List.map_cons, List.map_nil]; rfl) ((is_bool2 (Fe.mul (Fe.of _ HA0.out) (Fe.inv (Fe.of _ HA0.out))) (Fe.small 1 (by omega)) (!z) (by rw [HZZ.out]; exact inv_mul _) _).mono ?_)
  rintro e wc410 ⟨rfl, hb⟩
  have hSn : Row wc410 n6 .u64 5 (carr (ofL a0)) 27 ∧ Row wc410 n7 .u64 5 (carr (ofL a1)) 27 ∧ Row wc410 n8 .u64 5 (carr (ofL a2)) 27 ∧ Row wc410 wc217.heap.size .u64 5 (fun _ => 0) 27 := ⟨hHeld.1.below hb hHeld.1.lt, hHeld.2.1.below hb hHeld.2.1.lt, hHeld.2.2.1.below hb hHeld.2.2.1.lt, hHeld.2.2.2.below hb hHeld.2.2.2.lt⟩
  have HBc410 := Aside0.mk (HBc409.out.trans (hb.mono HBc409.out.size))
  clear hb
  refine ⟨_, rfl, hK.out _ _ hSn (fun hHeld => ?_)⟩
  clear hSn
  clear hK K
  refine norm_ (a' := ?_) ?_ ?_
  rotate_left
  · show Act.put _ (some 89) _ = _
    simp only [Act.put, List.setIfInBounds_toArray, List.set_cons_zero, List.set_cons_succ, i64_w, i32_w]
    rfl
  refine one_ (i := 24) (N := some 92) #[true, true, true, true, true, true, true, true, true, true, true, true, true, true, true, true, true, true, true, true, true, true, true, true, true, false, false, false, false, false, false, false, false, false] rfl rfl (one_of HT_.out (by kernel_rfl)) (by decide) (fun K hK => ?_)
  refine goes_ Try.func17 rfl rfl #[.agg (FR .u64 5 (carr (ofL a0))), .agg (FR .u64 5 (fun _ => 0))] rfl rfl rfl (by simp only [List.map_toArray, List.map_cons, List.map_nil]; rfl) ((is_bool2 (Fe.of _ HA0.out) (Fe.zero) z HZZ.out.symm _).mono ?_)
  rintro e wc411 ⟨rfl, hb⟩
  have hSn : Row wc411 n6 .u64 5 (carr (ofL a0)) 27 ∧ Row wc411 n7 .u64 5 (carr (ofL a1)) 27 ∧ Row wc411 n8 .u64 5 (carr (ofL a2)) 27 ∧ Row wc411 wc217.heap.size .u64 5 (fun _ => 0) 27 := ⟨hHeld.1.below hb hHeld.1.lt, hHeld.2.1.below hb hHeld.2.1.lt, hHeld.2.2.1.below hb hHeld.2.2.1.lt, hHeld.2.2.2.below hb hHeld.2.2.2.lt⟩
  have HBc411 := Aside0.mk (HBc410.out.trans (hb.mono HBc410.out.size))
  clear hb
  refine ⟨_, rfl, hK.out _ _ hSn (fun hHeld => ?_)⟩
  clear hSn
  clear hK K
  refine norm_ (a' := ?_) ?_ ?_
  rotate_left
  · show Act.put _ (some 92) _ = _
    simp only [Act.put, List.setIfInBounds_toArray, List.set_cons_zero, List.set_cons_succ, i64_w, i32_w]
    rfl
  refine pure_ (i := 25) (N := some 93) (v := ?_) (a' := ?_) #[true, true, true, true, true, true, true, true, true, true, true, true, true, true, true, true, true, true, true, true, true, true, true, true, true, true, false, false, false, false, false, false, false, false] rfl rfl (any_of HT_.out (by kernel_rfl)) (fun _ _ _ h => h) (Or.inl ⟨by rfl, ?_⟩) ?_ ?_
  rotate_left
  · intro w'
    go_simp
    with_reducible rfl
  rotate_left
  · simp only [Act.put, List.setIfInBounds_toArray, List.set_cons_zero, List.set_cons_succ, i64_w, i32_w]
    rfl
  refine pure_ (i := 26) (N := some 94) (v := ?_) (a' := ?_) #[true, true, true, true, true, true, true, true, true, true, true, true, true, true, true, true, true, true, true, true, true, true, true, true, true, true, true, false, false, false, false, false, false, false] rfl rfl (any_of HT_.out (by kernel_rfl)) (fun _ _ _ h => h) (Or.inl ⟨by rfl, ?_⟩) ?_ ?_
  rotate_left
  · intro w'
    go_simp
    with_reducible rfl
  rotate_left
  · simp only [Act.put, List.setIfInBounds_toArray, List.set_cons_zero, List.set_cons_succ, i64_w, i32_w]
    rfl
  refine pure_ (i := 27) (N := some 95) (v := ?_) (a' := ?_) #[true, true, true, true, true, true, true, true, true, true, true, true, true, true, true, true, true, true, true, true, true, true, true, true, true, true, true, true, false, false, false, false, false, false] rfl rfl (any_of HT_.out (by kernel_rfl)) (fun _ _ _ h => h) (Or.inl ⟨by rfl, ?_⟩) ?_ ?_
  rotate_left
  · intro w'
    go_simp
    with_reducible rfl
  rotate_left
  · simp only [Act.put, List.setIfInBounds_toArray, List.set_cons_zero, List.set_cons_succ, i64_w, i32_w]
    rfl
  refine take_ (i := 28) (N := some 96) (v := ?_) (a' := ?_) #[true, true, true, true, true, true, true, true, true, true, true, true, true, true, true, true, true, true, true, true, true, true, true, true, true, true, true, true, true, false, false, false, false, false] rfl rfl (take_ofW HT_.out HW_.out (by kernel_rfl)) (fun _ _ _ h => h) (Or.inl ⟨by rfl, ?_⟩) hHeld ?_ ?_
  rotate_left
  · intro w' hsw
    refine exec_load (x := .tmp 10) hsw.2.2.2 Try.underlying27 info27 rfl ?_ ?_ <;> rfl
  rotate_left
  · simp only [Act.put, List.setIfInBounds_toArray, List.set_cons_zero, List.set_cons_succ, i64_w, i32_w]
    rfl
  refine take_ (i := 30) (N := some 98) (v := ?_) (a' := ?_) #[true, true, true, true, true, true, true, true, true, true, true, true, true, true, true, true, true, true, true, true, true, true, true, true, true, true, true, true, true, false, true, false, false, false] rfl rfl (take_ofW HT_.out HW_.out (by kernel_rfl)) (fun _ _ _ h => h) (Or.inl ⟨by rfl, ?_⟩) hHeld ?_ ?_
  rotate_left
  · intro w' hsw
    refine exec_load (x := .tmp 10) hsw.2.2.2 Try.underlying27 info27 rfl ?_ ?_ <;> rfl
  rotate_left
  · simp only [Act.put, List.setIfInBounds_toArray, List.set_cons_zero, List.set_cons_succ, i64_w, i32_w]
    rfl
  refine one_ (i := 29) (N := some 97) #[true, true, true, true, true, true, true, true, true, true, true, true, true, true, true, true, true, true, true, true, true, true, true, true, true, true, true, true, true, true, true, false, false, false] rfl rfl (one_of HT_.out (by kernel_rfl)) (by decide) (fun K hK => ?_)
  refine goes_ Try.func30 rfl rfl #[.agg (FR .u64 5 (fun _ => 0))] rfl rfl rfl (by simp only [List.map_toArray, List.map_cons, List.map_nil]; rfl) ((invE_calls _ _ (Fe.zero).1).mono ?_)
  rintro e wc412 ⟨rfl, hb⟩
  have hSn : Row wc412 n6 .u64 5 (carr (ofL a0)) 27 ∧ Row wc412 n7 .u64 5 (carr (ofL a1)) 27 ∧ Row wc412 n8 .u64 5 (carr (ofL a2)) 27 ∧ Row wc412 wc217.heap.size .u64 5 (fun _ => 0) 27 := ⟨hHeld.1.below hb hHeld.1.lt, hHeld.2.1.below hb hHeld.2.1.lt, hHeld.2.2.1.below hb hHeld.2.2.1.lt, hHeld.2.2.2.below hb hHeld.2.2.2.lt⟩
  have HBc412 := Aside0.mk (HBc411.out.trans (hb.mono HBc411.out.size))
  clear hb
  refine ⟨_, rfl, hK.out _ _ hSn (fun hHeld => ?_)⟩
  clear hSn
  clear hK K
  refine norm_ (a' := ?_) ?_ ?_
  rotate_left
  · show Act.put _ (some 97) _ = _
    simp only [Act.put, List.setIfInBounds_toArray, List.set_cons_zero, List.set_cons_succ, i64_w, i32_w]
    rfl
  refine one_ (i := 31) (N := some 99) #[true, true, true, true, true, true, true, true, true, true, true, true, true, true, true, true, true, true, true, true, true, true, true, true, true, true, true, true, true, true, true, true, false, false] rfl rfl (one_of HT_.out (by kernel_rfl)) (by decide) (fun K hK => ?_)
  refine goes_ Try.func17 rfl rfl #[.agg (FR .u64 5 (invE (fun _ => 0))), .agg (FR .u64 5 (fun _ => 0))] rfl rfl rfl (by simp only [List.map_toArray, List.map_cons, List.map_nil]; rfl) ((is_same (Fe.inv (Fe.zero)) (Fe.zero) inv_zero _).mono ?_)
  rintro e wc413 ⟨rfl, hb⟩
  have hSn : Row wc413 n6 .u64 5 (carr (ofL a0)) 27 ∧ Row wc413 n7 .u64 5 (carr (ofL a1)) 27 ∧ Row wc413 n8 .u64 5 (carr (ofL a2)) 27 ∧ Row wc413 wc217.heap.size .u64 5 (fun _ => 0) 27 := ⟨hHeld.1.below hb hHeld.1.lt, hHeld.2.1.below hb hHeld.2.1.lt, hHeld.2.2.1.below hb hHeld.2.2.1.lt, hHeld.2.2.2.below hb hHeld.2.2.2.lt⟩
  have HBc413 := Aside0.mk (HBc412.out.trans (hb.mono HBc412.out.size))
  clear hb
  refine ⟨_, rfl, hK.out _ _ hSn (fun hHeld => ?_)⟩
  clear hSn
  clear hK K
  refine norm_ (a' := ?_) ?_ ?_
  rotate_left
  · show Act.put _ (some 99) _ = _
    simp only [Act.put, List.setIfInBounds_toArray, List.set_cons_zero, List.set_cons_succ, i64_w, i32_w]
    rfl
  refine pure_ (i := 32) (N := some 100) (v := ?_) (a' := ?_) #[true, true, true, true, true, true, true, true, true, true, true, true, true, true, true, true, true, true, true, true, true, true, true, true, true, true, true, true, true, true, true, true, true, false] rfl rfl (any_of HT_.out (by kernel_rfl)) (fun _ _ _ h => h) (Or.inl ⟨by rfl, ?_⟩) ?_ ?_
  rotate_left
  · intro w'
    go_simp
    with_reducible rfl
  rotate_left
  · simp only [Act.put, List.setIfInBounds_toArray, List.set_cons_zero, List.set_cons_succ, i64_w, i32_w]
    rfl
  refine pure_ (i := 33) (N := some 6) (v := ?_) (a' := ?_) #[true, true, true, true, true, true, true, true, true, true, true, true, true, true, true, true, true, true, true, true, true, true, true, true, true, true, true, true, true, true, true, true, true, true] rfl rfl (any_of HT_.out (by kernel_rfl)) (fun _ _ _ h => h) (Or.inl ⟨by rfl, ?_⟩) ?_ ?_
  rotate_left
  · intro w'
    go_simp
    with_reducible rfl
  rotate_left
  · simp only [Act.put, List.setIfInBounds_toArray, List.set_cons_zero, List.set_cons_succ, i64_w, i32_w]
    rfl
  refine done_ (done_of HT_.out (by kernel_rfl)) ?_
  try go_wp2
  go_ret
  exact ⟨rfl, HBc413.out⟩
end Go.Proofs.Ythonoagpiofojaa.P
