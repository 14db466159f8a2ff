/- The law FieldChains: its walk. -/
import Derived.Test.YthonoagpiofojaaR3
import Derived.Test.YthonoagpiofojaaWFour
namespace Go.Proofs.Ythonoagpiofojaa.P
set_option linter.unusedVariables false
set_option linter.unusedSimpArgs false
open Go.RowKit Go.Proofs.YthonoagpiofojaaW.PrintWords Go.Proofs.YthonoagpiofojaaW.PrintLast Go.Proofs.YthonoagpiofojaaW.PrintMore
attribute [local go_sem] setCell_drewN
theorem tab705 : rtab .any (opsOf Try.f7 5) = (true, [([], []), ([0], [0]), ([], []), ([2, 1], [2]), ([], []), ([], []), ([4, 1, 3, 0, 1, 4, 5], [1, 4]), ([5, 3, 6, 0, 1, 2, 3, 4, 5, 6], [3, 5])]) := by kernel_rfl
theorem bits705 : waitsOk [([], []), ([0], [0]), ([], []), ([2, 1], [2]), ([], []), ([], []), ([4, 1, 3, 0, 1, 4, 5], [1, 4]), ([5, 3, 6, 0, 1, 2, 3, 4, 5, 6], [3, 5])] [0, 1, 0, 7, 0, 0, 63, 127] = true := by kernel_rfl
theorem tab711 : rtab .any (opsOf Try.f7 11) = (true, [([], []), ([], []), ([1], [1]), ([0, 2, 2], [0, 2]), ([], []), ([], []), ([5, 3], [5]), ([4, 6, 6], [4, 6]), ([3, 7, 0, 1, 2, 3], [3]), ([7, 8, 0, 1, 2, 3, 4, 5, 6, 7, 8], [7])]) := by kernel_rfl
theorem bits711 : waitsOk [([], []), ([], []), ([1], [1]), ([0, 2, 2], [0, 2]), ([], []), ([], []), ([5, 3], [5]), ([4, 6, 6], [4, 6]), ([3, 7, 0, 1, 2, 3], [3]), ([7, 8, 0, 1, 2, 3, 4, 5, 6, 7, 8], [7])] [0, 0, 2, 7, 0, 0, 47, 127, 255, 511] = true := by kernel_rfl
theorem tab713 : rtab .any (opsOf Try.f7 13) = (true, [([], []), ([], []), ([1], [1]), ([0, 2, 2], [0, 2]), ([], []), ([], []), ([5, 3], [5]), ([4, 6, 6], [4, 6]), ([3, 7, 0, 1, 2, 3], [3]), ([7, 8, 0, 1, 2, 3, 4, 5, 6, 7, 8], [7])]) := by kernel_rfl
theorem bits713 : waitsOk [([], []), ([], []), ([1], [1]), ([0, 2, 2], [0, 2]), ([], []), ([], []), ([5, 3], [5]), ([4, 6, 6], [4, 6]), ([3, 7, 0, 1, 2, 3], [3]), ([7, 8, 0, 1, 2, 3, 4, 5, 6, 7, 8], [7])] [0, 0, 2, 7, 0, 0, 47, 127, 255, 511] = true := by kernel_rfl
theorem tab715 : rtab .any (opsOf Try.f7 15) = (true, [([], []), ([], []), ([1], [1]), ([0, 2, 2], [0, 2]), ([], []), ([], []), ([5, 3], [5]), ([4, 6, 6], [4, 6]), ([3, 7, 0, 1, 2, 3], [3]), ([7, 8, 0, 1, 2, 3, 4, 5, 6, 7, 8], [7])]) := by kernel_rfl
theorem bits715 : waitsOk [([], []), ([], []), ([1], [1]), ([0, 2, 2], [0, 2]), ([], []), ([], []), ([5, 3], [5]), ([4, 6, 6], [4, 6]), ([3, 7, 0, 1, 2, 3], [3]), ([7, 8, 0, 1, 2, 3, 4, 5, 6, 7, 8], [7])] [0, 0, 2, 7, 0, 0, 47, 127, 255, 511] = true := by kernel_rfl
theorem tab717 : rtab .any (opsOf Try.f7 17) = (true, [([], []), ([0], [0]), ([], []), ([2, 1], [2]), ([1, 3, 3], [1, 3]), ([], []), ([5, 4], [5]), ([], []), ([6, 7, 6], [6, 7]), ([4, 8, 0, 1, 2, 3, 4], [4]), ([8, 9, 0, 1, 2, 3, 4, 5, 6, 7, 8, 9], [8])]) := by kernel_rfl
theorem bits717 : waitsOk [([], []), ([0], [0]), ([], []), ([2, 1], [2]), ([1, 3, 3], [1, 3]), ([], []), ([5, 4], [5]), ([], []), ([6, 7, 6], [6, 7]), ([4, 8, 0, 1, 2, 3, 4], [4]), ([8, 9, 0, 1, 2, 3, 4, 5, 6, 7, 8, 9], [8])] [0, 1, 0, 7, 15, 0, 63, 0, 255, 511, 1023] = true := by kernel_rfl
def WRel (w : World) (bx bY : Nat) (v29 : Value) (len : Nat) (wr : World) : Prop :=
  ∃ (i : Nat) (f g : Nat → Int) (n : Int), i ≤ len ∧ v29 = .int .i64 (i : Int) ∧ Below w.heap.size w wr ∧ Row wr bx .u64 5 f 27 ∧ Row wr bY .i64 16 g 33 ∧ Fe f n ∧ Re g n
set_option maxHeartbeats 4000000 in
theorem FieldChains_walk (a0 : Nat → Int) (a1 : Option Addr) (len1 cap1 : Nat) (z1 : Nat → Nat → Int) (a2 : Option Addr) (len2 cap2 : Nat) (z2 : List Int) (w : World)
    (w0 : ∀ i, i < 32 → (Lit.int .u8 (a0 i)).wf = true) (w1 : IsArrs .u8 32 w a1 len1 z1)
    (w2 : (a2 = none ∧ len2 = 0 ∧ cap2 = 0 ∧ z2 = []) ∨ ∃ x, a2 = some x ∧ len2 ≤ cap2 ∧ cap2 ≤ maxLen ∧ z2.length = cap2 ∧ (∀ i, i < z2.length → w.cell? (x.add i) = some (.int .i64 (z2.getD i 0))) ∧ ∀ n ∈ z2, (Lit.int .i64 n).wf = true) (_y2 : len2 * 8 ≤ 140737488351232) :
    Calls Try.prog 7 #[.agg (FR .u8 32 a0), .slice a1 len1 cap1, .slice a2 len2 cap2] w fun e w' => e = .returned (.bool true) ∧ Below w.heap.size w w' := by
  have HA0 : Aside0 (By a0) := ⟨fun j hj => u8b (w0 j hj)⟩
  have HW1 := Aside0.mk w1
  have HW2 := Aside0.mk w2
  clear w0 w1 w2 _y2
  go_enter Try.func7, Try.ntmps7
  have H0 := Aside0.mk (Row.new w .u8 32 a0 22)
  have HB := Aside0.mk ((Below.refl w.heap.size w).alloc (Nat.le_refl _) (.cells (FR .u8 32 a0) 22))
  go_wp2_with fail
  refine (alive_calls _).mono ?_
  rintro e w5 ⟨rfl, hb⟩
  have H1 := Aside0.mk (H0.out.below hb H0.out.lt)
  have HB1 := Aside0.mk (HB.out.trans (hb.mono HB.out.size))
  clear hb H0 HB
  by_cases hlong : 60 < len1
  · have hl : ((len1 : Int) > 60) = True := eq_true (by omega)
    have hl2 : ((60 : Int) < (len1 : Int)) = True := eq_true (by omega)
    go_wp2_with fail
    go_ret
    exact ⟨rfl, HB1.out⟩
  by_cases hless : len2 < len1
  · have hl : ((len1 : Int) > 60) = False := eq_false (by omega)
    have hl2 : ((60 : Int) < (len1 : Int)) = False := eq_false (by omega)
    have hl3 : ((len2 : Int) < (len1 : Int)) = True := eq_true (by omega)
    go_wp2_with fail
    go_ret
    exact ⟨rfl, HB1.out⟩
  · have hl : ((len1 : Int) > 60) = False := eq_false (by omega)
    have hl2 : ((60 : Int) < (len1 : Int)) = False := eq_false (by omega)
    have hl3 : ((len2 : Int) < (len1 : Int)) = False := eq_false (by omega)
    go_wp2_with fail
    have hh : Row w5.drew w.heap.size .u8 32 a0 22 := H1.out
    have HBd := Aside0.mk HB1.out.drew
    clear H1 HB1 hl hl2 hl3
    refine start_ (n := 8) (S := (fun w' => Row w' w.heap.size .u8 32 a0 22)) (ds := []) #[false, false, false, false, false, false, false, false] (by kernel_rfl) rfl rfl hh (fun hHeld => ?_); refine with_tabW tab705 bits705 (fun HT_ HW_ => ?_)
    generalize w5.drew = w6 at HBd hHeld hh ⊢
    clear hh
    refine take_ (i := 0) (N := some 23) (v := ?_) (a' := ?_) #[true, false, false, false, false, false, false, false] rfl rfl (take_ofW HT_.out HW_.out (by kernel_rfl)) (fun _ _ _ h => h) (Or.inl ⟨by rfl, ?_⟩) hHeld ?_ ?_
    rotate_left
    · intro w' hsw
      refine exec_load (x := .tmp 3) hsw Try.underlying22 info22 rfl ?_ ?_ <;> rfl
    rotate_left
    · simp only [Act.put, List.setIfInBounds_toArray, List.set_cons_zero, List.set_cons_succ, i64_w, i32_w]
      rfl
    refine take_ (i := 2) (N := some 25) (v := ?_) (a' := ?_) #[true, false, true, false, false, false, false, false] rfl rfl (take_ofW HT_.out HW_.out (by kernel_rfl)) (fun _ _ _ h => h) (Or.inl ⟨by rfl, ?_⟩) hHeld ?_ ?_
    rotate_left
    · intro w' hsw
      refine exec_load (x := .tmp 3) hsw Try.underlying22 info22 rfl ?_ ?_ <;> rfl
    rotate_left
    · simp only [Act.put, List.setIfInBounds_toArray, List.set_cons_zero, List.set_cons_succ, i64_w, i32_w]
      rfl
    refine join_ (σ := Nat × Nat) 2 #[true, true, true, true, true, true, false, false] (fun s => [(24, .agg (FR .u64 5 (carr (ofL a0)))), (26, .agg (FR .i64 16 (numD a0))), (7, .pointer (some ⟨s.1, 0, none⟩)), (8, .pointer (some ⟨s.2, 0, none⟩))]) (fun s w' => Row w' s.1 .u64 5 (fun _ => 0) 27 ∧ Row w' s.2 .i64 16 (fun _ => 0) 33 ∧ Row w' w.heap.size .u8 32 a0 22 ∧ Below w.heap.size w w' ∧ w.heap.size < s.1 ∧ w.heap.size < s.2 ∧ s.2 ≠ s.1) ?_ ?_
    rotate_left
    ·intro hJ1_3_4_5
     refine join_ (σ := Nat) 3 #[true, true, true, true, true, false, false, false] (fun s => [(24, .agg (FR .u64 5 (carr (ofL a0)))), (26, .agg (FR .i64 16 (numD a0))), (7, .pointer (some ⟨s, 0, none⟩))]) (fun s w' => Row w' s .u64 5 (fun _ => 0) 27 ∧ Row w' w.heap.size .u8 32 a0 22 ∧ Below w.heap.size w w' ∧ w.heap.size < s) ?_ ?_
     rotate_left
     ·intro hJ1_3_4
      refine join_ (σ := Nat) 3 #[true, true, true, true, false, true, false, false] (fun s => [(24, .agg (FR .u64 5 (carr (ofL a0)))), (26, .agg (FR .i64 16 (numD a0))), (8, .pointer (some ⟨s, 0, none⟩))]) (fun s w' => Row w' s .i64 16 (fun _ => 0) 33 ∧ Row w' w.heap.size .u8 32 a0 22 ∧ Below w.heap.size w w' ∧ w.heap.size < s) ?_ ?_
      rotate_left
      ·intro hJ1_3_5
       refine join_ (σ := Nat × Nat) 3 #[true, true, true, false, true, true, false, false] (fun s => [(24, .agg (FR .u64 5 (carr (ofL a0)))), (7, .pointer (some ⟨s.1, 0, none⟩)), (8, .pointer (some ⟨s.2, 0, none⟩))]) (fun s w' => Row w' s.1 .u64 5 (fun _ => 0) 27 ∧ Row w' s.2 .i64 16 (fun _ => 0) 33 ∧ Row w' w.heap.size .u8 32 a0 22 ∧ Below w.heap.size w w' ∧ w.heap.size < s.1 ∧ w.heap.size < s.2 ∧ s.2 ≠ s.1) ?_ ?_
       rotate_left
       ·intro hJ1_4_5
        refine join_ (σ := Unit) 4 #[true, true, true, true, false, false, false, false] (fun s => [(24, .agg (FR .u64 5 (carr (ofL a0)))), (26, .agg (FR .i64 16 (numD a0)))]) (fun s w' => Row w' w.heap.size .u8 32 a0 22 ∧ Below w.heap.size w w') ?_ ?_
        rotate_left
        ·intro hJ1_3
         refine join_ (σ := Nat) 4 #[true, true, true, false, true, false, false, false] (fun s => [(24, .agg (FR .u64 5 (carr (ofL a0)))), (7, .pointer (some ⟨s, 0, none⟩))]) (fun s w' => Row w' s .u64 5 (fun _ => 0) 27 ∧ Row w' w.heap.size .u8 32 a0 22 ∧ Below w.heap.size w w' ∧ w.heap.size < s) ?_ ?_
         rotate_left
         ·intro hJ1_4
          refine join_ (σ := Nat) 4 #[true, true, true, false, false, true, false, false] (fun s => [(24, .agg (FR .u64 5 (carr (ofL a0)))), (8, .pointer (some ⟨s, 0, none⟩))]) (fun s w' => Row w' s .i64 16 (fun _ => 0) 33 ∧ Row w' w.heap.size .u8 32 a0 22 ∧ Below w.heap.size w w' ∧ w.heap.size < s) ?_ ?_
          rotate_left
          ·intro hJ1_5
           refine join_ (σ := Nat × Nat) 4 #[true, false, true, false, true, true, false, false] (fun s => [(7, .pointer (some ⟨s.1, 0, none⟩)), (8, .pointer (some ⟨s.2, 0, none⟩))]) (fun s w' => Row w' s.1 .u64 5 (fun _ => 0) 27 ∧ Row w' s.2 .i64 16 (fun _ => 0) 33 ∧ Row w' w.heap.size .u8 32 a0 22 ∧ Below w.heap.size w w' ∧ w.heap.size < s.1 ∧ w.heap.size < s.2 ∧ s.2 ≠ s.1) ?_ ?_
           rotate_left
           ·intro hJ4_5
            refine join_ (σ := Unit) 5 #[true, true, true, false, false, false, false, false] (fun s => [(24, .agg (FR .u64 5 (carr (ofL a0))))]) (fun s w' => Row w' w.heap.size .u8 32 a0 22 ∧ Below w.heap.size w w') ?_ ?_
            rotate_left
            ·intro hJ1
             refine join_ (σ := Nat) 5 #[true, false, true, false, true, false, false, false] (fun s => [(7, .pointer (some ⟨s, 0, none⟩))]) (fun s w' => Row w' s .u64 5 (fun _ => 0) 27 ∧ Row w' w.heap.size .u8 32 a0 22 ∧ Below w.heap.size w w' ∧ w.heap.size < s) ?_ ?_
             rotate_left
             ·intro hJ4
              refine join_ (σ := Nat) 5 #[true, false, true, false, false, true, false, false] (fun s => [(8, .pointer (some ⟨s, 0, none⟩))]) (fun s w' => Row w' s .i64 16 (fun _ => 0) 33 ∧ Row w' w.heap.size .u8 32 a0 22 ∧ Below w.heap.size w w' ∧ w.heap.size < s) ?_ ?_
              rotate_left
              ·intro hJ5
               refine three_ (i := 1) (j := 4) (k := 5) (Ni := some 24) (Nj := some 7) (Nk := some 8) #[true, true, true, false, false, false, false, false] #[true, false, true, false, true, false, false, false] #[true, false, true, false, false, true, false, false] rfl rfl rfl rfl rfl rfl (by kernel_rfl) (by decide) (by decide) (by decide) (fun K hK => ?_) (fun K hK => ?_) (fun K hK => ?_)
               · skip
                 refine goes_ Try.func13 rfl rfl #[.agg (FR .u8 32 a0)] rfl rfl rfl (by simp only [List.map_toArray, List.map_cons, List.map_nil]; rfl) ((Of_elem_calls a0 _ HA0.out).mono ?_)
                 rintro e wf1 ⟨rfl, hb⟩
                 have hSn : Row wf1 w.heap.size .u8 32 a0 22 := hHeld.below hb hHeld.lt
                 have HBf := Aside0.mk (HBd.out.trans (hb.mono HBd.out.size))
                 clear hb
                 refine ⟨_, rfl, hK.out _ _ hSn (fun hHeld => ?_)⟩
                 clear hSn hK K
                 refine norm_ (a' := ?_) ?_ ?_
                 rotate_left
                 · show Act.put _ (some 24) _ = _
                   simp only [Act.put, List.setIfInBounds_toArray, List.set_cons_zero, List.set_cons_succ, i64_w, i32_w]
                   rfl
                 exact norm_ (by first | (simp only [putAll, Act.put, List.setIfInBounds_toArray, List.set_cons_zero, List.set_cons_succ]; done) | (simp only [putAll, Act.put, List.setIfInBounds_toArray, List.set_cons_zero, List.set_cons_succ]; rfl)) (hJ1 () _ ⟨hHeld, HBf.out⟩)
               · skip
                 refine event_step (by rfl) (v := .pointer (some ⟨w6.heap.size, 0, none⟩)) (w1 := w6.alloc (.cells (FR .u64 5 fun _ => 0) 27)) (by first | (go_simp; done) | (go_simp; rfl)) ?_
                 have hSn : Row (w6.alloc (.cells (FR .u64 5 fun _ => 0) 27)) w.heap.size .u8 32 a0 22 := hHeld.alloc _
                 have HBf := Aside0.mk (HBd.out.alloc HBd.out.size (.cells (FR .u64 5 fun _ => 0) 27))
                 have hlo4 : w.heap.size < w6.heap.size := hHeld.lt
                 have HR4 := Aside0.mk (Row.new w6 .u64 5 (fun _ => 0) 27)
                 generalize w6.alloc (.cells (FR .u64 5 fun _ => 0) 27) = wf2 at hSn HBf HR4 ⊢
                 refine hK.out _ _ hSn (fun hHeld => ?_)
                 clear hSn hK K
                 refine norm_ (a' := ?_) ?_ ?_
                 rotate_left
                 · show Act.put _ (some 7) _ = _
                   simp only [Act.put, List.setIfInBounds_toArray, List.set_cons_zero, List.set_cons_succ, i64_w, i32_w]
                   rfl
                 exact norm_ (by first | (simp only [putAll, Act.put, List.setIfInBounds_toArray, List.set_cons_zero, List.set_cons_succ]; done) | (simp only [putAll, Act.put, List.setIfInBounds_toArray, List.set_cons_zero, List.set_cons_succ]; rfl)) (hJ4 w6.heap.size _ ⟨HR4.out, hHeld, HBf.out, hlo4⟩)
               · skip
                 refine event_step (by rfl) (v := .pointer (some ⟨w6.heap.size, 0, none⟩)) (w1 := w6.alloc (.cells (FR .i64 16 fun _ => 0) 33)) (by first | (go_simp; done) | (go_simp; rfl)) ?_
                 have hSn : Row (w6.alloc (.cells (FR .i64 16 fun _ => 0) 33)) w.heap.size .u8 32 a0 22 := hHeld.alloc _
                 have HBf := Aside0.mk (HBd.out.alloc HBd.out.size (.cells (FR .i64 16 fun _ => 0) 33))
                 have hlo5 : w.heap.size < w6.heap.size := hHeld.lt
                 have HR5 := Aside0.mk (Row.new w6 .i64 16 (fun _ => 0) 33)
                 generalize w6.alloc (.cells (FR .i64 16 fun _ => 0) 33) = wf3 at hSn HBf HR5 ⊢
                 refine hK.out _ _ hSn (fun hHeld => ?_)
                 clear hSn hK K
                 refine norm_ (a' := ?_) ?_ ?_
                 rotate_left
                 · show Act.put _ (some 8) _ = _
                   simp only [Act.put, List.setIfInBounds_toArray, List.set_cons_zero, List.set_cons_succ, i64_w, i32_w]
                   rfl
                 exact norm_ (by first | (simp only [putAll, Act.put, List.setIfInBounds_toArray, List.set_cons_zero, List.set_cons_succ]; done) | (simp only [putAll, Act.put, List.setIfInBounds_toArray, List.set_cons_zero, List.set_cons_succ]; rfl)) (hJ5 w6.heap.size _ ⟨HR5.out, hHeld, HBf.out, hlo5⟩)
              ·skip
               rintro n5 wg ⟨HX5, hq0, hbj, hlo5⟩
               have HX5 := Aside0.mk HX5
               have HBj := Aside0.mk hbj
               clear hbj
               have hHeld : Row wg w.heap.size .u8 32 a0 22 := hq0
               clear hq0
               refine norm_ (a' := ?_) ?_ ?_
               rotate_left
               · simp only [putAll, Act.put, List.setIfInBounds_toArray, List.set_cons_zero, List.set_cons_succ]
                 rfl
               refine two_ (i := 1) (j := 4) (Ni := some 24) (Nj := some 7) #[true, true, true, false, false, true, false, false] #[true, false, true, false, true, true, false, false] rfl rfl rfl rfl (by kernel_rfl) (by decide) (by decide) (fun K hK => ?_) (fun K hK => ?_)
               · skip
                 refine goes_ Try.func13 rfl rfl #[.agg (FR .u8 32 a0)] rfl rfl rfl (by simp only [List.map_toArray, List.map_cons, List.map_nil]; rfl) ((Of_elem_calls a0 _ HA0.out).mono ?_)
                 rintro e wf4 ⟨rfl, hb⟩
                 have hSn : Row wf4 w.heap.size .u8 32 a0 22 := hHeld.below hb hHeld.lt
                 have HBf := Aside0.mk (HBj.out.trans (hb.mono HBj.out.size))
                 have HR5 := Aside0.mk (HX5.out.below hb HX5.out.lt)
                 clear hb
                 refine ⟨_, rfl, hK.out _ _ hSn (fun hHeld => ?_)⟩
                 clear hSn hK K
                 refine norm_ (a' := ?_) ?_ ?_
                 rotate_left
                 · show Act.put _ (some 24) _ = _
                   simp only [Act.put, List.setIfInBounds_toArray, List.set_cons_zero, List.set_cons_succ, i64_w, i32_w]
                   rfl
                 exact norm_ (by first | (simp only [putAll, Act.put, List.setIfInBounds_toArray, List.set_cons_zero, List.set_cons_succ]; done) | (simp only [putAll, Act.put, List.setIfInBounds_toArray, List.set_cons_zero, List.set_cons_succ]; rfl)) (hJ1_5 n5 _ ⟨HR5.out, hHeld, HBf.out, hlo5⟩)
               · skip
                 refine event_step (by rfl) (v := .pointer (some ⟨wg.heap.size, 0, none⟩)) (w1 := wg.alloc (.cells (FR .u64 5 fun _ => 0) 27)) (by first | (go_simp; done) | (go_simp; rfl)) ?_
                 have hSn : Row (wg.alloc (.cells (FR .u64 5 fun _ => 0) 27)) w.heap.size .u8 32 a0 22 := hHeld.alloc _
                 have HBf := Aside0.mk (HBj.out.alloc HBj.out.size (.cells (FR .u64 5 fun _ => 0) 27))
                 have hlo4 : w.heap.size < wg.heap.size := hHeld.lt
                 have hne5_4 : n5 ≠ wg.heap.size := by have := HX5.out.lt; omega
                 have HR5 := Aside0.mk (HX5.out.alloc (.cells (FR .u64 5 fun _ => 0) 27))
                 have HR4 := Aside0.mk (Row.new wg .u64 5 (fun _ => 0) 27)
                 generalize wg.alloc (.cells (FR .u64 5 fun _ => 0) 27) = wf5 at hSn HBf HR5 HR4 ⊢
                 refine hK.out _ _ hSn (fun hHeld => ?_)
                 clear hSn hK K
                 refine norm_ (a' := ?_) ?_ ?_
                 rotate_left
                 · show Act.put _ (some 7) _ = _
                   simp only [Act.put, List.setIfInBounds_toArray, List.set_cons_zero, List.set_cons_succ, i64_w, i32_w]
                   rfl
                 exact norm_ (by first | (simp only [putAll, Act.put, List.setIfInBounds_toArray, List.set_cons_zero, List.set_cons_succ]; done) | (simp only [putAll, Act.put, List.setIfInBounds_toArray, List.set_cons_zero, List.set_cons_succ]; rfl)) (hJ4_5 (wg.heap.size, n5) _ ⟨HR4.out, HR5.out, hHeld, HBf.out, hlo4, hlo5, hne5_4⟩)
             ·skip
              rintro n4 wg ⟨HX4, hq0, hbj, hlo4⟩
              have HX4 := Aside0.mk HX4
              have HBj := Aside0.mk hbj
              clear hbj
              have hHeld : Row wg w.heap.size .u8 32 a0 22 := hq0
              clear hq0
              refine norm_ (a' := ?_) ?_ ?_
              rotate_left
              · simp only [putAll, Act.put, List.setIfInBounds_toArray, List.set_cons_zero, List.set_cons_succ]
                rfl
              refine two_ (i := 1) (j := 5) (Ni := some 24) (Nj := some 8) #[true, true, true, false, true, false, false, false] #[true, false, true, false, true, true, false, false] rfl rfl rfl rfl (by kernel_rfl) (by decide) (by decide) (fun K hK => ?_) (fun K hK => ?_)
              · skip
                refine goes_ Try.func13 rfl rfl #[.agg (FR .u8 32 a0)] rfl rfl rfl (by simp only [List.map_toArray, List.map_cons, List.map_nil]; rfl) ((Of_elem_calls a0 _ HA0.out).mono ?_)
                rintro e wf6 ⟨rfl, hb⟩
                have hSn : Row wf6 w.heap.size .u8 32 a0 22 := hHeld.below hb hHeld.lt
                have HBf := Aside0.mk (HBj.out.trans (hb.mono HBj.out.size))
                have HR4 := Aside0.mk (HX4.out.below hb HX4.out.lt)
                clear hb
                refine ⟨_, rfl, hK.out _ _ hSn (fun hHeld => ?_)⟩
                clear hSn hK K
                refine norm_ (a' := ?_) ?_ ?_
                rotate_left
                · show Act.put _ (some 24) _ = _
                  simp only [Act.put, List.setIfInBounds_toArray, List.set_cons_zero, List.set_cons_succ, i64_w, i32_w]
                  rfl
                exact norm_ (by first | (simp only [putAll, Act.put, List.setIfInBounds_toArray, List.set_cons_zero, List.set_cons_succ]; done) | (simp only [putAll, Act.put, List.setIfInBounds_toArray, List.set_cons_zero, List.set_cons_succ]; rfl)) (hJ1_4 n4 _ ⟨HR4.out, hHeld, HBf.out, hlo4⟩)
              · skip
                refine event_step (by rfl) (v := .pointer (some ⟨wg.heap.size, 0, none⟩)) (w1 := wg.alloc (.cells (FR .i64 16 fun _ => 0) 33)) (by first | (go_simp; done) | (go_simp; rfl)) ?_
                have hSn : Row (wg.alloc (.cells (FR .i64 16 fun _ => 0) 33)) w.heap.size .u8 32 a0 22 := hHeld.alloc _
                have HBf := Aside0.mk (HBj.out.alloc HBj.out.size (.cells (FR .i64 16 fun _ => 0) 33))
                have hlo5 : w.heap.size < wg.heap.size := hHeld.lt
                have hne5_4 : wg.heap.size ≠ n4 := by have := HX4.out.lt; omega
                have HR4 := Aside0.mk (HX4.out.alloc (.cells (FR .i64 16 fun _ => 0) 33))
                have HR5 := Aside0.mk (Row.new wg .i64 16 (fun _ => 0) 33)
                generalize wg.alloc (.cells (FR .i64 16 fun _ => 0) 33) = wf7 at hSn HBf HR4 HR5 ⊢
                refine hK.out _ _ hSn (fun hHeld => ?_)
                clear hSn hK K
                refine norm_ (a' := ?_) ?_ ?_
                rotate_left
                · show Act.put _ (some 8) _ = _
                  simp only [Act.put, List.setIfInBounds_toArray, List.set_cons_zero, List.set_cons_succ, i64_w, i32_w]
                  rfl
                exact norm_ (by first | (simp only [putAll, Act.put, List.setIfInBounds_toArray, List.set_cons_zero, List.set_cons_succ]; done) | (simp only [putAll, Act.put, List.setIfInBounds_toArray, List.set_cons_zero, List.set_cons_succ]; rfl)) (hJ4_5 (n4, wg.heap.size) _ ⟨HR4.out, HR5.out, hHeld, HBf.out, hlo4, hlo5, hne5_4⟩)
            ·skip
             rintro _ wg ⟨hq0, hbj⟩
             have HBj := Aside0.mk hbj
             clear hbj
             have hHeld : Row wg w.heap.size .u8 32 a0 22 := hq0
             clear hq0
             refine norm_ (a' := ?_) ?_ ?_
             rotate_left
             · simp only [putAll, Act.put, List.setIfInBounds_toArray, List.set_cons_zero, List.set_cons_succ]
               rfl
             refine three_ (i := 3) (j := 4) (k := 5) (Ni := some 26) (Nj := some 7) (Nk := some 8) #[true, true, true, true, false, false, false, false] #[true, true, true, false, true, false, false, false] #[true, true, true, false, false, true, false, false] rfl rfl rfl rfl rfl rfl (by kernel_rfl) (by decide) (by decide) (by decide) (fun K hK => ?_) (fun K hK => ?_) (fun K hK => ?_)
             · skip
               refine goes_ Try.func15 rfl rfl #[.agg (FR .u8 32 a0)] rfl rfl rfl (by simp only [List.map_toArray, List.map_cons, List.map_nil]; rfl) ((num_calls' a0 _ HA0.out).mono ?_)
               rintro e wf8 ⟨rfl, hb⟩
               have hSn : Row wf8 w.heap.size .u8 32 a0 22 := hHeld.below hb hHeld.lt
               have HBf := Aside0.mk (HBj.out.trans (hb.mono HBj.out.size))
               clear hb
               refine ⟨_, rfl, hK.out _ _ hSn (fun hHeld => ?_)⟩
               clear hSn hK K
               refine norm_ (a' := ?_) ?_ ?_
               rotate_left
               · show Act.put _ (some 26) _ = _
                 simp only [Act.put, List.setIfInBounds_toArray, List.set_cons_zero, List.set_cons_succ, i64_w, i32_w]
                 rfl
               exact norm_ (by first | (simp only [putAll, Act.put, List.setIfInBounds_toArray, List.set_cons_zero, List.set_cons_succ]; done) | (simp only [putAll, Act.put, List.setIfInBounds_toArray, List.set_cons_zero, List.set_cons_succ]; rfl)) (hJ1_3 () _ ⟨hHeld, HBf.out⟩)
             · skip
               refine event_step (by rfl) (v := .pointer (some ⟨wg.heap.size, 0, none⟩)) (w1 := wg.alloc (.cells (FR .u64 5 fun _ => 0) 27)) (by first | (go_simp; done) | (go_simp; rfl)) ?_
               have hSn : Row (wg.alloc (.cells (FR .u64 5 fun _ => 0) 27)) w.heap.size .u8 32 a0 22 := hHeld.alloc _
               have HBf := Aside0.mk (HBj.out.alloc HBj.out.size (.cells (FR .u64 5 fun _ => 0) 27))
               have hlo4 : w.heap.size < wg.heap.size := hHeld.lt
               have HR4 := Aside0.mk (Row.new wg .u64 5 (fun _ => 0) 27)
               generalize wg.alloc (.cells (FR .u64 5 fun _ => 0) 27) = wf9 at hSn HBf HR4 ⊢
               refine hK.out _ _ hSn (fun hHeld => ?_)
               clear hSn hK K
               refine norm_ (a' := ?_) ?_ ?_
               rotate_left
               · show Act.put _ (some 7) _ = _
                 simp only [Act.put, List.setIfInBounds_toArray, List.set_cons_zero, List.set_cons_succ, i64_w, i32_w]
                 rfl
               exact norm_ (by first | (simp only [putAll, Act.put, List.setIfInBounds_toArray, List.set_cons_zero, List.set_cons_succ]; done) | (simp only [putAll, Act.put, List.setIfInBounds_toArray, List.set_cons_zero, List.set_cons_succ]; rfl)) (hJ1_4 wg.heap.size _ ⟨HR4.out, hHeld, HBf.out, hlo4⟩)
             · skip
               refine event_step (by rfl) (v := .pointer (some ⟨wg.heap.size, 0, none⟩)) (w1 := wg.alloc (.cells (FR .i64 16 fun _ => 0) 33)) (by first | (go_simp; done) | (go_simp; rfl)) ?_
               have hSn : Row (wg.alloc (.cells (FR .i64 16 fun _ => 0) 33)) w.heap.size .u8 32 a0 22 := hHeld.alloc _
               have HBf := Aside0.mk (HBj.out.alloc HBj.out.size (.cells (FR .i64 16 fun _ => 0) 33))
               have hlo5 : w.heap.size < wg.heap.size := hHeld.lt
               have HR5 := Aside0.mk (Row.new wg .i64 16 (fun _ => 0) 33)
               generalize wg.alloc (.cells (FR .i64 16 fun _ => 0) 33) = wf10 at hSn HBf HR5 ⊢
               refine hK.out _ _ hSn (fun hHeld => ?_)
               clear hSn hK K
               refine norm_ (a' := ?_) ?_ ?_
               rotate_left
               · show Act.put _ (some 8) _ = _
                 simp only [Act.put, List.setIfInBounds_toArray, List.set_cons_zero, List.set_cons_succ, i64_w, i32_w]
                 rfl
               exact norm_ (by first | (simp only [putAll, Act.put, List.setIfInBounds_toArray, List.set_cons_zero, List.set_cons_succ]; done) | (simp only [putAll, Act.put, List.setIfInBounds_toArray, List.set_cons_zero, List.set_cons_succ]; rfl)) (hJ1_5 wg.heap.size _ ⟨HR5.out, hHeld, HBf.out, hlo5⟩)
           ·skip
            rintro ⟨n4, n5⟩ wg ⟨HX4, HX5, hq0, hbj, hlo4, hlo5, hne5_4⟩
            have HX4 := Aside0.mk HX4
            have HX5 := Aside0.mk HX5
            have HBj := Aside0.mk hbj
            clear hbj
            have hHeld : Row wg w.heap.size .u8 32 a0 22 := hq0
            clear hq0
            refine norm_ (a' := ?_) ?_ ?_
            rotate_left
            · simp only [putAll, Act.put, List.setIfInBounds_toArray, List.set_cons_zero, List.set_cons_succ]
              rfl
            refine one_ (i := 1) (N := some 24) #[true, true, true, false, true, true, false, false] rfl rfl (one_of HT_.out (by kernel_rfl)) (by decide) (fun K hK => ?_)
            refine goes_ Try.func13 rfl rfl #[.agg (FR .u8 32 a0)] rfl rfl rfl (by simp only [List.map_toArray, List.map_cons, List.map_nil]; rfl) ((Of_elem_calls a0 _ HA0.out).mono ?_)
            rintro e wf11 ⟨rfl, hb⟩
            have hSn : Row wf11 w.heap.size .u8 32 a0 22 := hHeld.below hb hHeld.lt
            have HBf := Aside0.mk (HBj.out.trans (hb.mono HBj.out.size))
            have HR4 := Aside0.mk (HX4.out.below hb HX4.out.lt)
            have HR5 := Aside0.mk (HX5.out.below hb HX5.out.lt)
            clear hb
            refine ⟨_, rfl, hK.out _ _ hSn (fun hHeld => ?_)⟩
            clear hSn hK K
            refine norm_ (a' := ?_) ?_ ?_
            rotate_left
            · show Act.put _ (some 24) _ = _
              simp only [Act.put, List.setIfInBounds_toArray, List.set_cons_zero, List.set_cons_succ, i64_w, i32_w]
              rfl
            exact norm_ (by first | (simp only [putAll, Act.put, List.setIfInBounds_toArray, List.set_cons_zero, List.set_cons_succ]; done) | (simp only [putAll, Act.put, List.setIfInBounds_toArray, List.set_cons_zero, List.set_cons_succ]; rfl)) (hJ1_4_5 (n4, n5) _ ⟨HR4.out, HR5.out, hHeld, HBf.out, hlo4, hlo5, hne5_4⟩)
          ·skip
           rintro n5 wg ⟨HX5, hq0, hbj, hlo5⟩
           have HX5 := Aside0.mk HX5
           have HBj := Aside0.mk hbj
           clear hbj
           have hHeld : Row wg w.heap.size .u8 32 a0 22 := hq0
           clear hq0
           refine norm_ (a' := ?_) ?_ ?_
           rotate_left
           · simp only [putAll, Act.put, List.setIfInBounds_toArray, List.set_cons_zero, List.set_cons_succ]
             rfl
           refine two_ (i := 3) (j := 4) (Ni := some 26) (Nj := some 7) #[true, true, true, true, false, true, false, false] #[true, true, true, false, true, true, false, false] rfl rfl rfl rfl (by kernel_rfl) (by decide) (by decide) (fun K hK => ?_) (fun K hK => ?_)
           · skip
             refine goes_ Try.func15 rfl rfl #[.agg (FR .u8 32 a0)] rfl rfl rfl (by simp only [List.map_toArray, List.map_cons, List.map_nil]; rfl) ((num_calls' a0 _ HA0.out).mono ?_)
             rintro e wf12 ⟨rfl, hb⟩
             have hSn : Row wf12 w.heap.size .u8 32 a0 22 := hHeld.below hb hHeld.lt
             have HBf := Aside0.mk (HBj.out.trans (hb.mono HBj.out.size))
             have HR5 := Aside0.mk (HX5.out.below hb HX5.out.lt)
             clear hb
             refine ⟨_, rfl, hK.out _ _ hSn (fun hHeld => ?_)⟩
             clear hSn hK K
             refine norm_ (a' := ?_) ?_ ?_
             rotate_left
             · show Act.put _ (some 26) _ = _
               simp only [Act.put, List.setIfInBounds_toArray, List.set_cons_zero, List.set_cons_succ, i64_w, i32_w]
               rfl
             exact norm_ (by first | (simp only [putAll, Act.put, List.setIfInBounds_toArray, List.set_cons_zero, List.set_cons_succ]; done) | (simp only [putAll, Act.put, List.setIfInBounds_toArray, List.set_cons_zero, List.set_cons_succ]; rfl)) (hJ1_3_5 n5 _ ⟨HR5.out, hHeld, HBf.out, hlo5⟩)
           · skip
             refine event_step (by rfl) (v := .pointer (some ⟨wg.heap.size, 0, none⟩)) (w1 := wg.alloc (.cells (FR .u64 5 fun _ => 0) 27)) (by first | (go_simp; done) | (go_simp; rfl)) ?_
             have hSn : Row (wg.alloc (.cells (FR .u64 5 fun _ => 0) 27)) w.heap.size .u8 32 a0 22 := hHeld.alloc _
             have HBf := Aside0.mk (HBj.out.alloc HBj.out.size (.cells (FR .u64 5 fun _ => 0) 27))
             have hlo4 : w.heap.size < wg.heap.size := hHeld.lt
             have hne5_4 : n5 ≠ wg.heap.size := by have := HX5.out.lt; omega
             have HR5 := Aside0.mk (HX5.out.alloc (.cells (FR .u64 5 fun _ => 0) 27))
             have HR4 := Aside0.mk (Row.new wg .u64 5 (fun _ => 0) 27)
             generalize wg.alloc (.cells (FR .u64 5 fun _ => 0) 27) = wf13 at hSn HBf HR5 HR4 ⊢
             refine hK.out _ _ hSn (fun hHeld => ?_)
             clear hSn hK K
             refine norm_ (a' := ?_) ?_ ?_
             rotate_left
             · show Act.put _ (some 7) _ = _
               simp only [Act.put, List.setIfInBounds_toArray, List.set_cons_zero, List.set_cons_succ, i64_w, i32_w]
               rfl
             exact norm_ (by first | (simp only [putAll, Act.put, List.setIfInBounds_toArray, List.set_cons_zero, List.set_cons_succ]; done) | (simp only [putAll, Act.put, List.setIfInBounds_toArray, List.set_cons_zero, List.set_cons_succ]; rfl)) (hJ1_4_5 (wg.heap.size, n5) _ ⟨HR4.out, HR5.out, hHeld, HBf.out, hlo4, hlo5, hne5_4⟩)
         ·skip
          rintro n4 wg ⟨HX4, hq0, hbj, hlo4⟩
          have HX4 := Aside0.mk HX4
          have HBj := Aside0.mk hbj
          clear hbj
          have hHeld : Row wg w.heap.size .u8 32 a0 22 := hq0
          clear hq0
          refine norm_ (a' := ?_) ?_ ?_
          rotate_left
          · simp only [putAll, Act.put, List.setIfInBounds_toArray, List.set_cons_zero, List.set_cons_succ]
            rfl
          refine two_ (i := 3) (j := 5) (Ni := some 26) (Nj := some 8) #[true, true, true, true, true, false, false, false] #[true, true, true, false, true, true, false, false] rfl rfl rfl rfl (by kernel_rfl) (by decide) (by decide) (fun K hK => ?_) (fun K hK => ?_)
          · skip
            refine goes_ Try.func15 rfl rfl #[.agg (FR .u8 32 a0)] rfl rfl rfl (by simp only [List.map_toArray, List.map_cons, List.map_nil]; rfl) ((num_calls' a0 _ HA0.out).mono ?_)
            rintro e wf14 ⟨rfl, hb⟩
            have hSn : Row wf14 w.heap.size .u8 32 a0 22 := hHeld.below hb hHeld.lt
            have HBf := Aside0.mk (HBj.out.trans (hb.mono HBj.out.size))
            have HR4 := Aside0.mk (HX4.out.below hb HX4.out.lt)
            clear hb
            refine ⟨_, rfl, hK.out _ _ hSn (fun hHeld => ?_)⟩
            clear hSn hK K
            refine norm_ (a' := ?_) ?_ ?_
            rotate_left
            · show Act.put _ (some 26) _ = _
              simp only [Act.put, List.setIfInBounds_toArray, List.set_cons_zero, List.set_cons_succ, i64_w, i32_w]
              rfl
            exact norm_ (by first | (simp only [putAll, Act.put, List.setIfInBounds_toArray, List.set_cons_zero, List.set_cons_succ]; done) | (simp only [putAll, Act.put, List.setIfInBounds_toArray, List.set_cons_zero, List.set_cons_succ]; rfl)) (hJ1_3_4 n4 _ ⟨HR4.out, hHeld, HBf.out, hlo4⟩)
          · skip
            refine event_step (by rfl) (v := .pointer (some ⟨wg.heap.size, 0, none⟩)) (w1 := wg.alloc (.cells (FR .i64 16 fun _ => 0) 33)) (by first | (go_simp; done) | (go_simp; rfl)) ?_
            have hSn : Row (wg.alloc (.cells (FR .i64 16 fun _ => 0) 33)) w.heap.size .u8 32 a0 22 := hHeld.alloc _
            have HBf := Aside0.mk (HBj.out.alloc HBj.out.size (.cells (FR .i64 16 fun _ => 0) 33))
            have hlo5 : w.heap.size < wg.heap.size := hHeld.lt
            have hne5_4 : wg.heap.size ≠ n4 := by have := HX4.out.lt; omega
            have HR4 := Aside0.mk (HX4.out.alloc (.cells (FR .i64 16 fun _ => 0) 33))
            have HR5 := Aside0.mk (Row.new wg .i64 16 (fun _ => 0) 33)
            generalize wg.alloc (.cells (FR .i64 16 fun _ => 0) 33) = wf15 at hSn HBf HR4 HR5 ⊢
            refine hK.out _ _ hSn (fun hHeld => ?_)
            clear hSn hK K
            refine norm_ (a' := ?_) ?_ ?_
            rotate_left
            · show Act.put _ (some 8) _ = _
              simp only [Act.put, List.setIfInBounds_toArray, List.set_cons_zero, List.set_cons_succ, i64_w, i32_w]
              rfl
            exact norm_ (by first | (simp only [putAll, Act.put, List.setIfInBounds_toArray, List.set_cons_zero, List.set_cons_succ]; done) | (simp only [putAll, Act.put, List.setIfInBounds_toArray, List.set_cons_zero, List.set_cons_succ]; rfl)) (hJ1_4_5 (n4, wg.heap.size) _ ⟨HR4.out, HR5.out, hHeld, HBf.out, hlo4, hlo5, hne5_4⟩)
        ·skip
         rintro _ wg ⟨hq0, hbj⟩
         have HBj := Aside0.mk hbj
         clear hbj
         have hHeld : Row wg w.heap.size .u8 32 a0 22 := hq0
         clear hq0
         refine norm_ (a' := ?_) ?_ ?_
         rotate_left
         · simp only [putAll, Act.put, List.setIfInBounds_toArray, List.set_cons_zero, List.set_cons_succ]
           rfl
         refine two_ (i := 4) (j := 5) (Ni := some 7) (Nj := some 8) #[true, true, true, true, true, false, false, false] #[true, true, true, true, false, true, false, false] rfl rfl rfl rfl (by kernel_rfl) (by decide) (by decide) (fun K hK => ?_) (fun K hK => ?_)
         · skip
           refine event_step (by rfl) (v := .pointer (some ⟨wg.heap.size, 0, none⟩)) (w1 := wg.alloc (.cells (FR .u64 5 fun _ => 0) 27)) (by first | (go_simp; done) | (go_simp; rfl)) ?_
           have hSn : Row (wg.alloc (.cells (FR .u64 5 fun _ => 0) 27)) w.heap.size .u8 32 a0 22 := hHeld.alloc _
           have HBf := Aside0.mk (HBj.out.alloc HBj.out.size (.cells (FR .u64 5 fun _ => 0) 27))
           have hlo4 : w.heap.size < wg.heap.size := hHeld.lt
           have HR4 := Aside0.mk (Row.new wg .u64 5 (fun _ => 0) 27)
           generalize wg.alloc (.cells (FR .u64 5 fun _ => 0) 27) = wf16 at hSn HBf HR4 ⊢
           refine hK.out _ _ hSn (fun hHeld => ?_)
           clear hSn hK K
           refine norm_ (a' := ?_) ?_ ?_
           rotate_left
           · show Act.put _ (some 7) _ = _
             simp only [Act.put, List.setIfInBounds_toArray, List.set_cons_zero, List.set_cons_succ, i64_w, i32_w]
             rfl
           exact norm_ (by first | (simp only [putAll, Act.put, List.setIfInBounds_toArray, List.set_cons_zero, List.set_cons_succ]; done) | (simp only [putAll, Act.put, List.setIfInBounds_toArray, List.set_cons_zero, List.set_cons_succ]; rfl)) (hJ1_3_4 wg.heap.size _ ⟨HR4.out, hHeld, HBf.out, hlo4⟩)
         · skip
           refine event_step (by rfl) (v := .pointer (some ⟨wg.heap.size, 0, none⟩)) (w1 := wg.alloc (.cells (FR .i64 16 fun _ => 0) 33)) (by first | (go_simp; done) | (go_simp; rfl)) ?_
           have hSn : Row (wg.alloc (.cells (FR .i64 16 fun _ => 0) 33)) w.heap.size .u8 32 a0 22 := hHeld.alloc _
           have HBf := Aside0.mk (HBj.out.alloc HBj.out.size (.cells (FR .i64 16 fun _ => 0) 33))
           have hlo5 : w.heap.size < wg.heap.size := hHeld.lt
           have HR5 := Aside0.mk (Row.new wg .i64 16 (fun _ => 0) 33)
           generalize wg.alloc (.cells (FR .i64 16 fun _ => 0) 33) = wf17 at hSn HBf HR5 ⊢
           refine hK.out _ _ hSn (fun hHeld => ?_)
           clear hSn hK K
           refine norm_ (a' := ?_) ?_ ?_
           rotate_left
           · show Act.put _ (some 8) _ = _
             simp only [Act.put, List.setIfInBounds_toArray, List.set_cons_zero, List.set_cons_succ, i64_w, i32_w]
             rfl
           exact norm_ (by first | (simp only [putAll, Act.put, List.setIfInBounds_toArray, List.set_cons_zero, List.set_cons_succ]; done) | (simp only [putAll, Act.put, List.setIfInBounds_toArray, List.set_cons_zero, List.set_cons_succ]; rfl)) (hJ1_3_5 wg.heap.size _ ⟨HR5.out, hHeld, HBf.out, hlo5⟩)
       ·skip
        rintro ⟨n4, n5⟩ wg ⟨HX4, HX5, hq0, hbj, hlo4, hlo5, hne5_4⟩
        have HX4 := Aside0.mk HX4
        have HX5 := Aside0.mk HX5
        have HBj := Aside0.mk hbj
        clear hbj
        have hHeld : Row wg w.heap.size .u8 32 a0 22 := hq0
        clear hq0
        refine norm_ (a' := ?_) ?_ ?_
        rotate_left
        · simp only [putAll, Act.put, List.setIfInBounds_toArray, List.set_cons_zero, List.set_cons_succ]
          rfl
        refine one_ (i := 3) (N := some 26) #[true, true, true, true, true, true, false, false] rfl rfl (one_of HT_.out (by kernel_rfl)) (by decide) (fun K hK => ?_)
        refine goes_ Try.func15 rfl rfl #[.agg (FR .u8 32 a0)] rfl rfl rfl (by simp only [List.map_toArray, List.map_cons, List.map_nil]; rfl) ((num_calls' a0 _ HA0.out).mono ?_)
        rintro e wf18 ⟨rfl, hb⟩
        have hSn : Row wf18 w.heap.size .u8 32 a0 22 := hHeld.below hb hHeld.lt
        have HBf := Aside0.mk (HBj.out.trans (hb.mono HBj.out.size))
        have HR4 := Aside0.mk (HX4.out.below hb HX4.out.lt)
        have HR5 := Aside0.mk (HX5.out.below hb HX5.out.lt)
        clear hb
        refine ⟨_, rfl, hK.out _ _ hSn (fun hHeld => ?_)⟩
        clear hSn hK K
        refine norm_ (a' := ?_) ?_ ?_
        rotate_left
        · show Act.put _ (some 26) _ = _
          simp only [Act.put, List.setIfInBounds_toArray, List.set_cons_zero, List.set_cons_succ, i64_w, i32_w]
          rfl
        exact norm_ (by first | (simp only [putAll, Act.put, List.setIfInBounds_toArray, List.set_cons_zero, List.set_cons_succ]; done) | (simp only [putAll, Act.put, List.setIfInBounds_toArray, List.set_cons_zero, List.set_cons_succ]; rfl)) (hJ1_3_4_5 (n4, n5) _ ⟨HR4.out, HR5.out, hHeld, HBf.out, hlo4, hlo5, hne5_4⟩)
      ·skip
       rintro n5 wg ⟨HX5, hq0, hbj, hlo5⟩
       have HX5 := Aside0.mk HX5
       have HBj := Aside0.mk hbj
       clear hbj
       have hHeld : Row wg w.heap.size .u8 32 a0 22 := hq0
       clear hq0
       refine norm_ (a' := ?_) ?_ ?_
       rotate_left
       · simp only [putAll, Act.put, List.setIfInBounds_toArray, List.set_cons_zero, List.set_cons_succ]
         rfl
       refine one_ (i := 4) (N := some 7) #[true, true, true, true, true, true, false, false] rfl rfl (one_of HT_.out (by kernel_rfl)) (by decide) (fun K hK => ?_)
       refine event_step (by rfl) (v := .pointer (some ⟨wg.heap.size, 0, none⟩)) (w1 := wg.alloc (.cells (FR .u64 5 fun _ => 0) 27)) (by first | (go_simp; done) | (go_simp; rfl)) ?_
       have hSn : Row (wg.alloc (.cells (FR .u64 5 fun _ => 0) 27)) w.heap.size .u8 32 a0 22 := hHeld.alloc _
       have HBf := Aside0.mk (HBj.out.alloc HBj.out.size (.cells (FR .u64 5 fun _ => 0) 27))
       have hlo4 : w.heap.size < wg.heap.size := hHeld.lt
       have hne5_4 : n5 ≠ wg.heap.size := by have := HX5.out.lt; omega
       have HR5 := Aside0.mk (HX5.out.alloc (.cells (FR .u64 5 fun _ => 0) 27))
       have HR4 := Aside0.mk (Row.new wg .u64 5 (fun _ => 0) 27)
       generalize wg.alloc (.cells (FR .u64 5 fun _ => 0) 27) = wf19 at hSn HBf HR5 HR4 ⊢
       refine hK.out _ _ hSn (fun hHeld => ?_)
       clear hSn hK K
       refine norm_ (a' := ?_) ?_ ?_
       rotate_left
       · show Act.put _ (some 7) _ = _
         simp only [Act.put, List.setIfInBounds_toArray, List.set_cons_zero, List.set_cons_succ, i64_w, i32_w]
         rfl
       exact norm_ (by first | (simp only [putAll, Act.put, List.setIfInBounds_toArray, List.set_cons_zero, List.set_cons_succ]; done) | (simp only [putAll, Act.put, List.setIfInBounds_toArray, List.set_cons_zero, List.set_cons_succ]; rfl)) (hJ1_3_4_5 (wg.heap.size, n5) _ ⟨HR4.out, HR5.out, hHeld, HBf.out, hlo4, hlo5, hne5_4⟩)
     ·skip
      rintro n4 wg ⟨HX4, hq0, hbj, hlo4⟩
      have HX4 := Aside0.mk HX4
      have HBj := Aside0.mk hbj
      clear hbj
      have hHeld : Row wg w.heap.size .u8 32 a0 22 := hq0
      clear hq0
      refine norm_ (a' := ?_) ?_ ?_
      rotate_left
      · simp only [putAll, Act.put, List.setIfInBounds_toArray, List.set_cons_zero, List.set_cons_succ]
        rfl
      refine one_ (i := 5) (N := some 8) #[true, true, true, true, true, true, false, false] rfl rfl (one_of HT_.out (by kernel_rfl)) (by decide) (fun K hK => ?_)
      refine event_step (by rfl) (v := .pointer (some ⟨wg.heap.size, 0, none⟩)) (w1 := wg.alloc (.cells (FR .i64 16 fun _ => 0) 33)) (by first | (go_simp; done) | (go_simp; rfl)) ?_
      have hSn : Row (wg.alloc (.cells (FR .i64 16 fun _ => 0) 33)) w.heap.size .u8 32 a0 22 := hHeld.alloc _
      have HBf := Aside0.mk (HBj.out.alloc HBj.out.size (.cells (FR .i64 16 fun _ => 0) 33))
      have hlo5 : w.heap.size < wg.heap.size := hHeld.lt
      have hne5_4 : wg.heap.size ≠ n4 := by have := HX4.out.lt; omega
      have HR4 := Aside0.mk (HX4.out.alloc (.cells (FR .i64 16 fun _ => 0) 33))
      have HR5 := Aside0.mk (Row.new wg .i64 16 (fun _ => 0) 33)
      generalize wg.alloc (.cells (FR .i64 16 fun _ => 0) 33) = wf20 at hSn HBf HR4 HR5 ⊢
      refine hK.out _ _ hSn (fun hHeld => ?_)
      clear hSn hK K
      refine norm_ (a' := ?_) ?_ ?_
      rotate_left
      · show Act.put _ (some 8) _ = _
        simp only [Act.put, List.setIfInBounds_toArray, List.set_cons_zero, List.set_cons_succ, i64_w, i32_w]
        rfl
      exact norm_ (by first | (simp only [putAll, Act.put, List.setIfInBounds_toArray, List.set_cons_zero, List.set_cons_succ]; done) | (simp only [putAll, Act.put, List.setIfInBounds_toArray, List.set_cons_zero, List.set_cons_succ]; rfl)) (hJ1_3_4_5 (n4, wg.heap.size) _ ⟨HR4.out, HR5.out, hHeld, HBf.out, hlo4, hlo5, hne5_4⟩)
    rintro ⟨n4, n5⟩ wj ⟨HX4, HX5, hq0, hbj, hlo4, hlo5, hne5_4⟩
    have HX4 := Aside0.mk HX4
    have HX5 := Aside0.mk HX5
    have HBj := Aside0.mk hbj
    clear hbj
    have hHeld : Row wj w.heap.size .u8 32 a0 22 := hq0
    clear hq0
    refine norm_ (a' := ?_) ?_ ?_
    rotate_left
    · simp only [putAll, Act.put, List.setIfInBounds_toArray, List.set_cons_zero, List.set_cons_succ]
      rfl
    refine one_ (i := 6) (N := none) #[true, true, true, true, true, true, true, false] rfl rfl (one_of HT_.out (by kernel_rfl)) (by decide) (fun K hK => ?_)
    refine oper_storeG (carr (ofL a0)) HX4.out info27 rfl rfl rfl rfl rfl ?_
    intro ws21 hs hr
    have hSn : Row ws21 w.heap.size .u8 32 a0 22 := hHeld.stored hs (by omega)
    have HX5 := Aside0.mk (HX5.out.stored hs (by omega))
    have HX4 := Aside0.mk hr
    have HBs21 := Aside0.mk (hs.bel _ _ (by omega) HBj.out)
    clear hs hr
    refine hK.out _ _ hSn (fun hHeld => ?_)
    clear hSn hK K
    refine one_ (i := 7) (N := none) #[true, true, true, true, true, true, true, true] rfl rfl (one_of HT_.out (by kernel_rfl)) (by decide) (fun K hK => ?_)
    refine oper_storeG (numD a0) HX5.out info33 rfl rfl rfl rfl rfl ?_
    intro ws22 hs hr
    have hSn : Row ws22 w.heap.size .u8 32 a0 22 := hHeld.stored hs (by omega)
    have HX4 := Aside0.mk (HX4.out.stored hs (by omega))
    have HX5 := Aside0.mk hr
    have HBs22 := Aside0.mk (hs.bel _ _ (by omega) HBs21.out)
    clear hs hr
    refine hK.out _ _ hSn (fun hHeld => ?_)
    clear hSn hK K
    refine done_ (done_of HT_.out (by kernel_rfl)) ?_
    clear hHeld HT_ HW_
    go_wp2_with fail
    go_loopw [29] (fun v29 wr => WRel w n4 n5 v29 len1 wr) (fun v _ => len1 - (intOf v).toNat)
    case atStart => exact ⟨0, _, _, _, by omega, rfl, HBs22.out, HX4.out, HX5.out, Fe.of a0 HA0.out, Re.num a0 HA0.out⟩
    case round =>
      clear HBs22 HX4 HX5
      obtain ⟨i, f, g, n, hi, rfl, hb, hx, hy, hf, hg⟩ := hrel
      have HF := Aside0.mk hf
      have HG := Aside0.mk hg
      have HB := Aside0.mk hb
      have HX := Aside0.mk hx
      have HY := Aside0.mk hy
      have hlx := hx.lt
      have hly := hy.lt
      have hws := hb.size
      clear hb hx hy hf hg
      rcases Nat.lt_or_ge i len1 with h5 | h5
      · have hlt : ((i : Int) < (len1 : Int)) = True := eq_true (by omega)
        have hlt2 : ((i : Int) < (len2 : Int)) = True := eq_true (by omega)
        obtain ⟨x, rfl, hcx⟩ := HW1.out i h5
        have HE : Aside0 (By (z1 i)) := ⟨fun j hj => u8b (hcx j hj).2⟩
        have HC : Aside0 (∀ j, j < 32 → wr.cell? ((x.add (i * 32)).add j) = some (.int .u8 (z1 i j))) := ⟨fun j hj => by
          have h := (hcx j hj).1
          have hblk := block_lt_of_cell h
          rw [HB.out.cell hblk, h]⟩
        obtain ⟨kz, hkz⟩ : ∃ kz, ∃ y, a2 = some y ∧ wr.cell? (y.add i) = some (.int .i64 kz) := by
          rcases HW2.out with ⟨_, h0, _⟩ | ⟨y, hy, hle, hm, hz, hc, _⟩
          · omega
          · refine ⟨z2.getD i 0, y, hy, ?_⟩
            have h := hc i (by omega)
            have hblk := block_lt_of_cell h
            rw [HB.out.cell hblk, h]
        obtain ⟨y, rfl, hky⟩ := hkz
        clear hcx
        have HNW := Aside0.mk (Row.new wr .u8 32 (fun _ => 0) 22)
        have HXa := Aside0.mk (HX.out.alloc (.cells (FR .u8 32 fun _ => 0) 22))
        have HYa := Aside0.mk (HY.out.alloc (.cells (FR .u8 32 fun _ => 0) 22))
        have HBa := Aside0.mk (HB.out.alloc hws (.cells (FR .u8 32 fun _ => 0) 22))
        have hblk := block_lt_of_cell hky
        have hkya : Aside0 ((wr.alloc (.cells (FR .u8 32 fun _ => 0) 22)).cell? (y.add i) = some (.int .i64 kz)) := ⟨by
          have hbb := Below.alloc (Below.refl wr.heap.size wr) (Nat.le_refl _) (.cells (FR .u8 32 fun _ => 0) 22)
          rw [hbb.cell hblk]; exact hky⟩
        go_wp2_with (first | refine step_load_at HC.out Try.underlying22 info22 rfl rfl rfl rfl ?_ | (refine step_storeG (z1 i) HNW.out info22 rfl rfl rfl rfl rfl ?_; intro w8 hs hr; have HEr := Aside0.mk hr; have HXb := Aside0.mk (HXa.out.stored hs (by omega)); have HYb := Aside0.mk (HYa.out.stored hs (by omega)); have HBb := Aside0.mk (hs.bel _ _ (by omega) HBa.out); have hk8 : w8.cell? (y.add i) = some (.int .i64 kz) := (World.cell?_of_block (hs.other _ (show (y.add i).block ≠ wr.heap.size by omega))).trans hkya.out; clear hs hr))
        · have hh : Row w8.drew n4 .u64 5 f 27 ∧ Row w8.drew n5 .i64 16 g 33 ∧ Row w8.drew wr.heap.size .u8 32 (z1 i) 22 := ⟨HXb.out, HYb.out, HEr.out⟩
          have HBe := Aside0.mk HBb.out.drew
          clear HXb HYb HEr HBb HXa HYa HBa HNW hkya hk8 HX HY HB HC
          refine start_ (n := 10) (S := (fun w' => Row w' n4 .u64 5 f 27 ∧ Row w' n5 .i64 16 g 33 ∧ Row w' wr.heap.size .u8 32 (z1 i) 22)) (ds := [8, 9]) #[false, false, false, false, false, false, false, false, false, false] (by kernel_rfl) rfl rfl hh (fun hHeld => ?_); refine with_tabW tab711 bits711 (fun HT_ HW_ => ?_)
          generalize w8.drew = w9 at HBe hHeld hh ⊢
          clear hh
          refine take_ (i := 0) (N := some 41) (v := ?_) (a' := ?_) #[true, false, false, false, false, false, false, false, false, false] rfl rfl (take_ofW HT_.out HW_.out (by kernel_rfl)) (fun _ _ _ h => h) (Or.inl ⟨by rfl, ?_⟩) hHeld ?_ ?_
          rotate_left
          · intro w' hsw
            refine exec_load (x := .tmp 7) hsw.1 Try.underlying27 info27 rfl ?_ ?_ <;> rfl
          rotate_left
          · simp only [Act.put, List.setIfInBounds_toArray, List.set_cons_zero, List.set_cons_succ, i64_w, i32_w]
            rfl
          refine take_ (i := 1) (N := some 42) (v := ?_) (a' := ?_) #[true, true, false, false, false, false, false, false, false, false] rfl rfl (take_ofW HT_.out HW_.out (by kernel_rfl)) (fun _ _ _ h => h) (Or.inl ⟨by rfl, ?_⟩) hHeld ?_ ?_
          rotate_left
          · intro w' hsw
            refine exec_load (x := .tmp 10) hsw.2.2 Try.underlying22 info22 rfl ?_ ?_ <;> rfl
          rotate_left
          · simp only [Act.put, List.setIfInBounds_toArray, List.set_cons_zero, List.set_cons_succ, i64_w, i32_w]
            rfl
          refine take_ (i := 4) (N := some 45) (v := ?_) (a' := ?_) #[true, true, false, false, true, false, false, false, false, false] rfl rfl (take_ofW HT_.out HW_.out (by kernel_rfl)) (fun _ _ _ h => h) (Or.inl ⟨by rfl, ?_⟩) hHeld ?_ ?_
          rotate_left
          · intro w' hsw
            refine exec_load (x := .tmp 8) hsw.2.1 Try.underlying33 info33 rfl ?_ ?_ <;> rfl
          rotate_left
          · simp only [Act.put, List.setIfInBounds_toArray, List.set_cons_zero, List.set_cons_succ, i64_w, i32_w]
            rfl
          refine take_ (i := 5) (N := some 46) (v := ?_) (a' := ?_) #[true, true, false, false, true, true, false, false, false, false] rfl rfl (take_ofW HT_.out HW_.out (by kernel_rfl)) (fun _ _ _ h => h) (Or.inl ⟨by rfl, ?_⟩) hHeld ?_ ?_
          rotate_left
          · intro w' hsw
            refine exec_load (x := .tmp 10) hsw.2.2 Try.underlying22 info22 rfl ?_ ?_ <;> rfl
          rotate_left
          · simp only [Act.put, List.setIfInBounds_toArray, List.set_cons_zero, List.set_cons_succ, i64_w, i32_w]
            rfl
          refine join_ (σ := Unit) 2 #[true, true, true, true, true, true, true, true, false, false] (fun s => [(43, .agg (FR .u64 5 (carr (ofL (z1 i))))), (44, .agg (FR .u64 5 (addE f (carr (ofL (z1 i)))))), (47, .agg (FR .i64 16 (numD (z1 i)))), (48, .agg (FR .i64 16 (addR g (numD (z1 i)))))]) (fun s w' => Row w' n4 .u64 5 f 27 ∧ Row w' n5 .i64 16 g 33 ∧ Row w' wr.heap.size .u8 32 (z1 i) 22 ∧ Below w.heap.size w w') ?_ ?_
          rotate_left
          ·intro hJ2_3_6_7
           refine join_ (σ := Unit) 3 #[true, true, true, true, true, true, true, false, false, false] (fun s => [(43, .agg (FR .u64 5 (carr (ofL (z1 i))))), (44, .agg (FR .u64 5 (addE f (carr (ofL (z1 i)))))), (47, .agg (FR .i64 16 (numD (z1 i))))]) (fun s w' => Row w' n4 .u64 5 f 27 ∧ Row w' n5 .i64 16 g 33 ∧ Row w' wr.heap.size .u8 32 (z1 i) 22 ∧ Below w.heap.size w w') ?_ ?_
           rotate_left
           ·intro hJ2_3_6
            refine join_ (σ := Unit) 4 #[true, true, true, true, true, true, false, false, false, false] (fun s => [(43, .agg (FR .u64 5 (carr (ofL (z1 i))))), (44, .agg (FR .u64 5 (addE f (carr (ofL (z1 i))))))]) (fun s w' => Row w' n4 .u64 5 f 27 ∧ Row w' n5 .i64 16 g 33 ∧ Row w' wr.heap.size .u8 32 (z1 i) 22 ∧ Below w.heap.size w w') ?_ ?_
            rotate_left
            ·intro hJ2_3
             refine join_ (σ := Unit) 5 #[true, true, true, false, true, true, false, false, false, false] (fun s => [(43, .agg (FR .u64 5 (carr (ofL (z1 i)))))]) (fun s w' => Row w' n4 .u64 5 f 27 ∧ Row w' n5 .i64 16 g 33 ∧ Row w' wr.heap.size .u8 32 (z1 i) 22 ∧ Below w.heap.size w w') ?_ ?_
             rotate_left
             ·intro hJ2
              refine one_ (i := 2) (N := some 43) #[true, true, true, false, true, true, false, false, false, false] rfl rfl (one_of HT_.out (by kernel_rfl)) (by decide) (fun K hK => ?_)
              refine goes_ Try.func13 rfl rfl #[.agg (FR .u8 32 (z1 i))] rfl rfl rfl (by simp only [List.map_toArray, List.map_cons, List.map_nil]; rfl) ((Of_elem_calls (z1 i) _ HE.out).mono ?_)
              rintro e wf51 ⟨rfl, hb⟩
              have hSn : Row wf51 n4 .u64 5 f 27 ∧ Row wf51 n5 .i64 16 g 33 ∧ Row wf51 wr.heap.size .u8 32 (z1 i) 22 := ⟨hHeld.1.below hb hHeld.1.lt, hHeld.2.1.below hb hHeld.2.1.lt, hHeld.2.2.below hb hHeld.2.2.lt⟩
              have HBf := Aside0.mk (HBe.out.trans (hb.mono HBe.out.size))
              clear hb
              refine ⟨_, rfl, hK.out _ _ hSn (fun hHeld => ?_)⟩
              clear hSn hK K
              refine norm_ (a' := ?_) ?_ ?_
              rotate_left
              · show Act.put _ (some 43) _ = _
                simp only [Act.put, List.setIfInBounds_toArray, List.set_cons_zero, List.set_cons_succ, i64_w, i32_w]
                rfl
              exact norm_ (by first | (simp only [putAll, Act.put, List.setIfInBounds_toArray, List.set_cons_zero, List.set_cons_succ]; done) | (simp only [putAll, Act.put, List.setIfInBounds_toArray, List.set_cons_zero, List.set_cons_succ]; rfl)) (hJ2 () _ ⟨hHeld.1, hHeld.2.1, hHeld.2.2, HBf.out⟩)
             ·skip
              rintro _ wg ⟨hq0, hq1, hq2, hbj⟩
              have HBj := Aside0.mk hbj
              clear hbj
              have hHeld : Row wg n4 .u64 5 f 27 ∧ Row wg n5 .i64 16 g 33 ∧ Row wg wr.heap.size .u8 32 (z1 i) 22 := ⟨hq0, hq1, hq2⟩
              clear hq0 hq1 hq2
              refine norm_ (a' := ?_) ?_ ?_
              rotate_left
              · simp only [putAll, Act.put, List.setIfInBounds_toArray, List.set_cons_zero, List.set_cons_succ]
                rfl
              refine one_ (i := 3) (N := some 44) #[true, true, true, true, true, true, false, false, false, false] rfl rfl (one_of HT_.out (by kernel_rfl)) (by decide) (fun K hK => ?_)
              refine goes_ Try.func20 rfl rfl #[.agg (FR .u64 5 f), .agg (FR .u64 5 (carr (ofL (z1 i))))] rfl rfl rfl (by simp only [List.map_toArray, List.map_cons, List.map_nil]; rfl) ((addE_c _ _ _ HF.out.1 (Fe.of (z1 i) HE.out).1).mono ?_)
              rintro e wf52 ⟨rfl, hb⟩
              have hSn : Row wf52 n4 .u64 5 f 27 ∧ Row wf52 n5 .i64 16 g 33 ∧ Row wf52 wr.heap.size .u8 32 (z1 i) 22 := ⟨hHeld.1.below hb hHeld.1.lt, hHeld.2.1.below hb hHeld.2.1.lt, hHeld.2.2.below hb hHeld.2.2.lt⟩
              have HBf := Aside0.mk (HBj.out.trans (hb.mono HBj.out.size))
              clear hb
              refine ⟨_, rfl, hK.out _ _ hSn (fun hHeld => ?_)⟩
              clear hSn hK K
              refine norm_ (a' := ?_) ?_ ?_
              rotate_left
              · show Act.put _ (some 44) _ = _
                simp only [Act.put, List.setIfInBounds_toArray, List.set_cons_zero, List.set_cons_succ, i64_w, i32_w]
                rfl
              exact norm_ (by first | (simp only [putAll, Act.put, List.setIfInBounds_toArray, List.set_cons_zero, List.set_cons_succ]; done) | (simp only [putAll, Act.put, List.setIfInBounds_toArray, List.set_cons_zero, List.set_cons_succ]; rfl)) (hJ2_3 () _ ⟨hHeld.1, hHeld.2.1, hHeld.2.2, HBf.out⟩)
            ·skip
             rintro _ wg ⟨hq0, hq1, hq2, hbj⟩
             have HBj := Aside0.mk hbj
             clear hbj
             have hHeld : Row wg n4 .u64 5 f 27 ∧ Row wg n5 .i64 16 g 33 ∧ Row wg wr.heap.size .u8 32 (z1 i) 22 := ⟨hq0, hq1, hq2⟩
             clear hq0 hq1 hq2
             refine norm_ (a' := ?_) ?_ ?_
             rotate_left
             · simp only [putAll, Act.put, List.setIfInBounds_toArray, List.set_cons_zero, List.set_cons_succ]
               rfl
             refine one_ (i := 6) (N := some 47) #[true, true, true, true, true, true, true, false, false, false] rfl rfl (one_of HT_.out (by kernel_rfl)) (by decide) (fun K hK => ?_)
             refine goes_ Try.func15 rfl rfl #[.agg (FR .u8 32 (z1 i))] rfl rfl rfl (by simp only [List.map_toArray, List.map_cons, List.map_nil]; rfl) ((num_calls' (z1 i) _ HE.out).mono ?_)
             rintro e wf53 ⟨rfl, hb⟩
             have hSn : Row wf53 n4 .u64 5 f 27 ∧ Row wf53 n5 .i64 16 g 33 ∧ Row wf53 wr.heap.size .u8 32 (z1 i) 22 := ⟨hHeld.1.below hb hHeld.1.lt, hHeld.2.1.below hb hHeld.2.1.lt, hHeld.2.2.below hb hHeld.2.2.lt⟩
             have HBf := Aside0.mk (HBj.out.trans (hb.mono HBj.out.size))
             clear hb
             refine ⟨_, rfl, hK.out _ _ hSn (fun hHeld => ?_)⟩
             clear hSn hK K
             refine norm_ (a' := ?_) ?_ ?_
             rotate_left
             · show Act.put _ (some 47) _ = _
               simp only [Act.put, List.setIfInBounds_toArray, List.set_cons_zero, List.set_cons_succ, i64_w, i32_w]
               rfl
             exact norm_ (by first | (simp only [putAll, Act.put, List.setIfInBounds_toArray, List.set_cons_zero, List.set_cons_succ]; done) | (simp only [putAll, Act.put, List.setIfInBounds_toArray, List.set_cons_zero, List.set_cons_succ]; rfl)) (hJ2_3_6 () _ ⟨hHeld.1, hHeld.2.1, hHeld.2.2, HBf.out⟩)
           ·skip
            rintro _ wg ⟨hq0, hq1, hq2, hbj⟩
            have HBj := Aside0.mk hbj
            clear hbj
            have hHeld : Row wg n4 .u64 5 f 27 ∧ Row wg n5 .i64 16 g 33 ∧ Row wg wr.heap.size .u8 32 (z1 i) 22 := ⟨hq0, hq1, hq2⟩
            clear hq0 hq1 hq2
            refine norm_ (a' := ?_) ?_ ?_
            rotate_left
            · simp only [putAll, Act.put, List.setIfInBounds_toArray, List.set_cons_zero, List.set_cons_succ]
              rfl
            refine one_ (i := 7) (N := some 48) #[true, true, true, true, true, true, true, true, false, false] rfl rfl (one_of HT_.out (by kernel_rfl)) (by decide) (fun K hK => ?_)
            refine goes_ Try.func21 rfl rfl #[.agg (FR .i64 16 g), .agg (FR .i64 16 (numD (z1 i)))] rfl rfl rfl (by simp only [List.map_toArray, List.map_cons, List.map_nil]; rfl) ((addR_c _ _ _ HG.out.1 (Re.num (z1 i) HE.out).1).mono ?_)
            rintro e wf54 ⟨rfl, hb⟩
            have hSn : Row wf54 n4 .u64 5 f 27 ∧ Row wf54 n5 .i64 16 g 33 ∧ Row wf54 wr.heap.size .u8 32 (z1 i) 22 := ⟨hHeld.1.below hb hHeld.1.lt, hHeld.2.1.below hb hHeld.2.1.lt, hHeld.2.2.below hb hHeld.2.2.lt⟩
            have HBf := Aside0.mk (HBj.out.trans (hb.mono HBj.out.size))
            clear hb
            refine ⟨_, rfl, hK.out _ _ hSn (fun hHeld => ?_)⟩
            clear hSn hK K
            refine norm_ (a' := ?_) ?_ ?_
            rotate_left
            · show Act.put _ (some 48) _ = _
              simp only [Act.put, List.setIfInBounds_toArray, List.set_cons_zero, List.set_cons_succ, i64_w, i32_w]
              rfl
            exact norm_ (by first | (simp only [putAll, Act.put, List.setIfInBounds_toArray, List.set_cons_zero, List.set_cons_succ]; done) | (simp only [putAll, Act.put, List.setIfInBounds_toArray, List.set_cons_zero, List.set_cons_succ]; rfl)) (hJ2_3_6_7 () _ ⟨hHeld.1, hHeld.2.1, hHeld.2.2, HBf.out⟩)
          rintro _ wj ⟨hq0, hq1, hq2, hbj⟩
          have HBj := Aside0.mk hbj
          clear hbj
          have hHeld : Row wj n4 .u64 5 f 27 ∧ Row wj n5 .i64 16 g 33 ∧ Row wj wr.heap.size .u8 32 (z1 i) 22 := ⟨hq0, hq1, hq2⟩
          clear hq0 hq1 hq2
          refine norm_ (a' := ?_) ?_ ?_
          rotate_left
          · simp only [putAll, Act.put, List.setIfInBounds_toArray, List.set_cons_zero, List.set_cons_succ]
            rfl
          have HXq := Aside0.mk hHeld.1
          have HYq := Aside0.mk hHeld.2.1
          clear hHeld
          refine last_ (i := 8) (N := none) #[true, true, true, true, true, true, true, true, true, false] rfl rfl (one_of HT_.out (by kernel_rfl)) (by decide) (fun K hK => ?_)
          refine oper_storeG (addE f (carr (ofL (z1 i)))) HXq.out info27 rfl rfl rfl rfl rfl ?_
          intro wv hs hr
          have HXv := Aside0.mk hr
          have HYv := Aside0.mk (HYq.out.stored hs (by omega))
          have HBv := Aside0.mk (hs.bel _ _ (by omega) HBj.out)
          clear hs hr
          refine hK.out _ _ ?_
          clear hK K
          refine last_ (i := 9) (N := none) #[true, true, true, true, true, true, true, true, true, true] rfl rfl (one_of HT_.out (by kernel_rfl)) (by decide) (fun K hK => ?_)
          refine oper_storeG (addR g (numD (z1 i))) HYv.out info33 rfl rfl rfl rfl rfl ?_
          intro wu hs hr
          have HYu := Aside0.mk hr
          have HXu := Aside0.mk (HXv.out.stored hs (by omega))
          have HBu := Aside0.mk (hs.bel _ _ (by omega) HBv.out)
          clear hs hr
          refine hK.out _ _ ?_
          clear hK K
          refine done_ (done_of HT_.out (by kernel_rfl)) ?_
          clear HT_ HW_
          go_wp2_with fail
          exact ⟨⟨i + 1, _, _, _, by omega, rfl, HBu.out, HXu.out, HYu.out, HF.out.add (Fe.of (z1 i) HE.out), HG.out.add (Re.num (z1 i) HE.out)⟩, meas_up len1 i h5⟩
        · have hh : Row w8.drew n4 .u64 5 f 27 ∧ Row w8.drew n5 .i64 16 g 33 ∧ Row w8.drew wr.heap.size .u8 32 (z1 i) 22 := ⟨HXb.out, HYb.out, HEr.out⟩
          have HBe := Aside0.mk HBb.out.drew
          clear HXb HYb HEr HBb HXa HYa HBa HNW hkya hk8 HX HY HB HC
          refine start_ (n := 10) (S := (fun w' => Row w' n4 .u64 5 f 27 ∧ Row w' n5 .i64 16 g 33 ∧ Row w' wr.heap.size .u8 32 (z1 i) 22)) (ds := [8, 9]) #[false, false, false, false, false, false, false, false, false, false] (by kernel_rfl) rfl rfl hh (fun hHeld => ?_); refine with_tabW tab713 bits713 (fun HT_ HW_ => ?_)
          generalize w8.drew = w9 at HBe hHeld hh ⊢
          clear hh
          refine take_ (i := 0) (N := some 51) (v := ?_) (a' := ?_) #[true, false, false, false, false, false, false, false, false, false] rfl rfl (take_ofW HT_.out HW_.out (by kernel_rfl)) (fun _ _ _ h => h) (Or.inl ⟨by rfl, ?_⟩) hHeld ?_ ?_
          rotate_left
          · intro w' hsw
            refine exec_load (x := .tmp 7) hsw.1 Try.underlying27 info27 rfl ?_ ?_ <;> rfl
          rotate_left
          · simp only [Act.put, List.setIfInBounds_toArray, List.set_cons_zero, List.set_cons_succ, i64_w, i32_w]
            rfl
          refine take_ (i := 1) (N := some 52) (v := ?_) (a' := ?_) #[true, true, false, false, false, false, false, false, false, false] rfl rfl (take_ofW HT_.out HW_.out (by kernel_rfl)) (fun _ _ _ h => h) (Or.inl ⟨by rfl, ?_⟩) hHeld ?_ ?_
          rotate_left
          · intro w' hsw
            refine exec_load (x := .tmp 10) hsw.2.2 Try.underlying22 info22 rfl ?_ ?_ <;> rfl
          rotate_left
          · simp only [Act.put, List.setIfInBounds_toArray, List.set_cons_zero, List.set_cons_succ, i64_w, i32_w]
            rfl
          refine take_ (i := 4) (N := some 55) (v := ?_) (a' := ?_) #[true, true, false, false, true, false, false, false, false, false] rfl rfl (take_ofW HT_.out HW_.out (by kernel_rfl)) (fun _ _ _ h => h) (Or.inl ⟨by rfl, ?_⟩) hHeld ?_ ?_
          rotate_left
          · intro w' hsw
            refine exec_load (x := .tmp 8) hsw.2.1 Try.underlying33 info33 rfl ?_ ?_ <;> rfl
          rotate_left
          · simp only [Act.put, List.setIfInBounds_toArray, List.set_cons_zero, List.set_cons_succ, i64_w, i32_w]
            rfl
          refine take_ (i := 5) (N := some 56) (v := ?_) (a' := ?_) #[true, true, false, false, true, true, false, false, false, false] rfl rfl (take_ofW HT_.out HW_.out (by kernel_rfl)) (fun _ _ _ h => h) (Or.inl ⟨by rfl, ?_⟩) hHeld ?_ ?_
          rotate_left
          · intro w' hsw
            refine exec_load (x := .tmp 10) hsw.2.2 Try.underlying22 info22 rfl ?_ ?_ <;> rfl
          rotate_left
          · simp only [Act.put, List.setIfInBounds_toArray, List.set_cons_zero, List.set_cons_succ, i64_w, i32_w]
            rfl
          refine join_ (σ := Unit) 2 #[true, true, true, true, true, true, true, true, false, false] (fun s => [(53, .agg (FR .u64 5 (carr (ofL (z1 i))))), (54, .agg (FR .u64 5 (subE f (carr (ofL (z1 i)))))), (57, .agg (FR .i64 16 (numD (z1 i)))), (58, .agg (FR .i64 16 (subR g (numD (z1 i)))))]) (fun s w' => Row w' n4 .u64 5 f 27 ∧ Row w' n5 .i64 16 g 33 ∧ Row w' wr.heap.size .u8 32 (z1 i) 22 ∧ Below w.heap.size w w') ?_ ?_
          rotate_left
          ·intro hJ2_3_6_7
           refine join_ (σ := Unit) 3 #[true, true, true, true, true, true, true, false, false, false] (fun s => [(53, .agg (FR .u64 5 (carr (ofL (z1 i))))), (54, .agg (FR .u64 5 (subE f (carr (ofL (z1 i)))))), (57, .agg (FR .i64 16 (numD (z1 i))))]) (fun s w' => Row w' n4 .u64 5 f 27 ∧ Row w' n5 .i64 16 g 33 ∧ Row w' wr.heap.size .u8 32 (z1 i) 22 ∧ Below w.heap.size w w') ?_ ?_
           rotate_left
           ·intro hJ2_3_6
            refine join_ (σ := Unit) 4 #[true, true, true, true, true, true, false, false, false, false] (fun s => [(53, .agg (FR .u64 5 (carr (ofL (z1 i))))), (54, .agg (FR .u64 5 (subE f (carr (ofL (z1 i))))))]) (fun s w' => Row w' n4 .u64 5 f 27 ∧ Row w' n5 .i64 16 g 33 ∧ Row w' wr.heap.size .u8 32 (z1 i) 22 ∧ Below w.heap.size w w') ?_ ?_
            rotate_left
            ·intro hJ2_3
             refine join_ (σ := Unit) 5 #[true, true, true, false, true, true, false, false, false, false] (fun s => [(53, .agg (FR .u64 5 (carr (ofL (z1 i)))))]) (fun s w' => Row w' n4 .u64 5 f 27 ∧ Row w' n5 .i64 16 g 33 ∧ Row w' wr.heap.size .u8 32 (z1 i) 22 ∧ Below w.heap.size w w') ?_ ?_
             rotate_left
             ·intro hJ2
              refine one_ (i := 2) (N := some 53) #[true, true, true, false, true, true, false, false, false, false] rfl rfl (one_of HT_.out (by kernel_rfl)) (by decide) (fun K hK => ?_)
              refine goes_ Try.func13 rfl rfl #[.agg (FR .u8 32 (z1 i))] rfl rfl rfl (by simp only [List.map_toArray, List.map_cons, List.map_nil]; rfl) ((Of_elem_calls (z1 i) _ HE.out).mono ?_)
              rintro e wf51 ⟨rfl, hb⟩
              have hSn : Row wf51 n4 .u64 5 f 27 ∧ Row wf51 n5 .i64 16 g 33 ∧ Row wf51 wr.heap.size .u8 32 (z1 i) 22 := ⟨hHeld.1.below hb hHeld.1.lt, hHeld.2.1.below hb hHeld.2.1.lt, hHeld.2.2.below hb hHeld.2.2.lt⟩
              have HBf := Aside0.mk (HBe.out.trans (hb.mono HBe.out.size))
              clear hb
              refine ⟨_, rfl, hK.out _ _ hSn (fun hHeld => ?_)⟩
              clear hSn hK K
              refine norm_ (a' := ?_) ?_ ?_
              rotate_left
              · show Act.put _ (some 53) _ = _
                simp only [Act.put, List.setIfInBounds_toArray, List.set_cons_zero, List.set_cons_succ, i64_w, i32_w]
                rfl
              exact norm_ (by first | (simp only [putAll, Act.put, List.setIfInBounds_toArray, List.set_cons_zero, List.set_cons_succ]; done) | (simp only [putAll, Act.put, List.setIfInBounds_toArray, List.set_cons_zero, List.set_cons_succ]; rfl)) (hJ2 () _ ⟨hHeld.1, hHeld.2.1, hHeld.2.2, HBf.out⟩)
             ·skip
              rintro _ wg ⟨hq0, hq1, hq2, hbj⟩
              have HBj := Aside0.mk hbj
              clear hbj
              have hHeld : Row wg n4 .u64 5 f 27 ∧ Row wg n5 .i64 16 g 33 ∧ Row wg wr.heap.size .u8 32 (z1 i) 22 := ⟨hq0, hq1, hq2⟩
              clear hq0 hq1 hq2
              refine norm_ (a' := ?_) ?_ ?_
              rotate_left
              · simp only [putAll, Act.put, List.setIfInBounds_toArray, List.set_cons_zero, List.set_cons_succ]
                rfl
              refine one_ (i := 3) (N := some 54) #[true, true, true, true, true, true, false, false, false, false] rfl rfl (one_of HT_.out (by kernel_rfl)) (by decide) (fun K hK => ?_)
              refine goes_ Try.func22 rfl rfl #[.agg (FR .u64 5 f), .agg (FR .u64 5 (carr (ofL (z1 i))))] rfl rfl rfl (by simp only [List.map_toArray, List.map_cons, List.map_nil]; rfl) ((subE_c _ _ _ HF.out.1 (Fe.of (z1 i) HE.out).1).mono ?_)
              rintro e wf52 ⟨rfl, hb⟩
              have hSn : Row wf52 n4 .u64 5 f 27 ∧ Row wf52 n5 .i64 16 g 33 ∧ Row wf52 wr.heap.size .u8 32 (z1 i) 22 := ⟨hHeld.1.below hb hHeld.1.lt, hHeld.2.1.below hb hHeld.2.1.lt, hHeld.2.2.below hb hHeld.2.2.lt⟩
              have HBf := Aside0.mk (HBj.out.trans (hb.mono HBj.out.size))
              clear hb
              refine ⟨_, rfl, hK.out _ _ hSn (fun hHeld => ?_)⟩
              clear hSn hK K
              refine norm_ (a' := ?_) ?_ ?_
              rotate_left
              · show Act.put _ (some 54) _ = _
                simp only [Act.put, List.setIfInBounds_toArray, List.set_cons_zero, List.set_cons_succ, i64_w, i32_w]
                rfl
              exact norm_ (by first | (simp only [putAll, Act.put, List.setIfInBounds_toArray, List.set_cons_zero, List.set_cons_succ]; done) | (simp only [putAll, Act.put, List.setIfInBounds_toArray, List.set_cons_zero, List.set_cons_succ]; rfl)) (hJ2_3 () _ ⟨hHeld.1, hHeld.2.1, hHeld.2.2, HBf.out⟩)
            ·skip
             rintro _ wg ⟨hq0, hq1, hq2, hbj⟩
             have HBj := Aside0.mk hbj
             clear hbj
             have hHeld : Row wg n4 .u64 5 f 27 ∧ Row wg n5 .i64 16 g 33 ∧ Row wg wr.heap.size .u8 32 (z1 i) 22 := ⟨hq0, hq1, hq2⟩
             clear hq0 hq1 hq2
             refine norm_ (a' := ?_) ?_ ?_
             rotate_left
             · simp only [putAll, Act.put, List.setIfInBounds_toArray, List.set_cons_zero, List.set_cons_succ]
               rfl
             refine one_ (i := 6) (N := some 57) #[true, true, true, true, true, true, true, false, false, false] rfl rfl (one_of HT_.out (by kernel_rfl)) (by decide) (fun K hK => ?_)
             refine goes_ Try.func15 rfl rfl #[.agg (FR .u8 32 (z1 i))] rfl rfl rfl (by simp only [List.map_toArray, List.map_cons, List.map_nil]; rfl) ((num_calls' (z1 i) _ HE.out).mono ?_)
             rintro e wf53 ⟨rfl, hb⟩
             have hSn : Row wf53 n4 .u64 5 f 27 ∧ Row wf53 n5 .i64 16 g 33 ∧ Row wf53 wr.heap.size .u8 32 (z1 i) 22 := ⟨hHeld.1.below hb hHeld.1.lt, hHeld.2.1.below hb hHeld.2.1.lt, hHeld.2.2.below hb hHeld.2.2.lt⟩
             have HBf := Aside0.mk (HBj.out.trans (hb.mono HBj.out.size))
             clear hb
             refine ⟨_, rfl, hK.out _ _ hSn (fun hHeld => ?_)⟩
             clear hSn hK K
             refine norm_ (a' := ?_) ?_ ?_
             rotate_left
             · show Act.put _ (some 57) _ = _
               simp only [Act.put, List.setIfInBounds_toArray, List.set_cons_zero, List.set_cons_succ, i64_w, i32_w]
               rfl
             exact norm_ (by first | (simp only [putAll, Act.put, List.setIfInBounds_toArray, List.set_cons_zero, List.set_cons_succ]; done) | (simp only [putAll, Act.put, List.setIfInBounds_toArray, List.set_cons_zero, List.set_cons_succ]; rfl)) (hJ2_3_6 () _ ⟨hHeld.1, hHeld.2.1, hHeld.2.2, HBf.out⟩)
           ·skip
            rintro _ wg ⟨hq0, hq1, hq2, hbj⟩
            have HBj := Aside0.mk hbj
            clear hbj
            have hHeld : Row wg n4 .u64 5 f 27 ∧ Row wg n5 .i64 16 g 33 ∧ Row wg wr.heap.size .u8 32 (z1 i) 22 := ⟨hq0, hq1, hq2⟩
            clear hq0 hq1 hq2
            refine norm_ (a' := ?_) ?_ ?_
            rotate_left
            · simp only [putAll, Act.put, List.setIfInBounds_toArray, List.set_cons_zero, List.set_cons_succ]
              rfl
            refine one_ (i := 7) (N := some 58) #[true, true, true, true, true, true, true, true, false, false] rfl rfl (one_of HT_.out (by kernel_rfl)) (by decide) (fun K hK => ?_)
            refine goes_ Try.func23 rfl rfl #[.agg (FR .i64 16 g), .agg (FR .i64 16 (numD (z1 i)))] rfl rfl rfl (by simp only [List.map_toArray, List.map_cons, List.map_nil]; rfl) ((subR_c _ _ _ HG.out.1 (Re.num (z1 i) HE.out).1).mono ?_)
            rintro e wf54 ⟨rfl, hb⟩
            have hSn : Row wf54 n4 .u64 5 f 27 ∧ Row wf54 n5 .i64 16 g 33 ∧ Row wf54 wr.heap.size .u8 32 (z1 i) 22 := ⟨hHeld.1.below hb hHeld.1.lt, hHeld.2.1.below hb hHeld.2.1.lt, hHeld.2.2.below hb hHeld.2.2.lt⟩
            have HBf := Aside0.mk (HBj.out.trans (hb.mono HBj.out.size))
            clear hb
            refine ⟨_, rfl, hK.out _ _ hSn (fun hHeld => ?_)⟩
            clear hSn hK K
            refine norm_ (a' := ?_) ?_ ?_
            rotate_left
            · show Act.put _ (some 58) _ = _
              simp only [Act.put, List.setIfInBounds_toArray, List.set_cons_zero, List.set_cons_succ, i64_w, i32_w]
              rfl
            exact norm_ (by first | (simp only [putAll, Act.put, List.setIfInBounds_toArray, List.set_cons_zero, List.set_cons_succ]; done) | (simp only [putAll, Act.put, List.setIfInBounds_toArray, List.set_cons_zero, List.set_cons_succ]; rfl)) (hJ2_3_6_7 () _ ⟨hHeld.1, hHeld.2.1, hHeld.2.2, HBf.out⟩)
          rintro _ wj ⟨hq0, hq1, hq2, hbj⟩
          have HBj := Aside0.mk hbj
          clear hbj
          have hHeld : Row wj n4 .u64 5 f 27 ∧ Row wj n5 .i64 16 g 33 ∧ Row wj wr.heap.size .u8 32 (z1 i) 22 := ⟨hq0, hq1, hq2⟩
          clear hq0 hq1 hq2
          refine norm_ (a' := ?_) ?_ ?_
          rotate_left
          · simp only [putAll, Act.put, List.setIfInBounds_toArray, List.set_cons_zero, List.set_cons_succ]
            rfl
          have HXq := Aside0.mk hHeld.1
          have HYq := Aside0.mk hHeld.2.1
          clear hHeld
          refine last_ (i := 8) (N := none) #[true, true, true, true, true, true, true, true, true, false] rfl rfl (one_of HT_.out (by kernel_rfl)) (by decide) (fun K hK => ?_)
          refine oper_storeG (subE f (carr (ofL (z1 i)))) HXq.out info27 rfl rfl rfl rfl rfl ?_
          intro wv hs hr
          have HXv := Aside0.mk hr
          have HYv := Aside0.mk (HYq.out.stored hs (by omega))
          have HBv := Aside0.mk (hs.bel _ _ (by omega) HBj.out)
          clear hs hr
          refine hK.out _ _ ?_
          clear hK K
          refine last_ (i := 9) (N := none) #[true, true, true, true, true, true, true, true, true, true] rfl rfl (one_of HT_.out (by kernel_rfl)) (by decide) (fun K hK => ?_)
          refine oper_storeG (subR g (numD (z1 i))) HYv.out info33 rfl rfl rfl rfl rfl ?_
          intro wu hs hr
          have HYu := Aside0.mk hr
          have HXu := Aside0.mk (HXv.out.stored hs (by omega))
          have HBu := Aside0.mk (hs.bel _ _ (by omega) HBv.out)
          clear hs hr
          refine hK.out _ _ ?_
          clear hK K
          refine done_ (done_of HT_.out (by kernel_rfl)) ?_
          clear HT_ HW_
          go_wp2_with fail
          exact ⟨⟨i + 1, _, _, _, by omega, rfl, HBu.out, HXu.out, HYu.out, HF.out.sub (Fe.of (z1 i) HE.out), HG.out.sub (Re.num (z1 i) HE.out)⟩, meas_up len1 i h5⟩
        · have hh : Row w8.drew n4 .u64 5 f 27 ∧ Row w8.drew n5 .i64 16 g 33 ∧ Row w8.drew wr.heap.size .u8 32 (z1 i) 22 := ⟨HXb.out, HYb.out, HEr.out⟩
          have HBe := Aside0.mk HBb.out.drew
          clear HXb HYb HEr HBb HXa HYa HBa HNW hkya hk8 HX HY HB HC
          refine start_ (n := 10) (S := (fun w' => Row w' n4 .u64 5 f 27 ∧ Row w' n5 .i64 16 g 33 ∧ Row w' wr.heap.size .u8 32 (z1 i) 22)) (ds := [8, 9]) #[false, false, false, false, false, false, false, false, false, false] (by kernel_rfl) rfl rfl hh (fun hHeld => ?_); refine with_tabW tab715 bits715 (fun HT_ HW_ => ?_)
          generalize w8.drew = w9 at HBe hHeld hh ⊢
          clear hh
          refine take_ (i := 0) (N := some 61) (v := ?_) (a' := ?_) #[true, false, false, false, false, false, false, false, false, false] rfl rfl (take_ofW HT_.out HW_.out (by kernel_rfl)) (fun _ _ _ h => h) (Or.inl ⟨by rfl, ?_⟩) hHeld ?_ ?_
          rotate_left
          · intro w' hsw
            refine exec_load (x := .tmp 7) hsw.1 Try.underlying27 info27 rfl ?_ ?_ <;> rfl
          rotate_left
          · simp only [Act.put, List.setIfInBounds_toArray, List.set_cons_zero, List.set_cons_succ, i64_w, i32_w]
            rfl
          refine take_ (i := 1) (N := some 62) (v := ?_) (a' := ?_) #[true, true, false, false, false, false, false, false, false, false] rfl rfl (take_ofW HT_.out HW_.out (by kernel_rfl)) (fun _ _ _ h => h) (Or.inl ⟨by rfl, ?_⟩) hHeld ?_ ?_
          rotate_left
          · intro w' hsw
            refine exec_load (x := .tmp 10) hsw.2.2 Try.underlying22 info22 rfl ?_ ?_ <;> rfl
          rotate_left
          · simp only [Act.put, List.setIfInBounds_toArray, List.set_cons_zero, List.set_cons_succ, i64_w, i32_w]
            rfl
          refine take_ (i := 4) (N := some 65) (v := ?_) (a' := ?_) #[true, true, false, false, true, false, false, false, false, false] rfl rfl (take_ofW HT_.out HW_.out (by kernel_rfl)) (fun _ _ _ h => h) (Or.inl ⟨by rfl, ?_⟩) hHeld ?_ ?_
          rotate_left
          · intro w' hsw
            refine exec_load (x := .tmp 8) hsw.2.1 Try.underlying33 info33 rfl ?_ ?_ <;> rfl
          rotate_left
          · simp only [Act.put, List.setIfInBounds_toArray, List.set_cons_zero, List.set_cons_succ, i64_w, i32_w]
            rfl
          refine take_ (i := 5) (N := some 66) (v := ?_) (a' := ?_) #[true, true, false, false, true, true, false, false, false, false] rfl rfl (take_ofW HT_.out HW_.out (by kernel_rfl)) (fun _ _ _ h => h) (Or.inl ⟨by rfl, ?_⟩) hHeld ?_ ?_
          rotate_left
          · intro w' hsw
            refine exec_load (x := .tmp 10) hsw.2.2 Try.underlying22 info22 rfl ?_ ?_ <;> rfl
          rotate_left
          · simp only [Act.put, List.setIfInBounds_toArray, List.set_cons_zero, List.set_cons_succ, i64_w, i32_w]
            rfl
          refine join_ (σ := Unit) 2 #[true, true, true, true, true, true, true, true, false, false] (fun s => [(63, .agg (FR .u64 5 (carr (ofL (z1 i))))), (64, .agg (FR .u64 5 (mulE f (carr (ofL (z1 i)))))), (67, .agg (FR .i64 16 (numD (z1 i)))), (68, .agg (FR .i64 16 (mulR g (numD (z1 i)))))]) (fun s w' => Row w' n4 .u64 5 f 27 ∧ Row w' n5 .i64 16 g 33 ∧ Row w' wr.heap.size .u8 32 (z1 i) 22 ∧ Below w.heap.size w w') ?_ ?_
          rotate_left
          ·intro hJ2_3_6_7
           refine join_ (σ := Unit) 3 #[true, true, true, true, true, true, true, false, false, false] (fun s => [(63, .agg (FR .u64 5 (carr (ofL (z1 i))))), (64, .agg (FR .u64 5 (mulE f (carr (ofL (z1 i)))))), (67, .agg (FR .i64 16 (numD (z1 i))))]) (fun s w' => Row w' n4 .u64 5 f 27 ∧ Row w' n5 .i64 16 g 33 ∧ Row w' wr.heap.size .u8 32 (z1 i) 22 ∧ Below w.heap.size w w') ?_ ?_
           rotate_left
           ·intro hJ2_3_6
            refine join_ (σ := Unit) 4 #[true, true, true, true, true, true, false, false, false, false] (fun s => [(63, .agg (FR .u64 5 (carr (ofL (z1 i))))), (64, .agg (FR .u64 5 (mulE f (carr (ofL (z1 i))))))]) (fun s w' => Row w' n4 .u64 5 f 27 ∧ Row w' n5 .i64 16 g 33 ∧ Row w' wr.heap.size .u8 32 (z1 i) 22 ∧ Below w.heap.size w w') ?_ ?_
            rotate_left
            ·intro hJ2_3
             refine join_ (σ := Unit) 5 #[true, true, true, false, true, true, false, false, false, false] (fun s => [(63, .agg (FR .u64 5 (carr (ofL (z1 i)))))]) (fun s w' => Row w' n4 .u64 5 f 27 ∧ Row w' n5 .i64 16 g 33 ∧ Row w' wr.heap.size .u8 32 (z1 i) 22 ∧ Below w.heap.size w w') ?_ ?_
             rotate_left
             ·intro hJ2
              refine one_ (i := 2) (N := some 63) #[true, true, true, false, true, true, false, false, false, false] rfl rfl (one_of HT_.out (by kernel_rfl)) (by decide) (fun K hK => ?_)
              refine goes_ Try.func13 rfl rfl #[.agg (FR .u8 32 (z1 i))] rfl rfl rfl (by simp only [List.map_toArray, List.map_cons, List.map_nil]; rfl) ((Of_elem_calls (z1 i) _ HE.out).mono ?_)
              rintro e wf51 ⟨rfl, hb⟩
              have hSn : Row wf51 n4 .u64 5 f 27 ∧ Row wf51 n5 .i64 16 g 33 ∧ Row wf51 wr.heap.size .u8 32 (z1 i) 22 := ⟨hHeld.1.below hb hHeld.1.lt, hHeld.2.1.below hb hHeld.2.1.lt, hHeld.2.2.below hb hHeld.2.2.lt⟩
              have HBf := Aside0.mk (HBe.out.trans (hb.mono HBe.out.size))
              clear hb
              refine ⟨_, rfl, hK.out _ _ hSn (fun hHeld => ?_)⟩
              clear hSn hK K
              refine norm_ (a' := ?_) ?_ ?_
              rotate_left
              · show Act.put _ (some 63) _ = _
                simp only [Act.put, List.setIfInBounds_toArray, List.set_cons_zero, List.set_cons_succ, i64_w, i32_w]
                rfl
              exact norm_ (by first | (simp only [putAll, Act.put, List.setIfInBounds_toArray, List.set_cons_zero, List.set_cons_succ]; done) | (simp only [putAll, Act.put, List.setIfInBounds_toArray, List.set_cons_zero, List.set_cons_succ]; rfl)) (hJ2 () _ ⟨hHeld.1, hHeld.2.1, hHeld.2.2, HBf.out⟩)
             ·skip
              rintro _ wg ⟨hq0, hq1, hq2, hbj⟩
              have HBj := Aside0.mk hbj
              clear hbj
              have hHeld : Row wg n4 .u64 5 f 27 ∧ Row wg n5 .i64 16 g 33 ∧ Row wg wr.heap.size .u8 32 (z1 i) 22 := ⟨hq0, hq1, hq2⟩
              clear hq0 hq1 hq2
              refine norm_ (a' := ?_) ?_ ?_
              rotate_left
              · simp only [putAll, Act.put, List.setIfInBounds_toArray, List.set_cons_zero, List.set_cons_succ]
                rfl
              refine one_ (i := 3) (N := some 64) #[true, true, true, true, true, true, false, false, false, false] rfl rfl (one_of HT_.out (by kernel_rfl)) (by decide) (fun K hK => ?_)
              refine goes_ Try.func26 rfl rfl #[.agg (FR .u64 5 f), .agg (FR .u64 5 (carr (ofL (z1 i))))] rfl rfl rfl (by simp only [List.map_toArray, List.map_cons, List.map_nil]; rfl) ((elem_mul_calls _ _ _ HF.out.1 (Fe.of (z1 i) HE.out).1).mono ?_)
              rintro e wf52 ⟨rfl, hb⟩
              have hSn : Row wf52 n4 .u64 5 f 27 ∧ Row wf52 n5 .i64 16 g 33 ∧ Row wf52 wr.heap.size .u8 32 (z1 i) 22 := ⟨hHeld.1.below hb hHeld.1.lt, hHeld.2.1.below hb hHeld.2.1.lt, hHeld.2.2.below hb hHeld.2.2.lt⟩
              have HBf := Aside0.mk (HBj.out.trans (hb.mono HBj.out.size))
              clear hb
              refine ⟨_, rfl, hK.out _ _ hSn (fun hHeld => ?_)⟩
              clear hSn hK K
              refine norm_ (a' := ?_) ?_ ?_
              rotate_left
              · show Act.put _ (some 64) _ = _
                simp only [Act.put, List.setIfInBounds_toArray, List.set_cons_zero, List.set_cons_succ, i64_w, i32_w]
                rfl
              exact norm_ (by first | (simp only [putAll, Act.put, List.setIfInBounds_toArray, List.set_cons_zero, List.set_cons_succ]; done) | (simp only [putAll, Act.put, List.setIfInBounds_toArray, List.set_cons_zero, List.set_cons_succ]; rfl)) (hJ2_3 () _ ⟨hHeld.1, hHeld.2.1, hHeld.2.2, HBf.out⟩)
            ·skip
             rintro _ wg ⟨hq0, hq1, hq2, hbj⟩
             have HBj := Aside0.mk hbj
             clear hbj
             have hHeld : Row wg n4 .u64 5 f 27 ∧ Row wg n5 .i64 16 g 33 ∧ Row wg wr.heap.size .u8 32 (z1 i) 22 := ⟨hq0, hq1, hq2⟩
             clear hq0 hq1 hq2
             refine norm_ (a' := ?_) ?_ ?_
             rotate_left
             · simp only [putAll, Act.put, List.setIfInBounds_toArray, List.set_cons_zero, List.set_cons_succ]
               rfl
             refine one_ (i := 6) (N := some 67) #[true, true, true, true, true, true, true, false, false, false] rfl rfl (one_of HT_.out (by kernel_rfl)) (by decide) (fun K hK => ?_)
             refine goes_ Try.func15 rfl rfl #[.agg (FR .u8 32 (z1 i))] rfl rfl rfl (by simp only [List.map_toArray, List.map_cons, List.map_nil]; rfl) ((num_calls' (z1 i) _ HE.out).mono ?_)
             rintro e wf53 ⟨rfl, hb⟩
             have hSn : Row wf53 n4 .u64 5 f 27 ∧ Row wf53 n5 .i64 16 g 33 ∧ Row wf53 wr.heap.size .u8 32 (z1 i) 22 := ⟨hHeld.1.below hb hHeld.1.lt, hHeld.2.1.below hb hHeld.2.1.lt, hHeld.2.2.below hb hHeld.2.2.lt⟩
             have HBf := Aside0.mk (HBj.out.trans (hb.mono HBj.out.size))
             clear hb
             refine ⟨_, rfl, hK.out _ _ hSn (fun hHeld => ?_)⟩
             clear hSn hK K
             refine norm_ (a' := ?_) ?_ ?_
             rotate_left
             · show Act.put _ (some 67) _ = _
               simp only [Act.put, List.setIfInBounds_toArray, List.set_cons_zero, List.set_cons_succ, i64_w, i32_w]
               rfl
             exact norm_ (by first | (simp only [putAll, Act.put, List.setIfInBounds_toArray, List.set_cons_zero, List.set_cons_succ]; done) | (simp only [putAll, Act.put, List.setIfInBounds_toArray, List.set_cons_zero, List.set_cons_succ]; rfl)) (hJ2_3_6 () _ ⟨hHeld.1, hHeld.2.1, hHeld.2.2, HBf.out⟩)
           ·skip
            rintro _ wg ⟨hq0, hq1, hq2, hbj⟩
            have HBj := Aside0.mk hbj
            clear hbj
            have hHeld : Row wg n4 .u64 5 f 27 ∧ Row wg n5 .i64 16 g 33 ∧ Row wg wr.heap.size .u8 32 (z1 i) 22 := ⟨hq0, hq1, hq2⟩
            clear hq0 hq1 hq2
            refine norm_ (a' := ?_) ?_ ?_
            rotate_left
            · simp only [putAll, Act.put, List.setIfInBounds_toArray, List.set_cons_zero, List.set_cons_succ]
              rfl
            refine one_ (i := 7) (N := some 68) #[true, true, true, true, true, true, true, true, false, false] rfl rfl (one_of HT_.out (by kernel_rfl)) (by decide) (fun K hK => ?_)
            refine goes_ Try.func27 rfl rfl #[.agg (FR .i64 16 g), .agg (FR .i64 16 (numD (z1 i)))] rfl rfl rfl (by simp only [List.map_toArray, List.map_cons, List.map_nil]; rfl) ((mulR_c _ _ _ HG.out.1 (Re.num (z1 i) HE.out).1).mono ?_)
            rintro e wf54 ⟨rfl, hb⟩
            have hSn : Row wf54 n4 .u64 5 f 27 ∧ Row wf54 n5 .i64 16 g 33 ∧ Row wf54 wr.heap.size .u8 32 (z1 i) 22 := ⟨hHeld.1.below hb hHeld.1.lt, hHeld.2.1.below hb hHeld.2.1.lt, hHeld.2.2.below hb hHeld.2.2.lt⟩
            have HBf := Aside0.mk (HBj.out.trans (hb.mono HBj.out.size))
            clear hb
            refine ⟨_, rfl, hK.out _ _ hSn (fun hHeld => ?_)⟩
            clear hSn hK K
            refine norm_ (a' := ?_) ?_ ?_
            rotate_left
            · show Act.put _ (some 68) _ = _
              simp only [Act.put, List.setIfInBounds_toArray, List.set_cons_zero, List.set_cons_succ, i64_w, i32_w]
              rfl
            exact norm_ (by first | (simp only [putAll, Act.put, List.setIfInBounds_toArray, List.set_cons_zero, List.set_cons_succ]; done) | (simp only [putAll, Act.put, List.setIfInBounds_toArray, List.set_cons_zero, List.set_cons_succ]; rfl)) (hJ2_3_6_7 () _ ⟨hHeld.1, hHeld.2.1, hHeld.2.2, HBf.out⟩)
          rintro _ wj ⟨hq0, hq1, hq2, hbj⟩
          have HBj := Aside0.mk hbj
          clear hbj
          have hHeld : Row wj n4 .u64 5 f 27 ∧ Row wj n5 .i64 16 g 33 ∧ Row wj wr.heap.size .u8 32 (z1 i) 22 := ⟨hq0, hq1, hq2⟩
          clear hq0 hq1 hq2
          refine norm_ (a' := ?_) ?_ ?_
          rotate_left
          · simp only [putAll, Act.put, List.setIfInBounds_toArray, List.set_cons_zero, List.set_cons_succ]
            rfl
          have HXq := Aside0.mk hHeld.1
          have HYq := Aside0.mk hHeld.2.1
          clear hHeld
          refine last_ (i := 8) (N := none) #[true, true, true, true, true, true, true, true, true, false] rfl rfl (one_of HT_.out (by kernel_rfl)) (by decide) (fun K hK => ?_)
          refine oper_storeG (mulE f (carr (ofL (z1 i)))) HXq.out info27 rfl rfl rfl rfl rfl ?_
          intro wv hs hr
          have HXv := Aside0.mk hr
          have HYv := Aside0.mk (HYq.out.stored hs (by omega))
          have HBv := Aside0.mk (hs.bel _ _ (by omega) HBj.out)
          clear hs hr
          refine hK.out _ _ ?_
          clear hK K
          refine last_ (i := 9) (N := none) #[true, true, true, true, true, true, true, true, true, true] rfl rfl (one_of HT_.out (by kernel_rfl)) (by decide) (fun K hK => ?_)
          refine oper_storeG (mulR g (numD (z1 i))) HYv.out info33 rfl rfl rfl rfl rfl ?_
          intro wu hs hr
          have HYu := Aside0.mk hr
          have HXu := Aside0.mk (HXv.out.stored hs (by omega))
          have HBu := Aside0.mk (hs.bel _ _ (by omega) HBv.out)
          clear hs hr
          refine hK.out _ _ ?_
          clear hK K
          refine done_ (done_of HT_.out (by kernel_rfl)) ?_
          clear HT_ HW_
          go_wp2_with fail
          exact ⟨⟨i + 1, _, _, _, by omega, rfl, HBu.out, HXu.out, HYu.out, HF.out.mul (Fe.of (z1 i) HE.out), HG.out.mul (Re.num (z1 i) HE.out)⟩, meas_up len1 i h5⟩
        · have hh : Row w8.drew n4 .u64 5 f 27 ∧ Row w8.drew n5 .i64 16 g 33 ∧ Row w8.drew wr.heap.size .u8 32 (z1 i) 22 := ⟨HXb.out, HYb.out, HEr.out⟩
          have HBe := Aside0.mk HBb.out.drew
          clear HXb HYb HEr HBb HXa HYa HBa HNW hkya hk8 HX HY HB HC
          refine start_ (n := 11) (S := (fun w' => Row w' n4 .u64 5 f 27 ∧ Row w' n5 .i64 16 g 33 ∧ Row w' wr.heap.size .u8 32 (z1 i) 22)) (ds := [9, 10]) #[false, false, false, false, false, false, false, false, false, false, false] (by kernel_rfl) rfl rfl hh (fun hHeld => ?_); refine with_tabW tab717 bits717 (fun HT_ HW_ => ?_)
          generalize w8.drew = w9 at HBe hHeld hh ⊢
          clear hh
          refine take_ (i := 0) (N := some 71) (v := ?_) (a' := ?_) #[true, false, false, false, false, false, false, false, false, false, false] rfl rfl (take_ofW HT_.out HW_.out (by kernel_rfl)) (fun _ _ _ h => h) (Or.inl ⟨by rfl, ?_⟩) hHeld ?_ ?_
          rotate_left
          · intro w' hsw
            refine exec_load (x := .tmp 10) hsw.2.2 Try.underlying22 info22 rfl ?_ ?_ <;> rfl
          rotate_left
          · simp only [Act.put, List.setIfInBounds_toArray, List.set_cons_zero, List.set_cons_succ, i64_w, i32_w]
            rfl
          refine take_ (i := 2) (N := some 73) (v := ?_) (a' := ?_) #[true, false, true, false, false, false, false, false, false, false, false] rfl rfl (take_ofW HT_.out HW_.out (by kernel_rfl)) (fun _ _ _ h => h) (Or.inl ⟨by rfl, ?_⟩) hHeld ?_ ?_
          rotate_left
          · intro w' hsw
            refine exec_load (x := .tmp 7) hsw.1 Try.underlying27 info27 rfl ?_ ?_ <;> rfl
          rotate_left
          · simp only [Act.put, List.setIfInBounds_toArray, List.set_cons_zero, List.set_cons_succ, i64_w, i32_w]
            rfl
          refine take_ (i := 5) (N := some 76) (v := ?_) (a' := ?_) #[true, false, true, false, false, true, false, false, false, false, false] rfl rfl (take_ofW HT_.out HW_.out (by kernel_rfl)) (fun _ _ _ h => h) (Or.inl ⟨by rfl, ?_⟩) hHeld ?_ ?_
          rotate_left
          · intro w' hsw
            refine exec_load (x := .tmp 10) hsw.2.2 Try.underlying22 info22 rfl ?_ ?_ <;> rfl
          rotate_left
          · simp only [Act.put, List.setIfInBounds_toArray, List.set_cons_zero, List.set_cons_succ, i64_w, i32_w]
            rfl
          refine take_ (i := 7) (N := some 78) (v := ?_) (a' := ?_) #[true, false, true, false, false, true, false, true, false, false, false] rfl rfl (take_ofW HT_.out HW_.out (by kernel_rfl)) (fun _ _ _ h => h) (Or.inl ⟨by rfl, ?_⟩) hHeld ?_ ?_
          rotate_left
          · intro w' hsw
            refine exec_load (x := .tmp 8) hsw.2.1 Try.underlying33 info33 rfl ?_ ?_ <;> rfl
          rotate_left
          · simp only [Act.put, List.setIfInBounds_toArray, List.set_cons_zero, List.set_cons_succ, i64_w, i32_w]
            rfl
          refine join_ (σ := Unit) 2 #[true, true, true, true, true, true, true, true, true, false, false] (fun s => [(72, .agg (FR .u64 5 (carr (ofL (z1 i))))), (74, .agg (FR .u64 5 (negE f))), (75, .agg (FR .u64 5 (subE (carr (ofL (z1 i))) (negE f)))), (77, .agg (FR .i64 16 (numD (z1 i)))), (79, .agg (FR .i64 16 (addR (numD (z1 i)) g)))]) (fun s w' => Row w' n4 .u64 5 f 27 ∧ Row w' n5 .i64 16 g 33 ∧ Row w' wr.heap.size .u8 32 (z1 i) 22 ∧ Below w.heap.size w w') ?_ ?_
          rotate_left
          ·intro hJ1_3_4_6_8
           refine join_ (σ := Unit) 3 #[true, true, true, true, true, true, true, true, false, false, false] (fun s => [(72, .agg (FR .u64 5 (carr (ofL (z1 i))))), (74, .agg (FR .u64 5 (negE f))), (75, .agg (FR .u64 5 (subE (carr (ofL (z1 i))) (negE f)))), (77, .agg (FR .i64 16 (numD (z1 i))))]) (fun s w' => Row w' n4 .u64 5 f 27 ∧ Row w' n5 .i64 16 g 33 ∧ Row w' wr.heap.size .u8 32 (z1 i) 22 ∧ Below w.heap.size w w') ?_ ?_
           rotate_left
           ·intro hJ1_3_4_6
            refine join_ (σ := Unit) 4 #[true, true, true, true, true, true, false, true, false, false, false] (fun s => [(72, .agg (FR .u64 5 (carr (ofL (z1 i))))), (74, .agg (FR .u64 5 (negE f))), (75, .agg (FR .u64 5 (subE (carr (ofL (z1 i))) (negE f))))]) (fun s w' => Row w' n4 .u64 5 f 27 ∧ Row w' n5 .i64 16 g 33 ∧ Row w' wr.heap.size .u8 32 (z1 i) 22 ∧ Below w.heap.size w w') ?_ ?_
            rotate_left
            ·intro hJ1_3_4
             refine join_ (σ := Unit) 5 #[true, true, true, true, false, true, false, true, false, false, false] (fun s => [(72, .agg (FR .u64 5 (carr (ofL (z1 i))))), (74, .agg (FR .u64 5 (negE f)))]) (fun s w' => Row w' n4 .u64 5 f 27 ∧ Row w' n5 .i64 16 g 33 ∧ Row w' wr.heap.size .u8 32 (z1 i) 22 ∧ Below w.heap.size w w') ?_ ?_
             rotate_left
             ·intro hJ1_3
              refine join_ (σ := Unit) 6 #[true, true, true, false, false, true, false, true, false, false, false] (fun s => [(72, .agg (FR .u64 5 (carr (ofL (z1 i)))))]) (fun s w' => Row w' n4 .u64 5 f 27 ∧ Row w' n5 .i64 16 g 33 ∧ Row w' wr.heap.size .u8 32 (z1 i) 22 ∧ Below w.heap.size w w') ?_ ?_
              rotate_left
              ·intro hJ1
               refine one_ (i := 1) (N := some 72) #[true, true, true, false, false, true, false, true, false, false, false] rfl rfl (one_of HT_.out (by kernel_rfl)) (by decide) (fun K hK => ?_)
               refine goes_ Try.func13 rfl rfl #[.agg (FR .u8 32 (z1 i))] rfl rfl rfl (by simp only [List.map_toArray, List.map_cons, List.map_nil]; rfl) ((Of_elem_calls (z1 i) _ HE.out).mono ?_)
               rintro e wf51 ⟨rfl, hb⟩
               have hSn : Row wf51 n4 .u64 5 f 27 ∧ Row wf51 n5 .i64 16 g 33 ∧ Row wf51 wr.heap.size .u8 32 (z1 i) 22 := ⟨hHeld.1.below hb hHeld.1.lt, hHeld.2.1.below hb hHeld.2.1.lt, hHeld.2.2.below hb hHeld.2.2.lt⟩
               have HBf := Aside0.mk (HBe.out.trans (hb.mono HBe.out.size))
               clear hb
               refine ⟨_, rfl, hK.out _ _ hSn (fun hHeld => ?_)⟩
               clear hSn hK K
               refine norm_ (a' := ?_) ?_ ?_
               rotate_left
               · show Act.put _ (some 72) _ = _
                 simp only [Act.put, List.setIfInBounds_toArray, List.set_cons_zero, List.set_cons_succ, i64_w, i32_w]
                 rfl
               exact norm_ (by first | (simp only [putAll, Act.put, List.setIfInBounds_toArray, List.set_cons_zero, List.set_cons_succ]; done) | (simp only [putAll, Act.put, List.setIfInBounds_toArray, List.set_cons_zero, List.set_cons_succ]; rfl)) (hJ1 () _ ⟨hHeld.1, hHeld.2.1, hHeld.2.2, HBf.out⟩)
              ·skip
               rintro _ wg ⟨hq0, hq1, hq2, hbj⟩
               have HBj := Aside0.mk hbj
               clear hbj
               have hHeld : Row wg n4 .u64 5 f 27 ∧ Row wg n5 .i64 16 g 33 ∧ Row wg wr.heap.size .u8 32 (z1 i) 22 := ⟨hq0, hq1, hq2⟩
               clear hq0 hq1 hq2
               refine norm_ (a' := ?_) ?_ ?_
               rotate_left
               · simp only [putAll, Act.put, List.setIfInBounds_toArray, List.set_cons_zero, List.set_cons_succ]
                 rfl
               refine one_ (i := 3) (N := some 74) #[true, true, true, true, false, true, false, true, false, false, false] rfl rfl (one_of HT_.out (by kernel_rfl)) (by decide) (fun K hK => ?_)
               refine goes_ Try.func24 rfl rfl #[.agg (FR .u64 5 f)] rfl rfl rfl (by simp only [List.map_toArray, List.map_cons, List.map_nil]; rfl) ((negE_c f _ HF.out.1).mono ?_)
               rintro e wf52 ⟨rfl, hb⟩
               have hSn : Row wf52 n4 .u64 5 f 27 ∧ Row wf52 n5 .i64 16 g 33 ∧ Row wf52 wr.heap.size .u8 32 (z1 i) 22 := ⟨hHeld.1.below hb hHeld.1.lt, hHeld.2.1.below hb hHeld.2.1.lt, hHeld.2.2.below hb hHeld.2.2.lt⟩
               have HBf := Aside0.mk (HBj.out.trans (hb.mono HBj.out.size))
               clear hb
               refine ⟨_, rfl, hK.out _ _ hSn (fun hHeld => ?_)⟩
               clear hSn hK K
               refine norm_ (a' := ?_) ?_ ?_
               rotate_left
               · show Act.put _ (some 74) _ = _
                 simp only [Act.put, List.setIfInBounds_toArray, List.set_cons_zero, List.set_cons_succ, i64_w, i32_w]
                 rfl
               exact norm_ (by first | (simp only [putAll, Act.put, List.setIfInBounds_toArray, List.set_cons_zero, List.set_cons_succ]; done) | (simp only [putAll, Act.put, List.setIfInBounds_toArray, List.set_cons_zero, List.set_cons_succ]; rfl)) (hJ1_3 () _ ⟨hHeld.1, hHeld.2.1, hHeld.2.2, HBf.out⟩)
             ·skip
              rintro _ wg ⟨hq0, hq1, hq2, hbj⟩
              have HBj := Aside0.mk hbj
              clear hbj
              have hHeld : Row wg n4 .u64 5 f 27 ∧ Row wg n5 .i64 16 g 33 ∧ Row wg wr.heap.size .u8 32 (z1 i) 22 := ⟨hq0, hq1, hq2⟩
              clear hq0 hq1 hq2
              refine norm_ (a' := ?_) ?_ ?_
              rotate_left
              · simp only [putAll, Act.put, List.setIfInBounds_toArray, List.set_cons_zero, List.set_cons_succ]
                rfl
              refine one_ (i := 4) (N := some 75) #[true, true, true, true, true, true, false, true, false, false, false] rfl rfl (one_of HT_.out (by kernel_rfl)) (by decide) (fun K hK => ?_)
              refine goes_ Try.func22 rfl rfl #[.agg (FR .u64 5 (carr (ofL (z1 i)))), .agg (FR .u64 5 (negE f))] rfl rfl rfl (by simp only [List.map_toArray, List.map_cons, List.map_nil]; rfl) ((subE_c _ _ _ (Fe.of (z1 i) HE.out).1 (Fe.neg HF.out).1).mono ?_)
              rintro e wf53 ⟨rfl, hb⟩
              have hSn : Row wf53 n4 .u64 5 f 27 ∧ Row wf53 n5 .i64 16 g 33 ∧ Row wf53 wr.heap.size .u8 32 (z1 i) 22 := ⟨hHeld.1.below hb hHeld.1.lt, hHeld.2.1.below hb hHeld.2.1.lt, hHeld.2.2.below hb hHeld.2.2.lt⟩
              have HBf := Aside0.mk (HBj.out.trans (hb.mono HBj.out.size))
              clear hb
              refine ⟨_, rfl, hK.out _ _ hSn (fun hHeld => ?_)⟩
              clear hSn hK K
              refine norm_ (a' := ?_) ?_ ?_
              rotate_left
              · show Act.put _ (some 75) _ = _
                simp only [Act.put, List.setIfInBounds_toArray, List.set_cons_zero, List.set_cons_succ, i64_w, i32_w]
                rfl
              exact norm_ (by first | (simp only [putAll, Act.put, List.setIfInBounds_toArray, List.set_cons_zero, List.set_cons_succ]; done) | (simp only [putAll, Act.put, List.setIfInBounds_toArray, List.set_cons_zero, List.set_cons_succ]; rfl)) (hJ1_3_4 () _ ⟨hHeld.1, hHeld.2.1, hHeld.2.2, HBf.out⟩)
            ·skip
             rintro _ wg ⟨hq0, hq1, hq2, hbj⟩
             have HBj := Aside0.mk hbj
             clear hbj
             have hHeld : Row wg n4 .u64 5 f 27 ∧ Row wg n5 .i64 16 g 33 ∧ Row wg wr.heap.size .u8 32 (z1 i) 22 := ⟨hq0, hq1, hq2⟩
             clear hq0 hq1 hq2
             refine norm_ (a' := ?_) ?_ ?_
             rotate_left
             · simp only [putAll, Act.put, List.setIfInBounds_toArray, List.set_cons_zero, List.set_cons_succ]
               rfl
             refine one_ (i := 6) (N := some 77) #[true, true, true, true, true, true, true, true, false, false, false] rfl rfl (one_of HT_.out (by kernel_rfl)) (by decide) (fun K hK => ?_)
             refine goes_ Try.func15 rfl rfl #[.agg (FR .u8 32 (z1 i))] rfl rfl rfl (by simp only [List.map_toArray, List.map_cons, List.map_nil]; rfl) ((num_calls' (z1 i) _ HE.out).mono ?_)
             rintro e wf54 ⟨rfl, hb⟩
             have hSn : Row wf54 n4 .u64 5 f 27 ∧ Row wf54 n5 .i64 16 g 33 ∧ Row wf54 wr.heap.size .u8 32 (z1 i) 22 := ⟨hHeld.1.below hb hHeld.1.lt, hHeld.2.1.below hb hHeld.2.1.lt, hHeld.2.2.below hb hHeld.2.2.lt⟩
             have HBf := Aside0.mk (HBj.out.trans (hb.mono HBj.out.size))
             clear hb
             refine ⟨_, rfl, hK.out _ _ hSn (fun hHeld => ?_)⟩
             clear hSn hK K
             refine norm_ (a' := ?_) ?_ ?_
             rotate_left
             · show Act.put _ (some 77) _ = _
               simp only [Act.put, List.setIfInBounds_toArray, List.set_cons_zero, List.set_cons_succ, i64_w, i32_w]
               rfl
             exact norm_ (by first | (simp only [putAll, Act.put, List.setIfInBounds_toArray, List.set_cons_zero, List.set_cons_succ]; done) | (simp only [putAll, Act.put, List.setIfInBounds_toArray, List.set_cons_zero, List.set_cons_succ]; rfl)) (hJ1_3_4_6 () _ ⟨hHeld.1, hHeld.2.1, hHeld.2.2, HBf.out⟩)
           ·skip
            rintro _ wg ⟨hq0, hq1, hq2, hbj⟩
            have HBj := Aside0.mk hbj
            clear hbj
            have hHeld : Row wg n4 .u64 5 f 27 ∧ Row wg n5 .i64 16 g 33 ∧ Row wg wr.heap.size .u8 32 (z1 i) 22 := ⟨hq0, hq1, hq2⟩
            clear hq0 hq1 hq2
            refine norm_ (a' := ?_) ?_ ?_
            rotate_left
            · simp only [putAll, Act.put, List.setIfInBounds_toArray, List.set_cons_zero, List.set_cons_succ]
              rfl
            refine one_ (i := 8) (N := some 79) #[true, true, true, true, true, true, true, true, true, false, false] rfl rfl (one_of HT_.out (by kernel_rfl)) (by decide) (fun K hK => ?_)
            refine goes_ Try.func21 rfl rfl #[.agg (FR .i64 16 (numD (z1 i))), .agg (FR .i64 16 g)] rfl rfl rfl (by simp only [List.map_toArray, List.map_cons, List.map_nil]; rfl) ((addR_c _ _ _ (Re.num (z1 i) HE.out).1 HG.out.1).mono ?_)
            rintro e wf55 ⟨rfl, hb⟩
            have hSn : Row wf55 n4 .u64 5 f 27 ∧ Row wf55 n5 .i64 16 g 33 ∧ Row wf55 wr.heap.size .u8 32 (z1 i) 22 := ⟨hHeld.1.below hb hHeld.1.lt, hHeld.2.1.below hb hHeld.2.1.lt, hHeld.2.2.below hb hHeld.2.2.lt⟩
            have HBf := Aside0.mk (HBj.out.trans (hb.mono HBj.out.size))
            clear hb
            refine ⟨_, rfl, hK.out _ _ hSn (fun hHeld => ?_)⟩
            clear hSn hK K
            refine norm_ (a' := ?_) ?_ ?_
            rotate_left
            · show Act.put _ (some 79) _ = _
              simp only [Act.put, List.setIfInBounds_toArray, List.set_cons_zero, List.set_cons_succ, i64_w, i32_w]
              rfl
            exact norm_ (by first | (simp only [putAll, Act.put, List.setIfInBounds_toArray, List.set_cons_zero, List.set_cons_succ]; done) | (simp only [putAll, Act.put, List.setIfInBounds_toArray, List.set_cons_zero, List.set_cons_succ]; rfl)) (hJ1_3_4_6_8 () _ ⟨hHeld.1, hHeld.2.1, hHeld.2.2, HBf.out⟩)
          rintro _ wj ⟨hq0, hq1, hq2, hbj⟩
          have HBj := Aside0.mk hbj
          clear hbj
          have hHeld : Row wj n4 .u64 5 f 27 ∧ Row wj n5 .i64 16 g 33 ∧ Row wj wr.heap.size .u8 32 (z1 i) 22 := ⟨hq0, hq1, hq2⟩
          clear hq0 hq1 hq2
          refine norm_ (a' := ?_) ?_ ?_
          rotate_left
          · simp only [putAll, Act.put, List.setIfInBounds_toArray, List.set_cons_zero, List.set_cons_succ]
            rfl
          have HXq := Aside0.mk hHeld.1
          have HYq := Aside0.mk hHeld.2.1
          clear hHeld
          refine last_ (i := 9) (N := none) #[true, true, true, true, true, true, true, true, true, true, false] rfl rfl (one_of HT_.out (by kernel_rfl)) (by decide) (fun K hK => ?_)
          refine oper_storeG (subE (carr (ofL (z1 i))) (negE f)) HXq.out info27 rfl rfl rfl rfl rfl ?_
          intro wv hs hr
          have HXv := Aside0.mk hr
          have HYv := Aside0.mk (HYq.out.stored hs (by omega))
          have HBv := Aside0.mk (hs.bel _ _ (by omega) HBj.out)
          clear hs hr
          refine hK.out _ _ ?_
          clear hK K
          refine last_ (i := 10) (N := none) #[true, true, true, true, true, true, true, true, true, true, true] rfl rfl (one_of HT_.out (by kernel_rfl)) (by decide) (fun K hK => ?_)
          refine oper_storeG (addR (numD (z1 i)) g) HYv.out info33 rfl rfl rfl rfl rfl ?_
          intro wu hs hr
          have HYu := Aside0.mk hr
          have HXu := Aside0.mk (HXv.out.stored hs (by omega))
          have HBu := Aside0.mk (hs.bel _ _ (by omega) HBv.out)
          clear hs hr
          refine hK.out _ _ ?_
          clear hK K
          refine done_ (done_of HT_.out (by kernel_rfl)) ?_
          clear HT_ HW_
          go_wp2_with fail
          exact ⟨⟨i + 1, _, _, _, by omega, rfl, HBu.out, HXu.out, HYu.out, (Fe.of (z1 i) HE.out).sub (Fe.neg HF.out), (show N32 (z1 i) + n = N32 (z1 i) - (0 - n) by omega) ▸ (Re.num (z1 i) HE.out).add HG.out⟩, meas_up len1 i h5⟩
        · exact ⟨⟨i + 1, f, g, n, by omega, rfl, HBb.out, HXb.out, HYb.out, HF.out, HG.out⟩, meas_up len1 i h5⟩
      · obtain rfl : i = len1 := by omega
        have hlt : ((i : Int) < (i : Int)) = False := eq_false (by omega)
        clear hlt
        have hlt : ((i : Int) < (i : Int)) = False := eq_false (by omega)
        go_wp2_with (first | refine step_load HX.out Try.underlying27 info27 rfl rfl rfl rfl ?_ | refine step_load HY.out Try.underlying33 info33 rfl rfl rfl rfl ?_)
        refine (is_true_of2 HF.out HG.out rfl _).mono ?_
        rintro e wz ⟨rfl, hbz⟩
        have HBz := Aside0.mk (HB.out.trans (hbz.mono HB.out.size))
        clear hbz
        go_wp2_with fail
        go_ret
        exact ⟨rfl, HBz.out⟩
end Go.Proofs.Ythonoagpiofojaa.P
