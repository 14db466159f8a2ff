/- The law FieldFermat: its walk. -/
import Derived.Test.YthonoagpiofojaaU5
import Derived.Test.YthonoagpiofojaaU4
namespace Go.Proofs.Ythonoagpiofojaa.P
set_option linter.unusedVariables false
set_option linter.unusedSimpArgs false
open Go.RowKit Go.Proofs.YthonoagpiofojaaW.PrintWords Go.Proofs.YthonoagpiofojaaW.PrintLast Go.Proofs.YthonoagpiofojaaW.PrintMore
attribute [local go_sem] setCell_drewN
def p31 (j : Nat) : Int := if j = 31 then 127 else 0
theorem p31_row : (#[.int .u8 0, .int .u8 0, .int .u8 0, .int .u8 0, .int .u8 0, .int .u8 0, .int .u8 0, .int .u8 0, .int .u8 0, .int .u8 0, .int .u8 0, .int .u8 0, .int .u8 0, .int .u8 0, .int .u8 0, .int .u8 0, .int .u8 0, .int .u8 0, .int .u8 0, .int .u8 0, .int .u8 0, .int .u8 0, .int .u8 0, .int .u8 0, .int .u8 0, .int .u8 0, .int .u8 0, .int .u8 0, .int .u8 0, .int .u8 0, .int .u8 0, .int .u8 127] : Array Value) = FR .u8 32 p31 := by kernel_rfl
def HRel (w : World) (a0 : Nat → Int) (b3 : Nat) (v4 : Value) (wr : World) : Prop :=
  ∃ i : Nat, i ≤ 31 ∧ v4 = .int .i64 (i : Int) ∧ Below w.heap.size w wr ∧ Row wr w.heap.size .u8 32 a0 22 ∧ Row wr b3 .u8 32 (fun j => if j < i then 255 else p31 j) 22
theorem tab610 : rtab .any (opsOf Try.f6 10) = (true, [([], []), ([], []), ([0, 1], [0, 1]), ([], []), ([2, 3, 2], [2, 3]), ([4], [4])]) := by kernel_rfl
theorem bits610 : waitsOk [([], []), ([], []), ([0, 1], [0, 1]), ([], []), ([2, 3, 2], [2, 3]), ([4], [4])] [0, 0, 3, 0, 15, 31] = true := by kernel_rfl
theorem tab613 : rtab .any (opsOf Try.f6 13) = (true, [([], []), ([], []), ([0, 1], [0, 1]), ([2], []), ([2, 3, 3], [2, 3]), ([], []), ([], []), ([5, 6, 4], [5, 6]), ([4, 7], [4, 7]), ([8, 7], [8]), ([9], [9]), ([9], [9]), ([10, 11, 9, 9], [9, 10, 11]), ([12, 9], [9]), ([12, 13, 13, 9], [9, 12, 13]), ([9, 14], [9, 14]), ([15, 14, 0, 1, 2, 3, 4, 5, 6, 7, 8, 9, 10, 11, 12, 13, 14, 15], [15])]) := by kernel_rfl
theorem bits613 : waitsOk [([], []), ([], []), ([0, 1], [0, 1]), ([2], []), ([2, 3, 3], [2, 3]), ([], []), ([], []), ([5, 6, 4], [5, 6]), ([4, 7], [4, 7]), ([8, 7], [8]), ([9], [9]), ([9], [9]), ([10, 11, 9, 9], [9, 10, 11]), ([12, 9], [9]), ([12, 13, 13, 9], [9, 12, 13]), ([9, 14], [9, 14]), ([15, 14, 0, 1, 2, 3, 4, 5, 6, 7, 8, 9, 10, 11, 12, 13, 14, 15], [15])] [0, 0, 3, 7, 15, 0, 0, 127, 255, 511, 1023, 1023, 4095, 8191, 16383, 32767, 65535] = true := by kernel_rfl
theorem FieldFermat_walk (a0 : Nat → Int) (w : World) (w0 : ∀ i, i < 32 → (Lit.int .u8 (a0 i)).wf = true) :
    Calls Try.prog 6 #[.agg (FR .u8 32 a0)] w fun e w' => e = .returned (.bool true) ∧ Below w.heap.size w w' := by
  have HA : Aside0 (By a0) := ⟨fun j hj => u8b (w0 j hj)⟩
  clear w0
  have HQ1 : Aside0 (decide (V51 (powE (carr (ofL a0)) (pB 237) 256) % PP = V51 (carr (ofL a0)) % PP) = true) := ⟨by
    rw [((Fe.of a0 HA.out).pow (pB 237) 256).2, exp_p, ferm0, (Fe.of a0 HA.out).2]; simp⟩
  obtain ⟨z, hz⟩ : ∃ z, z = decide (N32 a0 % PP = 0) := ⟨_, rfl⟩
  have HQ2 : Aside0 (decide (V51 (powE (carr (ofL a0)) (pB 236) 256) % PP = V51 (smL 1) % PP) = !z) := ⟨by
    rw [((Fe.of a0 HA.out).pow (pB 236) 256).2, exp_p1, smL_V, hz]
    by_cases h : N32 a0 % PP = 0
    · rw [zero_pow _ h _ (by decide)]; simp [h]; decide
    · rw [ferm1 _ h]; simp [h]; decide⟩
  have HQ3 : Aside0 (decide (V51 (carr (ofL a0)) % PP = V51 (fun _ => 0) % PP) = z) := ⟨by
    rw [(Fe.of a0 HA.out).2, hz]; rfl⟩
  have HQ4 : Aside0 (decide (V51 (powE (carr (ofL a0)) (fun _ => 0) 256) % PP = V51 (smL 1) % PP) = true) := ⟨by
    rw [((Fe.of a0 HA.out).pow (fun _ => 0) 256).2, exp_0, smL_V]; simp⟩
  have HLZ : Aside0 (Lm (fun _ => 0)) := ⟨⟨fun i _ => by show 0 ≤ (0 : Int) ∧ (0 : Int) < _; omega, by show 0 ≤ (0 : Int) ∧ (0 : Int) < _; omega⟩⟩
  have HBY0 : Aside0 (By (fun _ => 0)) := ⟨fun j _ => by show 0 ≤ (0 : Int) ∧ (0 : Int) < 256; omega⟩
  have hzz : ((!z) != z) = true := by cases z <;> rfl
  clear hz
  go_enter Try.func6, Try.ntmps6
  have HR0 := Aside0.mk (Row.new w .u8 32 a0 22)
  have HB0 := Aside0.mk ((Below.refl w.heap.size w).alloc (Nat.le_refl _) (.cells (FR .u8 32 a0) 22))
  go_wp2_with fail
  refine (alive_calls _).mono ?_
  rintro e w1 ⟨rfl, hb⟩
  have HR1 := Aside0.mk (HR0.out.below hb HR0.out.lt)
  have HB1 := Aside0.mk (HB0.out.trans (hb.mono HB0.out.size))
  have hl1 := HR1.out.lt
  clear hb HR0 HB0
  have HNW := Aside0.mk (Row.new w1 .u8 32 (fun _ => 0) 22)
  have HR2 := Aside0.mk (HR1.out.alloc (.cells (FR .u8 32 fun _ => 0) 22))
  have HB2 := Aside0.mk (HB1.out.alloc HB1.out.size (.cells (FR .u8 32 fun _ => 0) 22))
  go_wp2_with (refine step_storeG p31 HNW.out info22 rfl rfl rfl rfl (congrArg Value.agg p31_row) ?_; intro w3 hs hr; have HS3 := Aside0.mk hs; have HP3 := Aside0.mk hr; clear hs hr)
  have HR3 := Aside0.mk (HR2.out.stored HS3.out (by omega))
  have HB3 := Aside0.mk (HS3.out.bel _ _ (by omega) HB2.out)
  clear HR1 HB1 HNW HR2 HB2 HS3
  generalize w1.heap.size = b3 at *
  go_loopw [4] (fun v4 wr => HRel w a0 b3 v4 wr) (fun v _ => 31 - (intOf v).toNat)
  case atStart => exact ⟨0, by omega, rfl, HB3.out, HR3.out, row_eq HP3.out (fun j _ => (if_neg (by omega)).symm)⟩
  case round =>
    clear HB3 HR3 HP3
    obtain ⟨i, hi, rfl, hb, hr, hp⟩ := hrel
    have HB := Aside0.mk hb
    have HR := Aside0.mk hr
    have HP := Aside0.mk hp
    have hlr := hr.lt
    have hlp := hp.lt
    rcases Nat.lt_or_ge i 31 with h5 | h5
    · have hlt : ((i : Int) < 31) = True := eq_true (by omega)
      have hlt2 : ((i : Int) < 32) = True := eq_true (by omega)
      have ki := hp.cell i (by omega)
      have fi := hp.fro i
      clear hb hr hp
      go_wp2_with fail
      refine ⟨⟨i + 1, by omega, rfl, bel_set HB.out ⟨b3, i, none⟩ _ (by simp; omega), HR.out.other ⟨b3, i, none⟩ _ (by simp; omega), ?_⟩, meas_up 31 i h5⟩
      exact part_step (F := fun _ => 255) (a := ⟨0, 0, none⟩) HP.out (by omega)
    · obtain rfl : i = 31 := by omega
      have k0 := hp.cell 0 (by omega)
      have f0 := hp.fro 0
      have HPS : Aside0 (Row (wr.setCell ⟨b3, 0, none⟩ (.int .u8 237)) b3 .u8 32 (pB 237) 22) := ⟨row_eq (hp.set 0 237 (by omega)) (fun j hj => by
        unfold upd pB p31
        by_cases h0 : j = 0
        · rw [if_pos h0, if_pos h0]
        · rw [if_neg h0, if_neg h0]
          show (if j < 31 then (255 : Int) else if j = 31 then 127 else 0) = _
          by_cases h1 : j < 31
          · rw [if_pos h1, if_pos h1]
          · rw [if_neg h1, if_neg h1, if_pos (by omega)])⟩
      have HBS := Aside0.mk (bel_set HB.out ⟨b3, 0, none⟩ (.int .u8 237) (by simp; omega))
      have HRS := Aside0.mk (HR.out.other ⟨b3, 0, none⟩ (.int .u8 237) (by simp; omega))
      clear hb hr hp
      have hsz : (wr.setCell ⟨b3, 0, none⟩ (.int .u8 237)).heap.size = wr.heap.size := by simp [World.setCell]
      go_wp2_with (refine step_load HRS.out Try.underlying22 info22 rfl rfl rfl rfl ?_)
      generalize wr.setCell ⟨b3, 0, none⟩ (.int .u8 237) = w4 at *
      refine (Of_elem_calls a0 _ HA.out).mono ?_
      rintro e w5 ⟨rfl, hb⟩
      have HR5 := Aside0.mk (HRS.out.below hb HRS.out.lt)
      have HP5 := Aside0.mk (HPS.out.below hb HPS.out.lt)
      have HB5 := Aside0.mk (HBS.out.trans (hb.mono HBS.out.size))
      have hl5 := HR5.out.lt
      have hl6 := HP5.out.lt
      clear hb HRS HPS HBS HB HR HP k0 f0 hsz
      have HNW := Aside0.mk (Row.new w5 .u64 5 (fun _ => 0) 27)
      have HR6 := Aside0.mk (HR5.out.alloc (.cells (FR .u64 5 fun _ => 0) 27))
      have HP6 := Aside0.mk (HP5.out.alloc (.cells (FR .u64 5 fun _ => 0) 27))
      have HB6 := Aside0.mk (HB5.out.alloc HB5.out.size (.cells (FR .u64 5 fun _ => 0) 27))
      have hws := HB5.out.size
      go_wp2_with (refine step_storeG _ HNW.out info27 rfl rfl rfl rfl rfl ?_; intro w7 hs hr; have HS7 := Aside0.mk hs; have HX7 := Aside0.mk hr; clear hs hr)
      have hg7 := HR6.out.stored HS7.out (show w.heap.size ≠ w5.heap.size by omega)
      have hp7 := HP6.out.stored HS7.out (show b3 ≠ w5.heap.size by omega)
      have hb7 := (HS7.out.bel _ _ (by omega) HB6.out)
      clear HR5 HB5 HP5 HNW HR6 HP6 HB6
      generalize w5.heap.size = b5 at *
      have hh : Row w7.drew w.heap.size .u8 32 a0 22 ∧ Row w7.drew b3 .u8 32 (pB 237) 22 ∧ Row w7.drew b5 .u64 5 (carr (ofL a0)) 27 := ⟨hg7, hp7, HX7.out⟩
      have HBd := Aside0.mk hb7.drew
      clear hg7 hp7 hb7 HX7 HS7
      refine start_ (n := 6) (S := (fun w' => Row w' w.heap.size .u8 32 a0 22 ∧ Row w' b3 .u8 32 (pB 237) 22 ∧ Row w' b5 .u64 5 (carr (ofL a0)) 27)) (ds := []) #[false, false, false, false, false, false] (by kernel_rfl) rfl rfl hh (fun hHeld => ?_); refine with_tabW tab610 bits610 (fun HT_ HW_ => ?_)
      generalize w7.drew = w6 at HBd hHeld hh ⊢
      clear hh
      refine take_ (i := 0) (N := some 18) (v := ?_) (a' := ?_) #[true, false, false, false, false, false] rfl rfl (take_ofW HT_.out HW_.out (by kernel_rfl)) (fun _ _ _ h => h) (Or.inl ⟨by rfl, ?_⟩) hHeld ?_ ?_
      rotate_left
      · intro w' hsw
        refine exec_load (x := .tmp 5) hsw.2.2 Try.underlying27 info27 rfl ?_ ?_ <;> rfl
      rotate_left
      · simp only [Act.put, List.setIfInBounds_toArray, List.set_cons_zero, List.set_cons_succ, i64_w, i32_w]
        rfl
      refine take_ (i := 1) (N := some 19) (v := ?_) (a' := ?_) #[true, true, false, false, false, false] rfl rfl (take_ofW HT_.out HW_.out (by kernel_rfl)) (fun _ _ _ h => h) (Or.inl ⟨by rfl, ?_⟩) hHeld ?_ ?_
      rotate_left
      · intro w' hsw
        refine exec_load (x := .tmp 3) hsw.2.1 Try.underlying22 info22 rfl ?_ ?_ <;> rfl
      rotate_left
      · simp only [Act.put, List.setIfInBounds_toArray, List.set_cons_zero, List.set_cons_succ, i64_w, i32_w]
        rfl
      refine take_ (i := 3) (N := some 21) (v := ?_) (a' := ?_) #[true, true, false, true, false, false] rfl rfl (take_ofW HT_.out HW_.out (by kernel_rfl)) (fun _ _ _ h => h) (Or.inl ⟨by rfl, ?_⟩) hHeld ?_ ?_
      rotate_left
      · intro w' hsw
        refine exec_load (x := .tmp 5) hsw.2.2 Try.underlying27 info27 rfl ?_ ?_ <;> rfl
      rotate_left
      · simp only [Act.put, List.setIfInBounds_toArray, List.set_cons_zero, List.set_cons_succ, i64_w, i32_w]
        rfl
      refine one_ (i := 2) (N := some 20) #[true, true, true, true, false, false] rfl rfl (one_of HT_.out (by kernel_rfl)) (by decide) (fun K hK => ?_)
      refine goes_ Try.func28 rfl rfl #[.agg (FR .u64 5 (carr (ofL a0))), .agg (FR .u8 32 (pB 237))] rfl rfl rfl (by simp only [List.map_toArray, List.map_cons, List.map_nil]; rfl) ((pow_elem _ _ _ (Fe.of a0 HA.out).1 (pB_By 237 (by omega))).mono ?_)
      rintro e wc1 ⟨rfl, hb⟩
      have hSn : Row wc1 w.heap.size .u8 32 a0 22 ∧ Row wc1 b3 .u8 32 (pB 237) 22 ∧ Row wc1 b5 .u64 5 (carr (ofL a0)) 27 := ⟨hHeld.1.below hb hHeld.1.lt, hHeld.2.1.below hb hHeld.2.1.lt, hHeld.2.2.below hb hHeld.2.2.lt⟩
      have HBc1 := Aside0.mk (HBd.out.trans (hb.mono HBd.out.size))
      clear hb
      refine ⟨_, rfl, hK.out _ _ hSn (fun hHeld => ?_)⟩
      clear hSn
      clear hK K
      refine norm_ (a' := ?_) ?_ ?_
      rotate_left
      · show Act.put _ (some 20) _ = _
        simp only [Act.put, List.setIfInBounds_toArray, List.set_cons_zero, List.set_cons_succ, i64_w, i32_w]
        rfl
      refine one_ (i := 4) (N := some 22) #[true, true, true, true, true, false] rfl rfl (one_of HT_.out (by kernel_rfl)) (by decide) (fun K hK => ?_)
      refine goes_ Try.func17 rfl rfl #[.agg (FR .u64 5 (powE (carr (ofL a0)) (pB 237) 256)), .agg (FR .u64 5 (carr (ofL a0)))] rfl rfl rfl (by simp only [List.map_toArray, List.map_cons, List.map_nil]; rfl) ((elem_is_bool _ _ ((Fe.of a0 HA.out).pow (pB 237) 256).1 (Fe.of a0 HA.out).1 true HQ1.out _).mono ?_)
      rintro e wc2 ⟨rfl, hb⟩
      have hSn : Row wc2 w.heap.size .u8 32 a0 22 ∧ Row wc2 b3 .u8 32 (pB 237) 22 ∧ Row wc2 b5 .u64 5 (carr (ofL a0)) 27 := ⟨hHeld.1.below hb hHeld.1.lt, hHeld.2.1.below hb hHeld.2.1.lt, hHeld.2.2.below hb hHeld.2.2.lt⟩
      have HBc2 := Aside0.mk (HBc1.out.trans (hb.mono HBc1.out.size))
      clear hb
      refine ⟨_, rfl, hK.out _ _ hSn (fun hHeld => ?_)⟩
      clear hSn
      clear hK K
      refine norm_ (a' := ?_) ?_ ?_
      rotate_left
      · show Act.put _ (some 22) _ = _
        simp only [Act.put, List.setIfInBounds_toArray, List.set_cons_zero, List.set_cons_succ, i64_w, i32_w]
        rfl
      refine pure_ (i := 5) (N := some 23) (v := ?_) (a' := ?_) #[true, true, true, true, true, true] rfl rfl (any_of HT_.out (by kernel_rfl)) (fun _ _ _ h => h) (Or.inl ⟨by rfl, ?_⟩) ?_ ?_
      rotate_left
      · intro w'
        go_simp
        with_reducible rfl
      rotate_left
      · simp only [Act.put, List.setIfInBounds_toArray, List.set_cons_zero, List.set_cons_succ, i64_w, i32_w]
        rfl
      refine done_ (done_of HT_.out (by kernel_rfl)) ?_
      obtain ⟨hq0, hq3, hqx⟩ := hHeld
      have k0 := hq3.cell 0 (by omega)
      have f0 := hq3.fro 0
      have HPT : Aside0 (Row (wc2.setCell ⟨b3, 0, none⟩ (.int .u8 236)) b3 .u8 32 (pB 236) 22) := ⟨row_eq (hq3.set 0 236 (by omega)) (fun j hj => by
        unfold upd pB
        by_cases h0 : j = 0
        · rw [if_pos h0, if_pos h0]
        · rw [if_neg h0, if_neg h0, if_neg h0])⟩
      have HBT := Aside0.mk (bel_set HBc2.out ⟨b3, 0, none⟩ (.int .u8 236) (by simp; omega))
      have HRT := Aside0.mk (hq0.other ⟨b3, 0, none⟩ (.int .u8 236) (by simp; omega))
      have HXT := Aside0.mk (hqx.other ⟨b3, 0, none⟩ (.int .u8 236) (by simp; omega))
      clear hq0 hq3 hqx HT_ HW_
      go_wp2_with fail
      generalize wc2.setCell ⟨b3, 0, none⟩ (.int .u8 236) = w8 at *
      have hh : Row w8.drew w.heap.size .u8 32 a0 22 ∧ Row w8.drew b3 .u8 32 (pB 236) 22 ∧ Row w8.drew b5 .u64 5 (carr (ofL a0)) 27 := ⟨HRT.out, HPT.out, HXT.out⟩
      have HBe := Aside0.mk HBT.out.drew
      clear HRT HPT HXT HBT k0 f0
      refine start_ (n := 17) (S := (fun w' => Row w' w.heap.size .u8 32 a0 22 ∧ Row w' b3 .u8 32 (pB 236) 22 ∧ Row w' b5 .u64 5 (carr (ofL a0)) 27)) (ds := []) #[false, false, false, false, false, false, false, false, false, false, false, false, false, false, false, false, false] (by kernel_rfl) rfl rfl hh (fun hHeld => ?_); refine with_tabW tab613 bits613 (fun HT_ HW_ => ?_)
      generalize w8.drew = w9 at HBe hHeld hh ⊢
      clear hh
      refine take_ (i := 0) (N := some 25) (v := ?_) (a' := ?_) #[true, false, false, false, false, false, false, false, false, false, false, false, false, false, false, false, false] rfl rfl (take_ofW HT_.out HW_.out (by kernel_rfl)) (fun _ _ _ h => h) (Or.inl ⟨by rfl, ?_⟩) hHeld ?_ ?_
      rotate_left
      · intro w' hsw
        refine exec_load (x := .tmp 5) hsw.2.2 Try.underlying27 info27 rfl ?_ ?_ <;> rfl
      rotate_left
      · simp only [Act.put, List.setIfInBounds_toArray, List.set_cons_zero, List.set_cons_succ, i64_w, i32_w]
        rfl
      refine take_ (i := 1) (N := some 26) (v := ?_) (a' := ?_) #[true, true, false, false, false, false, false, false, false, false, false, false, false, false, false, false, false] rfl rfl (take_ofW HT_.out HW_.out (by kernel_rfl)) (fun _ _ _ h => h) (Or.inl ⟨by rfl, ?_⟩) hHeld ?_ ?_
      rotate_left
      · intro w' hsw
        refine exec_load (x := .tmp 3) hsw.2.1 Try.underlying22 info22 rfl ?_ ?_ <;> rfl
      rotate_left
      · simp only [Act.put, List.setIfInBounds_toArray, List.set_cons_zero, List.set_cons_succ, i64_w, i32_w]
        rfl
      refine take_ (i := 5) (N := some 30) (v := ?_) (a' := ?_) #[true, true, false, false, false, true, false, false, false, false, false, false, false, false, false, false, false] rfl rfl (take_ofW HT_.out HW_.out (by kernel_rfl)) (fun _ _ _ h => h) (Or.inl ⟨by rfl, ?_⟩) hHeld ?_ ?_
      rotate_left
      · intro w' hsw
        refine exec_load (x := .tmp 5) hsw.2.2 Try.underlying27 info27 rfl ?_ ?_ <;> rfl
      rotate_left
      · simp only [Act.put, List.setIfInBounds_toArray, List.set_cons_zero, List.set_cons_succ, i64_w, i32_w]
        rfl
      refine pure_ (i := 6) (N := some 31) (v := ?_) (a' := ?_) #[true, true, false, false, false, true, true, false, false, false, false, false, false, false, false, false, false] rfl rfl (any_of HT_.out (by kernel_rfl)) (fun _ _ _ h => h) (Or.inl ⟨by rfl, ?_⟩) ?_ ?_
      rotate_left
      · intro w'
        go_simp
        with_reducible rfl
      rotate_left
      · simp only [Act.put, List.setIfInBounds_toArray, List.set_cons_zero, List.set_cons_succ, i64_w, i32_w]
        rfl
      refine one_ (i := 2) (N := some 27) #[true, true, true, false, false, true, true, false, false, false, false, false, false, false, false, false, false] rfl rfl (one_of HT_.out (by kernel_rfl)) (by decide) (fun K hK => ?_)
      refine goes_ Try.func28 rfl rfl #[.agg (FR .u64 5 (carr (ofL a0))), .agg (FR .u8 32 (pB 236))] rfl rfl rfl (by simp only [List.map_toArray, List.map_cons, List.map_nil]; rfl) ((pow_elem _ _ _ (Fe.of a0 HA.out).1 (pB_By 236 (by omega))).mono ?_)
      rintro e wc21 ⟨rfl, hb⟩
      have hSn : Row wc21 w.heap.size .u8 32 a0 22 ∧ Row wc21 b3 .u8 32 (pB 236) 22 ∧ Row wc21 b5 .u64 5 (carr (ofL a0)) 27 := ⟨hHeld.1.below hb hHeld.1.lt, hHeld.2.1.below hb hHeld.2.1.lt, hHeld.2.2.below hb hHeld.2.2.lt⟩
      have HBc21 := Aside0.mk (HBe.out.trans (hb.mono HBe.out.size))
      clear hb
      refine ⟨_, rfl, hK.out _ _ hSn (fun hHeld => ?_)⟩
      clear hSn
      clear hK K
      refine norm_ (a' := ?_) ?_ ?_
      rotate_left
      · show Act.put _ (some 27) _ = _
        simp only [Act.put, List.setIfInBounds_toArray, List.set_cons_zero, List.set_cons_succ, i64_w, i32_w]
        rfl
      refine one_ (i := 3) (N := some 28) #[true, true, true, true, false, true, true, false, false, false, false, false, false, false, false, false, false] rfl rfl (one_of HT_.out (by kernel_rfl)) (by decide) (fun K hK => ?_)
      refine goes_ Try.func11 rfl rfl #[.int .u32 1] rfl rfl rfl (by simp only [List.map_toArray, List.map_cons, List.map_nil]; rfl) ((small_elem_calls 1 _ (by omega)).mono ?_)
      rintro e wc22 ⟨rfl, hb⟩
      have hSn : Row wc22 w.heap.size .u8 32 a0 22 ∧ Row wc22 b3 .u8 32 (pB 236) 22 ∧ Row wc22 b5 .u64 5 (carr (ofL a0)) 27 := ⟨hHeld.1.below hb hHeld.1.lt, hHeld.2.1.below hb hHeld.2.1.lt, hHeld.2.2.below hb hHeld.2.2.lt⟩
      have HBc22 := Aside0.mk (HBc21.out.trans (hb.mono HBc21.out.size))
      clear hb
      refine ⟨_, rfl, hK.out _ _ hSn (fun hHeld => ?_)⟩
      clear hSn
      clear hK K
      refine norm_ (a' := ?_) ?_ ?_
      rotate_left
      · show Act.put _ (some 28) _ = _
        simp only [Act.put, List.setIfInBounds_toArray, List.set_cons_zero, List.set_cons_succ, i64_w, i32_w]
        rfl
      refine one_ (i := 4) (N := some 29) #[true, true, true, true, true, true, true, false, false, false, false, false, false, false, false, false, false] rfl rfl (one_of HT_.out (by kernel_rfl)) (by decide) (fun K hK => ?_)
      refine goes_ Try.func17 rfl rfl #[.agg (FR .u64 5 (powE (carr (ofL a0)) (pB 236) 256)), .agg (FR .u64 5 (smL 1))] rfl rfl rfl (by simp only [List.map_toArray, List.map_cons, List.map_nil]; rfl) ((elem_is_bool _ _ ((Fe.of a0 HA.out).pow (pB 236) 256).1 (smL_Lm 1 (by omega)) (!z) HQ2.out _).mono ?_)
      rintro e wc23 ⟨rfl, hb⟩
      have hSn : Row wc23 w.heap.size .u8 32 a0 22 ∧ Row wc23 b3 .u8 32 (pB 236) 22 ∧ Row wc23 b5 .u64 5 (carr (ofL a0)) 27 := ⟨hHeld.1.below hb hHeld.1.lt, hHeld.2.1.below hb hHeld.2.1.lt, hHeld.2.2.below hb hHeld.2.2.lt⟩
      have HBc23 := Aside0.mk (HBc22.out.trans (hb.mono HBc22.out.size))
      clear hb
      refine ⟨_, rfl, hK.out _ _ hSn (fun hHeld => ?_)⟩
      clear hSn
      clear hK K
      refine norm_ (a' := ?_) ?_ ?_
      rotate_left
      · show Act.put _ (some 29) _ = _
        simp only [Act.put, List.setIfInBounds_toArray, List.set_cons_zero, List.set_cons_succ, i64_w, i32_w]
        rfl
      refine one_ (i := 7) (N := some 32) #[true, true, true, true, true, true, true, true, false, false, false, false, false, false, false, false, false] rfl rfl (one_of HT_.out (by kernel_rfl)) (by decide) (fun K hK => ?_)
      refine goes_ Try.func17 rfl rfl #[.agg (FR .u64 5 (carr (ofL a0))), .agg (FR .u64 5 fun _ => 0)] rfl rfl rfl (by simp only [List.map_toArray, List.map_cons, List.map_nil]; rfl) ((elem_is_bool _ _ (Fe.of a0 HA.out).1 HLZ.out z HQ3.out _).mono ?_)
      rintro e wc24 ⟨rfl, hb⟩
      have hSn : Row wc24 w.heap.size .u8 32 a0 22 ∧ Row wc24 b3 .u8 32 (pB 236) 22 ∧ Row wc24 b5 .u64 5 (carr (ofL a0)) 27 := ⟨hHeld.1.below hb hHeld.1.lt, hHeld.2.1.below hb hHeld.2.1.lt, hHeld.2.2.below hb hHeld.2.2.lt⟩
      have HBc24 := Aside0.mk (HBc23.out.trans (hb.mono HBc23.out.size))
      clear hb
      refine ⟨_, rfl, hK.out _ _ hSn (fun hHeld => ?_)⟩
      clear hSn
      clear hK K
      refine norm_ (a' := ?_) ?_ ?_
      rotate_left
      · show Act.put _ (some 32) _ = _
        simp only [Act.put, List.setIfInBounds_toArray, List.set_cons_zero, List.set_cons_succ, i64_w, i32_w]
        rfl
      refine pure_ (i := 8) (N := some 33) (v := ?_) (a' := ?_) #[true, true, true, true, true, true, true, true, true, false, false, false, false, false, false, false, false] rfl rfl (any_of HT_.out (by kernel_rfl)) (fun _ _ _ h => h) (Or.inl ⟨by rfl, ?_⟩) ?_ ?_
      rotate_left
      · intro w'
        go_simp
        with_reducible rfl
      rotate_left
      · simp only [Act.put, List.setIfInBounds_toArray, List.set_cons_zero, List.set_cons_succ, i64_w, i32_w]
        rfl
      refine pure_ (i := 9) (N := some 34) (v := ?_) (a' := ?_) #[true, true, true, true, true, true, true, true, true, true, false, false, false, false, false, false, false] rfl rfl (any_of HT_.out (by kernel_rfl)) (fun _ _ _ h => h) (Or.inl ⟨by rfl, ?_⟩) ?_ ?_
      rotate_left
      · intro w'
        go_simp
        with_reducible rfl
      rotate_left
      · simp only [Act.put, List.setIfInBounds_toArray, List.set_cons_zero, List.set_cons_succ, i64_w, i32_w]
        rfl
      refine take_ (i := 10) (N := some 35) (v := ?_) (a' := ?_) #[true, true, true, true, true, true, true, true, true, true, true, false, false, false, false, false, false] rfl rfl (take_ofW HT_.out HW_.out (by kernel_rfl)) (fun _ _ _ h => h) (Or.inl ⟨by rfl, ?_⟩) hHeld ?_ ?_
      rotate_left
      · intro w' hsw
        refine exec_load (x := .tmp 5) hsw.2.2 Try.underlying27 info27 rfl ?_ ?_ <;> rfl
      rotate_left
      · simp only [Act.put, List.setIfInBounds_toArray, List.set_cons_zero, List.set_cons_succ, i64_w, i32_w]
        rfl
      refine pure_ (i := 11) (N := some 36) (v := ?_) (a' := ?_) #[true, true, true, true, true, true, true, true, true, true, true, true, false, false, false, false, false] rfl rfl (any_of HT_.out (by kernel_rfl)) (fun _ _ _ h => h) (Or.inl ⟨by rfl, ?_⟩) ?_ ?_
      rotate_left
      · intro w'
        go_simp
        with_reducible rfl
      rotate_left
      · simp only [Act.put, List.setIfInBounds_toArray, List.set_cons_zero, List.set_cons_succ, i64_w, i32_w]
        rfl
      refine one_ (i := 12) (N := some 37) #[true, true, true, true, true, true, true, true, true, true, true, true, true, false, false, false, false] rfl rfl (one_of HT_.out (by kernel_rfl)) (by decide) (fun K hK => ?_)
      refine goes_ Try.func28 rfl rfl #[.agg (FR .u64 5 (carr (ofL a0))), .agg (FR .u8 32 fun _ => 0)] rfl rfl rfl (by simp only [List.map_toArray, List.map_cons, List.map_nil]; rfl) ((pow_elem _ _ _ (Fe.of a0 HA.out).1 HBY0.out).mono ?_)
      rintro e wc25 ⟨rfl, hb⟩
      have hSn : Row wc25 w.heap.size .u8 32 a0 22 ∧ Row wc25 b3 .u8 32 (pB 236) 22 ∧ Row wc25 b5 .u64 5 (carr (ofL a0)) 27 := ⟨hHeld.1.below hb hHeld.1.lt, hHeld.2.1.below hb hHeld.2.1.lt, hHeld.2.2.below hb hHeld.2.2.lt⟩
      have HBc25 := Aside0.mk (HBc24.out.trans (hb.mono HBc24.out.size))
      clear hb
      refine ⟨_, rfl, hK.out _ _ hSn (fun hHeld => ?_)⟩
      clear hSn
      clear hK K
      refine norm_ (a' := ?_) ?_ ?_
      rotate_left
      · show Act.put _ (some 37) _ = _
        simp only [Act.put, List.setIfInBounds_toArray, List.set_cons_zero, List.set_cons_succ, i64_w, i32_w]
        rfl
      refine one_ (i := 13) (N := some 38) #[true, true, true, true, true, true, true, true, true, true, true, true, true, true, false, false, false] rfl rfl (one_of HT_.out (by kernel_rfl)) (by decide) (fun K hK => ?_)
      refine goes_ Try.func11 rfl rfl #[.int .u32 1] rfl rfl rfl (by simp only [List.map_toArray, List.map_cons, List.map_nil]; rfl) ((small_elem_calls 1 _ (by omega)).mono ?_)
      rintro e wc26 ⟨rfl, hb⟩
      have hSn : Row wc26 w.heap.size .u8 32 a0 22 ∧ Row wc26 b3 .u8 32 (pB 236) 22 ∧ Row wc26 b5 .u64 5 (carr (ofL a0)) 27 := ⟨hHeld.1.below hb hHeld.1.lt, hHeld.2.1.below hb hHeld.2.1.lt, hHeld.2.2.below hb hHeld.2.2.lt⟩
      have HBc26 := Aside0.mk (HBc25.out.trans (hb.mono HBc25.out.size))
      clear hb
      refine ⟨_, rfl, hK.out _ _ hSn (fun hHeld => ?_)⟩
      clear hSn
      clear hK K
      refine norm_ (a' := ?_) ?_ ?_
      rotate_left
      · show Act.put _ (some 38) _ = _
        simp only [Act.put, List.setIfInBounds_toArray, List.set_cons_zero, List.set_cons_succ, i64_w, i32_w]
        rfl
      refine one_ (i := 14) (N := some 39) #[true, true, true, true, true, true, true, true, true, true, true, true, true, true, true, false, false] rfl rfl (one_of HT_.out (by kernel_rfl)) (by decide) (fun K hK => ?_)
      refine goes_ Try.func17 rfl rfl #[.agg (FR .u64 5 (powE (carr (ofL a0)) (fun _ => 0) 256)), .agg (FR .u64 5 (smL 1))] rfl rfl rfl (by simp only [List.map_toArray, List.map_cons, List.map_nil]; rfl) ((elem_is_bool _ _ ((Fe.of a0 HA.out).pow (fun _ => 0) 256).1 (smL_Lm 1 (by omega)) true HQ4.out _).mono ?_)
      rintro e wc27 ⟨rfl, hb⟩
      have hSn : Row wc27 w.heap.size .u8 32 a0 22 ∧ Row wc27 b3 .u8 32 (pB 236) 22 ∧ Row wc27 b5 .u64 5 (carr (ofL a0)) 27 := ⟨hHeld.1.below hb hHeld.1.lt, hHeld.2.1.below hb hHeld.2.1.lt, hHeld.2.2.below hb hHeld.2.2.lt⟩
      have HBc27 := Aside0.mk (HBc26.out.trans (hb.mono HBc26.out.size))
      clear hb
      refine ⟨_, rfl, hK.out _ _ hSn (fun hHeld => ?_)⟩
      clear hSn
      clear hK K
      refine norm_ (a' := ?_) ?_ ?_
      rotate_left
      · show Act.put _ (some 39) _ = _
        simp only [Act.put, List.setIfInBounds_toArray, List.set_cons_zero, List.set_cons_succ, i64_w, i32_w]
        rfl
      refine pure_ (i := 15) (N := some 40) (v := ?_) (a' := ?_) #[true, true, true, true, true, true, true, true, true, true, true, true, true, true, true, true, false] rfl rfl (any_of HT_.out (by kernel_rfl)) (fun _ _ _ h => h) (Or.inl ⟨by rfl, ?_⟩) ?_ ?_
      rotate_left
      · intro w'
        go_simp
        with_reducible rfl
      rotate_left
      · simp only [Act.put, List.setIfInBounds_toArray, List.set_cons_zero, List.set_cons_succ, i64_w, i32_w]
        rfl
      refine pure_ (i := 16) (N := some 2) (v := ?_) (a' := ?_) #[true, true, true, true, true, true, true, true, true, true, true, true, true, true, true, true, true] rfl rfl (any_of HT_.out (by kernel_rfl)) (fun _ _ _ h => h) (Or.inl ⟨by rfl, ?_⟩) ?_ ?_
      rotate_left
      · intro w'
        go_simp
        with_reducible rfl
      rotate_left
      · simp only [Act.put, List.setIfInBounds_toArray, List.set_cons_zero, List.set_cons_succ, i64_w, i32_w]
        rfl
      refine done_ (done_of HT_.out (by kernel_rfl)) ?_
      try go_wp2
      go_ret
      exact ⟨rfl, HBc27.out⟩
end Go.Proofs.Ythonoagpiofojaa.P
