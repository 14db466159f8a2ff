/- The document's Least by its walk. -/
import Derived.Test.YthonoagpiofojaaA2
namespace Go.Proofs.Ythonoagpiofojaa.P
set_option linter.unusedVariables false
set_option linter.unusedSimpArgs false
open Go.RowKit
attribute [local go_sem] setCell_drewN
/-- The number that stands in a block. -/
def rowNat (w : World) (g : Nat) : Nat := match w.heap[g]? with
  | some (.cells cs _ _) => (V16 (fun i => match cs[i]? with | some v => intOf v | none => 0)).toNat
  | _ => 0
theorem rowNat_of {w : World} {g : Nat} {f : Nat → Int} {t : TypeId} (h : Row w g .i64 16 f t) : rowNat w g = (V16 f).toNat := by
  unfold rowNat
  rw [h]
  have e : V16 (fun i => match (FR .i64 16 f)[i]? with | some v => intOf v | none => 0) = V16 f := val_congr 65536 _ _ 16 (fun i hi => by show (match (FR .i64 16 f)[i]? with | some v => intOf v | none => 0) = _; rw [FR_at _ _ _ _ hi]; rfl)
  show (V16 (fun i => match (FR .i64 16 f)[i]? with | some v => intOf v | none => 0)).toNat = _
  rw [e]
/-- Each of 16 digits is below 2^16. -/
def D16 (f : Nat → Int) : Prop := ∀ j, j < 16 → 0 ≤ f j ∧ f j < 65536
theorem least_end (f f' : Nat → Int) (hd : D16 f') (hv : V16 f' % PP = V16 f % PP) (hb : belowN f' 16 = true) : FR .i64 16 f' = FR .i64 16 (dig 65536 (V16 f % PP)) := by
  apply FR_congr
  intro i hi
  rw [belowN16 f' hd] at hb
  have h1 : V16 f' < PP := by simpa using hb
  have h2 : 0 ≤ V16 f' := (val_b 65536 (by omega) f' 16 hd).1
  rw [dig_val 65536 (by omega) f' 16 hd i hi]
  have e : V16 f' = V16 f % PP := by rw [← hv, Int.emod_eq_of_lt h2 h1]
  show dig 65536 (V16 f') i = _
  rw [e]
theorem less_mod (f f' : Nat → Int) (hv : V16 f' % PP = V16 f % PP) (h : V16 (lessD f') = V16 f' - PP) : V16 (lessD f') % PP = V16 f % PP := by
  rw [h, ← hv]; exact Int.sub_emod_right _ _
theorem less_row (f' : Nat → Int) (i : Nat) (h : D16 f') (hi : i < 16) : lessD f' i = f' i - pD i + cy 65536 (fun j => f' j - pD j) i - (f' i - pD i + cy 65536 (fun j => f' j - pD j) i) / 65536 * 65536 := by
  unfold lessD; omega
def LRel1 (w : World) (f : Nat → Int) (wr : World) : Prop :=
  ∃ f', D16 f' ∧ V16 f' % PP = V16 f % PP ∧ Below w.heap.size w wr ∧ Row wr w.heap.size .i64 16 f' 33 ∧ Row wr (w.heap.size + 1) .i64 16 (fun _ => 0) 33
def LRel2 (w : World) (f' : Nat → Int) (gp : Nat) (v5 v4 : Value) (wr : World) : Prop :=
  ∃ i : Nat, i ≤ 16 ∧ v5 = .int .i64 (i : Int) ∧ v4 = .int .i64 (cy 65536 (fun j => f' j - pD j) i) ∧ Below w.heap.size w wr ∧ Row wr w.heap.size .i64 16 (fun j => if j < i then lessD f' j else f' j) 33 ∧ Row wr (w.heap.size + 1) .i64 16 (fun _ => 0) 33 ∧ Row wr gp .i64 16 pD 33
theorem cy_b (f' : Nat → Int) (h : D16 f') : ∀ i, i ≤ 16 → -1 ≤ cy 65536 (fun j => f' j - pD j) i ∧ cy 65536 (fun j => f' j - pD j) i ≤ 0
  | 0, _ => by simp [cy]
  | i + 1, hi => by
    have ih := cy_b f' h i (by omega)
    have h1 := h i (by omega)
    have h2 := pD_b i
    show -1 ≤ (f' i - pD i + cy 65536 (fun j => f' j - pD j) i) / 65536 ∧ _
    have e : cy 65536 (fun j => f' j - pD j) (i + 1) = (f' i - pD i + cy 65536 (fun j => f' j - pD j) i) / 65536 := rfl
    rw [e]
    omega
theorem least_calls (f : Nat → Int) (w : World) (hf : CB f) :
    Calls Try.prog 39 #[.agg (FR .i64 16 f)] w fun e w' => e = .returned (.agg (FR .i64 16 (dig 65536 (V16 f % PP)))) ∧ Below w.heap.size w w' := by
  have HF := Aside0.mk (carry_thrice f hf)
  have HF0 := Aside0.mk hf
  clear hf
  go_enter Try.func39, Try.ntmps39
  have HR0 := Aside0.mk ((Row.new w .i64 16 f 33).alloc (.cells (FR .i64 16 fun _ => 0) 33))
  have HZ0 : Aside0 (Row ((w.alloc (.cells (FR .i64 16 f) 33)).alloc (.cells (FR .i64 16 fun _ => 0) 33)) (w.heap.size + 1) .i64 16 (fun _ => 0) 33) := Aside0.mk (heap_alloc2_new w _ _)
  have HB0 := Aside0.mk (bel_two w (.cells (FR .i64 16 f) 33) (.cells (FR .i64 16 fun _ => 0) 33))
  go_wp2_with (refine step_load HR0.out Try.underlying33 info33 rfl rfl rfl rfl ?_)
  refine (carry_calls _ _ HF0.out).mono ?_
  rintro e w1 ⟨rfl, hb⟩
  have HR1 := Aside0.mk (HR0.out.below hb HR0.out.lt)
  have HZ1 := Aside0.mk (HZ0.out.below hb HZ0.out.lt)
  have HB1 := Aside0.mk (HB0.out.trans (hb.mono (by simp; omega)))
  clear hb HR0 HZ0 HB0
  go_wp2_with fail
  refine (carry_calls _ _ HF.out.1).mono ?_
  rintro e w2 ⟨rfl, hb⟩
  have HR2 := Aside0.mk (HR1.out.below hb HR1.out.lt)
  have HZ2 := Aside0.mk (HZ1.out.below hb HZ1.out.lt)
  have HB2 := Aside0.mk (HB1.out.trans (hb.mono (by have := HZ1.out.lt; omega)))
  clear hb HR1 HZ1 HB1
  go_wp2_with fail
  refine (carry_calls _ _ HF.out.2.1).mono ?_
  rintro e w3 ⟨rfl, hb⟩
  have HR3 := Aside0.mk (HR2.out.below hb HR2.out.lt)
  have HZ3 := Aside0.mk (HZ2.out.below hb HZ2.out.lt)
  have HB3 := Aside0.mk (HB2.out.trans (hb.mono (by have := HZ2.out.lt; omega)))
  clear hb HR2 HZ2 HB2
  go_wp2_with (refine step_store _ HR3.out info33 rfl rfl rfl rfl rfl ?_)
  go_loopw [11] (fun _ wr => LRel1 w f wr) (fun _ wr => rowNat wr w.heap.size)
  case atStart => exact ⟨_, HF.out.2.2.1, HF.out.2.2.2, bel_setCells (Nat.le_refl _) _ _ _ HB3.out, HR3.out.all, HZ3.out.cells_other _ (by omega)⟩
  case round =>
    obtain ⟨f', hd, hv, hb, hr, hz⟩ := hrel
    have HD := Aside0.mk hd
    have HV := Aside0.mk hv
    have HB := Aside0.mk hb
    have HR := Aside0.mk hr
    have HZ := Aside0.mk hz
    have hl1 := hr.lt
    have hl2 := hz.lt
    clear hd hv hb hr hz HB3 HR3 HZ3
    go_wp2_with (refine step_load HR.out Try.underlying33 info33 rfl rfl rfl rfl ?_)
    refine (below_calls _ _).mono ?_
    rintro e w4 ⟨rfl, hb⟩
    have HR4 := Aside0.mk (HR.out.below hb hl1)
    have HZ4 := Aside0.mk (HZ.out.below hb hl2)
    have HB4 := Aside0.mk (HB.out.trans (hb.mono (by omega)))
    have hl3 := HR4.out.lt
    have hl4 := HZ4.out.lt
    clear hb
    cases hbl : belowN f' 16
    · have HBL := Aside0.mk hbl
      clear hbl
      go_wp2_with fail
      refine (P_calls _).mono ?_
      rintro e w5 ⟨rfl, hb⟩
      have HR5 := Aside0.mk (HR4.out.below hb hl3)
      have HZ5 := Aside0.mk (HZ4.out.below hb hl4)
      have HB5 := Aside0.mk (HB4.out.trans (hb.mono (by omega)))
      have hl5 := HR5.out.lt
      have hl6 := HZ5.out.lt
      clear hb
      have HN := Aside0.mk (Row.new w5 .i64 16 (fun _ => 0) 33)
      go_wp2_with (refine step_store pD HN.out info33 rfl rfl rfl rfl rfl ?_)
      have HB6 := Aside0.mk (bel_setCells (show w.heap.size ≤ w5.heap.size by omega) (FR .i64 16 pD).toList 0 _ (HB5.out.alloc (by omega) (.cells (FR .i64 16 fun _ => 0) 33)))
      have HR6 := Aside0.mk ((HR5.out.alloc (.cells (FR .i64 16 fun _ => 0) 33)).cells_other (FR .i64 16 pD).toList (show w.heap.size ≠ w5.heap.size by omega))
      have HZ6 := Aside0.mk ((HZ5.out.alloc (.cells (FR .i64 16 fun _ => 0) 33)).cells_other (FR .i64 16 pD).toList (show w.heap.size + 1 ≠ w5.heap.size by omega))
      have HP := Aside0.mk (HN.out.all (f' := pD))
      have HL := Aside0.mk (lessD_V f' HD.out HBL.out)
      have HM := Aside0.mk (rowNat_of HR.out)
      have HPP := Aside0.mk (show PP ≤ V16 f' by
        have := HBL.out
        rw [belowN16 f' HD.out] at this
        simpa using this)
      clear HN HR HZ HB HR4 HZ4 HB4 HR5 HZ5 HB5
      go_wp2_with fail
      go_loopw [5, 4] (fun v5 v4 wr => LRel2 w f' w5.heap.size v5 v4 wr) (fun v _ _ => 16 - (intOf v).toNat)
      case atStart => exact ⟨0, by omega, rfl, rfl, HB6.out, row_eq HR6.out (fun j hj => (if_neg (by omega)).symm), HZ6.out, HP.out⟩
      case round =>
        obtain ⟨i, hi, rfl, rfl, hb, hr, hz, hp⟩ := hrel
        have HB7 := Aside0.mk hb
        have HR7 := Aside0.mk hr
        have HZ7 := Aside0.mk hz
        have HP7 := Aside0.mk hp
        rcases Nat.lt_or_ge i 16 with h15 | h15
        · have hlt : ((i : Int) < 16) = True := eq_true (by omega)
          have f0 := hr.fro i
          have k0 := hr.cell i (by omega)
          have e0 : (if i < i then lessD f' i else f' i) = f' i := if_neg (by omega)
          rw [e0] at k0
          have k1 := hp.cell i (by omega)
          have hc := cy_b f' HD.out i (by omega)
          have hd := HD.out i h15
          have hq := pD_b i
          have HX := Aside0.mk (less_row f' i HD.out h15)
          have HY := Aside0.mk (show cy 65536 (fun j => f' j - pD j) (i + 1) = (f' i - pD i + cy 65536 (fun j => f' j - pD j) i) / 65536 from rfl)
          generalize cy 65536 (fun j => f' j - pD j) i = c at *
          have w0 : wrap64 (f' i - pD i) = f' i - pD i := w64 _ (by omega)
          have w1' : wrap64 (f' i - pD i + c) = f' i - pD i + c := w64 _ (by omega)
          generalize hx : f' i - pD i + c = x at *
          have hxb : -65536 ≤ x ∧ x ≤ 65535 := by omega
          have w2' : wrap64 (x / 65536 * 65536) = x / 65536 * 65536 := w64 _ (by omega)
          have w3' : wrap64 (x - x / 65536 * 65536) = x - x / 65536 * 65536 := w64 _ (by omega)
          have hx' := hx
          clear hb hr hz hp e0 hc hd hq hxb hx
          go_wp2_with fail
          go_region
          all_goals go_wp2_with fail
          refine ⟨⟨i + 1, by omega, rfl, by rw [HY.out], (bel_set HB7.out _ _ (Nat.le_refl _)).drew, ?_, HZ7.out.other _ _ (show w.heap.size + 1 ≠ w.heap.size by omega), HP7.out.other _ _ (show w5.heap.size ≠ w.heap.size by omega)⟩, meas_up 16 i (by omega)⟩
          rw [← HX.out]
          exact part_step (F := lessD f') (a := ⟨0, 0, none⟩) HR7.out (by omega)
        · obtain rfl : i = 16 := by omega
          clear hb hr hz hp
          go_wp2_with fail
          have HR8 := row_eq HR7.out (f' := lessD f') (fun j hj => if_pos hj)
          refine ⟨⟨lessD f', HL.out.2, less_mod f f' HV.out HL.out.1, HB7.out, HR8, HZ7.out⟩, ?_⟩
          rw [HM.out, rowNat_of HR8, HL.out.1]
          have := HPP.out
          unfold PP at *
          omega
    · have HBL := Aside0.mk hbl
      clear hbl
      go_wp2_with (first | refine step_load HR4.out Try.underlying33 info33 rfl rfl rfl rfl ?_ | refine step_store _ HZ4.out info33 rfl rfl rfl rfl rfl ?_)
      refine bodyPost_ret (row_results rfl (HZ4.out.all) rfl Try.underlying33 rfl info33) rfl ?_
      exact ⟨by rw [least_end f f' HD.out HV.out HBL.out], bel_setCells (by omega) _ _ _ HB4.out⟩
end Go.Proofs.Ythonoagpiofojaa.P
