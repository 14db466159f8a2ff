/- field.Bytes by its walk. -/
import Derived.Test.YthonoagpiofojaaA4
namespace Go.Proofs.Ythonoagpiofojaa.P
set_option linter.unusedVariables false
set_option linter.unusedSimpArgs false
open Go.RowKit
attribute [local go_sem] setCell_drewN
theorem info25 : (Try.prog.info? 25).map (·.size) = some 5 := by kernel_rfl
theorem info27 : (Try.prog.info? 27).map (·.size) = some 5 := by kernel_rfl
theorem info22 : (Try.prog.info? 22).map (·.size) = some 32 := by kernel_rfl
theorem field27 (f : Nat → Int) (w : World) : (Instr.field 27 (.agg (FR .u64 5 f)) 0).run Try.prog w = .ok (.agg (FR .u64 5 f)) w := by
  show (Instr.field 27 (.agg #[.int .u64 (f 0), .int .u64 (f 1), .int .u64 (f 2), .int .u64 (f 3), .int .u64 (f 4)]) 0).run Try.prog w = .ok (.agg #[.int .u64 (f 0), .int .u64 (f 1), .int .u64 (f 2), .int .u64 (f 3), .int .u64 (f 4)]) w
  unfold Instr.field asAgg
  go_simp
def QRel (w : World) (l : Nat → Int) (b2 : Nat) (v5 v4 : Value) (wr : World) : Prop :=
  ∃ i : Nat, 1 ≤ i ∧ i ≤ 5 ∧ v5 = .int .i64 (i : Int) ∧ v4 = .int .u64 (cy 2251799813685248 (plus19 l) i) ∧ Below w.heap.size w wr ∧ Row wr (w.heap.size + 1) .u8 32 (fun _ => 0) 22 ∧ Row wr b2 .u64 5 l 25
theorem cyT_b (g : Nat → Int) (h0 : 0 ≤ g 0 ∧ g 0 ≤ 2251799813685266) (h : ∀ i, i < 5 → i ≠ 0 → 0 ≤ g i ∧ g i < 2251799813685248) : ∀ i, i ≤ 5 → 0 ≤ cy 2251799813685248 g i ∧ cy 2251799813685248 g i ≤ 1
  | 0, _ => by simp [cy]
  | i + 1, hi => by
    have ih := cyT_b g h0 h i (by omega)
    have e : cy 2251799813685248 g (i + 1) = (g i + cy 2251799813685248 g i) / 2251799813685248 := rfl
    rw [e]
    by_cases hz : i = 0
    · subst hz
      have : cy 2251799813685248 g 0 = 0 := rfl
      omega
    · have := h i (by omega) hz
      omega
theorem topped_b (l : Nat → Int) (hl : ∀ i, i < 5 → 0 ≤ l i ∧ l i < 2251799813685248) : (0 ≤ topped l 0 ∧ topped l 0 ≤ 2251799813685266) ∧ (∀ i, i < 5 → i ≠ 0 → 0 ≤ topped l i ∧ topped l i < 2251799813685248) := by
  have hq := quo_b l hl 5 (by omega)
  have h0 := hl 0 (by omega)
  refine ⟨?_, fun i hi hz => ?_⟩
  · unfold topped quo; rw [upd_same]; omega
  · unfold topped; rw [upd_other _ _ _ _ hz]; exact hl i hi
/-- The limbs behind i of the four steps. -/
def midL (l : Nat → Int) (i j : Nat) : Int := if j < i then leastL l j else if j = i then topped l i + cy 2251799813685248 (topped l) i else topped l j
theorem midL_zero (l : Nat → Int) (j : Nat) : midL l 0 j = topped l j := by
  unfold midL
  rw [if_neg (by omega)]
  split
  · rename_i h; subst h; show _ + (0 : Int) = _; omega
  · rfl
theorem midL_step (l : Nat → Int) (i j : Nat) : midL l (i + 1) j = upd (upd (midL l i) (i + 1) (topped l (i + 1) + (topped l i + cy 2251799813685248 (topped l) i) / 2251799813685248)) i ((topped l i + cy 2251799813685248 (topped l) i) % 2251799813685248) j := by
  by_cases h1 : j = i
  · subst h1; rw [upd_same]; unfold midL; rw [if_pos (by omega)]; rfl
  · rw [upd_other _ _ _ _ h1]
    by_cases h2 : j = i + 1
    · subst h2; rw [upd_same]; unfold midL; rw [if_neg (by omega), if_pos rfl]; rfl
    · rw [upd_other _ _ _ _ h2]; unfold midL
      by_cases h3 : j < i
      · rw [if_pos h3, if_pos (by omega)]
      · rw [if_neg h3, if_neg h1, if_neg (by omega), if_neg h2]
def GRel (w : World) (l : Nat → Int) (b2 : Nat) (v35 : Value) (wr : World) : Prop :=
  ∃ i : Nat, i ≤ 4 ∧ v35 = .int .i64 (i : Int) ∧ Below w.heap.size w wr ∧ Row wr (w.heap.size + 1) .u8 32 (fun _ => 0) 22 ∧ Row wr b2 .u64 5 (midL l i) 25
def ZRel (w : World) (l : Nat → Int) (N : Int) (b2 b4 : Nat) (v58 : Value) (wr : World) : Prop :=
  ∃ i : Nat, i ≤ 255 ∧ v58 = .int .i64 (i : Int) ∧ Below w.heap.size w wr ∧ Row wr (w.heap.size + 1) .u8 32 (fun _ => 0) 22 ∧ Row wr b2 .u64 5 (leastL l) 25 ∧ Row wr b4 .u8 32 (outB N i) 22
theorem elem_bytes_calls (f : Nat → Int) (w : World) (hf : ∀ i, i < 5 → 0 ≤ f i ∧ f i ≤ 9223372036854775808) :
    Calls Try.prog 12 #[.agg (FR .u64 5 f)] w fun e w' => e = .returned (.agg (FR .u8 32 (dig 256 (V51 f % PP)))) ∧ Below w.heap.size w w' := by
  have HL1 := Aside0.mk (carr_Lm f hf)
  have HD := Aside0.mk (carr_two _ (carr_Lm f hf))
  have HC1 := Aside0.mk (fun w => carr_calls f w hf)
  have HC2 := Aside0.mk (fun w => carr_calls (carr f) w (fun i hi => by have := (carr_Lm f hf).b i hi; omega))
  clear hf
  go_enter Try.func12, Try.ntmps12
  have HR0 := Aside0.mk ((Row.new w .u64 5 f 27).alloc (.cells (FR .u8 32 fun _ => 0) 22))
  have HZ0 : Aside0 (Row ((w.alloc (.cells (FR .u64 5 f) 27)).alloc (.cells (FR .u8 32 fun _ => 0) 22)) (w.heap.size + 1) .u8 32 (fun _ => 0) 22) := Aside0.mk (heap_alloc2_new w _ _)
  have HB0 := Aside0.mk (bel_two w (.cells (FR .u64 5 f) 27) (.cells (FR .u8 32 fun _ => 0) 22))
  go_wp2_with (refine step_load HR0.out Try.underlying25 info25 rfl rfl rfl rfl ?_)
  refine (HC1.out _).mono ?_
  rintro e w1 ⟨rfl, hb⟩
  have HZ1 := Aside0.mk (HZ0.out.below hb HZ0.out.lt)
  have HB1 := Aside0.mk (HB0.out.trans (hb.mono (by simp; omega)))
  have hl1 := HZ1.out.lt
  clear hb HR0 HZ0 HB0
  have hfl := field27
  go_wp2_with fail
  refine (HC2.out _).mono ?_
  rintro e w2 ⟨rfl, hb⟩
  have HZ2 := Aside0.mk (HZ1.out.below hb hl1)
  have HB2 := Aside0.mk (HB1.out.trans (hb.mono (by omega)))
  have hl2 := HZ2.out.lt
  clear hb HZ1 HB1
  have HN := Aside0.mk (Row.new w2 .u64 5 (fun _ => 0) 25)
  have HZ3 := Aside0.mk (HZ2.out.alloc (.cells (FR .u64 5 fun _ => 0) 25))
  have HB3 := Aside0.mk (HB2.out.alloc (by omega) (.cells (FR .u64 5 fun _ => 0) 25))
  have HV : Aside0 (V51 (carr (carr f)) % PP = V51 f % PP) := ⟨by rw [carr_mod, carr_mod]⟩
  generalize carr (carr f) = l at *
  have hl0 := HD.out 0 (by omega)
  have hw19 : IntKind.u64.wrap (l 0 + 19) = l 0 + 19 := u64w _ (by omega) (by omega)
  have HQ1 : Aside0 (cy 2251799813685248 (plus19 l) 1 = (l 0 + 19) / 2251799813685248) := ⟨by show (l 0 + 19 + 0) / _ = _; rw [Int.add_zero]⟩
  clear hl0 HC1 HC2
  go_wp2_with (refine step_storeG l HN.out info25 rfl rfl rfl rfl rfl ?_; intro w3 hs hr; have HS3 := Aside0.mk hs; have HR3 := Aside0.mk hr; have k0 := hr.cell 0 (by omega); clear hs hr)
  have HZ4 := Aside0.mk (HZ3.out.stored HS3.out (by omega))
  have HB4 := Aside0.mk (HS3.out.bel _ _ (by omega) HB3.out)
  clear HZ3 HB3 HZ2 HB2 HN HS3 k0 hfl
  go_loopw [5, 4] (fun v5 v4 wr => QRel w l w2.heap.size v5 v4 wr) (fun v _ _ => 5 - (intOf v).toNat)
  case atStart => exact ⟨1, by omega, by omega, rfl, by rw [HQ1.out], HB4.out, HZ4.out, HR3.out⟩
  case round =>
    clear HZ4 HB4 HR3 HQ1
    obtain ⟨i, h1, hi, rfl, rfl, hb, hz, hr⟩ := hrel
    have HB := Aside0.mk hb
    have HZ := Aside0.mk hz
    have HR := Aside0.mk hr
    rcases Nat.lt_or_ge i 5 with h5 | h5
    · have hlt : ((i : Int) < 5) = True := eq_true (by omega)
      have k0 := hr.cell i (by omega)
      have hb0 := HD.out i (by omega)
      have hq0 := quo_b l HD.out i (by omega)
      have HX : Aside0 (cy 2251799813685248 (plus19 l) (i + 1) = (l i + cy 2251799813685248 (plus19 l) i) / 2251799813685248) := ⟨by
        show (plus19 l i + _) / _ = _
        unfold plus19; rw [upd_other _ _ _ _ (by omega)]⟩
      generalize cy 2251799813685248 (plus19 l) i = q at *
      generalize l i = x at *
      have hwq : IntKind.u64.wrap (x + q) = x + q := u64w _ (by omega) (by omega)
      clear hb hz hr hb0 hq0
      go_wp2_with fail
      refine ⟨⟨i + 1, by omega, by omega, rfl, by rw [HX.out], HB.out, HZ.out, HR.out⟩, meas_up 5 i (by omega)⟩
    · obtain rfl : i = 5 := by omega
      have hl2' := hz.lt
      have k0 := hr.cell 0 (by omega)
      have f0 := hr.fro 0
      have hb0 := HD.out 0 (by omega)
      have hq0 := quo_b l HD.out 5 (by omega)
      have HQ5 : Aside0 (cy 2251799813685248 (plus19 l) 5 = quo l) := ⟨rfl⟩
      have HRT := Aside0.mk (hr.set 0 (l 0 + 19 * cy 2251799813685248 (plus19 l) 5) (by omega))
      generalize cy 2251799813685248 (plus19 l) 5 = q at *
      have hwq : IntKind.u64.wrap (19 * q) = 19 * q := u64w _ (by omega) (by omega)
      have hwq2 : IntKind.u64.wrap (l 0 + 19 * q) = l 0 + 19 * q := u64w _ (by omega) (by omega)
      clear hb hz hr hb0 hq0
      go_wp2_with fail
      have HBT := Aside0.mk (bel_set HB.out ⟨w2.heap.size, 0, none⟩ (.int .u64 (l 0 + 19 * q)) (by simp; omega))
      have HZT := Aside0.mk (HZ.out.other ⟨w2.heap.size, 0, none⟩ (.int .u64 (l 0 + 19 * q)) (by simp; omega))
      have HRT2 : Aside0 (Row (wr.setCell ⟨w2.heap.size, 0, none⟩ (.int .u64 (l 0 + 19 * q))) w2.heap.size .u64 5 (midL l 0) 25) := ⟨row_eq HRT.out (fun j hj => by rw [midL_zero]; unfold topped; rw [← HQ5.out])⟩
      clear HB HZ HR HRT k0 f0 hwq hwq2
      generalize wr.setCell ⟨w2.heap.size, 0, none⟩ (.int .u64 (l 0 + 19 * q)) = w5 at *
      go_loopw [35] (fun v35 wr => GRel w l w2.heap.size v35 wr) (fun v _ => 4 - (intOf v).toNat)
      case atStart => exact ⟨0, by omega, rfl, HBT.out, HZT.out, HRT2.out⟩
      case round =>
        clear HBT HZT HRT2
        obtain ⟨i, hi, rfl, hb, hz, hr⟩ := hrel
        have HB := Aside0.mk hb
        have HZ := Aside0.mk hz
        have HR := Aside0.mk hr
        have hlz := hz.lt
        have hlr := hr.lt
        rcases Nat.lt_or_ge i 4 with h4 | h4
        · have hlt : ((i : Int) < 4) = True := eq_true (by omega)
          have hlt5 : ((i : Int) < 5) = True := eq_true (by omega)
          have hlt6 : ((i : Int) + 1 < 5) = True := eq_true (by omega)
          have hb0 := topped_b l HD.out
          have hb1 := hb0.2 (i + 1) (by omega) (by omega)
          have hc := cyT_b (topped l) hb0.1 hb0.2 i (by omega)
          have hb2 : 0 ≤ topped l i ∧ topped l i ≤ 2251799813685266 := by
            by_cases hz : i = 0
            · subst hz; exact hb0.1
            · have := hb0.2 i (by omega) hz; omega
          have k0 := hr.cell i (by omega)
          have k1 := hr.cell (i + 1) (by omega)
          have f0 := hr.fro i
          have f1 := hr.fro (i + 1)
          have e0 : midL l i i = topped l i + cy 2251799813685248 (topped l) i := by unfold midL; rw [if_neg (by omega), if_pos rfl]
          have e1 : midL l i (i + 1) = topped l (i + 1) := by unfold midL; rw [if_neg (by omega), if_neg (by omega)]
          rw [e0] at k0
          rw [e1] at k1
          have HS := Aside0.mk (row_eq ((hr.set (i + 1) (topped l (i + 1) + (topped l i + cy 2251799813685248 (topped l) i) / 2251799813685248) (by omega)).set i ((topped l i + cy 2251799813685248 (topped l) i) % 2251799813685248) (by omega)) (fun j hj => (midL_step l i j).symm))
          generalize hT : topped l i + cy 2251799813685248 (topped l) i = T at *
          have hTb : 0 ≤ T ∧ T < 4503599627370496 := by omega
          generalize topped l (i + 1) = y at *
          have m0 := mask51 T (by omega) (by omega)
          have hw : IntKind.u64.wrap (y + T / 2251799813685248) = y + T / 2251799813685248 := u64w _ (by omega) (by omega)
          clear hb hz hr e0 e1 hb0 hb1 hc hb2 hT hTb
          go_wp2_with fail
          go_region
          all_goals go_wp2_with fail
          refine ⟨⟨i + 1, by omega, rfl, bel_set (bel_drewN (bel_set HB.out _ _ (by simp; omega)) 1) _ _ (by simp; omega), ?_, ?_⟩, meas_up 4 i (by omega)⟩
          · exact (HZ.out.other ⟨w2.heap.size, i + 1, none⟩ _ (by simp; omega)).other ⟨w2.heap.size, i, none⟩ _ (by simp; omega)
          · exact HS.out
        · obtain rfl : i = 4 := by omega
          have hb0 := topped_b l HD.out
          have hb1 := hb0.2 4 (by omega) (by omega)
          have hc := cyT_b (topped l) hb0.1 hb0.2 4 (by omega)
          have k4 := hr.cell 4 (by omega)
          have f4 := hr.fro 4
          have e4 : midL l 4 4 = topped l 4 + cy 2251799813685248 (topped l) 4 := rfl
          rw [e4] at k4
          have HS := Aside0.mk (row_eq (hr.set 4 ((topped l 4 + cy 2251799813685248 (topped l) 4) % 2251799813685248) (by omega)) (f' := leastL l) (fun j hj => by
            by_cases h : j = 4
            · subst h; rw [upd_same]; rfl
            · rw [upd_other _ _ _ _ h]; unfold midL; rw [if_pos (by omega)]))
          generalize hT : topped l 4 + cy 2251799813685248 (topped l) 4 = T at *
          have m4 := mask51 T (by omega) (by omega)
          have HBT := Aside0.mk (bel_set HB.out ⟨w2.heap.size, 4, none⟩ (.int .u64 (T % 2251799813685248)) (by simp; omega))
          have HZT := Aside0.mk (HZ.out.other ⟨w2.heap.size, 4, none⟩ (.int .u64 (T % 2251799813685248)) (by simp; omega))
          clear hb hz hr e4 hb0 hb1 hc hT
          go_wp2_with fail
          have hs6 : (wr.setCell ⟨w2.heap.size, 4, none⟩ (.int .u64 (T % 2251799813685248))).heap.size = wr.heap.size := by simp [World.setCell]
          generalize wr.setCell ⟨w2.heap.size, 4, none⟩ (.int .u64 (T % 2251799813685248)) = w6 at *
          have HBA := Aside0.mk (HBT.out.alloc (by omega) (.cells (FR .u8 32 fun _ => 0) 22))
          have HZA := Aside0.mk (HZT.out.alloc (.cells (FR .u8 32 fun _ => 0) 22))
          have HSA := Aside0.mk (HS.out.alloc (.cells (FR .u8 32 fun _ => 0) 22))
          have hoa := Row.new w6 .u8 32 (fun _ => 0) 22
          rw [hs6] at hoa
          have HOA := Aside0.mk hoa
          clear hoa
          have HN : Aside0 (val 2251799813685248 (leastL l) 5 = V51 f % PP) := ⟨by rw [leastL_V l HD.out, HV.out]⟩
          clear HB HZ HR HS HBT HZT k4 f4 m4
          have hw6 : w.heap.size + 1 < w6.heap.size := by omega
          have hw62 : w2.heap.size < w6.heap.size := by omega
          have hb4 : w2.heap.size < wr.heap.size := by omega
          have hb41 : w.heap.size + 1 < wr.heap.size := by omega
          generalize wr.heap.size = b4 at *
          go_loopw [58] (fun v58 wr => ZRel w l (V51 f % PP) w2.heap.size b4 v58 wr) (fun v _ => 255 - (intOf v).toNat)
          case atStart => exact ⟨0, by omega, rfl, HBA.out, HZA.out, HSA.out, row_eq HOA.out (fun j hj => by unfold outB; rw [show min 8 (0 - 8 * j) = 0 by omega]; simp [Int.emod_one])⟩
          case round =>
            clear HBA HZA HSA HOA
            obtain ⟨i, hi, rfl, hb, hz, hr, ho⟩ := hrel
            have HB := Aside0.mk hb
            have HZ := Aside0.mk hz
            have HR := Aside0.mk hr
            have HO := Aside0.mk ho
            have hlz := hz.lt
            have hlr := hr.lt
            rcases Nat.lt_or_ge i 255 with h4 | h4
            · have hlt : ((i : Int) < 255) = True := eq_true (by omega)
              have d8 : Int.tdiv (i : Int) 8 = ((i / 8 : Nat) : Int) := rfl
              have d51 : Int.tdiv (i : Int) 51 = ((i / 51 : Nat) : Int) := rfl
              have r51 : Int.tmod (i : Int) 51 = ((i % 51 : Nat) : Int) := rfl
              have r8 : Int.tmod (i : Int) 8 = ((i % 8 : Nat) : Int) := rfl
              have l8 : (((i / 8 : Nat) : Int) < 32) = True := eq_true (by omega)
              have l51 : (((i / 51 : Nat) : Int) < 5) = True := eq_true (by omega)
              have k8 := ho.cell (i / 8) (by omega)
              have k51 := hr.cell (i / 51) (by omega)
              have f8 := ho.fro (i / 8)
              clear hb hz hr ho
              go_wp2_with fail
              go_region
              all_goals go_wp2_with fail
              refine ⟨⟨i + 1, by omega, rfl, (bel_set HB.out ⟨b4, i / 8, none⟩ _ (by simp; omega)).drew, HZ.out.other ⟨b4, i / 8, none⟩ _ (by simp; omega), HR.out.other ⟨b4, i / 8, none⟩ _ (by simp; omega), ?_⟩, meas_up 255 i (by omega)⟩
              rw [bit_step (leastL l) (fun i _ => leastL_b l i) (V51 f % PP) HN.out i h4]
              exact row_eq (HO.out.set (i / 8) _ (by omega)) (fun j hj => (outB_step (V51 f % PP) i j).symm)
            · obtain rfl : i = 255 := by omega
              have HO2 := Aside0.mk (row_eq HO.out (f' := dig 256 (V51 f % PP)) (fun j hj => outB_end _ (Int.emod_nonneg _ (by decide)) (Int.lt_trans (Int.emod_lt_of_pos _ (by decide)) (by decide)) j hj))
              clear hb hz hr ho HO
              go_wp2_with (first | refine step_load HO2.out Try.underlying22 info22 rfl rfl rfl rfl ?_ | (refine step_storeG _ HZ.out info22 rfl rfl rfl rfl rfl ?_; intro w9 hs hr; have HS9 := Aside0.mk hs; have HR9 := Aside0.mk hr; clear hs hr))
              refine bodyPost_ret (row_results rfl HR9.out rfl Try.underlying22 rfl info22) rfl ?_
              exact ⟨rfl, HS9.out.bel _ _ (by omega) HB.out⟩
end Go.Proofs.Ythonoagpiofojaa.P
