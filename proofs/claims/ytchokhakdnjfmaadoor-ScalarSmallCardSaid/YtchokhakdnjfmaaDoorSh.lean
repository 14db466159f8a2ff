/- scalar.Neg, by its walk. -/
import Derived.Test.YtchokhakdnjfmaaDoorSg
namespace Go.Proofs.YtchokhakdnjfmaaDoor.P
set_option linter.unusedVariables false
set_option linter.unusedSimpArgs false
open Go.RowKit Go.Proofs.YtchokhakdnjfmaaDoorW.PrintWords Go.Proofs.YtchokhakdnjfmaaDoorW.PrintLast Go.Proofs.YtchokhakdnjfmaaDoorW.PrintMore
attribute [local go_sem] setCell_drewN
theorem ordL_dig (i : Nat) (h : i < 4) : ordL i = dig 18446744073709551616 LL i := by
  have hc : i = 0 ∨ i = 1 ∨ i = 2 ∨ i = 3 := by omega
  rcases hc with rfl | rfl | rfl | rfl <;> decide
def lessOne (j : Nat) : Int := if j = 0 then 236 else dig 256 LL j
theorem lessOne_By : By lessOne := fun j _ => by
  unfold lessOne
  split
  · omega
  · exact dig_b 256 (by omega) LL j
theorem lessOne_N : N32 lessOne = LL - 1 := by decide +kernel
theorem zero_By : By (fun _ => 0) := fun j _ => by show 0 ≤ (0 : Int) ∧ (0 : Int) < 256; omega
theorem zero_N : N32 (fun _ => 0) = 0 := by decide +kernel
def NegRel (f : Nat → Int) (w : World) (v5 : Value) (wr : World) : Prop :=
  ∃ i : Nat, i ≤ 32 ∧ v5 = .int .i64 (i : Int) ∧ Below w.heap.size w wr ∧ Row wr w.heap.size .u8 32 f 23 ∧ Row wr (w.heap.size + 1) .u8 32 (fun _ => 0) 23 ∧ Row wr (w.heap.size + 1 + 1) .u8 32 (fun j => if j < i then dig 256 LL j else 0) 23
set_option maxRecDepth 100000 in
theorem neg_calls (f : Nat → Int) (w : World) (ho : Ord w) (hf : By f) :
    Calls Tryd.prog 17 #[.agg (FR .u8 32 f)] w fun e w' => e = .returned (.agg (FR .u8 32 (dig 256 (N32 f * (LL - 1) % LL)))) ∧ Below w.heap.size w w' := by
  have HO := Aside0.mk ho
  have HF := Aside0.mk hf
  clear ho hf
  go_enter Tryd.func17, Tryd.ntmps17
  go_wp2_with fail
  have HB0 := Aside0.mk (bel_three w (.cells (FR .u8 32 f) 23) (.cells (FR .u8 32 fun _ => 0) 23) (.cells (FR .u8 32 fun _ => 0) 23))
  have HF0 := Aside0.mk (((Row.new w .u8 32 f 23).alloc (.cells (FR .u8 32 fun _ => 0) 23)).alloc (.cells (FR .u8 32 fun _ => 0) 23))
  have HZ0 := Aside0.mk ((Row.new (w.alloc (.cells (FR .u8 32 f) 23)) .u8 32 (fun _ => 0) 23).alloc (.cells (FR .u8 32 fun _ => 0) 23))
  have HM0 := Aside0.mk (Row.new ((w.alloc (.cells (FR .u8 32 f) 23)).alloc (.cells (FR .u8 32 fun _ => 0) 23)) .u8 32 (fun _ => 0) 23)
  have hz : (w.alloc (.cells (FR .u8 32 f) 23)).heap.size = w.heap.size + 1 := by simp
  have hz2 : ((w.alloc (.cells (FR .u8 32 f) 23)).alloc (.cells (FR .u8 32 fun _ => 0) 23)).heap.size = w.heap.size + 1 + 1 := by simp
  rw [hz] at HZ0
  rw [hz2] at HM0
  clear hz hz2
  go_loopw [5] (fun v5 wr => NegRel f w v5 wr) (fun v _ => 32 - (intOf v).toNat)
  case atStart => exact ⟨0, by omega, rfl, HB0.out, HF0.out, HZ0.out, row_eq HM0.out (fun j hj => by rw [if_neg (by omega)])⟩
  case round =>
    obtain ⟨i, hi, rfl, hb, hr, hz, hm⟩ := hrel
    clear HB0 HF0 HZ0 HM0
    have HB := Aside0.mk hb
    have HR := Aside0.mk hr
    have HZ := Aside0.mk hz
    have HM := Aside0.mk hm
    have hsz := hm.lt
    rcases Nat.lt_or_ge i 32 with h32 | h32
    · have hlt : ((i : Int) < 32) = True := eq_true (by omega)
      have k0 := (HO.out.below hb HO.out.lt) (i / 8) (by omega)
      rw [add_zero_at, Nat.zero_add, ordL_dig _ (by omega)] at k0
      have f0 := hm.fro i
      have k1 := hm.cell i h32
      have hd := dig_limb LL i
      have HS := Aside0.mk (part_step (a := ⟨0, 0, none⟩) hm h32)
      have q8 : ((i / 8 : Nat) : Int) < 5 := by omega
      clear hb hr hz hm
      go_wp2_with fail
      exact ⟨⟨i + 1, by omega, rfl, bel_set HB.out _ _ (show w.heap.size ≤ w.heap.size + 1 + 1 by omega), HR.out.other _ _ (show w.heap.size ≠ w.heap.size + 1 + 1 by omega), HZ.out.other _ _ (show w.heap.size + 1 ≠ w.heap.size + 1 + 1 by omega), HS.out⟩, meas_up 32 i h32⟩
    · obtain rfl : i = 32 := by omega
      have k0 : wr.cell? ⟨w.heap.size + 1 + 1, 0, none⟩ = some (.int .u8 237) := hm.cell 0 (by omega)
      have f0 := hm.fro 0
      have HM2 : Aside0 (Row (wr.setCell ⟨w.heap.size + 1 + 1, 0, none⟩ (.int .u8 236)) (w.heap.size + 1 + 1) .u8 32 lessOne 23) := ⟨row_eq (hm.set 0 236 (by omega)) (fun j hj => by
        unfold upd lessOne
        by_cases h0 : j = 0
        · rw [if_pos h0, if_pos h0]
        · rw [if_neg h0, if_neg h0]; exact if_pos hj)⟩
      have HR2 := Aside0.mk (HR.out.other ⟨w.heap.size + 1 + 1, 0, none⟩ (.int .u8 236) (show w.heap.size ≠ w.heap.size + 1 + 1 by omega))
      have HZ2 := Aside0.mk (HZ.out.other ⟨w.heap.size + 1 + 1, 0, none⟩ (.int .u8 236) (show w.heap.size + 1 ≠ w.heap.size + 1 + 1 by omega))
      have HB2 := Aside0.mk (bel_set HB.out ⟨w.heap.size + 1 + 1, 0, none⟩ (.int .u8 236) (show w.heap.size ≤ w.heap.size + 1 + 1 by omega))
      clear hb hr hz hm
      go_wp2_with (first | refine step_load HR2.out Tryd.underlying23 info32 rfl rfl rfl rfl ?_ | refine step_load HM2.out Tryd.underlying23 info32 rfl rfl rfl rfl ?_)
      refine (muladd_calls f lessOne (fun _ => 0) _ (HO.out.below HB2.out HO.out.lt) HF.out lessOne_By zero_By).mono ?_
      rintro e w6 ⟨rfl, hb6⟩
      have HB6 := Aside0.mk (HB2.out.trans (hb6.mono HB2.out.size))
      have HZ6 := Aside0.mk (HZ2.out.below hb6 HZ2.out.lt)
      clear hb6
      go_wp2_with (refine step_storeG _ HZ6.out info32 rfl rfl rfl rfl rfl ?_; intro w7 hs hr; have HS7 := Aside0.mk hs; have HR7 := Aside0.mk hr; clear hs hr)
      refine bodyPost_ret (row_results rfl HR7.out rfl Tryd.underlying23 rfl info32) rfl ?_
      refine ⟨?_, HS7.out.bel _ _ (by omega) HB6.out⟩
      show Ending.returned (Value.agg (FR .u8 32 (dig 256 ((N32 f * N32 lessOne + N32 (fun _ => 0)) % LL)))) = _
      rw [lessOne_N, zero_N, Int.add_zero]
end Go.Proofs.YtchokhakdnjfmaaDoor.P
