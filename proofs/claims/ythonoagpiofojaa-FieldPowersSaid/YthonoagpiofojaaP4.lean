/- Pow and exponent, the program's and the document's, by their walks. -/
import Derived.Test.YthonoagpiofojaaA9
import Derived.Test.YthonoagpiofojaaP3
import Derived.Test.YthonoagpiofojaaC7
namespace Go.Proofs.Ythonoagpiofojaa.P
set_option linter.unusedVariables false
set_option linter.unusedSimpArgs false
open Go.RowKit
attribute [local go_sem] setCell_drewN
theorem bit_and (e : Nat → Int) (j : Nat) (h : 0 ≤ e (j / 8) ∧ e (j / 8) < 256) : Go.bits .and .u8 (e (j / 8) / 2 ^ (j % 8)) 1 = e (j / 8) / 2 ^ (j % 8) % 2 := by
  have hp := pow8_le (j % 8) (by omega)
  have h0 : 0 ≤ e (j / 8) / 2 ^ (j % 8) := Int.ediv_nonneg h.1 (by omega)
  have h1 : e (j / 8) / 2 ^ (j % 8) ≤ e (j / 8) := Int.ediv_le_self _ h.1
  rw [u8_and _ _ h0 (by omega) (by omega) (by omega), show (1 : Int).toNat = 2 ^ 1 - 1 from rfl, Nat.and_two_pow_sub_one_eq_mod]
  omega
theorem meas_down (j : Nat) : (intOf (Value.int IntKind.i64 ((j : Int) - 1)) + 1).toNat < (intOf (Value.int IntKind.i64 (j : Int)) + 1).toNat := by
  have e1 : intOf (Value.int IntKind.i64 ((j : Int) - 1)) = (j : Int) - 1 := rfl
  have e2 : intOf (Value.int IntKind.i64 (j : Int)) = (j : Int) := rfl
  rw [e1, e2]; omega
def pow_elemRel (w : World) (f e : Nat → Int) (ba : Nat) (v6 : Value) (wr : World) : Prop :=
  ∃ i : Nat, i ≤ 256 ∧ v6 = .int .i64 ((i : Int) - 1) ∧ Below w.heap.size w wr ∧ Row wr w.heap.size .u64 5 f 27 ∧ Row wr (w.heap.size + 1 + 1) .u64 5 (fun _ => 0) 27 ∧ Row wr ba .u64 5 (powE f e (256 - i)) 27 ∧ Row wr (w.heap.size + 1) .u8 32 e 22
theorem pow_elem (f e : Nat → Int) (w : World) (hf : Lm f) (he : By e) :
    Calls Try.prog 28 #[.agg (FR .u64 5 f), .agg (FR .u8 32 e)] w fun e' w' => e' = .returned (.agg (FR .u64 5 (powE f e 256))) ∧ Below w.heap.size w w' := by
  have HF := Aside0.mk hf
  have HE := Aside0.mk he
  have HI : Aside0 (∀ s, Lm (powE f e s)) := ⟨fun s => (Fe.pow ⟨hf, rfl⟩ e s).1⟩
  clear hf he
  go_enter Try.func28, Try.ntmps28
  have HB0 := Aside0.mk (bel_three w (.cells (FR .u64 5 f) 27) (.cells (FR .u8 32 e) 22) (.cells (FR .u64 5 fun _ => 0) 27))
  have HR0 : Aside0 (Row (((w.alloc (.cells (FR .u64 5 f) 27)).alloc (.cells (FR .u8 32 e) 22)).alloc (.cells (FR .u64 5 fun _ => 0) 27)) w.heap.size .u64 5 f 27) := ⟨((Row.new w .u64 5 f 27).alloc _).alloc _⟩
  have HE0 : Aside0 (Row (((w.alloc (.cells (FR .u64 5 f) 27)).alloc (.cells (FR .u8 32 e) 22)).alloc (.cells (FR .u64 5 fun _ => 0) 27)) (w.heap.size + 1) .u8 32 e 22) := ⟨Row.alloc (show Row ((w.alloc (.cells (FR .u64 5 f) 27)).alloc (.cells (FR .u8 32 e) 22)) (w.heap.size + 1) .u8 32 e 22 from heap_alloc2_new w _ _) _⟩
  have HZ0 : Aside0 (Row (((w.alloc (.cells (FR .u64 5 f) 27)).alloc (.cells (FR .u8 32 e) 22)).alloc (.cells (FR .u64 5 fun _ => 0) 27)) (w.heap.size + 1 + 1) .u64 5 (fun _ => 0) 27) := ⟨three_new w _ _ _⟩
  go_wp2_with fail
  refine (small_elem_calls 1 _ (by omega)).mono ?_
  rintro e' w1 ⟨rfl, hb⟩
  have HR1 := Aside0.mk (HR0.out.below hb HR0.out.lt)
  have HZ1 := Aside0.mk (HZ0.out.below hb HZ0.out.lt)
  have HE1 := Aside0.mk (HE0.out.below hb HE0.out.lt)
  have HB1 := Aside0.mk (HB0.out.trans (hb.mono HB0.out.size))
  have hl1 := HZ1.out.lt
  have hl0 := HR1.out.lt
  clear hb HR0 HZ0 HB0 HE0
  have HN := Aside0.mk (Row.new w1 .u64 5 (fun _ => 0) 27)
  have HR2 := Aside0.mk (HR1.out.alloc (.cells (FR .u64 5 fun _ => 0) 27))
  have HZ2 := Aside0.mk (HZ1.out.alloc (.cells (FR .u64 5 fun _ => 0) 27))
  have HE2 := Aside0.mk (HE1.out.alloc (.cells (FR .u64 5 fun _ => 0) 27))
  have HB2 := Aside0.mk (HB1.out.alloc (by omega) (.cells (FR .u64 5 fun _ => 0) 27))
  clear HR1 HZ1 HB1 HE1
  go_wp2_with (refine step_storeG (smL 1) HN.out info27 rfl rfl rfl rfl rfl ?_; intro w3 hs hr; have HS3 := Aside0.mk hs; have HA3 := Aside0.mk hr; clear hs hr)
  have HR3 := Aside0.mk (HR2.out.stored HS3.out (by omega))
  have HZ3 := Aside0.mk (HZ2.out.stored HS3.out (by omega))
  have HE3 := Aside0.mk (HE2.out.stored HS3.out (by omega))
  have HB3 := Aside0.mk (HS3.out.bel _ _ (by omega) HB2.out)
  clear HN HR2 HZ2 HB2 HS3 HE2
  generalize w1.heap.size = ba at *
  go_loopw [6] (fun v6 wr => pow_elemRel w f e ba v6 wr) (fun v _ => (intOf v + 1).toNat)
  case atStart => exact ⟨256, by omega, rfl, HB3.out, HR3.out, HZ3.out, HA3.out, HE3.out⟩
  case round =>
    clear HR3 HZ3 HB3 HA3 HE3
    obtain ⟨i, hi, rfl, hb, hr, hz, ha, hee⟩ := hrel
    have HB := Aside0.mk hb
    have HR := Aside0.mk hr
    have HZ := Aside0.mk hz
    have HA := Aside0.mk ha
    have HEE := Aside0.mk hee
    have hlr := hr.lt
    have hlz := hz.lt
    have hla := ha.lt
    clear hb hr hz ha hee
    rcases Nat.eq_zero_or_pos i with h0 | h0
    · subst h0
      go_wp2_with (first | refine step_load HA.out Try.underlying27 info27 rfl rfl rfl rfl ?_ | (refine step_storeG (powE f e 256) HZ.out info27 rfl rfl rfl rfl rfl ?_; intro w9 hs hr; have HS9 := Aside0.mk hs; have HR9 := Aside0.mk hr; clear hs hr))
      refine bodyPost_ret (row_results rfl HR9.out rfl Try.underlying27 rfl info27) rfl ?_
      exact ⟨rfl, HS9.out.bel _ _ (by omega) HB.out⟩
    · obtain ⟨j, rfl⟩ : ∃ j, i = j + 1 := ⟨i - 1, by omega⟩
      have e1 : ((j + 1 : Nat) : Int) - 1 = (j : Int) := by omega
      rw [e1]
      have hge : ((j : Int) ≥ 0) = True := eq_true (by omega)
      have HST : Aside0 (powE f e (256 - j) = if bitB e j then mulE (mulE (powE f e (256 - (j + 1))) (powE f e (256 - (j + 1)))) f else mulE (powE f e (256 - (j + 1))) (powE f e (256 - (j + 1)))) := ⟨by
        have es : 256 - j = (256 - (j + 1)) + 1 := by omega
        rw [es]
        show (if bitB e (255 - (256 - (j + 1))) then _ else _) = _
        rw [show 255 - (256 - (j + 1)) = j by omega]⟩
      have HP := Aside0.mk (HI.out (256 - (j + 1)))
      generalize powE f e (256 - (j + 1)) = q at *
      go_wp2_with (refine step_load HA.out Try.underlying27 info27 rfl rfl rfl rfl ?_)
      refine (elem_mul_calls q q _ HP.out HP.out).mono ?_
      rintro e' w1 ⟨rfl, hb⟩
      have HR1 := Aside0.mk (HR.out.below hb hlr)
      have HZ1 := Aside0.mk (HZ.out.below hb hlz)
      have HA1 := Aside0.mk (HA.out.below hb hla)
      have HE1 := Aside0.mk (HEE.out.below hb HEE.out.lt)
      have HB1 := Aside0.mk (HB.out.trans (hb.mono HB.out.size))
      clear hb
      have d8 : Int.tdiv (j : Int) 8 = ((j / 8 : Nat) : Int) := rfl
      have r8 : Int.tmod (j : Int) 8 = ((j % 8 : Nat) : Int) := rfl
      have hba := bit_and e j (HE.out (j / 8) (by omega))
      have hbq : (e (j / 8) / 2 ^ (j % 8) % 2 == 1) = bitB e j := rfl
      have l8 : (((j / 8 : Nat) : Int) < 32) = True := eq_true (by omega)
      have HSQ : Aside0 (Lm (mulE q q)) := ⟨(Fe.mul ⟨HP.out, rfl⟩ ⟨HP.out, rfl⟩).1⟩
      cases hbj : bitB e j
      · rw [hbj] at hbq
        have HBJ := Aside0.mk hbj
        clear hbj
        go_wp2_with (refine step_storeG (mulE q q) HA1.out info27 rfl rfl rfl rfl rfl ?_; intro w2 hs hr; have HS2 := Aside0.mk hs; have HA2 := Aside0.mk hr; have HR2 := Aside0.mk (HR1.out.stored hs (by omega)); have hee := HE1.out.stored hs (by omega); have HE2 := Aside0.mk hee; have k8 := hee.cell (j / 8) (by omega); clear hs hr hee)
        refine ⟨⟨j, by omega, rfl, HS2.out.bel _ _ (by omega) HB1.out, HR2.out, HZ1.out.stored HS2.out (by omega), ?_, HE2.out⟩, meas_down j⟩
        rw [HST.out, if_neg (by rw [HBJ.out]; decide)]
        exact HA2.out
      · rw [hbj] at hbq
        have HBJ := Aside0.mk hbj
        clear hbj
        go_wp2_with (first | (refine step_storeG (mulE q q) HA1.out info27 rfl rfl rfl rfl rfl ?_; intro w2 hs hr; have HS2 := Aside0.mk hs; have HA2 := Aside0.mk hr; have HR2 := Aside0.mk (HR1.out.stored hs (by omega)); have hee := HE1.out.stored hs (by omega); have HE2 := Aside0.mk hee; have k8 := hee.cell (j / 8) (by omega); clear hs hr hee) | refine step_load HA2.out Try.underlying27 info27 rfl rfl rfl rfl ?_ | refine step_load HR2.out Try.underlying27 info27 rfl rfl rfl rfl ?_)
        refine (elem_mul_calls _ _ _ HSQ.out HF.out).mono ?_
        rintro e' w4 ⟨rfl, hb⟩
        have HB2 := Aside0.mk (HS2.out.bel _ _ (by omega) HB1.out)
        have HR4 := Aside0.mk (HR2.out.below hb HR2.out.lt)
        have HZ4 := Aside0.mk ((HZ1.out.stored HS2.out (by omega)).below hb (HZ1.out.stored HS2.out (by omega)).lt)
        have HA4 := Aside0.mk (HA2.out.below hb HA2.out.lt)
        have HE4 := Aside0.mk (HE2.out.below hb HE2.out.lt)
        have HB4 := Aside0.mk (HB2.out.trans (hb.mono HB2.out.size))
        clear hb
        go_wp2_with (refine step_storeG (mulE (mulE q q) f) HA4.out info27 rfl rfl rfl rfl rfl ?_; intro w5 hs hr; have HS5 := Aside0.mk hs; have HA5 := Aside0.mk hr; clear hs hr)
        refine ⟨⟨j, by omega, rfl, HS5.out.bel _ _ (by omega) HB4.out, HR4.out.stored HS5.out (by omega), HZ4.out.stored HS5.out (by omega), ?_, HE4.out.stored HS5.out (by omega)⟩, meas_down j⟩
        rw [HST.out, if_pos HBJ.out]
        exact HA5.out
def pow_refRel (w : World) (f e : Nat → Int) (ba : Nat) (v6 : Value) (wr : World) : Prop :=
  ∃ i : Nat, i ≤ 256 ∧ v6 = .int .i64 ((i : Int) - 1) ∧ Below w.heap.size w wr ∧ Row wr w.heap.size .i64 16 f 33 ∧ Row wr (w.heap.size + 1) .i64 16 (fun _ => 0) 33 ∧ Row wr ba .i64 16 (powR f e (256 - i)) 33
theorem pow_ref (f e : Nat → Int) (w : World) (hf : Rn f) (he : By e) :
    Calls Try.prog 29 #[.agg (FR .i64 16 f), .string (sOf e)] w fun e' w' => e' = .returned (.agg (FR .i64 16 (powR f e 256))) ∧ Below w.heap.size w w' := by
  have HF := Aside0.mk hf
  have HE := Aside0.mk he
  have HI : Aside0 (∀ s, Rn (powR f e s)) := ⟨fun s => (Re.pow ⟨hf, rfl⟩ e s).1⟩
  clear hf he
  go_enter Try.func29, Try.ntmps29
  have HB0 := Aside0.mk (bel_two w (.cells (FR .i64 16 f) 33) (.cells (FR .i64 16 fun _ => 0) 33))
  have HR0 : Aside0 (Row ((w.alloc (.cells (FR .i64 16 f) 33)).alloc (.cells (FR .i64 16 fun _ => 0) 33)) w.heap.size .i64 16 f 33) := ⟨(Row.new w .i64 16 f 33).alloc _⟩
  have HZ0 : Aside0 (Row ((w.alloc (.cells (FR .i64 16 f) 33)).alloc (.cells (FR .i64 16 fun _ => 0) 33)) (w.heap.size + 1) .i64 16 (fun _ => 0) 33) := ⟨heap_alloc2_new w _ _⟩
  go_wp2_with fail
  refine (small_ref_calls 1 _ (by omega)).mono ?_
  rintro e' w1 ⟨rfl, hb⟩
  have HR1 := Aside0.mk (HR0.out.below hb HR0.out.lt)
  have HZ1 := Aside0.mk (HZ0.out.below hb HZ0.out.lt)
  have HB1 := Aside0.mk (HB0.out.trans (hb.mono HB0.out.size))
  have hl1 := HZ1.out.lt
  have hl0 := HR1.out.lt
  clear hb HR0 HZ0 HB0
  have HN := Aside0.mk (Row.new w1 .i64 16 (fun _ => 0) 33)
  have HR2 := Aside0.mk (HR1.out.alloc (.cells (FR .i64 16 fun _ => 0) 33))
  have HZ2 := Aside0.mk (HZ1.out.alloc (.cells (FR .i64 16 fun _ => 0) 33))
  have HB2 := Aside0.mk (HB1.out.alloc (by omega) (.cells (FR .i64 16 fun _ => 0) 33))
  clear HR1 HZ1 HB1
  go_wp2_with (refine step_storeG (carryN (fun i => if i = 0 then 1 else 0) 16) HN.out info33 rfl rfl rfl rfl rfl ?_; intro w3 hs hr; have HS3 := Aside0.mk hs; have HA3 := Aside0.mk hr; clear hs hr)
  have HR3 := Aside0.mk (HR2.out.stored HS3.out (by omega))
  have HZ3 := Aside0.mk (HZ2.out.stored HS3.out (by omega))
  have HB3 := Aside0.mk (HS3.out.bel _ _ (by omega) HB2.out)
  clear HN HR2 HZ2 HB2 HS3
  generalize w1.heap.size = ba at *
  go_loopw [6] (fun v6 wr => pow_refRel w f e ba v6 wr) (fun v _ => (intOf v + 1).toNat)
  case atStart => exact ⟨256, by omega, rfl, HB3.out, HR3.out, HZ3.out, HA3.out⟩
  case round =>
    clear HR3 HZ3 HB3 HA3
    obtain ⟨i, hi, rfl, hb, hr, hz, ha⟩ := hrel
    have HB := Aside0.mk hb
    have HR := Aside0.mk hr
    have HZ := Aside0.mk hz
    have HA := Aside0.mk ha
    have hlr := hr.lt
    have hlz := hz.lt
    have hla := ha.lt
    clear hb hr hz ha
    rcases Nat.eq_zero_or_pos i with h0 | h0
    · subst h0
      go_wp2_with (first | refine step_load HA.out Try.underlying33 info33 rfl rfl rfl rfl ?_ | (refine step_storeG (powR f e 256) HZ.out info33 rfl rfl rfl rfl rfl ?_; intro w9 hs hr; have HS9 := Aside0.mk hs; have HR9 := Aside0.mk hr; clear hs hr))
      refine bodyPost_ret (row_results rfl HR9.out rfl Try.underlying33 rfl info33) rfl ?_
      exact ⟨rfl, HS9.out.bel _ _ (by omega) HB.out⟩
    · obtain ⟨j, rfl⟩ : ∃ j, i = j + 1 := ⟨i - 1, by omega⟩
      have e1 : ((j + 1 : Nat) : Int) - 1 = (j : Int) := by omega
      rw [e1]
      have hge : ((j : Int) ≥ 0) = True := eq_true (by omega)
      have HST : Aside0 (powR f e (256 - j) = if bitB e j then mulR (mulR (powR f e (256 - (j + 1))) (powR f e (256 - (j + 1)))) f else mulR (powR f e (256 - (j + 1))) (powR f e (256 - (j + 1)))) := ⟨by
        have es : 256 - j = (256 - (j + 1)) + 1 := by omega
        rw [es]
        show (if bitB e (255 - (256 - (j + 1))) then _ else _) = _
        rw [show 255 - (256 - (j + 1)) = j by omega]⟩
      have HP := Aside0.mk (HI.out (256 - (j + 1)))
      generalize powR f e (256 - (j + 1)) = q at *
      go_wp2_with (refine step_load HA.out Try.underlying33 info33 rfl rfl rfl rfl ?_)
      refine (mulR_c q q _ HP.out HP.out).mono ?_
      rintro e' w1 ⟨rfl, hb⟩
      have HR1 := Aside0.mk (HR.out.below hb hlr)
      have HZ1 := Aside0.mk (HZ.out.below hb hlz)
      have HA1 := Aside0.mk (HA.out.below hb hla)
      have HB1 := Aside0.mk (HB.out.trans (hb.mono HB.out.size))
      clear hb
      have d8 : Int.tdiv (j : Int) 8 = ((j / 8 : Nat) : Int) := rfl
      have r8 : Int.tmod (j : Int) 8 = ((j % 8 : Nat) : Int) := rfl
      have hba := bit_and e j (HE.out (j / 8) (by omega))
      have hbq : (e (j / 8) / 2 ^ (j % 8) % 2 == 1) = bitB e j := rfl
      have l8 : (((j / 8 : Nat) : Int) < 32) = True := eq_true (by omega)
      have hsz := sOf_size e
      obtain ⟨c, hc1, hc2⟩ := sB_at (sOf e) (j / 8) (by omega)
      rw [sB_sOf e HE.out (j / 8) (by omega)] at hc2
      have l9 : ((j : Int) / 8 < ((sOf e).size : Int)) = True := eq_true (by omega)
      have l10 : (0 ≤ (j : Int) / 8) = True := eq_true (by omega)
      have l11 : ((j : Int) / 8).toNat = j / 8 := by omega
      have l12 : IntKind.u64.wrap ((j : Int) % 8) = (j : Int) % 8 := u64w _ (by omega) (by omega)
      have l13 : ((j : Int) % 8).toNat = j % 8 := by omega
      rw [← hc2] at hba hbq
      clear hsz hc2
      have HSQ : Aside0 (Rn (mulR q q)) := ⟨(Re.mul ⟨HP.out, rfl⟩ ⟨HP.out, rfl⟩).1⟩
      cases hbj : bitB e j
      · rw [hbj] at hbq
        have HBJ := Aside0.mk hbj
        clear hbj
        go_wp2_with (refine step_storeG (mulR q q) HA1.out info33 rfl rfl rfl rfl rfl ?_; intro w2 hs hr; have HS2 := Aside0.mk hs; have HA2 := Aside0.mk hr; have HR2 := Aside0.mk (HR1.out.stored hs (by omega)); clear hs hr)
        refine ⟨⟨j, by omega, rfl, HS2.out.bel _ _ (by omega) HB1.out, HR2.out, HZ1.out.stored HS2.out (by omega), ?_⟩, meas_down j⟩
        rw [HST.out, if_neg (by rw [HBJ.out]; decide)]
        exact HA2.out
      · rw [hbj] at hbq
        have HBJ := Aside0.mk hbj
        clear hbj
        go_wp2_with (first | (refine step_storeG (mulR q q) HA1.out info33 rfl rfl rfl rfl rfl ?_; intro w2 hs hr; have HS2 := Aside0.mk hs; have HA2 := Aside0.mk hr; have HR2 := Aside0.mk (HR1.out.stored hs (by omega)); clear hs hr) | refine step_load HA2.out Try.underlying33 info33 rfl rfl rfl rfl ?_ | refine step_load HR2.out Try.underlying33 info33 rfl rfl rfl rfl ?_)
        refine (mulR_c _ _ _ HSQ.out HF.out).mono ?_
        rintro e' w4 ⟨rfl, hb⟩
        have HB2 := Aside0.mk (HS2.out.bel _ _ (by omega) HB1.out)
        have HR4 := Aside0.mk (HR2.out.below hb HR2.out.lt)
        have HZ4 := Aside0.mk ((HZ1.out.stored HS2.out (by omega)).below hb (HZ1.out.stored HS2.out (by omega)).lt)
        have HA4 := Aside0.mk (HA2.out.below hb HA2.out.lt)
        have HB4 := Aside0.mk (HB2.out.trans (hb.mono HB2.out.size))
        clear hb
        go_wp2_with (refine step_storeG (mulR (mulR q q) f) HA4.out info33 rfl rfl rfl rfl rfl ?_; intro w5 hs hr; have HS5 := Aside0.mk hs; have HA5 := Aside0.mk hr; clear hs hr)
        refine ⟨⟨j, by omega, rfl, HS5.out.bel _ _ (by omega) HB4.out, HR4.out.stored HS5.out (by omega), HZ4.out.stored HS5.out (by omega), ?_⟩, meas_down j⟩
        rw [HST.out, if_pos HBJ.out]
        exact HA5.out
end Go.Proofs.Ythonoagpiofojaa.P
