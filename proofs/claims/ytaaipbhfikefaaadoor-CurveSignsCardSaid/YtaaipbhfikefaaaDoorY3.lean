/- Merged of the texts: Fd, Fe, Ff, Fg, WFour, Fh, Ca, Eo, Ea, Eb (trim.py). -/
import Derived.Lib.LaidTab
import Derived.LaidMore
import Derived.Test.YtaaipbhfikefaaaDoorRows
import Derived.KernelRfl
import Derived.Test.YtaaipbhfikefaaaDoorY2
section
namespace Go.Proofs.YtaaipbhfikefaaaDoor.P.Fd
set_option linter.unusedVariables false
set_option linter.unusedSimpArgs false
open Go.RowKit Go.ChangeShapes Go.WideShapes Go.Proofs.YtaaipbhfikefaaaDoorW.PrintWords Go.Proofs.YtaaipbhfikefaaaDoorW.PrintLast Go.Proofs.YtaaipbhfikefaaaDoorW.PrintMore
attribute [local go_sem] setCell_drewN
attribute [local go_sem] setCell_drewN
/-- A bit of a number in bytes. -/
def bitB (e : Nat → Int) (i : Nat) : Bool := e (i / 8) / 2 ^ (i % 8) % 2 == 1
/-- The exponent that the bits 255 .. i are. -/
def expN (e : Nat → Int) : Nat → Nat
  | 0 => 0
  | s + 1 => 2 * expN e s + (if bitB e (255 - s) then 1 else 0)
def powE (f e : Nat → Int) : Nat → (Nat → Int)
  | 0 => smL 1
  | s + 1 => if bitB e (255 - s) then mulE (mulE (powE f e s) (powE f e s)) f else mulE (powE f e s) (powE f e s)
def powR (g e : Nat → Int) : Nat → (Nat → Int)
  | 0 => carryN (fun i => if i = 0 then 1 else 0) 16
  | s + 1 => if bitB e (255 - s) then mulR (mulR (powR g e s) (powR g e s)) g else mulR (powR g e s) (powR g e s)
theorem pow_two_mul (n : Int) (k : Nat) : n ^ (2 * k) = n ^ k * n ^ k := by rw [Nat.two_mul, Int.pow_add]
theorem Fe.pow {f : Nat → Int} {n : Int} (hf : Fe f n) (e : Nat → Int) : ∀ s, Fe (powE f e s) (n ^ expN e s)
  | 0 => by simpa [powE, expN] using Fe.small 1 (by omega)
  | s + 1 => by
    have ih := Fe.pow hf e s
    have h2 := ih.mul ih
    unfold powE expN
    by_cases hb : bitB e (255 - s) = true
    · rw [if_pos hb, if_pos hb, Int.pow_succ, pow_two_mul]; exact h2.mul hf
    · rw [if_neg hb, if_neg hb, Nat.add_zero, pow_two_mul]; exact h2
theorem Re.pow {g : Nat → Int} {n : Int} (hg : Re g n) (e : Nat → Int) : ∀ s, Re (powR g e s) (n ^ expN e s)
  | 0 => by simpa [powR, expN] using Re.small 1 (by omega)
  | s + 1 => by
    have ih := Re.pow hg e s
    have h2 := ih.mul ih
    unfold powR expN
    by_cases hb : bitB e (255 - s) = true
    · rw [if_pos hb, if_pos hb, Int.pow_succ, pow_two_mul]; exact h2.mul hg
    · rw [if_neg hb, if_neg hb, Nat.add_zero, pow_two_mul]; exact h2
def onesB (p j : Nat) : Int := 2 ^ (min 8 (p - 8 * j)) - 1
theorem onesB_step (i j : Nat) : onesB (i + 1) j = upd (onesB i) (i / 8) (onesB i (i / 8) + 2 ^ (i % 8)) j := by
  by_cases h : j = i / 8
  · subst h
    rw [upd_same]
    unfold onesB
    rw [show min 8 (i + 1 - 8 * (i / 8)) = i % 8 + 1 by omega, show min 8 (i - 8 * (i / 8)) = i % 8 by omega, Int.pow_succ]
    omega
  · rw [upd_other _ _ _ _ h]
    unfold onesB
    rw [show min 8 (i + 1 - 8 * j) = min 8 (i - 8 * j) by omega]
theorem pow8_le (r : Nat) (h : r ≤ 8) : (1 : Int) ≤ 2 ^ r ∧ (2 : Int) ^ r ≤ 256 := by
  have hc : r = 0 ∨ r = 1 ∨ r = 2 ∨ r = 3 ∨ r = 4 ∨ r = 5 ∨ r = 6 ∨ r = 7 ∨ r = 8 := by omega
  rcases hc with h | h | h | h | h | h | h | h | h <;> subst h <;> decide
theorem onesB_b (p j : Nat) : 0 ≤ onesB p j ∧ onesB p j < 256 := by
  have := pow8_le (min 8 (p - 8 * j)) (by omega)
  unfold onesB; omega
theorem ones_or (i : Nat) : Go.bits .or .u8 (onesB i (i / 8)) (2 ^ (i % 8)) = onesB i (i / 8) + 2 ^ (i % 8) := by
  have h := or_bit (onesB i (i / 8)) 1 (i % 8) (by omega) (by
    unfold onesB
    rw [show min 8 (i - 8 * (i / 8)) = i % 8 by omega]
    have := pow8_le (i % 8) (by omega)
    omega) (Or.inr rfl)
  have hp := pow8_le (i % 8) (by omega)
  have h8 : (2 : Int) ^ (i % 8) ≤ 128 := by
    have hc : i % 8 = 0 ∨ i % 8 = 1 ∨ i % 8 = 2 ∨ i % 8 = 3 ∨ i % 8 = 4 ∨ i % 8 = 5 ∨ i % 8 = 6 ∨ i % 8 = 7 := by omega
    rcases hc with h | h | h | h | h | h | h | h <;> rw [h] <;> decide
  have e : (1 : Int) % 256 * 2 ^ (i % 8) % 256 = 2 ^ (i % 8) := by
    rw [show (1 : Int) % 256 = 1 by decide, Int.one_mul, Int.emod_eq_of_lt (by omega) (by omega)]
  rw [e, Int.one_mul] at h
  exact h
attribute [local go_sem] setCell_drewN
theorem bit_and (e : Nat → Int) (j : Nat) (h : 0 ≤ e (j / 8) ∧ e (j / 8) < 256) : Go.bits .and .u8 (e (j / 8) / 2 ^ (j % 8)) 1 = e (j / 8) / 2 ^ (j % 8) % 2 := by
  have hp := pow8_le (j % 8) (by omega)
  have h0 : 0 ≤ e (j / 8) / 2 ^ (j % 8) := Int.ediv_nonneg h.1 (by omega)
  have h1 : e (j / 8) / 2 ^ (j % 8) ≤ e (j / 8) := Int.ediv_le_self _ h.1
  rw [u8_and _ _ h0 (by omega) (by omega) (by omega), show (1 : Int).toNat = 2 ^ 1 - 1 from rfl, Nat.and_two_pow_sub_one_eq_mod]
  omega
theorem meas_down (j : Nat) : (intOf (Value.int IntKind.i64 ((j : Int) - 1)) + 1).toNat < (intOf (Value.int IntKind.i64 (j : Int)) + 1).toNat := by
  have e1 : intOf (Value.int IntKind.i64 ((j : Int) - 1)) = (j : Int) - 1 := rfl
  have e2 : intOf (Value.int IntKind.i64 (j : Int)) = (j : Int) := rfl
  rw [e1, e2]; omega
def pow_elemRel (w : World) (f e : Nat → Int) (ba : Nat) (v6 : Value) (wr : World) : Prop :=
  ∃ i : Nat, i ≤ 256 ∧ v6 = .int .i64 ((i : Int) - 1) ∧ Below w.heap.size w wr ∧ Row wr w.heap.size .u64 5 f 26 ∧ Row wr (w.heap.size + 1 + 1) .u64 5 (fun _ => 0) 26 ∧ Row wr ba .u64 5 (powE f e (256 - i)) 26 ∧ Row wr (w.heap.size + 1) .u8 32 e 22
theorem pow_elem (f e : Nat → Int) (w : World) (hf : Lm f) (he : By e) :
    Calls Tryd.prog 52 #[.agg (FR .u64 5 f), .agg (FR .u8 32 e)] w fun e' w' => e' = .returned (.agg (FR .u64 5 (powE f e 256))) ∧ Below w.heap.size w w' := by
  have HF := Aside0.mk hf
  have HE := Aside0.mk he
  have HI : Aside0 (∀ s, Lm (powE f e s)) := ⟨fun s => (Fe.pow ⟨hf, rfl⟩ e s).1⟩
  clear hf he
  go_enter Tryd.func52, Tryd.ntmps52
  have HB0 := Aside0.mk (bel_three w (.cells (FR .u64 5 f) 26) (.cells (FR .u8 32 e) 22) (.cells (FR .u64 5 fun _ => 0) 26))
  have HR0 : Aside0 (Row (((w.alloc (.cells (FR .u64 5 f) 26)).alloc (.cells (FR .u8 32 e) 22)).alloc (.cells (FR .u64 5 fun _ => 0) 26)) w.heap.size .u64 5 f 26) := ⟨((Row.new w .u64 5 f 26).alloc _).alloc _⟩
  have HE0 : Aside0 (Row (((w.alloc (.cells (FR .u64 5 f) 26)).alloc (.cells (FR .u8 32 e) 22)).alloc (.cells (FR .u64 5 fun _ => 0) 26)) (w.heap.size + 1) .u8 32 e 22) := ⟨Row.alloc (show Row ((w.alloc (.cells (FR .u64 5 f) 26)).alloc (.cells (FR .u8 32 e) 22)) (w.heap.size + 1) .u8 32 e 22 from heap_alloc2_new w _ _) _⟩
  have HZ0 : Aside0 (Row (((w.alloc (.cells (FR .u64 5 f) 26)).alloc (.cells (FR .u8 32 e) 22)).alloc (.cells (FR .u64 5 fun _ => 0) 26)) (w.heap.size + 1 + 1) .u64 5 (fun _ => 0) 26) := ⟨three_new w _ _ _⟩
  go_wp2_with fail
  refine (small_elem_calls 1 _ (by omega)).mono ?_
  rintro e' w1 ⟨rfl, hb⟩
  have HR1 := Aside0.mk (HR0.out.below hb HR0.out.lt)
  have HZ1 := Aside0.mk (HZ0.out.below hb HZ0.out.lt)
  have HE1 := Aside0.mk (HE0.out.below hb HE0.out.lt)
  have HB1 := Aside0.mk (HB0.out.trans (hb.mono HB0.out.size))
  have hl1 := HZ1.out.lt
  have hl0 := HR1.out.lt
  clear hb HR0 HZ0 HB0 HE0
  have HN := Aside0.mk (Row.new w1 .u64 5 (fun _ => 0) 26)
  have HR2 := Aside0.mk (HR1.out.alloc (.cells (FR .u64 5 fun _ => 0) 26))
  have HZ2 := Aside0.mk (HZ1.out.alloc (.cells (FR .u64 5 fun _ => 0) 26))
  have HE2 := Aside0.mk (HE1.out.alloc (.cells (FR .u64 5 fun _ => 0) 26))
  have HB2 := Aside0.mk (HB1.out.alloc (by omega) (.cells (FR .u64 5 fun _ => 0) 26))
  clear HR1 HZ1 HB1 HE1
  go_wp2_with (refine step_storeG (smL 1) HN.out info27 rfl rfl rfl rfl rfl ?_; intro w3 hs hr; have HS3 := Aside0.mk hs; have HA3 := Aside0.mk hr; clear hs hr)
  have HR3 := Aside0.mk (HR2.out.stored HS3.out (by omega))
  have HZ3 := Aside0.mk (HZ2.out.stored HS3.out (by omega))
  have HE3 := Aside0.mk (HE2.out.stored HS3.out (by omega))
  have HB3 := Aside0.mk (HS3.out.bel _ _ (by omega) HB2.out)
  clear HN HR2 HZ2 HB2 HS3 HE2
  generalize w1.heap.size = ba at *
  go_loopw [6] (fun v6 wr => pow_elemRel w f e ba v6 wr) (fun v _ => (intOf v + 1).toNat)
  case atStart => exact ⟨256, by omega, rfl, HB3.out, HR3.out, HZ3.out, HA3.out, HE3.out⟩
  case round =>
    clear HR3 HZ3 HB3 HA3 HE3
    obtain ⟨i, hi, rfl, hb, hr, hz, ha, hee⟩ := hrel
    have HB := Aside0.mk hb
    have HR := Aside0.mk hr
    have HZ := Aside0.mk hz
    have HA := Aside0.mk ha
    have HEE := Aside0.mk hee
    have hlr := hr.lt
    have hlz := hz.lt
    have hla := ha.lt
    clear hb hr hz ha hee
    rcases Nat.eq_zero_or_pos i with h0 | h0
    · subst h0
      go_wp2_with (first | refine step_load HA.out Tryd.underlying26 info27 rfl rfl rfl rfl ?_ | (refine step_storeG (powE f e 256) HZ.out info27 rfl rfl rfl rfl rfl ?_; intro w9 hs hr; have HS9 := Aside0.mk hs; have HR9 := Aside0.mk hr; clear hs hr))
      refine bodyPost_ret (row_results rfl HR9.out rfl Tryd.underlying26 rfl info27) rfl ?_
      exact ⟨rfl, HS9.out.bel _ _ (by omega) HB.out⟩
    · obtain ⟨j, rfl⟩ : ∃ j, i = j + 1 := ⟨i - 1, by omega⟩
      have e1 : ((j + 1 : Nat) : Int) - 1 = (j : Int) := by omega
      rw [e1]
      have hge : ((j : Int) ≥ 0) = True := eq_true (by omega)
      have HST : Aside0 (powE f e (256 - j) = if bitB e j then mulE (mulE (powE f e (256 - (j + 1))) (powE f e (256 - (j + 1)))) f else mulE (powE f e (256 - (j + 1))) (powE f e (256 - (j + 1)))) := ⟨by
        have es : 256 - j = (256 - (j + 1)) + 1 := by omega
        rw [es]
        show (if bitB e (255 - (256 - (j + 1))) then _ else _) = _
        rw [show 255 - (256 - (j + 1)) = j by omega]⟩
      have HP := Aside0.mk (HI.out (256 - (j + 1)))
      generalize powE f e (256 - (j + 1)) = q at *
      go_wp2_with (refine step_load HA.out Tryd.underlying26 info27 rfl rfl rfl rfl ?_)
      refine (elem_mul_calls q q _ HP.out HP.out).mono ?_
      rintro e' w1 ⟨rfl, hb⟩
      have HR1 := Aside0.mk (HR.out.below hb hlr)
      have HZ1 := Aside0.mk (HZ.out.below hb hlz)
      have HA1 := Aside0.mk (HA.out.below hb hla)
      have HE1 := Aside0.mk (HEE.out.below hb HEE.out.lt)
      have HB1 := Aside0.mk (HB.out.trans (hb.mono HB.out.size))
      clear hb
      have d8 : Int.tdiv (j : Int) 8 = ((j / 8 : Nat) : Int) := rfl
      have r8 : Int.tmod (j : Int) 8 = ((j % 8 : Nat) : Int) := rfl
      have hba := bit_and e j (HE.out (j / 8) (by omega))
      have hbq : (e (j / 8) / 2 ^ (j % 8) % 2 == 1) = bitB e j := rfl
      have l8 : (((j / 8 : Nat) : Int) < 32) = True := eq_true (by omega)
      have HSQ : Aside0 (Lm (mulE q q)) := ⟨(Fe.mul ⟨HP.out, rfl⟩ ⟨HP.out, rfl⟩).1⟩
      cases hbj : bitB e j
      · rw [hbj] at hbq
        have HBJ := Aside0.mk hbj
        clear hbj
        go_wp2_with (refine step_storeG (mulE q q) HA1.out info27 rfl rfl rfl rfl rfl ?_; intro w2 hs hr; have HS2 := Aside0.mk hs; have HA2 := Aside0.mk hr; have HR2 := Aside0.mk (HR1.out.stored hs (by omega)); have hee := HE1.out.stored hs (by omega); have HE2 := Aside0.mk hee; have k8 := hee.cell (j / 8) (by omega); clear hs hr hee)
        refine ⟨⟨j, by omega, rfl, HS2.out.bel _ _ (by omega) HB1.out, HR2.out, HZ1.out.stored HS2.out (by omega), ?_, HE2.out⟩, meas_down j⟩
        rw [HST.out, if_neg (by rw [HBJ.out]; decide)]
        exact HA2.out
      · rw [hbj] at hbq
        have HBJ := Aside0.mk hbj
        clear hbj
        go_wp2_with (first | (refine step_storeG (mulE q q) HA1.out info27 rfl rfl rfl rfl rfl ?_; intro w2 hs hr; have HS2 := Aside0.mk hs; have HA2 := Aside0.mk hr; have HR2 := Aside0.mk (HR1.out.stored hs (by omega)); have hee := HE1.out.stored hs (by omega); have HE2 := Aside0.mk hee; have k8 := hee.cell (j / 8) (by omega); clear hs hr hee) | refine step_load HA2.out Tryd.underlying26 info27 rfl rfl rfl rfl ?_ | refine step_load HR2.out Tryd.underlying26 info27 rfl rfl rfl rfl ?_)
        refine (elem_mul_calls _ _ _ HSQ.out HF.out).mono ?_
        rintro e' w4 ⟨rfl, hb⟩
        have HB2 := Aside0.mk (HS2.out.bel _ _ (by omega) HB1.out)
        have HR4 := Aside0.mk (HR2.out.below hb HR2.out.lt)
        have HZ4 := Aside0.mk ((HZ1.out.stored HS2.out (by omega)).below hb (HZ1.out.stored HS2.out (by omega)).lt)
        have HA4 := Aside0.mk (HA2.out.below hb HA2.out.lt)
        have HE4 := Aside0.mk (HE2.out.below hb HE2.out.lt)
        have HB4 := Aside0.mk (HB2.out.trans (hb.mono HB2.out.size))
        clear hb
        go_wp2_with (refine step_storeG (mulE (mulE q q) f) HA4.out info27 rfl rfl rfl rfl rfl ?_; intro w5 hs hr; have HS5 := Aside0.mk hs; have HA5 := Aside0.mk hr; clear hs hr)
        refine ⟨⟨j, by omega, rfl, HS5.out.bel _ _ (by omega) HB4.out, HR4.out.stored HS5.out (by omega), HZ4.out.stored HS5.out (by omega), ?_, HE4.out.stored HS5.out (by omega)⟩, meas_down j⟩
        rw [HST.out, if_pos HBJ.out]
        exact HA5.out
def pow_refRel (w : World) (f e : Nat → Int) (ba : Nat) (v6 : Value) (wr : World) : Prop :=
  ∃ i : Nat, i ≤ 256 ∧ v6 = .int .i64 ((i : Int) - 1) ∧ Below w.heap.size w wr ∧ Row wr w.heap.size .i64 16 f 34 ∧ Row wr (w.heap.size + 1) .i64 16 (fun _ => 0) 34 ∧ Row wr ba .i64 16 (powR f e (256 - i)) 34
theorem pow_ref (f e : Nat → Int) (w : World) (hf : Rn f) (he : By e) :
    Calls Tryd.prog 60 #[.agg (FR .i64 16 f), .string (sOf e)] w fun e' w' => e' = .returned (.agg (FR .i64 16 (powR f e 256))) ∧ Below w.heap.size w w' := by
  have HF := Aside0.mk hf
  have HE := Aside0.mk he
  have HI : Aside0 (∀ s, Rn (powR f e s)) := ⟨fun s => (Re.pow ⟨hf, rfl⟩ e s).1⟩
  clear hf he
  go_enter Tryd.func60, Tryd.ntmps60
  have HB0 := Aside0.mk (bel_two w (.cells (FR .i64 16 f) 34) (.cells (FR .i64 16 fun _ => 0) 34))
  have HR0 : Aside0 (Row ((w.alloc (.cells (FR .i64 16 f) 34)).alloc (.cells (FR .i64 16 fun _ => 0) 34)) w.heap.size .i64 16 f 34) := ⟨(Row.new w .i64 16 f 34).alloc _⟩
  have HZ0 : Aside0 (Row ((w.alloc (.cells (FR .i64 16 f) 34)).alloc (.cells (FR .i64 16 fun _ => 0) 34)) (w.heap.size + 1) .i64 16 (fun _ => 0) 34) := ⟨heap_alloc2_new w _ _⟩
  go_wp2_with fail
  refine (small_ref_calls 1 _ (by omega)).mono ?_
  rintro e' w1 ⟨rfl, hb⟩
  have HR1 := Aside0.mk (HR0.out.below hb HR0.out.lt)
  have HZ1 := Aside0.mk (HZ0.out.below hb HZ0.out.lt)
  have HB1 := Aside0.mk (HB0.out.trans (hb.mono HB0.out.size))
  have hl1 := HZ1.out.lt
  have hl0 := HR1.out.lt
  clear hb HR0 HZ0 HB0
  have HN := Aside0.mk (Row.new w1 .i64 16 (fun _ => 0) 34)
  have HR2 := Aside0.mk (HR1.out.alloc (.cells (FR .i64 16 fun _ => 0) 34))
  have HZ2 := Aside0.mk (HZ1.out.alloc (.cells (FR .i64 16 fun _ => 0) 34))
  have HB2 := Aside0.mk (HB1.out.alloc (by omega) (.cells (FR .i64 16 fun _ => 0) 34))
  clear HR1 HZ1 HB1
  go_wp2_with (refine step_storeG (carryN (fun i => if i = 0 then 1 else 0) 16) HN.out info33 rfl rfl rfl rfl rfl ?_; intro w3 hs hr; have HS3 := Aside0.mk hs; have HA3 := Aside0.mk hr; clear hs hr)
  have HR3 := Aside0.mk (HR2.out.stored HS3.out (by omega))
  have HZ3 := Aside0.mk (HZ2.out.stored HS3.out (by omega))
  have HB3 := Aside0.mk (HS3.out.bel _ _ (by omega) HB2.out)
  clear HN HR2 HZ2 HB2 HS3
  generalize w1.heap.size = ba at *
  go_loopw [6] (fun v6 wr => pow_refRel w f e ba v6 wr) (fun v _ => (intOf v + 1).toNat)
  case atStart => exact ⟨256, by omega, rfl, HB3.out, HR3.out, HZ3.out, HA3.out⟩
  case round =>
    clear HR3 HZ3 HB3 HA3
    obtain ⟨i, hi, rfl, hb, hr, hz, ha⟩ := hrel
    have HB := Aside0.mk hb
    have HR := Aside0.mk hr
    have HZ := Aside0.mk hz
    have HA := Aside0.mk ha
    have hlr := hr.lt
    have hlz := hz.lt
    have hla := ha.lt
    clear hb hr hz ha
    rcases Nat.eq_zero_or_pos i with h0 | h0
    · subst h0
      go_wp2_with (first | refine step_load HA.out Tryd.underlying34 info33 rfl rfl rfl rfl ?_ | (refine step_storeG (powR f e 256) HZ.out info33 rfl rfl rfl rfl rfl ?_; intro w9 hs hr; have HS9 := Aside0.mk hs; have HR9 := Aside0.mk hr; clear hs hr))
      refine bodyPost_ret (row_results rfl HR9.out rfl Tryd.underlying34 rfl info33) rfl ?_
      exact ⟨rfl, HS9.out.bel _ _ (by omega) HB.out⟩
    · obtain ⟨j, rfl⟩ : ∃ j, i = j + 1 := ⟨i - 1, by omega⟩
      have e1 : ((j + 1 : Nat) : Int) - 1 = (j : Int) := by omega
      rw [e1]
      have hge : ((j : Int) ≥ 0) = True := eq_true (by omega)
      have HST : Aside0 (powR f e (256 - j) = if bitB e j then mulR (mulR (powR f e (256 - (j + 1))) (powR f e (256 - (j + 1)))) f else mulR (powR f e (256 - (j + 1))) (powR f e (256 - (j + 1)))) := ⟨by
        have es : 256 - j = (256 - (j + 1)) + 1 := by omega
        rw [es]
        show (if bitB e (255 - (256 - (j + 1))) then _ else _) = _
        rw [show 255 - (256 - (j + 1)) = j by omega]⟩
      have HP := Aside0.mk (HI.out (256 - (j + 1)))
      generalize powR f e (256 - (j + 1)) = q at *
      go_wp2_with (refine step_load HA.out Tryd.underlying34 info33 rfl rfl rfl rfl ?_)
      refine (mulR_c q q _ HP.out HP.out).mono ?_
      rintro e' w1 ⟨rfl, hb⟩
      have HR1 := Aside0.mk (HR.out.below hb hlr)
      have HZ1 := Aside0.mk (HZ.out.below hb hlz)
      have HA1 := Aside0.mk (HA.out.below hb hla)
      have HB1 := Aside0.mk (HB.out.trans (hb.mono HB.out.size))
      clear hb
      have d8 : Int.tdiv (j : Int) 8 = ((j / 8 : Nat) : Int) := rfl
      have r8 : Int.tmod (j : Int) 8 = ((j % 8 : Nat) : Int) := rfl
      have hba := bit_and e j (HE.out (j / 8) (by omega))
      have hbq : (e (j / 8) / 2 ^ (j % 8) % 2 == 1) = bitB e j := rfl
      have l8 : (((j / 8 : Nat) : Int) < 32) = True := eq_true (by omega)
      have hsz := sOf_size e
      obtain ⟨c, hc1, hc2⟩ := sB_at (sOf e) (j / 8) (by omega)
      rw [sB_sOf e HE.out (j / 8) (by omega)] at hc2
      have l9 : ((j : Int) / 8 < ((sOf e).size : Int)) = True := eq_true (by omega)
      have l10 : (0 ≤ (j : Int) / 8) = True := eq_true (by omega)
      have l11 : ((j : Int) / 8).toNat = j / 8 := by omega
      have l12 : IntKind.u64.wrap ((j : Int) % 8) = (j : Int) % 8 := u64w _ (by omega) (by omega)
      have l13 : ((j : Int) % 8).toNat = j % 8 := by omega
      rw [← hc2] at hba hbq
      clear hsz hc2
      have HSQ : Aside0 (Rn (mulR q q)) := ⟨(Re.mul ⟨HP.out, rfl⟩ ⟨HP.out, rfl⟩).1⟩
      cases hbj : bitB e j
      · rw [hbj] at hbq
        have HBJ := Aside0.mk hbj
        clear hbj
        go_wp2_with (refine step_storeG (mulR q q) HA1.out info33 rfl rfl rfl rfl rfl ?_; intro w2 hs hr; have HS2 := Aside0.mk hs; have HA2 := Aside0.mk hr; have HR2 := Aside0.mk (HR1.out.stored hs (by omega)); clear hs hr)
        refine ⟨⟨j, by omega, rfl, HS2.out.bel _ _ (by omega) HB1.out, HR2.out, HZ1.out.stored HS2.out (by omega), ?_⟩, meas_down j⟩
        rw [HST.out, if_neg (by rw [HBJ.out]; decide)]
        exact HA2.out
      · rw [hbj] at hbq
        have HBJ := Aside0.mk hbj
        clear hbj
        go_wp2_with (first | (refine step_storeG (mulR q q) HA1.out info33 rfl rfl rfl rfl rfl ?_; intro w2 hs hr; have HS2 := Aside0.mk hs; have HA2 := Aside0.mk hr; have HR2 := Aside0.mk (HR1.out.stored hs (by omega)); clear hs hr) | refine step_load HA2.out Tryd.underlying34 info33 rfl rfl rfl rfl ?_ | refine step_load HR2.out Tryd.underlying34 info33 rfl rfl rfl rfl ?_)
        refine (mulR_c _ _ _ HSQ.out HF.out).mono ?_
        rintro e' w4 ⟨rfl, hb⟩
        have HB2 := Aside0.mk (HS2.out.bel _ _ (by omega) HB1.out)
        have HR4 := Aside0.mk (HR2.out.below hb HR2.out.lt)
        have HZ4 := Aside0.mk ((HZ1.out.stored HS2.out (by omega)).below hb (HZ1.out.stored HS2.out (by omega)).lt)
        have HA4 := Aside0.mk (HA2.out.below hb HA2.out.lt)
        have HB4 := Aside0.mk (HB2.out.trans (hb.mono HB2.out.size))
        clear hb
        go_wp2_with (refine step_storeG (mulR (mulR q q) f) HA4.out info33 rfl rfl rfl rfl rfl ?_; intro w5 hs hr; have HS5 := Aside0.mk hs; have HA5 := Aside0.mk hr; clear hs hr)
        refine ⟨⟨j, by omega, rfl, HS5.out.bel _ _ (by omega) HB4.out, HR4.out.stored HS5.out (by omega), HZ4.out.stored HS5.out (by omega), ?_⟩, meas_down j⟩
        rw [HST.out, if_pos HBJ.out]
        exact HA5.out
attribute [local go_sem] setCell_drewN
/-- The bytes of 2 to a power, less k. -/
def exB (p : Nat) (k : Int) : Nat → Int := upd (onesB p) 0 ((onesB p 0 - (k - 1)) % 256)
def ERel (w : World) (v8 : Value) (p : Nat) (wr : World) : Prop :=
  ∃ i : Nat, i ≤ p ∧ v8 = .int .i64 (i : Int) ∧ Below w.heap.size w wr ∧ Row wr w.heap.size .u8 32 (fun _ => 0) 22 ∧ Row wr (w.heap.size + 1) .u8 32 (onesB i) 22
theorem onesB_zero (j : Nat) : (fun _ : Nat => (0 : Int)) j = onesB 0 j := by
  unfold onesB; rw [show min 8 (0 - 8 * j) = 0 by omega]; rfl
theorem pow8m (r : Nat) (h : r < 8) : (2 : Int) ^ r % 256 = 2 ^ r := by
  have hc : r = 0 ∨ r = 1 ∨ r = 2 ∨ r = 3 ∨ r = 4 ∨ r = 5 ∨ r = 6 ∨ r = 7 := by omega
  rcases hc with h | h | h | h | h | h | h | h <;> subst h <;> decide
theorem u8wm (z : Int) : IntKind.u8.wrap z = z % 256 := rfl
theorem exponent_calls (p : Nat) (k : Int) (w : World) (hp : p ≤ 255) (hk : 1 ≤ k ∧ k < 256) :
    Calls Tryd.prog 53 #[.int .i64 (p : Int), .int .u8 k] w fun e w' => e = .returned (.agg (FR .u8 32 (exB p k))) ∧ Below w.heap.size w w' := by
  go_enter Tryd.func53, Tryd.ntmps53
  have HB0 := Aside0.mk (bel_two w (.cells (FR .u8 32 fun _ => 0) 22) (.cells (FR .u8 32 fun _ => 0) 22))
  have HZ0 : Aside0 (Row ((w.alloc (.cells (FR .u8 32 fun _ => 0) 22)).alloc (.cells (FR .u8 32 fun _ => 0) 22)) w.heap.size .u8 32 (fun _ => 0) 22) := ⟨(Row.new w .u8 32 (fun _ => 0) 22).alloc _⟩
  have HE0 : Aside0 (Row ((w.alloc (.cells (FR .u8 32 fun _ => 0) 22)).alloc (.cells (FR .u8 32 fun _ => 0) 22)) (w.heap.size + 1) .u8 32 (fun _ => 0) 22) := ⟨heap_alloc2_new w _ _⟩
  go_wp2_with fail
  go_loopw [8] (fun v8 wr => ERel w v8 p wr) (fun v _ => p - (intOf v).toNat)
  case atStart => exact ⟨0, by omega, rfl, HB0.out, HZ0.out, row_eq HE0.out (fun j _ => onesB_zero j)⟩
  case round =>
    clear HB0 HE0 HZ0
    obtain ⟨i, hi, rfl, hb, hz, he⟩ := hrel
    have HB := Aside0.mk hb
    have HZ := Aside0.mk hz
    have hlz := hz.lt
    have HE := Aside0.mk he
    have hle := he.lt
    rcases Nat.lt_or_ge i p with h5 | h5
    · have hlt : ((i : Int) < (p : Int)) = True := eq_true (by omega)
      have d8 : Int.tdiv (i : Int) 8 = ((i / 8 : Nat) : Int) := rfl
      have r8 : Int.tmod (i : Int) 8 = ((i % 8 : Nat) : Int) := rfl
      have l8 : (((i / 8 : Nat) : Int) < 32) = True := eq_true (by omega)
      have l9 : ((i : Int) / 8 < 32) = True := eq_true (by omega)
      have l10 : (0 ≤ (i : Int) / 8) = True := eq_true (by omega)
      have l11 : ((i : Int) / 8).toNat = i / 8 := by omega
      have l12 : IntKind.u64.wrap ((i : Int) % 8) = (i : Int) % 8 := u64w _ (by omega) (by omega)
      have l13 : ((i : Int) % 8).toNat = i % 8 := by omega
      have k8 := he.cell (i / 8) (by omega)
      have f8 := he.fro (i / 8)
      have hor := ones_or i
      have hpm := pow8m (i % 8) (by omega)
      have HS := Aside0.mk (row_eq (he.set (i / 8) (onesB i (i / 8) + 2 ^ (i % 8)) (by omega)) (f' := onesB (i + 1)) (fun j hj => (onesB_step i j).symm))
      have HK := Aside0.mk hk
      clear hb hz he hk
      go_wp2_with fail
      go_region
      all_goals go_wp2_with fail
      refine ⟨⟨i + 1, by omega, rfl, (bel_set HB.out ⟨(w.heap.size + 1), i / 8, none⟩ _ (by simp)).drew, HZ.out.other ⟨w.heap.size + 1, i / 8, none⟩ _ (by simp), HS.out⟩, meas_up p i h5⟩
    · obtain rfl : i = p := by omega
      have k0 := he.cell 0 (by omega)
      have f0 := he.fro 0
      have hob := onesB_b i 0
      have q1 : IntKind.u8.wrap (k - 1) = k - 1 := by rw [u8wm]; omega
      have q1m : (k - 1) % 256 = k - 1 := by omega
      have q2 : IntKind.u8.wrap (onesB i 0 - (k - 1)) = (onesB i 0 - (k - 1)) % 256 := rfl
      have q3 : IntKind.i64.wrap (k - 1) = k - 1 := i64w _ (by omega)
      have q4 : wrap64 (k - 1) = k - 1 := w64 _ (by omega)
      have HS : Aside0 (Row (wr.setCell ⟨(w.heap.size + 1), 0, none⟩ (.int .u8 ((onesB i 0 - (k - 1)) % 256))) (w.heap.size + 1) .u8 32 (exB i k) 22) := ⟨he.set 0 _ (by omega)⟩
      have HBS := Aside0.mk (bel_set HB.out ⟨(w.heap.size + 1), 0, none⟩ (.int .u8 ((onesB i 0 - (k - 1)) % 256)) (by simp))
      have HZS := Aside0.mk (HZ.out.other ⟨w.heap.size + 1, 0, none⟩ (.int .u8 ((onesB i 0 - (k - 1)) % 256)) (by simp))
      clear hb hz he hob hk
      go_wp2_with (first | refine step_load HS.out Tryd.underlying22 info22 rfl rfl rfl rfl ?_ | (refine step_storeG (exB i k) HZS.out info22 rfl rfl rfl rfl rfl ?_; intro w9 hs hr; have HS9 := Aside0.mk hs; have HR9 := Aside0.mk hr; clear hs hr))
      refine bodyPost_ret (row_results rfl HR9.out rfl Tryd.underlying22 rfl info22) rfl ?_
      exact ⟨rfl, HS9.out.bel _ _ (by omega) HBS.out⟩
def ERelR (w : World) (v8 : Value) (p : Nat) (wr : World) : Prop :=
  ∃ i : Nat, i ≤ p ∧ v8 = .int .i64 (i : Int) ∧ Below w.heap.size w wr ∧ Row wr w.heap.size .u8 32 (onesB i) 22
theorem Exponent_calls (p : Nat) (k : Int) (w : World) (hp : p ≤ 255) (hk : 1 ≤ k ∧ k < 256) :
    Calls Tryd.prog 61 #[.int .i64 (p : Int), .int .i64 k] w fun e w' => e = .returned (.string (sOf (exB p k))) ∧ Below w.heap.size w w' := by
  go_enter Tryd.func61, Tryd.ntmps61
  have HB0 := Aside0.mk ((Below.refl w.heap.size w).alloc (Nat.le_refl _) (.cells (FR .u8 32 fun _ => 0) 22))
  have HE0 := Aside0.mk (Row.new w .u8 32 (fun _ => 0) 22)
  go_wp2_with fail
  go_loopw [6] (fun v8 wr => ERelR w v8 p wr) (fun v _ => p - (intOf v).toNat)
  case atStart => exact ⟨0, by omega, rfl, HB0.out, row_eq HE0.out (fun j _ => onesB_zero j)⟩
  case round =>
    clear HB0 HE0
    obtain ⟨i, hi, rfl, hb, he⟩ := hrel
    have HB := Aside0.mk hb
    have HE := Aside0.mk he
    have hle := he.lt
    rcases Nat.lt_or_ge i p with h5 | h5
    · have hlt : ((i : Int) < (p : Int)) = True := eq_true (by omega)
      have d8 : Int.tdiv (i : Int) 8 = ((i / 8 : Nat) : Int) := rfl
      have r8 : Int.tmod (i : Int) 8 = ((i % 8 : Nat) : Int) := rfl
      have l8 : (((i / 8 : Nat) : Int) < 32) = True := eq_true (by omega)
      have l9 : ((i : Int) / 8 < 32) = True := eq_true (by omega)
      have l10 : (0 ≤ (i : Int) / 8) = True := eq_true (by omega)
      have l11 : ((i : Int) / 8).toNat = i / 8 := by omega
      have l12 : IntKind.u64.wrap ((i : Int) % 8) = (i : Int) % 8 := u64w _ (by omega) (by omega)
      have l13 : ((i : Int) % 8).toNat = i % 8 := by omega
      have k8 := he.cell (i / 8) (by omega)
      have f8 := he.fro (i / 8)
      have hor := ones_or i
      have hpm := pow8m (i % 8) (by omega)
      have HS := Aside0.mk (row_eq (he.set (i / 8) (onesB i (i / 8) + 2 ^ (i % 8)) (by omega)) (f' := onesB (i + 1)) (fun j hj => (onesB_step i j).symm))
      have HK := Aside0.mk hk
      clear hb he hk
      go_wp2_with fail
      refine ⟨⟨i + 1, by omega, rfl, bel_set HB.out ⟨w.heap.size, i / 8, none⟩ _ (by simp), HS.out⟩, meas_up p i h5⟩
    · obtain rfl : i = p := by omega
      have k0 := he.cell 0 (by omega)
      have f0 := he.fro 0
      have hob := onesB_b i 0
      have q1 : IntKind.u8.wrap (k - 1) = k - 1 := by rw [u8wm]; omega
      have q1m : (k - 1) % 256 = k - 1 := by omega
      have q2 : IntKind.u8.wrap (onesB i 0 - (k - 1)) = (onesB i 0 - (k - 1)) % 256 := rfl
      have q3 : IntKind.i64.wrap (k - 1) = k - 1 := i64w _ (by omega)
      have q4 : wrap64 (k - 1) = k - 1 := w64 _ (by omega)
      have HS : Aside0 (Row (wr.setCell ⟨w.heap.size, 0, none⟩ (.int .u8 ((onesB i 0 - (k - 1)) % 256))) w.heap.size .u8 32 (exB i k) 22) := ⟨he.set 0 _ (by omega)⟩
      have HBS := Aside0.mk (bel_set HB.out ⟨w.heap.size, 0, none⟩ (.int .u8 ((onesB i 0 - (k - 1)) % 256)) (by simp))
      have hcv := conv_row HS.out
      clear hb he hob hk
      go_wp2_with fail
      go_ret
      exact ⟨rfl, HBS.out⟩
attribute [local go_sem] setCell_drewN
theorem exB_By (p : Nat) (k : Int) : By (exB p k) := fun j hj => by
  have := onesB_b p j
  unfold exB upd
  split <;> omega
def invE (f : Nat → Int) : Nat → Int := powE f (exB 255 21) 256
def invR (g : Nat → Int) : Nat → Int := powR g (exB 255 21) 256
theorem tab3001 : rtab .any (opsOf Tryd.f28 1) = (true, [([], []), ([], []), ([0, 1, 1], [0, 1]), ([2, 2, 0, 1, 2], [2])]) := by kernel_rfl
theorem bits3001 : waitsOk [([], []), ([], []), ([0, 1, 1], [0, 1]), ([2, 2, 0, 1, 2], [2])] [0, 0, 3, 7] = true := by kernel_rfl
theorem invE_calls (f : Nat → Int) (w : World) (hf : Lm f) :
    Calls Tryd.prog 28 #[.agg (FR .u64 5 f)] w fun e w' => e = .returned (.agg (FR .u64 5 (invE f))) ∧ Below w.heap.size w w' := by
  have HF := Aside0.mk hf
  clear hf
  go_enter Tryd.func28, Tryd.ntmps28
  go_wp2_with fail
  have hh : Row (((w.alloc (.cells (FR .u64 5 f) 26)).alloc (.cells #[.int .u64 0, .int .u64 0, .int .u64 0, .int .u64 0, .int .u64 0] 26)).drew) w.heap.size .u64 5 f 26 := (Row.new w .u64 5 f 26).alloc _
  have HZd : Aside0 (Row (((w.alloc (.cells (FR .u64 5 f) 26)).alloc (.cells #[.int .u64 0, .int .u64 0, .int .u64 0, .int .u64 0, .int .u64 0] 26)).drew) (w.heap.size + 1) .u64 5 (fun _ => 0) 26) := ⟨heap_alloc2_new w _ _⟩
  have HBd := Aside0.mk ((bel_two w (.cells (FR .u64 5 f) 26) (.cells #[.int .u64 0, .int .u64 0, .int .u64 0, .int .u64 0, .int .u64 0] 26)).drew)
  refine start_ (n := 4) (S := (fun w' => Row w' w.heap.size .u64 5 f 26)) (ds := [3]) #[false, false, false, false] (by kernel_rfl) rfl rfl hh (fun hHeld => ?_); refine with_tabW tab3001 bits3001 (fun HT_ HW_ => ?_)
  generalize ((w.alloc (.cells (FR .u64 5 f) 26)).alloc (.cells #[.int .u64 0, .int .u64 0, .int .u64 0, .int .u64 0, .int .u64 0] 26)).drew = w6 at HBd hHeld hh HZd ⊢
  clear hh
  refine take_ (i := 0) (N := some 3) (v := ?_) (a' := ?_) #[true, false, false, false] rfl rfl (take_ofW HT_.out HW_.out (by kernel_rfl)) (fun _ _ _ h => h) (Or.inl ⟨by rfl, ?_⟩) hHeld ?_ ?_
  rotate_left
  · intro w' hsw
    refine exec_load (x := .tmp 1) hsw Tryd.underlying26 info27 rfl ?_ ?_ <;> rfl
  rotate_left
  · simp only [Act.put, List.setIfInBounds_toArray, List.set_cons_zero, List.set_cons_succ, i64_w, i32_w]
    rfl
  refine one_ (i := 1) (N := some 4) #[true, true, false, false] rfl rfl (one_of HT_.out (by kernel_rfl)) (by decide) (fun K hK => ?_)
  refine goes_ Tryd.func53 rfl rfl #[.int .i64 255, .int .u8 21] rfl rfl rfl (by simp only [List.map_toArray, List.map_cons, List.map_nil]; rfl) ((exponent_calls 255 21 _ (by omega) (by omega)).mono ?_)
  rintro e wc1 ⟨rfl, hb⟩
  have hSn : Row wc1 w.heap.size .u64 5 f 26 := hHeld.below hb hHeld.lt
  have HBc1 := Aside0.mk (HBd.out.trans (hb.mono HBd.out.size))
  have HZc1 := Aside0.mk (HZd.out.below hb HZd.out.lt)
  clear hb
  refine ⟨_, rfl, hK.out _ _ hSn (fun hHeld => ?_)⟩
  clear hSn
  clear hK K
  refine norm_ (a' := ?_) ?_ ?_
  rotate_left
  · show Act.put _ (some 4) _ = _
    simp only [Act.put, List.setIfInBounds_toArray, List.set_cons_zero, List.set_cons_succ, i64_w, i32_w]
    rfl
  refine one_ (i := 2) (N := some 5) #[true, true, true, false] rfl rfl (one_of HT_.out (by kernel_rfl)) (by decide) (fun K hK => ?_)
  refine goes_ Tryd.func52 rfl rfl #[.agg (FR .u64 5 f), .agg (FR .u8 32 (exB 255 21))] rfl rfl rfl (by simp only [List.map_toArray, List.map_cons, List.map_nil]; rfl) ((pow_elem f (exB 255 21) _ HF.out (exB_By _ _)).mono ?_)
  rintro e wc2 ⟨rfl, hb⟩
  have hSn : Row wc2 w.heap.size .u64 5 f 26 := hHeld.below hb hHeld.lt
  have HBc2 := Aside0.mk (HBc1.out.trans (hb.mono HBc1.out.size))
  have HZc2 := Aside0.mk (HZc1.out.below hb HZc1.out.lt)
  clear hb
  refine ⟨_, rfl, hK.out _ _ hSn (fun hHeld => ?_)⟩
  clear hSn
  clear hK K
  refine norm_ (a' := ?_) ?_ ?_
  rotate_left
  · show Act.put _ (some 5) _ = _
    simp only [Act.put, List.setIfInBounds_toArray, List.set_cons_zero, List.set_cons_succ, i64_w, i32_w]
    rfl
  refine last_ (i := 3) (N := none) #[true, true, true, true] rfl rfl (one_of HT_.out (by kernel_rfl)) (by decide) (fun K hK => ?_)
  refine oper_storeG (invE f) HZc2.out info27 rfl rfl rfl rfl rfl ?_
  intro wk hs hr
  have HRk := Aside0.mk hr
  have HBk := Aside0.mk (hs.bel _ _ (by omega) HBc2.out)
  clear hs hr
  refine hK.out _ _ ?_
  clear hK K
  refine done_ (done_of HT_.out (by kernel_rfl)) ?_
  try go_wp2
  refine bodyPost_ret (row_results rfl HRk.out rfl Tryd.underlying26 rfl info27) rfl ?_
  exact ⟨rfl, HBk.out⟩
theorem tab3101 : rtab .any (opsOf Tryd.f46 1) = (true, [([], []), ([], []), ([0, 1, 1], [0, 1]), ([2, 2, 0, 1, 2], [2])]) := by kernel_rfl
theorem bits3101 : waitsOk [([], []), ([], []), ([0, 1, 1], [0, 1]), ([2, 2, 0, 1, 2], [2])] [0, 0, 3, 7] = true := by kernel_rfl
theorem invR_calls (f : Nat → Int) (w : World) (hf : Rn f) :
    Calls Tryd.prog 46 #[.agg (FR .i64 16 f)] w fun e w' => e = .returned (.agg (FR .i64 16 (invR f))) ∧ Below w.heap.size w w' := by
  have HF := Aside0.mk hf
  clear hf
  go_enter Tryd.func46, Tryd.ntmps46
  go_wp2_with fail
  have hh : Row (((w.alloc (.cells (FR .i64 16 f) 34)).alloc (.cells #[.int .i64 0, .int .i64 0, .int .i64 0, .int .i64 0, .int .i64 0, .int .i64 0, .int .i64 0, .int .i64 0, .int .i64 0, .int .i64 0, .int .i64 0, .int .i64 0, .int .i64 0, .int .i64 0, .int .i64 0, .int .i64 0] 34)).drew) w.heap.size .i64 16 f 34 := (Row.new w .i64 16 f 34).alloc _
  have HZd : Aside0 (Row (((w.alloc (.cells (FR .i64 16 f) 34)).alloc (.cells #[.int .i64 0, .int .i64 0, .int .i64 0, .int .i64 0, .int .i64 0, .int .i64 0, .int .i64 0, .int .i64 0, .int .i64 0, .int .i64 0, .int .i64 0, .int .i64 0, .int .i64 0, .int .i64 0, .int .i64 0, .int .i64 0] 34)).drew) (w.heap.size + 1) .i64 16 (fun _ => 0) 34) := ⟨heap_alloc2_new w _ _⟩
  have HBd := Aside0.mk ((bel_two w (.cells (FR .i64 16 f) 34) (.cells #[.int .i64 0, .int .i64 0, .int .i64 0, .int .i64 0, .int .i64 0, .int .i64 0, .int .i64 0, .int .i64 0, .int .i64 0, .int .i64 0, .int .i64 0, .int .i64 0, .int .i64 0, .int .i64 0, .int .i64 0, .int .i64 0] 34)).drew)
  refine start_ (n := 4) (S := (fun w' => Row w' w.heap.size .i64 16 f 34)) (ds := [3]) #[false, false, false, false] (by kernel_rfl) rfl rfl hh (fun hHeld => ?_); refine with_tabW tab3101 bits3101 (fun HT_ HW_ => ?_)
  generalize ((w.alloc (.cells (FR .i64 16 f) 34)).alloc (.cells #[.int .i64 0, .int .i64 0, .int .i64 0, .int .i64 0, .int .i64 0, .int .i64 0, .int .i64 0, .int .i64 0, .int .i64 0, .int .i64 0, .int .i64 0, .int .i64 0, .int .i64 0, .int .i64 0, .int .i64 0, .int .i64 0] 34)).drew = w6 at HBd hHeld hh HZd ⊢
  clear hh
  refine take_ (i := 0) (N := some 3) (v := ?_) (a' := ?_) #[true, false, false, false] rfl rfl (take_ofW HT_.out HW_.out (by kernel_rfl)) (fun _ _ _ h => h) (Or.inl ⟨by rfl, ?_⟩) hHeld ?_ ?_
  rotate_left
  · intro w' hsw
    refine exec_load (x := .tmp 1) hsw Tryd.underlying34 info33 rfl ?_ ?_ <;> rfl
  rotate_left
  · simp only [Act.put, List.setIfInBounds_toArray, List.set_cons_zero, List.set_cons_succ, i64_w, i32_w]
    rfl
  refine one_ (i := 1) (N := some 4) #[true, true, false, false] rfl rfl (one_of HT_.out (by kernel_rfl)) (by decide) (fun K hK => ?_)
  refine goes_ Tryd.func61 rfl rfl #[.int .i64 255, .int .i64 21] rfl rfl rfl (by simp only [List.map_toArray, List.map_cons, List.map_nil]; rfl) ((Exponent_calls 255 21 _ (by omega) (by omega)).mono ?_)
  rintro e wc1 ⟨rfl, hb⟩
  have hSn : Row wc1 w.heap.size .i64 16 f 34 := hHeld.below hb hHeld.lt
  have HBc1 := Aside0.mk (HBd.out.trans (hb.mono HBd.out.size))
  have HZc1 := Aside0.mk (HZd.out.below hb HZd.out.lt)
  clear hb
  refine ⟨_, rfl, hK.out _ _ hSn (fun hHeld => ?_)⟩
  clear hSn
  clear hK K
  refine norm_ (a' := ?_) ?_ ?_
  rotate_left
  · show Act.put _ (some 4) _ = _
    simp only [Act.put, List.setIfInBounds_toArray, List.set_cons_zero, List.set_cons_succ, i64_w, i32_w]
    rfl
  refine one_ (i := 2) (N := some 5) #[true, true, true, false] rfl rfl (one_of HT_.out (by kernel_rfl)) (by decide) (fun K hK => ?_)
  refine goes_ Tryd.func60 rfl rfl #[.agg (FR .i64 16 f), .string (sOf (exB 255 21))] rfl rfl rfl (by simp only [List.map_toArray, List.map_cons, List.map_nil]; rfl) ((pow_ref f (exB 255 21) _ HF.out (exB_By _ _)).mono ?_)
  rintro e wc2 ⟨rfl, hb⟩
  have hSn : Row wc2 w.heap.size .i64 16 f 34 := hHeld.below hb hHeld.lt
  have HBc2 := Aside0.mk (HBc1.out.trans (hb.mono HBc1.out.size))
  have HZc2 := Aside0.mk (HZc1.out.below hb HZc1.out.lt)
  clear hb
  refine ⟨_, rfl, hK.out _ _ hSn (fun hHeld => ?_)⟩
  clear hSn
  clear hK K
  refine norm_ (a' := ?_) ?_ ?_
  rotate_left
  · show Act.put _ (some 5) _ = _
    simp only [Act.put, List.setIfInBounds_toArray, List.set_cons_zero, List.set_cons_succ, i64_w, i32_w]
    rfl
  refine last_ (i := 3) (N := none) #[true, true, true, true] rfl rfl (one_of HT_.out (by kernel_rfl)) (by decide) (fun K hK => ?_)
  refine oper_storeG (invR f) HZc2.out info33 rfl rfl rfl rfl rfl ?_
  intro wk hs hr
  have HRk := Aside0.mk hr
  have HBk := Aside0.mk (hs.bel _ _ (by omega) HBc2.out)
  clear hs hr
  refine hK.out _ _ ?_
  clear hK K
  refine done_ (done_of HT_.out (by kernel_rfl)) ?_
  try go_wp2
  refine bodyPost_ret (row_results rfl HRk.out rfl Tryd.underlying34 rfl info33) rfl ?_
  exact ⟨rfl, HBk.out⟩
end Go.Proofs.YtaaipbhfikefaaaDoor.P.Fd
end

section
namespace Go.Proofs.YtaaipbhfikefaaaDoor.P.Fd
set_option linter.unusedVariables false
set_option linter.unusedSimpArgs false
open Go.RowKit Go.ChangeShapes Go.WideShapes Go.Proofs.YtaaipbhfikefaaaDoorW.PrintWords Go.Proofs.YtaaipbhfikefaaaDoorW.PrintLast Go.Proofs.YtaaipbhfikefaaaDoorW.PrintMore
attribute [local go_sem] setCell_drewN
def Prime (p : Nat) : Prop := 1 < p ∧ ∀ d, d ∣ p → d = 1 ∨ d = p
theorem Prime.coprime {q x : Nat} (hq : Prime q) (h : ¬ q ∣ x) : Nat.Coprime q x := by
  rcases hq.2 (Nat.gcd q x) (Nat.gcd_dvd_left q x) with h1 | h1
  · exact h1
  · exact absurd (h1 ▸ Nat.gcd_dvd_right q x) h
theorem Prime.dvd_mul {q x y : Nat} (hq : Prime q) (h : q ∣ x * y) : q ∣ x ∨ q ∣ y := by
  by_cases hx : q ∣ x
  · exact Or.inl hx
  · exact Or.inr ((hq.coprime hx).dvd_of_dvd_mul_left h)
/-- Pascal's numbers. -/
def ch : Nat → Nat → Nat
  | _, 0 => 1
  | 0, _ + 1 => 0
  | n + 1, k + 1 => ch n k + ch n (k + 1)
theorem ch_zero (n : Nat) : ch n 0 = 1 := by cases n <;> rfl
theorem ch_succ (n k : Nat) : ch (n + 1) (k + 1) = ch n k + ch n (k + 1) := rfl
theorem ch_lt : ∀ n k, n < k → ch n k = 0
  | n, 0, h => absurd h (by omega)
  | 0, k + 1, _ => rfl
  | n + 1, k + 1, h => by rw [ch_succ, ch_lt n k (by omega), ch_lt n (k + 1) (by omega)]
theorem ch_self : ∀ n, ch n n = 1
  | 0 => rfl
  | n + 1 => by rw [ch_succ, ch_self n, ch_lt n (n + 1) (by omega)]
theorem ch_mul : ∀ n k, (k + 1) * ch (n + 1) (k + 1) = (n + 1) * ch n k
  | 0, 0 => rfl
  | 0, k + 1 => by rw [ch_lt 1 (k + 1 + 1) (by omega), ch_lt 0 (k + 1) (by omega)]; simp
  | n + 1, 0 => by
    have h := ch_mul n 0
    rw [ch_succ, ch_zero]
    rw [ch_zero] at h
    omega
  | n + 1, k + 1 => by
    have h1 := ch_mul n k
    have h2 := ch_mul n (k + 1)
    have e1 := ch_succ (n + 1) (k + 1)
    have e2 := ch_succ n k
    rw [e1, Nat.mul_add, h2]
    have e3 : (k + 1 + 1) * ch (n + 1) (k + 1) = (k + 1) * ch (n + 1) (k + 1) + ch (n + 1) (k + 1) := by rw [Nat.add_mul (k + 1) 1]; omega
    rw [e3, h1]
    have e4 : (n + 1 + 1) * ch (n + 1) (k + 1) = (n + 1) * ch (n + 1) (k + 1) + ch (n + 1) (k + 1) := by rw [Nat.add_mul (n + 1) 1]; omega
    rw [e4, e2, Nat.mul_add]
    omega
def bsum (a n : Nat) : Nat → Nat
  | 0 => 0
  | m + 1 => bsum a n m + ch n m * a ^ m
theorem bsum_succ (a n m : Nat) : bsum a n (m + 1) = bsum a n m + ch n m * a ^ m := rfl
theorem bsum_step (a n : Nat) : ∀ m, bsum a (n + 1) (m + 1) = a * bsum a n m + bsum a n (m + 1)
  | 0 => by simp [bsum, ch_zero]
  | m + 1 => by
    rw [bsum_succ a (n + 1) (m + 1), bsum_step a n m, ch_succ, bsum_succ a n (m + 1), bsum_succ a n m, Nat.pow_succ]
    grind
theorem binom (a : Nat) : ∀ n, (a + 1) ^ n = bsum a n (n + 1)
  | 0 => by simp [bsum, ch_zero]
  | n + 1 => by
    rw [Nat.pow_succ, binom a n, bsum_step, bsum_succ a n (n + 1), ch_lt n (n + 1) (by omega)]
    grind
theorem ch_dvd {p : Nat} (hp : Prime p) (k : Nat) (h0 : 0 < k) (hk : k < p) : p ∣ ch p k := by
  obtain ⟨j, rfl⟩ : ∃ j, k = j + 1 := ⟨k - 1, by omega⟩
  obtain ⟨q, rfl⟩ : ∃ q, p = q + 1 := ⟨p - 1, by omega⟩
  have h := ch_mul q j
  have hd : (q + 1) ∣ (j + 1) * ch (q + 1) (j + 1) := ⟨ch q j, h⟩
  rcases hp.dvd_mul hd with h1 | h1
  · exact absurd (Nat.le_of_dvd (by omega) h1) (by omega)
  · exact h1
theorem bsum_mod {p : Nat} (hp : Prime p) (a : Nat) : ∀ m, m < p → bsum a p (m + 1) % p = 1 % p
  | 0, _ => by simp [bsum, ch_zero]
  | m + 1, h => by
    obtain ⟨c, hc⟩ := ch_dvd hp (m + 1) (by omega) h
    rw [bsum_succ, hc, Nat.mul_assoc, Nat.add_mul_mod_self_left, bsum_mod hp a m (by omega)]
theorem fermat_all {p : Nat} (hp : Prime p) : ∀ a, a ^ p % p = a % p
  | 0 => by rw [Nat.zero_pow (by have := hp.1; omega)]
  | a + 1 => by
    have ih := fermat_all hp a
    have h1 := hp.1
    obtain ⟨q, hq⟩ : ∃ q, p = q + 1 := ⟨p - 1, by omega⟩
    have h2 := bsum_mod hp a q (by omega)
    rw [binom, bsum_succ, ch_self, Nat.one_mul]
    have e : bsum a p p = bsum a p (q + 1) := by rw [← hq]
    rw [e, Nat.add_mod, h2, ih, ← Nat.add_mod, Nat.add_comm]
theorem fermat {p : Nat} (hp : Prime p) (a : Nat) (ha : ¬ p ∣ a) : a ^ (p - 1) % p = 1 := by
  have h1 := hp.1
  have h := fermat_all hp a
  have hpos : 1 ≤ a ^ (p - 1) := by
    have : 0 < a := by
      rcases Nat.eq_zero_or_pos a with h0 | h0
      · subst h0; exact absurd (Nat.dvd_zero p) ha
      · exact h0
    exact Nat.one_le_iff_ne_zero.2 (by have := Nat.pow_pos (n := p - 1) this; omega)
  have e : a ^ p = a * a ^ (p - 1) := by
    conv => lhs; rw [show p = (p - 1) + 1 by omega, Nat.pow_succ]
    exact Nat.mul_comm _ _
  have hd : p ∣ a * (a ^ (p - 1) - 1) := by
    rw [Nat.mul_sub, Nat.mul_one, ← e]
    exact Nat.dvd_of_mod_eq_zero (Nat.sub_mod_eq_zero_of_mod_eq h)
  rcases hp.dvd_mul hd with h2 | h2
  · exact absurd h2 ha
  · obtain ⟨c, hc⟩ := h2
    have : a ^ (p - 1) = 1 + p * c := by omega
    rw [this, Nat.add_mul_mod_self_left, Nat.mod_eq_of_lt h1]
/-- A power's rest. -/
def pm (m : Nat) : Nat → Nat → Nat → Nat
  | 0, _, _ => 1 % m
  | f + 1, a, e => if e = 0 then 1 % m else (if e % 2 = 1 then a * pm m f (a * a % m) (e / 2) % m else pm m f (a * a % m) (e / 2))
theorem pm_eq (m : Nat) : ∀ f a e, e < 2 ^ f → pm m f a e = a ^ e % m
  | 0, a, e, h => by
    have : e = 0 := by simpa using h
    subst this; simp [pm]
  | f + 1, a, e, h => by
    have ih := pm_eq m f (a * a % m) (e / 2) (by rw [Nat.pow_succ] at h; omega)
    unfold pm
    split
    · subst_vars; simp
    · have e2 : (a * a % m) ^ (e / 2) % m = a ^ (2 * (e / 2)) % m := by rw [← Nat.pow_mod, Nat.pow_mul, Nat.pow_two]
      split
      · rename_i h0 h1
        rw [ih, e2, Nat.mul_mod_mod, ← Nat.pow_succ']
        congr 2; omega
      · rename_i h0 h1
        rw [ih, e2]
        congr 2; omega
theorem pow_gcd {r a : Nat} (h1 : 1 < r) : ∀ m n, a ^ m % r = 1 → a ^ n % r = 1 → a ^ Nat.gcd m n % r = 1 := by
  intro m n
  induction m, n using Nat.gcd.induction with
  | H0 n => intro _ h; rw [Nat.gcd_zero_left]; exact h
  | H1 m n hm ih =>
    intro hm1 hn1
    rw [Nat.gcd_rec]
    apply ih
    · have e : a ^ n = (a ^ m) ^ (n / m) * a ^ (n % m) := by rw [← Nat.pow_mul, ← Nat.pow_add, Nat.div_add_mod]
      have e2 : (a ^ m) ^ (n / m) % r = 1 := by rw [Nat.pow_mod, hm1, Nat.one_pow, Nat.mod_eq_of_lt h1]
      rw [e, Nat.mul_mod, e2, Nat.one_mul, Nat.mod_mod] at hn1
      exact hn1
    · exact hm1
/-- One step of Pocklington's test. -/
theorem pock {r N q M a : Nat} (hr : Prime r) (hrN : r ∣ N) (hq : Prime q) (hN : N = q * M + 1) (h1 : a ^ (q * M) % N = 1) (h2 : Nat.gcd (a ^ M % N + (N - 1)) N = 1) : q ∣ r - 1 := by
  refine Classical.byContradiction fun hnd => ?_
  have hr1 := hr.1
  obtain ⟨c, hc⟩ := hrN
  have h1r : a ^ (q * M) % r = 1 := by
    have : a ^ (q * M) % N % r = a ^ (q * M) % r := Nat.mod_mod_of_dvd _ ⟨c, hc⟩
    rw [← this, h1, Nat.mod_eq_of_lt hr1]
  have hra : ¬ r ∣ a := by
    intro hd
    have hqM : 0 < q * M := by
      rcases Nat.eq_zero_or_pos (q * M) with h0 | h0
      · rw [h0] at hN; subst hN; exact absurd (Nat.dvd_one.1 ⟨c, hc⟩) (by omega)
      · exact h0
    obtain ⟨k, hk⟩ : ∃ k, q * M = k + 1 := ⟨q * M - 1, by omega⟩
    rw [hk, Nat.pow_succ] at h1r
    have : a ^ k * a % r = 0 := Nat.mod_eq_zero_of_dvd (Nat.dvd_trans hd (Nat.dvd_mul_left a _))
    omega
  have hf := fermat hr a hra
  have hg := pow_gcd hr1 _ _ h1r hf
  have hcop : Nat.Coprime (Nat.gcd (q * M) (r - 1)) q :=
    (Nat.Coprime.coprime_dvd_right (Nat.gcd_dvd_right _ _) (hq.coprime hnd)).symm
  have hgM : Nat.gcd (q * M) (r - 1) ∣ M := hcop.dvd_of_dvd_mul_left (Nat.gcd_dvd_left _ _)
  obtain ⟨k, hk⟩ := hgM
  have hM : a ^ M % r = 1 := by
    rw [hk, Nat.pow_mul, Nat.pow_mod, hg, Nat.one_pow, Nat.mod_eq_of_lt hr1]
  have hz : (a ^ M % N + (N - 1)) % r = 0 := by
    have e : a ^ M % N % r = a ^ M % r := Nat.mod_mod_of_dvd _ ⟨c, hc⟩
    have hNr : (1 + (N - 1)) % r = 0 := by
      rw [show 1 + (N - 1) = N by omega, hc, Nat.mul_mod_right]
    rw [Nat.add_mod, e, hM]
    rw [Nat.add_mod, Nat.mod_eq_of_lt hr1] at hNr
    exact hNr
  have hd : r ∣ Nat.gcd (a ^ M % N + (N - 1)) N := Nat.dvd_gcd (Nat.dvd_of_mod_eq_zero hz) ⟨c, hc⟩
  rw [h2] at hd
  exact absurd (Nat.dvd_one.1 hd) (by omega)
/-- Each number beyond 1 has a prime that divides it. -/
theorem has_prime : ∀ n, 1 < n → ∃ r, Prime r ∧ r ∣ n := by
  intro n
  induction n using Nat.strongRecOn with
  | ind n ih =>
    intro hn
    by_cases hp : Prime n
    · exact ⟨n, hp, Nat.dvd_refl n⟩
    · have : ∃ d, d ∣ n ∧ d ≠ 1 ∧ d ≠ n := Classical.byContradiction fun h => hp ⟨hn, fun d hd => Classical.byContradiction fun h2 => h ⟨d, hd, fun e => h2 (Or.inl e), fun e => h2 (Or.inr e)⟩⟩
      obtain ⟨d, hd, h1, h2⟩ := this
      have hle := Nat.le_of_dvd (by omega) hd
      have h0 : d ≠ 0 := by rintro rfl; exact absurd (Nat.eq_zero_of_zero_dvd hd) (by omega)
      obtain ⟨r, hr, hrd⟩ := ih d (by omega) (by omega)
      exact ⟨r, hr, Nat.dvd_trans hrd hd⟩
/-- A number without a prime up to its root is prime. -/
theorem prime_of {n : Nat} (hn : 1 < n) (h : ∀ r, Prime r → r ∣ n → n < r * r) : Prime n := by
  refine ⟨hn, fun d hd => Classical.byContradiction fun hne => ?_⟩
  have h1 : d ≠ 1 := fun e => hne (Or.inl e)
  have h2 : d ≠ n := fun e => hne (Or.inr e)
  obtain ⟨c, hc⟩ := hd
  have hd0 : d ≠ 0 := by rintro rfl; omega
  have hc0 : c ≠ 0 := by rintro rfl; omega
  have hc1 : c ≠ 1 := by rintro rfl; omega
  obtain ⟨r, hr, hrd⟩ := has_prime d (by omega)
  obtain ⟨s, hs, hsc⟩ := has_prime c (by omega)
  have h3 := h r hr (Nat.dvd_trans hrd ⟨c, hc⟩)
  have h4 := h s hs (Nat.dvd_trans hsc ⟨d, by rw [hc, Nat.mul_comm]⟩)
  have h5 := Nat.le_of_dvd (by omega) hrd
  have h6 := Nat.le_of_dvd (by omega) hsc
  have h7 : r * s ≤ n := by rw [hc]; exact Nat.mul_le_mul h5 h6
  rcases Nat.le_total r s with h8 | h8
  · have : r * r ≤ r * s := Nat.mul_le_mul_left r h8
    omega
  · have : s * s ≤ r * s := Nat.mul_le_mul_right s h8
    omega
def noDiv (n : Nat) : Nat → Bool
  | 0 => true
  | k + 1 => n % (k + 2) != 0 && noDiv n k
theorem noDiv_of (n : Nat) : ∀ k, noDiv n k = true → ∀ d, 2 ≤ d → d < k + 2 → ¬ d ∣ n
  | 0, _, d, h1, h2 => absurd h1 (by omega)
  | k + 1, h, d, h1, h2 => by
    simp only [noDiv, Bool.and_eq_true, bne_iff_ne] at h
    intro hd
    by_cases he : d = k + 2
    · subst he; exact h.1 (Nat.mod_eq_zero_of_dvd hd)
    · exact noDiv_of n k h.2 d h1 (by omega) hd
theorem prime_small {n k : Nat} (hn : 1 < n) (h : noDiv n k = true) (hk : n < (k + 2) * (k + 2)) : Prime n :=
  prime_of hn fun r hr hd => by
    have h1 := hr.1
    have h2 : ¬ r < k + 2 := fun hlt => noDiv_of n k h r (by omega) hlt hd
    have : (k + 2) * (k + 2) ≤ r * r := Nat.mul_le_mul (by omega) (by omega)
    omega
theorem prime_two {N q1 q2 : Nat} (hN : 1 < N) (h : ∀ r, Prime r → r ∣ N → q1 ∣ r - 1 ∧ q2 ∣ r - 1) (hc : Nat.Coprime q1 q2) (hlt : N < (q1 * q2) * (q1 * q2)) : Prime N :=
  prime_of hN fun r hr hd => by
    obtain ⟨h1, h2⟩ := h r hr hd
    have h3 := Nat.le_of_dvd (by have := hr.1; omega) (Nat.Coprime.mul_dvd_of_dvd_of_dvd hc h1 h2)
    have : (q1 * q2) * (q1 * q2) ≤ r * r := Nat.mul_le_mul (by omega) (by omega)
    omega
set_option maxRecDepth 100000
theorem pock2 {r N q M a f : Nat} (hr : Prime r) (hrN : r ∣ N) (hq : Prime q) (hN : N = q * M + 1) (hf : q * M < 2 ^ f) (hf2 : M < 2 ^ f) (h1 : pm N f a (q * M) = 1) (h2 : Nat.gcd (pm N f a M + (N - 1)) N = 1) : q ∣ r - 1 := by
  rw [pm_eq N f a _ hf] at h1
  rw [pm_eq N f a _ hf2] at h2
  exact pock hr hrN hq hN h1 h2
theorem prime_3 : Prime 3 := prime_small (k := 1) (by decide) (by decide +kernel) (by decide)
theorem prime_47 : Prime 47 := prime_small (k := 6) (by decide) (by decide +kernel) (by decide)
theorem prime_353 : Prime 353 := prime_small (k := 18) (by decide) (by decide +kernel) (by decide)
theorem prime_75707 : Prime 75707 := prime_small (k := 275) (by decide) (by decide +kernel) (by decide)
theorem prime_8574133 : Prime 8574133 := prime_small (k := 2928) (by decide) (by decide +kernel) (by decide)
theorem prime_s1 : Prime 1919519569386763 :=
  prime_two (q1 := 8574133) (q2 := 47) (by decide) (fun r hr hd => ⟨pock2 (q := 8574133) (M := 223873314) (a := 2) (f := 51) hr hd prime_8574133 (by decide) (by decide) (by decide) (by decide +kernel) (by decide +kernel),
    pock2 (q := 47) (M := 40840841901846) (a := 2) (f := 51) hr hd prime_47 (by decide) (by decide) (by decide) (by decide +kernel) (by decide +kernel)⟩) (by decide +kernel) (by decide)
theorem prime_r1 : Prime 75445702479781427272750846543864801 :=
  prime_two (q1 := 1919519569386763) (q2 := 75707) (by decide) (fun r hr hd => ⟨pock2 (q := 1919519569386763) (M := 39304471641247389600) (a := 2) (f := 116) hr hd prime_s1 (by decide) (by decide) (by decide) (by decide +kernel) (by decide +kernel),
    pock2 (q := 75707) (M := 996548568557483816196003626400) (a := 2) (f := 116) hr hd prime_75707 (by decide) (by decide) (by decide) (by decide +kernel) (by decide +kernel)⟩) (by decide +kernel) (by decide)
theorem prime_q0 : Prime 74058212732561358302231226437062788676166966415465897661863160754340907 :=
  prime_two (q1 := 75445702479781427272750846543864801) (q2 := 353) (by decide) (fun r hr hd => ⟨pock2 (q := 75445702479781427272750846543864801) (M := 981609426360740691344999861639072106) (a := 2) (f := 236) hr hd prime_r1 (by decide) (by decide) (by decide) (by decide +kernel) (by decide +kernel),
    pock2 (q := 353) (M := 209796636636151156663544550813209033076960244803019540118592523383402) (a := 2) (f := 236) hr hd prime_353 (by decide) (by decide) (by decide) (by decide +kernel) (by decide +kernel)⟩) (by decide +kernel) (by decide)
theorem prime_p : Prime 57896044618658097711785492504343953926634992332820282019728792003956564819949 :=
  prime_two (q1 := 74058212732561358302231226437062788676166966415465897661863160754340907) (q2 := 3) (by decide) (fun r hr hd => ⟨pock2 (q := 74058212732561358302231226437062788676166966415465897661863160754340907) (M := 781764) (a := 2) (f := 255) hr hd prime_q0 (by decide) (by decide) (by decide) (by decide +kernel) (by decide +kernel),
    pock2 (q := 3) (M := 19298681539552699237261830834781317975544997444273427339909597334652188273316) (a := 2) (f := 255) hr hd prime_3 (by decide) (by decide) (by decide) (by decide +kernel) (by decide +kernel)⟩) (by decide +kernel) (by decide)
def PN : Nat := 57896044618658097711785492504343953926634992332820282019728792003956564819949
theorem PN_PP : (PN : Int) = PP := by decide
theorem PN_prime : Prime PN := prime_p
theorem pow_mod_int (n : Int) : ∀ k : Nat, n ^ k % PP = (n % PP) ^ k % PP
  | 0 => by simp
  | k + 1 => by
    rw [Int.pow_succ, Int.pow_succ]
    exact mod_mul (pow_mod_int n k) (by rw [Int.emod_emod_of_dvd _ (Int.dvd_refl _)])
theorem pow_same {a b : Int} (h : a % PP = b % PP) (k : Nat) : a ^ k % PP = b ^ k % PP := by rw [pow_mod_int a, pow_mod_int b, h]
theorem pow_cast (n : Int) (k : Nat) : n ^ k % PP = (((n % PP).toNat ^ k % PN : Nat) : Int) := by
  have h := modP_b n
  rw [pow_mod_int n k, Int.natCast_emod, Int.natCast_pow, Int.toNat_of_nonneg h.1, PN_PP]
theorem toNat_lt (n : Int) : (n % PP).toNat < PN := by
  have h := modP_b n
  unfold PN; omega
theorem not_dvd_of (n : Int) (h : n % PP ≠ 0) : ¬ PN ∣ (n % PP).toNat := by
  intro hd
  have h1 := modP_b n
  have h2 := toNat_lt n
  have := Nat.eq_zero_of_dvd_of_lt hd h2
  omega
theorem ferm1 (n : Int) (h : n % PP ≠ 0) : n ^ (PN - 1) % PP = 1 := by
  rw [pow_cast, fermat PN_prime _ (not_dvd_of n h)]; rfl
theorem zero_pow (n : Int) (h : n % PP = 0) (k : Nat) (hk : 0 < k) : n ^ k % PP = 0 := by
  rw [pow_mod_int, h, Int.zero_pow (by omega)]; rfl
/-- No two numbers but nought's make nought. -/
theorem mul_zero_mod {a b : Int} (h : a * b % PP = 0) : a % PP = 0 ∨ b % PP = 0 := by
  have h1 := modP_b a
  have h2 := modP_b b
  have hd : PN ∣ (a % PP).toNat * (b % PP).toNat := by
    apply Nat.dvd_of_mod_eq_zero
    have e : (((a % PP).toNat * (b % PP).toNat % PN : Nat) : Int) = a * b % PP := by
      rw [Int.natCast_emod, Int.natCast_mul, Int.toNat_of_nonneg h1.1, Int.toNat_of_nonneg h2.1, PN_PP, ← Int.mul_emod]
    rw [h] at e; omega
  rcases PN_prime.dvd_mul hd with h3 | h3
  · left
    have := Nat.eq_zero_of_dvd_of_lt h3 (toNat_lt a); omega
  · right
    have := Nat.eq_zero_of_dvd_of_lt h3 (toNat_lt b); omega
theorem exp_inv : expN (exB 255 21) 256 = PN - 2 := by decide +kernel
theorem exp_root : expN (exB 252 2) 256 = (PN + 3) / 8 := by decide +kernel
theorem exp_i : expN (exB 253 5) 256 = (PN - 1) / 4 := by decide +kernel
end Go.Proofs.YtaaipbhfikefaaaDoor.P.Fd
end

section
namespace Go.Proofs.YtaaipbhfikefaaaDoor.P.Fd
set_option linter.unusedVariables false
set_option linter.unusedSimpArgs false
open Go.RowKit Go.ChangeShapes Go.WideShapes Go.Proofs.YtaaipbhfikefaaaDoorW.PrintWords Go.Proofs.YtaaipbhfikefaaaDoorW.PrintLast Go.Proofs.YtaaipbhfikefaaaDoorW.PrintMore
attribute [local go_sem] setCell_drewN
theorem is_bool2 {f g : Nat → Int} {n m : Int} (hf : Fe f n) (hg : Fe g m) (r : Bool) (h : decide (n % PP = m % PP) = r) (w : World) : Calls Tryd.prog 36 #[.agg (FR .u64 5 f), .agg (FR .u64 5 g)] w fun e w' => e = .returned (.bool r) ∧ Below w.heap.size w w' :=
  elem_is_bool f g hf.1 hg.1 r (by rw [hf.2, hg.2]; exact h) w
theorem is_same {f g : Nat → Int} {n m : Int} (hf : Fe f n) (hg : Fe g m) (h : n % PP = m % PP) (w : World) : Calls Tryd.prog 36 #[.agg (FR .u64 5 f), .agg (FR .u64 5 g)] w fun e w' => e = .returned (.bool true) ∧ Below w.heap.size w w' :=
  is_bool2 hf hg true (decide_eq_true h) w
theorem Fe.zero : Fe (fun _ => 0) 0 := ⟨⟨fun i _ => by show 0 ≤ (0 : Int) ∧ (0 : Int) < _; omega, by show 0 ≤ (0 : Int) ∧ (0 : Int) < _; omega⟩, by decide⟩
theorem Fe.inv {f : Nat → Int} {n : Int} (hf : Fe f n) : Fe (invE f) (n ^ (PN - 2)) := by
  have h := Fe.pow hf (exB 255 21) 256
  rw [exp_inv] at h
  exact h
theorem inv_mul (n : Int) : decide (n * n ^ (PN - 2) % PP = 1 % PP) = !decide (n % PP = 0) := by
  have e : n * n ^ (PN - 2) = n ^ (PN - 1) := by
    rw [Int.mul_comm, ← Int.pow_succ]
    rfl
  rw [e]
  by_cases h : n % PP = 0
  · rw [zero_pow _ h _ (by decide)]; simp [h]; decide
  · rw [ferm1 _ h]; simp [h]; decide
end Go.Proofs.YtaaipbhfikefaaaDoor.P.Fd
end

section
namespace Go.Proofs.YtaaipbhfikefaaaDoor.P.Fd
set_option linter.unusedVariables false
set_option linter.unusedSimpArgs false
open Go.RowKit Go.ChangeShapes Go.WideShapes Go.Proofs.YtaaipbhfikefaaaDoorW.PrintWords Go.Proofs.YtaaipbhfikefaaaDoorW.PrintLast Go.Proofs.YtaaipbhfikefaaaDoorW.PrintMore
attribute [local go_sem] setCell_drewN
/-- The first try at a root. -/
def x0N (n : Int) : Int := n ^ ((PN + 3) / 8)
def sq0 (n : Int) : Bool := decide (x0N n * x0N n % PP = n % PP)
/-- The second; i: a root of what makes 1 and it nought. -/
def x1N (i n : Int) : Int := if sq0 n then x0N n else x0N n * i
def rOk (i n : Int) : Bool := decide (x1N i n * x1N i n % PP = n % PP)
def rOdd (i n : Int) : Bool := decide (x1N i n % PP % 2 = 1)
def rN (i n : Int) : Int := if rOk i n then (if rOdd i n then 0 - x1N i n else x1N i n) else 0
theorem rN_sq {i n : Int} (h : rOk i n = true) : rN i n * rN i n % PP = n % PP := by
  have h1 : x1N i n * x1N i n % PP = n % PP := of_decide_eq_true h
  unfold rN
  rw [if_pos h]
  split
  · rw [show (0 - x1N i n) * (0 - x1N i n) = x1N i n * x1N i n by grind]; exact h1
  · exact h1
theorem rN_even (i n : Int) : decide (rN i n % PP % 2 = 1) = false := by
  rw [decide_eq_false_iff_not]
  unfold rN
  split
  · split
    · rename_i h1 h2
      have h3 : x1N i n % PP % 2 = 1 := of_decide_eq_true h2
      have e : (0 - x1N i n) % PP = (0 - x1N i n % PP) % PP := by
        rw [Int.sub_emod, Int.sub_emod 0 (x1N i n % PP), Int.emod_emod_of_dvd _ (Int.dvd_refl _)]
      have hb := modP_b (x1N i n)
      rw [e]
      clear e h2
      generalize x1N i n % PP = y at *
      have e2 : (0 - y) % PP = PP - y := by
        rw [show 0 - y = (PP - y) + PP * (-1) by unfold PP; omega, Int.add_mul_emod_self_left]
        exact Int.emod_eq_of_lt (by unfold PP; omega) (by omega)
      rw [e2]
      unfold PP
      omega
    · rename_i h1 h2
      have h3 : ¬ x1N i n % PP % 2 = 1 := fun h => h2 (decide_eq_true h)
      exact h3
  · decide
theorem sub_zero_mod {a b : Int} (h : a % PP = b % PP) : (a - b) % PP = 0 := by
  rw [Int.sub_emod, h]; simp
theorem mod_of_sub {a b : Int} (h : (a - b) % PP = 0) : a % PP = b % PP := by
  have h0 : (a - b) % PP = 0 % PP := by rw [h]; rfl
  have := mod_add h0 (rfl : b % PP = b % PP)
  rw [show a - b + b = a by omega, show 0 + b = b by omega] at this
  exact this
theorem sq_same {a b : Int} (h : a * a % PP = b * b % PP) : a % PP = b % PP ∨ a % PP = (0 - b) % PP := by
  have h1 := sub_zero_mod h
  rw [show a * a - b * b = (a - b) * (a + b) by grind] at h1
  rcases mul_zero_mod h1 with h2 | h2
  · exact Or.inl (mod_of_sub h2)
  · right
    apply mod_of_sub
    rw [show a - (0 - b) = a + b by omega]; exact h2
theorem half_pow (n : Int) (h : n % PP ≠ 0) : n ^ ((PN - 1) / 2) % PP = 1 % PP ∨ n ^ ((PN - 1) / 2) % PP = (0 - 1) % PP := by
  have e : n ^ ((PN - 1) / 2) * n ^ ((PN - 1) / 2) = n ^ (PN - 1) := by
    rw [← Int.pow_add, show (PN - 1) / 2 + (PN - 1) / 2 = PN - 1 by unfold PN; omega]
  have h1 := ferm1 n h
  apply sq_same
  rw [e, h1]; rfl
/-- A square has a root. -/
theorem rOk_sq (i : Int) (hi : i * i % PP = (0 - 1) % PP) (n : Int) : rOk i (n * n) = true := by
  unfold rOk
  rw [decide_eq_true_eq]
  unfold x1N
  by_cases h0 : sq0 (n * n) = true
  · rw [if_pos h0]
    exact of_decide_eq_true h0
  · rw [if_neg h0]
    by_cases hz : n % PP = 0
    · exfalso
      apply h0
      unfold sq0
      rw [decide_eq_true_eq]
      have hz2 : n * n % PP = 0 := by rw [Int.mul_emod, hz]; rfl
      have h1 : x0N (n * n) % PP = 0 := zero_pow _ hz2 _ (by decide)
      rw [hz2, Int.mul_emod, h1]; rfl
    · have e : x0N (n * n) * x0N (n * n) = n * n * n ^ ((PN - 1) / 2) := by
        unfold x0N
        rw [← Int.pow_add, show n * n = n ^ 2 by rw [Int.pow_succ, Int.pow_succ, Int.pow_zero, Int.one_mul], ← Int.pow_mul, ← Int.pow_add, show 2 * ((PN + 3) / 8 + (PN + 3) / 8) = 2 + (PN - 1) / 2 by unfold PN; omega]
      rcases half_pow n hz with h1 | h1
      · exfalso
        apply h0
        unfold sq0
        rw [decide_eq_true_eq, e]
        have := mod_mul (rfl : n * n % PP = n * n % PP) h1
        rw [this, Int.mul_one]
      · have e2 : x0N (n * n) * i * (x0N (n * n) * i) = n * n * n ^ ((PN - 1) / 2) * (i * i) := by
          rw [← e]; grind
        rw [e2]
        have h2 := mod_mul (mod_mul (rfl : n * n % PP = n * n % PP) h1) hi
        rw [h2]
        congr 1; grind
theorem root_i (a : Nat) (ha : a = 2) : a ^ ((PN - 1) / 2) % PN = PN - 1 := by
  rw [← pm_eq PN 255 a _ (by decide)]
  subst ha
  decide +kernel
theorem iN_sq (s : Int) (hs : s = 2) : s ^ ((PN - 1) / 4) * s ^ ((PN - 1) / 4) % PP = (0 - 1) % PP := by
  rw [← Int.pow_add, show (PN - 1) / 4 + (PN - 1) / 4 = (PN - 1) / 2 by decide, pow_cast]
  have e : (s % PP).toNat = 2 := by subst hs; decide
  rw [root_i _ e]
  decide
end Go.Proofs.YtaaipbhfikefaaaDoor.P.Fd
end

section
namespace Go.Proofs.YtaaipbhfikefaaaDoorW.PrintLast
section
variable {P : Program} {ops : Array Oper} {Q : Exit → Act → World → Prop} {md : Region.Mode} {S : World → Prop} {ds : List Nat} {T : Bool × List (List Nat × List Nat)}
theorem five_of {i j k m n : Nat} {l li lj lk lm ln : Array Bool} (hT : rtab md ops = T) (h : (readyT T.2 l.toList == [i, j, k, m, n] && l.toList.set i true == li.toList && l.toList.set j true == lj.toList && l.toList.set k true == lk.toList && l.toList.set m true == lm.toList && l.toList.set n true == ln.toList) = true) : (Region.ready md ops l == [i, j, k, m, n] && l.setIfInBounds i true == li && l.setIfInBounds j true == lj && l.setIfInBounds k true == lk && l.setIfInBounds m true == lm && l.setIfInBounds n true == ln) = true := by
  simp only [Bool.and_eq_true] at h ⊢
  obtain ⟨⟨⟨⟨⟨hr, hsi⟩, hsj⟩, hsk⟩, hsm⟩, hsn⟩ := h
  subst hT
  exact ⟨⟨⟨⟨⟨by rw [ready_eq]; exact hr, set_of hsi⟩, set_of hsj⟩, set_of hsk⟩, set_of hsm⟩, set_of hsn⟩
end
end Go.Proofs.YtaaipbhfikefaaaDoorW.PrintLast
end

section
namespace Go.Proofs.YtaaipbhfikefaaaDoor.P.Fd
set_option linter.unusedVariables false
set_option linter.unusedSimpArgs false
set_option maxRecDepth 4096
open Go.RowKit Go.ChangeShapes Go.WideShapes Go.Proofs.YtaaipbhfikefaaaDoorW.PrintWords Go.Proofs.YtaaipbhfikefaaaDoorW.PrintLast Go.Proofs.YtaaipbhfikefaaaDoorW.PrintMore
attribute [local go_sem] setCell_drewN
attribute [local go_sem] setCell_drewN
/-- The end of a function whose results are a row and a slot. -/
theorem row_results2 {P : Program} {fn : Func} {p q : Tmp} {ty : TypeId} (h : fn.results = #[.cell p ty, .tmp q]) {tmps : Array Value} {w : World} {g : Nat} {k : IntKind} {n : Nat} {f : Nat → Int} {t : TypeId} {d : TypeDesc}
    (hr : Row w g k n f t) (hp : tmps.getD p undef = .pointer (some ⟨g, 0, none⟩)) (hu : P.underlying ty = some d) (hd : (match d with | .struct _ | .array _ _ => true | _ => false) = true) (hi : (P.info? ty).map (·.size) = some n) :
    (results fn tmps).run P w = .ok (.tuple #[.agg (FR k n f), tmps.getD q undef]) w := by
  have hp' : tmps[p]?.getD undef = .pointer (some ⟨g, 0, none⟩) := by simpa using hp
  simp [results, h, hp', asAddr, run_loadVar_row w g t ty _ _ d hr hu hd (by rw [FR_size]; exact hi)]
/-- The code's i. -/
def iE : Nat → Int := powE (smL 2) (exB 253 5) 256
def iR : Nat → Int := powR (carryN (fun i => if i = 0 then 2 else 0) 16) (exB 253 5) 256
def two : Int := 2
def iZ : Int := two ^ ((PN - 1) / 4)
theorem iZ_sq : iZ * iZ % PP = (0 - 1) % PP := iN_sq two rfl
theorem iE_Fe : Fe iE iZ := by
  have h := Fe.pow (show Fe (smL 2) two from Fe.small 2 (by omega)) (exB 253 5) 256
  rw [exp_i] at h
  exact h
theorem iR_Re : Re iR iZ := by
  have h := Re.pow (show Re (carryN (fun i => if i = 0 then 2 else 0) 16) two from Re.small 2 (by omega)) (exB 253 5) 256
  rw [exp_i] at h
  exact h
def x0E (f : Nat → Int) : Nat → Int := powE f (exB 252 2) 256
def x0R (g : Nat → Int) : Nat → Int := powR g (exB 252 2) 256
theorem x0E_Fe {f : Nat → Int} {n : Int} (hf : Fe f n) : Fe (x0E f) (x0N n) := by
  have h := Fe.pow hf (exB 252 2) 256
  rw [exp_root] at h
  exact h
theorem x0R_Re {g : Nat → Int} {n : Int} (hg : Re g n) : Re (x0R g) (x0N n) := by
  have h := Re.pow hg (exB 252 2) 256
  rw [exp_root] at h
  exact h
def x1E (f : Nat → Int) (n : Int) : Nat → Int := if sq0 n then x0E f else mulE (x0E f) iE
def x1R (g : Nat → Int) (n : Int) : Nat → Int := if sq0 n then x0R g else mulR (x0R g) iR
theorem x1E_Fe {f : Nat → Int} {n : Int} (hf : Fe f n) : Fe (x1E f n) (x1N iZ n) := by
  unfold x1E x1N
  split
  · exact x0E_Fe hf
  · exact (x0E_Fe hf).mul iE_Fe
theorem x1R_Re {g : Nat → Int} {n : Int} (hg : Re g n) : Re (x1R g n) (x1N iZ n) := by
  unfold x1R x1N
  split
  · exact x0R_Re hg
  · exact (x0R_Re hg).mul iR_Re
def rtE (f : Nat → Int) (n : Int) : Nat → Int := if rOk iZ n then (if rOdd iZ n then negE (x1E f n) else x1E f n) else fun _ => 0
def rtR (g : Nat → Int) (n : Int) : Nat → Int := if rOk iZ n then (if rOdd iZ n then subR (fun _ => 0) (x1R g n) else x1R g n) else fun _ => 0
theorem rtE_Fe {f : Nat → Int} {n : Int} (hf : Fe f n) : Fe (rtE f n) (rN iZ n) := by
  unfold rtE rN
  split
  · split
    · exact (x1E_Fe hf).neg
    · exact x1E_Fe hf
  · exact Fe.zero
theorem rtR_Re {g : Nat → Int} {n : Int} (hg : Re g n) : Re (rtR g n) (rN iZ n) := by
  unfold rtR rN
  split
  · split
    · exact Re.zero.sub (x1R_Re hg)
    · exact x1R_Re hg
  · exact Re.zero
theorem x1E_y {f : Nat → Int} {n : Int} (h : sq0 n = true) : x1E f n = x0E f := if_pos h
theorem x1E_n {f : Nat → Int} {n : Int} (h : sq0 n = false) : x1E f n = mulE (x0E f) iE := if_neg (by rw [h]; decide)
theorem x1R_y {f : Nat → Int} {n : Int} (h : sq0 n = true) : x1R f n = x0R f := if_pos h
theorem x1R_n {f : Nat → Int} {n : Int} (h : sq0 n = false) : x1R f n = mulR (x0R f) iR := if_neg (by rw [h]; decide)
theorem rtE_no {f : Nat → Int} {n : Int} (h : rOk iZ n = false) : rtE f n = fun _ => 0 := if_neg (by rw [h]; decide)
theorem rtE_n {f : Nat → Int} {n : Int} (h : rOk iZ n = true) (k : rOdd iZ n = false) : rtE f n = x1E f n := (if_pos h).trans (if_neg (by rw [k]; decide))
theorem rtE_y {f : Nat → Int} {n : Int} (h : rOk iZ n = true) (k : rOdd iZ n = true) : rtE f n = negE (x1E f n) := (if_pos h).trans (if_pos k)
theorem rtR_no {f : Nat → Int} {n : Int} (h : rOk iZ n = false) : rtR f n = fun _ => 0 := if_neg (by rw [h]; decide)
theorem rtR_n {f : Nat → Int} {n : Int} (h : rOk iZ n = true) (k : rOdd iZ n = false) : rtR f n = x1R f n := (if_pos h).trans (if_neg (by rw [k]; decide))
theorem rtR_y {f : Nat → Int} {n : Int} (h : rOk iZ n = true) (k : rOdd iZ n = true) : rtR f n = subR (fun _ => 0) (x1R f n) := (if_pos h).trans (if_pos k)
theorem refIs_bool {f g : Nat → Int} {n m : Int} (hf : Re f n) (hg : Re g m) (r : Bool) (h : decide (n % PP = m % PP) = r) (w : World) : Calls Tryd.prog 47 #[.agg (FR .i64 16 f), .agg (FR .i64 16 g)] w fun e w' => e = .returned (.bool r) ∧ Below w.heap.size w w' := by
  have := ref_is_calls f g w hf.1.cb hg.1.cb
  rw [hf.2, hg.2, h] at this
  exact this
theorem odd_bool {f : Nat → Int} {n : Int} (hf : Fe f n) (r : Bool) (h : decide (n % PP % 2 = 1) = r) (w : World) : Calls Tryd.prog 31 #[.agg (FR .u64 5 f)] w fun e w' => e = .returned (.bool r) ∧ Below w.heap.size w w' := by
  have := elem_odd_calls f w hf.1.c
  rw [hf.2, h] at this
  exact this
theorem refOdd_bool {g : Nat → Int} {n : Int} (hg : Re g n) (r : Bool) (h : decide (n % PP % 2 = 1) = r) (w : World) : Calls Tryd.prog 48 #[.agg (FR .i64 16 g)] w fun e w' => e = .returned (.bool r) ∧ Below w.heap.size w w' := by
  have := ref_odd_calls g w hg.1.cb
  rw [hg.2, h] at this
  exact this
theorem tab3201 : rtab .any (opsOf Tryd.f35 1) = (true, [([], []), ([], []), ([0, 1, 1], [0, 1]), ([], []), ([3, 2, 2, 0, 1, 2, 3], [2, 3])]) := by kernel_rfl
theorem bits3201 : waitsOk [([], []), ([], []), ([0, 1, 1], [0, 1]), ([], []), ([3, 2, 2, 0, 1, 2, 3], [2, 3])] [0, 0, 3, 0, 15] = true := by kernel_rfl
theorem tab3202 : rtab .any (opsOf Tryd.f35 2) = (true, [([], []), ([], []), ([0, 1], [0, 1]), ([], []), ([2, 3, 2], [2, 3]), ([4], [4])]) := by kernel_rfl
theorem bits3202 : waitsOk [([], []), ([], []), ([0, 1], [0, 1]), ([], []), ([2, 3, 2], [2, 3]), ([4], [4])] [0, 0, 3, 0, 15, 31] = true := by kernel_rfl
theorem tab3203 : rtab .any (opsOf Tryd.f35 3) = (true, [([], []), ([], []), ([1], []), ([1, 2, 2], [1, 2]), ([0, 3, 3], [0, 3]), ([4, 4, 0, 1, 2, 3, 4], [4])]) := by kernel_rfl
theorem bits3203 : waitsOk [([], []), ([], []), ([1], []), ([1, 2, 2], [1, 2]), ([0, 3, 3], [0, 3]), ([4, 4, 0, 1, 2, 3, 4], [4])] [0, 0, 2, 6, 15, 31] = true := by kernel_rfl
theorem tab3204 : rtab .any (opsOf Tryd.f35 4) = (true, [([], []), ([], []), ([0, 1], [0, 1]), ([], []), ([2, 3, 2], [2, 3]), ([4], [4])]) := by kernel_rfl
theorem bits3204 : waitsOk [([], []), ([], []), ([0, 1], [0, 1]), ([], []), ([2, 3, 2], [2, 3]), ([4], [4])] [0, 0, 3, 0, 15, 31] = true := by kernel_rfl
set_option maxHeartbeats 4000000 in
theorem rootE_calls (f : Nat → Int) (n : Int) (w : World) (hf : Fe f n) :
    Calls Tryd.prog 35 #[.agg (FR .u64 5 f)] w fun e w' => e = .returned (.tuple #[.agg (FR .u64 5 (rtE f n)), .bool (rOk iZ n)]) ∧ Below w.heap.size w w' := by
  have HF := Aside0.mk hf
  clear hf
  go_enter Tryd.func35, Tryd.ntmps35
  go_wp2_with fail
  have hh : Row (((w.alloc (.cells (FR .u64 5 f) 26)).alloc (.cells #[.int .u64 0, .int .u64 0, .int .u64 0, .int .u64 0, .int .u64 0] 26)).drew) w.heap.size .u64 5 f 26 ∧ Row (((w.alloc (.cells (FR .u64 5 f) 26)).alloc (.cells #[.int .u64 0, .int .u64 0, .int .u64 0, .int .u64 0, .int .u64 0] 26)).drew) (w.heap.size + 1) .u64 5 (fun _ => 0) 26 := ⟨(Row.new w .u64 5 f 26).alloc _, heap_alloc2_new w _ _⟩
  have HBd := Aside0.mk ((bel_two w (.cells (FR .u64 5 f) 26) (.cells #[.int .u64 0, .int .u64 0, .int .u64 0, .int .u64 0, .int .u64 0] 26)).drew)
  refine start_ (n := 5) (S := (fun w' => Row w' w.heap.size .u64 5 f 26 ∧ Row w' (w.heap.size + 1) .u64 5 (fun _ => 0) 26)) (ds := []) #[false, false, false, false, false] (by kernel_rfl) rfl rfl hh (fun hHeld => ?_); refine with_tabW tab3201 bits3201 (fun HT_ HW_ => ?_)
  generalize ((w.alloc (.cells (FR .u64 5 f) 26)).alloc (.cells #[.int .u64 0, .int .u64 0, .int .u64 0, .int .u64 0, .int .u64 0] 26)).drew = w6 at HBd hHeld hh ⊢
  clear hh
  refine take_ (i := 0) (N := some 5) (v := ?_) (a' := ?_) #[true, false, false, false, false] rfl rfl (take_ofW HT_.out HW_.out (by kernel_rfl)) (fun _ _ _ h => h) (Or.inl ⟨by rfl, ?_⟩) hHeld ?_ ?_
  rotate_left
  · intro w' hsw
    refine exec_load (x := .tmp 1) hsw.1 Tryd.underlying26 info27 rfl ?_ ?_ <;> rfl
  rotate_left
  · simp only [Act.put, List.setIfInBounds_toArray, List.set_cons_zero, List.set_cons_succ, i64_w, i32_w]
    rfl
  refine join_ (σ := Nat) 1 #[true, true, true, true, false] (fun s => [(6, .agg (FR .u8 32 (exB 252 2))), (7, .agg (FR .u64 5 (x0E f))), (4, .pointer (some ⟨s, 0, none⟩))]) (fun s w' => Row w' s .u64 5 (fun _ => 0) 26 ∧ Row w' w.heap.size .u64 5 f 26 ∧ Row w' (w.heap.size + 1) .u64 5 (fun _ => 0) 26 ∧ Below w.heap.size w w' ∧ (w.heap.size + 1) < s) ?_ ?_
  rotate_left
  ·intro hJ1_2_3
   refine join_ (σ := Unit) 2 #[true, true, true, false, false] (fun s => [(6, .agg (FR .u8 32 (exB 252 2))), (7, .agg (FR .u64 5 (x0E f)))]) (fun s w' => Row w' w.heap.size .u64 5 f 26 ∧ Row w' (w.heap.size + 1) .u64 5 (fun _ => 0) 26 ∧ Below w.heap.size w w') ?_ ?_
   rotate_left
   ·intro hJ1_2
    refine join_ (σ := Nat) 2 #[true, true, false, true, false] (fun s => [(6, .agg (FR .u8 32 (exB 252 2))), (4, .pointer (some ⟨s, 0, none⟩))]) (fun s w' => Row w' s .u64 5 (fun _ => 0) 26 ∧ Row w' w.heap.size .u64 5 f 26 ∧ Row w' (w.heap.size + 1) .u64 5 (fun _ => 0) 26 ∧ Below w.heap.size w w' ∧ (w.heap.size + 1) < s) ?_ ?_
    rotate_left
    ·intro hJ1_3
     refine join_ (σ := Unit) 3 #[true, true, false, false, false] (fun s => [(6, .agg (FR .u8 32 (exB 252 2)))]) (fun s w' => Row w' w.heap.size .u64 5 f 26 ∧ Row w' (w.heap.size + 1) .u64 5 (fun _ => 0) 26 ∧ Below w.heap.size w w') ?_ ?_
     rotate_left
     ·intro hJ1
      refine join_ (σ := Nat) 3 #[true, false, false, true, false] (fun s => [(4, .pointer (some ⟨s, 0, none⟩))]) (fun s w' => Row w' s .u64 5 (fun _ => 0) 26 ∧ Row w' w.heap.size .u64 5 f 26 ∧ Row w' (w.heap.size + 1) .u64 5 (fun _ => 0) 26 ∧ Below w.heap.size w w' ∧ (w.heap.size + 1) < s) ?_ ?_
      rotate_left
      ·intro hJ3
       refine two_ (i := 1) (j := 3) (Ni := some 6) (Nj := some 4) #[true, true, false, false, false] #[true, false, false, true, false] rfl rfl rfl rfl (by kernel_rfl) (by decide) (by decide) (fun K hK => ?_) (fun K hK => ?_)
       · skip
         refine goes_ Tryd.func53 rfl rfl #[.int .i64 252, .int .u8 2] rfl rfl rfl (by simp only [List.map_toArray, List.map_cons, List.map_nil]; rfl) ((exponent_calls 252 2 _ (by omega) (by omega)).mono ?_)
         rintro e wf1 ⟨rfl, hb⟩
         have hSn : Row wf1 w.heap.size .u64 5 f 26 ∧ Row wf1 (w.heap.size + 1) .u64 5 (fun _ => 0) 26 := ⟨hHeld.1.below hb hHeld.1.lt, hHeld.2.below hb hHeld.2.lt⟩
         have HBf := Aside0.mk (HBd.out.trans (hb.mono HBd.out.size))
         clear hb
         refine ⟨_, rfl, hK.out _ _ hSn (fun hHeld => ?_)⟩
         clear hSn hK K
         refine norm_ (a' := ?_) ?_ ?_
         rotate_left
         · show Act.put _ (some 6) _ = _
           simp only [Act.put, List.setIfInBounds_toArray, List.set_cons_zero, List.set_cons_succ, i64_w, i32_w]
           rfl
         exact norm_ (by first | (simp only [putAll, Act.put, List.setIfInBounds_toArray, List.set_cons_zero, List.set_cons_succ]; done) | (simp only [putAll, Act.put, List.setIfInBounds_toArray, List.set_cons_zero, List.set_cons_succ]; rfl)) (hJ1 () _ ⟨hHeld.1, hHeld.2, HBf.out⟩)
       · skip
         refine event_step (by rfl) (v := .pointer (some ⟨w6.heap.size, 0, none⟩)) (w1 := w6.alloc (.cells (FR .u64 5 fun _ => 0) 26)) (by first | (go_simp; done) | (go_simp; rfl)) ?_
         have hSn : Row (w6.alloc (.cells (FR .u64 5 fun _ => 0) 26)) w.heap.size .u64 5 f 26 ∧ Row (w6.alloc (.cells (FR .u64 5 fun _ => 0) 26)) (w.heap.size + 1) .u64 5 (fun _ => 0) 26 := ⟨hHeld.1.alloc _, hHeld.2.alloc _⟩
         have HBf := Aside0.mk (HBd.out.alloc HBd.out.size (.cells (FR .u64 5 fun _ => 0) 26))
         have hlo3 : (w.heap.size + 1) < w6.heap.size := hHeld.2.lt
         have HR3 := Aside0.mk (Row.new w6 .u64 5 (fun _ => 0) 26)
         generalize w6.alloc (.cells (FR .u64 5 fun _ => 0) 26) = wf2 at hSn HBf HR3 ⊢
         refine hK.out _ _ hSn (fun hHeld => ?_)
         clear hSn hK K
         refine norm_ (a' := ?_) ?_ ?_
         rotate_left
         · show Act.put _ (some 4) _ = _
           simp only [Act.put, List.setIfInBounds_toArray, List.set_cons_zero, List.set_cons_succ, i64_w, i32_w]
           rfl
         exact norm_ (by first | (simp only [putAll, Act.put, List.setIfInBounds_toArray, List.set_cons_zero, List.set_cons_succ]; done) | (simp only [putAll, Act.put, List.setIfInBounds_toArray, List.set_cons_zero, List.set_cons_succ]; rfl)) (hJ3 w6.heap.size _ ⟨HR3.out, hHeld.1, hHeld.2, HBf.out, hlo3⟩)
      ·skip
       rintro n3 wg ⟨HX3, hq0, hq1, hbj, hlo3⟩
       have HX3 := Aside0.mk HX3
       have HBj := Aside0.mk hbj
       clear hbj
       have hHeld : Row wg w.heap.size .u64 5 f 26 ∧ Row wg (w.heap.size + 1) .u64 5 (fun _ => 0) 26 := ⟨hq0, hq1⟩
       clear hq0 hq1
       refine norm_ (a' := ?_) ?_ ?_
       rotate_left
       · simp only [putAll, Act.put, List.setIfInBounds_toArray, List.set_cons_zero, List.set_cons_succ]
         rfl
       refine one_ (i := 1) (N := some 6) #[true, true, false, true, false] rfl rfl (one_of HT_.out (by kernel_rfl)) (by decide) (fun K hK => ?_)
       refine goes_ Tryd.func53 rfl rfl #[.int .i64 252, .int .u8 2] rfl rfl rfl (by simp only [List.map_toArray, List.map_cons, List.map_nil]; rfl) ((exponent_calls 252 2 _ (by omega) (by omega)).mono ?_)
       rintro e wf3 ⟨rfl, hb⟩
       have hSn : Row wf3 w.heap.size .u64 5 f 26 ∧ Row wf3 (w.heap.size + 1) .u64 5 (fun _ => 0) 26 := ⟨hHeld.1.below hb hHeld.1.lt, hHeld.2.below hb hHeld.2.lt⟩
       have HBf := Aside0.mk (HBj.out.trans (hb.mono HBj.out.size))
       have HR3 := Aside0.mk (HX3.out.below hb HX3.out.lt)
       clear hb
       refine ⟨_, rfl, hK.out _ _ hSn (fun hHeld => ?_)⟩
       clear hSn hK K
       refine norm_ (a' := ?_) ?_ ?_
       rotate_left
       · show Act.put _ (some 6) _ = _
         simp only [Act.put, List.setIfInBounds_toArray, List.set_cons_zero, List.set_cons_succ, i64_w, i32_w]
         rfl
       exact norm_ (by first | (simp only [putAll, Act.put, List.setIfInBounds_toArray, List.set_cons_zero, List.set_cons_succ]; done) | (simp only [putAll, Act.put, List.setIfInBounds_toArray, List.set_cons_zero, List.set_cons_succ]; rfl)) (hJ1_3 n3 _ ⟨HR3.out, hHeld.1, hHeld.2, HBf.out, hlo3⟩)
     ·skip
      rintro _ wg ⟨hq0, hq1, hbj⟩
      have HBj := Aside0.mk hbj
      clear hbj
      have hHeld : Row wg w.heap.size .u64 5 f 26 ∧ Row wg (w.heap.size + 1) .u64 5 (fun _ => 0) 26 := ⟨hq0, hq1⟩
      clear hq0 hq1
      refine norm_ (a' := ?_) ?_ ?_
      rotate_left
      · simp only [putAll, Act.put, List.setIfInBounds_toArray, List.set_cons_zero, List.set_cons_succ]
        rfl
      refine two_ (i := 2) (j := 3) (Ni := some 7) (Nj := some 4) #[true, true, true, false, false] #[true, true, false, true, false] rfl rfl rfl rfl (by kernel_rfl) (by decide) (by decide) (fun K hK => ?_) (fun K hK => ?_)
      · skip
        refine goes_ Tryd.func52 rfl rfl #[.agg (FR .u64 5 (f)), .agg (FR .u8 32 (exB 252 2))] rfl rfl rfl (by simp only [List.map_toArray, List.map_cons, List.map_nil]; rfl) ((pow_elem f (exB 252 2) _ HF.out.1 (exB_By _ _)).mono ?_)
        rintro e wf4 ⟨rfl, hb⟩
        have hSn : Row wf4 w.heap.size .u64 5 f 26 ∧ Row wf4 (w.heap.size + 1) .u64 5 (fun _ => 0) 26 := ⟨hHeld.1.below hb hHeld.1.lt, hHeld.2.below hb hHeld.2.lt⟩
        have HBf := Aside0.mk (HBj.out.trans (hb.mono HBj.out.size))
        clear hb
        refine ⟨_, rfl, hK.out _ _ hSn (fun hHeld => ?_)⟩
        clear hSn hK K
        refine norm_ (a' := ?_) ?_ ?_
        rotate_left
        · show Act.put _ (some 7) _ = _
          simp only [Act.put, List.setIfInBounds_toArray, List.set_cons_zero, List.set_cons_succ, i64_w, i32_w]
          rfl
        exact norm_ (by first | (simp only [putAll, Act.put, List.setIfInBounds_toArray, List.set_cons_zero, List.set_cons_succ]; done) | (simp only [putAll, Act.put, List.setIfInBounds_toArray, List.set_cons_zero, List.set_cons_succ]; rfl)) (hJ1_2 () _ ⟨hHeld.1, hHeld.2, HBf.out⟩)
      · skip
        refine event_step (by rfl) (v := .pointer (some ⟨wg.heap.size, 0, none⟩)) (w1 := wg.alloc (.cells (FR .u64 5 fun _ => 0) 26)) (by first | (go_simp; done) | (go_simp; rfl)) ?_
        have hSn : Row (wg.alloc (.cells (FR .u64 5 fun _ => 0) 26)) w.heap.size .u64 5 f 26 ∧ Row (wg.alloc (.cells (FR .u64 5 fun _ => 0) 26)) (w.heap.size + 1) .u64 5 (fun _ => 0) 26 := ⟨hHeld.1.alloc _, hHeld.2.alloc _⟩
        have HBf := Aside0.mk (HBj.out.alloc HBj.out.size (.cells (FR .u64 5 fun _ => 0) 26))
        have hlo3 : (w.heap.size + 1) < wg.heap.size := hHeld.2.lt
        have HR3 := Aside0.mk (Row.new wg .u64 5 (fun _ => 0) 26)
        generalize wg.alloc (.cells (FR .u64 5 fun _ => 0) 26) = wf5 at hSn HBf HR3 ⊢
        refine hK.out _ _ hSn (fun hHeld => ?_)
        clear hSn hK K
        refine norm_ (a' := ?_) ?_ ?_
        rotate_left
        · show Act.put _ (some 4) _ = _
          simp only [Act.put, List.setIfInBounds_toArray, List.set_cons_zero, List.set_cons_succ, i64_w, i32_w]
          rfl
        exact norm_ (by first | (simp only [putAll, Act.put, List.setIfInBounds_toArray, List.set_cons_zero, List.set_cons_succ]; done) | (simp only [putAll, Act.put, List.setIfInBounds_toArray, List.set_cons_zero, List.set_cons_succ]; rfl)) (hJ1_3 wg.heap.size _ ⟨HR3.out, hHeld.1, hHeld.2, HBf.out, hlo3⟩)
    ·skip
     rintro n3 wg ⟨HX3, hq0, hq1, hbj, hlo3⟩
     have HX3 := Aside0.mk HX3
     have HBj := Aside0.mk hbj
     clear hbj
     have hHeld : Row wg w.heap.size .u64 5 f 26 ∧ Row wg (w.heap.size + 1) .u64 5 (fun _ => 0) 26 := ⟨hq0, hq1⟩
     clear hq0 hq1
     refine norm_ (a' := ?_) ?_ ?_
     rotate_left
     · simp only [putAll, Act.put, List.setIfInBounds_toArray, List.set_cons_zero, List.set_cons_succ]
       rfl
     refine one_ (i := 2) (N := some 7) #[true, true, true, true, false] rfl rfl (one_of HT_.out (by kernel_rfl)) (by decide) (fun K hK => ?_)
     refine goes_ Tryd.func52 rfl rfl #[.agg (FR .u64 5 (f)), .agg (FR .u8 32 (exB 252 2))] rfl rfl rfl (by simp only [List.map_toArray, List.map_cons, List.map_nil]; rfl) ((pow_elem f (exB 252 2) _ HF.out.1 (exB_By _ _)).mono ?_)
     rintro e wf6 ⟨rfl, hb⟩
     have hSn : Row wf6 w.heap.size .u64 5 f 26 ∧ Row wf6 (w.heap.size + 1) .u64 5 (fun _ => 0) 26 := ⟨hHeld.1.below hb hHeld.1.lt, hHeld.2.below hb hHeld.2.lt⟩
     have HBf := Aside0.mk (HBj.out.trans (hb.mono HBj.out.size))
     have HR3 := Aside0.mk (HX3.out.below hb HX3.out.lt)
     clear hb
     refine ⟨_, rfl, hK.out _ _ hSn (fun hHeld => ?_)⟩
     clear hSn hK K
     refine norm_ (a' := ?_) ?_ ?_
     rotate_left
     · show Act.put _ (some 7) _ = _
       simp only [Act.put, List.setIfInBounds_toArray, List.set_cons_zero, List.set_cons_succ, i64_w, i32_w]
       rfl
     exact norm_ (by first | (simp only [putAll, Act.put, List.setIfInBounds_toArray, List.set_cons_zero, List.set_cons_succ]; done) | (simp only [putAll, Act.put, List.setIfInBounds_toArray, List.set_cons_zero, List.set_cons_succ]; rfl)) (hJ1_2_3 n3 _ ⟨HR3.out, hHeld.1, hHeld.2, HBf.out, hlo3⟩)
   ·skip
    rintro _ wg ⟨hq0, hq1, hbj⟩
    have HBj := Aside0.mk hbj
    clear hbj
    have hHeld : Row wg w.heap.size .u64 5 f 26 ∧ Row wg (w.heap.size + 1) .u64 5 (fun _ => 0) 26 := ⟨hq0, hq1⟩
    clear hq0 hq1
    refine norm_ (a' := ?_) ?_ ?_
    rotate_left
    · simp only [putAll, Act.put, List.setIfInBounds_toArray, List.set_cons_zero, List.set_cons_succ]
      rfl
    refine one_ (i := 3) (N := some 4) #[true, true, true, true, false] rfl rfl (one_of HT_.out (by kernel_rfl)) (by decide) (fun K hK => ?_)
    refine event_step (by rfl) (v := .pointer (some ⟨wg.heap.size, 0, none⟩)) (w1 := wg.alloc (.cells (FR .u64 5 fun _ => 0) 26)) (by first | (go_simp; done) | (go_simp; rfl)) ?_
    have hSn : Row (wg.alloc (.cells (FR .u64 5 fun _ => 0) 26)) w.heap.size .u64 5 f 26 ∧ Row (wg.alloc (.cells (FR .u64 5 fun _ => 0) 26)) (w.heap.size + 1) .u64 5 (fun _ => 0) 26 := ⟨hHeld.1.alloc _, hHeld.2.alloc _⟩
    have HBf := Aside0.mk (HBj.out.alloc HBj.out.size (.cells (FR .u64 5 fun _ => 0) 26))
    have hlo3 : (w.heap.size + 1) < wg.heap.size := hHeld.2.lt
    have HR3 := Aside0.mk (Row.new wg .u64 5 (fun _ => 0) 26)
    generalize wg.alloc (.cells (FR .u64 5 fun _ => 0) 26) = wf7 at hSn HBf HR3 ⊢
    refine hK.out _ _ hSn (fun hHeld => ?_)
    clear hSn hK K
    refine norm_ (a' := ?_) ?_ ?_
    rotate_left
    · show Act.put _ (some 4) _ = _
      simp only [Act.put, List.setIfInBounds_toArray, List.set_cons_zero, List.set_cons_succ, i64_w, i32_w]
      rfl
    exact norm_ (by first | (simp only [putAll, Act.put, List.setIfInBounds_toArray, List.set_cons_zero, List.set_cons_succ]; done) | (simp only [putAll, Act.put, List.setIfInBounds_toArray, List.set_cons_zero, List.set_cons_succ]; rfl)) (hJ1_2_3 wg.heap.size _ ⟨HR3.out, hHeld.1, hHeld.2, HBf.out, hlo3⟩)
  rintro n3 wj ⟨HX3, hq0, hq1, hbj, hlo3⟩
  have HX3 := Aside0.mk HX3
  have HBj := Aside0.mk hbj
  clear hbj
  have hHeld : Row wj w.heap.size .u64 5 f 26 ∧ Row wj (w.heap.size + 1) .u64 5 (fun _ => 0) 26 := ⟨hq0, hq1⟩
  clear hq0 hq1
  refine norm_ (a' := ?_) ?_ ?_
  rotate_left
  · simp only [putAll, Act.put, List.setIfInBounds_toArray, List.set_cons_zero, List.set_cons_succ]
    rfl
  refine one_ (i := 4) (N := none) #[true, true, true, true, true] rfl rfl (one_of HT_.out (by kernel_rfl)) (by decide) (fun K hK => ?_)
  refine oper_storeG (x0E f) HX3.out info27 rfl rfl rfl rfl rfl ?_
  intro ws8 hs hr
  have hSn : Row ws8 w.heap.size .u64 5 f 26 ∧ Row ws8 (w.heap.size + 1) .u64 5 (fun _ => 0) 26 := ⟨hHeld.1.stored hs (by omega), hHeld.2.stored hs (by omega)⟩
  have HX3 := Aside0.mk hr
  have HBs8 := Aside0.mk (hs.bel _ _ (by omega) HBj.out)
  clear hs hr
  refine hK.out _ _ hSn (fun hHeld => ?_)
  clear hSn hK K
  refine done_ (done_of HT_.out (by kernel_rfl)) ?_
  have hl0 := hHeld.1.lt
  have hl1 := hHeld.2.lt
  have HXA := Aside0.mk hHeld.1
  have HXZ := Aside0.mk hHeld.2
  clear hHeld HT_ HW_
  try go_wp2
  cases hb0 : sq0 n
  · have HBV : Aside0 (decide (x0N n * x0N n % PP = n % PP) = false) := ⟨hb0⟩
    have HB0 := Aside0.mk hb0
    have HX1 : Aside0 (x1E f n = mulE (x0E f) iE) := ⟨x1E_n hb0⟩
    clear hb0
    have hh : Row ws8.drew w.heap.size .u64 5 f 26 ∧ Row ws8.drew (w.heap.size + 1) .u64 5 (fun _ => 0) 26 ∧ Row ws8.drew n3 .u64 5 (x0E f) 26 := ⟨HXA.out, HXZ.out, HX3.out⟩
    have HBq := Aside0.mk HBs8.out.drew
    clear HXA HXZ HX3 HBs8
    refine start_ (n := 6) (S := (fun w' => Row w' w.heap.size .u64 5 f 26 ∧ Row w' (w.heap.size + 1) .u64 5 (fun _ => 0) 26 ∧ Row w' n3 .u64 5 (x0E f) 26)) (ds := []) #[false, false, false, false, false, false] (by kernel_rfl) rfl rfl hh (fun hHeld => ?_); refine with_tabW tab3202 bits3202 (fun HT_ HW_ => ?_)
    generalize ws8.drew = wq at HBq hHeld hh ⊢
    clear hh
    refine take_ (i := 0) (N := some 8) (v := ?_) (a' := ?_) #[true, false, false, false, false, false] rfl rfl (take_ofW HT_.out HW_.out (by kernel_rfl)) (fun _ _ _ h => h) (Or.inl ⟨by rfl, ?_⟩) hHeld ?_ ?_
    rotate_left
    · intro w' hsw
      refine exec_load (x := .tmp 4) hsw.2.2 Tryd.underlying26 info27 rfl ?_ ?_ <;> rfl
    rotate_left
    · simp only [Act.put, List.setIfInBounds_toArray, List.set_cons_zero, List.set_cons_succ, i64_w, i32_w]
      rfl
    refine take_ (i := 1) (N := some 9) (v := ?_) (a' := ?_) #[true, true, false, false, false, false] rfl rfl (take_ofW HT_.out HW_.out (by kernel_rfl)) (fun _ _ _ h => h) (Or.inl ⟨by rfl, ?_⟩) hHeld ?_ ?_
    rotate_left
    · intro w' hsw
      refine exec_load (x := .tmp 4) hsw.2.2 Tryd.underlying26 info27 rfl ?_ ?_ <;> rfl
    rotate_left
    · simp only [Act.put, List.setIfInBounds_toArray, List.set_cons_zero, List.set_cons_succ, i64_w, i32_w]
      rfl
    refine take_ (i := 3) (N := some 11) (v := ?_) (a' := ?_) #[true, true, false, true, false, false] rfl rfl (take_ofW HT_.out HW_.out (by kernel_rfl)) (fun _ _ _ h => h) (Or.inl ⟨by rfl, ?_⟩) hHeld ?_ ?_
    rotate_left
    · intro w' hsw
      refine exec_load (x := .tmp 1) hsw.1 Tryd.underlying26 info27 rfl ?_ ?_ <;> rfl
    rotate_left
    · simp only [Act.put, List.setIfInBounds_toArray, List.set_cons_zero, List.set_cons_succ, i64_w, i32_w]
      rfl
    refine one_ (i := 2) (N := some 10) #[true, true, true, true, false, false] rfl rfl (one_of HT_.out (by kernel_rfl)) (by decide) (fun K hK => ?_)
    refine goes_ Tryd.func29 rfl rfl #[.agg (FR .u64 5 (x0E f)), .agg (FR .u64 5 (x0E f))] rfl rfl rfl (by simp only [List.map_toArray, List.map_cons, List.map_nil]; rfl) ((elem_mul_calls _ _ _ (x0E_Fe HF.out).1 (x0E_Fe HF.out).1).mono ?_)
    rintro e wc1101 ⟨rfl, hb⟩
    have hSn : Row wc1101 w.heap.size .u64 5 f 26 ∧ Row wc1101 (w.heap.size + 1) .u64 5 (fun _ => 0) 26 ∧ Row wc1101 n3 .u64 5 (x0E f) 26 := ⟨hHeld.1.below hb hHeld.1.lt, hHeld.2.1.below hb hHeld.2.1.lt, hHeld.2.2.below hb hHeld.2.2.lt⟩
    have HBc1101 := Aside0.mk (HBq.out.trans (hb.mono HBq.out.size))
    clear hb
    refine ⟨_, rfl, hK.out _ _ hSn (fun hHeld => ?_)⟩
    clear hSn
    clear hK K
    refine norm_ (a' := ?_) ?_ ?_
    rotate_left
    · show Act.put _ (some 10) _ = _
      simp only [Act.put, List.setIfInBounds_toArray, List.set_cons_zero, List.set_cons_succ, i64_w, i32_w]
      rfl
    refine one_ (i := 4) (N := some 12) #[true, true, true, true, true, false] rfl rfl (one_of HT_.out (by kernel_rfl)) (by decide) (fun K hK => ?_)
    refine goes_ Tryd.func36 rfl rfl #[.agg (FR .u64 5 (mulE (x0E f) (x0E f))), .agg (FR .u64 5 (f))] rfl rfl rfl (by simp only [List.map_toArray, List.map_cons, List.map_nil]; rfl) ((is_bool2 ((x0E_Fe HF.out).mul (x0E_Fe HF.out)) HF.out false HBV.out _).mono ?_)
    rintro e wc1102 ⟨rfl, hb⟩
    have hSn : Row wc1102 w.heap.size .u64 5 f 26 ∧ Row wc1102 (w.heap.size + 1) .u64 5 (fun _ => 0) 26 ∧ Row wc1102 n3 .u64 5 (x0E f) 26 := ⟨hHeld.1.below hb hHeld.1.lt, hHeld.2.1.below hb hHeld.2.1.lt, hHeld.2.2.below hb hHeld.2.2.lt⟩
    have HBc1102 := Aside0.mk (HBc1101.out.trans (hb.mono HBc1101.out.size))
    clear hb
    refine ⟨_, rfl, hK.out _ _ hSn (fun hHeld => ?_)⟩
    clear hSn
    clear hK K
    refine norm_ (a' := ?_) ?_ ?_
    rotate_left
    · show Act.put _ (some 12) _ = _
      simp only [Act.put, List.setIfInBounds_toArray, List.set_cons_zero, List.set_cons_succ, i64_w, i32_w]
      rfl
    refine pure_ (i := 5) (N := some 13) (v := ?_) (a' := ?_) #[true, true, true, true, true, true] rfl rfl (any_of HT_.out (by kernel_rfl)) (fun _ _ _ h => h) (Or.inl ⟨by rfl, ?_⟩) ?_ ?_
    rotate_left
    · intro w'
      go_simp
      with_reducible rfl
    rotate_left
    · simp only [Act.put, List.setIfInBounds_toArray, List.set_cons_zero, List.set_cons_succ, i64_w, i32_w]
      rfl
    refine done_ (done_of HT_.out (by kernel_rfl)) ?_
    have HXA := Aside0.mk hHeld.1
    have HXZ := Aside0.mk hHeld.2.1
    have HX3 := Aside0.mk hHeld.2.2
    have hl3 := HX3.out.lt
    clear hHeld HT_ HW_ HBV
    go_wp2_with fail
    have hh : Row wc1102.drew w.heap.size .u64 5 f 26 ∧ Row wc1102.drew (w.heap.size + 1) .u64 5 (fun _ => 0) 26 ∧ Row wc1102.drew n3 .u64 5 (x0E f) 26 := ⟨HXA.out, HXZ.out, HX3.out⟩
    have HBs := Aside0.mk HBc1102.out.drew
    clear HXA HXZ HX3 HBc1102
    refine start_ (n := 6) (S := (fun w' => Row w' w.heap.size .u64 5 f 26 ∧ Row w' (w.heap.size + 1) .u64 5 (fun _ => 0) 26 ∧ Row w' n3 .u64 5 (x0E f) 26)) (ds := [5]) #[false, false, false, false, false, false] (by kernel_rfl) rfl rfl hh (fun hHeld => ?_); refine with_tabW tab3203 bits3203 (fun HT_ HW_ => ?_)
    generalize wc1102.drew = w8 at HBs hHeld hh ⊢
    clear hh
    refine take_ (i := 0) (N := some 14) (v := ?_) (a' := ?_) #[true, false, false, false, false, false] rfl rfl (take_ofW HT_.out HW_.out (by kernel_rfl)) (fun _ _ _ h => h) (Or.inl ⟨by rfl, ?_⟩) hHeld ?_ ?_
    rotate_left
    · intro w' hsw
      refine exec_load (x := .tmp 4) hsw.2.2 Tryd.underlying26 info27 rfl ?_ ?_ <;> rfl
    rotate_left
    · simp only [Act.put, List.setIfInBounds_toArray, List.set_cons_zero, List.set_cons_succ, i64_w, i32_w]
      rfl
    refine one_ (i := 1) (N := some 15) #[true, true, false, false, false, false] rfl rfl (one_of HT_.out (by kernel_rfl)) (by decide) (fun K hK => ?_)
    refine goes_ Tryd.func27 rfl rfl #[.int .u32 2] rfl rfl rfl (by simp only [List.map_toArray, List.map_cons, List.map_nil]; rfl) ((small_elem_calls 2 _ (by omega)).mono ?_)
    rintro e wc2001 ⟨rfl, hb⟩
    have hSn : Row wc2001 w.heap.size .u64 5 f 26 ∧ Row wc2001 (w.heap.size + 1) .u64 5 (fun _ => 0) 26 ∧ Row wc2001 n3 .u64 5 (x0E f) 26 := ⟨hHeld.1.below hb hHeld.1.lt, hHeld.2.1.below hb hHeld.2.1.lt, hHeld.2.2.below hb hHeld.2.2.lt⟩
    have HBc2001 := Aside0.mk (HBs.out.trans (hb.mono HBs.out.size))
    clear hb
    refine ⟨_, rfl, hK.out _ _ hSn (fun hHeld => ?_)⟩
    clear hSn
    clear hK K
    refine norm_ (a' := ?_) ?_ ?_
    rotate_left
    · show Act.put _ (some 15) _ = _
      simp only [Act.put, List.setIfInBounds_toArray, List.set_cons_zero, List.set_cons_succ, i64_w, i32_w]
      rfl
    refine one_ (i := 2) (N := some 16) #[true, true, true, false, false, false] rfl rfl (one_of HT_.out (by kernel_rfl)) (by decide) (fun K hK => ?_)
    refine goes_ Tryd.func53 rfl rfl #[.int .i64 253, .int .u8 5] rfl rfl rfl (by simp only [List.map_toArray, List.map_cons, List.map_nil]; rfl) ((exponent_calls 253 5 _ (by omega) (by omega)).mono ?_)
    rintro e wc2002 ⟨rfl, hb⟩
    have hSn : Row wc2002 w.heap.size .u64 5 f 26 ∧ Row wc2002 (w.heap.size + 1) .u64 5 (fun _ => 0) 26 ∧ Row wc2002 n3 .u64 5 (x0E f) 26 := ⟨hHeld.1.below hb hHeld.1.lt, hHeld.2.1.below hb hHeld.2.1.lt, hHeld.2.2.below hb hHeld.2.2.lt⟩
    have HBc2002 := Aside0.mk (HBc2001.out.trans (hb.mono HBc2001.out.size))
    clear hb
    refine ⟨_, rfl, hK.out _ _ hSn (fun hHeld => ?_)⟩
    clear hSn
    clear hK K
    refine norm_ (a' := ?_) ?_ ?_
    rotate_left
    · show Act.put _ (some 16) _ = _
      simp only [Act.put, List.setIfInBounds_toArray, List.set_cons_zero, List.set_cons_succ, i64_w, i32_w]
      rfl
    refine one_ (i := 3) (N := some 17) #[true, true, true, true, false, false] rfl rfl (one_of HT_.out (by kernel_rfl)) (by decide) (fun K hK => ?_)
    refine goes_ Tryd.func52 rfl rfl #[.agg (FR .u64 5 (smL 2)), .agg (FR .u8 32 (exB 253 5))] rfl rfl rfl (by simp only [List.map_toArray, List.map_cons, List.map_nil]; rfl) ((pow_elem (smL 2) (exB 253 5) _ (Fe.small 2 (by omega)).1 (exB_By _ _)).mono ?_)
    rintro e wc2003 ⟨rfl, hb⟩
    have hSn : Row wc2003 w.heap.size .u64 5 f 26 ∧ Row wc2003 (w.heap.size + 1) .u64 5 (fun _ => 0) 26 ∧ Row wc2003 n3 .u64 5 (x0E f) 26 := ⟨hHeld.1.below hb hHeld.1.lt, hHeld.2.1.below hb hHeld.2.1.lt, hHeld.2.2.below hb hHeld.2.2.lt⟩
    have HBc2003 := Aside0.mk (HBc2002.out.trans (hb.mono HBc2002.out.size))
    clear hb
    refine ⟨_, rfl, hK.out _ _ hSn (fun hHeld => ?_)⟩
    clear hSn
    clear hK K
    refine norm_ (a' := ?_) ?_ ?_
    rotate_left
    · show Act.put _ (some 17) _ = _
      simp only [Act.put, List.setIfInBounds_toArray, List.set_cons_zero, List.set_cons_succ, i64_w, i32_w]
      rfl
    refine one_ (i := 4) (N := some 18) #[true, true, true, true, true, false] rfl rfl (one_of HT_.out (by kernel_rfl)) (by decide) (fun K hK => ?_)
    refine goes_ Tryd.func29 rfl rfl #[.agg (FR .u64 5 (x0E f)), .agg (FR .u64 5 (iE))] rfl rfl rfl (by simp only [List.map_toArray, List.map_cons, List.map_nil]; rfl) ((elem_mul_calls _ _ _ (x0E_Fe HF.out).1 iE_Fe.1).mono ?_)
    rintro e wc2004 ⟨rfl, hb⟩
    have hSn : Row wc2004 w.heap.size .u64 5 f 26 ∧ Row wc2004 (w.heap.size + 1) .u64 5 (fun _ => 0) 26 ∧ Row wc2004 n3 .u64 5 (x0E f) 26 := ⟨hHeld.1.below hb hHeld.1.lt, hHeld.2.1.below hb hHeld.2.1.lt, hHeld.2.2.below hb hHeld.2.2.lt⟩
    have HBc2004 := Aside0.mk (HBc2003.out.trans (hb.mono HBc2003.out.size))
    clear hb
    refine ⟨_, rfl, hK.out _ _ hSn (fun hHeld => ?_)⟩
    clear hSn
    clear hK K
    refine norm_ (a' := ?_) ?_ ?_
    rotate_left
    · show Act.put _ (some 18) _ = _
      simp only [Act.put, List.setIfInBounds_toArray, List.set_cons_zero, List.set_cons_succ, i64_w, i32_w]
      rfl
    refine last_ (i := 5) (N := none) #[true, true, true, true, true, true] rfl rfl (one_of HT_.out (by kernel_rfl)) (by decide) (fun K hK => ?_)
    refine oper_storeG (mulE (x0E f) iE) hHeld.2.2 info27 rfl rfl rfl rfl rfl ?_
    intro wk hs hr
    have HX3 : Aside0 (Row wk n3 .u64 5 (x1E f n) 26) := ⟨by rw [HX1.out]; exact hr⟩
    have HXA := Aside0.mk (hHeld.1.stored hs (by omega))
    have HXZ := Aside0.mk (hHeld.2.1.stored hs (by omega))
    have HBk := Aside0.mk (hs.bel _ _ (by omega) HBc2004.out)
    have hHc := hHeld
    clear hs hr
    refine hK.out _ _ ?_
    clear hK K
    refine done_ (done_of HT_.out (by kernel_rfl)) ?_
    try go_wp2
    clear hHeld HT_ HW_
    cases hb1 : rOk iZ n
    · have HBV : Aside0 (decide (x1N iZ n * x1N iZ n % PP = n % PP) = false) := ⟨hb1⟩
      have HB1 := Aside0.mk hb1
      clear hb1
      have hh : Row wk.drew w.heap.size .u64 5 f 26 ∧ Row wk.drew (w.heap.size + 1) .u64 5 (fun _ => 0) 26 ∧ Row wk.drew n3 .u64 5 (x1E f n) 26 := ⟨HXA.out, HXZ.out, HX3.out⟩
      have HBq := Aside0.mk HBk.out.drew
      clear HXA HXZ HX3 HBk
      refine start_ (n := 6) (S := (fun w' => Row w' w.heap.size .u64 5 f 26 ∧ Row w' (w.heap.size + 1) .u64 5 (fun _ => 0) 26 ∧ Row w' n3 .u64 5 (x1E f n) 26)) (ds := []) #[false, false, false, false, false, false] (by kernel_rfl) rfl rfl hh (fun hHeld => ?_); refine with_tabW tab3204 bits3204 (fun HT_ HW_ => ?_)
      generalize wk.drew = wq at HBq hHeld hh ⊢
      clear hh
      refine take_ (i := 0) (N := some 19) (v := ?_) (a' := ?_) #[true, false, false, false, false, false] rfl rfl (take_ofW HT_.out HW_.out (by kernel_rfl)) (fun _ _ _ h => h) (Or.inl ⟨by rfl, ?_⟩) hHeld ?_ ?_
      rotate_left
      · intro w' hsw
        refine exec_load (x := .tmp 4) hsw.2.2 Tryd.underlying26 info27 rfl ?_ ?_ <;> rfl
      rotate_left
      · simp only [Act.put, List.setIfInBounds_toArray, List.set_cons_zero, List.set_cons_succ, i64_w, i32_w]
        rfl
      refine take_ (i := 1) (N := some 20) (v := ?_) (a' := ?_) #[true, true, false, false, false, false] rfl rfl (take_ofW HT_.out HW_.out (by kernel_rfl)) (fun _ _ _ h => h) (Or.inl ⟨by rfl, ?_⟩) hHeld ?_ ?_
      rotate_left
      · intro w' hsw
        refine exec_load (x := .tmp 4) hsw.2.2 Tryd.underlying26 info27 rfl ?_ ?_ <;> rfl
      rotate_left
      · simp only [Act.put, List.setIfInBounds_toArray, List.set_cons_zero, List.set_cons_succ, i64_w, i32_w]
        rfl
      refine take_ (i := 3) (N := some 22) (v := ?_) (a' := ?_) #[true, true, false, true, false, false] rfl rfl (take_ofW HT_.out HW_.out (by kernel_rfl)) (fun _ _ _ h => h) (Or.inl ⟨by rfl, ?_⟩) hHeld ?_ ?_
      rotate_left
      · intro w' hsw
        refine exec_load (x := .tmp 1) hsw.1 Tryd.underlying26 info27 rfl ?_ ?_ <;> rfl
      rotate_left
      · simp only [Act.put, List.setIfInBounds_toArray, List.set_cons_zero, List.set_cons_succ, i64_w, i32_w]
        rfl
      refine one_ (i := 2) (N := some 21) #[true, true, true, true, false, false] rfl rfl (one_of HT_.out (by kernel_rfl)) (by decide) (fun K hK => ?_)
      refine goes_ Tryd.func29 rfl rfl #[.agg (FR .u64 5 (x1E f n)), .agg (FR .u64 5 (x1E f n))] rfl rfl rfl (by simp only [List.map_toArray, List.map_cons, List.map_nil]; rfl) ((elem_mul_calls _ _ _ (x1E_Fe HF.out).1 (x1E_Fe HF.out).1).mono ?_)
      rintro e wc1801 ⟨rfl, hb⟩
      have hSn : Row wc1801 w.heap.size .u64 5 f 26 ∧ Row wc1801 (w.heap.size + 1) .u64 5 (fun _ => 0) 26 ∧ Row wc1801 n3 .u64 5 (x1E f n) 26 := ⟨hHeld.1.below hb hHeld.1.lt, hHeld.2.1.below hb hHeld.2.1.lt, hHeld.2.2.below hb hHeld.2.2.lt⟩
      have HBc1801 := Aside0.mk (HBq.out.trans (hb.mono HBq.out.size))
      clear hb
      refine ⟨_, rfl, hK.out _ _ hSn (fun hHeld => ?_)⟩
      clear hSn
      clear hK K
      refine norm_ (a' := ?_) ?_ ?_
      rotate_left
      · show Act.put _ (some 21) _ = _
        simp only [Act.put, List.setIfInBounds_toArray, List.set_cons_zero, List.set_cons_succ, i64_w, i32_w]
        rfl
      refine one_ (i := 4) (N := some 23) #[true, true, true, true, true, false] rfl rfl (one_of HT_.out (by kernel_rfl)) (by decide) (fun K hK => ?_)
      refine goes_ Tryd.func36 rfl rfl #[.agg (FR .u64 5 (mulE (x1E f n) (x1E f n))), .agg (FR .u64 5 (f))] rfl rfl rfl (by simp only [List.map_toArray, List.map_cons, List.map_nil]; rfl) ((is_bool2 ((x1E_Fe HF.out).mul (x1E_Fe HF.out)) HF.out false HBV.out _).mono ?_)
      rintro e wc1802 ⟨rfl, hb⟩
      have hSn : Row wc1802 w.heap.size .u64 5 f 26 ∧ Row wc1802 (w.heap.size + 1) .u64 5 (fun _ => 0) 26 ∧ Row wc1802 n3 .u64 5 (x1E f n) 26 := ⟨hHeld.1.below hb hHeld.1.lt, hHeld.2.1.below hb hHeld.2.1.lt, hHeld.2.2.below hb hHeld.2.2.lt⟩
      have HBc1802 := Aside0.mk (HBc1801.out.trans (hb.mono HBc1801.out.size))
      clear hb
      refine ⟨_, rfl, hK.out _ _ hSn (fun hHeld => ?_)⟩
      clear hSn
      clear hK K
      refine norm_ (a' := ?_) ?_ ?_
      rotate_left
      · show Act.put _ (some 23) _ = _
        simp only [Act.put, List.setIfInBounds_toArray, List.set_cons_zero, List.set_cons_succ, i64_w, i32_w]
        rfl
      refine pure_ (i := 5) (N := some 24) (v := ?_) (a' := ?_) #[true, true, true, true, true, true] rfl rfl (any_of HT_.out (by kernel_rfl)) (fun _ _ _ h => h) (Or.inl ⟨by rfl, ?_⟩) ?_ ?_
      rotate_left
      · intro w'
        go_simp
        with_reducible rfl
      rotate_left
      · simp only [Act.put, List.setIfInBounds_toArray, List.set_cons_zero, List.set_cons_succ, i64_w, i32_w]
        rfl
      refine done_ (done_of HT_.out (by kernel_rfl)) ?_
      have HXA := Aside0.mk hHeld.1
      have HXZ := Aside0.mk hHeld.2.1
      have HX3 := Aside0.mk hHeld.2.2
      have hl3 := HX3.out.lt
      clear hHeld HT_ HW_ HBV
      go_wp2_with (refine step_storeG (fun _ => 0) HXZ.out info27 rfl rfl rfl rfl rfl ?_; intro wz hs hr; have HSz := Aside0.mk hs; have HRz := Aside0.mk hr; clear hs hr)
      refine bodyPost_ret (row_results2 rfl HRz.out rfl Tryd.underlying26 rfl info27) rfl ?_
      refine ⟨?_, HSz.out.bel _ _ (by omega) HBc1802.out⟩
      rw [rtE_no HB1.out, HB1.out]
      rfl
    · have HBV : Aside0 (decide (x1N iZ n * x1N iZ n % PP = n % PP) = true) := ⟨hb1⟩
      have HB1 := Aside0.mk hb1
      clear hb1
      have hh : Row wk.drew w.heap.size .u64 5 f 26 ∧ Row wk.drew (w.heap.size + 1) .u64 5 (fun _ => 0) 26 ∧ Row wk.drew n3 .u64 5 (x1E f n) 26 := ⟨HXA.out, HXZ.out, HX3.out⟩
      have HBq := Aside0.mk HBk.out.drew
      clear HXA HXZ HX3 HBk
      refine start_ (n := 6) (S := (fun w' => Row w' w.heap.size .u64 5 f 26 ∧ Row w' (w.heap.size + 1) .u64 5 (fun _ => 0) 26 ∧ Row w' n3 .u64 5 (x1E f n) 26)) (ds := []) #[false, false, false, false, false, false] (by kernel_rfl) rfl rfl hh (fun hHeld => ?_); refine with_tabW tab3204 bits3204 (fun HT_ HW_ => ?_)
      generalize wk.drew = wq at HBq hHeld hh ⊢
      clear hh
      refine take_ (i := 0) (N := some 19) (v := ?_) (a' := ?_) #[true, false, false, false, false, false] rfl rfl (take_ofW HT_.out HW_.out (by kernel_rfl)) (fun _ _ _ h => h) (Or.inl ⟨by rfl, ?_⟩) hHeld ?_ ?_
      rotate_left
      · intro w' hsw
        refine exec_load (x := .tmp 4) hsw.2.2 Tryd.underlying26 info27 rfl ?_ ?_ <;> rfl
      rotate_left
      · simp only [Act.put, List.setIfInBounds_toArray, List.set_cons_zero, List.set_cons_succ, i64_w, i32_w]
        rfl
      refine take_ (i := 1) (N := some 20) (v := ?_) (a' := ?_) #[true, true, false, false, false, false] rfl rfl (take_ofW HT_.out HW_.out (by kernel_rfl)) (fun _ _ _ h => h) (Or.inl ⟨by rfl, ?_⟩) hHeld ?_ ?_
      rotate_left
      · intro w' hsw
        refine exec_load (x := .tmp 4) hsw.2.2 Tryd.underlying26 info27 rfl ?_ ?_ <;> rfl
      rotate_left
      · simp only [Act.put, List.setIfInBounds_toArray, List.set_cons_zero, List.set_cons_succ, i64_w, i32_w]
        rfl
      refine take_ (i := 3) (N := some 22) (v := ?_) (a' := ?_) #[true, true, false, true, false, false] rfl rfl (take_ofW HT_.out HW_.out (by kernel_rfl)) (fun _ _ _ h => h) (Or.inl ⟨by rfl, ?_⟩) hHeld ?_ ?_
      rotate_left
      · intro w' hsw
        refine exec_load (x := .tmp 1) hsw.1 Tryd.underlying26 info27 rfl ?_ ?_ <;> rfl
      rotate_left
      · simp only [Act.put, List.setIfInBounds_toArray, List.set_cons_zero, List.set_cons_succ, i64_w, i32_w]
        rfl
      refine one_ (i := 2) (N := some 21) #[true, true, true, true, false, false] rfl rfl (one_of HT_.out (by kernel_rfl)) (by decide) (fun K hK => ?_)
      refine goes_ Tryd.func29 rfl rfl #[.agg (FR .u64 5 (x1E f n)), .agg (FR .u64 5 (x1E f n))] rfl rfl rfl (by simp only [List.map_toArray, List.map_cons, List.map_nil]; rfl) ((elem_mul_calls _ _ _ (x1E_Fe HF.out).1 (x1E_Fe HF.out).1).mono ?_)
      rintro e wc1821 ⟨rfl, hb⟩
      have hSn : Row wc1821 w.heap.size .u64 5 f 26 ∧ Row wc1821 (w.heap.size + 1) .u64 5 (fun _ => 0) 26 ∧ Row wc1821 n3 .u64 5 (x1E f n) 26 := ⟨hHeld.1.below hb hHeld.1.lt, hHeld.2.1.below hb hHeld.2.1.lt, hHeld.2.2.below hb hHeld.2.2.lt⟩
      have HBc1821 := Aside0.mk (HBq.out.trans (hb.mono HBq.out.size))
      clear hb
      refine ⟨_, rfl, hK.out _ _ hSn (fun hHeld => ?_)⟩
      clear hSn
      clear hK K
      refine norm_ (a' := ?_) ?_ ?_
      rotate_left
      · show Act.put _ (some 21) _ = _
        simp only [Act.put, List.setIfInBounds_toArray, List.set_cons_zero, List.set_cons_succ, i64_w, i32_w]
        rfl
      refine one_ (i := 4) (N := some 23) #[true, true, true, true, true, false] rfl rfl (one_of HT_.out (by kernel_rfl)) (by decide) (fun K hK => ?_)
      refine goes_ Tryd.func36 rfl rfl #[.agg (FR .u64 5 (mulE (x1E f n) (x1E f n))), .agg (FR .u64 5 (f))] rfl rfl rfl (by simp only [List.map_toArray, List.map_cons, List.map_nil]; rfl) ((is_bool2 ((x1E_Fe HF.out).mul (x1E_Fe HF.out)) HF.out true HBV.out _).mono ?_)
      rintro e wc1822 ⟨rfl, hb⟩
      have hSn : Row wc1822 w.heap.size .u64 5 f 26 ∧ Row wc1822 (w.heap.size + 1) .u64 5 (fun _ => 0) 26 ∧ Row wc1822 n3 .u64 5 (x1E f n) 26 := ⟨hHeld.1.below hb hHeld.1.lt, hHeld.2.1.below hb hHeld.2.1.lt, hHeld.2.2.below hb hHeld.2.2.lt⟩
      have HBc1822 := Aside0.mk (HBc1821.out.trans (hb.mono HBc1821.out.size))
      clear hb
      refine ⟨_, rfl, hK.out _ _ hSn (fun hHeld => ?_)⟩
      clear hSn
      clear hK K
      refine norm_ (a' := ?_) ?_ ?_
      rotate_left
      · show Act.put _ (some 23) _ = _
        simp only [Act.put, List.setIfInBounds_toArray, List.set_cons_zero, List.set_cons_succ, i64_w, i32_w]
        rfl
      refine pure_ (i := 5) (N := some 24) (v := ?_) (a' := ?_) #[true, true, true, true, true, true] rfl rfl (any_of HT_.out (by kernel_rfl)) (fun _ _ _ h => h) (Or.inl ⟨by rfl, ?_⟩) ?_ ?_
      rotate_left
      · intro w'
        go_simp
        with_reducible rfl
      rotate_left
      · simp only [Act.put, List.setIfInBounds_toArray, List.set_cons_zero, List.set_cons_succ, i64_w, i32_w]
        rfl
      refine done_ (done_of HT_.out (by kernel_rfl)) ?_
      have HXA := Aside0.mk hHeld.1
      have HXZ := Aside0.mk hHeld.2.1
      have HX3 := Aside0.mk hHeld.2.2
      have hl3 := HX3.out.lt
      clear hHeld HT_ HW_ HBV
      go_wp2_with (refine step_load HX3.out Tryd.underlying26 info27 rfl rfl rfl rfl ?_)
      cases hod : rOdd iZ n
      · refine (odd_bool (x1E_Fe HF.out) false hod _).mono ?_
        rintro e wo ⟨rfl, hb⟩
        have HXZ2 := Aside0.mk (HXZ.out.below hb HXZ.out.lt)
        have HX32 := Aside0.mk (HX3.out.below hb HX3.out.lt)
        have HBo := Aside0.mk (HBc1822.out.trans (hb.mono HBc1822.out.size))
        have HOD := Aside0.mk hod
        have hlz2 := HXZ2.out.lt
        clear hb hod
        go_wp2_with (first | refine step_load HX32.out Tryd.underlying26 info27 rfl rfl rfl rfl ?_ | (refine step_storeG (x1E f n) HXZ2.out info27 rfl rfl rfl rfl rfl ?_; intro wz hs hr; have HSz := Aside0.mk hs; have HRz := Aside0.mk hr; clear hs hr))
        refine bodyPost_ret (row_results2 rfl HRz.out rfl Tryd.underlying26 rfl info27) rfl ?_
        refine ⟨?_, HSz.out.bel _ _ (by omega) HBo.out⟩
        rw [rtE_n HB1.out HOD.out, HB1.out]
        rfl
      · refine (odd_bool (x1E_Fe HF.out) true hod _).mono ?_
        rintro e wo ⟨rfl, hb⟩
        have HXZ2 := Aside0.mk (HXZ.out.below hb HXZ.out.lt)
        have HX32 := Aside0.mk (HX3.out.below hb HX3.out.lt)
        have HBo := Aside0.mk (HBc1822.out.trans (hb.mono HBc1822.out.size))
        have HOD := Aside0.mk hod
        have hlz2 := HXZ2.out.lt
        clear hb hod
        go_wp2_with (refine step_load HX32.out Tryd.underlying26 info27 rfl rfl rfl rfl ?_)
        refine (negE_c _ _ (x1E_Fe HF.out).1).mono ?_
        rintro e wn ⟨rfl, hb⟩
        have HXZ3 := Aside0.mk (HXZ2.out.below hb HXZ2.out.lt)
        have HX33 := Aside0.mk (HX32.out.below hb HX32.out.lt)
        have HBn := Aside0.mk (HBo.out.trans (hb.mono HBo.out.size))
        clear hb
        go_wp2_with (first | (refine step_storeG (negE (x1E f n)) HX33.out info27 rfl rfl rfl rfl rfl ?_; intro wy hs hr; have HBy := Aside0.mk (hs.bel _ _ (show w.heap.size ≤ n3 by omega) HBn.out); have HX34 := Aside0.mk hr; have HXZ4 := Aside0.mk (HXZ3.out.stored hs (by omega)); clear hs hr) | refine step_load HX34.out Tryd.underlying26 info27 rfl rfl rfl rfl ?_ | (refine step_storeG (negE (x1E f n)) HXZ4.out info27 rfl rfl rfl rfl rfl ?_; intro wz hs hr; have HSz := Aside0.mk hs; have HRz := Aside0.mk hr; clear hs hr))
        refine bodyPost_ret (row_results2 rfl HRz.out rfl Tryd.underlying26 rfl info27) rfl ?_
        refine ⟨?_, HSz.out.bel _ _ (by omega) HBy.out⟩
        rw [rtE_y HB1.out HOD.out, HB1.out]
        rfl
  · have HBV : Aside0 (decide (x0N n * x0N n % PP = n % PP) = true) := ⟨hb0⟩
    have HB0 := Aside0.mk hb0
    have HX1 : Aside0 (x1E f n = x0E f) := ⟨x1E_y hb0⟩
    clear hb0
    have hh : Row ws8.drew w.heap.size .u64 5 f 26 ∧ Row ws8.drew (w.heap.size + 1) .u64 5 (fun _ => 0) 26 ∧ Row ws8.drew n3 .u64 5 (x0E f) 26 := ⟨HXA.out, HXZ.out, HX3.out⟩
    have HBq := Aside0.mk HBs8.out.drew
    clear HXA HXZ HX3 HBs8
    refine start_ (n := 6) (S := (fun w' => Row w' w.heap.size .u64 5 f 26 ∧ Row w' (w.heap.size + 1) .u64 5 (fun _ => 0) 26 ∧ Row w' n3 .u64 5 (x0E f) 26)) (ds := []) #[false, false, false, false, false, false] (by kernel_rfl) rfl rfl hh (fun hHeld => ?_); refine with_tabW tab3202 bits3202 (fun HT_ HW_ => ?_)
    generalize ws8.drew = wq at HBq hHeld hh ⊢
    clear hh
    refine take_ (i := 0) (N := some 8) (v := ?_) (a' := ?_) #[true, false, false, false, false, false] rfl rfl (take_ofW HT_.out HW_.out (by kernel_rfl)) (fun _ _ _ h => h) (Or.inl ⟨by rfl, ?_⟩) hHeld ?_ ?_
    rotate_left
    · intro w' hsw
      refine exec_load (x := .tmp 4) hsw.2.2 Tryd.underlying26 info27 rfl ?_ ?_ <;> rfl
    rotate_left
    · simp only [Act.put, List.setIfInBounds_toArray, List.set_cons_zero, List.set_cons_succ, i64_w, i32_w]
      rfl
    refine take_ (i := 1) (N := some 9) (v := ?_) (a' := ?_) #[true, true, false, false, false, false] rfl rfl (take_ofW HT_.out HW_.out (by kernel_rfl)) (fun _ _ _ h => h) (Or.inl ⟨by rfl, ?_⟩) hHeld ?_ ?_
    rotate_left
    · intro w' hsw
      refine exec_load (x := .tmp 4) hsw.2.2 Tryd.underlying26 info27 rfl ?_ ?_ <;> rfl
    rotate_left
    · simp only [Act.put, List.setIfInBounds_toArray, List.set_cons_zero, List.set_cons_succ, i64_w, i32_w]
      rfl
    refine take_ (i := 3) (N := some 11) (v := ?_) (a' := ?_) #[true, true, false, true, false, false] rfl rfl (take_ofW HT_.out HW_.out (by kernel_rfl)) (fun _ _ _ h => h) (Or.inl ⟨by rfl, ?_⟩) hHeld ?_ ?_
    rotate_left
    · intro w' hsw
      refine exec_load (x := .tmp 1) hsw.1 Tryd.underlying26 info27 rfl ?_ ?_ <;> rfl
    rotate_left
    · simp only [Act.put, List.setIfInBounds_toArray, List.set_cons_zero, List.set_cons_succ, i64_w, i32_w]
      rfl
    refine one_ (i := 2) (N := some 10) #[true, true, true, true, false, false] rfl rfl (one_of HT_.out (by kernel_rfl)) (by decide) (fun K hK => ?_)
    refine goes_ Tryd.func29 rfl rfl #[.agg (FR .u64 5 (x0E f)), .agg (FR .u64 5 (x0E f))] rfl rfl rfl (by simp only [List.map_toArray, List.map_cons, List.map_nil]; rfl) ((elem_mul_calls _ _ _ (x0E_Fe HF.out).1 (x0E_Fe HF.out).1).mono ?_)
    rintro e wc1001 ⟨rfl, hb⟩
    have hSn : Row wc1001 w.heap.size .u64 5 f 26 ∧ Row wc1001 (w.heap.size + 1) .u64 5 (fun _ => 0) 26 ∧ Row wc1001 n3 .u64 5 (x0E f) 26 := ⟨hHeld.1.below hb hHeld.1.lt, hHeld.2.1.below hb hHeld.2.1.lt, hHeld.2.2.below hb hHeld.2.2.lt⟩
    have HBc1001 := Aside0.mk (HBq.out.trans (hb.mono HBq.out.size))
    clear hb
    refine ⟨_, rfl, hK.out _ _ hSn (fun hHeld => ?_)⟩
    clear hSn
    clear hK K
    refine norm_ (a' := ?_) ?_ ?_
    rotate_left
    · show Act.put _ (some 10) _ = _
      simp only [Act.put, List.setIfInBounds_toArray, List.set_cons_zero, List.set_cons_succ, i64_w, i32_w]
      rfl
    refine one_ (i := 4) (N := some 12) #[true, true, true, true, true, false] rfl rfl (one_of HT_.out (by kernel_rfl)) (by decide) (fun K hK => ?_)
    refine goes_ Tryd.func36 rfl rfl #[.agg (FR .u64 5 (mulE (x0E f) (x0E f))), .agg (FR .u64 5 (f))] rfl rfl rfl (by simp only [List.map_toArray, List.map_cons, List.map_nil]; rfl) ((is_bool2 ((x0E_Fe HF.out).mul (x0E_Fe HF.out)) HF.out true HBV.out _).mono ?_)
    rintro e wc1002 ⟨rfl, hb⟩
    have hSn : Row wc1002 w.heap.size .u64 5 f 26 ∧ Row wc1002 (w.heap.size + 1) .u64 5 (fun _ => 0) 26 ∧ Row wc1002 n3 .u64 5 (x0E f) 26 := ⟨hHeld.1.below hb hHeld.1.lt, hHeld.2.1.below hb hHeld.2.1.lt, hHeld.2.2.below hb hHeld.2.2.lt⟩
    have HBc1002 := Aside0.mk (HBc1001.out.trans (hb.mono HBc1001.out.size))
    clear hb
    refine ⟨_, rfl, hK.out _ _ hSn (fun hHeld => ?_)⟩
    clear hSn
    clear hK K
    refine norm_ (a' := ?_) ?_ ?_
    rotate_left
    · show Act.put _ (some 12) _ = _
      simp only [Act.put, List.setIfInBounds_toArray, List.set_cons_zero, List.set_cons_succ, i64_w, i32_w]
      rfl
    refine pure_ (i := 5) (N := some 13) (v := ?_) (a' := ?_) #[true, true, true, true, true, true] rfl rfl (any_of HT_.out (by kernel_rfl)) (fun _ _ _ h => h) (Or.inl ⟨by rfl, ?_⟩) ?_ ?_
    rotate_left
    · intro w'
      go_simp
      with_reducible rfl
    rotate_left
    · simp only [Act.put, List.setIfInBounds_toArray, List.set_cons_zero, List.set_cons_succ, i64_w, i32_w]
      rfl
    refine done_ (done_of HT_.out (by kernel_rfl)) ?_
    have HXA := Aside0.mk hHeld.1
    have HXZ := Aside0.mk hHeld.2.1
    have HX3 := Aside0.mk hHeld.2.2
    have hl3 := HX3.out.lt
    clear hHeld HT_ HW_ HBV
    have HX3 : Aside0 (Row wc1002 n3 .u64 5 (x1E f n) 26) := ⟨by rw [HX1.out]; exact HX3.out⟩
    go_wp2_with fail
    cases hb1 : rOk iZ n
    · have HBV : Aside0 (decide (x1N iZ n * x1N iZ n % PP = n % PP) = false) := ⟨hb1⟩
      have HB1 := Aside0.mk hb1
      clear hb1
      have hh : Row wc1002.drew w.heap.size .u64 5 f 26 ∧ Row wc1002.drew (w.heap.size + 1) .u64 5 (fun _ => 0) 26 ∧ Row wc1002.drew n3 .u64 5 (x1E f n) 26 := ⟨HXA.out, HXZ.out, HX3.out⟩
      have HBq := Aside0.mk HBc1002.out.drew
      clear HXA HXZ HX3 HBc1002
      refine start_ (n := 6) (S := (fun w' => Row w' w.heap.size .u64 5 f 26 ∧ Row w' (w.heap.size + 1) .u64 5 (fun _ => 0) 26 ∧ Row w' n3 .u64 5 (x1E f n) 26)) (ds := []) #[false, false, false, false, false, false] (by kernel_rfl) rfl rfl hh (fun hHeld => ?_); refine with_tabW tab3204 bits3204 (fun HT_ HW_ => ?_)
      generalize wc1002.drew = wq at HBq hHeld hh ⊢
      clear hh
      refine take_ (i := 0) (N := some 19) (v := ?_) (a' := ?_) #[true, false, false, false, false, false] rfl rfl (take_ofW HT_.out HW_.out (by kernel_rfl)) (fun _ _ _ h => h) (Or.inl ⟨by rfl, ?_⟩) hHeld ?_ ?_
      rotate_left
      · intro w' hsw
        refine exec_load (x := .tmp 4) hsw.2.2 Tryd.underlying26 info27 rfl ?_ ?_ <;> rfl
      rotate_left
      · simp only [Act.put, List.setIfInBounds_toArray, List.set_cons_zero, List.set_cons_succ, i64_w, i32_w]
        rfl
      refine take_ (i := 1) (N := some 20) (v := ?_) (a' := ?_) #[true, true, false, false, false, false] rfl rfl (take_ofW HT_.out HW_.out (by kernel_rfl)) (fun _ _ _ h => h) (Or.inl ⟨by rfl, ?_⟩) hHeld ?_ ?_
      rotate_left
      · intro w' hsw
        refine exec_load (x := .tmp 4) hsw.2.2 Tryd.underlying26 info27 rfl ?_ ?_ <;> rfl
      rotate_left
      · simp only [Act.put, List.setIfInBounds_toArray, List.set_cons_zero, List.set_cons_succ, i64_w, i32_w]
        rfl
      refine take_ (i := 3) (N := some 22) (v := ?_) (a' := ?_) #[true, true, false, true, false, false] rfl rfl (take_ofW HT_.out HW_.out (by kernel_rfl)) (fun _ _ _ h => h) (Or.inl ⟨by rfl, ?_⟩) hHeld ?_ ?_
      rotate_left
      · intro w' hsw
        refine exec_load (x := .tmp 1) hsw.1 Tryd.underlying26 info27 rfl ?_ ?_ <;> rfl
      rotate_left
      · simp only [Act.put, List.setIfInBounds_toArray, List.set_cons_zero, List.set_cons_succ, i64_w, i32_w]
        rfl
      refine one_ (i := 2) (N := some 21) #[true, true, true, true, false, false] rfl rfl (one_of HT_.out (by kernel_rfl)) (by decide) (fun K hK => ?_)
      refine goes_ Tryd.func29 rfl rfl #[.agg (FR .u64 5 (x1E f n)), .agg (FR .u64 5 (x1E f n))] rfl rfl rfl (by simp only [List.map_toArray, List.map_cons, List.map_nil]; rfl) ((elem_mul_calls _ _ _ (x1E_Fe HF.out).1 (x1E_Fe HF.out).1).mono ?_)
      rintro e wc1401 ⟨rfl, hb⟩
      have hSn : Row wc1401 w.heap.size .u64 5 f 26 ∧ Row wc1401 (w.heap.size + 1) .u64 5 (fun _ => 0) 26 ∧ Row wc1401 n3 .u64 5 (x1E f n) 26 := ⟨hHeld.1.below hb hHeld.1.lt, hHeld.2.1.below hb hHeld.2.1.lt, hHeld.2.2.below hb hHeld.2.2.lt⟩
      have HBc1401 := Aside0.mk (HBq.out.trans (hb.mono HBq.out.size))
      clear hb
      refine ⟨_, rfl, hK.out _ _ hSn (fun hHeld => ?_)⟩
      clear hSn
      clear hK K
      refine norm_ (a' := ?_) ?_ ?_
      rotate_left
      · show Act.put _ (some 21) _ = _
        simp only [Act.put, List.setIfInBounds_toArray, List.set_cons_zero, List.set_cons_succ, i64_w, i32_w]
        rfl
      refine one_ (i := 4) (N := some 23) #[true, true, true, true, true, false] rfl rfl (one_of HT_.out (by kernel_rfl)) (by decide) (fun K hK => ?_)
      refine goes_ Tryd.func36 rfl rfl #[.agg (FR .u64 5 (mulE (x1E f n) (x1E f n))), .agg (FR .u64 5 (f))] rfl rfl rfl (by simp only [List.map_toArray, List.map_cons, List.map_nil]; rfl) ((is_bool2 ((x1E_Fe HF.out).mul (x1E_Fe HF.out)) HF.out false HBV.out _).mono ?_)
      rintro e wc1402 ⟨rfl, hb⟩
      have hSn : Row wc1402 w.heap.size .u64 5 f 26 ∧ Row wc1402 (w.heap.size + 1) .u64 5 (fun _ => 0) 26 ∧ Row wc1402 n3 .u64 5 (x1E f n) 26 := ⟨hHeld.1.below hb hHeld.1.lt, hHeld.2.1.below hb hHeld.2.1.lt, hHeld.2.2.below hb hHeld.2.2.lt⟩
      have HBc1402 := Aside0.mk (HBc1401.out.trans (hb.mono HBc1401.out.size))
      clear hb
      refine ⟨_, rfl, hK.out _ _ hSn (fun hHeld => ?_)⟩
      clear hSn
      clear hK K
      refine norm_ (a' := ?_) ?_ ?_
      rotate_left
      · show Act.put _ (some 23) _ = _
        simp only [Act.put, List.setIfInBounds_toArray, List.set_cons_zero, List.set_cons_succ, i64_w, i32_w]
        rfl
      refine pure_ (i := 5) (N := some 24) (v := ?_) (a' := ?_) #[true, true, true, true, true, true] rfl rfl (any_of HT_.out (by kernel_rfl)) (fun _ _ _ h => h) (Or.inl ⟨by rfl, ?_⟩) ?_ ?_
      rotate_left
      · intro w'
        go_simp
        with_reducible rfl
      rotate_left
      · simp only [Act.put, List.setIfInBounds_toArray, List.set_cons_zero, List.set_cons_succ, i64_w, i32_w]
        rfl
      refine done_ (done_of HT_.out (by kernel_rfl)) ?_
      have HXA := Aside0.mk hHeld.1
      have HXZ := Aside0.mk hHeld.2.1
      have HX3 := Aside0.mk hHeld.2.2
      have hl3 := HX3.out.lt
      clear hHeld HT_ HW_ HBV
      go_wp2_with (refine step_storeG (fun _ => 0) HXZ.out info27 rfl rfl rfl rfl rfl ?_; intro wz hs hr; have HSz := Aside0.mk hs; have HRz := Aside0.mk hr; clear hs hr)
      refine bodyPost_ret (row_results2 rfl HRz.out rfl Tryd.underlying26 rfl info27) rfl ?_
      refine ⟨?_, HSz.out.bel _ _ (by omega) HBc1402.out⟩
      rw [rtE_no HB1.out, HB1.out]
      rfl
    · have HBV : Aside0 (decide (x1N iZ n * x1N iZ n % PP = n % PP) = true) := ⟨hb1⟩
      have HB1 := Aside0.mk hb1
      clear hb1
      have hh : Row wc1002.drew w.heap.size .u64 5 f 26 ∧ Row wc1002.drew (w.heap.size + 1) .u64 5 (fun _ => 0) 26 ∧ Row wc1002.drew n3 .u64 5 (x1E f n) 26 := ⟨HXA.out, HXZ.out, HX3.out⟩
      have HBq := Aside0.mk HBc1002.out.drew
      clear HXA HXZ HX3 HBc1002
      refine start_ (n := 6) (S := (fun w' => Row w' w.heap.size .u64 5 f 26 ∧ Row w' (w.heap.size + 1) .u64 5 (fun _ => 0) 26 ∧ Row w' n3 .u64 5 (x1E f n) 26)) (ds := []) #[false, false, false, false, false, false] (by kernel_rfl) rfl rfl hh (fun hHeld => ?_); refine with_tabW tab3204 bits3204 (fun HT_ HW_ => ?_)
      generalize wc1002.drew = wq at HBq hHeld hh ⊢
      clear hh
      refine take_ (i := 0) (N := some 19) (v := ?_) (a' := ?_) #[true, false, false, false, false, false] rfl rfl (take_ofW HT_.out HW_.out (by kernel_rfl)) (fun _ _ _ h => h) (Or.inl ⟨by rfl, ?_⟩) hHeld ?_ ?_
      rotate_left
      · intro w' hsw
        refine exec_load (x := .tmp 4) hsw.2.2 Tryd.underlying26 info27 rfl ?_ ?_ <;> rfl
      rotate_left
      · simp only [Act.put, List.setIfInBounds_toArray, List.set_cons_zero, List.set_cons_succ, i64_w, i32_w]
        rfl
      refine take_ (i := 1) (N := some 20) (v := ?_) (a' := ?_) #[true, true, false, false, false, false] rfl rfl (take_ofW HT_.out HW_.out (by kernel_rfl)) (fun _ _ _ h => h) (Or.inl ⟨by rfl, ?_⟩) hHeld ?_ ?_
      rotate_left
      · intro w' hsw
        refine exec_load (x := .tmp 4) hsw.2.2 Tryd.underlying26 info27 rfl ?_ ?_ <;> rfl
      rotate_left
      · simp only [Act.put, List.setIfInBounds_toArray, List.set_cons_zero, List.set_cons_succ, i64_w, i32_w]
        rfl
      refine take_ (i := 3) (N := some 22) (v := ?_) (a' := ?_) #[true, true, false, true, false, false] rfl rfl (take_ofW HT_.out HW_.out (by kernel_rfl)) (fun _ _ _ h => h) (Or.inl ⟨by rfl, ?_⟩) hHeld ?_ ?_
      rotate_left
      · intro w' hsw
        refine exec_load (x := .tmp 1) hsw.1 Tryd.underlying26 info27 rfl ?_ ?_ <;> rfl
      rotate_left
      · simp only [Act.put, List.setIfInBounds_toArray, List.set_cons_zero, List.set_cons_succ, i64_w, i32_w]
        rfl
      refine one_ (i := 2) (N := some 21) #[true, true, true, true, false, false] rfl rfl (one_of HT_.out (by kernel_rfl)) (by decide) (fun K hK => ?_)
      refine goes_ Tryd.func29 rfl rfl #[.agg (FR .u64 5 (x1E f n)), .agg (FR .u64 5 (x1E f n))] rfl rfl rfl (by simp only [List.map_toArray, List.map_cons, List.map_nil]; rfl) ((elem_mul_calls _ _ _ (x1E_Fe HF.out).1 (x1E_Fe HF.out).1).mono ?_)
      rintro e wc1421 ⟨rfl, hb⟩
      have hSn : Row wc1421 w.heap.size .u64 5 f 26 ∧ Row wc1421 (w.heap.size + 1) .u64 5 (fun _ => 0) 26 ∧ Row wc1421 n3 .u64 5 (x1E f n) 26 := ⟨hHeld.1.below hb hHeld.1.lt, hHeld.2.1.below hb hHeld.2.1.lt, hHeld.2.2.below hb hHeld.2.2.lt⟩
      have HBc1421 := Aside0.mk (HBq.out.trans (hb.mono HBq.out.size))
      clear hb
      refine ⟨_, rfl, hK.out _ _ hSn (fun hHeld => ?_)⟩
      clear hSn
      clear hK K
      refine norm_ (a' := ?_) ?_ ?_
      rotate_left
      · show Act.put _ (some 21) _ = _
        simp only [Act.put, List.setIfInBounds_toArray, List.set_cons_zero, List.set_cons_succ, i64_w, i32_w]
        rfl
      refine one_ (i := 4) (N := some 23) #[true, true, true, true, true, false] rfl rfl (one_of HT_.out (by kernel_rfl)) (by decide) (fun K hK => ?_)
      refine goes_ Tryd.func36 rfl rfl #[.agg (FR .u64 5 (mulE (x1E f n) (x1E f n))), .agg (FR .u64 5 (f))] rfl rfl rfl (by simp only [List.map_toArray, List.map_cons, List.map_nil]; rfl) ((is_bool2 ((x1E_Fe HF.out).mul (x1E_Fe HF.out)) HF.out true HBV.out _).mono ?_)
      rintro e wc1422 ⟨rfl, hb⟩
      have hSn : Row wc1422 w.heap.size .u64 5 f 26 ∧ Row wc1422 (w.heap.size + 1) .u64 5 (fun _ => 0) 26 ∧ Row wc1422 n3 .u64 5 (x1E f n) 26 := ⟨hHeld.1.below hb hHeld.1.lt, hHeld.2.1.below hb hHeld.2.1.lt, hHeld.2.2.below hb hHeld.2.2.lt⟩
      have HBc1422 := Aside0.mk (HBc1421.out.trans (hb.mono HBc1421.out.size))
      clear hb
      refine ⟨_, rfl, hK.out _ _ hSn (fun hHeld => ?_)⟩
      clear hSn
      clear hK K
      refine norm_ (a' := ?_) ?_ ?_
      rotate_left
      · show Act.put _ (some 23) _ = _
        simp only [Act.put, List.setIfInBounds_toArray, List.set_cons_zero, List.set_cons_succ, i64_w, i32_w]
        rfl
      refine pure_ (i := 5) (N := some 24) (v := ?_) (a' := ?_) #[true, true, true, true, true, true] rfl rfl (any_of HT_.out (by kernel_rfl)) (fun _ _ _ h => h) (Or.inl ⟨by rfl, ?_⟩) ?_ ?_
      rotate_left
      · intro w'
        go_simp
        with_reducible rfl
      rotate_left
      · simp only [Act.put, List.setIfInBounds_toArray, List.set_cons_zero, List.set_cons_succ, i64_w, i32_w]
        rfl
      refine done_ (done_of HT_.out (by kernel_rfl)) ?_
      have HXA := Aside0.mk hHeld.1
      have HXZ := Aside0.mk hHeld.2.1
      have HX3 := Aside0.mk hHeld.2.2
      have hl3 := HX3.out.lt
      clear hHeld HT_ HW_ HBV
      go_wp2_with (refine step_load HX3.out Tryd.underlying26 info27 rfl rfl rfl rfl ?_)
      cases hod : rOdd iZ n
      · refine (odd_bool (x1E_Fe HF.out) false hod _).mono ?_
        rintro e wo ⟨rfl, hb⟩
        have HXZ2 := Aside0.mk (HXZ.out.below hb HXZ.out.lt)
        have HX32 := Aside0.mk (HX3.out.below hb HX3.out.lt)
        have HBo := Aside0.mk (HBc1422.out.trans (hb.mono HBc1422.out.size))
        have HOD := Aside0.mk hod
        have hlz2 := HXZ2.out.lt
        clear hb hod
        go_wp2_with (first | refine step_load HX32.out Tryd.underlying26 info27 rfl rfl rfl rfl ?_ | (refine step_storeG (x1E f n) HXZ2.out info27 rfl rfl rfl rfl rfl ?_; intro wz hs hr; have HSz := Aside0.mk hs; have HRz := Aside0.mk hr; clear hs hr))
        refine bodyPost_ret (row_results2 rfl HRz.out rfl Tryd.underlying26 rfl info27) rfl ?_
        refine ⟨?_, HSz.out.bel _ _ (by omega) HBo.out⟩
        rw [rtE_n HB1.out HOD.out, HB1.out]
        rfl
      · refine (odd_bool (x1E_Fe HF.out) true hod _).mono ?_
        rintro e wo ⟨rfl, hb⟩
        have HXZ2 := Aside0.mk (HXZ.out.below hb HXZ.out.lt)
        have HX32 := Aside0.mk (HX3.out.below hb HX3.out.lt)
        have HBo := Aside0.mk (HBc1422.out.trans (hb.mono HBc1422.out.size))
        have HOD := Aside0.mk hod
        have hlz2 := HXZ2.out.lt
        clear hb hod
        go_wp2_with (refine step_load HX32.out Tryd.underlying26 info27 rfl rfl rfl rfl ?_)
        refine (negE_c _ _ (x1E_Fe HF.out).1).mono ?_
        rintro e wn ⟨rfl, hb⟩
        have HXZ3 := Aside0.mk (HXZ2.out.below hb HXZ2.out.lt)
        have HX33 := Aside0.mk (HX32.out.below hb HX32.out.lt)
        have HBn := Aside0.mk (HBo.out.trans (hb.mono HBo.out.size))
        clear hb
        go_wp2_with (first | (refine step_storeG (negE (x1E f n)) HX33.out info27 rfl rfl rfl rfl rfl ?_; intro wy hs hr; have HBy := Aside0.mk (hs.bel _ _ (show w.heap.size ≤ n3 by omega) HBn.out); have HX34 := Aside0.mk hr; have HXZ4 := Aside0.mk (HXZ3.out.stored hs (by omega)); clear hs hr) | refine step_load HX34.out Tryd.underlying26 info27 rfl rfl rfl rfl ?_ | (refine step_storeG (negE (x1E f n)) HXZ4.out info27 rfl rfl rfl rfl rfl ?_; intro wz hs hr; have HSz := Aside0.mk hs; have HRz := Aside0.mk hr; clear hs hr))
        refine bodyPost_ret (row_results2 rfl HRz.out rfl Tryd.underlying26 rfl info27) rfl ?_
        refine ⟨?_, HSz.out.bel _ _ (by omega) HBy.out⟩
        rw [rtE_y HB1.out HOD.out, HB1.out]
        rfl
theorem tab3301 : rtab .any (opsOf Tryd.f45 1) = (true, [([], []), ([], []), ([0, 1, 1], [0, 1]), ([], []), ([3, 2, 2, 0, 1, 2, 3], [2, 3])]) := by kernel_rfl
theorem bits3301 : waitsOk [([], []), ([], []), ([0, 1, 1], [0, 1]), ([], []), ([3, 2, 2, 0, 1, 2, 3], [2, 3])] [0, 0, 3, 0, 15] = true := by kernel_rfl
theorem tab3302 : rtab .any (opsOf Tryd.f45 2) = (true, [([], []), ([], []), ([1], []), ([1, 2, 2], [1, 2]), ([0, 3, 3], [0, 3]), ([], []), ([5, 4, 4, 0, 1, 2, 3, 4, 5], [4, 5])]) := by kernel_rfl
theorem bits3302 : waitsOk [([], []), ([], []), ([1], []), ([1, 2, 2], [1, 2]), ([0, 3, 3], [0, 3]), ([], []), ([5, 4, 4, 0, 1, 2, 3, 4, 5], [4, 5])] [0, 0, 2, 6, 15, 0, 63] = true := by kernel_rfl
theorem tab3303 : rtab .any (opsOf Tryd.f45 3) = (true, [([], []), ([], []), ([0, 1], [0, 1]), ([], []), ([2, 3, 2], [2, 3]), ([4], [4])]) := by kernel_rfl
theorem bits3303 : waitsOk [([], []), ([], []), ([0, 1], [0, 1]), ([], []), ([2, 3, 2], [2, 3]), ([4], [4])] [0, 0, 3, 0, 15, 31] = true := by kernel_rfl
theorem tab3305 : rtab .any (opsOf Tryd.f45 5) = (true, [([], []), ([], []), ([0, 1], [0, 1]), ([], []), ([2, 3, 2], [2, 3]), ([4], [4])]) := by kernel_rfl
theorem bits3305 : waitsOk [([], []), ([], []), ([0, 1], [0, 1]), ([], []), ([2, 3, 2], [2, 3]), ([4], [4])] [0, 0, 3, 0, 15, 31] = true := by kernel_rfl
set_option maxHeartbeats 4000000 in
theorem rootR_calls (f : Nat → Int) (n : Int) (w : World) (hf : Re f n) :
    Calls Tryd.prog 45 #[.agg (FR .i64 16 f)] w fun e w' => e = .returned (.tuple #[.agg (FR .i64 16 (rtR f n)), .bool (rOk iZ n)]) ∧ Below w.heap.size w w' := by
  have HF := Aside0.mk hf
  clear hf
  go_enter Tryd.func45, Tryd.ntmps45
  go_wp2_with fail
  have hh : Row (((w.alloc (.cells (FR .i64 16 f) 34)).alloc (.cells #[.int .i64 0, .int .i64 0, .int .i64 0, .int .i64 0, .int .i64 0, .int .i64 0, .int .i64 0, .int .i64 0, .int .i64 0, .int .i64 0, .int .i64 0, .int .i64 0, .int .i64 0, .int .i64 0, .int .i64 0, .int .i64 0] 34)).drew) w.heap.size .i64 16 f 34 ∧ Row (((w.alloc (.cells (FR .i64 16 f) 34)).alloc (.cells #[.int .i64 0, .int .i64 0, .int .i64 0, .int .i64 0, .int .i64 0, .int .i64 0, .int .i64 0, .int .i64 0, .int .i64 0, .int .i64 0, .int .i64 0, .int .i64 0, .int .i64 0, .int .i64 0, .int .i64 0, .int .i64 0] 34)).drew) (w.heap.size + 1) .i64 16 (fun _ => 0) 34 := ⟨(Row.new w .i64 16 f 34).alloc _, heap_alloc2_new w _ _⟩
  have HBd := Aside0.mk ((bel_two w (.cells (FR .i64 16 f) 34) (.cells #[.int .i64 0, .int .i64 0, .int .i64 0, .int .i64 0, .int .i64 0, .int .i64 0, .int .i64 0, .int .i64 0, .int .i64 0, .int .i64 0, .int .i64 0, .int .i64 0, .int .i64 0, .int .i64 0, .int .i64 0, .int .i64 0] 34)).drew)
  refine start_ (n := 5) (S := (fun w' => Row w' w.heap.size .i64 16 f 34 ∧ Row w' (w.heap.size + 1) .i64 16 (fun _ => 0) 34)) (ds := []) #[false, false, false, false, false] (by kernel_rfl) rfl rfl hh (fun hHeld => ?_); refine with_tabW tab3301 bits3301 (fun HT_ HW_ => ?_)
  generalize ((w.alloc (.cells (FR .i64 16 f) 34)).alloc (.cells #[.int .i64 0, .int .i64 0, .int .i64 0, .int .i64 0, .int .i64 0, .int .i64 0, .int .i64 0, .int .i64 0, .int .i64 0, .int .i64 0, .int .i64 0, .int .i64 0, .int .i64 0, .int .i64 0, .int .i64 0, .int .i64 0] 34)).drew = w6 at HBd hHeld hh ⊢
  clear hh
  refine take_ (i := 0) (N := some 6) (v := ?_) (a' := ?_) #[true, false, false, false, false] rfl rfl (take_ofW HT_.out HW_.out (by kernel_rfl)) (fun _ _ _ h => h) (Or.inl ⟨by rfl, ?_⟩) hHeld ?_ ?_
  rotate_left
  · intro w' hsw
    refine exec_load (x := .tmp 1) hsw.1 Tryd.underlying34 info33 rfl ?_ ?_ <;> rfl
  rotate_left
  · simp only [Act.put, List.setIfInBounds_toArray, List.set_cons_zero, List.set_cons_succ, i64_w, i32_w]
    rfl
  refine join_ (σ := Nat) 1 #[true, true, true, true, false] (fun s => [(7, .string (sOf (exB 252 2))), (8, .agg (FR .i64 16 (x0R f))), (4, .pointer (some ⟨s, 0, none⟩))]) (fun s w' => Row w' s .i64 16 (fun _ => 0) 34 ∧ Row w' w.heap.size .i64 16 f 34 ∧ Row w' (w.heap.size + 1) .i64 16 (fun _ => 0) 34 ∧ Below w.heap.size w w' ∧ (w.heap.size + 1) < s) ?_ ?_
  rotate_left
  ·intro hJ1_2_3
   refine join_ (σ := Unit) 2 #[true, true, true, false, false] (fun s => [(7, .string (sOf (exB 252 2))), (8, .agg (FR .i64 16 (x0R f)))]) (fun s w' => Row w' w.heap.size .i64 16 f 34 ∧ Row w' (w.heap.size + 1) .i64 16 (fun _ => 0) 34 ∧ Below w.heap.size w w') ?_ ?_
   rotate_left
   ·intro hJ1_2
    refine join_ (σ := Nat) 2 #[true, true, false, true, false] (fun s => [(7, .string (sOf (exB 252 2))), (4, .pointer (some ⟨s, 0, none⟩))]) (fun s w' => Row w' s .i64 16 (fun _ => 0) 34 ∧ Row w' w.heap.size .i64 16 f 34 ∧ Row w' (w.heap.size + 1) .i64 16 (fun _ => 0) 34 ∧ Below w.heap.size w w' ∧ (w.heap.size + 1) < s) ?_ ?_
    rotate_left
    ·intro hJ1_3
     refine join_ (σ := Unit) 3 #[true, true, false, false, false] (fun s => [(7, .string (sOf (exB 252 2)))]) (fun s w' => Row w' w.heap.size .i64 16 f 34 ∧ Row w' (w.heap.size + 1) .i64 16 (fun _ => 0) 34 ∧ Below w.heap.size w w') ?_ ?_
     rotate_left
     ·intro hJ1
      refine join_ (σ := Nat) 3 #[true, false, false, true, false] (fun s => [(4, .pointer (some ⟨s, 0, none⟩))]) (fun s w' => Row w' s .i64 16 (fun _ => 0) 34 ∧ Row w' w.heap.size .i64 16 f 34 ∧ Row w' (w.heap.size + 1) .i64 16 (fun _ => 0) 34 ∧ Below w.heap.size w w' ∧ (w.heap.size + 1) < s) ?_ ?_
      rotate_left
      ·intro hJ3
       refine two_ (i := 1) (j := 3) (Ni := some 7) (Nj := some 4) #[true, true, false, false, false] #[true, false, false, true, false] rfl rfl rfl rfl (by kernel_rfl) (by decide) (by decide) (fun K hK => ?_) (fun K hK => ?_)
       · skip
         refine goes_ Tryd.func61 rfl rfl #[.int .i64 252, .int .i64 2] rfl rfl rfl (by simp only [List.map_toArray, List.map_cons, List.map_nil]; rfl) ((Exponent_calls 252 2 _ (by omega) (by omega)).mono ?_)
         rintro e wf1 ⟨rfl, hb⟩
         have hSn : Row wf1 w.heap.size .i64 16 f 34 ∧ Row wf1 (w.heap.size + 1) .i64 16 (fun _ => 0) 34 := ⟨hHeld.1.below hb hHeld.1.lt, hHeld.2.below hb hHeld.2.lt⟩
         have HBf := Aside0.mk (HBd.out.trans (hb.mono HBd.out.size))
         clear hb
         refine ⟨_, rfl, hK.out _ _ hSn (fun hHeld => ?_)⟩
         clear hSn hK K
         refine norm_ (a' := ?_) ?_ ?_
         rotate_left
         · show Act.put _ (some 7) _ = _
           simp only [Act.put, List.setIfInBounds_toArray, List.set_cons_zero, List.set_cons_succ, i64_w, i32_w]
           rfl
         exact norm_ (by first | (simp only [putAll, Act.put, List.setIfInBounds_toArray, List.set_cons_zero, List.set_cons_succ]; done) | (simp only [putAll, Act.put, List.setIfInBounds_toArray, List.set_cons_zero, List.set_cons_succ]; rfl)) (hJ1 () _ ⟨hHeld.1, hHeld.2, HBf.out⟩)
       · skip
         refine event_step (by rfl) (v := .pointer (some ⟨w6.heap.size, 0, none⟩)) (w1 := w6.alloc (.cells (FR .i64 16 fun _ => 0) 34)) (by first | (go_simp; done) | (go_simp; rfl)) ?_
         have hSn : Row (w6.alloc (.cells (FR .i64 16 fun _ => 0) 34)) w.heap.size .i64 16 f 34 ∧ Row (w6.alloc (.cells (FR .i64 16 fun _ => 0) 34)) (w.heap.size + 1) .i64 16 (fun _ => 0) 34 := ⟨hHeld.1.alloc _, hHeld.2.alloc _⟩
         have HBf := Aside0.mk (HBd.out.alloc HBd.out.size (.cells (FR .i64 16 fun _ => 0) 34))
         have hlo3 : (w.heap.size + 1) < w6.heap.size := hHeld.2.lt
         have HR3 := Aside0.mk (Row.new w6 .i64 16 (fun _ => 0) 34)
         generalize w6.alloc (.cells (FR .i64 16 fun _ => 0) 34) = wf2 at hSn HBf HR3 ⊢
         refine hK.out _ _ hSn (fun hHeld => ?_)
         clear hSn hK K
         refine norm_ (a' := ?_) ?_ ?_
         rotate_left
         · show Act.put _ (some 4) _ = _
           simp only [Act.put, List.setIfInBounds_toArray, List.set_cons_zero, List.set_cons_succ, i64_w, i32_w]
           rfl
         exact norm_ (by first | (simp only [putAll, Act.put, List.setIfInBounds_toArray, List.set_cons_zero, List.set_cons_succ]; done) | (simp only [putAll, Act.put, List.setIfInBounds_toArray, List.set_cons_zero, List.set_cons_succ]; rfl)) (hJ3 w6.heap.size _ ⟨HR3.out, hHeld.1, hHeld.2, HBf.out, hlo3⟩)
      ·skip
       rintro n3 wg ⟨HX3, hq0, hq1, hbj, hlo3⟩
       have HX3 := Aside0.mk HX3
       have HBj := Aside0.mk hbj
       clear hbj
       have hHeld : Row wg w.heap.size .i64 16 f 34 ∧ Row wg (w.heap.size + 1) .i64 16 (fun _ => 0) 34 := ⟨hq0, hq1⟩
       clear hq0 hq1
       refine norm_ (a' := ?_) ?_ ?_
       rotate_left
       · simp only [putAll, Act.put, List.setIfInBounds_toArray, List.set_cons_zero, List.set_cons_succ]
         rfl
       refine one_ (i := 1) (N := some 7) #[true, true, false, true, false] rfl rfl (one_of HT_.out (by kernel_rfl)) (by decide) (fun K hK => ?_)
       refine goes_ Tryd.func61 rfl rfl #[.int .i64 252, .int .i64 2] rfl rfl rfl (by simp only [List.map_toArray, List.map_cons, List.map_nil]; rfl) ((Exponent_calls 252 2 _ (by omega) (by omega)).mono ?_)
       rintro e wf3 ⟨rfl, hb⟩
       have hSn : Row wf3 w.heap.size .i64 16 f 34 ∧ Row wf3 (w.heap.size + 1) .i64 16 (fun _ => 0) 34 := ⟨hHeld.1.below hb hHeld.1.lt, hHeld.2.below hb hHeld.2.lt⟩
       have HBf := Aside0.mk (HBj.out.trans (hb.mono HBj.out.size))
       have HR3 := Aside0.mk (HX3.out.below hb HX3.out.lt)
       clear hb
       refine ⟨_, rfl, hK.out _ _ hSn (fun hHeld => ?_)⟩
       clear hSn hK K
       refine norm_ (a' := ?_) ?_ ?_
       rotate_left
       · show Act.put _ (some 7) _ = _
         simp only [Act.put, List.setIfInBounds_toArray, List.set_cons_zero, List.set_cons_succ, i64_w, i32_w]
         rfl
       exact norm_ (by first | (simp only [putAll, Act.put, List.setIfInBounds_toArray, List.set_cons_zero, List.set_cons_succ]; done) | (simp only [putAll, Act.put, List.setIfInBounds_toArray, List.set_cons_zero, List.set_cons_succ]; rfl)) (hJ1_3 n3 _ ⟨HR3.out, hHeld.1, hHeld.2, HBf.out, hlo3⟩)
     ·skip
      rintro _ wg ⟨hq0, hq1, hbj⟩
      have HBj := Aside0.mk hbj
      clear hbj
      have hHeld : Row wg w.heap.size .i64 16 f 34 ∧ Row wg (w.heap.size + 1) .i64 16 (fun _ => 0) 34 := ⟨hq0, hq1⟩
      clear hq0 hq1
      refine norm_ (a' := ?_) ?_ ?_
      rotate_left
      · simp only [putAll, Act.put, List.setIfInBounds_toArray, List.set_cons_zero, List.set_cons_succ]
        rfl
      refine two_ (i := 2) (j := 3) (Ni := some 8) (Nj := some 4) #[true, true, true, false, false] #[true, true, false, true, false] rfl rfl rfl rfl (by kernel_rfl) (by decide) (by decide) (fun K hK => ?_) (fun K hK => ?_)
      · skip
        refine goes_ Tryd.func60 rfl rfl #[.agg (FR .i64 16 (f)), .string (sOf (exB 252 2))] rfl rfl rfl (by simp only [List.map_toArray, List.map_cons, List.map_nil]; rfl) ((pow_ref f (exB 252 2) _ HF.out.1 (exB_By _ _)).mono ?_)
        rintro e wf4 ⟨rfl, hb⟩
        have hSn : Row wf4 w.heap.size .i64 16 f 34 ∧ Row wf4 (w.heap.size + 1) .i64 16 (fun _ => 0) 34 := ⟨hHeld.1.below hb hHeld.1.lt, hHeld.2.below hb hHeld.2.lt⟩
        have HBf := Aside0.mk (HBj.out.trans (hb.mono HBj.out.size))
        clear hb
        refine ⟨_, rfl, hK.out _ _ hSn (fun hHeld => ?_)⟩
        clear hSn hK K
        refine norm_ (a' := ?_) ?_ ?_
        rotate_left
        · show Act.put _ (some 8) _ = _
          simp only [Act.put, List.setIfInBounds_toArray, List.set_cons_zero, List.set_cons_succ, i64_w, i32_w]
          rfl
        exact norm_ (by first | (simp only [putAll, Act.put, List.setIfInBounds_toArray, List.set_cons_zero, List.set_cons_succ]; done) | (simp only [putAll, Act.put, List.setIfInBounds_toArray, List.set_cons_zero, List.set_cons_succ]; rfl)) (hJ1_2 () _ ⟨hHeld.1, hHeld.2, HBf.out⟩)
      · skip
        refine event_step (by rfl) (v := .pointer (some ⟨wg.heap.size, 0, none⟩)) (w1 := wg.alloc (.cells (FR .i64 16 fun _ => 0) 34)) (by first | (go_simp; done) | (go_simp; rfl)) ?_
        have hSn : Row (wg.alloc (.cells (FR .i64 16 fun _ => 0) 34)) w.heap.size .i64 16 f 34 ∧ Row (wg.alloc (.cells (FR .i64 16 fun _ => 0) 34)) (w.heap.size + 1) .i64 16 (fun _ => 0) 34 := ⟨hHeld.1.alloc _, hHeld.2.alloc _⟩
        have HBf := Aside0.mk (HBj.out.alloc HBj.out.size (.cells (FR .i64 16 fun _ => 0) 34))
        have hlo3 : (w.heap.size + 1) < wg.heap.size := hHeld.2.lt
        have HR3 := Aside0.mk (Row.new wg .i64 16 (fun _ => 0) 34)
        generalize wg.alloc (.cells (FR .i64 16 fun _ => 0) 34) = wf5 at hSn HBf HR3 ⊢
        refine hK.out _ _ hSn (fun hHeld => ?_)
        clear hSn hK K
        refine norm_ (a' := ?_) ?_ ?_
        rotate_left
        · show Act.put _ (some 4) _ = _
          simp only [Act.put, List.setIfInBounds_toArray, List.set_cons_zero, List.set_cons_succ, i64_w, i32_w]
          rfl
        exact norm_ (by first | (simp only [putAll, Act.put, List.setIfInBounds_toArray, List.set_cons_zero, List.set_cons_succ]; done) | (simp only [putAll, Act.put, List.setIfInBounds_toArray, List.set_cons_zero, List.set_cons_succ]; rfl)) (hJ1_3 wg.heap.size _ ⟨HR3.out, hHeld.1, hHeld.2, HBf.out, hlo3⟩)
    ·skip
     rintro n3 wg ⟨HX3, hq0, hq1, hbj, hlo3⟩
     have HX3 := Aside0.mk HX3
     have HBj := Aside0.mk hbj
     clear hbj
     have hHeld : Row wg w.heap.size .i64 16 f 34 ∧ Row wg (w.heap.size + 1) .i64 16 (fun _ => 0) 34 := ⟨hq0, hq1⟩
     clear hq0 hq1
     refine norm_ (a' := ?_) ?_ ?_
     rotate_left
     · simp only [putAll, Act.put, List.setIfInBounds_toArray, List.set_cons_zero, List.set_cons_succ]
       rfl
     refine one_ (i := 2) (N := some 8) #[true, true, true, true, false] rfl rfl (one_of HT_.out (by kernel_rfl)) (by decide) (fun K hK => ?_)
     refine goes_ Tryd.func60 rfl rfl #[.agg (FR .i64 16 (f)), .string (sOf (exB 252 2))] rfl rfl rfl (by simp only [List.map_toArray, List.map_cons, List.map_nil]; rfl) ((pow_ref f (exB 252 2) _ HF.out.1 (exB_By _ _)).mono ?_)
     rintro e wf6 ⟨rfl, hb⟩
     have hSn : Row wf6 w.heap.size .i64 16 f 34 ∧ Row wf6 (w.heap.size + 1) .i64 16 (fun _ => 0) 34 := ⟨hHeld.1.below hb hHeld.1.lt, hHeld.2.below hb hHeld.2.lt⟩
     have HBf := Aside0.mk (HBj.out.trans (hb.mono HBj.out.size))
     have HR3 := Aside0.mk (HX3.out.below hb HX3.out.lt)
     clear hb
     refine ⟨_, rfl, hK.out _ _ hSn (fun hHeld => ?_)⟩
     clear hSn hK K
     refine norm_ (a' := ?_) ?_ ?_
     rotate_left
     · show Act.put _ (some 8) _ = _
       simp only [Act.put, List.setIfInBounds_toArray, List.set_cons_zero, List.set_cons_succ, i64_w, i32_w]
       rfl
     exact norm_ (by first | (simp only [putAll, Act.put, List.setIfInBounds_toArray, List.set_cons_zero, List.set_cons_succ]; done) | (simp only [putAll, Act.put, List.setIfInBounds_toArray, List.set_cons_zero, List.set_cons_succ]; rfl)) (hJ1_2_3 n3 _ ⟨HR3.out, hHeld.1, hHeld.2, HBf.out, hlo3⟩)
   ·skip
    rintro _ wg ⟨hq0, hq1, hbj⟩
    have HBj := Aside0.mk hbj
    clear hbj
    have hHeld : Row wg w.heap.size .i64 16 f 34 ∧ Row wg (w.heap.size + 1) .i64 16 (fun _ => 0) 34 := ⟨hq0, hq1⟩
    clear hq0 hq1
    refine norm_ (a' := ?_) ?_ ?_
    rotate_left
    · simp only [putAll, Act.put, List.setIfInBounds_toArray, List.set_cons_zero, List.set_cons_succ]
      rfl
    refine one_ (i := 3) (N := some 4) #[true, true, true, true, false] rfl rfl (one_of HT_.out (by kernel_rfl)) (by decide) (fun K hK => ?_)
    refine event_step (by rfl) (v := .pointer (some ⟨wg.heap.size, 0, none⟩)) (w1 := wg.alloc (.cells (FR .i64 16 fun _ => 0) 34)) (by first | (go_simp; done) | (go_simp; rfl)) ?_
    have hSn : Row (wg.alloc (.cells (FR .i64 16 fun _ => 0) 34)) w.heap.size .i64 16 f 34 ∧ Row (wg.alloc (.cells (FR .i64 16 fun _ => 0) 34)) (w.heap.size + 1) .i64 16 (fun _ => 0) 34 := ⟨hHeld.1.alloc _, hHeld.2.alloc _⟩
    have HBf := Aside0.mk (HBj.out.alloc HBj.out.size (.cells (FR .i64 16 fun _ => 0) 34))
    have hlo3 : (w.heap.size + 1) < wg.heap.size := hHeld.2.lt
    have HR3 := Aside0.mk (Row.new wg .i64 16 (fun _ => 0) 34)
    generalize wg.alloc (.cells (FR .i64 16 fun _ => 0) 34) = wf7 at hSn HBf HR3 ⊢
    refine hK.out _ _ hSn (fun hHeld => ?_)
    clear hSn hK K
    refine norm_ (a' := ?_) ?_ ?_
    rotate_left
    · show Act.put _ (some 4) _ = _
      simp only [Act.put, List.setIfInBounds_toArray, List.set_cons_zero, List.set_cons_succ, i64_w, i32_w]
      rfl
    exact norm_ (by first | (simp only [putAll, Act.put, List.setIfInBounds_toArray, List.set_cons_zero, List.set_cons_succ]; done) | (simp only [putAll, Act.put, List.setIfInBounds_toArray, List.set_cons_zero, List.set_cons_succ]; rfl)) (hJ1_2_3 wg.heap.size _ ⟨HR3.out, hHeld.1, hHeld.2, HBf.out, hlo3⟩)
  rintro n3 wj ⟨HX3, hq0, hq1, hbj, hlo3⟩
  have HX3 := Aside0.mk HX3
  have HBj := Aside0.mk hbj
  clear hbj
  have hHeld : Row wj w.heap.size .i64 16 f 34 ∧ Row wj (w.heap.size + 1) .i64 16 (fun _ => 0) 34 := ⟨hq0, hq1⟩
  clear hq0 hq1
  refine norm_ (a' := ?_) ?_ ?_
  rotate_left
  · simp only [putAll, Act.put, List.setIfInBounds_toArray, List.set_cons_zero, List.set_cons_succ]
    rfl
  refine one_ (i := 4) (N := none) #[true, true, true, true, true] rfl rfl (one_of HT_.out (by kernel_rfl)) (by decide) (fun K hK => ?_)
  refine oper_storeG (x0R f) HX3.out info33 rfl rfl rfl rfl rfl ?_
  intro ws8 hs hr
  have hSn : Row ws8 w.heap.size .i64 16 f 34 ∧ Row ws8 (w.heap.size + 1) .i64 16 (fun _ => 0) 34 := ⟨hHeld.1.stored hs (by omega), hHeld.2.stored hs (by omega)⟩
  have HX3 := Aside0.mk hr
  have HBs8 := Aside0.mk (hs.bel _ _ (by omega) HBj.out)
  clear hs hr
  refine hK.out _ _ hSn (fun hHeld => ?_)
  clear hSn hK K
  refine done_ (done_of HT_.out (by kernel_rfl)) ?_
  have hl0 := hHeld.1.lt
  have hl1 := hHeld.2.lt
  have HXA := Aside0.mk hHeld.1
  have HXZ := Aside0.mk hHeld.2
  clear hHeld HT_ HW_
  try go_wp2
  have hh : Row ws8.drew w.heap.size .i64 16 f 34 ∧ Row ws8.drew (w.heap.size + 1) .i64 16 (fun _ => 0) 34 ∧ Row ws8.drew n3 .i64 16 (x0R f) 34 := ⟨HXA.out, HXZ.out, HX3.out⟩
  have HBr := Aside0.mk HBs8.out.drew
  clear HXA HXZ HX3 HBs8
  refine start_ (n := 7) (S := (fun w' => Row w' w.heap.size .i64 16 f 34 ∧ Row w' (w.heap.size + 1) .i64 16 (fun _ => 0) 34 ∧ Row w' n3 .i64 16 (x0R f) 34)) (ds := []) #[false, false, false, false, false, false, false] (by kernel_rfl) rfl rfl hh (fun hHeld => ?_); refine with_tabW tab3302 bits3302 (fun HT_ HW_ => ?_)
  generalize ws8.drew = w7 at HBr hHeld hh ⊢
  clear hh
  refine take_ (i := 0) (N := some 9) (v := ?_) (a' := ?_) #[true, false, false, false, false, false, false] rfl rfl (take_ofW HT_.out HW_.out (by kernel_rfl)) (fun _ _ _ h => h) (Or.inl ⟨by rfl, ?_⟩) hHeld ?_ ?_
  rotate_left
  · intro w' hsw
    refine exec_load (x := .tmp 4) hsw.2.2 Tryd.underlying34 info33 rfl ?_ ?_ <;> rfl
  rotate_left
  · simp only [Act.put, List.setIfInBounds_toArray, List.set_cons_zero, List.set_cons_succ, i64_w, i32_w]
    rfl
  refine join_ (σ := Nat) 1 #[true, true, true, true, true, true, false] (fun s => [(10, .agg (FR .i64 16 (carryN (fun i => if i = 0 then 2 else 0) 16))), (11, .string (sOf (exB 253 5))), (12, .agg (FR .i64 16 (iR))), (13, .agg (FR .i64 16 (mulR (x0R f) iR))), (5, .pointer (some ⟨s, 0, none⟩))]) (fun s w' => Row w' s .i64 16 (fun _ => 0) 34 ∧ Row w' w.heap.size .i64 16 f 34 ∧ Row w' (w.heap.size + 1) .i64 16 (fun _ => 0) 34 ∧ Row w' n3 .i64 16 (x0R f) 34 ∧ Below w.heap.size w w' ∧ n3 < s) ?_ ?_
  rotate_left
  ·intro hJ1_2_3_4_5
   refine join_ (σ := Unit) 2 #[true, true, true, true, true, false, false] (fun s => [(10, .agg (FR .i64 16 (carryN (fun i => if i = 0 then 2 else 0) 16))), (11, .string (sOf (exB 253 5))), (12, .agg (FR .i64 16 (iR))), (13, .agg (FR .i64 16 (mulR (x0R f) iR)))]) (fun s w' => Row w' w.heap.size .i64 16 f 34 ∧ Row w' (w.heap.size + 1) .i64 16 (fun _ => 0) 34 ∧ Row w' n3 .i64 16 (x0R f) 34 ∧ Below w.heap.size w w') ?_ ?_
   rotate_left
   ·intro hJ1_2_3_4
    refine join_ (σ := Nat) 2 #[true, true, true, true, false, true, false] (fun s => [(10, .agg (FR .i64 16 (carryN (fun i => if i = 0 then 2 else 0) 16))), (11, .string (sOf (exB 253 5))), (12, .agg (FR .i64 16 (iR))), (5, .pointer (some ⟨s, 0, none⟩))]) (fun s w' => Row w' s .i64 16 (fun _ => 0) 34 ∧ Row w' w.heap.size .i64 16 f 34 ∧ Row w' (w.heap.size + 1) .i64 16 (fun _ => 0) 34 ∧ Row w' n3 .i64 16 (x0R f) 34 ∧ Below w.heap.size w w' ∧ n3 < s) ?_ ?_
    rotate_left
    ·intro hJ1_2_3_5
     refine join_ (σ := Unit) 3 #[true, true, true, true, false, false, false] (fun s => [(10, .agg (FR .i64 16 (carryN (fun i => if i = 0 then 2 else 0) 16))), (11, .string (sOf (exB 253 5))), (12, .agg (FR .i64 16 (iR)))]) (fun s w' => Row w' w.heap.size .i64 16 f 34 ∧ Row w' (w.heap.size + 1) .i64 16 (fun _ => 0) 34 ∧ Row w' n3 .i64 16 (x0R f) 34 ∧ Below w.heap.size w w') ?_ ?_
     rotate_left
     ·intro hJ1_2_3
      refine join_ (σ := Nat) 3 #[true, true, true, false, false, true, false] (fun s => [(10, .agg (FR .i64 16 (carryN (fun i => if i = 0 then 2 else 0) 16))), (11, .string (sOf (exB 253 5))), (5, .pointer (some ⟨s, 0, none⟩))]) (fun s w' => Row w' s .i64 16 (fun _ => 0) 34 ∧ Row w' w.heap.size .i64 16 f 34 ∧ Row w' (w.heap.size + 1) .i64 16 (fun _ => 0) 34 ∧ Row w' n3 .i64 16 (x0R f) 34 ∧ Below w.heap.size w w' ∧ n3 < s) ?_ ?_
      rotate_left
      ·intro hJ1_2_5
       refine join_ (σ := Unit) 4 #[true, true, true, false, false, false, false] (fun s => [(10, .agg (FR .i64 16 (carryN (fun i => if i = 0 then 2 else 0) 16))), (11, .string (sOf (exB 253 5)))]) (fun s w' => Row w' w.heap.size .i64 16 f 34 ∧ Row w' (w.heap.size + 1) .i64 16 (fun _ => 0) 34 ∧ Row w' n3 .i64 16 (x0R f) 34 ∧ Below w.heap.size w w') ?_ ?_
       rotate_left
       ·intro hJ1_2
        refine join_ (σ := Nat) 4 #[true, true, false, false, false, true, false] (fun s => [(10, .agg (FR .i64 16 (carryN (fun i => if i = 0 then 2 else 0) 16))), (5, .pointer (some ⟨s, 0, none⟩))]) (fun s w' => Row w' s .i64 16 (fun _ => 0) 34 ∧ Row w' w.heap.size .i64 16 f 34 ∧ Row w' (w.heap.size + 1) .i64 16 (fun _ => 0) 34 ∧ Row w' n3 .i64 16 (x0R f) 34 ∧ Below w.heap.size w w' ∧ n3 < s) ?_ ?_
        rotate_left
        ·intro hJ1_5
         refine join_ (σ := Unit) 5 #[true, true, false, false, false, false, false] (fun s => [(10, .agg (FR .i64 16 (carryN (fun i => if i = 0 then 2 else 0) 16)))]) (fun s w' => Row w' w.heap.size .i64 16 f 34 ∧ Row w' (w.heap.size + 1) .i64 16 (fun _ => 0) 34 ∧ Row w' n3 .i64 16 (x0R f) 34 ∧ Below w.heap.size w w') ?_ ?_
         rotate_left
         ·intro hJ1
          refine join_ (σ := Nat) 5 #[true, false, false, false, false, true, false] (fun s => [(5, .pointer (some ⟨s, 0, none⟩))]) (fun s w' => Row w' s .i64 16 (fun _ => 0) 34 ∧ Row w' w.heap.size .i64 16 f 34 ∧ Row w' (w.heap.size + 1) .i64 16 (fun _ => 0) 34 ∧ Row w' n3 .i64 16 (x0R f) 34 ∧ Below w.heap.size w w' ∧ n3 < s) ?_ ?_
          rotate_left
          ·intro hJ5
           refine two_ (i := 1) (j := 5) (Ni := some 10) (Nj := some 5) #[true, true, false, false, false, false, false] #[true, false, false, false, false, true, false] rfl rfl rfl rfl (by kernel_rfl) (by decide) (by decide) (fun K hK => ?_) (fun K hK => ?_)
           · skip
             refine goes_ Tryd.func40 rfl rfl #[.int .i64 2] rfl rfl rfl (by simp only [List.map_toArray, List.map_cons, List.map_nil]; rfl) ((small_ref_calls 2 _ (by omega)).mono ?_)
             rintro e wf501 ⟨rfl, hb⟩
             have hSn : Row wf501 w.heap.size .i64 16 f 34 ∧ Row wf501 (w.heap.size + 1) .i64 16 (fun _ => 0) 34 ∧ Row wf501 n3 .i64 16 (x0R f) 34 := ⟨hHeld.1.below hb hHeld.1.lt, hHeld.2.1.below hb hHeld.2.1.lt, hHeld.2.2.below hb hHeld.2.2.lt⟩
             have HBf := Aside0.mk (HBr.out.trans (hb.mono HBr.out.size))
             clear hb
             refine ⟨_, rfl, hK.out _ _ hSn (fun hHeld => ?_)⟩
             clear hSn hK K
             refine norm_ (a' := ?_) ?_ ?_
             rotate_left
             · show Act.put _ (some 10) _ = _
               simp only [Act.put, List.setIfInBounds_toArray, List.set_cons_zero, List.set_cons_succ, i64_w, i32_w]
               rfl
             exact norm_ (by first | (simp only [putAll, Act.put, List.setIfInBounds_toArray, List.set_cons_zero, List.set_cons_succ]; done) | (simp only [putAll, Act.put, List.setIfInBounds_toArray, List.set_cons_zero, List.set_cons_succ]; rfl)) (hJ1 () _ ⟨hHeld.1, hHeld.2.1, hHeld.2.2, HBf.out⟩)
           · skip
             refine event_step (by rfl) (v := .pointer (some ⟨w7.heap.size, 0, none⟩)) (w1 := w7.alloc (.cells (FR .i64 16 fun _ => 0) 34)) (by first | (go_simp; done) | (go_simp; rfl)) ?_
             have hSn : Row (w7.alloc (.cells (FR .i64 16 fun _ => 0) 34)) w.heap.size .i64 16 f 34 ∧ Row (w7.alloc (.cells (FR .i64 16 fun _ => 0) 34)) (w.heap.size + 1) .i64 16 (fun _ => 0) 34 ∧ Row (w7.alloc (.cells (FR .i64 16 fun _ => 0) 34)) n3 .i64 16 (x0R f) 34 := ⟨hHeld.1.alloc _, hHeld.2.1.alloc _, hHeld.2.2.alloc _⟩
             have HBf := Aside0.mk (HBr.out.alloc HBr.out.size (.cells (FR .i64 16 fun _ => 0) 34))
             have hlo5 : n3 < w7.heap.size := hHeld.2.2.lt
             have HR5 := Aside0.mk (Row.new w7 .i64 16 (fun _ => 0) 34)
             generalize w7.alloc (.cells (FR .i64 16 fun _ => 0) 34) = wf502 at hSn HBf HR5 ⊢
             refine hK.out _ _ hSn (fun hHeld => ?_)
             clear hSn hK K
             refine norm_ (a' := ?_) ?_ ?_
             rotate_left
             · show Act.put _ (some 5) _ = _
               simp only [Act.put, List.setIfInBounds_toArray, List.set_cons_zero, List.set_cons_succ, i64_w, i32_w]
               rfl
             exact norm_ (by first | (simp only [putAll, Act.put, List.setIfInBounds_toArray, List.set_cons_zero, List.set_cons_succ]; done) | (simp only [putAll, Act.put, List.setIfInBounds_toArray, List.set_cons_zero, List.set_cons_succ]; rfl)) (hJ5 w7.heap.size _ ⟨HR5.out, hHeld.1, hHeld.2.1, hHeld.2.2, HBf.out, hlo5⟩)
          ·skip
           rintro n5 wg ⟨HX5, hq0, hq1, hq2, hbj, hlo5⟩
           have HX5 := Aside0.mk HX5
           have HBj := Aside0.mk hbj
           clear hbj
           have hHeld : Row wg w.heap.size .i64 16 f 34 ∧ Row wg (w.heap.size + 1) .i64 16 (fun _ => 0) 34 ∧ Row wg n3 .i64 16 (x0R f) 34 := ⟨hq0, hq1, hq2⟩
           clear hq0 hq1 hq2
           refine norm_ (a' := ?_) ?_ ?_
           rotate_left
           · simp only [putAll, Act.put, List.setIfInBounds_toArray, List.set_cons_zero, List.set_cons_succ]
             rfl
           refine one_ (i := 1) (N := some 10) #[true, true, false, false, false, true, false] rfl rfl (one_of HT_.out (by kernel_rfl)) (by decide) (fun K hK => ?_)
           refine goes_ Tryd.func40 rfl rfl #[.int .i64 2] rfl rfl rfl (by simp only [List.map_toArray, List.map_cons, List.map_nil]; rfl) ((small_ref_calls 2 _ (by omega)).mono ?_)
           rintro e wf503 ⟨rfl, hb⟩
           have hSn : Row wf503 w.heap.size .i64 16 f 34 ∧ Row wf503 (w.heap.size + 1) .i64 16 (fun _ => 0) 34 ∧ Row wf503 n3 .i64 16 (x0R f) 34 := ⟨hHeld.1.below hb hHeld.1.lt, hHeld.2.1.below hb hHeld.2.1.lt, hHeld.2.2.below hb hHeld.2.2.lt⟩
           have HBf := Aside0.mk (HBj.out.trans (hb.mono HBj.out.size))
           have HR5 := Aside0.mk (HX5.out.below hb HX5.out.lt)
           clear hb
           refine ⟨_, rfl, hK.out _ _ hSn (fun hHeld => ?_)⟩
           clear hSn hK K
           refine norm_ (a' := ?_) ?_ ?_
           rotate_left
           · show Act.put _ (some 10) _ = _
             simp only [Act.put, List.setIfInBounds_toArray, List.set_cons_zero, List.set_cons_succ, i64_w, i32_w]
             rfl
           exact norm_ (by first | (simp only [putAll, Act.put, List.setIfInBounds_toArray, List.set_cons_zero, List.set_cons_succ]; done) | (simp only [putAll, Act.put, List.setIfInBounds_toArray, List.set_cons_zero, List.set_cons_succ]; rfl)) (hJ1_5 n5 _ ⟨HR5.out, hHeld.1, hHeld.2.1, hHeld.2.2, HBf.out, hlo5⟩)
         ·skip
          rintro _ wg ⟨hq0, hq1, hq2, hbj⟩
          have HBj := Aside0.mk hbj
          clear hbj
          have hHeld : Row wg w.heap.size .i64 16 f 34 ∧ Row wg (w.heap.size + 1) .i64 16 (fun _ => 0) 34 ∧ Row wg n3 .i64 16 (x0R f) 34 := ⟨hq0, hq1, hq2⟩
          clear hq0 hq1 hq2
          refine norm_ (a' := ?_) ?_ ?_
          rotate_left
          · simp only [putAll, Act.put, List.setIfInBounds_toArray, List.set_cons_zero, List.set_cons_succ]
            rfl
          refine two_ (i := 2) (j := 5) (Ni := some 11) (Nj := some 5) #[true, true, true, false, false, false, false] #[true, true, false, false, false, true, false] rfl rfl rfl rfl (by kernel_rfl) (by decide) (by decide) (fun K hK => ?_) (fun K hK => ?_)
          · skip
            refine goes_ Tryd.func61 rfl rfl #[.int .i64 253, .int .i64 5] rfl rfl rfl (by simp only [List.map_toArray, List.map_cons, List.map_nil]; rfl) ((Exponent_calls 253 5 _ (by omega) (by omega)).mono ?_)
            rintro e wf504 ⟨rfl, hb⟩
            have hSn : Row wf504 w.heap.size .i64 16 f 34 ∧ Row wf504 (w.heap.size + 1) .i64 16 (fun _ => 0) 34 ∧ Row wf504 n3 .i64 16 (x0R f) 34 := ⟨hHeld.1.below hb hHeld.1.lt, hHeld.2.1.below hb hHeld.2.1.lt, hHeld.2.2.below hb hHeld.2.2.lt⟩
            have HBf := Aside0.mk (HBj.out.trans (hb.mono HBj.out.size))
            clear hb
            refine ⟨_, rfl, hK.out _ _ hSn (fun hHeld => ?_)⟩
            clear hSn hK K
            refine norm_ (a' := ?_) ?_ ?_
            rotate_left
            · show Act.put _ (some 11) _ = _
              simp only [Act.put, List.setIfInBounds_toArray, List.set_cons_zero, List.set_cons_succ, i64_w, i32_w]
              rfl
            exact norm_ (by first | (simp only [putAll, Act.put, List.setIfInBounds_toArray, List.set_cons_zero, List.set_cons_succ]; done) | (simp only [putAll, Act.put, List.setIfInBounds_toArray, List.set_cons_zero, List.set_cons_succ]; rfl)) (hJ1_2 () _ ⟨hHeld.1, hHeld.2.1, hHeld.2.2, HBf.out⟩)
          · skip
            refine event_step (by rfl) (v := .pointer (some ⟨wg.heap.size, 0, none⟩)) (w1 := wg.alloc (.cells (FR .i64 16 fun _ => 0) 34)) (by first | (go_simp; done) | (go_simp; rfl)) ?_
            have hSn : Row (wg.alloc (.cells (FR .i64 16 fun _ => 0) 34)) w.heap.size .i64 16 f 34 ∧ Row (wg.alloc (.cells (FR .i64 16 fun _ => 0) 34)) (w.heap.size + 1) .i64 16 (fun _ => 0) 34 ∧ Row (wg.alloc (.cells (FR .i64 16 fun _ => 0) 34)) n3 .i64 16 (x0R f) 34 := ⟨hHeld.1.alloc _, hHeld.2.1.alloc _, hHeld.2.2.alloc _⟩
            have HBf := Aside0.mk (HBj.out.alloc HBj.out.size (.cells (FR .i64 16 fun _ => 0) 34))
            have hlo5 : n3 < wg.heap.size := hHeld.2.2.lt
            have HR5 := Aside0.mk (Row.new wg .i64 16 (fun _ => 0) 34)
            generalize wg.alloc (.cells (FR .i64 16 fun _ => 0) 34) = wf505 at hSn HBf HR5 ⊢
            refine hK.out _ _ hSn (fun hHeld => ?_)
            clear hSn hK K
            refine norm_ (a' := ?_) ?_ ?_
            rotate_left
            · show Act.put _ (some 5) _ = _
              simp only [Act.put, List.setIfInBounds_toArray, List.set_cons_zero, List.set_cons_succ, i64_w, i32_w]
              rfl
            exact norm_ (by first | (simp only [putAll, Act.put, List.setIfInBounds_toArray, List.set_cons_zero, List.set_cons_succ]; done) | (simp only [putAll, Act.put, List.setIfInBounds_toArray, List.set_cons_zero, List.set_cons_succ]; rfl)) (hJ1_5 wg.heap.size _ ⟨HR5.out, hHeld.1, hHeld.2.1, hHeld.2.2, HBf.out, hlo5⟩)
        ·skip
         rintro n5 wg ⟨HX5, hq0, hq1, hq2, hbj, hlo5⟩
         have HX5 := Aside0.mk HX5
         have HBj := Aside0.mk hbj
         clear hbj
         have hHeld : Row wg w.heap.size .i64 16 f 34 ∧ Row wg (w.heap.size + 1) .i64 16 (fun _ => 0) 34 ∧ Row wg n3 .i64 16 (x0R f) 34 := ⟨hq0, hq1, hq2⟩
         clear hq0 hq1 hq2
         refine norm_ (a' := ?_) ?_ ?_
         rotate_left
         · simp only [putAll, Act.put, List.setIfInBounds_toArray, List.set_cons_zero, List.set_cons_succ]
           rfl
         refine one_ (i := 2) (N := some 11) #[true, true, true, false, false, true, false] rfl rfl (one_of HT_.out (by kernel_rfl)) (by decide) (fun K hK => ?_)
         refine goes_ Tryd.func61 rfl rfl #[.int .i64 253, .int .i64 5] rfl rfl rfl (by simp only [List.map_toArray, List.map_cons, List.map_nil]; rfl) ((Exponent_calls 253 5 _ (by omega) (by omega)).mono ?_)
         rintro e wf506 ⟨rfl, hb⟩
         have hSn : Row wf506 w.heap.size .i64 16 f 34 ∧ Row wf506 (w.heap.size + 1) .i64 16 (fun _ => 0) 34 ∧ Row wf506 n3 .i64 16 (x0R f) 34 := ⟨hHeld.1.below hb hHeld.1.lt, hHeld.2.1.below hb hHeld.2.1.lt, hHeld.2.2.below hb hHeld.2.2.lt⟩
         have HBf := Aside0.mk (HBj.out.trans (hb.mono HBj.out.size))
         have HR5 := Aside0.mk (HX5.out.below hb HX5.out.lt)
         clear hb
         refine ⟨_, rfl, hK.out _ _ hSn (fun hHeld => ?_)⟩
         clear hSn hK K
         refine norm_ (a' := ?_) ?_ ?_
         rotate_left
         · show Act.put _ (some 11) _ = _
           simp only [Act.put, List.setIfInBounds_toArray, List.set_cons_zero, List.set_cons_succ, i64_w, i32_w]
           rfl
         exact norm_ (by first | (simp only [putAll, Act.put, List.setIfInBounds_toArray, List.set_cons_zero, List.set_cons_succ]; done) | (simp only [putAll, Act.put, List.setIfInBounds_toArray, List.set_cons_zero, List.set_cons_succ]; rfl)) (hJ1_2_5 n5 _ ⟨HR5.out, hHeld.1, hHeld.2.1, hHeld.2.2, HBf.out, hlo5⟩)
       ·skip
        rintro _ wg ⟨hq0, hq1, hq2, hbj⟩
        have HBj := Aside0.mk hbj
        clear hbj
        have hHeld : Row wg w.heap.size .i64 16 f 34 ∧ Row wg (w.heap.size + 1) .i64 16 (fun _ => 0) 34 ∧ Row wg n3 .i64 16 (x0R f) 34 := ⟨hq0, hq1, hq2⟩
        clear hq0 hq1 hq2
        refine norm_ (a' := ?_) ?_ ?_
        rotate_left
        · simp only [putAll, Act.put, List.setIfInBounds_toArray, List.set_cons_zero, List.set_cons_succ]
          rfl
        refine two_ (i := 3) (j := 5) (Ni := some 12) (Nj := some 5) #[true, true, true, true, false, false, false] #[true, true, true, false, false, true, false] rfl rfl rfl rfl (by kernel_rfl) (by decide) (by decide) (fun K hK => ?_) (fun K hK => ?_)
        · skip
          refine goes_ Tryd.func60 rfl rfl #[.agg (FR .i64 16 (carryN (fun i => if i = 0 then 2 else 0) 16)), .string (sOf (exB 253 5))] rfl rfl rfl (by simp only [List.map_toArray, List.map_cons, List.map_nil]; rfl) ((pow_ref _ (exB 253 5) _ (Re.small 2 (by omega)).1 (exB_By _ _)).mono ?_)
          rintro e wf507 ⟨rfl, hb⟩
          have hSn : Row wf507 w.heap.size .i64 16 f 34 ∧ Row wf507 (w.heap.size + 1) .i64 16 (fun _ => 0) 34 ∧ Row wf507 n3 .i64 16 (x0R f) 34 := ⟨hHeld.1.below hb hHeld.1.lt, hHeld.2.1.below hb hHeld.2.1.lt, hHeld.2.2.below hb hHeld.2.2.lt⟩
          have HBf := Aside0.mk (HBj.out.trans (hb.mono HBj.out.size))
          clear hb
          refine ⟨_, rfl, hK.out _ _ hSn (fun hHeld => ?_)⟩
          clear hSn hK K
          refine norm_ (a' := ?_) ?_ ?_
          rotate_left
          · show Act.put _ (some 12) _ = _
            simp only [Act.put, List.setIfInBounds_toArray, List.set_cons_zero, List.set_cons_succ, i64_w, i32_w]
            rfl
          exact norm_ (by first | (simp only [putAll, Act.put, List.setIfInBounds_toArray, List.set_cons_zero, List.set_cons_succ]; done) | (simp only [putAll, Act.put, List.setIfInBounds_toArray, List.set_cons_zero, List.set_cons_succ]; rfl)) (hJ1_2_3 () _ ⟨hHeld.1, hHeld.2.1, hHeld.2.2, HBf.out⟩)
        · skip
          refine event_step (by rfl) (v := .pointer (some ⟨wg.heap.size, 0, none⟩)) (w1 := wg.alloc (.cells (FR .i64 16 fun _ => 0) 34)) (by first | (go_simp; done) | (go_simp; rfl)) ?_
          have hSn : Row (wg.alloc (.cells (FR .i64 16 fun _ => 0) 34)) w.heap.size .i64 16 f 34 ∧ Row (wg.alloc (.cells (FR .i64 16 fun _ => 0) 34)) (w.heap.size + 1) .i64 16 (fun _ => 0) 34 ∧ Row (wg.alloc (.cells (FR .i64 16 fun _ => 0) 34)) n3 .i64 16 (x0R f) 34 := ⟨hHeld.1.alloc _, hHeld.2.1.alloc _, hHeld.2.2.alloc _⟩
          have HBf := Aside0.mk (HBj.out.alloc HBj.out.size (.cells (FR .i64 16 fun _ => 0) 34))
          have hlo5 : n3 < wg.heap.size := hHeld.2.2.lt
          have HR5 := Aside0.mk (Row.new wg .i64 16 (fun _ => 0) 34)
          generalize wg.alloc (.cells (FR .i64 16 fun _ => 0) 34) = wf508 at hSn HBf HR5 ⊢
          refine hK.out _ _ hSn (fun hHeld => ?_)
          clear hSn hK K
          refine norm_ (a' := ?_) ?_ ?_
          rotate_left
          · show Act.put _ (some 5) _ = _
            simp only [Act.put, List.setIfInBounds_toArray, List.set_cons_zero, List.set_cons_succ, i64_w, i32_w]
            rfl
          exact norm_ (by first | (simp only [putAll, Act.put, List.setIfInBounds_toArray, List.set_cons_zero, List.set_cons_succ]; done) | (simp only [putAll, Act.put, List.setIfInBounds_toArray, List.set_cons_zero, List.set_cons_succ]; rfl)) (hJ1_2_5 wg.heap.size _ ⟨HR5.out, hHeld.1, hHeld.2.1, hHeld.2.2, HBf.out, hlo5⟩)
      ·skip
       rintro n5 wg ⟨HX5, hq0, hq1, hq2, hbj, hlo5⟩
       have HX5 := Aside0.mk HX5
       have HBj := Aside0.mk hbj
       clear hbj
       have hHeld : Row wg w.heap.size .i64 16 f 34 ∧ Row wg (w.heap.size + 1) .i64 16 (fun _ => 0) 34 ∧ Row wg n3 .i64 16 (x0R f) 34 := ⟨hq0, hq1, hq2⟩
       clear hq0 hq1 hq2
       refine norm_ (a' := ?_) ?_ ?_
       rotate_left
       · simp only [putAll, Act.put, List.setIfInBounds_toArray, List.set_cons_zero, List.set_cons_succ]
         rfl
       refine one_ (i := 3) (N := some 12) #[true, true, true, true, false, true, false] rfl rfl (one_of HT_.out (by kernel_rfl)) (by decide) (fun K hK => ?_)
       refine goes_ Tryd.func60 rfl rfl #[.agg (FR .i64 16 (carryN (fun i => if i = 0 then 2 else 0) 16)), .string (sOf (exB 253 5))] rfl rfl rfl (by simp only [List.map_toArray, List.map_cons, List.map_nil]; rfl) ((pow_ref _ (exB 253 5) _ (Re.small 2 (by omega)).1 (exB_By _ _)).mono ?_)
       rintro e wf509 ⟨rfl, hb⟩
       have hSn : Row wf509 w.heap.size .i64 16 f 34 ∧ Row wf509 (w.heap.size + 1) .i64 16 (fun _ => 0) 34 ∧ Row wf509 n3 .i64 16 (x0R f) 34 := ⟨hHeld.1.below hb hHeld.1.lt, hHeld.2.1.below hb hHeld.2.1.lt, hHeld.2.2.below hb hHeld.2.2.lt⟩
       have HBf := Aside0.mk (HBj.out.trans (hb.mono HBj.out.size))
       have HR5 := Aside0.mk (HX5.out.below hb HX5.out.lt)
       clear hb
       refine ⟨_, rfl, hK.out _ _ hSn (fun hHeld => ?_)⟩
       clear hSn hK K
       refine norm_ (a' := ?_) ?_ ?_
       rotate_left
       · show Act.put _ (some 12) _ = _
         simp only [Act.put, List.setIfInBounds_toArray, List.set_cons_zero, List.set_cons_succ, i64_w, i32_w]
         rfl
       exact norm_ (by first | (simp only [putAll, Act.put, List.setIfInBounds_toArray, List.set_cons_zero, List.set_cons_succ]; done) | (simp only [putAll, Act.put, List.setIfInBounds_toArray, List.set_cons_zero, List.set_cons_succ]; rfl)) (hJ1_2_3_5 n5 _ ⟨HR5.out, hHeld.1, hHeld.2.1, hHeld.2.2, HBf.out, hlo5⟩)
     ·skip
      rintro _ wg ⟨hq0, hq1, hq2, hbj⟩
      have HBj := Aside0.mk hbj
      clear hbj
      have hHeld : Row wg w.heap.size .i64 16 f 34 ∧ Row wg (w.heap.size + 1) .i64 16 (fun _ => 0) 34 ∧ Row wg n3 .i64 16 (x0R f) 34 := ⟨hq0, hq1, hq2⟩
      clear hq0 hq1 hq2
      refine norm_ (a' := ?_) ?_ ?_
      rotate_left
      · simp only [putAll, Act.put, List.setIfInBounds_toArray, List.set_cons_zero, List.set_cons_succ]
        rfl
      refine two_ (i := 4) (j := 5) (Ni := some 13) (Nj := some 5) #[true, true, true, true, true, false, false] #[true, true, true, true, false, true, false] rfl rfl rfl rfl (by kernel_rfl) (by decide) (by decide) (fun K hK => ?_) (fun K hK => ?_)
      · skip
        refine goes_ Tryd.func41 rfl rfl #[.agg (FR .i64 16 (x0R f)), .agg (FR .i64 16 (iR))] rfl rfl rfl (by simp only [List.map_toArray, List.map_cons, List.map_nil]; rfl) ((mulR_c _ _ _ (x0R_Re HF.out).1 iR_Re.1).mono ?_)
        rintro e wf510 ⟨rfl, hb⟩
        have hSn : Row wf510 w.heap.size .i64 16 f 34 ∧ Row wf510 (w.heap.size + 1) .i64 16 (fun _ => 0) 34 ∧ Row wf510 n3 .i64 16 (x0R f) 34 := ⟨hHeld.1.below hb hHeld.1.lt, hHeld.2.1.below hb hHeld.2.1.lt, hHeld.2.2.below hb hHeld.2.2.lt⟩
        have HBf := Aside0.mk (HBj.out.trans (hb.mono HBj.out.size))
        clear hb
        refine ⟨_, rfl, hK.out _ _ hSn (fun hHeld => ?_)⟩
        clear hSn hK K
        refine norm_ (a' := ?_) ?_ ?_
        rotate_left
        · show Act.put _ (some 13) _ = _
          simp only [Act.put, List.setIfInBounds_toArray, List.set_cons_zero, List.set_cons_succ, i64_w, i32_w]
          rfl
        exact norm_ (by first | (simp only [putAll, Act.put, List.setIfInBounds_toArray, List.set_cons_zero, List.set_cons_succ]; done) | (simp only [putAll, Act.put, List.setIfInBounds_toArray, List.set_cons_zero, List.set_cons_succ]; rfl)) (hJ1_2_3_4 () _ ⟨hHeld.1, hHeld.2.1, hHeld.2.2, HBf.out⟩)
      · skip
        refine event_step (by rfl) (v := .pointer (some ⟨wg.heap.size, 0, none⟩)) (w1 := wg.alloc (.cells (FR .i64 16 fun _ => 0) 34)) (by first | (go_simp; done) | (go_simp; rfl)) ?_
        have hSn : Row (wg.alloc (.cells (FR .i64 16 fun _ => 0) 34)) w.heap.size .i64 16 f 34 ∧ Row (wg.alloc (.cells (FR .i64 16 fun _ => 0) 34)) (w.heap.size + 1) .i64 16 (fun _ => 0) 34 ∧ Row (wg.alloc (.cells (FR .i64 16 fun _ => 0) 34)) n3 .i64 16 (x0R f) 34 := ⟨hHeld.1.alloc _, hHeld.2.1.alloc _, hHeld.2.2.alloc _⟩
        have HBf := Aside0.mk (HBj.out.alloc HBj.out.size (.cells (FR .i64 16 fun _ => 0) 34))
        have hlo5 : n3 < wg.heap.size := hHeld.2.2.lt
        have HR5 := Aside0.mk (Row.new wg .i64 16 (fun _ => 0) 34)
        generalize wg.alloc (.cells (FR .i64 16 fun _ => 0) 34) = wf511 at hSn HBf HR5 ⊢
        refine hK.out _ _ hSn (fun hHeld => ?_)
        clear hSn hK K
        refine norm_ (a' := ?_) ?_ ?_
        rotate_left
        · show Act.put _ (some 5) _ = _
          simp only [Act.put, List.setIfInBounds_toArray, List.set_cons_zero, List.set_cons_succ, i64_w, i32_w]
          rfl
        exact norm_ (by first | (simp only [putAll, Act.put, List.setIfInBounds_toArray, List.set_cons_zero, List.set_cons_succ]; done) | (simp only [putAll, Act.put, List.setIfInBounds_toArray, List.set_cons_zero, List.set_cons_succ]; rfl)) (hJ1_2_3_5 wg.heap.size _ ⟨HR5.out, hHeld.1, hHeld.2.1, hHeld.2.2, HBf.out, hlo5⟩)
    ·skip
     rintro n5 wg ⟨HX5, hq0, hq1, hq2, hbj, hlo5⟩
     have HX5 := Aside0.mk HX5
     have HBj := Aside0.mk hbj
     clear hbj
     have hHeld : Row wg w.heap.size .i64 16 f 34 ∧ Row wg (w.heap.size + 1) .i64 16 (fun _ => 0) 34 ∧ Row wg n3 .i64 16 (x0R f) 34 := ⟨hq0, hq1, hq2⟩
     clear hq0 hq1 hq2
     refine norm_ (a' := ?_) ?_ ?_
     rotate_left
     · simp only [putAll, Act.put, List.setIfInBounds_toArray, List.set_cons_zero, List.set_cons_succ]
       rfl
     refine one_ (i := 4) (N := some 13) #[true, true, true, true, true, true, false] rfl rfl (one_of HT_.out (by kernel_rfl)) (by decide) (fun K hK => ?_)
     refine goes_ Tryd.func41 rfl rfl #[.agg (FR .i64 16 (x0R f)), .agg (FR .i64 16 (iR))] rfl rfl rfl (by simp only [List.map_toArray, List.map_cons, List.map_nil]; rfl) ((mulR_c _ _ _ (x0R_Re HF.out).1 iR_Re.1).mono ?_)
     rintro e wf512 ⟨rfl, hb⟩
     have hSn : Row wf512 w.heap.size .i64 16 f 34 ∧ Row wf512 (w.heap.size + 1) .i64 16 (fun _ => 0) 34 ∧ Row wf512 n3 .i64 16 (x0R f) 34 := ⟨hHeld.1.below hb hHeld.1.lt, hHeld.2.1.below hb hHeld.2.1.lt, hHeld.2.2.below hb hHeld.2.2.lt⟩
     have HBf := Aside0.mk (HBj.out.trans (hb.mono HBj.out.size))
     have HR5 := Aside0.mk (HX5.out.below hb HX5.out.lt)
     clear hb
     refine ⟨_, rfl, hK.out _ _ hSn (fun hHeld => ?_)⟩
     clear hSn hK K
     refine norm_ (a' := ?_) ?_ ?_
     rotate_left
     · show Act.put _ (some 13) _ = _
       simp only [Act.put, List.setIfInBounds_toArray, List.set_cons_zero, List.set_cons_succ, i64_w, i32_w]
       rfl
     exact norm_ (by first | (simp only [putAll, Act.put, List.setIfInBounds_toArray, List.set_cons_zero, List.set_cons_succ]; done) | (simp only [putAll, Act.put, List.setIfInBounds_toArray, List.set_cons_zero, List.set_cons_succ]; rfl)) (hJ1_2_3_4_5 n5 _ ⟨HR5.out, hHeld.1, hHeld.2.1, hHeld.2.2, HBf.out, hlo5⟩)
   ·skip
    rintro _ wg ⟨hq0, hq1, hq2, hbj⟩
    have HBj := Aside0.mk hbj
    clear hbj
    have hHeld : Row wg w.heap.size .i64 16 f 34 ∧ Row wg (w.heap.size + 1) .i64 16 (fun _ => 0) 34 ∧ Row wg n3 .i64 16 (x0R f) 34 := ⟨hq0, hq1, hq2⟩
    clear hq0 hq1 hq2
    refine norm_ (a' := ?_) ?_ ?_
    rotate_left
    · simp only [putAll, Act.put, List.setIfInBounds_toArray, List.set_cons_zero, List.set_cons_succ]
      rfl
    refine one_ (i := 5) (N := some 5) #[true, true, true, true, true, true, false] rfl rfl (one_of HT_.out (by kernel_rfl)) (by decide) (fun K hK => ?_)
    refine event_step (by rfl) (v := .pointer (some ⟨wg.heap.size, 0, none⟩)) (w1 := wg.alloc (.cells (FR .i64 16 fun _ => 0) 34)) (by first | (go_simp; done) | (go_simp; rfl)) ?_
    have hSn : Row (wg.alloc (.cells (FR .i64 16 fun _ => 0) 34)) w.heap.size .i64 16 f 34 ∧ Row (wg.alloc (.cells (FR .i64 16 fun _ => 0) 34)) (w.heap.size + 1) .i64 16 (fun _ => 0) 34 ∧ Row (wg.alloc (.cells (FR .i64 16 fun _ => 0) 34)) n3 .i64 16 (x0R f) 34 := ⟨hHeld.1.alloc _, hHeld.2.1.alloc _, hHeld.2.2.alloc _⟩
    have HBf := Aside0.mk (HBj.out.alloc HBj.out.size (.cells (FR .i64 16 fun _ => 0) 34))
    have hlo5 : n3 < wg.heap.size := hHeld.2.2.lt
    have HR5 := Aside0.mk (Row.new wg .i64 16 (fun _ => 0) 34)
    generalize wg.alloc (.cells (FR .i64 16 fun _ => 0) 34) = wf513 at hSn HBf HR5 ⊢
    refine hK.out _ _ hSn (fun hHeld => ?_)
    clear hSn hK K
    refine norm_ (a' := ?_) ?_ ?_
    rotate_left
    · show Act.put _ (some 5) _ = _
      simp only [Act.put, List.setIfInBounds_toArray, List.set_cons_zero, List.set_cons_succ, i64_w, i32_w]
      rfl
    exact norm_ (by first | (simp only [putAll, Act.put, List.setIfInBounds_toArray, List.set_cons_zero, List.set_cons_succ]; done) | (simp only [putAll, Act.put, List.setIfInBounds_toArray, List.set_cons_zero, List.set_cons_succ]; rfl)) (hJ1_2_3_4_5 wg.heap.size _ ⟨HR5.out, hHeld.1, hHeld.2.1, hHeld.2.2, HBf.out, hlo5⟩)
  rintro n5 wj ⟨HX5, hq0, hq1, hq2, hbj, hlo5⟩
  have HX5 := Aside0.mk HX5
  have HBj := Aside0.mk hbj
  clear hbj
  have hHeld : Row wj w.heap.size .i64 16 f 34 ∧ Row wj (w.heap.size + 1) .i64 16 (fun _ => 0) 34 ∧ Row wj n3 .i64 16 (x0R f) 34 := ⟨hq0, hq1, hq2⟩
  clear hq0 hq1 hq2
  refine norm_ (a' := ?_) ?_ ?_
  rotate_left
  · simp only [putAll, Act.put, List.setIfInBounds_toArray, List.set_cons_zero, List.set_cons_succ]
    rfl
  refine one_ (i := 6) (N := none) #[true, true, true, true, true, true, true] rfl rfl (one_of HT_.out (by kernel_rfl)) (by decide) (fun K hK => ?_)
  refine oper_storeG (mulR (x0R f) iR) HX5.out info33 rfl rfl rfl rfl rfl ?_
  intro ws514 hs hr
  have hSn : Row ws514 w.heap.size .i64 16 f 34 ∧ Row ws514 (w.heap.size + 1) .i64 16 (fun _ => 0) 34 ∧ Row ws514 n3 .i64 16 (x0R f) 34 := ⟨hHeld.1.stored hs (by omega), hHeld.2.1.stored hs (by omega), hHeld.2.2.stored hs (by omega)⟩
  have HX5 := Aside0.mk hr
  have HBs514 := Aside0.mk (hs.bel _ _ (by omega) HBj.out)
  clear hs hr
  refine hK.out _ _ hSn (fun hHeld => ?_)
  clear hSn hK K
  refine done_ (done_of HT_.out (by kernel_rfl)) ?_
  have hl0 := hHeld.1.lt
  have hl1 := hHeld.2.1.lt
  have HXA := Aside0.mk hHeld.1
  have HXZ := Aside0.mk hHeld.2.1
  have HX3 := Aside0.mk hHeld.2.2
  clear hHeld HT_ HW_
  try go_wp2
  cases hb0 : sq0 n
  · have HBV : Aside0 (decide (x0N n * x0N n % PP = n % PP) = false) := ⟨hb0⟩
    have HB0 := Aside0.mk hb0
    have HX1 : Aside0 (x1R f n = mulR (x0R f) iR) := ⟨x1R_n hb0⟩
    clear hb0
    have HY5 : Aside0 (Row ws514.drew n5 .i64 16 (mulR (x0R f) iR) 34) := ⟨HX5.out⟩
    have hh : Row ws514.drew w.heap.size .i64 16 f 34 ∧ Row ws514.drew (w.heap.size + 1) .i64 16 (fun _ => 0) 34 ∧ Row ws514.drew n3 .i64 16 (x0R f) 34 := ⟨HXA.out, HXZ.out, HX3.out⟩
    have HBq := Aside0.mk HBs514.out.drew
    clear HXA HXZ HX3 HBs514
    refine start_ (n := 6) (S := (fun w' => Row w' w.heap.size .i64 16 f 34 ∧ Row w' (w.heap.size + 1) .i64 16 (fun _ => 0) 34 ∧ Row w' n3 .i64 16 (x0R f) 34)) (ds := []) #[false, false, false, false, false, false] (by kernel_rfl) rfl rfl hh (fun hHeld => ?_); refine with_tabW tab3303 bits3303 (fun HT_ HW_ => ?_)
    generalize ws514.drew = wq at HBq hHeld hh HY5 ⊢
    clear hh
    refine take_ (i := 0) (N := some 14) (v := ?_) (a' := ?_) #[true, false, false, false, false, false] rfl rfl (take_ofW HT_.out HW_.out (by kernel_rfl)) (fun _ _ _ h => h) (Or.inl ⟨by rfl, ?_⟩) hHeld ?_ ?_
    rotate_left
    · intro w' hsw
      refine exec_load (x := .tmp 4) hsw.2.2 Tryd.underlying34 info33 rfl ?_ ?_ <;> rfl
    rotate_left
    · simp only [Act.put, List.setIfInBounds_toArray, List.set_cons_zero, List.set_cons_succ, i64_w, i32_w]
      rfl
    refine take_ (i := 1) (N := some 15) (v := ?_) (a' := ?_) #[true, true, false, false, false, false] rfl rfl (take_ofW HT_.out HW_.out (by kernel_rfl)) (fun _ _ _ h => h) (Or.inl ⟨by rfl, ?_⟩) hHeld ?_ ?_
    rotate_left
    · intro w' hsw
      refine exec_load (x := .tmp 4) hsw.2.2 Tryd.underlying34 info33 rfl ?_ ?_ <;> rfl
    rotate_left
    · simp only [Act.put, List.setIfInBounds_toArray, List.set_cons_zero, List.set_cons_succ, i64_w, i32_w]
      rfl
    refine take_ (i := 3) (N := some 17) (v := ?_) (a' := ?_) #[true, true, false, true, false, false] rfl rfl (take_ofW HT_.out HW_.out (by kernel_rfl)) (fun _ _ _ h => h) (Or.inl ⟨by rfl, ?_⟩) hHeld ?_ ?_
    rotate_left
    · intro w' hsw
      refine exec_load (x := .tmp 1) hsw.1 Tryd.underlying34 info33 rfl ?_ ?_ <;> rfl
    rotate_left
    · simp only [Act.put, List.setIfInBounds_toArray, List.set_cons_zero, List.set_cons_succ, i64_w, i32_w]
      rfl
    refine one_ (i := 2) (N := some 16) #[true, true, true, true, false, false] rfl rfl (one_of HT_.out (by kernel_rfl)) (by decide) (fun K hK => ?_)
    refine goes_ Tryd.func41 rfl rfl #[.agg (FR .i64 16 (x0R f)), .agg (FR .i64 16 (x0R f))] rfl rfl rfl (by simp only [List.map_toArray, List.map_cons, List.map_nil]; rfl) ((mulR_c _ _ _ (x0R_Re HF.out).1 (x0R_Re HF.out).1).mono ?_)
    rintro e wc1101 ⟨rfl, hb⟩
    have hSn : Row wc1101 w.heap.size .i64 16 f 34 ∧ Row wc1101 (w.heap.size + 1) .i64 16 (fun _ => 0) 34 ∧ Row wc1101 n3 .i64 16 (x0R f) 34 := ⟨hHeld.1.below hb hHeld.1.lt, hHeld.2.1.below hb hHeld.2.1.lt, hHeld.2.2.below hb hHeld.2.2.lt⟩
    have HBc1101 := Aside0.mk (HBq.out.trans (hb.mono HBq.out.size))
    have HY5 := Aside0.mk (HY5.out.below hb HY5.out.lt)
    clear hb
    refine ⟨_, rfl, hK.out _ _ hSn (fun hHeld => ?_)⟩
    clear hSn
    clear hK K
    refine norm_ (a' := ?_) ?_ ?_
    rotate_left
    · show Act.put _ (some 16) _ = _
      simp only [Act.put, List.setIfInBounds_toArray, List.set_cons_zero, List.set_cons_succ, i64_w, i32_w]
      rfl
    refine one_ (i := 4) (N := some 18) #[true, true, true, true, true, false] rfl rfl (one_of HT_.out (by kernel_rfl)) (by decide) (fun K hK => ?_)
    refine goes_ Tryd.func47 rfl rfl #[.agg (FR .i64 16 (mulR (x0R f) (x0R f))), .agg (FR .i64 16 (f))] rfl rfl rfl (by simp only [List.map_toArray, List.map_cons, List.map_nil]; rfl) ((refIs_bool ((x0R_Re HF.out).mul (x0R_Re HF.out)) HF.out false HBV.out _).mono ?_)
    rintro e wc1102 ⟨rfl, hb⟩
    have hSn : Row wc1102 w.heap.size .i64 16 f 34 ∧ Row wc1102 (w.heap.size + 1) .i64 16 (fun _ => 0) 34 ∧ Row wc1102 n3 .i64 16 (x0R f) 34 := ⟨hHeld.1.below hb hHeld.1.lt, hHeld.2.1.below hb hHeld.2.1.lt, hHeld.2.2.below hb hHeld.2.2.lt⟩
    have HBc1102 := Aside0.mk (HBc1101.out.trans (hb.mono HBc1101.out.size))
    have HY5 := Aside0.mk (HY5.out.below hb HY5.out.lt)
    clear hb
    refine ⟨_, rfl, hK.out _ _ hSn (fun hHeld => ?_)⟩
    clear hSn
    clear hK K
    refine norm_ (a' := ?_) ?_ ?_
    rotate_left
    · show Act.put _ (some 18) _ = _
      simp only [Act.put, List.setIfInBounds_toArray, List.set_cons_zero, List.set_cons_succ, i64_w, i32_w]
      rfl
    refine pure_ (i := 5) (N := some 19) (v := ?_) (a' := ?_) #[true, true, true, true, true, true] rfl rfl (any_of HT_.out (by kernel_rfl)) (fun _ _ _ h => h) (Or.inl ⟨by rfl, ?_⟩) ?_ ?_
    rotate_left
    · intro w'
      go_simp
      with_reducible rfl
    rotate_left
    · simp only [Act.put, List.setIfInBounds_toArray, List.set_cons_zero, List.set_cons_succ, i64_w, i32_w]
      rfl
    refine done_ (done_of HT_.out (by kernel_rfl)) ?_
    have HXA := Aside0.mk hHeld.1
    have HXZ := Aside0.mk hHeld.2.1
    have HX3 := Aside0.mk hHeld.2.2
    have hl3 := HX3.out.lt
    clear hHeld HT_ HW_ HBV
    go_wp2_with (first | refine step_load HY5.out Tryd.underlying34 info33 rfl rfl rfl rfl ?_ | (refine step_storeG (mulR (x0R f) iR) HX3.out info33 rfl rfl rfl rfl rfl ?_; intro wk hs hr; have hx3 := hr; have HXA2 := Aside0.mk (HXA.out.stored hs (by omega)); have HXZ2 := Aside0.mk (HXZ.out.stored hs (by omega)); have HBk := Aside0.mk (hs.bel _ _ (show w.heap.size ≤ n3 by omega) HBc1102.out); clear hs hr))
    have HX3 : Aside0 (Row wk n3 .i64 16 (x1R f n) 34) := ⟨by rw [HX1.out]; exact hx3⟩
    clear HXA HXZ hx3
    have HXA := HXA2
    have HXZ := HXZ2
    clear HXA2 HXZ2
    cases hb1 : rOk iZ n
    · have HBV : Aside0 (decide (x1N iZ n * x1N iZ n % PP = n % PP) = false) := ⟨hb1⟩
      have HB1 := Aside0.mk hb1
      clear hb1
      have hh : Row wk.drew w.heap.size .i64 16 f 34 ∧ Row wk.drew (w.heap.size + 1) .i64 16 (fun _ => 0) 34 ∧ Row wk.drew n3 .i64 16 (x1R f n) 34 := ⟨HXA.out, HXZ.out, HX3.out⟩
      have HBq := Aside0.mk HBk.out.drew
      clear HXA HXZ HX3 HBk
      refine start_ (n := 6) (S := (fun w' => Row w' w.heap.size .i64 16 f 34 ∧ Row w' (w.heap.size + 1) .i64 16 (fun _ => 0) 34 ∧ Row w' n3 .i64 16 (x1R f n) 34)) (ds := []) #[false, false, false, false, false, false] (by kernel_rfl) rfl rfl hh (fun hHeld => ?_); refine with_tabW tab3305 bits3305 (fun HT_ HW_ => ?_)
      generalize wk.drew = wq at HBq hHeld hh ⊢
      clear hh
      refine take_ (i := 0) (N := some 21) (v := ?_) (a' := ?_) #[true, false, false, false, false, false] rfl rfl (take_ofW HT_.out HW_.out (by kernel_rfl)) (fun _ _ _ h => h) (Or.inl ⟨by rfl, ?_⟩) hHeld ?_ ?_
      rotate_left
      · intro w' hsw
        refine exec_load (x := .tmp 4) hsw.2.2 Tryd.underlying34 info33 rfl ?_ ?_ <;> rfl
      rotate_left
      · simp only [Act.put, List.setIfInBounds_toArray, List.set_cons_zero, List.set_cons_succ, i64_w, i32_w]
        rfl
      refine take_ (i := 1) (N := some 22) (v := ?_) (a' := ?_) #[true, true, false, false, false, false] rfl rfl (take_ofW HT_.out HW_.out (by kernel_rfl)) (fun _ _ _ h => h) (Or.inl ⟨by rfl, ?_⟩) hHeld ?_ ?_
      rotate_left
      · intro w' hsw
        refine exec_load (x := .tmp 4) hsw.2.2 Tryd.underlying34 info33 rfl ?_ ?_ <;> rfl
      rotate_left
      · simp only [Act.put, List.setIfInBounds_toArray, List.set_cons_zero, List.set_cons_succ, i64_w, i32_w]
        rfl
      refine take_ (i := 3) (N := some 24) (v := ?_) (a' := ?_) #[true, true, false, true, false, false] rfl rfl (take_ofW HT_.out HW_.out (by kernel_rfl)) (fun _ _ _ h => h) (Or.inl ⟨by rfl, ?_⟩) hHeld ?_ ?_
      rotate_left
      · intro w' hsw
        refine exec_load (x := .tmp 1) hsw.1 Tryd.underlying34 info33 rfl ?_ ?_ <;> rfl
      rotate_left
      · simp only [Act.put, List.setIfInBounds_toArray, List.set_cons_zero, List.set_cons_succ, i64_w, i32_w]
        rfl
      refine one_ (i := 2) (N := some 23) #[true, true, true, true, false, false] rfl rfl (one_of HT_.out (by kernel_rfl)) (by decide) (fun K hK => ?_)
      refine goes_ Tryd.func41 rfl rfl #[.agg (FR .i64 16 (x1R f n)), .agg (FR .i64 16 (x1R f n))] rfl rfl rfl (by simp only [List.map_toArray, List.map_cons, List.map_nil]; rfl) ((mulR_c _ _ _ (x1R_Re HF.out).1 (x1R_Re HF.out).1).mono ?_)
      rintro e wc1801 ⟨rfl, hb⟩
      have hSn : Row wc1801 w.heap.size .i64 16 f 34 ∧ Row wc1801 (w.heap.size + 1) .i64 16 (fun _ => 0) 34 ∧ Row wc1801 n3 .i64 16 (x1R f n) 34 := ⟨hHeld.1.below hb hHeld.1.lt, hHeld.2.1.below hb hHeld.2.1.lt, hHeld.2.2.below hb hHeld.2.2.lt⟩
      have HBc1801 := Aside0.mk (HBq.out.trans (hb.mono HBq.out.size))
      clear hb
      refine ⟨_, rfl, hK.out _ _ hSn (fun hHeld => ?_)⟩
      clear hSn
      clear hK K
      refine norm_ (a' := ?_) ?_ ?_
      rotate_left
      · show Act.put _ (some 23) _ = _
        simp only [Act.put, List.setIfInBounds_toArray, List.set_cons_zero, List.set_cons_succ, i64_w, i32_w]
        rfl
      refine one_ (i := 4) (N := some 25) #[true, true, true, true, true, false] rfl rfl (one_of HT_.out (by kernel_rfl)) (by decide) (fun K hK => ?_)
      refine goes_ Tryd.func47 rfl rfl #[.agg (FR .i64 16 (mulR (x1R f n) (x1R f n))), .agg (FR .i64 16 (f))] rfl rfl rfl (by simp only [List.map_toArray, List.map_cons, List.map_nil]; rfl) ((refIs_bool ((x1R_Re HF.out).mul (x1R_Re HF.out)) HF.out false HBV.out _).mono ?_)
      rintro e wc1802 ⟨rfl, hb⟩
      have hSn : Row wc1802 w.heap.size .i64 16 f 34 ∧ Row wc1802 (w.heap.size + 1) .i64 16 (fun _ => 0) 34 ∧ Row wc1802 n3 .i64 16 (x1R f n) 34 := ⟨hHeld.1.below hb hHeld.1.lt, hHeld.2.1.below hb hHeld.2.1.lt, hHeld.2.2.below hb hHeld.2.2.lt⟩
      have HBc1802 := Aside0.mk (HBc1801.out.trans (hb.mono HBc1801.out.size))
      clear hb
      refine ⟨_, rfl, hK.out _ _ hSn (fun hHeld => ?_)⟩
      clear hSn
      clear hK K
      refine norm_ (a' := ?_) ?_ ?_
      rotate_left
      · show Act.put _ (some 25) _ = _
        simp only [Act.put, List.setIfInBounds_toArray, List.set_cons_zero, List.set_cons_succ, i64_w, i32_w]
        rfl
      refine pure_ (i := 5) (N := some 26) (v := ?_) (a' := ?_) #[true, true, true, true, true, true] rfl rfl (any_of HT_.out (by kernel_rfl)) (fun _ _ _ h => h) (Or.inl ⟨by rfl, ?_⟩) ?_ ?_
      rotate_left
      · intro w'
        go_simp
        with_reducible rfl
      rotate_left
      · simp only [Act.put, List.setIfInBounds_toArray, List.set_cons_zero, List.set_cons_succ, i64_w, i32_w]
        rfl
      refine done_ (done_of HT_.out (by kernel_rfl)) ?_
      have HXA := Aside0.mk hHeld.1
      have HXZ := Aside0.mk hHeld.2.1
      have HX3 := Aside0.mk hHeld.2.2
      have hl3 := HX3.out.lt
      clear hHeld HT_ HW_ HBV
      go_wp2_with (refine step_storeG (fun _ => 0) HXZ.out info33 rfl rfl rfl rfl rfl ?_; intro wz hs hr; have HSz := Aside0.mk hs; have HRz := Aside0.mk hr; clear hs hr)
      refine bodyPost_ret (row_results2 rfl HRz.out rfl Tryd.underlying34 rfl info33) rfl ?_
      refine ⟨?_, HSz.out.bel _ _ (by omega) HBc1802.out⟩
      rw [rtR_no HB1.out, HB1.out]
      rfl
    · have HBV : Aside0 (decide (x1N iZ n * x1N iZ n % PP = n % PP) = true) := ⟨hb1⟩
      have HB1 := Aside0.mk hb1
      clear hb1
      have hh : Row wk.drew w.heap.size .i64 16 f 34 ∧ Row wk.drew (w.heap.size + 1) .i64 16 (fun _ => 0) 34 ∧ Row wk.drew n3 .i64 16 (x1R f n) 34 := ⟨HXA.out, HXZ.out, HX3.out⟩
      have HBq := Aside0.mk HBk.out.drew
      clear HXA HXZ HX3 HBk
      refine start_ (n := 6) (S := (fun w' => Row w' w.heap.size .i64 16 f 34 ∧ Row w' (w.heap.size + 1) .i64 16 (fun _ => 0) 34 ∧ Row w' n3 .i64 16 (x1R f n) 34)) (ds := []) #[false, false, false, false, false, false] (by kernel_rfl) rfl rfl hh (fun hHeld => ?_); refine with_tabW tab3305 bits3305 (fun HT_ HW_ => ?_)
      generalize wk.drew = wq at HBq hHeld hh ⊢
      clear hh
      refine take_ (i := 0) (N := some 21) (v := ?_) (a' := ?_) #[true, false, false, false, false, false] rfl rfl (take_ofW HT_.out HW_.out (by kernel_rfl)) (fun _ _ _ h => h) (Or.inl ⟨by rfl, ?_⟩) hHeld ?_ ?_
      rotate_left
      · intro w' hsw
        refine exec_load (x := .tmp 4) hsw.2.2 Tryd.underlying34 info33 rfl ?_ ?_ <;> rfl
      rotate_left
      · simp only [Act.put, List.setIfInBounds_toArray, List.set_cons_zero, List.set_cons_succ, i64_w, i32_w]
        rfl
      refine take_ (i := 1) (N := some 22) (v := ?_) (a' := ?_) #[true, true, false, false, false, false] rfl rfl (take_ofW HT_.out HW_.out (by kernel_rfl)) (fun _ _ _ h => h) (Or.inl ⟨by rfl, ?_⟩) hHeld ?_ ?_
      rotate_left
      · intro w' hsw
        refine exec_load (x := .tmp 4) hsw.2.2 Tryd.underlying34 info33 rfl ?_ ?_ <;> rfl
      rotate_left
      · simp only [Act.put, List.setIfInBounds_toArray, List.set_cons_zero, List.set_cons_succ, i64_w, i32_w]
        rfl
      refine take_ (i := 3) (N := some 24) (v := ?_) (a' := ?_) #[true, true, false, true, false, false] rfl rfl (take_ofW HT_.out HW_.out (by kernel_rfl)) (fun _ _ _ h => h) (Or.inl ⟨by rfl, ?_⟩) hHeld ?_ ?_
      rotate_left
      · intro w' hsw
        refine exec_load (x := .tmp 1) hsw.1 Tryd.underlying34 info33 rfl ?_ ?_ <;> rfl
      rotate_left
      · simp only [Act.put, List.setIfInBounds_toArray, List.set_cons_zero, List.set_cons_succ, i64_w, i32_w]
        rfl
      refine one_ (i := 2) (N := some 23) #[true, true, true, true, false, false] rfl rfl (one_of HT_.out (by kernel_rfl)) (by decide) (fun K hK => ?_)
      refine goes_ Tryd.func41 rfl rfl #[.agg (FR .i64 16 (x1R f n)), .agg (FR .i64 16 (x1R f n))] rfl rfl rfl (by simp only [List.map_toArray, List.map_cons, List.map_nil]; rfl) ((mulR_c _ _ _ (x1R_Re HF.out).1 (x1R_Re HF.out).1).mono ?_)
      rintro e wc1821 ⟨rfl, hb⟩
      have hSn : Row wc1821 w.heap.size .i64 16 f 34 ∧ Row wc1821 (w.heap.size + 1) .i64 16 (fun _ => 0) 34 ∧ Row wc1821 n3 .i64 16 (x1R f n) 34 := ⟨hHeld.1.below hb hHeld.1.lt, hHeld.2.1.below hb hHeld.2.1.lt, hHeld.2.2.below hb hHeld.2.2.lt⟩
      have HBc1821 := Aside0.mk (HBq.out.trans (hb.mono HBq.out.size))
      clear hb
      refine ⟨_, rfl, hK.out _ _ hSn (fun hHeld => ?_)⟩
      clear hSn
      clear hK K
      refine norm_ (a' := ?_) ?_ ?_
      rotate_left
      · show Act.put _ (some 23) _ = _
        simp only [Act.put, List.setIfInBounds_toArray, List.set_cons_zero, List.set_cons_succ, i64_w, i32_w]
        rfl
      refine one_ (i := 4) (N := some 25) #[true, true, true, true, true, false] rfl rfl (one_of HT_.out (by kernel_rfl)) (by decide) (fun K hK => ?_)
      refine goes_ Tryd.func47 rfl rfl #[.agg (FR .i64 16 (mulR (x1R f n) (x1R f n))), .agg (FR .i64 16 (f))] rfl rfl rfl (by simp only [List.map_toArray, List.map_cons, List.map_nil]; rfl) ((refIs_bool ((x1R_Re HF.out).mul (x1R_Re HF.out)) HF.out true HBV.out _).mono ?_)
      rintro e wc1822 ⟨rfl, hb⟩
      have hSn : Row wc1822 w.heap.size .i64 16 f 34 ∧ Row wc1822 (w.heap.size + 1) .i64 16 (fun _ => 0) 34 ∧ Row wc1822 n3 .i64 16 (x1R f n) 34 := ⟨hHeld.1.below hb hHeld.1.lt, hHeld.2.1.below hb hHeld.2.1.lt, hHeld.2.2.below hb hHeld.2.2.lt⟩
      have HBc1822 := Aside0.mk (HBc1821.out.trans (hb.mono HBc1821.out.size))
      clear hb
      refine ⟨_, rfl, hK.out _ _ hSn (fun hHeld => ?_)⟩
      clear hSn
      clear hK K
      refine norm_ (a' := ?_) ?_ ?_
      rotate_left
      · show Act.put _ (some 25) _ = _
        simp only [Act.put, List.setIfInBounds_toArray, List.set_cons_zero, List.set_cons_succ, i64_w, i32_w]
        rfl
      refine pure_ (i := 5) (N := some 26) (v := ?_) (a' := ?_) #[true, true, true, true, true, true] rfl rfl (any_of HT_.out (by kernel_rfl)) (fun _ _ _ h => h) (Or.inl ⟨by rfl, ?_⟩) ?_ ?_
      rotate_left
      · intro w'
        go_simp
        with_reducible rfl
      rotate_left
      · simp only [Act.put, List.setIfInBounds_toArray, List.set_cons_zero, List.set_cons_succ, i64_w, i32_w]
        rfl
      refine done_ (done_of HT_.out (by kernel_rfl)) ?_
      have HXA := Aside0.mk hHeld.1
      have HXZ := Aside0.mk hHeld.2.1
      have HX3 := Aside0.mk hHeld.2.2
      have hl3 := HX3.out.lt
      clear hHeld HT_ HW_ HBV
      go_wp2_with (refine step_load HX3.out Tryd.underlying34 info33 rfl rfl rfl rfl ?_)
      cases hod : rOdd iZ n
      · refine (refOdd_bool (x1R_Re HF.out) false hod _).mono ?_
        rintro e wo ⟨rfl, hb⟩
        have HXZ2 := Aside0.mk (HXZ.out.below hb HXZ.out.lt)
        have HX32 := Aside0.mk (HX3.out.below hb HX3.out.lt)
        have HBo := Aside0.mk (HBc1822.out.trans (hb.mono HBc1822.out.size))
        have HOD := Aside0.mk hod
        have hlz2 := HXZ2.out.lt
        clear hb hod
        go_wp2_with (first | refine step_load HX32.out Tryd.underlying34 info33 rfl rfl rfl rfl ?_ | (refine step_storeG (x1R f n) HXZ2.out info33 rfl rfl rfl rfl rfl ?_; intro wz hs hr; have HSz := Aside0.mk hs; have HRz := Aside0.mk hr; clear hs hr))
        refine bodyPost_ret (row_results2 rfl HRz.out rfl Tryd.underlying34 rfl info33) rfl ?_
        refine ⟨?_, HSz.out.bel _ _ (by omega) HBo.out⟩
        rw [rtR_n HB1.out HOD.out, HB1.out]
        rfl
      · refine (refOdd_bool (x1R_Re HF.out) true hod _).mono ?_
        rintro e wo ⟨rfl, hb⟩
        have HXZ2 := Aside0.mk (HXZ.out.below hb HXZ.out.lt)
        have HX32 := Aside0.mk (HX3.out.below hb HX3.out.lt)
        have HBo := Aside0.mk (HBc1822.out.trans (hb.mono HBc1822.out.size))
        have HOD := Aside0.mk hod
        have hlz2 := HXZ2.out.lt
        clear hb hod
        go_wp2_with (refine step_load HX32.out Tryd.underlying34 info33 rfl rfl rfl rfl ?_)
        refine (subR_c _ _ _ Re.zero.1 (x1R_Re HF.out).1).mono ?_
        rintro e wn ⟨rfl, hb⟩
        have HXZ3 := Aside0.mk (HXZ2.out.below hb HXZ2.out.lt)
        have HX33 := Aside0.mk (HX32.out.below hb HX32.out.lt)
        have HBn := Aside0.mk (HBo.out.trans (hb.mono HBo.out.size))
        clear hb
        go_wp2_with (first | (refine step_storeG (subR (fun _ => 0) (x1R f n)) HX33.out info33 rfl rfl rfl rfl rfl ?_; intro wy hs hr; have HBy := Aside0.mk (hs.bel _ _ (show w.heap.size ≤ n3 by omega) HBn.out); have HX34 := Aside0.mk hr; have HXZ4 := Aside0.mk (HXZ3.out.stored hs (by omega)); clear hs hr) | refine step_load HX34.out Tryd.underlying34 info33 rfl rfl rfl rfl ?_ | (refine step_storeG (subR (fun _ => 0) (x1R f n)) HXZ4.out info33 rfl rfl rfl rfl rfl ?_; intro wz hs hr; have HSz := Aside0.mk hs; have HRz := Aside0.mk hr; clear hs hr))
        refine bodyPost_ret (row_results2 rfl HRz.out rfl Tryd.underlying34 rfl info33) rfl ?_
        refine ⟨?_, HSz.out.bel _ _ (by omega) HBy.out⟩
        rw [rtR_y HB1.out HOD.out, HB1.out]
        rfl
  · have HBV : Aside0 (decide (x0N n * x0N n % PP = n % PP) = true) := ⟨hb0⟩
    have HB0 := Aside0.mk hb0
    have HX1 : Aside0 (x1R f n = x0R f) := ⟨x1R_y hb0⟩
    clear hb0
    have HY5 : Aside0 (Row ws514.drew n5 .i64 16 (mulR (x0R f) iR) 34) := ⟨HX5.out⟩
    have hh : Row ws514.drew w.heap.size .i64 16 f 34 ∧ Row ws514.drew (w.heap.size + 1) .i64 16 (fun _ => 0) 34 ∧ Row ws514.drew n3 .i64 16 (x0R f) 34 := ⟨HXA.out, HXZ.out, HX3.out⟩
    have HBq := Aside0.mk HBs514.out.drew
    clear HXA HXZ HX3 HBs514
    refine start_ (n := 6) (S := (fun w' => Row w' w.heap.size .i64 16 f 34 ∧ Row w' (w.heap.size + 1) .i64 16 (fun _ => 0) 34 ∧ Row w' n3 .i64 16 (x0R f) 34)) (ds := []) #[false, false, false, false, false, false] (by kernel_rfl) rfl rfl hh (fun hHeld => ?_); refine with_tabW tab3303 bits3303 (fun HT_ HW_ => ?_)
    generalize ws514.drew = wq at HBq hHeld hh HY5 ⊢
    clear hh
    refine take_ (i := 0) (N := some 14) (v := ?_) (a' := ?_) #[true, false, false, false, false, false] rfl rfl (take_ofW HT_.out HW_.out (by kernel_rfl)) (fun _ _ _ h => h) (Or.inl ⟨by rfl, ?_⟩) hHeld ?_ ?_
    rotate_left
    · intro w' hsw
      refine exec_load (x := .tmp 4) hsw.2.2 Tryd.underlying34 info33 rfl ?_ ?_ <;> rfl
    rotate_left
    · simp only [Act.put, List.setIfInBounds_toArray, List.set_cons_zero, List.set_cons_succ, i64_w, i32_w]
      rfl
    refine take_ (i := 1) (N := some 15) (v := ?_) (a' := ?_) #[true, true, false, false, false, false] rfl rfl (take_ofW HT_.out HW_.out (by kernel_rfl)) (fun _ _ _ h => h) (Or.inl ⟨by rfl, ?_⟩) hHeld ?_ ?_
    rotate_left
    · intro w' hsw
      refine exec_load (x := .tmp 4) hsw.2.2 Tryd.underlying34 info33 rfl ?_ ?_ <;> rfl
    rotate_left
    · simp only [Act.put, List.setIfInBounds_toArray, List.set_cons_zero, List.set_cons_succ, i64_w, i32_w]
      rfl
    refine take_ (i := 3) (N := some 17) (v := ?_) (a' := ?_) #[true, true, false, true, false, false] rfl rfl (take_ofW HT_.out HW_.out (by kernel_rfl)) (fun _ _ _ h => h) (Or.inl ⟨by rfl, ?_⟩) hHeld ?_ ?_
    rotate_left
    · intro w' hsw
      refine exec_load (x := .tmp 1) hsw.1 Tryd.underlying34 info33 rfl ?_ ?_ <;> rfl
    rotate_left
    · simp only [Act.put, List.setIfInBounds_toArray, List.set_cons_zero, List.set_cons_succ, i64_w, i32_w]
      rfl
    refine one_ (i := 2) (N := some 16) #[true, true, true, true, false, false] rfl rfl (one_of HT_.out (by kernel_rfl)) (by decide) (fun K hK => ?_)
    refine goes_ Tryd.func41 rfl rfl #[.agg (FR .i64 16 (x0R f)), .agg (FR .i64 16 (x0R f))] rfl rfl rfl (by simp only [List.map_toArray, List.map_cons, List.map_nil]; rfl) ((mulR_c _ _ _ (x0R_Re HF.out).1 (x0R_Re HF.out).1).mono ?_)
    rintro e wc1001 ⟨rfl, hb⟩
    have hSn : Row wc1001 w.heap.size .i64 16 f 34 ∧ Row wc1001 (w.heap.size + 1) .i64 16 (fun _ => 0) 34 ∧ Row wc1001 n3 .i64 16 (x0R f) 34 := ⟨hHeld.1.below hb hHeld.1.lt, hHeld.2.1.below hb hHeld.2.1.lt, hHeld.2.2.below hb hHeld.2.2.lt⟩
    have HBc1001 := Aside0.mk (HBq.out.trans (hb.mono HBq.out.size))
    have HY5 := Aside0.mk (HY5.out.below hb HY5.out.lt)
    clear hb
    refine ⟨_, rfl, hK.out _ _ hSn (fun hHeld => ?_)⟩
    clear hSn
    clear hK K
    refine norm_ (a' := ?_) ?_ ?_
    rotate_left
    · show Act.put _ (some 16) _ = _
      simp only [Act.put, List.setIfInBounds_toArray, List.set_cons_zero, List.set_cons_succ, i64_w, i32_w]
      rfl
    refine one_ (i := 4) (N := some 18) #[true, true, true, true, true, false] rfl rfl (one_of HT_.out (by kernel_rfl)) (by decide) (fun K hK => ?_)
    refine goes_ Tryd.func47 rfl rfl #[.agg (FR .i64 16 (mulR (x0R f) (x0R f))), .agg (FR .i64 16 (f))] rfl rfl rfl (by simp only [List.map_toArray, List.map_cons, List.map_nil]; rfl) ((refIs_bool ((x0R_Re HF.out).mul (x0R_Re HF.out)) HF.out true HBV.out _).mono ?_)
    rintro e wc1002 ⟨rfl, hb⟩
    have hSn : Row wc1002 w.heap.size .i64 16 f 34 ∧ Row wc1002 (w.heap.size + 1) .i64 16 (fun _ => 0) 34 ∧ Row wc1002 n3 .i64 16 (x0R f) 34 := ⟨hHeld.1.below hb hHeld.1.lt, hHeld.2.1.below hb hHeld.2.1.lt, hHeld.2.2.below hb hHeld.2.2.lt⟩
    have HBc1002 := Aside0.mk (HBc1001.out.trans (hb.mono HBc1001.out.size))
    have HY5 := Aside0.mk (HY5.out.below hb HY5.out.lt)
    clear hb
    refine ⟨_, rfl, hK.out _ _ hSn (fun hHeld => ?_)⟩
    clear hSn
    clear hK K
    refine norm_ (a' := ?_) ?_ ?_
    rotate_left
    · show Act.put _ (some 18) _ = _
      simp only [Act.put, List.setIfInBounds_toArray, List.set_cons_zero, List.set_cons_succ, i64_w, i32_w]
      rfl
    refine pure_ (i := 5) (N := some 19) (v := ?_) (a' := ?_) #[true, true, true, true, true, true] rfl rfl (any_of HT_.out (by kernel_rfl)) (fun _ _ _ h => h) (Or.inl ⟨by rfl, ?_⟩) ?_ ?_
    rotate_left
    · intro w'
      go_simp
      with_reducible rfl
    rotate_left
    · simp only [Act.put, List.setIfInBounds_toArray, List.set_cons_zero, List.set_cons_succ, i64_w, i32_w]
      rfl
    refine done_ (done_of HT_.out (by kernel_rfl)) ?_
    have HXA := Aside0.mk hHeld.1
    have HXZ := Aside0.mk hHeld.2.1
    have HX3 := Aside0.mk hHeld.2.2
    have hl3 := HX3.out.lt
    clear hHeld HT_ HW_ HBV
    have HX3 : Aside0 (Row wc1002 n3 .i64 16 (x1R f n) 34) := ⟨by rw [HX1.out]; exact HX3.out⟩
    go_wp2_with fail
    cases hb1 : rOk iZ n
    · have HBV : Aside0 (decide (x1N iZ n * x1N iZ n % PP = n % PP) = false) := ⟨hb1⟩
      have HB1 := Aside0.mk hb1
      clear hb1
      have hh : Row wc1002.drew w.heap.size .i64 16 f 34 ∧ Row wc1002.drew (w.heap.size + 1) .i64 16 (fun _ => 0) 34 ∧ Row wc1002.drew n3 .i64 16 (x1R f n) 34 := ⟨HXA.out, HXZ.out, HX3.out⟩
      have HBq := Aside0.mk HBc1002.out.drew
      clear HXA HXZ HX3 HBc1002
      refine start_ (n := 6) (S := (fun w' => Row w' w.heap.size .i64 16 f 34 ∧ Row w' (w.heap.size + 1) .i64 16 (fun _ => 0) 34 ∧ Row w' n3 .i64 16 (x1R f n) 34)) (ds := []) #[false, false, false, false, false, false] (by kernel_rfl) rfl rfl hh (fun hHeld => ?_); refine with_tabW tab3305 bits3305 (fun HT_ HW_ => ?_)
      generalize wc1002.drew = wq at HBq hHeld hh ⊢
      clear hh
      refine take_ (i := 0) (N := some 21) (v := ?_) (a' := ?_) #[true, false, false, false, false, false] rfl rfl (take_ofW HT_.out HW_.out (by kernel_rfl)) (fun _ _ _ h => h) (Or.inl ⟨by rfl, ?_⟩) hHeld ?_ ?_
      rotate_left
      · intro w' hsw
        refine exec_load (x := .tmp 4) hsw.2.2 Tryd.underlying34 info33 rfl ?_ ?_ <;> rfl
      rotate_left
      · simp only [Act.put, List.setIfInBounds_toArray, List.set_cons_zero, List.set_cons_succ, i64_w, i32_w]
        rfl
      refine take_ (i := 1) (N := some 22) (v := ?_) (a' := ?_) #[true, true, false, false, false, false] rfl rfl (take_ofW HT_.out HW_.out (by kernel_rfl)) (fun _ _ _ h => h) (Or.inl ⟨by rfl, ?_⟩) hHeld ?_ ?_
      rotate_left
      · intro w' hsw
        refine exec_load (x := .tmp 4) hsw.2.2 Tryd.underlying34 info33 rfl ?_ ?_ <;> rfl
      rotate_left
      · simp only [Act.put, List.setIfInBounds_toArray, List.set_cons_zero, List.set_cons_succ, i64_w, i32_w]
        rfl
      refine take_ (i := 3) (N := some 24) (v := ?_) (a' := ?_) #[true, true, false, true, false, false] rfl rfl (take_ofW HT_.out HW_.out (by kernel_rfl)) (fun _ _ _ h => h) (Or.inl ⟨by rfl, ?_⟩) hHeld ?_ ?_
      rotate_left
      · intro w' hsw
        refine exec_load (x := .tmp 1) hsw.1 Tryd.underlying34 info33 rfl ?_ ?_ <;> rfl
      rotate_left
      · simp only [Act.put, List.setIfInBounds_toArray, List.set_cons_zero, List.set_cons_succ, i64_w, i32_w]
        rfl
      refine one_ (i := 2) (N := some 23) #[true, true, true, true, false, false] rfl rfl (one_of HT_.out (by kernel_rfl)) (by decide) (fun K hK => ?_)
      refine goes_ Tryd.func41 rfl rfl #[.agg (FR .i64 16 (x1R f n)), .agg (FR .i64 16 (x1R f n))] rfl rfl rfl (by simp only [List.map_toArray, List.map_cons, List.map_nil]; rfl) ((mulR_c _ _ _ (x1R_Re HF.out).1 (x1R_Re HF.out).1).mono ?_)
      rintro e wc1401 ⟨rfl, hb⟩
      have hSn : Row wc1401 w.heap.size .i64 16 f 34 ∧ Row wc1401 (w.heap.size + 1) .i64 16 (fun _ => 0) 34 ∧ Row wc1401 n3 .i64 16 (x1R f n) 34 := ⟨hHeld.1.below hb hHeld.1.lt, hHeld.2.1.below hb hHeld.2.1.lt, hHeld.2.2.below hb hHeld.2.2.lt⟩
      have HBc1401 := Aside0.mk (HBq.out.trans (hb.mono HBq.out.size))
      clear hb
      refine ⟨_, rfl, hK.out _ _ hSn (fun hHeld => ?_)⟩
      clear hSn
      clear hK K
      refine norm_ (a' := ?_) ?_ ?_
      rotate_left
      · show Act.put _ (some 23) _ = _
        simp only [Act.put, List.setIfInBounds_toArray, List.set_cons_zero, List.set_cons_succ, i64_w, i32_w]
        rfl
      refine one_ (i := 4) (N := some 25) #[true, true, true, true, true, false] rfl rfl (one_of HT_.out (by kernel_rfl)) (by decide) (fun K hK => ?_)
      refine goes_ Tryd.func47 rfl rfl #[.agg (FR .i64 16 (mulR (x1R f n) (x1R f n))), .agg (FR .i64 16 (f))] rfl rfl rfl (by simp only [List.map_toArray, List.map_cons, List.map_nil]; rfl) ((refIs_bool ((x1R_Re HF.out).mul (x1R_Re HF.out)) HF.out false HBV.out _).mono ?_)
      rintro e wc1402 ⟨rfl, hb⟩
      have hSn : Row wc1402 w.heap.size .i64 16 f 34 ∧ Row wc1402 (w.heap.size + 1) .i64 16 (fun _ => 0) 34 ∧ Row wc1402 n3 .i64 16 (x1R f n) 34 := ⟨hHeld.1.below hb hHeld.1.lt, hHeld.2.1.below hb hHeld.2.1.lt, hHeld.2.2.below hb hHeld.2.2.lt⟩
      have HBc1402 := Aside0.mk (HBc1401.out.trans (hb.mono HBc1401.out.size))
      clear hb
      refine ⟨_, rfl, hK.out _ _ hSn (fun hHeld => ?_)⟩
      clear hSn
      clear hK K
      refine norm_ (a' := ?_) ?_ ?_
      rotate_left
      · show Act.put _ (some 25) _ = _
        simp only [Act.put, List.setIfInBounds_toArray, List.set_cons_zero, List.set_cons_succ, i64_w, i32_w]
        rfl
      refine pure_ (i := 5) (N := some 26) (v := ?_) (a' := ?_) #[true, true, true, true, true, true] rfl rfl (any_of HT_.out (by kernel_rfl)) (fun _ _ _ h => h) (Or.inl ⟨by rfl, ?_⟩) ?_ ?_
      rotate_left
      · intro w'
        go_simp
        with_reducible rfl
      rotate_left
      · simp only [Act.put, List.setIfInBounds_toArray, List.set_cons_zero, List.set_cons_succ, i64_w, i32_w]
        rfl
      refine done_ (done_of HT_.out (by kernel_rfl)) ?_
      have HXA := Aside0.mk hHeld.1
      have HXZ := Aside0.mk hHeld.2.1
      have HX3 := Aside0.mk hHeld.2.2
      have hl3 := HX3.out.lt
      clear hHeld HT_ HW_ HBV
      go_wp2_with (refine step_storeG (fun _ => 0) HXZ.out info33 rfl rfl rfl rfl rfl ?_; intro wz hs hr; have HSz := Aside0.mk hs; have HRz := Aside0.mk hr; clear hs hr)
      refine bodyPost_ret (row_results2 rfl HRz.out rfl Tryd.underlying34 rfl info33) rfl ?_
      refine ⟨?_, HSz.out.bel _ _ (by omega) HBc1402.out⟩
      rw [rtR_no HB1.out, HB1.out]
      rfl
    · have HBV : Aside0 (decide (x1N iZ n * x1N iZ n % PP = n % PP) = true) := ⟨hb1⟩
      have HB1 := Aside0.mk hb1
      clear hb1
      have hh : Row wc1002.drew w.heap.size .i64 16 f 34 ∧ Row wc1002.drew (w.heap.size + 1) .i64 16 (fun _ => 0) 34 ∧ Row wc1002.drew n3 .i64 16 (x1R f n) 34 := ⟨HXA.out, HXZ.out, HX3.out⟩
      have HBq := Aside0.mk HBc1002.out.drew
      clear HXA HXZ HX3 HBc1002
      refine start_ (n := 6) (S := (fun w' => Row w' w.heap.size .i64 16 f 34 ∧ Row w' (w.heap.size + 1) .i64 16 (fun _ => 0) 34 ∧ Row w' n3 .i64 16 (x1R f n) 34)) (ds := []) #[false, false, false, false, false, false] (by kernel_rfl) rfl rfl hh (fun hHeld => ?_); refine with_tabW tab3305 bits3305 (fun HT_ HW_ => ?_)
      generalize wc1002.drew = wq at HBq hHeld hh ⊢
      clear hh
      refine take_ (i := 0) (N := some 21) (v := ?_) (a' := ?_) #[true, false, false, false, false, false] rfl rfl (take_ofW HT_.out HW_.out (by kernel_rfl)) (fun _ _ _ h => h) (Or.inl ⟨by rfl, ?_⟩) hHeld ?_ ?_
      rotate_left
      · intro w' hsw
        refine exec_load (x := .tmp 4) hsw.2.2 Tryd.underlying34 info33 rfl ?_ ?_ <;> rfl
      rotate_left
      · simp only [Act.put, List.setIfInBounds_toArray, List.set_cons_zero, List.set_cons_succ, i64_w, i32_w]
        rfl
      refine take_ (i := 1) (N := some 22) (v := ?_) (a' := ?_) #[true, true, false, false, false, false] rfl rfl (take_ofW HT_.out HW_.out (by kernel_rfl)) (fun _ _ _ h => h) (Or.inl ⟨by rfl, ?_⟩) hHeld ?_ ?_
      rotate_left
      · intro w' hsw
        refine exec_load (x := .tmp 4) hsw.2.2 Tryd.underlying34 info33 rfl ?_ ?_ <;> rfl
      rotate_left
      · simp only [Act.put, List.setIfInBounds_toArray, List.set_cons_zero, List.set_cons_succ, i64_w, i32_w]
        rfl
      refine take_ (i := 3) (N := some 24) (v := ?_) (a' := ?_) #[true, true, false, true, false, false] rfl rfl (take_ofW HT_.out HW_.out (by kernel_rfl)) (fun _ _ _ h => h) (Or.inl ⟨by rfl, ?_⟩) hHeld ?_ ?_
      rotate_left
      · intro w' hsw
        refine exec_load (x := .tmp 1) hsw.1 Tryd.underlying34 info33 rfl ?_ ?_ <;> rfl
      rotate_left
      · simp only [Act.put, List.setIfInBounds_toArray, List.set_cons_zero, List.set_cons_succ, i64_w, i32_w]
        rfl
      refine one_ (i := 2) (N := some 23) #[true, true, true, true, false, false] rfl rfl (one_of HT_.out (by kernel_rfl)) (by decide) (fun K hK => ?_)
      refine goes_ Tryd.func41 rfl rfl #[.agg (FR .i64 16 (x1R f n)), .agg (FR .i64 16 (x1R f n))] rfl rfl rfl (by simp only [List.map_toArray, List.map_cons, List.map_nil]; rfl) ((mulR_c _ _ _ (x1R_Re HF.out).1 (x1R_Re HF.out).1).mono ?_)
      rintro e wc1421 ⟨rfl, hb⟩
      have hSn : Row wc1421 w.heap.size .i64 16 f 34 ∧ Row wc1421 (w.heap.size + 1) .i64 16 (fun _ => 0) 34 ∧ Row wc1421 n3 .i64 16 (x1R f n) 34 := ⟨hHeld.1.below hb hHeld.1.lt, hHeld.2.1.below hb hHeld.2.1.lt, hHeld.2.2.below hb hHeld.2.2.lt⟩
      have HBc1421 := Aside0.mk (HBq.out.trans (hb.mono HBq.out.size))
      clear hb
      refine ⟨_, rfl, hK.out _ _ hSn (fun hHeld => ?_)⟩
      clear hSn
      clear hK K
      refine norm_ (a' := ?_) ?_ ?_
      rotate_left
      · show Act.put _ (some 23) _ = _
        simp only [Act.put, List.setIfInBounds_toArray, List.set_cons_zero, List.set_cons_succ, i64_w, i32_w]
        rfl
      refine one_ (i := 4) (N := some 25) #[true, true, true, true, true, false] rfl rfl (one_of HT_.out (by kernel_rfl)) (by decide) (fun K hK => ?_)
      refine goes_ Tryd.func47 rfl rfl #[.agg (FR .i64 16 (mulR (x1R f n) (x1R f n))), .agg (FR .i64 16 (f))] rfl rfl rfl (by simp only [List.map_toArray, List.map_cons, List.map_nil]; rfl) ((refIs_bool ((x1R_Re HF.out).mul (x1R_Re HF.out)) HF.out true HBV.out _).mono ?_)
      rintro e wc1422 ⟨rfl, hb⟩
      have hSn : Row wc1422 w.heap.size .i64 16 f 34 ∧ Row wc1422 (w.heap.size + 1) .i64 16 (fun _ => 0) 34 ∧ Row wc1422 n3 .i64 16 (x1R f n) 34 := ⟨hHeld.1.below hb hHeld.1.lt, hHeld.2.1.below hb hHeld.2.1.lt, hHeld.2.2.below hb hHeld.2.2.lt⟩
      have HBc1422 := Aside0.mk (HBc1421.out.trans (hb.mono HBc1421.out.size))
      clear hb
      refine ⟨_, rfl, hK.out _ _ hSn (fun hHeld => ?_)⟩
      clear hSn
      clear hK K
      refine norm_ (a' := ?_) ?_ ?_
      rotate_left
      · show Act.put _ (some 25) _ = _
        simp only [Act.put, List.setIfInBounds_toArray, List.set_cons_zero, List.set_cons_succ, i64_w, i32_w]
        rfl
      refine pure_ (i := 5) (N := some 26) (v := ?_) (a' := ?_) #[true, true, true, true, true, true] rfl rfl (any_of HT_.out (by kernel_rfl)) (fun _ _ _ h => h) (Or.inl ⟨by rfl, ?_⟩) ?_ ?_
      rotate_left
      · intro w'
        go_simp
        with_reducible rfl
      rotate_left
      · simp only [Act.put, List.setIfInBounds_toArray, List.set_cons_zero, List.set_cons_succ, i64_w, i32_w]
        rfl
      refine done_ (done_of HT_.out (by kernel_rfl)) ?_
      have HXA := Aside0.mk hHeld.1
      have HXZ := Aside0.mk hHeld.2.1
      have HX3 := Aside0.mk hHeld.2.2
      have hl3 := HX3.out.lt
      clear hHeld HT_ HW_ HBV
      go_wp2_with (refine step_load HX3.out Tryd.underlying34 info33 rfl rfl rfl rfl ?_)
      cases hod : rOdd iZ n
      · refine (refOdd_bool (x1R_Re HF.out) false hod _).mono ?_
        rintro e wo ⟨rfl, hb⟩
        have HXZ2 := Aside0.mk (HXZ.out.below hb HXZ.out.lt)
        have HX32 := Aside0.mk (HX3.out.below hb HX3.out.lt)
        have HBo := Aside0.mk (HBc1422.out.trans (hb.mono HBc1422.out.size))
        have HOD := Aside0.mk hod
        have hlz2 := HXZ2.out.lt
        clear hb hod
        go_wp2_with (first | refine step_load HX32.out Tryd.underlying34 info33 rfl rfl rfl rfl ?_ | (refine step_storeG (x1R f n) HXZ2.out info33 rfl rfl rfl rfl rfl ?_; intro wz hs hr; have HSz := Aside0.mk hs; have HRz := Aside0.mk hr; clear hs hr))
        refine bodyPost_ret (row_results2 rfl HRz.out rfl Tryd.underlying34 rfl info33) rfl ?_
        refine ⟨?_, HSz.out.bel _ _ (by omega) HBo.out⟩
        rw [rtR_n HB1.out HOD.out, HB1.out]
        rfl
      · refine (refOdd_bool (x1R_Re HF.out) true hod _).mono ?_
        rintro e wo ⟨rfl, hb⟩
        have HXZ2 := Aside0.mk (HXZ.out.below hb HXZ.out.lt)
        have HX32 := Aside0.mk (HX3.out.below hb HX3.out.lt)
        have HBo := Aside0.mk (HBc1422.out.trans (hb.mono HBc1422.out.size))
        have HOD := Aside0.mk hod
        have hlz2 := HXZ2.out.lt
        clear hb hod
        go_wp2_with (refine step_load HX32.out Tryd.underlying34 info33 rfl rfl rfl rfl ?_)
        refine (subR_c _ _ _ Re.zero.1 (x1R_Re HF.out).1).mono ?_
        rintro e wn ⟨rfl, hb⟩
        have HXZ3 := Aside0.mk (HXZ2.out.below hb HXZ2.out.lt)
        have HX33 := Aside0.mk (HX32.out.below hb HX32.out.lt)
        have HBn := Aside0.mk (HBo.out.trans (hb.mono HBo.out.size))
        clear hb
        go_wp2_with (first | (refine step_storeG (subR (fun _ => 0) (x1R f n)) HX33.out info33 rfl rfl rfl rfl rfl ?_; intro wy hs hr; have HBy := Aside0.mk (hs.bel _ _ (show w.heap.size ≤ n3 by omega) HBn.out); have HX34 := Aside0.mk hr; have HXZ4 := Aside0.mk (HXZ3.out.stored hs (by omega)); clear hs hr) | refine step_load HX34.out Tryd.underlying34 info33 rfl rfl rfl rfl ?_ | (refine step_storeG (subR (fun _ => 0) (x1R f n)) HXZ4.out info33 rfl rfl rfl rfl rfl ?_; intro wz hs hr; have HSz := Aside0.mk hs; have HRz := Aside0.mk hr; clear hs hr))
        refine bodyPost_ret (row_results2 rfl HRz.out rfl Tryd.underlying34 rfl info33) rfl ?_
        refine ⟨?_, HSz.out.bel _ _ (by omega) HBy.out⟩
        rw [rtR_y HB1.out HOD.out, HB1.out]
        rfl
end Go.Proofs.YtaaipbhfikefaaaDoor.P.Fd
end

section
namespace Go.Proofs.YtaaipbhfikefaaaDoor.P
set_option linter.unusedVariables false
set_option linter.unusedSimpArgs false
open Go.RowKit Go.ChangeShapes Go.WideShapes Go.Proofs.YtaaipbhfikefaaaDoorW.PrintWords Go.Proofs.YtaaipbhfikefaaaDoorW.PrintLast Go.Proofs.YtaaipbhfikefaaaDoorW.PrintMore
open Go.Proofs.YtaaipbhfikefaaaDoor.P.Fd
theorem infoPt : (Tryd.prog.info? 28).map (·.size) = some 20 := by kernel_rfl
theorem infoPr : (Tryd.prog.info? 36).map (·.size) = some 64 := by kernel_rfl
theorem infoEl : (Tryd.prog.info? 26).map (·.size) = some 5 := by kernel_rfl
theorem infoNu : (Tryd.prog.info? 34).map (·.size) = some 16 := by kernel_rfl
theorem infoB3 : (Tryd.prog.info? 22).map (·.size) = some 32 := by kernel_rfl
/-- A part of a row. -/
def co (F : Nat → Int) (o j : Nat) : Int := F (o + j)
def pt4 (a b c d : Nat → Int) (i : Nat) : Int := if i < 5 then a i else if i < 10 then b (i - 5) else if i < 15 then c (i - 10) else d (i - 15)
def pr4 (a b c d : Nat → Int) (i : Nat) : Int := if i < 16 then a i else if i < 32 then b (i - 16) else if i < 48 then c (i - 32) else d (i - 48)
theorem build_pt (a b c d : Nat → Int) (w : World) : (Instr.build 28 #[(0, .agg (FR .u64 5 a)), (1, .agg (FR .u64 5 b)), (2, .agg (FR .u64 5 c)), (3, .agg (FR .u64 5 d))]).run Tryd.prog w = .ok (.agg (FR .u64 20 (pt4 a b c d))) w := by kernel_rfl
theorem build_pr (a b c d : Nat → Int) (w : World) : (Instr.build 36 #[(0, .agg (FR .i64 16 a)), (1, .agg (FR .i64 16 b)), (2, .agg (FR .i64 16 c)), (3, .agg (FR .i64 16 d))]).run Tryd.prog w = .ok (.agg (FR .i64 64 (pr4 a b c d))) w := by kernel_rfl
theorem build_z (b c : Nat → Int) (w : World) : (Instr.build 28 #[(1, .agg (FR .u64 5 b)), (2, .agg (FR .u64 5 c))]).run Tryd.prog w = .ok (.agg (FR .u64 20 (pt4 (fun _ => 0) b c fun _ => 0))) w := by kernel_rfl
theorem build_zr (b c : Nat → Int) (w : World) : (Instr.build 36 #[(1, .agg (FR .i64 16 b)), (2, .agg (FR .i64 16 c))]).run Tryd.prog w = .ok (.agg (FR .i64 64 (pr4 (fun _ => 0) b c fun _ => 0))) w := by kernel_rfl
/-- The curve's number. -/
def dL : List Int := [163, 120, 89, 19, 202, 77, 235, 117, 171, 216, 65, 65, 77, 10, 112, 0, 152, 232, 121, 119, 121, 64, 199, 140, 115, 254, 111, 43, 238, 108, 3, 82]
def dB (j : Nat) : Int := dL.getD j 0
theorem dB_By : By dB := fun j hj => by
  have h : ∀ j, j < 32 → 0 ≤ dB j ∧ dB j < 256 := by decide
  exact h j hj
def TabD (w : World) : Prop := ∀ j, j < 32 → w.cell? ((⟨0, 0, none⟩ : Addr).add j) = some (.int .u8 (dB j))
theorem TabD.lt {w : World} (h : TabD w) : 0 < w.heap.size := block_lt_of_cell (h 0 (by omega))
theorem TabD.below {w w' : World} {B : Nat} (h : TabD w) (hb : Below B w w') (hB : 0 < B) : TabD w' := fun j hj => by
  rw [hb.cell (p := (⟨0, 0, none⟩ : Addr).add j) (by unfold Addr.add; split <;> exact hB)]; exact h j hj
theorem TabD.at {w : World} (h : TabD w) (w' : World) (hb : Below w.heap.size w w') : ∀ j, j < 32 → w'.cell? ((⟨0, 0, none⟩ : Addr).add j) = some (.int .u8 (dB j)) := h.below hb h.lt
theorem lmul {f g : Nat → Int} (hf : Lm f) (hg : Lm g) : Lm (mulE f g) := (Fe.mul (n := V51 f) (m := V51 g) ⟨hf, rfl⟩ ⟨hg, rfl⟩).1
theorem ladd {f g : Nat → Int} (hf : Lm f) (hg : Lm g) : Lm (addE f g) := (Fe.add (n := V51 f) (m := V51 g) ⟨hf, rfl⟩ ⟨hg, rfl⟩).1
theorem lsub {f g : Nat → Int} (hf : Lm f) (hg : Lm g) : Lm (subE f g) := (Fe.sub (n := V51 f) (m := V51 g) ⟨hf, rfl⟩ ⟨hg, rfl⟩).1
theorem lneg {g : Nat → Int} (hg : Lm g) : Lm (negE g) := (Fe.neg (m := V51 g) ⟨hg, rfl⟩).1
theorem linv {g : Nat → Int} (hg : Lm g) : Lm (invE g) := (Fe.inv (n := V51 g) ⟨hg, rfl⟩).1
theorem lof {b : Nat → Int} (hb : By b) : Lm (carr (ofL b)) := (Fe.of b hb).1
theorem rmul {f g : Nat → Int} (hf : Rn f) (hg : Rn g) : Rn (mulR f g) := (Re.mul (n := V16 f) (m := V16 g) ⟨hf, rfl⟩ ⟨hg, rfl⟩).1
theorem radd {f g : Nat → Int} (hf : Rn f) (hg : Rn g) : Rn (addR f g) := (Re.add (n := V16 f) (m := V16 g) ⟨hf, rfl⟩ ⟨hg, rfl⟩).1
theorem rsub {f g : Nat → Int} (hf : Rn f) (hg : Rn g) : Rn (subR f g) := (Re.sub (n := V16 f) (m := V16 g) ⟨hf, rfl⟩ ⟨hg, rfl⟩).1
def PL (F : Nat → Int) : Prop := Lm (co F 0) ∧ Lm (co F 5) ∧ Lm (co F 10) ∧ Lm (co F 15)
def PR (F : Nat → Int) : Prop := Rn (co F 0) ∧ Rn (co F 16) ∧ Rn (co F 32) ∧ Rn (co F 48)
theorem lm_same {f g : Nat → Int} (h : ∀ j, j < 5 → f j = g j) (hf : Lm f) : Lm g :=
  ⟨fun j hj => by rw [← h j (by omega)]; exact hf.1 j hj, by rw [← h 4 (by omega)]; exact hf.2⟩
theorem rn_same {f g : Nat → Int} (h : ∀ j, j < 16 → f j = g j) (hf : Rn f) : Rn g :=
  ⟨fun j hj h0 => by rw [← h j hj]; exact hf.1 j hj h0, by rw [← h 0 (by omega)]; exact hf.2⟩
theorem co_pt {a b c d : Nat → Int} : (∀ j, j < 5 → a j = co (pt4 a b c d) 0 j) ∧ (∀ j, j < 5 → b j = co (pt4 a b c d) 5 j) ∧ (∀ j, j < 5 → c j = co (pt4 a b c d) 10 j) ∧ (∀ j, j < 5 → d j = co (pt4 a b c d) 15 j) := by
  unfold co pt4
  refine ⟨fun j hj => ?_, fun j hj => ?_, fun j hj => ?_, fun j hj => ?_⟩
  · rw [if_pos (by omega), Nat.zero_add]
  · rw [if_neg (by omega), if_pos (by omega)]; congr 1; omega
  · rw [if_neg (by omega), if_neg (by omega), if_pos (by omega)]; congr 1; omega
  · rw [if_neg (by omega), if_neg (by omega), if_neg (by omega)]; congr 1; omega
theorem co_pr {a b c d : Nat → Int} : (∀ j, j < 16 → a j = co (pr4 a b c d) 0 j) ∧ (∀ j, j < 16 → b j = co (pr4 a b c d) 16 j) ∧ (∀ j, j < 16 → c j = co (pr4 a b c d) 32 j) ∧ (∀ j, j < 16 → d j = co (pr4 a b c d) 48 j) := by
  unfold co pr4
  refine ⟨fun j hj => ?_, fun j hj => ?_, fun j hj => ?_, fun j hj => ?_⟩
  · rw [if_pos (by omega), Nat.zero_add]
  · rw [if_neg (by omega), if_pos (by omega)]; congr 1; omega
  · rw [if_neg (by omega), if_neg (by omega), if_pos (by omega)]; congr 1; omega
  · rw [if_neg (by omega), if_neg (by omega), if_neg (by omega)]; congr 1; omega
theorem pl_pt {a b c d : Nat → Int} (ha : Lm a) (hb : Lm b) (hc : Lm c) (hd : Lm d) : PL (pt4 a b c d) := ⟨lm_same co_pt.1 ha, lm_same co_pt.2.1 hb, lm_same co_pt.2.2.1 hc, lm_same co_pt.2.2.2 hd⟩
theorem pr_pr {a b c d : Nat → Int} (ha : Rn a) (hb : Rn b) (hc : Rn c) (hd : Rn d) : PR (pr4 a b c d) := ⟨rn_same co_pr.1 ha, rn_same co_pr.2.1 hb, rn_same co_pr.2.2.1 hc, rn_same co_pr.2.2.2 hd⟩
end Go.Proofs.YtaaipbhfikefaaaDoor.P
end

section
namespace Go.Proofs.YtaaipbhfikefaaaDoor.P
open Go.ChangeShapes Go.WideShapes
theorem gCd : Tryd.prog.globalNamed "hustings/curve.d" = some 0 := by kernel_rfl
theorem tCd : (Tryd.prog.globals[(0 : Nat)]?).map (·.type) = some 22 := by kernel_rfl
theorem cellsD : Tryd.prog.cellsOf 22 = 32 := by kernel_rfl
theorem cellsU8 : Tryd.prog.cellsOf 5 = 1 := by kernel_rfl
theorem cd_of {W : World} (h : laidMetH Tryd.prog [("hustings/curve.d", Rows.laid_hustings_curve_d)] W) : TabD W := by
  rw [MakeChecks.laidMetH_plain _ _ _ (by kernel_rfl)] at h
  have hT : Lib.TabIs Tryd.prog W "hustings/curve.d" .u8 dL := Lib.tabIs_of_head gCd tCd Tryd.underlying22 Tryd.underlying5 cellsU8 cellsD h
  intro j hj
  have hc := hT.cell gCd j hj
  have e : (⟨0, 0, none⟩ : Addr).add j = ⟨0, j, none⟩ := by
    unfold Addr.add
    split
    · subst_vars; rfl
    · simp
  rw [e, hc]
  rfl
end Go.Proofs.YtaaipbhfikefaaaDoor.P
end

section
namespace Go.Proofs.YtaaipbhfikefaaaDoor.P
set_option linter.unusedVariables false
section
variable {n : Nat} [NeZero n]
/-- The ring is a field, the curve's number is no square, -1 is one, and 2 isn't 0. -/
structure Fld (n : Nat) [NeZero n] (d : Fin n) : Prop where
  inv : ∀ a : Fin n, a ≠ 0 → ∃ b, a * b = 1
  one : (1 : Fin n) ≠ 0
  two : (2 : Fin n) ≠ 0
  im : ∃ i : Fin n, i * i = -1
  nsq : ∀ z : Fin n, z * z ≠ d
theorem Fld.dom {d : Fin n} (h : Fld n d) {a b : Fin n} (e : a * b = 0) : a = 0 ∨ b = 0 := by
  by_cases ha : a = 0
  · exact .inl ha
  · obtain ⟨c, hc⟩ := h.inv a ha
    right
    grind
theorem Fld.cancel {d : Fin n} (h : Fld n d) {a b c : Fin n} (hc : c ≠ 0) (e : a * c = b * c) : a = b := by
  obtain ⟨k, hk⟩ := h.inv c hc
  grind
theorem Fld.mul_ne {d : Fin n} (h : Fld n d) {a b : Fin n} (ha : a ≠ 0) (hb : b ≠ 0) : a * b ≠ 0 := fun e => by
  rcases h.dom e with h1 | h1
  · exact ha h1
  · exact hb h1
/-- A point. -/
def OnC (d x y : Fin n) : Prop := y * y - x * x = 1 + d * x * x * y * y
theorem sq_key (d x1 y1 x2 y2 i s : Fin n) (hi : i * i = -1) (h1 : OnC d x1 y1) (h2 : OnC d x2 y2) (ht : d * x1 * x2 * y1 * y2 = s) (hs : s * s = 1) :
    (i * x1 + s * y1) * (i * x1 + s * y1) = d * ((x1 * y1 * (i * x2 + y2)) * (x1 * y1 * (i * x2 + y2))) := by
  unfold OnC at h1 h2
  grind
theorem sq_key' (d x1 y1 x2 y2 i s : Fin n) (hi : i * i = -1) (h1 : OnC d x1 y1) (h2 : OnC d x2 y2) (ht : d * x1 * x2 * y1 * y2 = s) (hs : s * s = 1) :
    (i * x1 - s * y1) * (i * x1 - s * y1) = d * ((x1 * y1 * (i * x2 - y2)) * (x1 * y1 * (i * x2 - y2))) := by
  unfold OnC at h1 h2
  grind
/-- No square stands beside the curve's number. -/
theorem Fld.no_sq {d : Fin n} (h : Fld n d) {a b : Fin n} (hb : b ≠ 0) : a * a ≠ d * (b * b) := fun e => by
  obtain ⟨c, hc⟩ := h.inv b hb
  exact h.nsq (a * c) (by grind)
/-- The denominators aren't 0. -/
theorem Fld.den {d : Fin n} (h : Fld n d) {x1 y1 x2 y2 : Fin n} (h1 : OnC d x1 y1) (h2 : OnC d x2 y2) (hs : (d * x1 * x2 * y1 * y2) * (d * x1 * x2 * y1 * y2) = 1) : False := by
  obtain ⟨i, hi⟩ := h.im
  obtain ⟨s, ht⟩ : ∃ s, d * x1 * x2 * y1 * y2 = s := ⟨_, rfl⟩
  rw [ht] at hs
  have hs0 : s ≠ 0 := fun e => h.one (by rw [← hs, e]; grind)
  have hx1 : x1 ≠ 0 := fun e => hs0 (by rw [← ht, e]; grind)
  have hy1 : y1 ≠ 0 := fun e => hs0 (by rw [← ht, e]; grind)
  have hy2 : y2 ≠ 0 := fun e => hs0 (by rw [← ht, e]; grind)
  have k1 := sq_key d x1 y1 x2 y2 i s hi h1 h2 ht hs
  have k2 := sq_key' d x1 y1 x2 y2 i s hi h1 h2 ht hs
  by_cases c1 : i * x2 + y2 = 0
  · by_cases c2 : i * x2 - y2 = 0
    · have : 2 * y2 = 0 := by grind
      rcases h.dom this with e | e
      · exact h.two e
      · exact hy2 e
    · exact h.no_sq (h.mul_ne (h.mul_ne hx1 hy1) c2) k2
  · exact h.no_sq (h.mul_ne (h.mul_ne hx1 hy1) c1) k1
theorem Fld.den1 {d : Fin n} (h : Fld n d) {x1 y1 x2 y2 : Fin n} (h1 : OnC d x1 y1) (h2 : OnC d x2 y2) : 1 + d * x1 * x2 * y1 * y2 ≠ 0 := fun e => h.den h1 h2 (by grind)
theorem Fld.den2 {d : Fin n} (h : Fld n d) {x1 y1 x2 y2 : Fin n} (h1 : OnC d x1 y1) (h2 : OnC d x2 y2) : 1 - d * x1 * x2 * y1 * y2 ≠ 0 := fun e => h.den h1 h2 (by grind)
/-- (x3, y3) is the sum of (x1, y1) and (x2, y2). -/
def IsSum (d x1 y1 x2 y2 x3 y3 : Fin n) : Prop := x3 * (1 + d * x1 * x2 * y1 * y2) = x1 * y2 + y1 * x2 ∧ y3 * (1 - d * x1 * x2 * y1 * y2) = y1 * y2 + x1 * x2
theorem Fld.sum {d : Fin n} (h : Fld n d) {x1 y1 x2 y2 : Fin n} (h1 : OnC d x1 y1) (h2 : OnC d x2 y2) : ∃ x3 y3, IsSum d x1 y1 x2 y2 x3 y3 := by
  obtain ⟨a, ha⟩ := h.inv _ (h.den1 h1 h2)
  obtain ⟨b, hb⟩ := h.inv _ (h.den2 h1 h2)
  exact ⟨(x1 * y2 + y1 * x2) * a, (y1 * y2 + x1 * x2) * b, by unfold IsSum; constructor <;> grind⟩
theorem closed_key (x1 y1 x2 y2 d : Fin n) (e1 : OnC d x1 y1) (e2 : OnC d x2 y2) :
    (y1 * y2 + x1 * x2) * (y1 * y2 + x1 * x2) * ((1 + d * x1 * x2 * y1 * y2) * (1 + d * x1 * x2 * y1 * y2)) - (x1 * y2 + y1 * x2) * (x1 * y2 + y1 * x2) * ((1 - d * x1 * x2 * y1 * y2) * (1 - d * x1 * x2 * y1 * y2))
      = (1 + d * x1 * x2 * y1 * y2) * (1 + d * x1 * x2 * y1 * y2) * ((1 - d * x1 * x2 * y1 * y2) * (1 - d * x1 * x2 * y1 * y2)) + d * (y1 * y2 + x1 * x2) * (y1 * y2 + x1 * x2) * ((x1 * y2 + y1 * x2) * (x1 * y2 + y1 * x2)) := by
  unfold OnC at e1 e2
  grind
theorem Fld.closed {d : Fin n} (h : Fld n d) {x1 y1 x2 y2 x3 y3 : Fin n} (h1 : OnC d x1 y1) (h2 : OnC d x2 y2) (hs : IsSum d x1 y1 x2 y2 x3 y3) : OnC d x3 y3 := by
  have k := closed_key x1 y1 x2 y2 d h1 h2
  have n1 := h.den1 h1 h2
  have n2 := h.den2 h1 h2
  obtain ⟨s1, s2⟩ := hs
  rw [← s1, ← s2] at k
  generalize 1 + d * x1 * x2 * y1 * y2 = a at *
  generalize 1 - d * x1 * x2 * y1 * y2 = b at *
  unfold OnC
  refine h.cancel (h.mul_ne (h.mul_ne n1 n1) (h.mul_ne n2 n2)) ?_
  clear s1 s2 n1 n2 h1 h2
  grind
theorem Fld.uniq {d : Fin n} (h : Fld n d) {x1 y1 x2 y2 x3 y3 x4 y4 : Fin n} (h1 : OnC d x1 y1) (h2 : OnC d x2 y2) (hs : IsSum d x1 y1 x2 y2 x3 y3) (hs' : IsSum d x1 y1 x2 y2 x4 y4) : x3 = x4 ∧ y3 = y4 :=
  ⟨h.cancel (h.den1 h1 h2) (hs.1.trans hs'.1.symm), h.cancel (h.den2 h1 h2) (hs.2.trans hs'.2.symm)⟩
theorem IsSum.comm {d x1 y1 x2 y2 x3 y3 : Fin n} (h : IsSum d x1 y1 x2 y2 x3 y3) : IsSum d x2 y2 x1 y1 x3 y3 := by
  unfold IsSum at *
  constructor <;> grind
theorem IsSum.zero (d x y : Fin n) : IsSum d x y 0 1 x y := by unfold IsSum; constructor <;> grind
theorem IsSum.neg {d x y : Fin n} (h : OnC d x y) : IsSum d x y (-x) y 0 1 := by unfold IsSum OnC at *; constructor <;> grind
theorem OnC.neg {d x y : Fin n} (h : OnC d x y) : OnC d (-x) y := by unfold OnC at *; grind
theorem OnC.zero (d : Fin n) : OnC d 0 1 := by unfold OnC; grind
theorem assocX (x1 y1 x2 y2 x3 y3 d : Fin n) (e1 : OnC d x1 y1) (e2 : OnC d x2 y2) (e3 : OnC d x3 y3) :
    ((x1 * y2 + y1 * x2) * y3 * (1 - d * x1 * x2 * y1 * y2) + (y1 * y2 + x1 * x2) * x3 * (1 + d * x1 * x2 * y1 * y2)) * ((1 - d * x2 * x3 * y2 * y3) * (1 + d * x2 * x3 * y2 * y3) + d * x1 * y1 * (x2 * y3 + y2 * x3) * (y2 * y3 + x2 * x3))
      = (x1 * (y2 * y3 + x2 * x3) * (1 + d * x2 * x3 * y2 * y3) + y1 * (x2 * y3 + y2 * x3) * (1 - d * x2 * x3 * y2 * y3)) * ((1 - d * x1 * x2 * y1 * y2) * (1 + d * x1 * x2 * y1 * y2) + d * (x1 * y2 + y1 * x2) * (y1 * y2 + x1 * x2) * x3 * y3) := by
  unfold OnC at e1 e2 e3
  grind
theorem assocY (x1 y1 x2 y2 x3 y3 d : Fin n) (e1 : OnC d x1 y1) (e2 : OnC d x2 y2) (e3 : OnC d x3 y3) :
    ((y1 * y2 + x1 * x2) * y3 * (1 + d * x1 * x2 * y1 * y2) + (x1 * y2 + y1 * x2) * x3 * (1 - d * x1 * x2 * y1 * y2)) * ((1 - d * x2 * x3 * y2 * y3) * (1 + d * x2 * x3 * y2 * y3) - d * x1 * y1 * (x2 * y3 + y2 * x3) * (y2 * y3 + x2 * x3))
      = (y1 * (y2 * y3 + x2 * x3) * (1 + d * x2 * x3 * y2 * y3) + x1 * (x2 * y3 + y2 * x3) * (1 - d * x2 * x3 * y2 * y3)) * ((1 - d * x1 * x2 * y1 * y2) * (1 + d * x1 * x2 * y1 * y2) - d * (x1 * y2 + y1 * x2) * (y1 * y2 + x1 * x2) * x3 * y3) := by
  unfold OnC at e1 e2 e3
  grind
theorem Fld.assoc {d : Fin n} (h : Fld n d) {x1 y1 x2 y2 x3 y3 u v r s lx ly rx ry : Fin n} (h1 : OnC d x1 y1) (h2 : OnC d x2 y2) (h3 : OnC d x3 y3)
    (h12 : IsSum d x1 y1 x2 y2 u v) (h23 : IsSum d x2 y2 x3 y3 r s) (hl : IsSum d u v x3 y3 lx ly) (hr : IsSum d x1 y1 r s rx ry) : lx = rx ∧ ly = ry := by
  have c12 := h.closed h1 h2 h12
  have c23 := h.closed h2 h3 h23
  have kx := assocX x1 y1 x2 y2 x3 y3 d h1 h2 h3
  have ky := assocY x1 y1 x2 y2 x3 y3 d h1 h2 h3
  have n1 := h.den1 h1 h2
  have n2 := h.den2 h1 h2
  have n3 := h.den1 h2 h3
  have n4 := h.den2 h2 h3
  have m1 := h.den1 c12 h3
  have m2 := h.den2 c12 h3
  have m3 := h.den1 h1 c23
  have m4 := h.den2 h1 c23
  obtain ⟨s1, s2⟩ := h12
  obtain ⟨s3, s4⟩ := h23
  obtain ⟨l1, l2⟩ := hl
  obtain ⟨r1, r2⟩ := hr
  rw [← s1, ← s2, ← s3, ← s4] at kx ky
  generalize 1 + d * x1 * x2 * y1 * y2 = a at *
  generalize 1 - d * x1 * x2 * y1 * y2 = b at *
  generalize 1 + d * x2 * x3 * y2 * y3 = c at *
  generalize 1 - d * x2 * x3 * y2 * y3 = e at *
  have nn := h.mul_ne (h.mul_ne n1 n2) (h.mul_ne n3 n4)
  clear s1 s2 s3 s4 h1 h2 h3 c12 c23 n1 n2 n3 n4
  constructor
  · refine h.cancel (h.mul_ne m1 m3) (h.cancel nn ?_)
    clear l2 r2 ky m2 m4 m1 m3 nn
    have e1 : lx * ((1 + d * u * x3 * v * y3) * (1 + d * x1 * r * y1 * s)) = (u * y3 + v * x3) * (1 + d * x1 * r * y1 * s) := by rw [← l1]; grind
    have e2 : rx * ((1 + d * u * x3 * v * y3) * (1 + d * x1 * r * y1 * s)) = (x1 * s + y1 * r) * (1 + d * u * x3 * v * y3) := by rw [← r1]; grind
    rw [e1, e2]
    clear e1 e2 l1 r1
    grind
  · refine h.cancel (h.mul_ne m2 m4) (h.cancel nn ?_)
    clear l1 r1 kx m1 m3 m2 m4 nn
    have e1 : ly * ((1 - d * u * x3 * v * y3) * (1 - d * x1 * r * y1 * s)) = (v * y3 + u * x3) * (1 - d * x1 * r * y1 * s) := by rw [← l2]; grind
    have e2 : ry * ((1 - d * u * x3 * v * y3) * (1 - d * x1 * r * y1 * s)) = (y1 * s + x1 * r) * (1 - d * u * x3 * v * y3) := by rw [← r2]; grind
    rw [e1, e2]
    clear e1 e2 l2 r2
    grind
/-- The points. -/
def Pt (d : Fin n) := {q : Fin n × Fin n // OnC d q.1 q.2}
theorem Pt.ext {d : Fin n} {P Q : Pt d} (h1 : P.1.1 = Q.1.1) (h2 : P.1.2 = Q.1.2) : P = Q := Subtype.ext (Prod.ext h1 h2)
noncomputable def Pt.add {d : Fin n} (h : Fld n d) (P Q : Pt d) : Pt d := ⟨(Classical.choose (h.sum P.2 Q.2), Classical.choose (Classical.choose_spec (h.sum P.2 Q.2))), h.closed P.2 Q.2 (Classical.choose_spec (Classical.choose_spec (h.sum P.2 Q.2)))⟩
theorem Pt.add_is {d : Fin n} (h : Fld n d) (P Q : Pt d) : IsSum d P.1.1 P.1.2 Q.1.1 Q.1.2 (P.add h Q).1.1 (P.add h Q).1.2 := Classical.choose_spec (Classical.choose_spec (h.sum P.2 Q.2))
theorem Pt.add_eq {d : Fin n} (h : Fld n d) {P Q R : Pt d} (hs : IsSum d P.1.1 P.1.2 Q.1.1 Q.1.2 R.1.1 R.1.2) : P.add h Q = R := by
  have := h.uniq P.2 Q.2 (P.add_is h Q) hs
  exact Pt.ext this.1 this.2
def Pt.zero (d : Fin n) : Pt d := ⟨(0, 1), OnC.zero d⟩
def Pt.neg {d : Fin n} (P : Pt d) : Pt d := ⟨(-P.1.1, P.1.2), P.2.neg⟩
theorem Pt.comm {d : Fin n} (h : Fld n d) (P Q : Pt d) : P.add h Q = Q.add h P := Pt.add_eq h (Q.add_is h P).comm
theorem Pt.assoc {d : Fin n} (h : Fld n d) (P Q R : Pt d) : (P.add h Q).add h R = P.add h (Q.add h R) := by
  have := h.assoc P.2 Q.2 R.2 (P.add_is h Q) (Q.add_is h R) ((P.add h Q).add_is h R) (P.add_is h (Q.add h R))
  exact Pt.ext this.1 this.2
theorem Pt.add_zero {d : Fin n} (h : Fld n d) (P : Pt d) : P.add h (Pt.zero d) = P := Pt.add_eq h (IsSum.zero d P.1.1 P.1.2)
theorem Pt.zero_add {d : Fin n} (h : Fld n d) (P : Pt d) : (Pt.zero d).add h P = P := by rw [Pt.comm, Pt.add_zero]
theorem Pt.add_neg {d : Fin n} (h : Fld n d) (P : Pt d) : P.add h P.neg = Pt.zero d := Pt.add_eq h (IsSum.neg P.2)
theorem Pt.neg_neg {d : Fin n} (P : Pt d) : P.neg.neg = P := Pt.ext (by show - - P.1.1 = P.1.1; grind) rfl
noncomputable def Pt.mul {d : Fin n} (h : Fld n d) (P : Pt d) : Nat → Pt d
  | 0 => Pt.zero d
  | k + 1 => (P.mul h k).add h P
theorem Pt.mul_add {d : Fin n} (h : Fld n d) (P : Pt d) (a : Nat) : ∀ b, P.mul h (a + b) = (P.mul h a).add h (P.mul h b)
  | 0 => by rw [Nat.add_zero, Pt.mul, Pt.add_zero]
  | b + 1 => by rw [← Nat.add_assoc, Pt.mul, Pt.mul_add h P a b, Pt.assoc, Pt.mul]
theorem Pt.mul_one {d : Fin n} (h : Fld n d) (P : Pt d) : P.mul h 1 = P := by rw [Pt.mul, Pt.mul, Pt.zero_add]
theorem Pt.mul_two {d : Fin n} (h : Fld n d) (P : Pt d) : P.mul h 2 = P.add h P := by rw [Pt.mul, Pt.mul_one]
theorem Pt.mul_mul {d : Fin n} (h : Fld n d) (P : Pt d) (a : Nat) : ∀ b, P.mul h (a * b) = (P.mul h a).mul h b
  | 0 => rfl
  | b + 1 => by rw [Nat.mul_succ, Pt.mul_add, Pt.mul_mul h P a b, Pt.mul]
theorem Pt.zero_mul {d : Fin n} (h : Fld n d) : ∀ k, (Pt.zero d).mul h k = Pt.zero d
  | 0 => rfl
  | k + 1 => by rw [Pt.mul, Pt.zero_mul h k, Pt.add_zero]
theorem Pt.mul_mod {d : Fin n} (h : Fld n d) (P : Pt d) (L : Nat) (hL : P.mul h L = Pt.zero d) (a : Nat) : P.mul h (a % L) = P.mul h a := by
  conv => rhs; rw [← Nat.mod_add_div a L]
  rw [Pt.mul_add, Pt.mul_mul, hL, Pt.zero_mul, Pt.add_zero]
theorem Pt.cancel {d : Fin n} (h : Fld n d) {P Q R : Pt d} (e : P.add h R = Q.add h R) : P = Q := by
  have e2 := congrArg (fun S => Pt.add h S R.neg) e
  simp only [Pt.assoc, Pt.add_neg, Pt.add_zero] at e2
  exact e2
/-- Four numbers that stand for a point. -/
def Rep (d X Y Z T : Fin n) (P : Pt d) : Prop := Z ≠ 0 ∧ X = P.1.1 * Z ∧ Y = P.1.2 * Z ∧ T = P.1.1 * P.1.2 * Z
theorem Rep.add {d : Fin n} (h : Fld n d) {X1 Y1 Z1 T1 X2 Y2 Z2 T2 : Fin n} {P Q : Pt d} (h1 : Rep d X1 Y1 Z1 T1 P) (h2 : Rep d X2 Y2 Z2 T2 Q) (A B C E F G H I : Fin n)
    (hA : A = (Y1 - X1) * (Y2 - X2)) (hB : B = (Y1 + X1) * (Y2 + X2)) (hC : C = T1 * T2 * d * 2) (hE : E = Z1 * Z2 * 2) (hF : F = B - A) (hG : G = E - C) (hH : H = E + C) (hI : I = B + A) :
    Rep d (F * G) (H * I) (G * H) (F * I) (P.add h Q) := by
  obtain ⟨z1, x1, y1, t1⟩ := h1
  obtain ⟨z2, x2, y2, t2⟩ := h2
  obtain ⟨s1, s2⟩ := P.add_is h Q
  have n1 := h.den1 P.2 Q.2
  have n2 := h.den2 P.2 Q.2
  unfold Rep
  generalize (P.add h Q).1.1 = x3 at *
  generalize (P.add h Q).1.2 = y3 at *
  generalize P.1.1 = px at *
  generalize P.1.2 = py at *
  generalize Q.1.1 = qx at *
  generalize Q.1.2 = qy at *
  have eG : G = 2 * Z1 * Z2 * (1 - d * px * qx * py * qy) := by subst_vars; grind
  have eH : H = 2 * Z1 * Z2 * (1 + d * px * qx * py * qy) := by subst_vars; grind
  have eF : F = 2 * Z1 * Z2 * (px * qy + py * qx) := by subst_vars; grind
  have eI : I = 2 * Z1 * Z2 * (py * qy + px * qx) := by subst_vars; grind
  have nz : (2 * Z1 * Z2 : Fin n) ≠ 0 := h.mul_ne (h.mul_ne h.two z1) z2
  clear hA hB hC hE hF hG hH hI x1 y1 t1 x2 y2 t2
  refine ⟨by rw [eG, eH]; exact h.mul_ne (h.mul_ne nz n2) (h.mul_ne nz n1), ?_, ?_, ?_⟩
  · show F * G = x3 * (G * H)
    rw [eF, eG, eH, ← s1]
    generalize 1 + d * px * qx * py * qy = a
    generalize 1 - d * px * qx * py * qy = b
    grind
  · show H * I = y3 * (G * H)
    rw [eI, eG, eH, ← s2]
    generalize 1 + d * px * qx * py * qy = a
    generalize 1 - d * px * qx * py * qy = b
    grind
  · show F * I = x3 * y3 * (G * H)
    rw [eI, eG, eH, eF, ← s2, ← s1]
    generalize 1 + d * px * qx * py * qy = a
    generalize 1 - d * px * qx * py * qy = b
    grind
theorem Rep.addR {d : Fin n} (h : Fld n d) {X1 Y1 Z1 T1 X2 Y2 Z2 T2 : Fin n} {P Q : Pt d} (h1 : Rep d X1 Y1 Z1 T1 P) (h2 : Rep d X2 Y2 Z2 T2 Q) (xx yy zz tt cross low high sum : Fin n)
    (hx : xx = X1 * X2) (hy : yy = Y1 * Y2) (hz : zz = Z1 * Z2) (ht : tt = T1 * T2 * d) (hc : cross = (X1 + Y1) * (X2 + Y2) - (xx + yy)) (hl : low = zz - tt) (hh : high = zz + tt) (hs : sum = yy + xx) :
    Rep d (cross * low) (high * sum) (low * high) (cross * sum) (P.add h Q) := by
  obtain ⟨z1, x1, y1, t1⟩ := h1
  obtain ⟨z2, x2, y2, t2⟩ := h2
  obtain ⟨s1, s2⟩ := P.add_is h Q
  have n1 := h.den1 P.2 Q.2
  have n2 := h.den2 P.2 Q.2
  unfold Rep
  generalize (P.add h Q).1.1 = x3 at *
  generalize (P.add h Q).1.2 = y3 at *
  generalize P.1.1 = px at *
  generalize P.1.2 = py at *
  generalize Q.1.1 = qx at *
  generalize Q.1.2 = qy at *
  have eG : low = Z1 * Z2 * (1 - d * px * qx * py * qy) := by subst_vars; grind
  have eH : high = Z1 * Z2 * (1 + d * px * qx * py * qy) := by subst_vars; grind
  have eF : cross = Z1 * Z2 * (px * qy + py * qx) := by subst_vars; grind
  have eI : sum = Z1 * Z2 * (py * qy + px * qx) := by subst_vars; grind
  have nz : (Z1 * Z2 : Fin n) ≠ 0 := h.mul_ne z1 z2
  clear hx hy hz ht hc hl hh hs x1 y1 t1 x2 y2 t2
  refine ⟨by rw [eG, eH]; exact h.mul_ne (h.mul_ne nz n2) (h.mul_ne nz n1), ?_, ?_, ?_⟩
  · show cross * low = x3 * (low * high)
    rw [eF, eG, eH, ← s1]
    generalize 1 + d * px * qx * py * qy = a
    generalize 1 - d * px * qx * py * qy = b
    grind
  · show high * sum = y3 * (low * high)
    rw [eI, eG, eH, ← s2]
    generalize 1 + d * px * qx * py * qy = a
    generalize 1 - d * px * qx * py * qy = b
    grind
  · show cross * sum = x3 * y3 * (low * high)
    rw [eI, eG, eH, eF, ← s2, ← s1]
    generalize 1 + d * px * qx * py * qy = a
    generalize 1 - d * px * qx * py * qy = b
    grind
end
end Go.Proofs.YtaaipbhfikefaaaDoor.P
end

section
namespace Go.Proofs.YtaaipbhfikefaaaDoor.P
set_option linter.unusedVariables false
open Go.Proofs.YtaaipbhfikefaaaDoor.P.Fd
instance : NeZero PN := ⟨by decide⟩
def toF (x : Int) : Fin PN := ⟨(x % PP).toNat, toNat_lt x⟩
theorem toF_val (x : Int) : ((toF x).val : Int) = x % PP := Int.toNat_of_nonneg (modP_b x).1
theorem toF_eq {a b : Int} : toF a = toF b ↔ a % PP = b % PP := by
  constructor
  · intro h
    rw [← toF_val, ← toF_val, h]
  · intro h
    apply Fin.ext
    show (a % PP).toNat = (b % PP).toNat
    rw [h]
theorem toF_of {a : Fin PN} {x : Int} (h : (a.val : Int) % PP = x % PP) : toF x = a := by
  apply Fin.ext
  have h2 : ((toF x).val : Int) = (a.val : Int) := by
    rw [toF_val, ← h]
    have := a.2
    exact Int.emod_eq_of_lt (by omega) (by rw [← PN_PP]; omega)
  omega
theorem toF_add (a b : Int) : toF (a + b) = toF a + toF b := by
  apply toF_of
  rw [Fin.val_add, Int.natCast_emod, PN_PP, Int.emod_emod_of_dvd _ (Int.dvd_refl _), Int.natCast_add, toF_val, toF_val, ← Int.add_emod]
theorem toF_mul (a b : Int) : toF (a * b) = toF a * toF b := by
  apply toF_of
  rw [Fin.val_mul, Int.natCast_emod, PN_PP, Int.emod_emod_of_dvd _ (Int.dvd_refl _), Int.natCast_mul, toF_val, toF_val, ← Int.mul_emod]
theorem toF_zero : toF 0 = 0 := by apply toF_of; rfl
theorem toF_one : toF 1 = 1 := by apply toF_of; decide
theorem toF_sub (a b : Int) : toF (a - b) = toF a - toF b := by
  have h := toF_add (a - b) b
  rw [show a - b + b = a by omega] at h
  rw [h]
  grind
theorem toF_surj (a : Fin PN) : toF (a.val : Int) = a := toF_of rfl
theorem toF_ne {a : Int} : toF a ≠ 0 ↔ a % PP ≠ 0 := by
  rw [← toF_zero, Ne, toF_eq]
  exact Iff.rfl
theorem inv_F (a : Fin PN) (h : a ≠ 0) : ∃ b, a * b = 1 := by
  rw [← toF_surj a] at h ⊢
  refine ⟨toF ((a.val : Int) ^ (PN - 2)), ?_⟩
  rw [← toF_mul, ← toF_one, toF_eq]
  have h2 := inv_mul (a.val : Int)
  have h3 : ¬ (a.val : Int) % PP = 0 := toF_ne.1 h
  rw [decide_eq_false h3] at h2
  exact of_decide_eq_true h2
/-- The curve's number, as a rest. -/
def dN : Nat := 37095705934669439343138083508754565189542113879843219016388785533085940283555
def dF : Fin PN := toF (dN : Int)
theorem dN_half : dN ^ ((PN - 1) / 2) % PN = PN - 1 := by
  rw [← pm_eq PN 256 dN ((PN - 1) / 2) (by decide +kernel)]
  decide +kernel
theorem dF_nsq (z : Fin PN) : z * z ≠ dF := by
  intro h
  rw [← toF_surj z, ← toF_mul, dF, toF_eq] at h
  generalize (z.val : Int) = x at h
  have hd : (dN : Int) % PP ≠ 0 := by decide
  have hx : x % PP ≠ 0 := fun e => hd (by rw [← h, Int.mul_emod, e]; rfl)
  have h1 : ((dN : Int) ^ ((PN - 1) / 2)) % PP = 1 := by
    rw [← pow_same h ((PN - 1) / 2), Int.mul_pow, ← Int.pow_add]
    rw [show (PN - 1) / 2 + (PN - 1) / 2 = PN - 1 by decide +kernel]
    exact ferm1 x hx
  have h2 := dN_half
  have h3 : (((dN ^ ((PN - 1) / 2) % PN : Nat)) : Int) = ((PN - 1 : Nat) : Int) := by rw [h2]
  rw [Int.natCast_emod, Int.natCast_pow, PN_PP, h1] at h3
  exact absurd h3 (by decide +kernel)
theorem zsub {n : Nat} [NeZero n] (a : Fin n) : 0 - a = -a := by grind
theorem two_F {n : Nat} [NeZero n] : (1 : Fin n) + 1 = 2 := by grind
theorem fld : Fld PN dF where
  inv := inv_F
  one := by rw [← toF_one]; exact toF_ne.2 (by decide)
  two := by
    have e : (2 : Fin PN) = toF 2 := by rw [show (2 : Int) = 1 + 1 by decide, toF_add, toF_one]; exact two_F.symm
    rw [e]; exact toF_ne.2 (by decide)
  im := ⟨toF iZ, by
    rw [← toF_mul, toF_eq.2 iZ_sq, toF_sub, toF_zero, toF_one]; exact zsub 1⟩
  nsq := dF_nsq
end Go.Proofs.YtaaipbhfikefaaaDoor.P
end
