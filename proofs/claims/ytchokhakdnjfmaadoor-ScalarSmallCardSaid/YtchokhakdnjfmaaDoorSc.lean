/- scalar.num's fed, by its walk. -/
import Derived.Test.YtchokhakdnjfmaaDoorSb
namespace Go.Proofs.YtchokhakdnjfmaaDoor.P
set_option linter.unusedVariables false
set_option linter.unusedSimpArgs false
open Go.RowKit Go.Proofs.YtchokhakdnjfmaaDoorW.PrintWords Go.Proofs.YtchokhakdnjfmaaDoorW.PrintLast Go.Proofs.YtchokhakdnjfmaaDoorW.PrintMore
attribute [local go_sem] setCell_drewN
/-- The group's order. -/
def LL : Int := 7237005577332262213973186563042994240857116359379907606001950938285454250989
def ordL (i : Nat) : Int := if i = 0 then 6346243789798364141 else if i = 1 then 1503914060200516822 else if i = 3 then 1152921504606846976 else 0
def V5 (f : Nat → Int) : Int := val 18446744073709551616 f 5
theorem V5_ord : V5 ordL = LL := by decide
theorem ord_U : U64 ordL 5 := fun j hj => by
  unfold ordL
  split
  · omega
  · split
    · omega
    · split <;> omega
/-- The table of the order lies there. -/
def Ord (w : World) : Prop := ∀ j, j < 5 → w.cell? ((⟨0, 0, none⟩ : Addr).add j) = some (.int .u64 (ordL j))
theorem Ord.lt {w : World} (h : Ord w) : 0 < w.heap.size := block_lt_of_cell (h 0 (by omega))
theorem Ord.below {w w' : World} {B : Nat} (h : Ord w) (hb : Below B w w') (hB : 0 < B) : Ord w' := fun j hj => by
  rw [hb.cell (p := (⟨0, 0, none⟩ : Addr).add j) (by unfold Addr.add; split <;> exact hB)]; exact h j hj
theorem infoTab : (Tryd.prog.info? 40).map (·.size) = some 5 := by kernel_rfl
/-- A number in a block. -/
def rowNatB (B : Int) (n : Nat) (w : World) (g : Nat) : Nat := match w.heap[g]? with
  | some (.cells cs _ _) => (val B (fun i => match cs[i]? with | some v => intOf v | none => 0) n).toNat
  | _ => 0
theorem rowNatB_of (B : Int) {w : World} {g n : Nat} {k : IntKind} {f : Nat → Int} {t : TypeId} (h : Row w g k n f t) : rowNatB B n w g = (val B f n).toNat := by
  unfold rowNatB
  rw [h]
  have e : val B (fun i => match (FR k n f)[i]? with | some v => intOf v | none => 0) n = val B f n := val_congr B _ _ n (fun i hi => by show (match (FR k n f)[i]? with | some v => intOf v | none => 0) = _; rw [FR_at _ _ _ _ hi]; rfl)
  show (val B (fun i => match (FR k n f)[i]? with | some v => intOf v | none => 0) n).toNat = _
  rw [e]
/-- The digits, one byte on. -/
def shF (f : Nat → Int) (c : Int) (j : Nat) : Int := if j = 0 then f 0 % 72057594037927936 * 256 + c else f j % 72057594037927936 * 256 + f (j - 1) / 72057594037927936
theorem shF_b (f : Nat → Int) (c : Int) (n : Nat) (hf : U64 f n) (hc : 0 ≤ c ∧ c < 256) : U64 (shF f c) n := fun j hj => by
  unfold shF
  split
  · omega
  · have := hf (j - 1) (by omega); omega
theorem shF_val (f : Nat → Int) (c : Int) : ∀ n, val 18446744073709551616 (shF f c) (n + 1) = 256 * val 18446744073709551616 f (n + 1) + c - f n / 72057594037927936 * 18446744073709551616 ^ (n + 1)
  | 0 => by simp [val, shF]; omega
  | n + 1 => by
    have ih := shF_val f c n
    rw [val, ih]
    show _ + shF f c (n + 1) * _ = 256 * (val _ f (n + 1) + f (n + 1) * _) + c - _
    have e : shF f c (n + 1) = f (n + 1) * 256 - f (n + 1) / 72057594037927936 * 18446744073709551616 + f n / 72057594037927936 := by
      unfold shF
      rw [if_neg (by omega), Nat.add_sub_cancel]
      omega
    rw [e, Int.pow_succ _ (n + 1)]
    generalize (18446744073709551616 : Int) ^ (n + 1) = q
    generalize f (n + 1) / 72057594037927936 = x
    generalize f n / 72057594037927936 = y
    generalize f (n + 1) = z
    generalize val 18446744073709551616 f (n + 1) = F
    grind
theorem V5_five (f : Nat → Int) : V5 f = f 0 + f 1 * 18446744073709551616 + f 2 * 340282366920938463463374607431768211456 + f 3 * 6277101735386680763835789423207666416102355444464034512896 + f 4 * 115792089237316195423570985008687907853269984665640564039457584007913129639936 := by
  simp [V5, val]
theorem V5_small (f : Nat → Int) (hf : U64 f 5) (hl : V5 f < LL) : f 4 = 0 ∧ f 3 ≤ 1152921504606846976 := by
  have h0 := hf 0 (by omega)
  have h1 := hf 1 (by omega)
  have h2 := hf 2 (by omega)
  have h3 := hf 3 (by omega)
  have h4 := hf 4 (by omega)
  rw [V5_five] at hl
  unfold LL at hl
  omega
theorem shF_V5 (f : Nat → Int) (c : Int) (hf : U64 f 5) (hl : V5 f < LL) : V5 (shF f c) = 256 * V5 f + c := by
  have h : val 18446744073709551616 (shF f c) 5 = 256 * val 18446744073709551616 f 5 + c - f 4 / 72057594037927936 * 18446744073709551616 ^ 5 := shF_val f c 4
  have h4 := (V5_small f hf hl).1
  unfold V5
  rw [h, h4]
  omega
/-- How often the order is taken away at once. -/
def kF (h : Nat → Int) : Int := h 3 / 1152921504606846976 + h 4 * 16
theorem kF_b (f : Nat → Int) (c : Int) (hf : U64 f 5) (hl : V5 f < LL) : 0 ≤ shF f c 4 ∧ shF f c 4 ≤ 16 ∧ 0 ≤ kF (shF f c) ∧ kF (shF f c) ≤ 300 := by
  have h := V5_small f hf hl
  have h3 := hf 3 (by omega)
  have h2 := hf 2 (by omega)
  have e4 : shF f c 4 = f 4 % 72057594037927936 * 256 + f 3 / 72057594037927936 := rfl
  have e3 : shF f c 3 = f 3 % 72057594037927936 * 256 + f 2 / 72057594037927936 := rfl
  unfold kF
  rw [e4, e3]
  omega
theorem kF_fits (h : Nat → Int) (hh : U64 h 5) (k1 : kF h ≤ 300) (k0 : 0 < kF h) : (kF h - 1) * V5 ordL ≤ V5 h := by
  have h0 := hh 0 (by omega)
  have h1 := hh 1 (by omega)
  have h2 := hh 2 (by omega)
  have h3 := hh 3 (by omega)
  have h4 := hh 4 (by omega)
  rw [V5_ord, V5_five]
  unfold kF at *
  unfold LL
  omega
theorem or16 (x y : Int) (h0 : 0 ≤ x ∧ x < 16) (h1 : 0 ≤ y) (h2 : y ≤ 16) : Go.bits .or .u64 x (y * 16) = x + y * 16 := by
  rw [u64_or _ _ (by omega) (by omega) (by omega) (by omega)]
  have e : x.toNat ||| (y * 16).toNat = y.toNat * 2 ^ 4 + x.toNat := by
    have : (y * 16).toNat = y.toNat * 2 ^ 4 := by omega
    rw [this, Nat.or_comm, Nat.mul_comm, ← Nat.two_pow_add_eq_or_of_lt (by omega)]
  rw [e]
  omega
theorem or256 (x y : Int) (h0 : 0 ≤ x ∧ x < 72057594037927936) (h1 : 0 ≤ y) (h2 : y < 256) : Go.bits .or .u64 (x * 256) y = x * 256 + y := by
  rw [u64_or _ _ (by omega) (by omega) (by omega) (by omega)]
  have e : (x * 256).toNat ||| y.toNat = x.toNat * 2 ^ 8 + y.toNat := by
    have : (x * 256).toNat = x.toNat * 2 ^ 8 := by omega
    rw [this, Nat.mul_comm, ← Nat.two_pow_add_eq_or_of_lt (by omega)]
  rw [e]
  omega
theorem wrap256 (x : Int) : IntKind.u64.wrap (x * 256) = x % 72057594037927936 * 256 := by
  show (x * 256) % 18446744073709551616 = _
  omega
def FedRel (f : Nat → Int) (w : World) (v5 : Value) (wr : World) : Prop :=
  ∃ (i : Nat), i ≤ 4 ∧ v5 = .int .i64 (i : Int) ∧ Below w.heap.size w wr ∧ Row wr w.heap.size .u64 5 (fun j => if i < j then shF f 0 j else f j) 41 ∧ Row wr (w.heap.size + 1) .u64 5 (fun _ => 0) 41
def FedRel2 (N : Int) (w : World) (wr : World) : Prop :=
  ∃ h, U64 h 5 ∧ V5 h % LL = N % LL ∧ Below w.heap.size w wr ∧ Row wr w.heap.size .u64 5 h 41 ∧ Row wr (w.heap.size + 1) .u64 5 (fun _ => 0) 41
theorem fed_calls (f : Nat → Int) (c : Int) (w : World) (ho : Ord w) (hf : U64 f 5) (hl : V5 f < LL) (hc : 0 ≤ c ∧ c < 256) :
    Calls Tryd.prog 20 #[.agg (FR .u64 5 f), .int .u8 c] w fun e w' => e = .returned (.agg (FR .u64 5 (dig 18446744073709551616 ((256 * V5 f + c) % LL)))) ∧ Below w.heap.size w w' := by
  have HO := Aside0.mk ho
  have HF := Aside0.mk hf
  have HL := Aside0.mk hl
  have HC := Aside0.mk hc
  clear ho hf hl hc
  go_enter Tryd.func20, Tryd.ntmps20
  go_wp2_with fail
  have HB0 := Aside0.mk (bel_two w (.cells (FR .u64 5 f) 41) (.cells (FR .u64 5 fun _ => 0) 41))
  have HF0 := Aside0.mk ((Row.new w .u64 5 f 41).alloc (.cells (FR .u64 5 fun _ => 0) 41))
  have HZ0 := Aside0.mk (show Row _ _ .u64 5 (fun _ => 0) 41 from heap_alloc2_new w (.cells (FR .u64 5 f) 41) (.cells (FR .u64 5 fun _ => 0) 41))
  go_loopw [5] (fun v5 wr => FedRel f w v5 wr) (fun v _ => (intOf v).toNat)
  case atStart => exact ⟨4, by omega, rfl, HB0.out, row_eq HF0.out (fun j hj => by rw [if_neg (by omega)]), HZ0.out⟩
  case round =>
    obtain ⟨i, hi, rfl, hb, hr, hz⟩ := hrel
    clear HB0 HF0 HZ0
    have HB := Aside0.mk hb
    have HR := Aside0.mk hr
    have HZ := Aside0.mk hz
    have hsz := hz.lt
    rcases Nat.lt_or_ge 0 i with h5 | h5
    · obtain ⟨j, rfl⟩ : ∃ j, i = j + 1 := ⟨i - 1, by omega⟩
      have hfi := HF.out (j + 1) (by omega)
      have hfj := HF.out j (by omega)
      have k0 := hr.cell (j + 1) (by omega)
      have k1 := hr.cell j (by omega)
      rw [if_neg (Nat.lt_irrefl (j + 1))] at k0
      rw [if_neg (show ¬ j + 1 < j by omega)] at k1
      have f0 := hr.fro (j + 1)
      have e1 : ((j + 1 : Nat) : Int) - 1 = (j : Int) := by omega
      have e2 : ((j + 1 : Nat) : Int).toNat = j + 1 := by omega
      have hgt : (((j + 1 : Nat) : Int) > 0) = True := eq_true (by omega)
      have hlt1 : (((j + 1 : Nat) : Int) < 5) = True := eq_true (by omega)
      have hlt2 : ((j : Int) < 5) = True := eq_true (by omega)
      have hge : ((0 : Int) ≤ ((j + 1 : Nat) : Int)) = True := eq_true (by omega)
      have HS := Aside0.mk (hr.set (j + 1) (shF f 0 (j + 1)) (by omega))
      have es : shF f 0 (j + 1) = f (j + 1) % 72057594037927936 * 256 + f j / 72057594037927936 := rfl
      rw [es] at HS
      have hw := wrap256 (f (j + 1))
      have hor := or256 (f (j + 1) % 72057594037927936) (f j / 72057594037927936) (by omega) (by omega) (by omega)
      clear hb hr hz hfi hfj es
      go_wp2_with fail
      go_region
      all_goals go_wp2_with fail
      refine ⟨⟨j, by omega, rfl, (bel_set HB.out _ _ (Nat.le_refl _)).drew, row_eq HS.out (fun x hx => by
        unfold upd
        by_cases hxj : x = j + 1
        · subst hxj; rw [if_pos rfl, if_pos (by omega)]; rfl
        · rw [if_neg hxj]
          show (if j + 1 < x then shF f 0 x else f x) = _
          by_cases hxl : j + 1 < x
          · rw [if_pos hxl, if_pos (by omega)]
          · rw [if_neg hxl, if_neg (by omega)]), HZ.out.other _ _ (show w.heap.size + 1 ≠ w.heap.size by omega)⟩, by simp only [intOf]; omega⟩
    · obtain rfl : i = 0 := by omega
      have es0 : shF f c 0 = f 0 % 72057594037927936 * 256 + c := rfl
      have HU := Aside0.mk (shF_b f c 5 HF.out HC.out)
      have HV := Aside0.mk (shF_V5 f c HF.out HL.out)
      have HK := Aside0.mk (kF_b f c HF.out HL.out)
      have HKf := Aside0.mk (kF_fits (shF f c) HU.out)
      have k0 : wr.cell? ⟨w.heap.size, 0, none⟩ = some (.int .u64 (f 0)) := hr.cell 0 (by omega)
      have k3 : wr.cell? ⟨w.heap.size, 3, none⟩ = some (.int .u64 (shF f c 3)) := hr.cell 3 (by omega)
      have k4 : wr.cell? ⟨w.heap.size, 4, none⟩ = some (.int .u64 (shF f c 4)) := hr.cell 4 (by omega)
      have f0 := hr.fro 0
      have hf0 := HF.out 0 (by omega)
      have hc := HC.out
      have hw := wrap256 (f 0)
      have hwc : IntKind.u64.wrap c = c := u64w _ (by omega) (by omega)
      have hor := or256 (f 0 % 72057594037927936) c (by omega) (by omega) (by omega)
      have HS : Aside0 (Row (wr.setCell ⟨w.heap.size, 0, none⟩ (.int .u64 (f 0 % 72057594037927936 * 256 + c))) w.heap.size .u64 5 (shF f c) 41) := ⟨row_eq (hr.set 0 (shF f c 0) (by omega)) (fun j hj => by
        unfold upd
        by_cases hj0 : j = 0
        · subst hj0; rw [if_pos rfl]
        · rw [if_neg hj0]
          show (if 0 < j then shF f 0 j else f j) = _
          rw [if_pos (by omega)]
          unfold shF
          rw [if_neg hj0, if_neg hj0])⟩
      have HBs := Aside0.mk (bel_set HB.out ⟨w.heap.size, 0, none⟩ (.int .u64 (f 0 % 72057594037927936 * 256 + c)) (Nat.le_refl w.heap.size))
      have HZs := Aside0.mk (HZ.out.other ⟨w.heap.size, 0, none⟩ (.int .u64 (f 0 % 72057594037927936 * 256 + c)) (show w.heap.size + 1 ≠ w.heap.size by omega))
      have HOs := Aside0.mk (HO.out.below HBs.out HO.out.lt)
      have h4 : 0 ≤ shF f c 4 ∧ shF f c 4 ≤ 16 := ⟨HK.out.1, HK.out.2.1⟩
      have h3 := HU.out 3 (by omega)
      have hw4 : IntKind.u64.wrap (shF f c 4 * 16) = shF f c 4 * 16 := u64w _ (by omega) (by omega)
      have hor4 := or16 (shF f c 3 / 1152921504606846976) (shF f c 4) (by omega) h4.1 h4.2
      clear hb hr hz hf0 hc es0 h4 h3
      have hks : 0 ≤ kF (shF f c) ∧ kF (shF f c) ≤ 300 := HK.out.2.2
      have hkd : shF f c 3 / 1152921504606846976 + shF f c 4 * 16 = kF (shF f c) := rfl
      generalize kF (shF f c) = k at *
      by_cases hk : 0 < k
      · have hk1 : (k > 0) = True := eq_true hk
        have HKB : Aside0 (0 ≤ k - 1 ∧ k - 1 < 18446744073709551616) := ⟨by omega⟩
        have hwk : IntKind.u64.wrap (k - 1) = k - 1 := u64w _ (by omega) (by omega)
        have HX := Aside0.mk (mnD_exact (shF f c) ordL (k - 1) 5 HU.out ord_U (by omega) (HKf.out hks.2 hk))
        have HXb : Aside0 (U64 (mnD (shF f c) ordL (k - 1)) 5) := ⟨fun j _ => mnD_b _ _ _ j⟩
        clear hks
        go_wp2_with (first | refine step_load HS.out Tryd.underlying41 infoNum rfl rfl rfl rfl ?_ | refine step_load_at HOs.out Tryd.underlying40 infoTab rfl rfl rfl rfl ?_)
        refine (minus_calls _ _ _ _ HU.out ord_U HKB.out).mono ?_
        rintro e w1 ⟨rfl, hb1⟩
        have HB1 := Aside0.mk (HBs.out.trans (hb1.mono HBs.out.size))
        have HR1 := Aside0.mk (HS.out.below hb1 HS.out.lt)
        have HZ1 := Aside0.mk (HZs.out.below hb1 HZs.out.lt)
        clear hb1 HS HBs HZs HOs
        go_wp2_with (refine step_storeG (mnD (shF f c) ordL (k - 1)) HR1.out infoNum rfl rfl rfl rfl rfl ?_; intro w2 hs hr2; have HR2 := Aside0.mk hr2; have HB2 := Aside0.mk (hs.bel _ _ (Nat.le_refl _) HB1.out); have HZ2 := Aside0.mk (HZ1.out.stored hs (show w.heap.size + 1 ≠ w.heap.size by omega)); clear hs hr2)
        go_loopw [44] (fun _ wr => FedRel2 (256 * V5 f + c) w wr) (fun _ wr => rowNatB 18446744073709551616 5 wr w.heap.size)
        case atStart => exact ⟨_, HXb.out, by have := HX.out; unfold V5 at *; rw [this, ← HV.out]; show (_ - (k - 1) * V5 ordL) % LL = _; rw [V5_ord]; exact Int.sub_mul_emod_self_right .., HB2.out, HR2.out, HZ2.out⟩
        case round =>
          obtain ⟨h, hh, hv, hb, hr, hz⟩ := hrel
          have HH := Aside0.mk hh
          have HVh := Aside0.mk hv
          have HBh := Aside0.mk hb
          have HRh := Aside0.mk hr
          have HZh := Aside0.mk hz
          have HOh := Aside0.mk (HO.out.below hb HO.out.lt)
          have HLx := Aside0.mk (lexN_val 18446744073709551616 (by omega) h ordL 5 hh ord_U)
          have hsz2 := hz.lt
          have HM0 := Aside0.mk (rowNatB_of 18446744073709551616 hr)
          clear hh hv hb hr hz
          go_wp2_with (first | refine step_load HRh.out Tryd.underlying41 infoNum rfl rfl rfl rfl ?_ | refine step_load_at HOh.out Tryd.underlying40 infoTab rfl rfl rfl rfl ?_)
          refine (less_calls h ordL _).mono ?_
          rintro e w2 ⟨rfl, hb2⟩
          have HB2 := Aside0.mk (HBh.out.trans (hb2.mono HBh.out.size))
          have HR2 := Aside0.mk (HRh.out.below hb2 HRh.out.lt)
          have HZ2 := Aside0.mk (HZh.out.below hb2 HZh.out.lt)
          have HO2 := Aside0.mk (HO.out.below HB2.out HO.out.lt)
          have hsz3 := HZ2.out.lt
          clear hb2 HBh HRh HZh HOh
          cases hx : lexN h ordL 5
          · have HX2 := Aside0.mk hx
            have HXV := Aside0.mk (mnD_exact h ordL 1 5 HH.out ord_U (by omega) (by have := HLx.out; rw [hx] at this; have h9 := of_decide_eq_false this.symm; omega))
            clear hx
            have hxf := HX2.out
            go_wp2_with (first | refine step_load HR2.out Tryd.underlying41 infoNum rfl rfl rfl rfl ?_ | refine step_load_at HO2.out Tryd.underlying40 infoTab rfl rfl rfl rfl ?_)
            refine (minus_calls h ordL 1 _ HH.out ord_U (by omega)).mono ?_
            rintro e w3 ⟨rfl, hb3⟩
            have HB3 := Aside0.mk (HB2.out.trans (hb3.mono HB2.out.size))
            have HR3 := Aside0.mk (HR2.out.below hb3 HR2.out.lt)
            have HZ3 := Aside0.mk (HZ2.out.below hb3 HZ2.out.lt)
            clear hb3 hxf
            go_wp2_with (refine step_storeG (mnD h ordL 1) HR3.out infoNum rfl rfl rfl rfl rfl ?_; intro w4 hs hr4; have HS4 := Aside0.mk hs; have HR4 := Aside0.mk hr4; clear hs hr4)
            have HV3 := Aside0.mk (val_b 18446744073709551616 (by omega) (mnD h ordL 1) 5 (fun j _ => mnD_b _ _ _ j)).1
            refine ⟨⟨mnD h ordL 1, fun j _ => mnD_b _ _ _ j, ?_, HS4.out.bel _ _ (Nat.le_refl _) HB3.out, HR4.out, HZ3.out.stored HS4.out (show w.heap.size + 1 ≠ w.heap.size by omega)⟩, ?_⟩
            · rw [← HVh.out]
              have := HXV.out
              unfold V5
              rw [this]
              show (V5 h - 1 * V5 ordL) % LL = V5 h % LL
              rw [V5_ord, Int.one_mul]
              exact Int.sub_emod_right _ _
            · rw [HM0.out, rowNatB_of 18446744073709551616 HR4.out]
              have h1 := HXV.out
              have h2 := HV3.out
              have h3 : val 18446744073709551616 ordL 5 = LL := V5_ord
              rw [h3] at h1
              rw [h1] at h2 ⊢
              unfold LL at *
              omega
          · have HX2 := Aside0.mk hx
            clear hx
            have hxt := HX2.out
            go_wp2_with (first | refine step_load HR2.out Tryd.underlying41 infoNum rfl rfl rfl rfl ?_ | (refine step_storeG h HZ2.out infoNum rfl rfl rfl rfl rfl ?_; intro w4 hs hr4; have HS4 := Aside0.mk hs; have HR4 := Aside0.mk hr4; clear hs hr4))
            refine bodyPost_ret (row_results rfl HR4.out rfl Tryd.underlying41 rfl infoNum) rfl ?_
            refine ⟨?_, HS4.out.bel _ _ (by omega) HB2.out⟩
            have e1 : V5 h < LL := by have h8 := HLx.out; rw [hxt] at h8; have h9 := of_decide_eq_true h8.symm; rw [← V5_ord]; exact h9
            have e2 : 0 ≤ V5 h := (val_b 18446744073709551616 (by omega) h 5 HH.out).1
            have e3 : V5 h = (256 * V5 f + c) % LL := by rw [← HVh.out, Int.emod_eq_of_lt e2 e1]
            rw [FR_congr .u64 5 _ _ (fun j hj => dig_val 18446744073709551616 (by omega) h 5 HH.out j hj)]
            show _ = Ending.returned (Value.agg (FR .u64 5 (dig 18446744073709551616 _)))
            rw [← e3]
            rfl
      · obtain rfl : k = 0 := by omega
        go_wp2_with fail
        go_loopw [44] (fun _ wr => FedRel2 (256 * V5 f + c) w wr) (fun _ wr => rowNatB 18446744073709551616 5 wr w.heap.size)
        case atStart => exact ⟨_, HU.out, by rw [HV.out], HBs.out, HS.out, HZs.out⟩
        case round =>
          obtain ⟨h, hh, hv, hb, hr, hz⟩ := hrel
          have HH := Aside0.mk hh
          have HVh := Aside0.mk hv
          have HBh := Aside0.mk hb
          have HRh := Aside0.mk hr
          have HZh := Aside0.mk hz
          have HOh := Aside0.mk (HO.out.below hb HO.out.lt)
          have HLx := Aside0.mk (lexN_val 18446744073709551616 (by omega) h ordL 5 hh ord_U)
          have hsz2 := hz.lt
          have HM0 := Aside0.mk (rowNatB_of 18446744073709551616 hr)
          clear hh hv hb hr hz
          go_wp2_with (first | refine step_load HRh.out Tryd.underlying41 infoNum rfl rfl rfl rfl ?_ | refine step_load_at HOh.out Tryd.underlying40 infoTab rfl rfl rfl rfl ?_)
          refine (less_calls h ordL _).mono ?_
          rintro e w2 ⟨rfl, hb2⟩
          have HB2 := Aside0.mk (HBh.out.trans (hb2.mono HBh.out.size))
          have HR2 := Aside0.mk (HRh.out.below hb2 HRh.out.lt)
          have HZ2 := Aside0.mk (HZh.out.below hb2 HZh.out.lt)
          have HO2 := Aside0.mk (HO.out.below HB2.out HO.out.lt)
          have hsz3 := HZ2.out.lt
          clear hb2 HBh HRh HZh HOh
          cases hx : lexN h ordL 5
          · have HX2 := Aside0.mk hx
            have HXV := Aside0.mk (mnD_exact h ordL 1 5 HH.out ord_U (by omega) (by have := HLx.out; rw [hx] at this; have h9 := of_decide_eq_false this.symm; omega))
            clear hx
            have hxf := HX2.out
            go_wp2_with (first | refine step_load HR2.out Tryd.underlying41 infoNum rfl rfl rfl rfl ?_ | refine step_load_at HO2.out Tryd.underlying40 infoTab rfl rfl rfl rfl ?_)
            refine (minus_calls h ordL 1 _ HH.out ord_U (by omega)).mono ?_
            rintro e w3 ⟨rfl, hb3⟩
            have HB3 := Aside0.mk (HB2.out.trans (hb3.mono HB2.out.size))
            have HR3 := Aside0.mk (HR2.out.below hb3 HR2.out.lt)
            have HZ3 := Aside0.mk (HZ2.out.below hb3 HZ2.out.lt)
            clear hb3 hxf
            go_wp2_with (refine step_storeG (mnD h ordL 1) HR3.out infoNum rfl rfl rfl rfl rfl ?_; intro w4 hs hr4; have HS4 := Aside0.mk hs; have HR4 := Aside0.mk hr4; clear hs hr4)
            have HV3 := Aside0.mk (val_b 18446744073709551616 (by omega) (mnD h ordL 1) 5 (fun j _ => mnD_b _ _ _ j)).1
            refine ⟨⟨mnD h ordL 1, fun j _ => mnD_b _ _ _ j, ?_, HS4.out.bel _ _ (Nat.le_refl _) HB3.out, HR4.out, HZ3.out.stored HS4.out (show w.heap.size + 1 ≠ w.heap.size by omega)⟩, ?_⟩
            · rw [← HVh.out]
              have := HXV.out
              unfold V5
              rw [this]
              show (V5 h - 1 * V5 ordL) % LL = V5 h % LL
              rw [V5_ord, Int.one_mul]
              exact Int.sub_emod_right _ _
            · rw [HM0.out, rowNatB_of 18446744073709551616 HR4.out]
              have h1 := HXV.out
              have h2 := HV3.out
              have h3 : val 18446744073709551616 ordL 5 = LL := V5_ord
              rw [h3] at h1
              rw [h1] at h2 ⊢
              unfold LL at *
              omega
          · have HX2 := Aside0.mk hx
            clear hx
            have hxt := HX2.out
            go_wp2_with (first | refine step_load HR2.out Tryd.underlying41 infoNum rfl rfl rfl rfl ?_ | (refine step_storeG h HZ2.out infoNum rfl rfl rfl rfl rfl ?_; intro w4 hs hr4; have HS4 := Aside0.mk hs; have HR4 := Aside0.mk hr4; clear hs hr4))
            refine bodyPost_ret (row_results rfl HR4.out rfl Tryd.underlying41 rfl infoNum) rfl ?_
            refine ⟨?_, HS4.out.bel _ _ (by omega) HB2.out⟩
            have e1 : V5 h < LL := by have h8 := HLx.out; rw [hxt] at h8; have h9 := of_decide_eq_true h8.symm; rw [← V5_ord]; exact h9
            have e2 : 0 ≤ V5 h := (val_b 18446744073709551616 (by omega) h 5 HH.out).1
            have e3 : V5 h = (256 * V5 f + c) % LL := by rw [← HVh.out, Int.emod_eq_of_lt e2 e1]
            rw [FR_congr .u64 5 _ _ (fun j hj => dig_val 18446744073709551616 (by omega) h 5 HH.out j hj)]
            show _ = Ending.returned (Value.agg (FR .u64 5 (dig 18446744073709551616 _)))
            rw [← e3]
            rfl
end Go.Proofs.YtchokhakdnjfmaaDoor.P
