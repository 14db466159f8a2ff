/- Merged of the texts: Sj, Sk, Sw, Iz, Hd, Hc, Hl, Hm, WSized (trim.py). -/
import Derived.Lib.ConvBytes
import Derived.SizedLaws
import Derived.ChangeSlices
import Derived.Test.YtbmnkchcekacfaaDoorYv5
section
namespace Go.Proofs.YtbmnkchcekacfaaDoor.P
set_option linter.unusedVariables false
set_option linter.unusedSimpArgs false
open Go.RowKit Go.Proofs.YtbmnkchcekacfaaDoorW.PrintWords Go.Proofs.YtbmnkchcekacfaaDoorW.PrintLast Go.Proofs.YtbmnkchcekacfaaDoorW.PrintMore
attribute [local go_sem] setCell_drewN
def shI (f : Nat → Int) (c : Int) (j : Nat) : Int := if j = 0 then c else f (j - 1)
theorem shI_val (R c : Int) (hR : 0 ≤ R ∧ R < LL) : val 256 (shI (dig 256 R) c) 33 = 256 * R + c := by
  rw [val_succ_low]
  have e : (fun j => shI (dig 256 R) c (j + 1)) = dig 256 R := by
    funext j; unfold shI; rw [if_neg (by omega), Nat.add_sub_cancel]
  rw [e, val_dig 256 (by omega), Int.emod_eq_of_lt hR.1 (Int.lt_trans hR.2 (by decide +kernel))]
  show c + 256 * R = _
  omega
def D33 (h : Nat → Int) : Prop := ∀ j, j < 33 → 0 ≤ h j ∧ h j < 256
theorem shI_D (R c : Int) (hc : 0 ≤ c ∧ c < 256) : D33 (shI (dig 256 R) c) := fun j _ => by
  unfold shI; split
  · exact hc
  · exact dig_b 256 (by omega) R _
def sbD (h : Nat → Int) (j : Nat) : Int := (h j - lD j + cy 256 (fun j => h j - lD j) j) % 256
theorem sbD_b (h : Nat → Int) (j : Nat) : 0 ≤ sbD h j ∧ sbD h j < 256 := by unfold sbD; omega
theorem sbD_val (h : Nat → Int) (hd : D33 h) (hl : LL ≤ val 256 h 33) : val 256 (sbD h) 33 = val 256 h 33 - LL := by
  have h1 := (cy_div 256 (by omega) (fun j => h j - lD j) 33).2
  have h2 : val 256 (fun j => h j - lD j) 33 = val 256 h 33 - LL := by rw [val_sub 256 h lD 33, lD_val]
  rw [h2] at h1
  have h3 := val_b 256 (by omega) h 33 hd
  rw [Int.emod_eq_of_lt (by omega) (by unfold LL at *; omega)] at h1
  exact h1
theorem cyS_b (h : Nat → Int) (hd : D33 h) : ∀ i, i ≤ 33 → -1 ≤ cy 256 (fun j => h j - lD j) i ∧ cy 256 (fun j => h j - lD j) i ≤ 0
  | 0, _ => by simp [cy]
  | i + 1, hi => by
    have ih := cyS_b h hd i (by omega)
    have h1 := hd i (by omega)
    have h2 := lD_b i
    have e : cy 256 (fun j => h j - lD j) (i + 1) = (h i - lD i + cy 256 (fun j => h j - lD j) i) / 256 := rfl
    rw [e]; omega
def rS (s : ByteArray) (m : Nat) : Int := val 256 (fun j => sB s (m + j)) (s.size - m) % LL
theorem rS_b (s : ByteArray) (m : Nat) : 0 ≤ rS s m ∧ rS s m < LL := by unfold rS LL; omega
theorem rS_step (s : ByteArray) (m : Nat) (h : m < s.size) : rS s m = (256 * rS s (m + 1) + sB s m) % LL := by
  unfold rS
  rw [show s.size - m = (s.size - (m + 1)) + 1 by omega, val_succ_low]
  have e : (fun j => sB s (m + (j + 1))) = fun j => sB s (m + 1 + j) := by funext j; rw [show m + (j + 1) = m + 1 + j by omega]
  rw [e, Nat.add_zero]
  generalize val 256 (fun j => sB s (m + 1 + j)) (s.size - (m + 1)) = v
  show (sB s m + 256 * v) % LL = (256 * (v % LL) + sB s m) % LL
  symm
  rw [Int.add_comm, Int.add_emod, Int.mul_emod, Int.emod_emod_of_dvd _ (Int.dvd_refl LL), ← Int.mul_emod, ← Int.add_emod]
theorem rS_end (s : ByteArray) : rS s s.size = 0 := by unfold rS; rw [Nat.sub_self]; rfl
theorem rS_all (s : ByteArray) : rS s 0 = val 256 (sB s) s.size % LL := by unfold rS; simp
def RR1 (s : ByteArray) (w : World) (b3 b4 : Nat) (v5 : Value) (wr : World) : Prop :=
  ∃ m : Nat, m ≤ s.size ∧ v5 = .int .i64 ((m : Int) - 1) ∧ Below w.heap.size w wr ∧ Row wr b3 .i64 33 lD 121 ∧ Row wr b4 .i64 33 (dig 256 (rS s m)) 121
def RR2 (w : World) (b3 b4 : Nat) (f : Nat → Int) (v6 : Value) (wr : World) : Prop :=
  ∃ i : Nat, i ≤ 32 ∧ v6 = .int .i64 (i : Int) ∧ Below w.heap.size w wr ∧ Row wr b3 .i64 33 lD 121 ∧ Row wr b4 .i64 33 (fun j => if i < j then f (j - 1) else f j) 121
def RR3 (w : World) (b3 b4 : Nat) (N : Int) (wr : World) : Prop :=
  ∃ h, D33 h ∧ val 256 h 33 % LL = N % LL ∧ Below w.heap.size w wr ∧ Row wr b3 .i64 33 lD 121 ∧ Row wr b4 .i64 33 h 121
def RR4 (w : World) (b3 b4 : Nat) (h : Nat → Int) (v8 v7 : Value) (wr : World) : Prop :=
  ∃ i : Nat, i ≤ 33 ∧ v8 = .int .i64 (i : Int) ∧ v7 = .int .i64 (- cy 256 (fun j => h j - lD j) i) ∧ Below w.heap.size w wr ∧ Row wr b3 .i64 33 lD 121 ∧ Row wr b4 .i64 33 (fun j => if j < i then sbD h j else h j) 121
def RR5 (w : World) (b4 : Nat) (R : Int) (v10 v9 : Value) (wr : World) : Prop :=
  ∃ i : Nat, i ≤ 32 ∧ v10 = .int .i64 (i : Int) ∧ OwnB wr (b4 + 1) v9 i (dig 256 R) ∧ Below w.heap.size w wr ∧ Row wr b4 .i64 33 (dig 256 R) 121 ∧ b4 + 1 ≤ wr.heap.size
set_option maxRecDepth 100000 in
set_option maxHeartbeats 4000000 in
theorem refrest_calls (s : ByteArray) (w : World) (hs : s.size ≤ 140737488351232) :
    Calls Tryd.prog 65 #[.string s] w fun e w' => e = .returned (.string (sN 32 (dig 256 (val 256 (sB s) s.size % LL)))) ∧ Below w.heap.size w w' := by
  have HSZ := Aside0.mk hs
  go_enter Tryd.func65, Tryd.ntmps65
  clear hs
  go_wp2_with fail
  refine (L_calls _).mono ?_
  rintro e w1 ⟨rfl, hb⟩
  have HB1 := Aside0.mk hb
  have HN := Aside0.mk (Row.new w1 .i64 33 (fun _ => 0) 121)
  have HB2 := Aside0.mk (hb.alloc hb.size (.cells (FR .i64 33 fun _ => 0) 121))
  have hs1 := hb.size
  clear hb
  have h32 := HSZ.out
  go_wp2_with (first | (refine zQ lD HN.out info33 rfl rfl rfl rfl rfl ?_; intro w3 hs hr; have HB3 := Aside0.mk (hs.bel _ _ hs1 HB2.out); have HL := Aside0.mk hr; have HN4 := Aside0.mk (Row.new w3 .i64 33 (fun _ => 0) 121); have HL4 := Aside0.mk (hr.alloc (.cells (FR .i64 33 fun _ => 0) 121)); have hlt3 := hr.lt; have HB4 := Aside0.mk (HB3.out.alloc HB3.out.size (.cells (FR .i64 33 fun _ => 0) 121)); clear hs hr) | (refine zQ (fun _ => 0) HN4.out info33 rfl rfl rfl rfl rfl ?_; intro w5 hs hr; have HB5 := Aside0.mk (hs.bel _ _ HB3.out.size HB4.out); have HL5 := Aside0.mk (HL4.out.stored hs (show w1.heap.size ≠ w3.heap.size by omega)); have HA5 := Aside0.mk hr; clear hs hr))
  have h34 : w.heap.size ≤ w3.heap.size := HB3.out.size
  clear HB1 HN HB2 HB3 HL HN4 HL4 HB4
  generalize w1.heap.size = b3 at *
  generalize w3.heap.size = b4 at *
  go_loopw [5] (fun v5 wr => RR1 s w b3 b4 v5 wr) (fun v _ => ((intOf v) + 1).toNat)
  case atStart => exact ⟨s.size, by omega, rfl, HB5.out, HL5.out, row_eq HA5.out (fun j hj => by rw [rS_end]; simp [dig])⟩
  case round =>
    clear HB5 HL5 HA5
    obtain ⟨m, hm, rfl, hb, hl, ha⟩ := hrel
    have HB := Aside0.mk hb
    have HL := Aside0.mk hl
    have HA := Aside0.mk ha
    clear hb hl ha
    rcases Nat.lt_or_ge 0 m with hm0 | hm0
    · obtain ⟨m, rfl⟩ : ∃ j, m = j + 1 := ⟨m - 1, by omega⟩
      have e1 : ((m + 1 : Nat) : Int) - 1 = (m : Int) := by omega
      rw [e1]
      have hge : ((m : Int) ≥ 0) = True := eq_true (by omega)
      have HRb := Aside0.mk (rS_b s (m + 1))
      have HST := Aside0.mk (rS_step s m hm)
      have HMM := Aside0.mk hm
      generalize rS s (m + 1) = R at *
      go_wp2_with fail
      have hsz := HA.out.lt
      go_loopw [6] (fun v6 wr => RR2 w b3 b4 (dig 256 R) v6 wr) (fun v _ => (intOf v).toNat)
      case atStart => exact ⟨32, by omega, rfl, HB.out, HL.out, row_eq HA.out (fun j hj => by rw [if_neg (by omega)])⟩
      case round =>
        clear HB HL HA
        obtain ⟨i, hi, rfl, hb, hl, ha⟩ := hrel
        have HB := Aside0.mk hb
        have HL := Aside0.mk hl
        have HA := Aside0.mk ha
        clear hb hl
        rcases Nat.lt_or_ge 0 i with hi0 | hi0
        · obtain ⟨j, rfl⟩ : ∃ j, i = j + 1 := ⟨i - 1, by omega⟩
          have k1 := ha.cell j (by omega)
          rw [if_neg (show ¬ j + 1 < j by omega)] at k1
          have k0 := ha.cell (j + 1) (by omega)
          have f0 := ha.fro (j + 1)
          have hgt : (((j + 1 : Nat) : Int) > 0) = True := eq_true (by omega)
          have e2 : ((j + 1 : Nat) : Int) - 1 = (j : Int) := by omega
          have hlt1 : ((j : Int) < 33) = True := eq_true (by omega)
          have hlt2 : (((j + 1 : Nat) : Int) < 33) = True := eq_true (by omega)
          have HS := Aside0.mk (ha.set (j + 1) (dig 256 R j) (by omega))
          clear ha
          go_wp2_with fail
          refine ⟨⟨j, by omega, rfl, yJ HB.out _ _ h34, HL.out.other _ _ (show b3 ≠ b4 by omega), row_eq HS.out (fun x hx => ?_)⟩, by simp only [intOf]; omega⟩
          unfold upd
          by_cases hxj : x = j + 1
          · subst hxj; rw [if_pos rfl, if_pos (by omega), Nat.add_sub_cancel]
          · rw [if_neg hxj]
            show (if j + 1 < x then dig 256 R (x - 1) else dig 256 R x) = _
            by_cases hxl : j + 1 < x
            · rw [if_pos hxl, if_pos (by omega)]
            · rw [if_neg hxl, if_neg (by omega)]
        · obtain rfl : i = 0 := by omega
          obtain ⟨c0, hc0, hv0⟩ := sB_at s m HMM.out
          have l0 := c0.toNat_lt
          have HV := Aside0.mk hv0
          have q0 : ((m : Int) < (s.size : Int)) = True := eq_true (by have := HMM.out; omega)
          have q1 : wrap64 (c0.toNat : Int) = (c0.toNat : Int) := w64 _ (by omega)
          have q2 : IntKind.i64.wrap (c0.toNat : Int) = (c0.toNat : Int) := i64w _ (by omega)
          have k0 := ha.cell 0 (by omega)
          have f0 := ha.fro 0
          have HS : Aside0 (Row (wr.setCell ⟨b4, 0, none⟩ (.int .i64 (c0.toNat : Int))) b4 .i64 33 (shI (dig 256 R) (c0.toNat : Int)) 121) := ⟨row_eq (ha.set 0 (c0.toNat : Int) (by omega)) (fun x hx => by
            unfold upd shI
            by_cases hx0 : x = 0
            · rw [if_pos hx0, if_pos hx0]
            · rw [if_neg hx0, if_neg hx0]
              show (if 0 < x then dig 256 R (x - 1) else dig 256 R x) = _
              rw [if_pos (by omega)])⟩
          have HB2 := Aside0.mk (yJ HB.out ⟨b4, 0, none⟩ (.int .i64 (c0.toNat : Int)) h34)
          have HL2 := Aside0.mk (HL.out.other ⟨b4, 0, none⟩ (.int .i64 (c0.toNat : Int)) (show b3 ≠ b4 by omega))
          have HD0 := Aside0.mk (shI_D R (c0.toNat : Int) (by omega))
          have HV0 := Aside0.mk (shI_val R (c0.toNat : Int) HRb.out)
          clear ha hv0 l0
          go_wp2_with fail
          clear HB HL HA
          go_loopw [35] (fun _ wr => RR3 w b3 b4 (256 * R + (c0.toNat : Int)) wr) (fun _ wr => rowNatB 256 33 wr b4)
          case atStart => exact ⟨_, HD0.out, by rw [HV0.out], HB2.out, HL2.out, HS.out⟩
          case round =>
            clear HB2 HL2 HS HD0 HV0 q0 q1 q2 hc0
            obtain ⟨h, hd, hv, hb, hl, ha⟩ := hrel
            have HD := Aside0.mk hd
            have HVh := Aside0.mk hv
            have HLx := Aside0.mk (lexN_val 256 (by omega) h lD 33 hd (fun j _ => lD_b j))
            have HM0 := Aside0.mk (rowNatB_of 256 ha)
            have HA := Aside0.mk ha
            have hsz2 := ha.lt
            have HB := Aside0.mk hb
            have HL := Aside0.mk hl
            clear hd hv hb hl ha
            go_wp2_with (refine zX HA.out Tryd.underlying121 info33 rfl rfl rfl rfl ?_)
            refine (below_calls h _).mono ?_
            rintro e w6 ⟨rfl, hb6⟩
            have HB6 := Aside0.mk (HB.out.trans (hb6.mono HB.out.size))
            have HL6 := Aside0.mk (HL.out.below hb6 HL.out.lt)
            have HA6 := Aside0.mk (HA.out.below hb6 HA.out.lt)
            have hsz6 := HA6.out.lt
            clear hb6 HB HL HA
            cases hx : lexN h lD 33
            · have HX := Aside0.mk hx
              clear hx
              have hxf := HX.out
              go_wp2_with fail
              clear hxf
              go_loopw [8, 7] (fun v8 v7 wr => RR4 w b3 b4 h v8 v7 wr) (fun v _ _ => 33 - (intOf v).toNat)
              case atStart => exact ⟨0, by omega, rfl, rfl, HB6.out, HL6.out, row_eq HA6.out (fun j hj => by rw [if_neg (by omega)])⟩
              case round =>
                clear HB6 HL6 HA6
                obtain ⟨i, hi, rfl, rfl, hb, hl, ha⟩ := hrel
                have HB := Aside0.mk hb
                have HL := Aside0.mk hl
                have HA := Aside0.mk ha
                rcases Nat.lt_or_ge i 33 with h33 | h33
                · have hlt : ((i : Int) < 33) = True := eq_true (by omega)
                  have k0 := ha.cell i h33
                  rw [if_neg (Nat.lt_irrefl i)] at k0
                  have k1 := hl.cell i h33
                  have f0 := ha.fro i
                  have hdi := HD.out i h33
                  have hli := lD_b i
                  have hcb := cyS_b h HD.out i hi
                  have HCY : Aside0 (cy 256 (fun j => h j - lD j) (i + 1) = (h i - lD i + cy 256 (fun j => h j - lD j) i) / 256) := ⟨rfl⟩
                  have HSB : Aside0 (sbD h i = (h i - lD i + cy 256 (fun j => h j - lD j) i) % 256) := ⟨rfl⟩
                  generalize cy 256 (fun j => h j - lD j) i = cyi at *
                  have q1 : wrap64 (h i - lD i) = h i - lD i := w64 _ (by omega)
                  have q2 : IntKind.i64.wrap (h i - lD i) = h i - lD i := i64w _ (by omega)
                  obtain ⟨x, hx⟩ : ∃ x, h i - lD i + cyi = x := ⟨_, rfl⟩
                  rw [hx] at HCY HSB
                  have q3 : wrap64 (h i - lD i - -cyi) = x := by rw [w64 _ (by omega)]; omega
                  have q4 : IntKind.i64.wrap (h i - lD i - -cyi) = x := by rw [i64w _ (by omega)]; omega
                  have q3' : wrap64 (h i - lD i + cyi) = x := by rw [w64 _ (by omega)]; omega
                  have hxb : -256 ≤ x ∧ x ≤ 255 := by omega
                  clear hx
                  rcases Int.lt_or_le x 0 with hx0 | hx0
                  · have HS2 : Aside0 (Row ((wr.setCell ⟨b4, i, none⟩ (.int .i64 x)).setCell ⟨b4, i, none⟩ (.int .i64 (x + 256))) b4 .i64 33 (fun j => if j < i + 1 then sbD h j else h j) 121) := ⟨row_eq ((ha.set i x h33).set i (x + 256) h33) (fun j hj => by
                      unfold upd
                      by_cases hji : j = i
                      · subst hji; rw [if_pos rfl, if_pos (by omega), HSB.out]; omega
                      · rw [if_neg hji, if_neg hji]
                        show (if j < i then sbD h j else h j) = _
                        by_cases hjl : j < i
                        · rw [if_pos hjl, if_pos (by omega)]
                        · rw [if_neg hjl, if_neg (by omega)])⟩
                    have HCN : Aside0 ((1 : Int) = - cy 256 (fun j => h j - lD j) (i + 1)) := ⟨by rw [HCY.out]; omega⟩
                    have hneg : (x < 0) = True := eq_true hx0
                    have q5 : wrap64 (x + 256) = x + 256 := w64 _ (by omega)
                    have q6 : IntKind.i64.wrap (x + 256) = x + 256 := i64w _ (by omega)
                    clear ha hl hb hdi hli hcb hx0
                    go_wp2_with fail
                    go_region
                    all_goals go_wp2_with fail
                    refine ⟨⟨i + 1, by omega, rfl, ?_, ?_, ?_, HS2.out⟩, meas_up 33 i h33⟩
                    · rw [← HCN.out]
                    · exact yJ (yJ HB.out ⟨b4, i, none⟩ (.int .i64 x) h34).drew ⟨b4, i, none⟩ _ h34
                    · exact (HL.out.other ⟨b4, i, none⟩ _ (show b3 ≠ b4 by omega)).other ⟨b4, i, none⟩ _ (show b3 ≠ b4 by omega)
                  · have HS2 : Aside0 (Row (wr.setCell ⟨b4, i, none⟩ (.int .i64 x)) b4 .i64 33 (fun j => if j < i + 1 then sbD h j else h j) 121) := ⟨row_eq (ha.set i x h33) (fun j hj => by
                      unfold upd
                      by_cases hji : j = i
                      · subst hji; rw [if_pos rfl, if_pos (by omega), HSB.out]; omega
                      · rw [if_neg hji]
                        show (if j < i then sbD h j else h j) = _
                        by_cases hjl : j < i
                        · rw [if_pos hjl, if_pos (by omega)]
                        · rw [if_neg hjl, if_neg (by omega)])⟩
                    have HCN : Aside0 ((0 : Int) = - cy 256 (fun j => h j - lD j) (i + 1)) := ⟨by rw [HCY.out]; omega⟩
                    have hneg : (x < 0) = False := eq_false (by omega)
                    clear ha hl hb hdi hli hcb hx0
                    go_wp2_with fail
                    go_region
                    all_goals go_wp2_with fail
                    refine ⟨⟨i + 1, by omega, rfl, ?_, ?_, ?_, HS2.out⟩, meas_up 33 i h33⟩
                    · rw [← HCN.out]
                    · exact (yJ HB.out ⟨b4, i, none⟩ (.int .i64 x) h34).drew
                    · exact HL.out.other ⟨b4, i, none⟩ _ (show b3 ≠ b4 by omega)
                · obtain rfl : i = 33 := by omega
                  have HM := Aside0.mk (row_eq ha (f' := sbD h) (fun j hj => if_pos hj))
                  clear ha hl hb
                  have HXV := Aside0.mk (sbD_val h HD.out (by have h8 := HLx.out; rw [HX.out] at h8; have h9 := of_decide_eq_false h8.symm; rw [lD_val] at h9; omega))
                  have HV3 := Aside0.mk (val_b 256 (by omega) (sbD h) 33 (fun j _ => sbD_b h j)).1
                  have HV4 := Aside0.mk (val_b 256 (by omega) h 33 HD.out).1
                  go_wp2_with fail
                  refine ⟨?_, ?_⟩
                  · repeat apply Exists.intro
                    exact ⟨⟨sbD h, fun j _ => sbD_b h j, by rw [← HVh.out, HXV.out]; exact Int.sub_emod_right _ _, HB.out, HL.out, HM.out⟩, rfl⟩
                  · rw [HM0.out, rowNatB_of 256 HM.out]
                    have h1 := HXV.out
                    have h2 := HV3.out
                    have h4 := HV4.out
                    rw [h1] at h2 ⊢
                    unfold LL at *
                    omega
            · have HX := Aside0.mk hx
              clear hx
              have hxt := HX.out
              have HEQ : Aside0 (∀ j, j < 33 → h j = dig 256 (rS s m) j) := ⟨fun j hj => by
                have e1 : val 256 h 33 < LL := by have h8 := HLx.out; rw [HX.out] at h8; have h9 := of_decide_eq_true h8.symm; rwa [lD_val] at h9
                have e2 : 0 ≤ val 256 h 33 := (val_b 256 (by omega) h 33 HD.out).1
                have e3 : val 256 h 33 = rS s m := by rw [HST.out, ← HV.out, ← HVh.out, Int.emod_eq_of_lt e2 e1]
                rw [dig_val 256 (by omega) h 33 HD.out j hj, e3]⟩
              go_wp2_with fail
              exact ⟨⟨m, by have := HMM.out; omega, rfl, HB6.out, HL6.out, row_eq HA6.out HEQ.out⟩, by simp only [intOf]; omega⟩
    · obtain rfl : m = 0 := by omega
      have e0 : ((0 : Nat) : Int) - 1 = -1 := by omega
      rw [e0]
      clear e0
      obtain ⟨ix, hinf, hx1, hx2, hx3⟩ := info_parts info8p
      have HI := Aside0.mk hinf
      have HX1 := Aside0.mk hx1
      have HX2 := Aside0.mk hx2
      have HX3 := Aside0.mk hx3
      clear hinf hx1 hx2 hx3
      have HRA := Aside0.mk (rS_all s)
      have HRb := Aside0.mk (rS_b s 0)
      generalize rS s 0 = R at *
      have hsz := HA.out.lt
      clear HL
      go_wp2_with fail
      go_loopw [10, 9] (fun v10 v9 wr => RR5 w b4 R v10 v9 wr) (fun v _ _ => 32 - (intOf v).toNat)
      case atStart => exact ⟨0, by omega, rfl, OwnB.nil _ _ _, HB.out, HA.out, by omega⟩
      case round =>
        clear HB HA
        obtain ⟨i, hi, rfl, hown, hb, ha, hl⟩ := hrel
        have HOW := Aside0.mk hown
        have HB := Aside0.mk hb
        have HA := Aside0.mk ha
        have hal := ha.lt
        have hbs := hb.size
        clear hown hb
        rcases Nat.lt_or_ge i 32 with h33 | h33
        · have hlt : ((i : Int) < 32) = True := eq_true (by omega)
          have k0 := ha.cell i (by omega)
          have hdb := dig_b 256 (by omega) R i
          have HPU := Aside0.mk (OwnB.push (n := i) (dig 256 R))
          generalize dig 256 R i = x at *
          have q0 : IntKind.u8.wrap x = x := by rw [u8w]; omega
          have HOWa := Aside0.mk (HOW.out.kept (World.grownBy_alloc wr (.cells #[.int .u8 x] 5) none) (by simp))
          clear ha hdb
          go_wp2_with (refine wpList_append_own _ rfl _ _ 25 rfl (b4 + 1) 5 ix (.int .u8 0) 1 1 Tryd.underlying25 HI.out HX1.out HX2.out HX3.out rfl (by decide) _ i _ rfl HOWa.out ⟨wr.heap.size, 0, none⟩ 1 1 [.int .u8 x] rfl rfl (news_one _ _ _) (by simp [Value.oneCell']) (by unfold maxLen; omega) (by omega) (by simp; omega) ?_; intro v5 w5 ho5 hg5 _; have HO5 := Aside0.mk ho5; have HG5 := Aside0.mk hg5; clear ho5 hg5)
          have HB5 := Aside0.mk ((HB.out.alloc (by omega) (.cells #[.int .u8 x] 5)).grown HG5.out (by simp; omega) (fun k e => by have := (World.ownsRow.lt HOWa.out k e).1; omega))
          have HA5 : Aside0 (Row w5 b4 .i64 33 (dig 256 R) 121) := ⟨(HG5.out.block _ (by simp; omega) (fun e => by have := (World.ownsRow.lt HOWa.out _ e.symm).1; omega)).trans (HA.out.alloc _)⟩
          refine ⟨⟨i + 1, by omega, rfl, ?_, HB5.out, HA5.out, by have := HG5.out.size; simp at this; omega⟩, meas_up 32 i h33⟩
          unfold OwnB
          rw [← HPU.out]
          exact HO5.out
        · obtain rfl : i = 32 := by omega
          have hcv := HOW.out.str
          clear ha
          go_wp2_with fail
          go_ret
          refine ⟨?_, HB.out⟩
          rw [← HRA.out]; rfl
theorem sN_size (n : Nat) (z : Nat → Int) : (sN n z).size = n := by simp [sN, strOfNums, ByteArray.size]
theorem sB_sN (n : Nat) (z : Nat → Int) (hz : ∀ i, i < n → 0 ≤ z i ∧ z i < 256) (i : Nat) (hi : i < n) : sB (sN n z) i = z i := by
  obtain ⟨c, h1, h2⟩ := sB_at (sN n z) i (by rw [sN_size]; exact hi)
  rw [← h2, ← h1 (by rw [sN_size]; exact hi)]
  have h3 := hz i hi
  show (((sN n z).data[i]'(by rw [show (sN n z).data.size = n from sN_size n z]; exact hi)).toNat : Int) = z i
  simp [sN, strOfNums]
  omega
theorem sN_val (n : Nat) (z : Nat → Int) (hz : ∀ i, i < n → 0 ≤ z i ∧ z i < 256) : val 256 (sB (sN n z)) (sN n z).size = val 256 z n := by
  rw [sN_size]; exact val_congr 256 _ _ n (fun i hi => sB_sN n z hz i hi)
theorem By.sB (s : ByteArray) : By (P.sB s) := fun j _ => sB_b s j
theorem beq_good (f : Nat → Int) (hf : By f) : ((sN 32 (dig 256 (N32 f % LL))).toList == (sN 32 f).toList) = decide (N32 f < LL) := by
  have e : sN 32 f = sN 32 (dig 256 (N32 f)) := by
    unfold sN; congr 1; apply List.map_congr_left; intro j hj; exact hf.dig j (List.mem_range.1 hj)
  rw [e]
  show ((sOf (dig 256 (N32 f % LL))).toList == (sOf (dig 256 (N32 f))).toList) = _
  rw [sOf_sameL _ _ (modLL_b _) (N32_b f hf)]
  have h := N32_b f hf
  congr 1
  apply propext
  constructor
  · intro e; rw [← e]; unfold LL; omega
  · intro e; exact Int.emod_eq_of_lt h.1 e
theorem refgood_calls (f : Nat → Int) (w : World) (hf : By f) :
    Calls Tryd.prog 29 #[.string (sN 32 f)] w fun e w' => e = .returned (.bool (decide (N32 f < LL))) ∧ Below w.heap.size w w' := by
  have hq := beq_good f hf
  have HV := Aside0.mk (sN_val 32 f hf)
  have hsz := sN_size 32 f
  have HSZ := Aside0.mk hsz
  go_enter Tryd.func29, Tryd.ntmps29
  go_wp2_with fail
  refine (refrest_calls (sN 32 f) _ (by rw [HSZ.out]; omega)).mono ?_
  rintro e w1 ⟨rfl, hb⟩
  have HB := Aside0.mk hb
  clear hb
  rw [HV.out]
  have HQ := Aside0.mk hq
  clear hq
  go_wp2_with fail
  go_ret
  refine ⟨?_, HB.out⟩
  rw [← HQ.out]
  rfl
end Go.Proofs.YtbmnkchcekacfaaDoor.P
end

section
namespace Go.Proofs.YtbmnkchcekacfaaDoor.P
set_option linter.unusedVariables false
set_option linter.unusedSimpArgs false
open Go.RowKit Go.ChangeShapes Go.WideShapes Go.Proofs.YtbmnkchcekacfaaDoorW.PrintWords Go.Proofs.YtbmnkchcekacfaaDoorW.PrintLast Go.Proofs.YtbmnkchcekacfaaDoorW.PrintMore
section
variable {P : Program} {ops : Array Oper} {Q : Exit → Act → World → Prop}
theorem Sl.put {a : Act} {sz : Nat} {S : List (Tmp × Value)} {t : Tmp} {v : Value} (h : Sl a sz S) (hf : (S.all fun e => !(e.1 == t)) = true) (ht : Nat.ble (t + 1) sz = true) : Sl (a.put (some t) v) sz ((t, v) :: S) := by
  obtain ⟨h1, h2, h3⟩ := h
  have hlt : t < a.tmps.size := by rw [h1]; exact Nat.le_of_ble_eq_true ht
  refine ⟨by simpa [Act.put] using h1, h2, fun e he => ?_⟩
  rcases List.mem_cons.1 he with rfl | he
  · show (a.tmps.setIfInBounds t v).getD t undef = v
    rw [Array.getD_eq_getD_getElem?, Array.getElem?_setIfInBounds_self_of_lt hlt]; rfl
  · have hne := List.all_eq_true.1 hf e he
    have hne : t ≠ e.1 := fun c => by rw [c] at hne; simp at hne
    have h4 : a.tmps.getD e.1 undef = e.2 := h3 e he
    show (a.tmps.setIfInBounds t v).getD e.1 undef = e.2
    rw [Array.getD_eq_getD_getElem?, Array.getElem?_setIfInBounds_ne hne, ← Array.getD_eq_getD_getElem?]
    exact h4
theorem l_run {o : Oper} {rest : List Oper} {a : Act} {w w1 : World} {sz : Nat} {S : List (Tmp × Value)} {t : Tmp} {v : Value} (hd : o.dst = some t) (hg : o.guard = none) (hS : Sl a sz S) (hf : (S.all fun e => !(e.1 == t)) = true) (ht : Nat.ble (t + 1) sz = true)
    (hrun : (execOp a.eval o).run P w = .ok (.value v) w1) (h : ∀ a', Sl a' sz ((t, v) :: S) → wpList P ops Q rest a' w1) : wpList P ops Q (o :: rest) a w :=
  wpList_plain hg fun K hK => by
    unfold Oper.wp
    rw [hrun]
    show K (a.put o.dst v) w1
    rw [hd]
    exact hK _ _ (h _ (hS.put hf ht))
theorem l_call {o : Oper} {rest : List Oper} {a : Act} {w : World} {sz : Nat} {S : List (Tmp × Value)} {t : Tmp} {v : Value} {f : FuncId} {fn : Func} {asx : Array Operand} {ts : Array TypeId} (args : Array Value) (hd : o.dst = some t) (hg : o.guard = none) (hop : o.op = .call { callee := .value (.func f), args := asx, argTypes := ts }) (hS : Sl a sz S) (hf : (S.all fun e => !(e.1 == t)) = true) (ht : Nat.ble (t + 1) sz = true)
    (hff : P.funcs[f]? = some fn) (hname : (fn.name == "runtime.NumGoroutine") = false) (hb : fn.body.isSome = true) (hargs : asx.map a.eval = args) (hc : Calls P f args w fun e w' => e = .returned v ∧ Below w.heap.size w w')
    (h : ∀ a' w', Below w.heap.size w w' → Sl a' sz ((t, v) :: S) → wpList P ops Q rest a' w') : wpList P ops Q (o :: rest) a w :=
  goesL_ (some t) hd hg hff hname hb args hop hargs (hc.mono (by
    rintro e w' ⟨rfl, hb⟩
    exact ⟨v, rfl, h _ _ hb (hS.put hf ht)⟩))
theorem exec_convertW {o : Oper} {ev : Operand → Value} {w w' : World} {s d : TypeId} {x : Operand} {a v : Value} (ho : o.op = .convert s d x) (hx : ev x = a) (h : (convert s d a).run P w = .ok v w') : (execOp ev o).run P w = .ok (.value v) w' := by
  unfold execOp
  simp only [ho, hx]
  rw [Sem.run_bind, h]
  rfl
theorem sl_tell {a : Act} {sz : Nat} {S S' : List (Tmp × Value)} (h : Sl a sz S) (hm : ∀ e ∈ S', e ∈ S) : Sl a sz S' := ⟨h.1, h.2.1, fun e he => h.2.2 e (hm e he)⟩
end
theorem conv_sN (n : Nat) (Y : Nat → Int) (hY : ∀ j, j < n → 0 ≤ Y j ∧ Y j < 256) (w : World) : ∃ w5 c5, (convert 9 25 (.string (Dg.sN n Y))).run Tryd.prog w = .ok (.slice (some ⟨w.heap.size, 0, none⟩) n c5) w5 ∧ Below w.heap.size w w5 ∧ NumsAt .u8 w5 (some ⟨w.heap.size, 0, none⟩) n Y := by
  have hz : (Dg.sN n Y).size = n := by simp [Dg.sN, strOfNums, ByteArray.size]
  refine ⟨Lib.bytesWorld w 5 (Dg.sN n Y), grownCap w n 0 5, by rw [Lib.run_convert_string_bytes w 9 25 5 (Dg.sN n Y) Tryd.underlying9 Tryd.underlying25 Tryd.underlying5, hz], ⟨rfl, rfl, rfl, by rw [Lib.bytesWorld_size]; omega, fun k hk => Lib.bytesWorld_at_old w _ _ k hk⟩, .inr ⟨_, rfl, fun j hj => ?_⟩⟩
  rw [add_at, Nat.zero_add, Lib.bytesWorld_cell w _ _ j (by omega)]
  have h1 := hY j hj
  have e : (((Dg.sN n Y).data.toList.getD j 0).toNat : Int) = Y j := by
    show (((((List.range n).map Y).map fun n => UInt8.ofNat n.toNat).getD j 0).toNat : Int) = Y j
    rw [List.getD_eq_getElem?_getD, List.getElem?_map, List.getElem?_map, List.getElem?_range hj]
    simp
    omega
  rw [e]
theorem sN_app (n m : Nat) (f g : Nat → Int) : Dg.sN n f ++ Dg.sN m g = Dg.sN (n + m) (cat2 n f g) := by
  apply ByteArray.ext
  apply Array.ext'
  show _ = (((List.range (n + m)).map (cat2 n f g)).map fun n => UInt8.ofNat n.toNat)
  have e1 : (Dg.sN n f ++ Dg.sN m g).data.toList = (((List.range n).map f).map fun n => UInt8.ofNat n.toNat) ++ (((List.range m).map g).map fun n => UInt8.ofNat n.toNat) := by
    simp [Dg.sN, strOfNums]
  rw [e1]
  apply List.ext_getElem?
  intro j
  rw [List.getElem?_append]
  simp only [List.length_map, List.length_range, List.getElem?_map]
  by_cases h1 : j < n
  · rw [if_pos h1, List.getElem?_range h1, List.getElem?_range (by omega)]
    simp [cat2, h1]
  · rw [if_neg h1]
    by_cases h2 : j < n + m
    · rw [List.getElem?_range (by omega), List.getElem?_range h2]
      simp [cat2, h1]
    · rw [List.getElem?_eq_none (by simp; omega), List.getElem?_eq_none (by simp; omega)]; rfl
theorem sN_size' (n : Nat) (z : Nat → Int) : (Dg.sN n z).size = n := by simp [Dg.sN, strOfNums, ByteArray.size]
theorem sN_cut (n lo hi : Nat) (f : Nat → Int) (h1 : lo ≤ hi) (h2 : hi ≤ n) : (Dg.sN n f).extract lo hi = Dg.sN (hi - lo) (fun j => f (lo + j)) := by
  apply ByteArray.ext
  apply Array.ext'
  apply List.ext_getElem?
  intro j
  simp [Dg.sN, strOfNums]
  by_cases h3 : j < hi - lo
  · simp [List.getElem?_take, h3, List.getElem?_range (show lo + j < n by omega), List.getElem?_range h3]
  · simp [List.getElem?_take, h3]
theorem sN_congr {n : Nat} {f g : Nat → Int} (h : ∀ j, j < n → f j = g j) : Dg.sN n f = Dg.sN n g := by
  unfold Dg.sN
  congr 1
  exact List.map_congr_left (fun j hj => h j (List.mem_range.1 hj))
theorem slice_sN {n : Nat} {f : Nat → Int} (lo hi : Nat) (h1 : lo ≤ hi) (h2 : hi ≤ n) (hn : n ≤ 1000000) {l h : Option Value} (hl : (l = none ∧ lo = 0) ∨ l = some (.int .i64 (lo : Int))) (hh : (h = none ∧ hi = n) ∨ h = some (.int .i64 (hi : Int))) (w : World) :
    (Instr.sliceAt 9 (.string (Dg.sN n f)) l h none).run Tryd.prog w = .ok (.string (Dg.sN (hi - lo) (fun j => f (lo + j)))) w := by
  rw [← sN_cut n lo hi f h1 h2]
  have hz := sN_size' n f
  generalize Dg.sN n f = s at hz ⊢
  subst hz
  have q0 : (0 : Int) ≤ (lo : Int) := by omega
  have q1 : (0 : Int) ≤ (hi : Int) := by omega
  have q2 : (lo : Int) ≤ (hi : Int) := by omega
  have q3 : (hi : Int) ≤ (s.size : Int) := by omega
  have q4 : (lo : Int).toNat = lo := by omega
  have q5 : (hi : Int).toNat = hi := by omega
  have q6 : (lo : Int) ≤ (s.size : Int) := by omega
  rcases hl with ⟨rfl, rfl⟩ | rfl <;> rcases hh with ⟨rfl, rfl⟩ | rfl <;> go_simp
theorem number_calls (n : Nat) (z : Nat → Int) (w : World) (hn : n ≤ 100000) (hz : ∀ j, j < n → 0 ≤ z j ∧ z j < 256) : Calls Tryd.prog 30 #[.string (Dg.sN n z)] w fun e w' => e = .returned (.string (Dg.sN 32 (nmb z n))) ∧ Below w.heap.size w w' := by
  refine enter_ 7 Tryd.func30 rfl rfl (fun a0 hS => ?_)
  have HS0 : Sl a0 7 [(0, .string (Dg.sN n z))] := hS
  clear hS
  refine wp_seq (wp_region_list ?_)
  refine l_run rfl rfl HS0 rfl rfl (zF (.inr rfl) rfl) (fun a1 HS1 => ?_)
  refine wpList_nil (then_ ?_)
  refine wp_seq (wp_region_list ?_)
  have HS1 := sl_tell (S' := [(0, .string (Dg.sN n z))]) HS1 (by simp)
  refine l_run rfl rfl HS1 rfl rfl (zF (.inl rfl) (HS1.get 0 rfl)) (fun a2 HS2 => ?_)
  obtain ⟨w3, c3, hcv, hb3, hnum⟩ := conv_sN n z hz w
  refine l_run rfl rfl HS2 rfl rfl (exec_convertW rfl (HS2.get 0 rfl) hcv) (fun a3 HS3 => ?_)
  refine l_call #[.slice (some ⟨w.heap.size, 0, none⟩) n c3] rfl rfl rfl HS3 rfl rfl Tryd.func42 rfl rfl (args1 (HS3.get 0 rfl)) (Dg.refof_calls z _ n c3 w3 hnum (fun e => (by cases e)) (by omega) hz) (fun a4 w4 hb4 HS4 => ?_)
  have hr := refrest_calls (Dg.sN 64 (Dg.dg z n)) w4 (by rw [sN_size']; omega)
  have hv : val 256 (sB (Dg.sN 64 (Dg.dg z n))) (Dg.sN 64 (Dg.dg z n)).size = val 256 (Dg.dg z n) 64 := sN_val 64 (Dg.dg z n) (fun i _ => Dg.dg_b z n i)
  rw [hv] at hr
  refine l_call #[.string (Dg.sN 64 (Dg.dg z n))] rfl rfl rfl HS4 rfl rfl Tryd.func65 rfl rfl (args1 (HS4.get 0 rfl)) hr (fun a5 w5 hb5 HS5 => ?_)
  refine l_run (t := 2) rfl rfl HS5 rfl rfl (zF (.inr rfl) (HS5.get 0 rfl)) (fun a6 HS6 => ?_)
  refine wpList_nil (then_ ?_)
  refine wp_ret ?_
  exact b_tmp rfl HS6.2.1 (HS6.get 0 rfl) ⟨rfl, (hb3.trans (hb4.mono hb3.size)).trans (hb5.mono (hb3.trans (hb4.mono hb3.size)).size)⟩
end Go.Proofs.YtbmnkchcekacfaaDoor.P
end

section
namespace Go.Proofs.YtbmnkchcekacfaaDoor.P.Dg
set_option linter.unusedVariables false
set_option linter.unusedSimpArgs false
open Go.RowKit Go.Proofs.YtbmnkchcekacfaaDoorW.PrintWords Go.Proofs.YtbmnkchcekacfaaDoorW.PrintLast Go.Proofs.YtbmnkchcekacfaaDoorW.PrintMore
attribute [local go_sem] setCell_drewN
def bbz (j : Nat) : Int := if j = 0 then 88 else 102
def BRel (w : World) (v1 : Value) (wr : World) : Prop := ∃ n : Nat, 1 ≤ n ∧ n ≤ 32 ∧ OwnB wr (w.heap.size + 1) v1 n bbz ∧ Row wr w.heap.size .i64 64 (fun _ => 0) 52 ∧ Below w.heap.size w wr ∧ w.heap.size + 1 ≤ wr.heap.size
theorem infoPr2 : (Tryd.prog.info? 52).map (·.size) = some 64 := by kernel_rfl
theorem own_one (w : World) (base : Nat) (hb : base ≤ w.heap.size) : OwnB (w.alloc (.cells #[.int .u8 88] 5)) base (.slice (some ⟨w.heap.size, 0, none⟩) 1 1) 1 bbz :=
  .inr ⟨w.heap.size, 0, 1, #[.int .u8 88], rfl, hb, heap_alloc_new w _, by omega, by unfold maxLen; omega, by simp, fun j hj => by
    have : j = 0 := by omega
    rw [this]; rfl⟩
theorem bbz_str : sN 32 bbz = sOf (bBf 32) := by
  refine congrArg strOfNums (List.map_congr_left (fun j hj => ?_))
  have := List.mem_range.1 hj
  unfold bbz bBf
  by_cases h : j = 0
  · rw [if_pos h, if_pos h]
  · rw [if_neg h, if_neg h, if_pos (by omega)]
set_option maxRecDepth 100000 in
set_option maxHeartbeats 2000000 in
theorem _root_.Go.Proofs.YtbmnkchcekacfaaDoor.P.refbase_calls (w : World) : Calls Tryd.prog 23 #[] w fun e w' => e = .returned (.agg (FR .i64 64 (decRP (bBf 32)))) ∧ Below w.heap.size w w' := by
  have HR0 := Aside0.mk ((Row.new w .i64 64 (fun _ => 0) 52).alloc (.cells #[.int .u8 88] 5))
  have HB0 := Aside0.mk (bel_two w (.cells (FR .i64 64 fun _ => 0) 52) (.cells #[.int .u8 88] 5))
  have HS0 : Aside0 (w.heap.size + 1 ≤ ((w.alloc (.cells (FR .i64 64 fun _ => 0) 52)).alloc (.cells #[.int .u8 88] 5)).heap.size) := ⟨by simp⟩
  have hgs : (w.alloc (.cells (FR .i64 64 fun _ => 0) 52)).heap.size = w.heap.size + 1 := by simp
  have hO := own_one (w.alloc (.cells (FR .i64 64 fun _ => 0) 52)) (w.heap.size + 1) (by rw [hgs]; omega)
  rw [hgs] at hO
  have HO0 := Aside0.mk hO
  clear hO hgs
  go_enter Tryd.func23, Tryd.ntmps23
  go_wp2_with fail
  go_loopw [1] (fun v1 wr => BRel w v1 wr) (fun v _ => 32 - slen v)
  case atStart => exact ⟨1, by omega, by omega, HO0.out, HR0.out, HB0.out, HS0.out⟩
  case round =>
    clear HO0 HR0 HB0 HS0
    obtain ⟨n, hn1, hn2, hown, hrow, hb, hsz⟩ := hrel
    have HOW := Aside0.mk hown
    have HR := Aside0.mk hrow
    have HB := Aside0.mk hb
    have HSZ := Aside0.mk hsz
    obtain ⟨x, c, rfl⟩ := hown.form
    have hsz1 := hsz
    have hbs := hb.size
    clear hown hrow hb hsz
    rcases Nat.lt_or_ge n 32 with h8 | h8
    · have hlt : ((n : Int) < 32) = True := eq_true (by omega)
      have HOa := Aside0.mk (HOW.out.alloc (.cells #[.int .u8 102] 5))
      have HRa := Aside0.mk (HR.out.alloc (.cells #[.int .u8 102] 5))
      have HBa := Aside0.mk (HB.out.alloc hbs (.cells #[.int .u8 102] 5))
      go_wp2_with (refine step_append HOa.out (NumsAt.one .u8 _ 102 _) Tryd.underlying25 info8p rfl rfl rfl rfl rfl (fun e => by cases e) (by unfold maxLen; omega) (by omega) (by simp; omega) ?_; intro v5 w5 ho5 hg5 _ _; have HO5 := Aside0.mk ho5; have HG5 := Aside0.mk hg5; clear ho5 hg5)
      have hown2 := HOa.out.lt
      have HB5 := Aside0.mk (grown_bel HBa.out HG5.out (by simp; omega) (fun b e => by have := (hown2 b e).1; omega))
      have HR5 : Aside0 (Row w5 w.heap.size .i64 64 (fun _ => 0) 52) := ⟨(HG5.out.block w.heap.size HRa.out.lt (fun e => by have := (hown2 _ e.symm).1; omega)).trans HRa.out⟩
      have HS5 : Aside0 (w.heap.size + 1 ≤ w5.heap.size) := ⟨Nat.succ_le_of_lt HR5.out.lt⟩
      have HO6 : Aside0 (OwnB w5 (w.heap.size + 1) v5 (n + 1) bbz) := ⟨HO5.out.congr (fun j hj => by
        by_cases h : j < n
        · rw [if_pos h]
        · rw [if_neg h]; unfold bbz; rw [if_neg (by omega)])⟩
      clear HO5 HG5 HRa HBa HOa HOW HR HB HSZ
      obtain ⟨x5, c5, rfl⟩ := HO6.out.form
      refine ⟨⟨n + 1, by omega, by omega, HO6.out, HR5.out, HB5.out, HS5.out⟩, ?_⟩
      show 32 - (n + 1) < 32 - n
      omega
    · obtain rfl : n = 32 := by omega
      have hcv := OwnB.str HOW.out (by omega)
      rw [bbz_str] at hcv
      obtain ⟨X, hX⟩ : ∃ X, decRP (bBf 32) = X := ⟨_, rfl⟩
      obtain ⟨r, hr⟩ : ∃ r, decROk (bBf 32) = r := ⟨_, rfl⟩
      have HD : Aside0 (∀ w', Calls Tryd.prog 28 #[.string (sOf (bBf 32))] w' fun e w'' => e = .returned (.tuple #[.agg (FR .i64 64 X), .bool r]) ∧ Below w'.heap.size w' w'') := ⟨fun w' => by rw [← hX, ← hr]; exact decode_pr _ w' (bBf_By 32)⟩
      generalize sOf (bBf 32) = s at *
      go_wp2_with fail
      refine (HD.out _).mono ?_
      rintro e w7 ⟨rfl, hb7⟩
      have HB7 := Aside0.mk (HB.out.trans (hb7.mono HB.out.size))
      have HR7 := Aside0.mk (HR.out.below hb7 HR.out.lt)
      have HS7 : Aside0 (w.heap.size + 1 ≤ w7.heap.size) := ⟨Nat.le_trans HSZ.out hb7.size⟩
      clear hb7 HB HR HSZ HOW HD
      have HN8 := Aside0.mk (Row.new w7 .i64 64 (fun _ => 0) 52)
      have HR8 := Aside0.mk (HR7.out.alloc (.cells (FR .i64 64 fun _ => 0) 52))
      have hs7 := HB7.out.size
      have HB8 := Aside0.mk (HB7.out.alloc hs7 (.cells (FR .i64 64 fun _ => 0) 52))
      have hne : w.heap.size ≠ w7.heap.size := by have := HS7.out; omega
      go_wp2_with (first
        | (refine zQ X HN8.out infoPr2 rfl rfl rfl rfl rfl ?_; intro w9 hs9 hr9; have HS9 := Aside0.mk hs9; have HN9 := Aside0.mk hr9; have HR9 := Aside0.mk (HR8.out.stored hs9 hne); clear hs9 hr9)
        | refine zX HN9.out Tryd.underlying52 infoPr2 rfl rfl rfl rfl ?_
        | (refine zQ X HR9.out infoPr2 rfl rfl rfl rfl rfl ?_; intro w11 hs hr; have HS11 := Aside0.mk hs; have HR11 := Aside0.mk hr; clear hs hr))
      refine bodyPost_ret (zY rfl HR11.out rfl Tryd.underlying52 rfl infoPr2) rfl ?_
      exact ⟨by rw [hX], HS11.out.bel _ _ (Nat.le_refl _) (HS9.out.bel _ _ hs7 HB8.out)⟩
end Go.Proofs.YtbmnkchcekacfaaDoor.P.Dg
end

section
namespace Go.Proofs.YtbmnkchcekacfaaDoor.P
set_option linter.unusedVariables false
set_option linter.unusedSimpArgs false
open Go.RowKit Go.ChangeShapes Go.WideShapes Go.Proofs.YtbmnkchcekacfaaDoorW.PrintWords Go.Proofs.YtbmnkchcekacfaaDoorW.PrintLast Go.Proofs.YtbmnkchcekacfaaDoorW.PrintMore
open Go.Proofs.YtbmnkchcekacfaaDoor.P.Fd
theorem base_rrep : RRep (decRP (bBf 32)) basePt := by
  obtain ⟨ok, e⟩ := dec_of (bBf_By 32) base_bytes
  rw [← e]
  exact dec_rrep (bBf_By 32) ok
theorem number_as {z R : Nat → Int} {n : Nat} (h : nmb z n = R) (w : World) (hn : n ≤ 100000) (hz : ∀ j, j < n → 0 ≤ z j ∧ z j < 256) : Calls Tryd.prog 30 #[.string (Dg.sN n z)] w fun e w' => e = .returned (.string (Dg.sN 32 R)) ∧ Below w.heap.size w w' := by rw [← h]; exact number_calls n z w hn hz
theorem mulRs_as {F z S : Nat → Int} (h : mulRP F z = S) (w : World) (hF : PR F) (hz : Fd.By z) : Calls Tryd.prog 22 #[.agg (FR .i64 64 F), .string (Dg.sN 32 z)] w fun e w' => e = .returned (.agg (FR .i64 64 S)) ∧ Below w.heap.size w w' := mulR_as h w hF hz
theorem bytesRs_as {F K : Nat → Int} (h : bytesRP F = K) (w : World) (hF : PR F) : Calls Tryd.prog 21 #[.agg (FR .i64 64 F)] w fun e w' => e = .returned (.string (Dg.sN 32 K)) ∧ Below w.heap.size w w' := by rw [← h]; exact bytes_pr F w hF
theorem decRs_as {b S : Nat → Int} {r : Bool} (h : decRP b = S) (hr : decROk b = r) (w : World) (hb : Fd.By b) : Calls Tryd.prog 28 #[.string (Dg.sN 32 b)] w fun e w' => e = .returned (.tuple #[.agg (FR .i64 64 S), .bool r]) ∧ Below w.heap.size w w' := decR_as h hr w hb
theorem refgood_as {s : Nat → Int} {g : Bool} (h : decide (N32 s < LL) = g) (w : World) (hs : Fd.By s) : Calls Tryd.prog 29 #[.string (Dg.sN 32 s)] w fun e w' => e = .returned (.bool g) ∧ Below w.heap.size w w' := by rw [← h]; exact refgood_calls s w hs
theorem cat3_b {f g m : Nat → Int} {l : Nat} (hf : ∀ j, j < 32 → 0 ≤ f j ∧ f j < 256) (hg : ∀ j, j < 32 → 0 ≤ g j ∧ g j < 256) (hm : ∀ j, j < l → 0 ≤ m j ∧ m j < 256) : ∀ j, j < 64 + l → 0 ≤ cat3 f g m j ∧ cat3 f g m j < 256 := fun j hj => by
  unfold cat3
  split
  · exact hf j (by assumption)
  · split
    · exact hg _ (by omega)
    · exact hm _ (by omega)
theorem cat23 (f g m : Nat → Int) : cat2 64 (cat2 32 f g) m = cat3 f g m := by
  funext j
  unfold cat2 cat3
  by_cases h : j < 64
  · rw [if_pos h]
    by_cases h2 : j < 32
    · rw [if_pos h2, if_pos h2]
    · rw [if_neg h2, if_neg h2, if_pos h]
  · rw [if_neg h, if_neg (by omega), if_neg h]
theorem slice_as {f s : Nat → Int} {n : Nat} {t : TypeId} {x : Value} {l h m : Option Value} {w : World} (e : f = s) (hr : (Instr.sliceAt t x l h m).run Tryd.prog w = .ok (.string (Dg.sN n f)) w) : (Instr.sliceAt t x l h m).run Tryd.prog w = .ok (.string (Dg.sN n s)) w := by rw [← e]; exact hr
theorem refbase_as {X : Nat → Int} (h : decRP (bBf 32) = X) (w : World) : Calls Tryd.prog 23 #[] w fun e w' => e = .returned (.agg (FR .i64 64 X)) ∧ Below w.heap.size w w' := by rw [← h]; exact refbase_calls w
theorem tabrv_5 : rtab .any (opsOf Tryd.f12 5) = (true, [([], []), ([], []), ([1], [1]), ([0, 2, 0], [0, 2]), ([], []), ([4, 3, 3, 0, 1, 2, 3, 4], [3, 4])]) := by kernel_rfl
theorem bitsrv_5 : zW [([], []), ([], []), ([1], [1]), ([0, 2, 0], [0, 2]), ([], []), ([4, 3, 3, 0, 1, 2, 3, 4], [3, 4])] [0, 0, 2, 7, 0, 31] = true := by kernel_rfl
theorem tabrv_7 : rtab .any (opsOf Tryd.f12 7) = (true, [([], []), ([], []), ([0, 1], [0, 1]), ([2, 2], [2]), ([], []), ([4], [4]), ([3, 5], [3, 5]), ([6, 3, 0, 1, 2, 3, 4, 5, 6], [6])]) := by kernel_rfl
theorem bitsrv_7 : zW [([], []), ([], []), ([0, 1], [0, 1]), ([2, 2], [2]), ([], []), ([4], [4]), ([3, 5], [3, 5]), ([6, 3, 0, 1, 2, 3, 4, 5, 6], [6])] [0, 0, 3, 7, 0, 16, 63, 127] = true := by kernel_rfl
theorem refverify_calls (a : Nat → Int) (lm : Nat) (zm sg : Nat → Int) (w : World) (ha : Fd.By a) (hl : lm ≤ 2000) (hm : ∀ j, j < lm → 0 ≤ zm j ∧ zm j < 256) (hsg : ∀ j, j < 64 → 0 ≤ sg j ∧ sg j < 256) : Calls Tryd.prog 12 #[.string (Dg.sN 32 a), .string (Dg.sN lm zm), .string (Dg.sN 64 sg)] w fun e w' => e = .returned (.bool (verV a lm zm sg)) ∧ Below w.heap.size w w' := by
  obtain ⟨Xa, hXa⟩ : ∃ X, decP a = X := ⟨_, rfl⟩
  obtain ⟨Ya, hYa⟩ : ∃ X, decRP a = X := ⟨_, rfl⟩
  obtain ⟨ra, hra⟩ : ∃ r, decOk a = r := ⟨_, rfl⟩
  have hrra := (decOk_eq ha).symm.trans hra
  obtain ⟨s, hs⟩ : ∃ S : Nat → Int, (fun j => sg (32 + j)) = S := ⟨_, rfl⟩
  have hsB : Fd.By s := fun j hj => by rw [← hs]; exact hsg (32 + j) (by omega)
  obtain ⟨q, hq⟩ : ∃ q : Nat → Int, (fun j => sg (0 + j)) = q := ⟨_, rfl⟩
  have hqB : Fd.By q := fun j hj => by rw [← hq]; exact hsg (0 + j) (by omega)
  obtain ⟨k, hk⟩ : ∃ S : Nat → Int, nmb (cat3 sg a zm) (64 + lm) = S := ⟨_, rfl⟩
  have hkB : Fd.By k := by rw [← hk]; exact nmb_By _ _
  have hk2 : nmb (cat3 q a zm) (64 + lm) = k := by rw [← hk, ← hq]; exact congrArg (fun z => nmb z (64 + lm)) (by funext j; simp only [cat3, Nat.zero_add])
  obtain ⟨g, hg⟩ : ∃ g, decide (N32 s < LL) = g := ⟨_, rfl⟩
  obtain ⟨BR, hBR, rBR⟩ : ∃ S, decRP (bBf 32) = S ∧ RRep S basePt := ⟨_, rfl, base_rrep⟩
  refine enter_ 47 Tryd.func12 rfl rfl (fun a0 hS => ?_)
  have HS0 : Sl a0 47 [(0, .string (Dg.sN 32 a)), (1, .string (Dg.sN lm zm)), (2, .string (Dg.sN 64 sg))] := hS
  have HH0 : Held w w [] := Held.first w
  clear hS
  refine wp_seq ?_
  have hLo : LOk [(0, 6, .val (.bool false))] := lok rfl rfl
  refine zJ (wE := w) (sz := 47) (n := 1) [0] [(0, .val (.string (Dg.sN 32 (a)))), (1, .val (.string (Dg.sN lm (zm)))), (2, .val (.string (Dg.sN 64 (sg))))] _ [] rfl (by rfl) HH0 rfl rfl hLo rfl HS0 (slS 0 rfl rfl (slS 1 rfl rfl (slS 2 rfl rfl (trivial)))) ?_ ?_
  · show ∀ i ∈ [0], _
    refine zA (zC 0 _ rfl rfl hLo rfl rfl (fun _ _ _ _ => rfl) (fun b G w hb ho => zF (.inr rfl) (rfl))) ?_
    exact zE
  clear hLo
  intro G a1 w1 hS hH
  have HS1 : Sl a1 47 [(0, .string (Dg.sN 32 (a))), (1, .string (Dg.sN lm (zm))), (2, .string (Dg.sN 64 (sg)))] := hS
  have HH1 : Held w w1 [] := hH
  clear hS hH HS0 HH0
  refine then_ ?_
  refine wp_seq ?_
  have hLo : LOk [(0, 13, .val (.string (Dg.sN 32 (a)))), (1, 14, .val (.tuple #[.agg (FR .i64 64 (Ya)), .bool ra])), (2, 12, .val (.tuple #[.agg (FR .i64 64 (Ya)), .bool ra])), (3, 15, .val (.agg (FR .i64 64 (Ya)))), (4, 16, .val (.bool ra)), (5, 7, .ptr 5 0), (7, 8, .val (.bool ra))] := lok rfl rfl
  refine zJ (wE := w) (sz := 47) (n := 8) [0, 1, 3, 7, 15, 31, 63, 127] [(0, .val (.string (Dg.sN 32 (a)))), (1, .val (.string (Dg.sN lm (zm)))), (2, .val (.string (Dg.sN 64 (sg)))), (7, .ptr 5 0), (8, .val (.bool ra))] _ [⟨0, some 5, some 6, .i64, 64, fun _ => 0, Ya, 52⟩] rfl (by rfl) HH1 rfl rfl hLo rfl HS1 (slS 0 rfl rfl (slS 1 rfl rfl (slS 2 rfl rfl (slL 5 (d := 5) rfl (slL 6 (d := 7) rfl (trivial)))))) ?_ ?_
  · show ∀ i ∈ [0, 1, 2, 3, 4, 5, 6, 7], _
    refine zA (zC 0 _ rfl rfl hLo rfl rfl (fun _ _ _ _ => rfl) (fun b G w hb ho => zF (.inl rfl) (zD rfl (HS1.get 0 rfl)))) ?_
    refine zA (zH 1 _ #[.string (Dg.sN 32 (a))] rfl rfl rfl (fun _ _ _ _ => rfl) hLo rfl rfl Tryd.func28 rfl rfl (fun b G hb ho => args1 (zB hLo 0 rfl HS1.1 rfl (hb 0 (by rfl)))) (fun w hw => decRs_as hYa hrra w ha)) ?_
    refine zA (zC 2 _ rfl rfl hLo rfl rfl (fun _ _ _ _ => rfl) (fun b G w hb ho => zF (.inl rfl) (zB hLo 1 rfl HS1.1 rfl (hb 1 (by rfl))))) ?_
    refine zA (zC 3 _ rfl rfl hLo rfl rfl (fun _ _ _ _ => rfl) (fun b G w hb ho => exec_extract rfl (zB hLo 2 rfl HS1.1 rfl (hb 2 (by rfl))) (by rfl))) ?_
    refine zA (zC 4 _ rfl rfl hLo rfl rfl (fun _ _ _ _ => rfl) (fun b G w hb ho => exec_extract rfl (zB hLo 2 rfl HS1.1 rfl (hb 2 (by rfl))) (by rfl))) ?_
    refine zA (zK 5 0 .i64 64 52 (some 6) _ _ rfl rfl (fun _ _ _ _ => rfl) rfl hLo rfl rfl rfl rfl (by rfl) (fun b G w _ _ => by kernel_rfl)) ?_
    refine zA (zI 0 _ rfl rfl rfl rfl rfl (fun _ _ _ _ => rfl) rfl rfl rfl (by rfl) infoPr (fun b G hb ho => zB hLo 5 rfl HS1.1 rfl (hb 5 (by rfl))) (fun b G hb ho => zB hLo 3 rfl HS1.1 rfl (hb 3 (by rfl)))) ?_
    refine zA (zC 6 _ rfl rfl hLo rfl rfl (fun _ _ _ _ => rfl) (fun b G w hb ho => zF (.inr rfl) (zB hLo 4 rfl HS1.1 rfl (hb 4 (by rfl))))) ?_
    exact zE
  clear hLo
  intro G a2 w2 hS hH
  have HS2 : Sl a2 47 [(0, .string (Dg.sN 32 (a))), (1, .string (Dg.sN lm (zm))), (2, .string (Dg.sN 64 (sg))), (7, .pointer (some ⟨(G 5), 0, none⟩)), (8, .bool ra)] := hS
  have HH2 : Held w w2 [⟨(G 5), .i64, 64, Ya, 52⟩] := hH
  clear hS hH HS1 HH1
  generalize G 5 = g2_5 at HS2 HH2
  refine then_ ?_
  cases ra
  · skip
    refine wp_seq ?_
    refine wp_seq ?_
    have hLo : LOk [(0, 17, .val (.bool false)), (1, 18, .val (.bool true)), (2, 19, .val (.bool true)), (3, 20, .val (undef)), (4, 21, .val (undef)), (5, 22, .val (undef)), (6, 23, .val (undef)), (7, 24, .val (.bool true))] := lok rfl rfl
    refine zJ (wE := w) (sz := 47) (n := 8) [0, 1, 3, 7, 15, 31, 63, 127] [(24, .val (.bool true))] _ [⟨g2_5, none, none, .i64, 64, Ya, Ya, 52⟩] rfl (by rfl) HH2 rfl rfl hLo rfl HS2 (slL 7 (d := 7) rfl (trivial)) ?_ ?_
    · show ∀ i ∈ [0, 1, 2, 3, 4, 5, 6, 7], _
      refine zA (zC 0 _ rfl rfl hLo rfl rfl (fun _ _ _ _ => rfl) (fun b G w hb ho => zF (.inl rfl) (zD rfl (HS2.get 4 rfl)))) ?_
      refine zA (zC 1 _ rfl rfl hLo rfl rfl (fun _ _ _ _ => rfl) (fun b G w hb ho => exec_un rfl (zB hLo 0 rfl HS2.1 rfl (hb 0 (by rfl))) (by rfl))) ?_
      refine zA (zC 2 _ rfl rfl hLo rfl rfl (fun _ _ _ _ => rfl) (fun b G w hb ho => zF (.inl rfl) (zB hLo 1 rfl HS2.1 rfl (hb 1 (by rfl))))) ?_
      refine zA (st_skip 3 rfl rfl hLo rfl rfl (fun b G hb ho => zN rfl rfl rfl HS2.1 rfl (zB hLo 2 rfl HS2.1 rfl (hb 2 (by rfl))) rfl)) ?_
      refine zA (st_skip 4 rfl rfl hLo rfl rfl (fun b G hb ho => zN rfl rfl rfl HS2.1 rfl (zB hLo 2 rfl HS2.1 rfl (hb 2 (by rfl))) rfl)) ?_
      refine zA (st_skip 5 rfl rfl hLo rfl rfl (fun b G hb ho => zN rfl rfl rfl HS2.1 rfl (zB hLo 2 rfl HS2.1 rfl (hb 2 (by rfl))) rfl)) ?_
      refine zA (st_skip 6 rfl rfl hLo rfl rfl (fun b G hb ho => zN rfl rfl rfl HS2.1 rfl (zB hLo 2 rfl HS2.1 rfl (hb 2 (by rfl))) rfl)) ?_
      refine zA (zC 7 _ rfl rfl hLo rfl rfl (fun _ _ _ _ => rfl) (fun b G w hb ho => exec_pick rfl (zB hLo 2 rfl HS2.1 rfl (hb 2 (by rfl))) (rfl))) ?_
      exact zE
    clear hLo
    intro G a3 w3 hS hH
    have HS3 : Sl a3 47 [(24, .bool true)] := hS
    have HH3 : Held w w3 [⟨g2_5, .i64, 64, Ya, 52⟩] := hH
    clear hS hH HS2 HH2
    refine then_ ?_
    refine wp_cond_true (HS3.get 0 rfl) ?_
    refine wp_seq ?_
    have hLo : LOk [(0, 6, .val (.bool false))] := lok rfl rfl
    refine zJ (wE := w) (sz := 47) (n := 1) [0] [(6, .val (.bool false))] _ [⟨g2_5, none, none, .i64, 64, Ya, Ya, 52⟩] rfl (by rfl) HH3 rfl rfl hLo rfl HS3 (slL 0 (d := 0) rfl (trivial)) ?_ ?_
    · show ∀ i ∈ [0], _
      refine zA (zC 0 _ rfl rfl hLo rfl rfl (fun _ _ _ _ => rfl) (fun b G w hb ho => zF (.inr rfl) (rfl))) ?_
      exact zE
    clear hLo
    intro G a4 w4 hS hH
    have HS4 : Sl a4 47 [(6, .bool false)] := hS
    have HH4 : Held w w4 [⟨g2_5, .i64, 64, Ya, 52⟩] := hH
    clear hS hH HS3 HH3
    refine then_ ?_
    refine wp_ret ?_
    repeat refine yC ?_
    exact b_tmp rfl HS4.2.1 (HS4.get 0 rfl) ⟨by rw [verV_no hra], HH4.1⟩
  · skip
    obtain ⟨Pa, hPa⟩ : ∃ P, decPt a ha hra = P := ⟨_, rfl⟩
    have rXa : PRep Xa Pa := by rw [← hXa, ← hPa]; exact dec_prep ha hra
    have rYa : RRep Ya Pa := by rw [← hYa, ← hPa]; exact dec_rrep ha hra
    cases g
    · skip
      refine wp_seq ?_
      refine wp_seq ?_
      have hLo : LOk [(0, 17, .val (.bool true)), (1, 18, .val (.bool false)), (2, 19, .val (.bool false)), (3, 20, .val (.string (Dg.sN 64 (sg)))), (4, 21, .val (.string (Dg.sN 32 (s)))), (5, 22, .val (.bool false)), (6, 23, .val (.bool true)), (7, 24, .val (.bool true))] := lok rfl rfl
      refine zJ (wE := w) (sz := 47) (n := 8) [0, 1, 3, 7, 15, 31, 63, 127] [(24, .val (.bool true))] _ [⟨g2_5, none, none, .i64, 64, Ya, Ya, 52⟩] rfl (by rfl) HH2 rfl rfl hLo rfl HS2 (slL 7 (d := 7) rfl (trivial)) ?_ ?_
      · show ∀ i ∈ [0, 1, 2, 3, 4, 5, 6, 7], _
        refine zA (zC 0 _ rfl rfl hLo rfl rfl (fun _ _ _ _ => rfl) (fun b G w hb ho => zF (.inl rfl) (zD rfl (HS2.get 4 rfl)))) ?_
        refine zA (zC 1 _ rfl rfl hLo rfl rfl (fun _ _ _ _ => rfl) (fun b G w hb ho => exec_un rfl (zB hLo 0 rfl HS2.1 rfl (hb 0 (by rfl))) (by rfl))) ?_
        refine zA (zC 2 _ rfl rfl hLo rfl rfl (fun _ _ _ _ => rfl) (fun b G w hb ho => zF (.inl rfl) (zB hLo 1 rfl HS2.1 rfl (hb 1 (by rfl))))) ?_
        refine zA (zC 3 _ rfl rfl hLo rfl rfl (fun b G hb ho => zN rfl rfl rfl HS2.1 rfl (zB hLo 2 rfl HS2.1 rfl (hb 2 (by rfl))) rfl) (fun b G w hb ho => zF (.inl rfl) (zD rfl (HS2.get 2 rfl)))) ?_
        refine zA (zC 4 _ rfl rfl hLo rfl rfl (fun b G hb ho => zN rfl rfl rfl HS2.1 rfl (zB hLo 2 rfl HS2.1 rfl (hb 2 (by rfl))) rfl) (fun b G w hb ho => exec_slice rfl (zB hLo 3 rfl HS2.1 rfl (hb 3 (by rfl))) rfl rfl rfl (slice_as hs <| slice_sN 32 64 (by decide) (by decide) (by decide) (.inr rfl) (.inl ⟨rfl, rfl⟩) _))) ?_
        refine zA (zH 5 _ #[.string (Dg.sN 32 (s))] rfl rfl rfl (fun b G hb ho => zN rfl rfl rfl HS2.1 rfl (zB hLo 2 rfl HS2.1 rfl (hb 2 (by rfl))) rfl) hLo rfl rfl Tryd.func29 rfl rfl (fun b G hb ho => args1 (zB hLo 4 rfl HS2.1 rfl (hb 4 (by rfl)))) (fun w hw => refgood_as hg w hsB)) ?_
        refine zA (zC 6 _ rfl rfl hLo rfl rfl (fun b G hb ho => zN rfl rfl rfl HS2.1 rfl (zB hLo 2 rfl HS2.1 rfl (hb 2 (by rfl))) rfl) (fun b G w hb ho => exec_un rfl (zB hLo 5 rfl HS2.1 rfl (hb 5 (by rfl))) (by rfl))) ?_
        refine zA (zC 7 _ rfl rfl hLo rfl rfl (fun _ _ _ _ => rfl) (fun b G w hb ho => exec_pick rfl (zB hLo 2 rfl HS2.1 rfl (hb 2 (by rfl))) (zB hLo 6 rfl HS2.1 rfl (hb 6 (by rfl))))) ?_
        exact zE
      clear hLo
      intro G a5 w5 hS hH
      have HS5 : Sl a5 47 [(24, .bool true)] := hS
      have HH5 : Held w w5 [⟨g2_5, .i64, 64, Ya, 52⟩] := hH
      clear hS hH HS2 HH2
      refine then_ ?_
      refine wp_cond_true (HS5.get 0 rfl) ?_
      refine wp_seq ?_
      have hLo : LOk [(0, 6, .val (.bool false))] := lok rfl rfl
      refine zJ (wE := w) (sz := 47) (n := 1) [0] [(6, .val (.bool false))] _ [⟨g2_5, none, none, .i64, 64, Ya, Ya, 52⟩] rfl (by rfl) HH5 rfl rfl hLo rfl HS5 (slL 0 (d := 0) rfl (trivial)) ?_ ?_
      · show ∀ i ∈ [0], _
        refine zA (zC 0 _ rfl rfl hLo rfl rfl (fun _ _ _ _ => rfl) (fun b G w hb ho => zF (.inr rfl) (rfl))) ?_
        exact zE
      clear hLo
      intro G a6 w6 hS hH
      have HS6 : Sl a6 47 [(6, .bool false)] := hS
      have HH6 : Held w w6 [⟨g2_5, .i64, 64, Ya, 52⟩] := hH
      clear hS hH HS5 HH5
      refine then_ ?_
      refine wp_ret ?_
      repeat refine yC ?_
      exact b_tmp rfl HS6.2.1 (HS6.get 0 rfl) ⟨by rw [verV_bad hs hg], HH6.1⟩
    · skip
      refine wp_seq ?_
      refine wp_seq ?_
      have hLo : LOk [(0, 17, .val (.bool true)), (1, 18, .val (.bool false)), (2, 19, .val (.bool false)), (3, 20, .val (.string (Dg.sN 64 (sg)))), (4, 21, .val (.string (Dg.sN 32 (s)))), (5, 22, .val (.bool true)), (6, 23, .val (.bool false)), (7, 24, .val (.bool false))] := lok rfl rfl
      refine zJ (wE := w) (sz := 47) (n := 8) [0, 1, 3, 7, 15, 31, 63, 127] [(0, .val (.string (Dg.sN 32 (a)))), (1, .val (.string (Dg.sN lm (zm)))), (2, .val (.string (Dg.sN 64 (sg)))), (7, .val (.pointer (some ⟨g2_5, 0, none⟩))), (24, .val (.bool false))] _ [⟨g2_5, none, none, .i64, 64, Ya, Ya, 52⟩] rfl (by rfl) HH2 rfl rfl hLo rfl HS2 (slS 0 rfl rfl (slS 1 rfl rfl (slS 2 rfl rfl (slS 3 rfl rfl (slL 7 (d := 7) rfl (trivial)))))) ?_ ?_
      · show ∀ i ∈ [0, 1, 2, 3, 4, 5, 6, 7], _
        refine zA (zC 0 _ rfl rfl hLo rfl rfl (fun _ _ _ _ => rfl) (fun b G w hb ho => zF (.inl rfl) (zD rfl (HS2.get 4 rfl)))) ?_
        refine zA (zC 1 _ rfl rfl hLo rfl rfl (fun _ _ _ _ => rfl) (fun b G w hb ho => exec_un rfl (zB hLo 0 rfl HS2.1 rfl (hb 0 (by rfl))) (by rfl))) ?_
        refine zA (zC 2 _ rfl rfl hLo rfl rfl (fun _ _ _ _ => rfl) (fun b G w hb ho => zF (.inl rfl) (zB hLo 1 rfl HS2.1 rfl (hb 1 (by rfl))))) ?_
        refine zA (zC 3 _ rfl rfl hLo rfl rfl (fun b G hb ho => zN rfl rfl rfl HS2.1 rfl (zB hLo 2 rfl HS2.1 rfl (hb 2 (by rfl))) rfl) (fun b G w hb ho => zF (.inl rfl) (zD rfl (HS2.get 2 rfl)))) ?_
        refine zA (zC 4 _ rfl rfl hLo rfl rfl (fun b G hb ho => zN rfl rfl rfl HS2.1 rfl (zB hLo 2 rfl HS2.1 rfl (hb 2 (by rfl))) rfl) (fun b G w hb ho => exec_slice rfl (zB hLo 3 rfl HS2.1 rfl (hb 3 (by rfl))) rfl rfl rfl (slice_as hs <| slice_sN 32 64 (by decide) (by decide) (by decide) (.inr rfl) (.inl ⟨rfl, rfl⟩) _))) ?_
        refine zA (zH 5 _ #[.string (Dg.sN 32 (s))] rfl rfl rfl (fun b G hb ho => zN rfl rfl rfl HS2.1 rfl (zB hLo 2 rfl HS2.1 rfl (hb 2 (by rfl))) rfl) hLo rfl rfl Tryd.func29 rfl rfl (fun b G hb ho => args1 (zB hLo 4 rfl HS2.1 rfl (hb 4 (by rfl)))) (fun w hw => refgood_as hg w hsB)) ?_
        refine zA (zC 6 _ rfl rfl hLo rfl rfl (fun b G hb ho => zN rfl rfl rfl HS2.1 rfl (zB hLo 2 rfl HS2.1 rfl (hb 2 (by rfl))) rfl) (fun b G w hb ho => exec_un rfl (zB hLo 5 rfl HS2.1 rfl (hb 5 (by rfl))) (by rfl))) ?_
        refine zA (zC 7 _ rfl rfl hLo rfl rfl (fun _ _ _ _ => rfl) (fun b G w hb ho => exec_pick rfl (zB hLo 2 rfl HS2.1 rfl (hb 2 (by rfl))) (zB hLo 6 rfl HS2.1 rfl (hb 6 (by rfl))))) ?_
        exact zE
      clear hLo
      intro G a7 w7 hS hH
      have HS7 : Sl a7 47 [(0, .string (Dg.sN 32 (a))), (1, .string (Dg.sN lm (zm))), (2, .string (Dg.sN 64 (sg))), (7, .pointer (some ⟨g2_5, 0, none⟩)), (24, .bool false)] := hS
      have HH7 : Held w w7 [⟨g2_5, .i64, 64, Ya, 52⟩] := hH
      clear hS hH HS2 HH2
      refine then_ ?_
      refine wp_cond_false (HS7.get 4 rfl) ?_
      refine wp_skip ?_
      refine then_ ?_
      refine wp_seq ?_
      have hLo : LOk [(0, 25, .val (.string (Dg.sN 64 (sg)))), (1, 26, .val (.string (Dg.sN 32 (q)))), (2, 27, .val (.string (Dg.sN 32 (a)))), (3, 28, .val (.string (Dg.sN 64 (cat2 32 q a)))), (4, 29, .val (.string (Dg.sN lm (zm)))), (5, 30, .val (.string (Dg.sN (64 + lm) (cat3 q a zm)))), (6, 31, .val (.string (Dg.sN 32 (k)))), (7, 9, .val (.string (Dg.sN 32 (k))))] := lok rfl rfl
      refine zJ (wE := w) (sz := 47) (n := 8) [0, 1, 3, 7, 15, 31, 63, 127] [(2, .val (.string (Dg.sN 64 (sg)))), (7, .val (.pointer (some ⟨g2_5, 0, none⟩))), (9, .val (.string (Dg.sN 32 (k))))] _ [⟨g2_5, none, none, .i64, 64, Ya, Ya, 52⟩] rfl (by rfl) HH7 rfl rfl hLo rfl HS7 (slS 2 rfl rfl (slS 3 rfl rfl (slL 7 (d := 7) rfl (trivial)))) ?_ ?_
      · show ∀ i ∈ [0, 1, 2, 3, 4, 5, 6, 7], _
        refine zA (zC 0 _ rfl rfl hLo rfl rfl (fun _ _ _ _ => rfl) (fun b G w hb ho => zF (.inl rfl) (zD rfl (HS7.get 2 rfl)))) ?_
        refine zA (zC 1 _ rfl rfl hLo rfl rfl (fun _ _ _ _ => rfl) (fun b G w hb ho => exec_slice rfl (zB hLo 0 rfl HS7.1 rfl (hb 0 (by rfl))) rfl rfl rfl (slice_as hq <| slice_sN 0 32 (by decide) (by decide) (by decide) (.inl ⟨rfl, rfl⟩) (.inr rfl) _))) ?_
        refine zA (zC 2 _ rfl rfl hLo rfl rfl (fun _ _ _ _ => rfl) (fun b G w hb ho => zF (.inl rfl) (zD rfl (HS7.get 0 rfl)))) ?_
        refine zA (zC 3 _ rfl rfl hLo rfl rfl (fun _ _ _ _ => rfl) (fun b G w hb ho => zV rfl (zB hLo 1 rfl HS7.1 rfl (hb 1 (by rfl))) (zB hLo 2 rfl HS7.1 rfl (hb 2 (by rfl))) (addS_run (by rw [sN_size', sN_size']; decide) (show _ = Dg.sN 64 _ from sN_app 32 32 q a) _ _ _))) ?_
        refine zA (zC 4 _ rfl rfl hLo rfl rfl (fun _ _ _ _ => rfl) (fun b G w hb ho => zF (.inl rfl) (zD rfl (HS7.get 1 rfl)))) ?_
        refine zA (zC 5 _ rfl rfl hLo rfl rfl (fun _ _ _ _ => rfl) (fun b G w hb ho => zV rfl (zB hLo 3 rfl HS7.1 rfl (hb 3 (by rfl))) (zB hLo 4 rfl HS7.1 rfl (hb 4 (by rfl))) (addS_run (by rw [sN_size', sN_size']; omega) ((sN_app 64 lm (cat2 32 q a) zm).trans (by rw [cat23])) _ _ _))) ?_
        refine zA (zH 6 _ #[.string (Dg.sN (64 + lm) (cat3 q a zm))] rfl rfl rfl (fun _ _ _ _ => rfl) hLo rfl rfl Tryd.func30 rfl rfl (fun b G hb ho => args1 (zB hLo 5 rfl HS7.1 rfl (hb 5 (by rfl)))) (fun w hw => number_as hk2 w (by omega) (cat3_b hqB ha hm))) ?_
        refine zA (zC 7 _ rfl rfl hLo rfl rfl (fun _ _ _ _ => rfl) (fun b G w hb ho => zF (.inr rfl) (zB hLo 6 rfl HS7.1 rfl (hb 6 (by rfl))))) ?_
        exact zE
      clear hLo
      intro G a8 w8 hS hH
      have HS8 : Sl a8 47 [(2, .string (Dg.sN 64 (sg))), (7, .pointer (some ⟨g2_5, 0, none⟩)), (9, .string (Dg.sN 32 (k)))] := hS
      have HH8 : Held w w8 [⟨g2_5, .i64, 64, Ya, 52⟩] := hH
      clear hS hH HS7 HH7
      refine then_ ?_
      obtain ⟨W3, hW3, rW3⟩ : ∃ S, mulRP BR (s) = S ∧ RRep S (Pt.mul fld (basePt) (NZ (s))) := ⟨_, rfl, rBR.mul hsB⟩
      refine wp_seq ?_
      have hLo : LOk [(0, 32, .val (.agg (FR .i64 64 (BR)))), (1, 33, .val (.string (Dg.sN 64 (sg)))), (2, 34, .val (.string (Dg.sN 32 (s)))), (3, 35, .val (.agg (FR .i64 64 (W3)))), (4, 10, .ptr 4 0)] := lok rfl rfl
      refine yK (wE := w) (sz := 47) (n := 6) (B := [0, 0, 2, 7, 0, 31]) [0, 1, 2, 3, 4, 5] [(2, .val (.string (Dg.sN 64 (sg)))), (7, .val (.pointer (some ⟨g2_5, 0, none⟩))), (9, .val (.string (Dg.sN 32 (k)))), (10, .ptr 4 0)] _ [⟨g2_5, none, none, .i64, 64, Ya, Ya, 52⟩, ⟨0, some 4, some 5, .i64, 64, fun _ => 0, W3, 52⟩] (by rfl) rfl tabrv_5 bitsrv_5 (by kernel_rfl) (by kernel_rfl) HH8 rfl rfl hLo rfl HS8 (slS 0 rfl rfl (slS 1 rfl rfl (slS 2 rfl rfl (slL 4 (d := 4) rfl (trivial))))) ?_ ?_
      · show ∀ i ∈ [0, 1, 2, 3, 4, 5], _
        refine zA (zH 0 _ #[] rfl rfl rfl (fun _ _ _ _ => rfl) hLo rfl rfl Tryd.func23 rfl rfl (fun b G hb ho => args0 ) (fun w hw => refbase_as hBR w)) ?_
        refine zA (zC 1 _ rfl rfl hLo rfl rfl (fun _ _ _ _ => rfl) (fun b G w hb ho => zF (.inl rfl) (zD rfl (HS8.get 0 rfl)))) ?_
        refine zA (zC 2 _ rfl rfl hLo rfl rfl (fun _ _ _ _ => rfl) (fun b G w hb ho => exec_slice rfl (zB hLo 1 rfl HS8.1 rfl (hb 1 (by rfl))) rfl rfl rfl (slice_as hs <| slice_sN 32 64 (by decide) (by decide) (by decide) (.inr rfl) (.inl ⟨rfl, rfl⟩) _))) ?_
        refine zA (zH 3 _ #[.agg (FR .i64 64 (BR)), .string (Dg.sN 32 (s))] rfl rfl rfl (fun _ _ _ _ => rfl) hLo rfl rfl Tryd.func22 rfl rfl (fun b G hb ho => zU (zB hLo 0 rfl HS8.1 rfl (hb 0 (by rfl))) (zB hLo 2 rfl HS8.1 rfl (hb 2 (by rfl)))) (fun w hw => mulRs_as hW3 w rBR.1 hsB)) ?_
        refine zA (zK 4 1 .i64 64 52 (some 5) _ _ rfl rfl (fun _ _ _ _ => rfl) rfl hLo rfl rfl rfl rfl (by rfl) (fun b G w _ _ => by kernel_rfl)) ?_
        refine zA (zI 1 _ rfl rfl rfl rfl rfl (fun _ _ _ _ => rfl) rfl rfl rfl (by rfl) infoPr (fun b G hb ho => zB hLo 4 rfl HS8.1 rfl (hb 4 (by rfl))) (fun b G hb ho => zB hLo 3 rfl HS8.1 rfl (hb 3 (by rfl)))) ?_
        exact zE
      clear hLo
      intro G a9 w9 hS hH
      have HS9 : Sl a9 47 [(2, .string (Dg.sN 64 (sg))), (7, .pointer (some ⟨g2_5, 0, none⟩)), (9, .string (Dg.sN 32 (k))), (10, .pointer (some ⟨(G 4), 0, none⟩))] := hS
      have HH9 : Held w w9 [⟨g2_5, .i64, 64, Ya, 52⟩, ⟨(G 4), .i64, 64, W3, 52⟩] := hH
      clear hS hH HS8 HH8
      generalize G 4 = g9_4 at HS9 HH9
      refine then_ ?_
      obtain ⟨V4, hV4, rV4⟩ : ∃ S, negRP Ya = S ∧ RRep S (Pt.neg (Pa)) := ⟨_, rfl, rYa.neg⟩
      obtain ⟨W5, hW5, rW5⟩ : ∃ S, mulRP V4 (k) = S ∧ RRep S (Pt.mul fld (Pt.neg (Pa)) (NZ (k))) := ⟨_, rfl, rV4.mul hkB⟩
      refine wp_seq ?_
      have hLo : LOk [(0, 36, .val (.agg (FR .i64 64 (Ya)))), (1, 37, .val (.agg (FR .i64 64 (V4)))), (2, 38, .val (.string (Dg.sN 32 (k)))), (3, 39, .val (.agg (FR .i64 64 (W5)))), (4, 11, .ptr 4 0)] := lok rfl rfl
      refine zJ (wE := w) (sz := 47) (n := 6) [0, 1, 3, 7, 15, 31] [(2, .val (.string (Dg.sN 64 (sg)))), (10, .val (.pointer (some ⟨g9_4, 0, none⟩))), (11, .ptr 4 0)] _ [⟨g2_5, none, none, .i64, 64, Ya, Ya, 52⟩, ⟨g9_4, none, none, .i64, 64, W3, W3, 52⟩, ⟨0, some 4, some 5, .i64, 64, fun _ => 0, W5, 52⟩] rfl (by rfl) HH9 rfl rfl hLo rfl HS9 (slS 0 rfl rfl (slS 3 rfl rfl (slL 4 (d := 4) rfl (trivial)))) ?_ ?_
      · show ∀ i ∈ [0, 1, 2, 3, 4, 5], _
        refine zA (zG 0 0 _ rfl rfl rfl rfl (fun _ _ _ _ => rfl) hLo rfl rfl rfl (by rfl) Tryd.underlying52 infoPr rfl (fun b G hb ho => zD rfl (HS9.get 1 rfl))) ?_
        refine zA (zH 1 _ #[.agg (FR .i64 64 (Ya))] rfl rfl rfl (fun _ _ _ _ => rfl) hLo rfl rfl Tryd.func31 rfl rfl (fun b G hb ho => args1 (zB hLo 0 rfl HS9.1 rfl (hb 0 (by rfl)))) (fun w hw => negR_as hV4 w rYa.1)) ?_
        refine zA (zC 2 _ rfl rfl hLo rfl rfl (fun _ _ _ _ => rfl) (fun b G w hb ho => zF (.inl rfl) (zD rfl (HS9.get 2 rfl)))) ?_
        refine zA (zH 3 _ #[.agg (FR .i64 64 (V4)), .string (Dg.sN 32 (k))] rfl rfl rfl (fun _ _ _ _ => rfl) hLo rfl rfl Tryd.func22 rfl rfl (fun b G hb ho => zU (zB hLo 1 rfl HS9.1 rfl (hb 1 (by rfl))) (zB hLo 2 rfl HS9.1 rfl (hb 2 (by rfl)))) (fun w hw => mulRs_as hW5 w rV4.1 hkB)) ?_
        refine zA (zK 4 2 .i64 64 52 (some 5) _ _ rfl rfl (fun _ _ _ _ => rfl) rfl hLo rfl rfl rfl rfl (by rfl) (fun b G w _ _ => by kernel_rfl)) ?_
        refine zA (zI 2 _ rfl rfl rfl rfl rfl (fun _ _ _ _ => rfl) rfl rfl rfl (by rfl) infoPr (fun b G hb ho => zB hLo 4 rfl HS9.1 rfl (hb 4 (by rfl))) (fun b G hb ho => zB hLo 3 rfl HS9.1 rfl (hb 3 (by rfl)))) ?_
        exact zE
      clear hLo
      intro G a10 w10 hS hH
      have HS10 : Sl a10 47 [(2, .string (Dg.sN 64 (sg))), (10, .pointer (some ⟨g9_4, 0, none⟩)), (11, .pointer (some ⟨(G 4), 0, none⟩))] := hS
      have HH10 : Held w w10 [⟨g2_5, .i64, 64, Ya, 52⟩, ⟨g9_4, .i64, 64, W3, 52⟩, ⟨(G 4), .i64, 64, W5, 52⟩] := hH
      clear hS hH HS9 HH9
      generalize G 4 = g10_4 at HS10 HH10
      refine then_ ?_
      obtain ⟨E, hE⟩ : ∃ E, ptB (Pt.add fld (Pt.mul fld (basePt) (NZ (s))) (Pt.mul fld (Pt.neg (Pa)) (NZ (k)))) = E := ⟨_, rfl⟩
      have hEB : Fd.By E := by rw [← hE]; exact ptB_By _
      obtain ⟨r, hr⟩ : ∃ r, sameRow 32 E q = r := ⟨_, rfl⟩
      have hr2 : ((Dg.sN 32 E).toList == (Dg.sN 32 q).toList) = r := (str_same hEB hqB).trans hr
      obtain ⟨U6, hU6, rU6⟩ : ∃ S, addRP W3 W5 = S ∧ RRep S (Pt.add fld (Pt.mul fld (basePt) (NZ (s))) (Pt.mul fld (Pt.neg (Pa)) (NZ (k)))) := ⟨_, rfl, rW3.add rW5⟩
      refine wp_seq ?_
      have hLo : LOk [(0, 40, .val (.agg (FR .i64 64 (W3)))), (1, 41, .val (.agg (FR .i64 64 (W5)))), (2, 42, .val (.agg (FR .i64 64 (U6)))), (3, 43, .val (.string (Dg.sN 32 (E)))), (4, 44, .val (.string (Dg.sN 64 (sg)))), (5, 45, .val (.string (Dg.sN 32 (q)))), (6, 46, .val (.bool r)), (7, 6, .val (.bool r))] := lok rfl rfl
      refine yK (wE := w) (sz := 47) (n := 8) (B := [0, 0, 3, 7, 0, 16, 63, 127]) [0, 1, 2, 3, 4, 5, 6, 7] [(6, .val (.bool r))] _ [⟨g2_5, none, none, .i64, 64, Ya, Ya, 52⟩, ⟨g9_4, none, none, .i64, 64, W3, W3, 52⟩, ⟨g10_4, none, none, .i64, 64, W5, W5, 52⟩] (by rfl) rfl tabrv_7 bitsrv_7 (by kernel_rfl) (by kernel_rfl) HH10 rfl rfl hLo rfl HS10 (slL 7 (d := 7) rfl (trivial)) ?_ ?_
      · show ∀ i ∈ [0, 1, 2, 3, 4, 5, 6, 7], _
        refine zA (zG 0 1 _ rfl rfl rfl rfl (fun _ _ _ _ => rfl) hLo rfl rfl rfl (by rfl) Tryd.underlying52 infoPr rfl (fun b G hb ho => zD rfl (HS10.get 1 rfl))) ?_
        refine zA (zG 1 2 _ rfl rfl rfl rfl (fun _ _ _ _ => rfl) hLo rfl rfl rfl (by rfl) Tryd.underlying52 infoPr rfl (fun b G hb ho => zD rfl (HS10.get 2 rfl))) ?_
        refine zA (zH 2 _ #[.agg (FR .i64 64 (W3)), .agg (FR .i64 64 (W5))] rfl rfl rfl (fun _ _ _ _ => rfl) hLo rfl rfl Tryd.func32 rfl rfl (fun b G hb ho => zU (zB hLo 0 rfl HS10.1 rfl (hb 0 (by rfl))) (zB hLo 1 rfl HS10.1 rfl (hb 1 (by rfl)))) (fun w hw => addR_as hU6 w rW3.1 rW5.1)) ?_
        refine zA (zH 3 _ #[.agg (FR .i64 64 (U6))] rfl rfl rfl (fun _ _ _ _ => rfl) hLo rfl rfl Tryd.func21 rfl rfl (fun b G hb ho => args1 (zB hLo 2 rfl HS10.1 rfl (hb 2 (by rfl)))) (fun w hw => bytesRs_as (rU6.bytes.trans hE) w rU6.1)) ?_
        refine zA (zC 4 _ rfl rfl hLo rfl rfl (fun _ _ _ _ => rfl) (fun b G w hb ho => zF (.inl rfl) (zD rfl (HS10.get 0 rfl)))) ?_
        refine zA (zC 5 _ rfl rfl hLo rfl rfl (fun _ _ _ _ => rfl) (fun b G w hb ho => exec_slice rfl (zB hLo 4 rfl HS10.1 rfl (hb 4 (by rfl))) rfl rfl rfl (slice_as hq <| slice_sN 0 32 (by decide) (by decide) (by decide) (.inl ⟨rfl, rfl⟩) (.inr rfl) _))) ?_
        refine zA (zC 6 _ rfl rfl hLo rfl rfl (fun _ _ _ _ => rfl) (fun b G w hb ho => zV rfl (zB hLo 3 rfl HS10.1 rfl (hb 3 (by rfl))) (zB hLo 5 rfl HS10.1 rfl (hb 5 (by rfl))) (eqS_run hr2 _ _ _))) ?_
        refine zA (zC 7 _ rfl rfl hLo rfl rfl (fun _ _ _ _ => rfl) (fun b G w hb ho => zF (.inr rfl) (zB hLo 6 rfl HS10.1 rfl (hb 6 (by rfl))))) ?_
        exact zE
      clear hLo
      intro G a11 w11 hS hH
      have HS11 : Sl a11 47 [(6, .bool r)] := hS
      have HH11 : Held w w11 [⟨g2_5, .i64, 64, Ya, 52⟩, ⟨g9_4, .i64, 64, W3, 52⟩, ⟨g10_4, .i64, 64, W5, 52⟩] := hH
      clear hS hH HS10 HH10
      refine then_ ?_
      refine wp_ret ?_
      repeat refine yC ?_
      exact b_tmp rfl HS11.2.1 (HS11.get 0 rfl) ⟨by rw [verV_yes ha hra hPa hs hg hk hE, hq, hr], HH11.1⟩
theorem By_wf {f : Nat → Int} (h : ∀ i, i < 32 → (Lit.int .u8 (f i)).wf = true) : Fd.By f := fun j hj => u8b (h j hj)
def IsRowB (w : World) (a : Option Addr) (len cap : Nat) (zs : List Int) : Prop :=
  (a = none ∧ len = 0 ∧ cap = 0 ∧ zs = []) ∨ ∃ x, a = some x ∧ len ≤ cap ∧ cap ≤ maxLen ∧ zs.length = cap ∧ (∀ i, i < zs.length → w.cell? (x.add i) = some (.int .u8 (zs.getD i 0))) ∧ ∀ n ∈ zs, (Lit.int .u8 n).wf = true
theorem IsRowB.at {w : World} {a : Option Addr} {len cap : Nat} {zs : List Int} (h : IsRowB w a len cap zs) : NumsAt .u8 w a len (fun j => zs.getD j 0) ∧ (∀ j, j < len → 0 ≤ zs.getD j 0 ∧ zs.getD j 0 < 256) ∧ (a = none → cap = 0) := by
  rcases h with ⟨rfl, rfl, rfl, rfl⟩ | ⟨x, rfl, hle, hm, hz, hc, hw⟩
  · exact ⟨.inl ⟨rfl, rfl⟩, fun j hj => by omega, fun _ => rfl⟩
  · refine ⟨.inr ⟨x, rfl, fun j hj => hc j (by omega)⟩, fun j hj => u8b (hw _ ?_), fun e => by cases e⟩
    rw [List.getD_eq_getElem?_getD, List.getElem?_eq_getElem (by omega)]
    exact List.getElem_mem _
set_option maxRecDepth 16384 in
theorem conv_nums {w : World} {a : Option Addr} {n cap : Nat} {z : Nat → Int} (h : NumsAt .u8 w a n z) (hz : ∀ j, j < n → 0 ≤ z j ∧ z j < 256) : (convert 25 9 (.slice a n cap)).run Tryd.prog w = .ok (.string (Dg.sN n z)) w := by
  rcases h with ⟨rfl, rfl⟩ | ⟨x, rfl, h⟩
  · exact run_convert_bytes_nil w 25 5 Tryd.underlying25 Tryd.underlying5 0 cap 9 Tryd.underlying9
  · have hl : ((List.range n).map fun j => UInt8.ofNat (z j).toNat).length = n := by simp
    have hr := run_convert_bytes_back (P := Tryd.prog) w 25 9 5 x cap ((List.range n).map fun j => UInt8.ofNat (z j).toNat) Tryd.underlying25 Tryd.underlying5 Tryd.underlying9 (fun j hj => by
      have hj' : j < n := by rw [hl] at hj; exact hj
      rw [h j hj']
      have h3 := hz j hj'
      simp
      omega)
    rw [hl] at hr
    rw [hr]
    congr 2
    simp [Dg.sN, strOfNums]
theorem msg_of {w : World} {a : Option Addr} {len cap : Nat} {zs : List Int} (h : IsRowB w a len cap zs) (hl : len ≤ 1024) : ∀ w', Below w.heap.size w w' → Dg.Msg w' a len cap (fun j => zs.getD j 0) := by
  obtain ⟨h1, h2, h3⟩ := h.at
  intro w' hb
  exact ⟨h1.below hb h1.lt, h3, by omega, h2⟩
theorem gtr_run {x c : Int} {k : IntKind} {t : TypeId} {r : Bool} (h : decide (c < x) = r) (w : World) (p q : Operand) : (do eqGuard .gtr t p q (.int k x) (.int k c); binOp .gtr t (.int k x) (.int k c) : Sem Value).run Tryd.prog w = .ok (.bool r) w := by subst h; go_simp
theorem exec_len {o : Oper} {ev : Operand → Value} {w : World} {x : Operand} {a : Option Addr} {n c : Nat} (ho : o.op = .call { callee := .builtin .len, args := #[x], argTypes := #[25] }) (hx : ev x = .slice a n c) : (execOp ev o).run Tryd.prog w = .ok (.value (.int .i64 (n : Int))) w := by
  have hu := Tryd.underlying25
  unfold execOp
  simp only [ho, resolve, invoke, builtin, Builtin.len_, Sem.run_bind, Sem.run_pure, Result.andThen_ok, List.map_toArray, List.map_cons, List.map_nil, hx]
  go_simp
theorem sdF_By : Fd.By sdF := by
  have : ∀ j : Fin 32, 0 ≤ sdF j.val ∧ sdF j.val < 256 := by decide
  exact fun j hj => this ⟨j, hj⟩
theorem build_sd (w : World) : (Instr.build 22 #[(0, .int .u8 157), (1, .int .u8 97), (2, .int .u8 177), (3, .int .u8 157), (4, .int .u8 239), (5, .int .u8 253), (6, .int .u8 90), (7, .int .u8 96), (8, .int .u8 186), (9, .int .u8 132), (10, .int .u8 74), (11, .int .u8 244), (12, .int .u8 146), (13, .int .u8 236), (14, .int .u8 44), (15, .int .u8 196), (16, .int .u8 68), (17, .int .u8 73), (18, .int .u8 197), (19, .int .u8 105), (20, .int .u8 123), (21, .int .u8 50), (22, .int .u8 105), (23, .int .u8 25), (24, .int .u8 112), (25, .int .u8 59), (26, .int .u8 172), (27, .int .u8 3), (28, .int .u8 28), (29, .int .u8 174), (30, .int .u8 127), (31, .int .u8 96)]).run Tryd.prog w = .ok (.agg (FR .u8 32 sdF)) w := by kernel_rfl
theorem key_str : ((Dg.sN 4 (pubK sdF)).toList == (⟨#[215, 90, 152, 1]⟩ : ByteArray).toList) = true := by
  have e : Dg.sN 4 (pubK sdF) = ⟨#[215, 90, 152, 1]⟩ := by
    rw [sN_congr key_bytes]
    decide
  rw [e]; exact beq_self_eq_true _
theorem pub_as {z K : Nat → Int} (h : pubK z = K) (w : World) (hTd : Dg.Tab w) (hT : TabD w) (hz : Fd.By z) : Calls Tryd.prog 9 #[.agg (FR .u8 32 z)] w fun e w' => e = .returned (.agg (FR .u8 32 K)) ∧ Below w.heap.size w w' := by rw [← h]; exact public_calls z w hTd hT hz
theorem ver_as {a zm sg : Nat → Int} {am : Option Addr} {lm cm : Nat} {r : Bool} (h : verV a lm zm sg = r) (w : World) (hTd : Dg.Tab w) (hT : TabD w) (hO : Ord w) (ha : Fd.By a) (hsg : ∀ j, j < 64 → 0 ≤ sg j ∧ sg j < 256) (hM : ∀ w', Below w.heap.size w w' → Dg.Msg w' am lm cm zm) : Calls Tryd.prog 11 #[.agg (FR .u8 32 a), .slice am lm cm, .agg (FR .u8 64 sg)] w fun e w' => e = .returned (.bool r) ∧ Below w.heap.size w w' := by rw [← h]; exact verify_calls a am lm cm zm sg w hTd hT hO ha hsg hM
theorem refver_as {a zm sg : Nat → Int} {lm : Nat} {r : Bool} (h : verV a lm zm sg = r) (w : World) (ha : Fd.By a) (hl : lm ≤ 1024) (hm : ∀ j, j < lm → 0 ≤ zm j ∧ zm j < 256) (hsg : ∀ j, j < 64 → 0 ≤ sg j ∧ sg j < 256) : Calls Tryd.prog 12 #[.string (Dg.sN 32 a), .string (Dg.sN lm zm), .string (Dg.sN 64 sg)] w fun e w' => e = .returned (.bool r) ∧ Below w.heap.size w w' := by rw [← h]; exact refverify_calls a lm zm sg w ha (by omega) hm hsg
theorem msg_to {w1 w2 : World} {am : Option Addr} {lm cm : Nat} {zm : Nat → Int} (h : ∀ w', Below w1.heap.size w1 w' → Dg.Msg w' am lm cm zm) (h1 : Below w1.heap.size w1 w2) : ∀ w', Below w2.heap.size w2 w' → Dg.Msg w' am lm cm zm := fun w' hb => h w' (h1.trans (hb.mono h1.size))
theorem slc_32_0_4 (g : Nat) (w : World) : (Instr.sliceAt 22 (.pointer (some ⟨g, 0, none⟩)) none (some (.int .i64 4)) none).run Tryd.prog w = .ok (.slice (some ⟨g, 0, none⟩) 4 32) w := by kernel_rfl
theorem slc_64_0_64 (g : Nat) (w : World) : (Instr.sliceAt 28 (.pointer (some ⟨g, 0, none⟩)) none none none).run Tryd.prog w = .ok (.slice (some ⟨g, 0, none⟩) 64 64) w := by kernel_rfl
theorem tablv_5 : rtab .any (opsOf Tryd.f4 5) = (true, [([], []), ([], []), ([], []), ([0, 1, 2], [0, 1, 2]), ([], []), ([4], [4]), ([], []), ([6], [6]), ([], []), ([8], [8]), ([5, 7, 9, 3], [5, 7, 9]), ([3, 10], [3, 10]), ([11, 10, 0, 1, 2, 3, 4, 5, 6, 7, 8, 9, 10, 11], [11])]) := by kernel_rfl
theorem bitslv_5 : zW [([], []), ([], []), ([], []), ([0, 1, 2], [0, 1, 2]), ([], []), ([4], [4]), ([], []), ([6], [6]), ([], []), ([8], [8]), ([5, 7, 9, 3], [5, 7, 9]), ([3, 10], [3, 10]), ([11, 10, 0, 1, 2, 3, 4, 5, 6, 7, 8, 9, 10, 11], [11])] [0, 0, 0, 7, 0, 16, 0, 64, 0, 256, 1023, 2047, 4095] = true := by kernel_rfl
theorem alive_calls (w : World) (hTd : Dg.Tab w) (hT : TabD w) : Calls Tryd.prog 8 #[] w fun e w' => e = .returned (.bool true) ∧ Below w.heap.size w w' := by
  have hz := sdF_By
  obtain ⟨K, hK⟩ : ∃ K, pubK sdF = K := ⟨_, rfl⟩
  have hKB : Fd.By K := by rw [← hK]; exact ptB_By _
  have hst := key_str
  rw [hK] at hst
  refine enter_ 9 Tryd.func8 rfl rfl (fun a0 hS => ?_)
  have HS0 : Sl a0 9 [] := hS
  have HH0 : Held w w [] := Held.first w
  clear hS
  refine wp_seq ?_
  have hLo : LOk [(0, 0, .val (.bool false))] := lok rfl rfl
  refine zJ (wE := w) (sz := 9) (n := 1) [0] [] _ [] rfl (by rfl) HH0 rfl rfl hLo rfl HS0 (trivial) ?_ ?_
  · show ∀ i ∈ [0], _
    refine zA (zC 0 _ rfl rfl hLo rfl rfl (fun _ _ _ _ => rfl) (fun b G w hb ho => zF (.inr rfl) (rfl))) ?_
    exact zE
  clear hLo
  intro G a1 w1 hS hH
  have HS1 : Sl a1 9 [] := hS
  have HH1 : Held w w1 [] := hH
  clear hS hH HS0 HH0
  refine then_ ?_
  refine wp_seq ?_
  have hLo : LOk [(0, 3, .val (.agg (FR .u8 32 (sdF)))), (1, 1, .ptr 1 0)] := lok rfl rfl
  refine zJ (wE := w) (sz := 9) (n := 3) [0, 1, 3] [(1, .ptr 1 0)] _ [⟨0, some 1, some 2, .u8, 32, fun _ => 0, sdF, 22⟩] rfl (by rfl) HH1 rfl rfl hLo rfl HS1 (slL 1 (d := 1) rfl (trivial)) ?_ ?_
  · show ∀ i ∈ [0, 1, 2], _
    refine zA (zC 0 _ rfl rfl hLo rfl rfl (fun _ _ _ _ => rfl) (fun b G w hb ho => zZ rfl (by simp only [List.map_toArray, List.map_cons, List.map_nil]; rfl) (build_sd _))) ?_
    refine zA (zK 1 0 .u8 32 22 (some 2) _ _ rfl rfl (fun _ _ _ _ => rfl) rfl hLo rfl rfl rfl rfl (by rfl) (fun b G w _ _ => by kernel_rfl)) ?_
    refine zA (zI 0 _ rfl rfl rfl rfl rfl (fun _ _ _ _ => rfl) rfl rfl rfl (by rfl) infoB3 (fun b G hb ho => zB hLo 1 rfl HS1.1 rfl (hb 1 (by rfl))) (fun b G hb ho => zB hLo 0 rfl HS1.1 rfl (hb 0 (by rfl)))) ?_
    exact zE
  clear hLo
  intro G a2 w2 hS hH
  have HS2 : Sl a2 9 [(1, .pointer (some ⟨(G 1), 0, none⟩))] := hS
  have HH2 : Held w w2 [⟨(G 1), .u8, 32, sdF, 22⟩] := hH
  clear hS hH HS1 HH1
  generalize G 1 = g2_1 at HS2 HH2
  refine then_ ?_
  refine wp_seq ?_
  have hLo : LOk [(0, 4, .val (.agg (FR .u8 32 (sdF)))), (1, 5, .val (.agg (FR .u8 32 (K)))), (2, 2, .ptr 2 0)] := lok rfl rfl
  refine zJ (wE := w) (sz := 9) (n := 4) [0, 1, 3, 7] [(2, .ptr 2 0)] _ [⟨g2_1, none, none, .u8, 32, sdF, sdF, 22⟩, ⟨0, some 2, some 3, .u8, 32, fun _ => 0, K, 22⟩] rfl (by rfl) HH2 rfl rfl hLo rfl HS2 (slL 2 (d := 2) rfl (trivial)) ?_ ?_
  · show ∀ i ∈ [0, 1, 2, 3], _
    refine zA (zG 0 0 _ rfl rfl rfl rfl (fun _ _ _ _ => rfl) hLo rfl rfl rfl (by rfl) Tryd.underlying22 infoB3 rfl (fun b G hb ho => zD rfl (HS2.get 0 rfl))) ?_
    refine zA (zH 1 _ #[.agg (FR .u8 32 (sdF))] rfl rfl rfl (fun _ _ _ _ => rfl) hLo rfl rfl Tryd.func9 rfl rfl (fun b G hb ho => args1 (zB hLo 0 rfl HS2.1 rfl (hb 0 (by rfl)))) (fun w hw => pub_as hK w (hTd.to hw) (hT.to hw) hz)) ?_
    refine zA (zK 2 1 .u8 32 22 (some 3) _ _ rfl rfl (fun _ _ _ _ => rfl) rfl hLo rfl rfl rfl rfl (by rfl) (fun b G w _ _ => by kernel_rfl)) ?_
    refine zA (zI 1 _ rfl rfl rfl rfl rfl (fun _ _ _ _ => rfl) rfl rfl rfl (by rfl) infoB3 (fun b G hb ho => zB hLo 2 rfl HS2.1 rfl (hb 2 (by rfl))) (fun b G hb ho => zB hLo 1 rfl HS2.1 rfl (hb 1 (by rfl)))) ?_
    exact zE
  clear hLo
  intro G a3 w3 hS hH
  have HS3 : Sl a3 9 [(2, .pointer (some ⟨(G 2), 0, none⟩))] := hS
  have HH3 : Held w w3 [⟨g2_1, .u8, 32, sdF, 22⟩, ⟨(G 2), .u8, 32, K, 22⟩] := hH
  clear hS hH HS2 HH2
  generalize G 2 = g3_2 at HS3 HH3
  refine then_ ?_
  refine wp_seq ?_
  have hLo : LOk [(0, 6, .val (.slice (some ⟨g3_2, 0, none⟩) 4 32)), (1, 7, .val (.string (Dg.sN 4 (K)))), (2, 8, .val (.bool true)), (3, 0, .val (.bool true))] := lok rfl rfl
  refine zJ (wE := w) (sz := 9) (n := 4) [0, 1, 3, 7] [(0, .val (.bool true))] _ [⟨g2_1, none, none, .u8, 32, sdF, sdF, 22⟩, ⟨g3_2, none, none, .u8, 32, K, K, 22⟩] rfl (by rfl) HH3 rfl rfl hLo rfl HS3 (slL 3 (d := 3) rfl (trivial)) ?_ ?_
  · show ∀ i ∈ [0, 1, 2, 3], _
    refine zA (zC 0 _ rfl rfl hLo rfl rfl (fun _ _ _ _ => rfl) (fun b G w hb ho => exec_slice rfl (zD rfl (HS3.get 0 rfl)) rfl rfl rfl (slc_32_0_4 _ _))) ?_
    refine zA (st_read 1 1 _ _ rfl rfl rfl hLo rfl rfl (fun _ _ _ _ => rfl) (by rfl) (by rfl) (fun b G w hb ho hr => exec_convert rfl (zB hLo 0 rfl HS3.1 rfl (hb 0 (by rfl))) (conv_slc hr (Nat.le_of_ble_eq_true rfl)))) ?_
    refine zA (zC 2 _ rfl rfl hLo rfl rfl (fun _ _ _ _ => rfl) (fun b G w hb ho => zV rfl (zB hLo 1 rfl HS3.1 rfl (hb 1 (by rfl))) (rfl) (eqS_run hst _ _ _))) ?_
    refine zA (zC 3 _ rfl rfl hLo rfl rfl (fun _ _ _ _ => rfl) (fun b G w hb ho => zF (.inr rfl) (zB hLo 2 rfl HS3.1 rfl (hb 2 (by rfl))))) ?_
    exact zE
  clear hLo
  intro G a4 w4 hS hH
  have HS4 : Sl a4 9 [(0, .bool true)] := hS
  have HH4 : Held w w4 [⟨g2_1, .u8, 32, sdF, 22⟩, ⟨g3_2, .u8, 32, K, 22⟩] := hH
  clear hS hH HS3 HH3
  refine then_ ?_
  refine wp_ret ?_
  repeat refine yC ?_
  exact b_tmp rfl HS4.2.1 (HS4.get 0 rfl) ⟨rfl, HH4.1⟩
theorem SignVerifies_walk (a : Nat → Int) (am : Option Addr) (lm cm : Nat) (zs : List Int) (sg : Nat → Int) (w : World) (hTT : Dg.Tab w ∧ TabD w ∧ Ord w) (w0 : ∀ i, i < 32 → (Lit.int .u8 (a i)).wf = true) (hin : IsRowB w am lm cm zs) (y1 : lm * 1 ≤ 140737488351232) (hin2 : ∀ i, i < 64 → (Lit.int .u8 (sg i)).wf = true) : Calls Tryd.prog 4 #[.agg (FR .u8 32 a), .slice am lm cm, .agg (FR .u8 64 sg)] w fun e w' => e = .returned (.bool true) ∧ Below w.heap.size w w' := by
  obtain ⟨hTd, hT, hO⟩ := hTT
  obtain ⟨zm, hzm⟩ : ∃ zm, (fun j => zs.getD j 0) = zm := ⟨_, rfl⟩
  obtain ⟨r, hr⟩ : ∃ r, decide ((1024 : Int) < (lm : Int)) = r := ⟨_, rfl⟩
  have ha := By_wf w0
  have hsg : ∀ j, j < 64 → 0 ≤ sg j ∧ sg j < 256 := fun j hj => u8b (hin2 j hj)
  obtain ⟨v, hv⟩ : ∃ v, verV a lm zm sg = v := ⟨_, rfl⟩
  refine enter_ 24 Tryd.func4 rfl rfl (fun a0 hS => ?_)
  have HS0 : Sl a0 24 [(0, .agg (FR .u8 32 a)), (1, .slice am lm cm), (2, .agg (FR .u8 64 sg))] := hS
  have HH0 : Held w w [] := Held.first w
  clear hS
  refine wp_seq ?_
  have hLo : LOk [(0, 3, .ptr 0 0), (1, 5, .ptr 1 0), (2, 6, .val (.bool false))] := lok rfl rfl
  refine zJ (wE := w) (sz := 24) (n := 3) [0, 1, 3] [(1, .val (.slice am lm cm)), (3, .ptr 0 0), (5, .ptr 1 0)] _ [⟨0, some 0, none, .u8, 32, a, a, 22⟩, ⟨0, some 1, none, .u8, 64, sg, sg, 28⟩] rfl (by rfl) HH0 rfl rfl hLo rfl HS0 (slS 1 rfl rfl (slL 0 (d := 0) rfl (slL 1 (d := 1) rfl (trivial)))) ?_ ?_
  · show ∀ i ∈ [0, 1, 2], _
    refine zA (zK 0 0 .u8 32 22 none _ _ rfl rfl (fun _ _ _ _ => rfl) rfl hLo rfl rfl rfl rfl (by rfl) (fun b G w hb ho => exec_box rfl (zD rfl (HS0.get 0 rfl)) (by kernel_rfl))) ?_
    refine zA (zK 1 1 .u8 64 28 none _ _ rfl rfl (fun _ _ _ _ => rfl) rfl hLo rfl rfl rfl rfl (by rfl) (fun b G w hb ho => exec_box rfl (zD rfl (HS0.get 2 rfl)) (by kernel_rfl))) ?_
    refine zA (zC 2 _ rfl rfl hLo rfl rfl (fun _ _ _ _ => rfl) (fun b G w hb ho => zF (.inr rfl) (rfl))) ?_
    exact zE
  clear hLo
  intro G a1 w1 hS hH
  have HS1 : Sl a1 24 [(1, .slice am lm cm), (3, .pointer (some ⟨(G 0), 0, none⟩)), (5, .pointer (some ⟨(G 1), 0, none⟩))] := hS
  have HH1 : Held w w1 [⟨(G 0), .u8, 32, a, 22⟩, ⟨(G 1), .u8, 64, sg, 28⟩] := hH
  clear hS hH HS0 HH0
  generalize G 0 = g1_0 at HS1 HH1
  generalize G 1 = g1_1 at HS1 HH1
  refine then_ ?_
  refine wp_seq ?_
  refine wp_seq ?_
  have hLo : LOk [(0, 7, .val (.bool true)), (1, 8, .val (.bool false))] := lok rfl rfl
  refine zJ (wE := w) (sz := 24) (n := 2) [0, 1] [(1, .val (.slice am lm cm)), (3, .val (.pointer (some ⟨g1_0, 0, none⟩))), (5, .val (.pointer (some ⟨g1_1, 0, none⟩))), (8, .val (.bool false))] _ [⟨g1_0, none, none, .u8, 32, a, a, 22⟩, ⟨g1_1, none, none, .u8, 64, sg, sg, 28⟩] rfl (by rfl) HH1 rfl rfl hLo rfl HS1 (slS 0 rfl rfl (slS 1 rfl rfl (slS 2 rfl rfl (slL 1 (d := 1) rfl (trivial))))) ?_ ?_
  · show ∀ i ∈ [0, 1], _
    refine zA (zH 0 _ #[] rfl rfl rfl (fun _ _ _ _ => rfl) hLo rfl rfl Tryd.func8 rfl rfl (fun b G hb ho => args0 ) (fun w hw => alive_calls w (hTd.to hw) (hT.to hw))) ?_
    refine zA (zC 1 _ rfl rfl hLo rfl rfl (fun _ _ _ _ => rfl) (fun b G w hb ho => exec_un rfl (zB hLo 0 rfl HS1.1 rfl (hb 0 (by rfl))) (by rfl))) ?_
    exact zE
  clear hLo
  intro G a2 w2 hS hH
  have HS2 : Sl a2 24 [(1, .slice am lm cm), (3, .pointer (some ⟨g1_0, 0, none⟩)), (5, .pointer (some ⟨g1_1, 0, none⟩)), (8, .bool false)] := hS
  have HH2 : Held w w2 [⟨g1_0, .u8, 32, a, 22⟩, ⟨g1_1, .u8, 64, sg, 28⟩] := hH
  clear hS hH HS1 HH1
  refine then_ ?_
  refine wp_cond_false (HS2.get 3 rfl) ?_
  refine wp_skip ?_
  refine then_ ?_
  cases r
  · skip
    have hl : lm ≤ 1024 := by have := of_decide_eq_false hr; omega
    have hM := msg_of hin hl
    rw [hzm] at hM
    have hm := (hM w (Below.refl _ _)).2.2.2
    refine wp_seq ?_
    refine wp_seq ?_
    have hLo : LOk [(0, 9, .val (.slice am lm cm)), (1, 10, .val (.int .i64 (lm : Int))), (2, 11, .val (.bool false))] := lok rfl rfl
    refine zJ (wE := w) (sz := 24) (n := 3) [0, 1, 3] [(1, .val (.slice am lm cm)), (3, .val (.pointer (some ⟨g1_0, 0, none⟩))), (5, .val (.pointer (some ⟨g1_1, 0, none⟩))), (11, .val (.bool false))] _ [⟨g1_0, none, none, .u8, 32, a, a, 22⟩, ⟨g1_1, none, none, .u8, 64, sg, sg, 28⟩] rfl (by rfl) HH2 rfl rfl hLo rfl HS2 (slS 0 rfl rfl (slS 1 rfl rfl (slS 2 rfl rfl (slL 2 (d := 2) rfl (trivial))))) ?_ ?_
    · show ∀ i ∈ [0, 1, 2], _
      refine zA (zC 0 _ rfl rfl hLo rfl rfl (fun _ _ _ _ => rfl) (fun b G w hb ho => zF (.inl rfl) (zD rfl (HS2.get 0 rfl)))) ?_
      refine zA (zC 1 _ rfl rfl hLo rfl rfl (fun _ _ _ _ => rfl) (fun b G w hb ho => exec_len rfl (zB hLo 0 rfl HS2.1 rfl (hb 0 (by rfl))))) ?_
      refine zA (zC 2 _ rfl rfl hLo rfl rfl (fun _ _ _ _ => rfl) (fun b G w hb ho => zV rfl (zB hLo 1 rfl HS2.1 rfl (hb 1 (by rfl))) (rfl) (gtr_run hr _ _ _))) ?_
      exact zE
    clear hLo
    intro G a3 w3 hS hH
    have HS3 : Sl a3 24 [(1, .slice am lm cm), (3, .pointer (some ⟨g1_0, 0, none⟩)), (5, .pointer (some ⟨g1_1, 0, none⟩)), (11, .bool false)] := hS
    have HH3 : Held w w3 [⟨g1_0, .u8, 32, a, 22⟩, ⟨g1_1, .u8, 64, sg, 28⟩] := hH
    clear hS hH HS2 HH2
    refine then_ ?_
    refine wp_cond_false (HS3.get 3 rfl) ?_
    refine wp_skip ?_
    refine then_ ?_
    refine wp_seq ?_
    have hLo : LOk [(0, 12, .val (.agg (FR .u8 32 (a)))), (1, 13, .val (.slice am lm cm)), (2, 14, .val (.agg (FR .u8 64 (sg)))), (3, 15, .val (.bool v)), (4, 16, .val (.slice (some ⟨g1_0, 0, none⟩) 32 32)), (5, 17, .val (.string (Dg.sN 32 (a)))), (6, 18, .val (.slice am lm cm)), (7, 19, .val (.string (Dg.sN lm (zm)))), (8, 20, .val (.slice (some ⟨g1_1, 0, none⟩) 64 64)), (9, 21, .val (.string (Dg.sN 64 (sg)))), (10, 22, .val (.bool v)), (11, 23, .val (.bool true)), (12, 6, .val (.bool true))] := lok rfl rfl
    refine yK (wE := w) (sz := 24) (n := 13) (B := [0, 0, 0, 7, 0, 16, 0, 64, 0, 256, 1023, 2047, 4095]) [0, 1, 2, 3, 4, 5, 6, 7, 8, 9, 10, 11, 12] [(6, .val (.bool true))] _ [⟨g1_0, none, none, .u8, 32, a, a, 22⟩, ⟨g1_1, none, none, .u8, 64, sg, sg, 28⟩] (by rfl) rfl tablv_5 bitslv_5 (by kernel_rfl) (by kernel_rfl) HH3 rfl rfl hLo rfl HS3 (slL 12 (d := 12) rfl (trivial)) ?_ ?_
    · show ∀ i ∈ [0, 1, 2, 3, 4, 5, 6, 7, 8, 9, 10, 11, 12], _
      refine zA (zG 0 0 _ rfl rfl rfl rfl (fun _ _ _ _ => rfl) hLo rfl rfl rfl (by rfl) Tryd.underlying22 infoB3 rfl (fun b G hb ho => zD rfl (HS3.get 1 rfl))) ?_
      refine zA (zC 1 _ rfl rfl hLo rfl rfl (fun _ _ _ _ => rfl) (fun b G w hb ho => zF (.inl rfl) (zD rfl (HS3.get 0 rfl)))) ?_
      refine zA (zG 2 1 _ rfl rfl rfl rfl (fun _ _ _ _ => rfl) hLo rfl rfl rfl (by rfl) Tryd.underlying28 infoB6 rfl (fun b G hb ho => zD rfl (HS3.get 2 rfl))) ?_
      refine zA (zH 3 _ #[.agg (FR .u8 32 (a)), .slice am lm cm, .agg (FR .u8 64 (sg))] rfl rfl rfl (fun _ _ _ _ => rfl) hLo rfl rfl Tryd.func11 rfl rfl (fun b G hb ho => args3 (zB hLo 0 rfl HS3.1 rfl (hb 0 (by rfl))) (zB hLo 1 rfl HS3.1 rfl (hb 1 (by rfl))) (zB hLo 2 rfl HS3.1 rfl (hb 2 (by rfl)))) (fun w hw => ver_as hv w (hTd.to hw) (hT.to hw) (hO.to hw) ha hsg (msg_to hM hw))) ?_
      refine zA (zC 4 _ rfl rfl hLo rfl rfl (fun _ _ _ _ => rfl) (fun b G w hb ho => exec_slice rfl (zD rfl (HS3.get 1 rfl)) rfl rfl rfl (slc_32_0_32 _ _))) ?_
      refine zA (st_read 5 0 _ _ rfl rfl rfl hLo rfl rfl (fun _ _ _ _ => rfl) (by rfl) (by rfl) (fun b G w hb ho hr => exec_convert rfl (zB hLo 4 rfl HS3.1 rfl (hb 4 (by rfl))) (conv_slc hr (Nat.le_of_ble_eq_true rfl)))) ?_
      refine zA (zC 6 _ rfl rfl hLo rfl rfl (fun _ _ _ _ => rfl) (fun b G w hb ho => zF (.inl rfl) (zD rfl (HS3.get 0 rfl)))) ?_
      refine zA (st_readO 7 _ rfl rfl hLo rfl rfl (fun _ _ _ _ => rfl) (fun b G w hb ho hB hO => exec_convert rfl (zB hLo 6 rfl HS3.1 rfl (hb 6 (by rfl))) (conv_nums (hM w hB).1 (hM w hB).2.2.2))) ?_
      refine zA (zC 8 _ rfl rfl hLo rfl rfl (fun _ _ _ _ => rfl) (fun b G w hb ho => exec_slice rfl (zD rfl (HS3.get 2 rfl)) rfl rfl rfl (slc_64_0_64 _ _))) ?_
      refine zA (st_read 9 1 _ _ rfl rfl rfl hLo rfl rfl (fun _ _ _ _ => rfl) (by rfl) (by rfl) (fun b G w hb ho hr => exec_convert rfl (zB hLo 8 rfl HS3.1 rfl (hb 8 (by rfl))) (conv_slc hr (Nat.le_of_ble_eq_true rfl)))) ?_
      refine zA (zH 10 _ #[.string (Dg.sN 32 (a)), .string (Dg.sN lm (zm)), .string (Dg.sN 64 (sg))] rfl rfl rfl (fun _ _ _ _ => rfl) hLo rfl rfl Tryd.func12 rfl rfl (fun b G hb ho => args3 (zB hLo 5 rfl HS3.1 rfl (hb 5 (by rfl))) (zB hLo 7 rfl HS3.1 rfl (hb 7 (by rfl))) (zB hLo 9 rfl HS3.1 rfl (hb 9 (by rfl)))) (fun w hw => refver_as hv w ha hl hm hsg)) ?_
      refine zA (zC 11 _ rfl rfl hLo rfl rfl (fun _ _ _ _ => rfl) (fun b G w hb ho => zV rfl (zB hLo 3 rfl HS3.1 rfl (hb 3 (by rfl))) (zB hLo 10 rfl HS3.1 rfl (hb 10 (by rfl))) (eqbool_run _ _ (beq_self_eq_true v) _ _ _))) ?_
      refine zA (zC 12 _ rfl rfl hLo rfl rfl (fun _ _ _ _ => rfl) (fun b G w hb ho => zF (.inr rfl) (zB hLo 11 rfl HS3.1 rfl (hb 11 (by rfl))))) ?_
      exact zE
    clear hLo
    intro G a4 w4 hS hH
    have HS4 : Sl a4 24 [(6, .bool true)] := hS
    have HH4 : Held w w4 [⟨g1_0, .u8, 32, a, 22⟩, ⟨g1_1, .u8, 64, sg, 28⟩] := hH
    clear hS hH HS3 HH3
    refine then_ ?_
    refine wp_ret ?_
    repeat refine yC ?_
    exact b_tmp rfl HS4.2.1 (HS4.get 0 rfl) ⟨rfl, HH4.1⟩
  · skip
    refine wp_seq ?_
    refine wp_seq ?_
    have hLo : LOk [(0, 9, .val (.slice am lm cm)), (1, 10, .val (.int .i64 (lm : Int))), (2, 11, .val (.bool true))] := lok rfl rfl
    refine zJ (wE := w) (sz := 24) (n := 3) [0, 1, 3] [(11, .val (.bool true))] _ [⟨g1_0, none, none, .u8, 32, a, a, 22⟩, ⟨g1_1, none, none, .u8, 64, sg, sg, 28⟩] rfl (by rfl) HH2 rfl rfl hLo rfl HS2 (slL 2 (d := 2) rfl (trivial)) ?_ ?_
    · show ∀ i ∈ [0, 1, 2], _
      refine zA (zC 0 _ rfl rfl hLo rfl rfl (fun _ _ _ _ => rfl) (fun b G w hb ho => zF (.inl rfl) (zD rfl (HS2.get 0 rfl)))) ?_
      refine zA (zC 1 _ rfl rfl hLo rfl rfl (fun _ _ _ _ => rfl) (fun b G w hb ho => exec_len rfl (zB hLo 0 rfl HS2.1 rfl (hb 0 (by rfl))))) ?_
      refine zA (zC 2 _ rfl rfl hLo rfl rfl (fun _ _ _ _ => rfl) (fun b G w hb ho => zV rfl (zB hLo 1 rfl HS2.1 rfl (hb 1 (by rfl))) (rfl) (gtr_run hr _ _ _))) ?_
      exact zE
    clear hLo
    intro G a5 w5 hS hH
    have HS5 : Sl a5 24 [(11, .bool true)] := hS
    have HH5 : Held w w5 [⟨g1_0, .u8, 32, a, 22⟩, ⟨g1_1, .u8, 64, sg, 28⟩] := hH
    clear hS hH HS2 HH2
    refine then_ ?_
    refine wp_cond_true (HS5.get 0 rfl) ?_
    refine wp_seq ?_
    have hLo : LOk [(0, 6, .val (.bool true))] := lok rfl rfl
    refine zJ (wE := w) (sz := 24) (n := 1) [0] [(6, .val (.bool true))] _ [⟨g1_0, none, none, .u8, 32, a, a, 22⟩, ⟨g1_1, none, none, .u8, 64, sg, sg, 28⟩] rfl (by rfl) HH5 rfl rfl hLo rfl HS5 (slL 0 (d := 0) rfl (trivial)) ?_ ?_
    · show ∀ i ∈ [0], _
      refine zA (zC 0 _ rfl rfl hLo rfl rfl (fun _ _ _ _ => rfl) (fun b G w hb ho => zF (.inr rfl) (rfl))) ?_
      exact zE
    clear hLo
    intro G a6 w6 hS hH
    have HS6 : Sl a6 24 [(6, .bool true)] := hS
    have HH6 : Held w w6 [⟨g1_0, .u8, 32, a, 22⟩, ⟨g1_1, .u8, 64, sg, 28⟩] := hH
    clear hS hH HS5 HH5
    refine then_ ?_
    refine wp_ret ?_
    repeat refine yC ?_
    exact b_tmp rfl HS6.2.1 (HS6.get 0 rfl) ⟨rfl, HH6.1⟩
end Go.Proofs.YtbmnkchcekacfaaDoor.P
end

section
namespace Go.Proofs.YtbmnkchcekacfaaDoorW.PrintWords
open Go.ChangeShapes Go.WideShapes
theorem sized_ints {H : Type} {enc : TypeId × Value → H} {P : Program} {W : World} {base : Nat} {spare : Nat → Bool} {held : Bool} {t e : TypeId} {k : IntKind} {a : Option Addr} {len cap : Nat} {d : DataW H} {ps : List MemPlace} {ts : List TypeId} {ds : List (DataW H)} {j : Nat}
    (hsz : (DataW.weightsEach P ts ds).all (· ≤ reachBytes) = true) (ht : ts[j]? = some t) (hd : ds[j]? = some d) (hu : P.underlying t = some (.slice e)) (he : P.underlying e = some (.int k)) (hc : P.cellsOf e = 1) {B : Nat} (hB : P.bytesOf e = B)
    (h : DataW.Trod enc P W base spare held t (.slice a len cap) d ps) : len * B ≤ 140737488351232 := by
  obtain ⟨fuel, hf⟩ := h
  rcases open_ints hu he hc hf with ⟨hcs, _⟩ | ⟨x, l, c, zs, hcs, _, hl, _, hz, hx, _, _⟩
  · simp [Value.cells] at hcs
    obtain ⟨rfl, rfl, rfl⟩ := hcs
    simp
  · simp [Value.cells] at hcs
    obtain ⟨rfl, rfl, rfl⟩ := hcs
    obtain ⟨hx, _⟩ := Prod.mk.inj hx
    subst hx
    have z := sized_slice hsz ht hd hu
    rw [hB] at z
    have hl2 : len ≤ zs.length := by
      rw [hz]
      split
      · exact hl
      · exact Nat.le_refl _
    have h1 : (lits (H := H) k (zs.take len)).length + (lits (H := H) k (zs.drop len)).length = zs.length := by
      simp [lits]
      omega
    rw [h1] at z
    exact Nat.le_trans (Nat.mul_le_mul_right _ hl2) z
end Go.Proofs.YtbmnkchcekacfaaDoorW.PrintWords
end
