/- The document's Rest (layer 5), by its walk. -/
import Derived.Test.YtchokhakdnjfmaaDoorSi
namespace Go.Proofs.YtchokhakdnjfmaaDoor.P
set_option linter.unusedVariables false
set_option linter.unusedSimpArgs false
open Go.RowKit Go.Proofs.YtchokhakdnjfmaaDoorW.PrintWords Go.Proofs.YtchokhakdnjfmaaDoorW.PrintLast Go.Proofs.YtchokhakdnjfmaaDoorW.PrintMore
attribute [local go_sem] setCell_drewN
def shI (f : Nat → Int) (c : Int) (j : Nat) : Int := if j = 0 then c else f (j - 1)
theorem shI_val (R c : Int) (hR : 0 ≤ R ∧ R < LL) : val 256 (shI (dig 256 R) c) 33 = 256 * R + c := by
  rw [val_succ_low]
  have e : (fun j => shI (dig 256 R) c (j + 1)) = dig 256 R := by
    funext j; unfold shI; rw [if_neg (by omega), Nat.add_sub_cancel]
  rw [e, val_dig 256 (by omega), Int.emod_eq_of_lt hR.1 (Int.lt_trans hR.2 (by decide +kernel))]
  show c + 256 * R = _
  omega
/-- n digits of 8 bits. -/
def D33 (h : Nat → Int) : Prop := ∀ j, j < 33 → 0 ≤ h j ∧ h j < 256
theorem shI_D (R c : Int) (hc : 0 ≤ c ∧ c < 256) : D33 (shI (dig 256 R) c) := fun j _ => by
  unfold shI; split
  · exact hc
  · exact dig_b 256 (by omega) R _
/-- A difference's digits. -/
def sbD (h : Nat → Int) (j : Nat) : Int := (h j - lD j + cy 256 (fun j => h j - lD j) j) % 256
theorem sbD_b (h : Nat → Int) (j : Nat) : 0 ≤ sbD h j ∧ sbD h j < 256 := by unfold sbD; omega
theorem sbD_val (h : Nat → Int) (hd : D33 h) (hl : LL ≤ val 256 h 33) : val 256 (sbD h) 33 = val 256 h 33 - LL := by
  have h1 := (cy_div 256 (by omega) (fun j => h j - lD j) 33).2
  have h2 : val 256 (fun j => h j - lD j) 33 = val 256 h 33 - LL := by rw [val_sub 256 h lD 33, lD_val]
  rw [h2] at h1
  have h3 := val_b 256 (by omega) h 33 hd
  rw [Int.emod_eq_of_lt (by omega) (by unfold LL at *; omega)] at h1
  exact h1
theorem cyS_b (h : Nat → Int) (hd : D33 h) : ∀ i, i ≤ 33 → -1 ≤ cy 256 (fun j => h j - lD j) i ∧ cy 256 (fun j => h j - lD j) i ≤ 0
  | 0, _ => by simp [cy]
  | i + 1, hi => by
    have ih := cyS_b h hd i (by omega)
    have h1 := hd i (by omega)
    have h2 := lD_b i
    have e : cy 256 (fun j => h j - lD j) (i + 1) = (h i - lD i + cy 256 (fun j => h j - lD j) i) / 256 := rfl
    rw [e]; omega
/-- The rest behind the bytes from m on. -/
def rS (s : ByteArray) (m : Nat) : Int := val 256 (fun j => sB s (m + j)) (s.size - m) % LL
theorem rS_b (s : ByteArray) (m : Nat) : 0 ≤ rS s m ∧ rS s m < LL := by unfold rS LL; omega
theorem rS_step (s : ByteArray) (m : Nat) (h : m < s.size) : rS s m = (256 * rS s (m + 1) + sB s m) % LL := by
  unfold rS
  rw [show s.size - m = (s.size - (m + 1)) + 1 by omega, val_succ_low]
  have e : (fun j => sB s (m + (j + 1))) = fun j => sB s (m + 1 + j) := by funext j; rw [show m + (j + 1) = m + 1 + j by omega]
  rw [e, Nat.add_zero]
  generalize val 256 (fun j => sB s (m + 1 + j)) (s.size - (m + 1)) = v
  show (sB s m + 256 * v) % LL = (256 * (v % LL) + sB s m) % LL
  symm
  rw [Int.add_comm, Int.add_emod, Int.mul_emod, Int.emod_emod_of_dvd _ (Int.dvd_refl LL), ← Int.mul_emod, ← Int.add_emod]
theorem rS_end (s : ByteArray) : rS s s.size = 0 := by unfold rS; rw [Nat.sub_self]; rfl
theorem rS_all (s : ByteArray) : rS s 0 = val 256 (sB s) s.size % LL := by unfold rS; simp
def RR1 (s : ByteArray) (w : World) (b3 b4 : Nat) (v5 : Value) (wr : World) : Prop :=
  ∃ m : Nat, m ≤ s.size ∧ v5 = .int .i64 ((m : Int) - 1) ∧ Below w.heap.size w wr ∧ Row wr b3 .i64 33 lD 46 ∧ Row wr b4 .i64 33 (dig 256 (rS s m)) 46
def RR2 (w : World) (b3 b4 : Nat) (f : Nat → Int) (v6 : Value) (wr : World) : Prop :=
  ∃ i : Nat, i ≤ 32 ∧ v6 = .int .i64 (i : Int) ∧ Below w.heap.size w wr ∧ Row wr b3 .i64 33 lD 46 ∧ Row wr b4 .i64 33 (fun j => if i < j then f (j - 1) else f j) 46
def RR3 (w : World) (b3 b4 : Nat) (N : Int) (wr : World) : Prop :=
  ∃ h, D33 h ∧ val 256 h 33 % LL = N % LL ∧ Below w.heap.size w wr ∧ Row wr b3 .i64 33 lD 46 ∧ Row wr b4 .i64 33 h 46
def RR4 (w : World) (b3 b4 : Nat) (h : Nat → Int) (v8 v7 : Value) (wr : World) : Prop :=
  ∃ i : Nat, i ≤ 33 ∧ v8 = .int .i64 (i : Int) ∧ v7 = .int .i64 (- cy 256 (fun j => h j - lD j) i) ∧ Below w.heap.size w wr ∧ Row wr b3 .i64 33 lD 46 ∧ Row wr b4 .i64 33 (fun j => if j < i then sbD h j else h j) 46
def RR5 (w : World) (b4 : Nat) (R : Int) (v10 v9 : Value) (wr : World) : Prop :=
  ∃ i : Nat, i ≤ 32 ∧ v10 = .int .i64 (i : Int) ∧ OwnB wr (b4 + 1) v9 i (dig 256 R) ∧ Below w.heap.size w wr ∧ Row wr b4 .i64 33 (dig 256 R) 46 ∧ b4 + 1 ≤ wr.heap.size
set_option maxRecDepth 100000 in
set_option maxHeartbeats 4000000 in
theorem refrest_calls (s : ByteArray) (w : World) (hs : s.size ≤ 140737488351232) :
    Calls Tryd.prog 11 #[.string s] w fun e w' => e = .returned (.string (sN 32 (dig 256 (val 256 (sB s) s.size % LL)))) ∧ Below w.heap.size w w' := by
  have HSZ := Aside0.mk hs
  go_enter Tryd.func11, Tryd.ntmps11
  clear hs
  go_wp2_with fail
  refine (L_calls _).mono ?_
  rintro e w1 ⟨rfl, hb⟩
  have HB1 := Aside0.mk hb
  have HN := Aside0.mk (Row.new w1 .i64 33 (fun _ => 0) 46)
  have HB2 := Aside0.mk (hb.alloc hb.size (.cells (FR .i64 33 fun _ => 0) 46))
  have hs1 := hb.size
  clear hb
  have h32 := HSZ.out
  go_wp2_with (first | (refine step_storeG lD HN.out info33 rfl rfl rfl rfl rfl ?_; intro w3 hs hr; have HB3 := Aside0.mk (hs.bel _ _ hs1 HB2.out); have HL := Aside0.mk hr; have HN4 := Aside0.mk (Row.new w3 .i64 33 (fun _ => 0) 46); have HL4 := Aside0.mk (hr.alloc (.cells (FR .i64 33 fun _ => 0) 46)); have hlt3 := hr.lt; have HB4 := Aside0.mk (HB3.out.alloc HB3.out.size (.cells (FR .i64 33 fun _ => 0) 46)); clear hs hr) | (refine step_storeG (fun _ => 0) HN4.out info33 rfl rfl rfl rfl rfl ?_; intro w5 hs hr; have HB5 := Aside0.mk (hs.bel _ _ HB3.out.size HB4.out); have HL5 := Aside0.mk (HL4.out.stored hs (show w1.heap.size ≠ w3.heap.size by omega)); have HA5 := Aside0.mk hr; clear hs hr))
  have h34 : w.heap.size ≤ w3.heap.size := HB3.out.size
  clear HB1 HN HB2 HB3 HL HN4 HL4 HB4
  generalize w1.heap.size = b3 at *
  generalize w3.heap.size = b4 at *
  go_loopw [5] (fun v5 wr => RR1 s w b3 b4 v5 wr) (fun v _ => ((intOf v) + 1).toNat)
  case atStart => exact ⟨s.size, by omega, rfl, HB5.out, HL5.out, row_eq HA5.out (fun j hj => by rw [rS_end]; simp [dig])⟩
  case round =>
    clear HB5 HL5 HA5
    obtain ⟨m, hm, rfl, hb, hl, ha⟩ := hrel
    have HB := Aside0.mk hb
    have HL := Aside0.mk hl
    have HA := Aside0.mk ha
    clear hb hl ha
    rcases Nat.lt_or_ge 0 m with hm0 | hm0
    · obtain ⟨m, rfl⟩ : ∃ j, m = j + 1 := ⟨m - 1, by omega⟩
      have e1 : ((m + 1 : Nat) : Int) - 1 = (m : Int) := by omega
      rw [e1]
      have hge : ((m : Int) ≥ 0) = True := eq_true (by omega)
      have HRb := Aside0.mk (rS_b s (m + 1))
      have HST := Aside0.mk (rS_step s m hm)
      have HMM := Aside0.mk hm
      generalize rS s (m + 1) = R at *
      go_wp2_with fail
      have hsz := HA.out.lt
      go_loopw [6] (fun v6 wr => RR2 w b3 b4 (dig 256 R) v6 wr) (fun v _ => (intOf v).toNat)
      case atStart => exact ⟨32, by omega, rfl, HB.out, HL.out, row_eq HA.out (fun j hj => by rw [if_neg (by omega)])⟩
      case round =>
        clear HB HL HA
        obtain ⟨i, hi, rfl, hb, hl, ha⟩ := hrel
        have HB := Aside0.mk hb
        have HL := Aside0.mk hl
        have HA := Aside0.mk ha
        clear hb hl
        rcases Nat.lt_or_ge 0 i with hi0 | hi0
        · obtain ⟨j, rfl⟩ : ∃ j, i = j + 1 := ⟨i - 1, by omega⟩
          have k1 := ha.cell j (by omega)
          rw [if_neg (show ¬ j + 1 < j by omega)] at k1
          have k0 := ha.cell (j + 1) (by omega)
          have f0 := ha.fro (j + 1)
          have hgt : (((j + 1 : Nat) : Int) > 0) = True := eq_true (by omega)
          have e2 : ((j + 1 : Nat) : Int) - 1 = (j : Int) := by omega
          have hlt1 : ((j : Int) < 33) = True := eq_true (by omega)
          have hlt2 : (((j + 1 : Nat) : Int) < 33) = True := eq_true (by omega)
          have HS := Aside0.mk (ha.set (j + 1) (dig 256 R j) (by omega))
          clear ha
          go_wp2_with fail
          refine ⟨⟨j, by omega, rfl, bel_set HB.out _ _ h34, HL.out.other _ _ (show b3 ≠ b4 by omega), row_eq HS.out (fun x hx => ?_)⟩, by simp only [intOf]; omega⟩
          unfold upd
          by_cases hxj : x = j + 1
          · subst hxj; rw [if_pos rfl, if_pos (by omega), Nat.add_sub_cancel]
          · rw [if_neg hxj]
            show (if j + 1 < x then dig 256 R (x - 1) else dig 256 R x) = _
            by_cases hxl : j + 1 < x
            · rw [if_pos hxl, if_pos (by omega)]
            · rw [if_neg hxl, if_neg (by omega)]
        · obtain rfl : i = 0 := by omega
          obtain ⟨c0, hc0, hv0⟩ := sB_at s m HMM.out
          have l0 := c0.toNat_lt
          have HV := Aside0.mk hv0
          have q0 : ((m : Int) < (s.size : Int)) = True := eq_true (by have := HMM.out; omega)
          have q1 : wrap64 (c0.toNat : Int) = (c0.toNat : Int) := w64 _ (by omega)
          have q2 : IntKind.i64.wrap (c0.toNat : Int) = (c0.toNat : Int) := i64w _ (by omega)
          have k0 := ha.cell 0 (by omega)
          have f0 := ha.fro 0
          have HS : Aside0 (Row (wr.setCell ⟨b4, 0, none⟩ (.int .i64 (c0.toNat : Int))) b4 .i64 33 (shI (dig 256 R) (c0.toNat : Int)) 46) := ⟨row_eq (ha.set 0 (c0.toNat : Int) (by omega)) (fun x hx => by
            unfold upd shI
            by_cases hx0 : x = 0
            · rw [if_pos hx0, if_pos hx0]
            · rw [if_neg hx0, if_neg hx0]
              show (if 0 < x then dig 256 R (x - 1) else dig 256 R x) = _
              rw [if_pos (by omega)])⟩
          have HB2 := Aside0.mk (bel_set HB.out ⟨b4, 0, none⟩ (.int .i64 (c0.toNat : Int)) h34)
          have HL2 := Aside0.mk (HL.out.other ⟨b4, 0, none⟩ (.int .i64 (c0.toNat : Int)) (show b3 ≠ b4 by omega))
          have HD0 := Aside0.mk (shI_D R (c0.toNat : Int) (by omega))
          have HV0 := Aside0.mk (shI_val R (c0.toNat : Int) HRb.out)
          clear ha hv0 l0
          go_wp2_with fail
          clear HB HL HA
          go_loopw [35] (fun _ wr => RR3 w b3 b4 (256 * R + (c0.toNat : Int)) wr) (fun _ wr => rowNatB 256 33 wr b4)
          case atStart => exact ⟨_, HD0.out, by rw [HV0.out], HB2.out, HL2.out, HS.out⟩
          case round =>
            clear HB2 HL2 HS HD0 HV0 q0 q1 q2 hc0
            obtain ⟨h, hd, hv, hb, hl, ha⟩ := hrel
            have HD := Aside0.mk hd
            have HVh := Aside0.mk hv
            have HLx := Aside0.mk (lexN_val 256 (by omega) h lD 33 hd (fun j _ => lD_b j))
            have HM0 := Aside0.mk (rowNatB_of 256 ha)
            have HA := Aside0.mk ha
            have hsz2 := ha.lt
            have HB := Aside0.mk hb
            have HL := Aside0.mk hl
            clear hd hv hb hl ha
            go_wp2_with (refine step_load HA.out Tryd.underlying46 info33 rfl rfl rfl rfl ?_)
            refine (below_calls h _).mono ?_
            rintro e w6 ⟨rfl, hb6⟩
            have HB6 := Aside0.mk (HB.out.trans (hb6.mono HB.out.size))
            have HL6 := Aside0.mk (HL.out.below hb6 HL.out.lt)
            have HA6 := Aside0.mk (HA.out.below hb6 HA.out.lt)
            have hsz6 := HA6.out.lt
            clear hb6 HB HL HA
            cases hx : lexN h lD 33
            · have HX := Aside0.mk hx
              clear hx
              have hxf := HX.out
              go_wp2_with fail
              clear hxf
              go_loopw [8, 7] (fun v8 v7 wr => RR4 w b3 b4 h v8 v7 wr) (fun v _ _ => 33 - (intOf v).toNat)
              case atStart => exact ⟨0, by omega, rfl, rfl, HB6.out, HL6.out, row_eq HA6.out (fun j hj => by rw [if_neg (by omega)])⟩
              case round =>
                clear HB6 HL6 HA6
                obtain ⟨i, hi, rfl, rfl, hb, hl, ha⟩ := hrel
                have HB := Aside0.mk hb
                have HL := Aside0.mk hl
                have HA := Aside0.mk ha
                rcases Nat.lt_or_ge i 33 with h33 | h33
                · have hlt : ((i : Int) < 33) = True := eq_true (by omega)
                  have k0 := ha.cell i h33
                  rw [if_neg (Nat.lt_irrefl i)] at k0
                  have k1 := hl.cell i h33
                  have f0 := ha.fro i
                  have hdi := HD.out i h33
                  have hli := lD_b i
                  have hcb := cyS_b h HD.out i hi
                  have HCY : Aside0 (cy 256 (fun j => h j - lD j) (i + 1) = (h i - lD i + cy 256 (fun j => h j - lD j) i) / 256) := ⟨rfl⟩
                  have HSB : Aside0 (sbD h i = (h i - lD i + cy 256 (fun j => h j - lD j) i) % 256) := ⟨rfl⟩
                  generalize cy 256 (fun j => h j - lD j) i = cyi at *
                  have q1 : wrap64 (h i - lD i) = h i - lD i := w64 _ (by omega)
                  have q2 : IntKind.i64.wrap (h i - lD i) = h i - lD i := i64w _ (by omega)
                  obtain ⟨x, hx⟩ : ∃ x, h i - lD i + cyi = x := ⟨_, rfl⟩
                  rw [hx] at HCY HSB
                  have q3 : wrap64 (h i - lD i - -cyi) = x := by rw [w64 _ (by omega)]; omega
                  have q4 : IntKind.i64.wrap (h i - lD i - -cyi) = x := by rw [i64w _ (by omega)]; omega
                  have q3' : wrap64 (h i - lD i + cyi) = x := by rw [w64 _ (by omega)]; omega
                  have hxb : -256 ≤ x ∧ x ≤ 255 := by omega
                  clear hx
                  rcases Int.lt_or_le x 0 with hx0 | hx0
                  · have HS2 : Aside0 (Row ((wr.setCell ⟨b4, i, none⟩ (.int .i64 x)).setCell ⟨b4, i, none⟩ (.int .i64 (x + 256))) b4 .i64 33 (fun j => if j < i + 1 then sbD h j else h j) 46) := ⟨row_eq ((ha.set i x h33).set i (x + 256) h33) (fun j hj => by
                      unfold upd
                      by_cases hji : j = i
                      · subst hji; rw [if_pos rfl, if_pos (by omega), HSB.out]; omega
                      · rw [if_neg hji, if_neg hji]
                        show (if j < i then sbD h j else h j) = _
                        by_cases hjl : j < i
                        · rw [if_pos hjl, if_pos (by omega)]
                        · rw [if_neg hjl, if_neg (by omega)])⟩
                    have HCN : Aside0 ((1 : Int) = - cy 256 (fun j => h j - lD j) (i + 1)) := ⟨by rw [HCY.out]; omega⟩
                    have hneg : (x < 0) = True := eq_true hx0
                    have q5 : wrap64 (x + 256) = x + 256 := w64 _ (by omega)
                    have q6 : IntKind.i64.wrap (x + 256) = x + 256 := i64w _ (by omega)
                    clear ha hl hb hdi hli hcb hx0
                    go_wp2_with fail
                    go_region
                    all_goals go_wp2_with fail
                    refine ⟨⟨i + 1, by omega, rfl, ?_, ?_, ?_, HS2.out⟩, meas_up 33 i h33⟩
                    · rw [← HCN.out]
                    · exact bel_set (bel_set HB.out ⟨b4, i, none⟩ (.int .i64 x) h34).drew ⟨b4, i, none⟩ _ h34
                    · exact (HL.out.other ⟨b4, i, none⟩ _ (show b3 ≠ b4 by omega)).other ⟨b4, i, none⟩ _ (show b3 ≠ b4 by omega)
                  · have HS2 : Aside0 (Row (wr.setCell ⟨b4, i, none⟩ (.int .i64 x)) b4 .i64 33 (fun j => if j < i + 1 then sbD h j else h j) 46) := ⟨row_eq (ha.set i x h33) (fun j hj => by
                      unfold upd
                      by_cases hji : j = i
                      · subst hji; rw [if_pos rfl, if_pos (by omega), HSB.out]; omega
                      · rw [if_neg hji]
                        show (if j < i then sbD h j else h j) = _
                        by_cases hjl : j < i
                        · rw [if_pos hjl, if_pos (by omega)]
                        · rw [if_neg hjl, if_neg (by omega)])⟩
                    have HCN : Aside0 ((0 : Int) = - cy 256 (fun j => h j - lD j) (i + 1)) := ⟨by rw [HCY.out]; omega⟩
                    have hneg : (x < 0) = False := eq_false (by omega)
                    clear ha hl hb hdi hli hcb hx0
                    go_wp2_with fail
                    go_region
                    all_goals go_wp2_with fail
                    refine ⟨⟨i + 1, by omega, rfl, ?_, ?_, ?_, HS2.out⟩, meas_up 33 i h33⟩
                    · rw [← HCN.out]
                    · exact (bel_set HB.out ⟨b4, i, none⟩ (.int .i64 x) h34).drew
                    · exact HL.out.other ⟨b4, i, none⟩ _ (show b3 ≠ b4 by omega)
                · obtain rfl : i = 33 := by omega
                  have HM := Aside0.mk (row_eq ha (f' := sbD h) (fun j hj => if_pos hj))
                  clear ha hl hb
                  have HXV := Aside0.mk (sbD_val h HD.out (by have h8 := HLx.out; rw [HX.out] at h8; have h9 := of_decide_eq_false h8.symm; rw [lD_val] at h9; omega))
                  have HV3 := Aside0.mk (val_b 256 (by omega) (sbD h) 33 (fun j _ => sbD_b h j)).1
                  have HV4 := Aside0.mk (val_b 256 (by omega) h 33 HD.out).1
                  go_wp2_with fail
                  refine ⟨?_, ?_⟩
                  · repeat apply Exists.intro
                    exact ⟨⟨sbD h, fun j _ => sbD_b h j, by rw [← HVh.out, HXV.out]; exact Int.sub_emod_right _ _, HB.out, HL.out, HM.out⟩, rfl⟩
                  · rw [HM0.out, rowNatB_of 256 HM.out]
                    have h1 := HXV.out
                    have h2 := HV3.out
                    have h4 := HV4.out
                    rw [h1] at h2 ⊢
                    unfold LL at *
                    omega
            · have HX := Aside0.mk hx
              clear hx
              have hxt := HX.out
              have HEQ : Aside0 (∀ j, j < 33 → h j = dig 256 (rS s m) j) := ⟨fun j hj => by
                have e1 : val 256 h 33 < LL := by have h8 := HLx.out; rw [HX.out] at h8; have h9 := of_decide_eq_true h8.symm; rwa [lD_val] at h9
                have e2 : 0 ≤ val 256 h 33 := (val_b 256 (by omega) h 33 HD.out).1
                have e3 : val 256 h 33 = rS s m := by rw [HST.out, ← HV.out, ← HVh.out, Int.emod_eq_of_lt e2 e1]
                rw [dig_val 256 (by omega) h 33 HD.out j hj, e3]⟩
              go_wp2_with fail
              exact ⟨⟨m, by have := HMM.out; omega, rfl, HB6.out, HL6.out, row_eq HA6.out HEQ.out⟩, by simp only [intOf]; omega⟩
    · obtain rfl : m = 0 := by omega
      have e0 : ((0 : Nat) : Int) - 1 = -1 := by omega
      rw [e0]
      clear e0
      obtain ⟨ix, hinf, hx1, hx2, hx3⟩ := info_parts info8p
      have HI := Aside0.mk hinf
      have HX1 := Aside0.mk hx1
      have HX2 := Aside0.mk hx2
      have HX3 := Aside0.mk hx3
      clear hinf hx1 hx2 hx3
      have HRA := Aside0.mk (rS_all s)
      have HRb := Aside0.mk (rS_b s 0)
      generalize rS s 0 = R at *
      have hsz := HA.out.lt
      clear HL
      go_wp2_with fail
      go_loopw [10, 9] (fun v10 v9 wr => RR5 w b4 R v10 v9 wr) (fun v _ _ => 32 - (intOf v).toNat)
      case atStart => exact ⟨0, by omega, rfl, OwnB.nil _ _ _, HB.out, HA.out, by omega⟩
      case round =>
        clear HB HA
        obtain ⟨i, hi, rfl, hown, hb, ha, hl⟩ := hrel
        have HOW := Aside0.mk hown
        have HB := Aside0.mk hb
        have HA := Aside0.mk ha
        have hal := ha.lt
        have hbs := hb.size
        clear hown hb
        rcases Nat.lt_or_ge i 32 with h33 | h33
        · have hlt : ((i : Int) < 32) = True := eq_true (by omega)
          have k0 := ha.cell i (by omega)
          have hdb := dig_b 256 (by omega) R i
          have HPU := Aside0.mk (OwnB.push (n := i) (dig 256 R))
          generalize dig 256 R i = x at *
          have q0 : IntKind.u8.wrap x = x := by rw [u8w]; omega
          have HOWa := Aside0.mk (HOW.out.kept (World.grownBy_alloc wr (.cells #[.int .u8 x] 5) none) (by simp))
          clear ha hdb
          go_wp2_with (refine wpList_append_own _ rfl _ _ 22 rfl (b4 + 1) 5 ix (.int .u8 0) 1 1 Tryd.underlying22 HI.out HX1.out HX2.out HX3.out rfl (by decide) _ i _ rfl HOWa.out ⟨wr.heap.size, 0, none⟩ 1 1 [.int .u8 x] rfl rfl (news_one _ _ _) (by simp [Value.oneCell']) (by unfold maxLen; omega) (by omega) (by simp; omega) ?_; intro v5 w5 ho5 hg5 _; have HO5 := Aside0.mk ho5; have HG5 := Aside0.mk hg5; clear ho5 hg5)
          have HB5 := Aside0.mk ((HB.out.alloc (by omega) (.cells #[.int .u8 x] 5)).grown HG5.out (by simp; omega) (fun k e => by have := (World.ownsRow.lt HOWa.out k e).1; omega))
          have HA5 : Aside0 (Row w5 b4 .i64 33 (dig 256 R) 46) := ⟨(HG5.out.block _ (by simp; omega) (fun e => by have := (World.ownsRow.lt HOWa.out _ e.symm).1; omega)).trans (HA.out.alloc _)⟩
          refine ⟨⟨i + 1, by omega, rfl, ?_, HB5.out, HA5.out, by have := HG5.out.size; simp at this; omega⟩, meas_up 32 i h33⟩
          unfold OwnB
          rw [← HPU.out]
          exact HO5.out
        · obtain rfl : i = 32 := by omega
          have hcv := HOW.out.str
          clear ha
          go_wp2_with fail
          go_ret
          refine ⟨?_, HB.out⟩
          rw [← HRA.out]; rfl
end Go.Proofs.YtchokhakdnjfmaaDoor.P
