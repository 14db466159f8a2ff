/- The document's MulAdd, Neg and Good (layer 5), by their walks. -/
import Derived.Test.YtchokhakdnjfmaaDoorSj
namespace Go.Proofs.YtchokhakdnjfmaaDoor.P
set_option linter.unusedVariables false
set_option linter.unusedSimpArgs false
open Go.RowKit Go.Proofs.YtchokhakdnjfmaaDoorW.PrintWords Go.Proofs.YtchokhakdnjfmaaDoorW.PrintLast Go.Proofs.YtchokhakdnjfmaaDoorW.PrintMore
attribute [local go_sem] setCell_drewN
theorem sN_size (n : Nat) (z : Nat → Int) : (sN n z).size = n := by simp [sN, strOfNums, ByteArray.size]
theorem sB_sN (n : Nat) (z : Nat → Int) (hz : ∀ i, i < n → 0 ≤ z i ∧ z i < 256) (i : Nat) (hi : i < n) : sB (sN n z) i = z i := by
  obtain ⟨c, h1, h2⟩ := sB_at (sN n z) i (by rw [sN_size]; exact hi)
  rw [← h2, ← h1 (by rw [sN_size]; exact hi)]
  have h3 := hz i hi
  show (((sN n z).data[i]'(by rw [show (sN n z).data.size = n from sN_size n z]; exact hi)).toNat : Int) = z i
  simp [sN, strOfNums]
  omega
theorem sN_val (n : Nat) (z : Nat → Int) (hz : ∀ i, i < n → 0 ≤ z i ∧ z i < 256) : val 256 (sB (sN n z)) (sN n z).size = val 256 z n := by
  rw [sN_size]; exact val_congr 256 _ _ n (fun i hi => sB_sN n z hz i hi)
theorem By.sB (s : ByteArray) : By (P.sB s) := fun j _ => sB_b s j
/-- The third number's bytes, none beyond its end. -/
def czB (c : ByteArray) (j : Nat) : Int := if j < c.size then sB c j else 0
theorem czB_By (c : ByteArray) : By (czB c) := fun j _ => by
  unfold czB; split
  · exact sB_b c j
  · omega
theorem czB_N (c : ByteArray) (h : c.size ≤ 32) : N32 (czB c) = val 256 (sB c) c.size := val_ext0 256 (sB c) c.size 32 h
theorem pH_val66 (f g c : Nat → Int) : val 256 (pH f g c) 66 = N32 f * N32 g + N32 c := by
  have h1 := pS_val 66 (by omega) f g 32 (by omega)
  have h2 := val_ext0 256 c 32 66 (by omega)
  have h3 : val 256 (pH f g c) 66 = val 256 (pS f g 1024) 66 + val 256 (fun j => if j < 32 then c j else 0) 66 := val_add 256 _ _ 66
  rw [h3, h2]
  show _ = val 256 f 32 * val 256 g 32 + val 256 c 32
  rw [← h1]
def rB (f g c : Nat → Int) (j : Nat) : Int := (pH f g c j + cy 256 (pH f g c) j) % 256
theorem rB_b (f g c : Nat → Int) (j : Nat) : 0 ≤ rB f g c j ∧ rB f g c j < 256 := by unfold rB; omega
theorem rB_val (f g c : Nat → Int) (hf : By f) (hg : By g) (hc : By c) : val 256 (rB f g c) 66 = N32 f * N32 g + N32 c := by
  have h := (cy_div 256 (by omega) (pH f g c) 66).2
  rw [pH_val66] at h
  have ha := N32_b f hf
  have hb := N32_b g hg
  have hcc := N32_b c hc
  have hm : N32 f * N32 g ≤ 256 ^ 32 * 256 ^ 32 := Int.le_trans (Int.mul_le_mul_of_nonneg_right (Int.le_of_lt ha.2) hb.1) (Int.mul_le_mul_of_nonneg_left (Int.le_of_lt hb.2) (by decide))
  have hm0 : 0 ≤ N32 f * N32 g := Int.mul_nonneg ha.1 hb.1
  have e0 : (256 : Int) ^ 32 * 256 ^ 32 + 256 ^ 32 < 256 ^ 66 := by decide
  show val 256 (fun i => (pH f g c i + cy 256 (pH f g c) i) % 256) 66 = _
  rw [h]
  exact Int.emod_eq_of_lt (by omega) (by omega)
theorem info66 : (Tryd.prog.info? 50).map (·.size) = some 66 := by kernel_rfl
theorem zero66 (w : World) : (zeroValue 50).run Tryd.prog w = .ok (.agg (FR .i64 66 fun _ => 0)) w := by kernel_rfl
theorem w64p (x : Int) (h0 : 0 ≤ x) (h1 : x ≤ 1000000000) : wrap64 x = x := w64 _ (by omega)
theorem i64p (x : Int) (h0 : 0 ≤ x) (h1 : x ≤ 1000000000) : IntKind.i64.wrap x = x := i64w _ (by omega)
theorem pS_small (f g : Nat → Int) (hf : By f) (hg : By g) (s : Nat) (hs : s ≤ 1024) (j : Nat) (p : Int) (hp : 0 ≤ p ∧ p ≤ 65025) : 0 ≤ pS f g s j + p ∧ pS f g s j + p ≤ 1000000000 := by
  have := pS_b f g hf hg s hs j
  have h2 : ((s : Nat) : Int) ≤ 1024 := by omega
  constructor <;> omega
theorem byte_small (x : UInt8) : 0 ≤ (x.toNat : Int) ∧ (x.toNat : Int) ≤ 1000000000 := by have := x.toNat_lt; omega
def KR1 (f g : Nat → Int) (w : World) (v8 : Value) (wr : World) : Prop := ∃ i : Nat, i ≤ 32 ∧ v8 = .int .i64 (i : Int) ∧ Below w.heap.size w wr ∧ Row wr w.heap.size .i64 66 (pS f g (32 * i)) 50
def KR2 (f g : Nat → Int) (w : World) (i : Nat) (v9 : Value) (wr : World) : Prop := ∃ k : Nat, k ≤ 32 ∧ v9 = .int .i64 (k : Int) ∧ Below w.heap.size w wr ∧ Row wr w.heap.size .i64 66 (pS f g (32 * i + k)) 50
def KR3 (f g : Nat → Int) (c : ByteArray) (w : World) (v10 : Value) (wr : World) : Prop := ∃ i : Nat, i ≤ c.size ∧ v10 = .int .i64 (i : Int) ∧ Below w.heap.size w wr ∧ Row wr w.heap.size .i64 66 (fun j => if j < i then pS f g 1024 j + sB c j else pS f g 1024 j) 50
def KR4 (f g c : Nat → Int) (w : World) (v13 v11 v12 : Value) (wr : World) : Prop :=
  ∃ i : Nat, i ≤ 66 ∧ v13 = .int .i64 (i : Int) ∧ v12 = .int .i64 (cy 256 (pH f g c) i) ∧ OwnB wr (w.heap.size + 1) v11 i (rB f g c) ∧ Below w.heap.size w wr ∧ Row wr w.heap.size .i64 66 (pH f g c) 50 ∧ w.heap.size + 1 ≤ wr.heap.size
set_option maxRecDepth 100000 in
set_option maxHeartbeats 4000000 in
theorem refmul_calls (a b c : ByteArray) (w : World) (ha : a.size = 32) (hb : b.size = 32) (hc : c.size ≤ 32) :
    Calls Tryd.prog 16 #[.string a, .string b, .string c] w fun e w' => e = .returned (.string (sN 32 (dig 256 ((N32 (sB a) * N32 (sB b) + val 256 (sB c) c.size) % LL)))) ∧ Below w.heap.size w w' := by
  have HC := Aside0.mk hc
  have HBa := Aside0.mk hb
  have HAa := Aside0.mk ha
  have HB0 := Aside0.mk ((Below.refl w.heap.size w).alloc (Nat.le_refl _) (.cells (FR .i64 66 fun _ => 0) 50))
  have HR0 := Aside0.mk (Row.new w .i64 66 (fun _ => 0) 50)
  go_enter Tryd.func16, Tryd.ntmps16
  clear hc
  have hzv := zero66
  go_wp2_with fail
  clear hzv
  go_loopw [8] (fun v8 wr => KR1 (sB a) (sB b) w v8 wr) (fun v _ => 32 - (intOf v).toNat)
  case atStart => exact ⟨0, by omega, rfl, HB0.out, HR0.out⟩
  case round =>
    clear HB0 HR0
    obtain ⟨i, hi, rfl, hbl, ht⟩ := hrel
    have HB := Aside0.mk hbl
    have HT := Aside0.mk ht
    clear hbl ht
    rcases Nat.lt_or_ge i 32 with h32 | h32
    · have hlt : ((i : Int) < 32) = True := eq_true (by omega)
      go_wp2_with fail
      go_loopw [9] (fun v9 wr => KR2 (sB a) (sB b) w i v9 wr) (fun v _ => 32 - (intOf v).toNat)
      case atStart => exact ⟨0, by omega, rfl, HB.out, HT.out⟩
      case round =>
        clear HB HT
        obtain ⟨k, hk, rfl, hbl, ht⟩ := hrel
        have HB := Aside0.mk hbl
        have HT := Aside0.mk ht
        clear hbl
        rcases Nat.lt_or_ge k 32 with h33 | h33
        · have hltk : ((k : Int) < 32) = True := eq_true (by omega)
          have hlt66 : ((i : Int) + (k : Int) < 66) = True := eq_true (by omega)
          have hij := ij_nat i k
          have q1 : wrap64 ((i : Int) + (k : Int)) = (i : Int) + (k : Int) := w64 _ (by omega)
          have q2 : IntKind.i64.wrap ((i : Int) + (k : Int)) = (i : Int) + (k : Int) := i64w _ (by omega)
          have k2 := ht.cell (i + k) (by omega)
          have f2 := ht.fro (i + k)
          obtain ⟨x, hx, hvx⟩ := sB_at a i (by omega)
          obtain ⟨y, hy, hvy⟩ := sB_at b k (by omega)
          have hp := byte_mul (sB_b a i) (sB_b b k)
          have HS := Aside0.mk (ht.set (i + k) (pS (sB a) (sB b) (32 * i + k) (i + k) + sB a i * sB b k) (by omega))
          have HE := Aside0.mk (pS_step (sB a) (sB b) i k h33)
          rw [← hvx, ← hvy] at HS HE hp
          obtain ⟨p, hxy⟩ : ∃ p, (x.toNat : Int) * (y.toNat : Int) = p := ⟨_, rfl⟩
          rw [hxy] at HS HE hp
          have hsm := pS_small (sB a) (sB b) (By.sB a) (By.sB b) (32 * i + k) (by omega) (i + k) p hp
          have q5 := w64p p hp.1 (Int.le_trans hp.2 (by decide))
          have q5' := i64p p hp.1 (Int.le_trans hp.2 (by decide))
          have q6 := w64p _ hsm.1 hsm.2
          have q6' := i64p _ hsm.1 hsm.2
          have q3 := w64p _ (byte_small x).1 (byte_small x).2
          have q4 := w64p _ (byte_small y).1 (byte_small y).2
          have q3' := i64p _ (byte_small x).1 (byte_small x).2
          have q4' := i64p _ (byte_small y).1 (byte_small y).2
          clear hsm
          clear ht hp hvx hvy
          go_wp2_with fail
          go_region
          all_goals go_wp2_with fail
          refine ⟨⟨k + 1, by omega, rfl, (bel_set HB.out ⟨w.heap.size, i + k, none⟩ _ (Nat.le_refl _)).drew, ?_⟩, meas_up 32 k h33⟩
          rw [HE.out]
          exact HS.out
        · obtain rfl : k = 32 := by omega
          clear ht
          go_wp2_with fail
          exact ⟨⟨i + 1, by omega, rfl, HB.out, HT.out⟩, meas_up 32 i h32⟩
    · obtain rfl : i = 32 := by omega
      have e32 : ((32 : Nat) : Int) = 32 := rfl
      rw [e32]
      clear e32
      go_wp2_with fail
      go_loopw [10] (fun v10 wr => KR3 (sB a) (sB b) c w v10 wr) (fun v _ => c.size - (intOf v).toNat)
      case atStart => exact ⟨0, by omega, rfl, HB.out, row_eq HT.out (fun j hj => by rw [if_neg (by omega)])⟩
      case round =>
        clear HB HT
        obtain ⟨i, hi, rfl, hbl, ht⟩ := hrel
        have HB := Aside0.mk hbl
        have HT := Aside0.mk ht
        have hcs := HC.out
        clear hbl
        rcases Nat.lt_or_ge i c.size with h33 | h33
        · have hlt : ((i : Int) < (c.size : Int)) = True := eq_true (by omega)
          have hlt66 : ((i : Int) < 66) = True := eq_true (by omega)
          have k0 := ht.cell i (by omega)
          rw [if_neg (Nat.lt_irrefl i)] at k0
          have f0 := ht.fro i
          obtain ⟨x, hx, hvx⟩ := sB_at c i h33
          have HS := Aside0.mk (ht.set i (pS (sB a) (sB b) 1024 i + sB c i) (by omega))
          have HVX := Aside0.mk hvx
          rw [← hvx] at HS
          have lx : 0 ≤ (x.toNat : Int) ∧ (x.toNat : Int) ≤ 65025 := by have := x.toNat_lt; omega
          have hsm := pS_small (sB a) (sB b) (By.sB a) (By.sB b) 1024 (by omega) i (x.toNat : Int) lx
          have q6 := w64p _ hsm.1 hsm.2
          have q6' := i64p _ hsm.1 hsm.2
          have q3 := w64p _ (byte_small x).1 (byte_small x).2
          have q3' := i64p _ (byte_small x).1 (byte_small x).2
          clear hsm lx
          clear ht hvx
          go_wp2_with fail
          go_region
          all_goals go_wp2_with fail
          refine ⟨⟨i + 1, by omega, rfl, (bel_set HB.out ⟨w.heap.size, i, none⟩ _ (Nat.le_refl _)).drew, row_eq HS.out (fun j hj => ?_)⟩, meas_up c.size i h33⟩
          unfold upd
          by_cases hji : j = i
          · subst hji; rw [if_pos rfl, if_pos (by omega), HVX.out]
          · rw [if_neg hji]
            show (if j < i then pS (sB a) (sB b) 1024 j + sB c j else pS (sB a) (sB b) 1024 j) = _
            by_cases hjl : j < i
            · rw [if_pos hjl, if_pos (by omega)]
            · rw [if_neg hjl, if_neg (by omega)]
        · obtain rfl : i = c.size := by omega
          have HH := Aside0.mk (row_eq ht (f' := pH (sB a) (sB b) (czB c)) (fun j hj => by
            unfold pH czB
            by_cases hjl : j < c.size
            · rw [if_pos hjl, if_pos (by omega), if_pos hjl]
            · rw [if_neg hjl]
              split
              · first | omega | (rw [if_neg hjl]; omega)
              · omega))
          have hsz := ht.lt
          obtain ⟨ix, hinf, hx1, hx2, hx3⟩ := info_parts info8p
          have HI := Aside0.mk hinf
          have HX1 := Aside0.mk hx1
          have HX2 := Aside0.mk hx2
          have HX3 := Aside0.mk hx3
          have hF : ((c.size : Int) < (c.size : Int)) = False := eq_false (by omega)
          clear ht hinf hx1 hx2 hx3
          go_wp2_with fail
          clear hF
          go_loopw [13, 11, 12] (fun v13 v11 v12 wr => KR4 (sB a) (sB b) (czB c) w v13 v11 v12 wr) (fun v _ _ _ => 66 - (intOf v).toNat)
          case atStart => exact ⟨0, by omega, rfl, rfl, OwnB.nil _ _ _, HB.out, HH.out, by omega⟩
          case round =>
            clear HB HH HT
            obtain ⟨i, hi, rfl, rfl, hown, hbl, ht, hl⟩ := hrel
            have HOW := Aside0.mk hown
            have HB := Aside0.mk hbl
            have HT := Aside0.mk ht
            clear hown hbl
            rcases Nat.lt_or_ge i 66 with h66 | h66
            · have hlt : ((i : Int) < 66) = True := eq_true (by omega)
              have k0 := ht.cell i h66
              have hcb := cyH_b (sB a) (sB b) (czB c) (By.sB a) (By.sB b) (czB_By c) i
              have hpb := pH_b (sB a) (sB b) (czB c) (By.sB a) (By.sB b) (czB_By c) i
              have HCY : Aside0 (cy 256 (pH (sB a) (sB b) (czB c)) (i + 1) = (pH (sB a) (sB b) (czB c) i + cy 256 (pH (sB a) (sB b) (czB c)) i) / 256) := ⟨rfl⟩
              have HPU := Aside0.mk (OwnB.push (n := i) (rB (sB a) (sB b) (czB c)))
              have HRB : Aside0 (rB (sB a) (sB b) (czB c) i = (pH (sB a) (sB b) (czB c) i + cy 256 (pH (sB a) (sB b) (czB c)) i) % 256) := ⟨rfl⟩
              generalize cy 256 (pH (sB a) (sB b) (czB c)) i = y at *
              generalize pH (sB a) (sB b) (czB c) i = p at *
              obtain ⟨Y, hY⟩ : ∃ Y, p + y = Y := ⟨_, rfl⟩
              rw [hY] at HCY HRB
              have q1 : wrap64 (y + p) = Y := by rw [w64 _ (by omega)]; omega
              have q1' : IntKind.i64.wrap (y + p) = Y := by rw [i64w _ (by omega)]; omega
              have hY0 : 0 ≤ Y ∧ Y ≤ 100000000 := by omega
              have q2 : Int.tmod Y 256 = Y % 256 := Int.tmod_eq_emod_of_nonneg hY0.1
              have q3 : Int.tdiv Y 256 = Y / 256 := Int.tdiv_eq_ediv_of_nonneg hY0.1
              have q4 : IntKind.u8.wrap (Y % 256) = Y % 256 := by rw [u8w]; omega
              have q4' : Y % 256 % 256 = Y % 256 := by omega
              have q5 : wrap64 (Y / 256) = Y / 256 := w64 _ (by omega)
              have q5' : IntKind.i64.wrap (Y / 256) = Y / 256 := i64w _ (by omega)
              have y0 := hY0.1
              have HOWa := Aside0.mk (HOW.out.kept (World.grownBy_alloc wr (.cells #[.int .u8 (Y % 256)] 5) none) (by simp))
              clear ht hcb hpb hY
              go_wp2_with (refine wpList_append_own _ rfl _ _ 22 rfl (w.heap.size + 1) 5 ix (.int .u8 0) 1 1 Tryd.underlying22 HI.out HX1.out HX2.out HX3.out rfl (by decide) _ i _ rfl HOWa.out ⟨wr.heap.size, 0, none⟩ 1 1 [.int .u8 (Y % 256)] rfl rfl (news_one _ _ _) (by simp [Value.oneCell']) (by unfold maxLen; omega) (by omega) (by simp; omega) ?_; intro v5 w5 ho5 hg5 _; have HO5 := Aside0.mk ho5; have HG5 := Aside0.mk hg5; clear ho5 hg5)
              have HB5 := Aside0.mk ((HB.out.alloc (by omega) (.cells #[.int .u8 (Y % 256)] 5)).grown HG5.out (by simp; omega) (fun k e => by have := (World.ownsRow.lt HOWa.out k e).1; omega))
              have HT5 : Aside0 (Row w5 w.heap.size .i64 66 (pH (sB a) (sB b) (czB c)) 50) := ⟨(HG5.out.block _ (by simp; omega) (fun e => by have := (World.ownsRow.lt HOWa.out _ e.symm).1; omega)).trans (HT.out.alloc _)⟩
              refine ⟨⟨i + 1, by omega, rfl, by rw [HCY.out], ?_, HB5.out, HT5.out, by have := HG5.out.size; simp at this; omega⟩, meas_up 66 i h66⟩
              unfold OwnB
              rw [← HPU.out, HRB.out]
              exact HO5.out
            · obtain rfl : i = 66 := by omega
              have hcv := HOW.out.str
              clear ht
              go_wp2_with fail
              refine (refrest_calls (sN 66 (rB (sB a) (sB b) (czB c))) _ (by rw [sN_size]; omega)).mono ?_
              rintro e w6 ⟨rfl, hb6⟩
              have HB6 := Aside0.mk (HB.out.trans (hb6.mono HB.out.size))
              clear hb6 hcv
              go_wp2_with fail
              go_ret
              refine ⟨?_, HB6.out⟩
              rw [← czB_N c HC.out, ← rB_val _ _ _ (By.sB a) (By.sB b) (czB_By c), ← sN_val 66 _ (fun i _ => rB_b _ _ _ i)]
              rfl
end Go.Proofs.YtchokhakdnjfmaaDoor.P
