/- The document's Numbers and Next (layer 3), by their walks. -/
import Derived.Test.YtlopmjolahhpnaaDoorDc
namespace Go.Proofs.YtlopmjolahhpnaaDoor.P
set_option linter.unusedVariables false
set_option linter.unusedSimpArgs false
open Go.RowKit Go.Proofs.YtlopmjolahhpnaaDoorW.PrintWords Go.Proofs.YtlopmjolahhpnaaDoorW.PrintLast Go.Proofs.YtlopmjolahhpnaaDoorW.PrintMore
attribute [local go_sem] setCell_drewN
theorem info8p : (Tryd.prog.info? 5).map (fun i => (i.zero, i.size, i.bytes)) = some (some (.int .u8 0), 1, 1) := by kernel_rfl
theorem info64p : (Tryd.prog.info? 36).map (fun i => (i.zero, i.size, i.bytes)) = some (some (.int .u64 0), 1, 8) := by kernel_rfl
theorem u8w (x : Int) : IntKind.u8.wrap x = x % 256 := rfl
theorem NumsAt.one (k : IntKind) (w : World) (x : Int) (t : TypeId) : NumsAt k (w.alloc (.cells #[.int k x] t)) (some ⟨w.heap.size, 0, none⟩) 1 (fun _ => x) := NumsAt.new k w 1 (fun _ => x) t
abbrev OwnB (w : World) (base : Nat) (v : Value) (n : Nat) (z : Nat → Int) : Prop := OwnS 5 .u8 w base v n z
abbrev OwnU (w : World) (base : Nat) (v : Value) (n : Nat) (z : Nat → Int) : Prop := OwnS 36 .u64 w base v n z
/-- A slice of constants, built: by reckoning alone. -/
theorem step_build {P : Program} {ops : Array Oper} {rest : List Oper} {o : Oper} {a : Act} {w : World} {Q : Exit → Act → World → Prop} (v : Value) (ob : Obj) (hgd : o.guard = none)
    (hr : (execOp a.eval o).run P w = .ok (.value v) (w.alloc ob)) (h : wpList P ops Q rest (a.put o.dst v) (w.alloc ob)) : wpList P ops Q (o :: rest) a w := by
  refine wpList_plain hgd fun K hK => ?_
  unfold Oper.wp
  rw [hr]
  exact hK _ _ h
set_option maxHeartbeats 1000000 in
theorem numbers_calls (w : World) : Calls Tryd.prog 14 #[] w fun e w' => e = .returned (.slice (some ⟨w.heap.size, 0, none⟩) 80 80) ∧ w' = w.alloc (.cells (FR .u64 80 kk) 36) := by
  go_enter Tryd.func14, Tryd.ntmps14
  go_wp2_with (refine step_build (.slice (some ⟨w.heap.size, 0, none⟩) 80 80) (.cells (FR .u64 80 kk) 36) rfl (by kernel_rfl) ?_)
  go_ret
  exact ⟨rfl, rfl⟩
def NR1 (z : Nat → Int) (w : World) (v8 v7 : Value) (wr : World) : Prop := ∃ i : Nat, i ≤ 16 ∧ v8 = .int .i64 (i : Int) ∧ OwnU wr w.heap.size v7 i (W z) ∧ Below w.heap.size w wr
def NR2 (z : Nat → Int) (wr0 : World) (v10 v9 : Value) (wr : World) : Prop := ∃ j : Nat, j ≤ 8 ∧ v10 = .int .i64 (j : Int) ∧ v9 = .int .u64 (wd z j) ∧ wr = wr0
def NR3 (z : Nat → Int) (w : World) (v11 v7 : Value) (wr : World) : Prop := ∃ i : Nat, 16 ≤ i ∧ i ≤ 80 ∧ v11 = .int .i64 (i : Int) ∧ OwnU wr w.heap.size v7 i (W z) ∧ Below w.heap.size w wr
def NR4 (z f : Nat → Int) (w : World) (g o : Nat) (v24 v16 v17 v18 v19 v20 v21 v22 v23 : Value) (wr : World) : Prop := ∃ i : Nat, i ≤ 80 ∧ v24 = .int .i64 (i : Int) ∧ v16 = .int .u64 (rds z f i 0) ∧ v17 = .int .u64 (rds z f i 1) ∧ v18 = .int .u64 (rds z f i 2) ∧ v19 = .int .u64 (rds z f i 3) ∧ v20 = .int .u64 (rds z f i 4) ∧ v21 = .int .u64 (rds z f i 5) ∧ v22 = .int .u64 (rds z f i 6) ∧ v23 = .int .u64 (rds z f i 7) ∧
  (∀ j, j < 80 → wr.cell? ⟨g, o + j, none⟩ = some (.int .u64 (W z j))) ∧ Below w.heap.size w wr
set_option maxRecDepth 100000 in
set_option maxHeartbeats 4000000 in
theorem next_calls (z f : Nat → Int) (gs os ls cs gb ob cb gk : Nat) (w : World) (hls : 8 ≤ ls)
    (hs : ∀ j, j < 8 → w.cell? ⟨gs, os + j, none⟩ = some (.int .u64 (f j))) (hb : ∀ j, j < 128 → w.cell? ⟨gb, ob + j, none⟩ = some (.int .u8 (z j))) (hk : ∀ j, j < 80 → w.cell? ⟨gk, j, none⟩ = some (.int .u64 (kk j)))
    (hz : ∀ j, j < 128 → 0 ≤ z j ∧ z j < 256) :
    Calls Tryd.prog 15 #[.slice (some ⟨gs, os, none⟩) ls cs, .slice (some ⟨gb, ob, none⟩) 128 cb, .slice (some ⟨gk, 0, none⟩) 80 80] w fun e w' => ∃ v, e = .returned v ∧ OwnU w' w.heap.size v 8 (nxt f z) ∧ Below w.heap.size w w' := by
  have HSS := Aside0.mk hs
  have HBB := Aside0.mk hb
  have HKK := Aside0.mk hk
  have HZ := Aside0.mk hz
  have HGS := Aside0.mk (World.block_lt_of_cell? w _ (hs 0 (by omega)))
  have HGB := Aside0.mk (World.block_lt_of_cell? w _ (hb 0 (by omega)))
  have HGK := Aside0.mk (World.block_lt_of_cell? w _ (hk 0 (by omega)))
  clear hs hb hk hz
  go_enter Tryd.func15, Tryd.ntmps15
  go_wp2_with fail
  go_loopw [8, 7] (fun v8 v7 wr => NR1 z w v8 v7 wr) (fun v _ _ => 16 - (intOf v).toNat)
  case atStart => exact ⟨0, by omega, rfl, OwnS.nil _ _ _, Below.refl _ _⟩
  case round =>
    obtain ⟨i, hi, rfl, hown, hb⟩ := hrel
    have HB := Aside0.mk hb
    have HOW := Aside0.mk hown
    have hsz := hb.size
    clear hb hown
    rcases Nat.lt_or_ge i 16 with h16 | h16
    · have hlt : ((i : Int) < 16) = True := eq_true (by omega)
      have HWL := Aside0.mk (W_low z i h16)
      go_wp2_with fail
      go_loopw [10, 9] (fun v10 v9 w2 => NR2 (fun j => z (8 * i + j)) wr v10 v9 w2) (fun v _ _ => 8 - (intOf v).toNat)
      case atStart => exact ⟨0, by omega, rfl, rfl, rfl⟩
      case round =>
        obtain ⟨j, hj, rfl, rfl, rfl⟩ := hrel
        rcases Nat.lt_or_ge j 8 with h8 | h8
        · have hlt2 : ((j : Int) < 8) = True := eq_true (by omega)
          have k0 := HBB.out (8 * i + j) (by omega)
          rw [← World.cell?_of_block (HB.out.block gb HGB.out)] at k0
          have hzj := HZ.out (8 * i + j) (by omega)
          have hwd := wd_b7 (fun j => z (8 * i + j)) (fun j hj => HZ.out (8 * i + j) (by omega)) j h8
          have HE : Aside0 (wd (fun j => z (8 * i + j)) (j + 1) = wd (fun j => z (8 * i + j)) j * 256 + z (8 * i + j)) := ⟨rfl⟩
          generalize wd (fun j => z (8 * i + j)) j = x at *
          generalize z (8 * i + j) = c at *
          have q1 : IntKind.u64.wrap (x * 256) = x * 256 := u64w _ (by omega) (by omega)
          have q2 : IntKind.u64.wrap c = c := u64w _ (by omega) (by omega)
          have q3 : IntKind.u64.wrap (x * 256 + c) = x * 256 + c := u64w _ (by omega) (by omega)
          have q4 : wrap64 (8 * (i : Int)) = 8 * (i : Int) := w64 _ (by omega)
          have q5 : (8 * (i : Int) + (j : Int)).toNat = 8 * i + j := by omega
          have q6 : (8 * (i : Int) + (j : Int) < 128) = True := eq_true (by omega)
          have q7 : (0 ≤ 8 * (i : Int) + (j : Int)) = True := eq_true (by omega)
          clear hzj hwd
          go_wp2_with fail
          refine ⟨⟨j + 1, by omega, rfl, ?_, rfl⟩, meas_up 8 j h8⟩
          rw [HE.out]
        · obtain rfl : j = 8 := by omega
          rw [← HWL.out]
          have HOa := Aside0.mk (HOW.out.alloc (.cells #[.int .u64 (W z i)] 36))
          have HBa := Aside0.mk (HB.out.alloc hsz (.cells #[.int .u64 (W z i)] 36))
          go_wp2_with (refine step_append HOa.out (NumsAt.one .u64 _ _ _) Tryd.underlying37 info64p rfl rfl rfl rfl rfl (fun e => by cases e) (by unfold maxLen; omega) (by omega) (by simp; omega) ?_; intro v5 w5 ho5 hg5 _ _; have HO5 := Aside0.mk ho5; have HB5 := Aside0.mk (grown_bel HBa.out hg5 (by simp; omega) (fun b hb => (HOa.out.lt b hb).1)); clear ho5 hg5)
          refine ⟨⟨i + 1, by omega, rfl, HO5.out.congr (fun j hj => ?_), HB5.out⟩, meas_up 16 i h16⟩
          by_cases hji : j < i
          · rw [if_pos hji]
          · rw [if_neg hji, show j = i by omega]
    · obtain rfl : i = 16 := by omega
      rw [show ((16 : Nat) : Int) = 16 from rfl]
      go_wp2_with fail
      go_loopw [11, 7] (fun v11 v7 wr => NR3 z w v11 v7 wr) (fun v _ _ => 80 - (intOf v).toNat)
      case atStart => exact ⟨16, by omega, by omega, rfl, HOW.out, HB.out⟩
      case round =>
        clear HB HOW hsz
        obtain ⟨i, h16, hi, rfl, hown, hb⟩ := hrel
        have HB := Aside0.mk hb
        have HOW := Aside0.mk hown
        have hsz := hb.size
        obtain ⟨g, o, cap, rfl, hnc, hg1, hg2, hcl, hfr, _⟩ := hown.open (by omega)
        have HCL := Aside0.mk hcl
        clear hb hown hfr hcl
        rcases Nat.lt_or_ge i 80 with h80 | h80
        · have hlt : ((i : Int) < 80) = True := eq_true (by omega)
          obtain ⟨m1, hm1⟩ : ∃ m, i = m + 15 := ⟨i - 15, by omega⟩
          obtain ⟨m14, hm14⟩ : ∃ m, i = m + 2 := ⟨i - 2, by omega⟩
          obtain ⟨m0, hm0⟩ : ∃ m, i = m + 16 := ⟨i - 16, by omega⟩
          obtain ⟨m9, hm9⟩ : ∃ m, i = m + 7 := ⟨i - 7, by omega⟩
          have k15 := HCL.out m1 (by omega)
          have k2 := HCL.out m14 (by omega)
          have k16 := HCL.out m0 (by omega)
          have k7 := HCL.out m9 (by omega)
          have HWH := W_high z i (by omega)
          rw [show i - 16 = m0 by omega, show i - 15 = m1 by omega, show i - 7 = m9 by omega, show i - 2 = m14 by omega] at HWH
          have HWH := Aside0.mk HWH
          have e15 : (i : Int) - 15 = (m1 : Int) := by omega
          have e2 : (i : Int) - 2 = (m14 : Int) := by omega
          have e16 : (i : Int) - 16 = (m0 : Int) := by omega
          have e7 : (i : Int) - 7 = (m9 : Int) := by omega
          have l15 : (m1 : Int) < (i : Int) := by omega
          have l2 : (m14 : Int) < (i : Int) := by omega
          have l16 : (m0 : Int) < (i : Int) := by omega
          have l7 : (m9 : Int) < (i : Int) := by omega
          have w15 : IntKind.i64.wrap (m1 : Int) = (m1 : Int) := i64w _ (by omega)
          have w2 : IntKind.i64.wrap (m14 : Int) = (m14 : Int) := i64w _ (by omega)
          have w16 : IntKind.i64.wrap (m0 : Int) = (m0 : Int) := i64w _ (by omega)
          have w7 : IntKind.i64.wrap (m9 : Int) = (m9 : Int) := i64w _ (by omega)
          have p15 : (0 : Int) ≤ (m1 : Int) := by omega
          have p2 : (0 : Int) ≤ (m14 : Int) := by omega
          have p16 : (0 : Int) ≤ (m0 : Int) := by omega
          have p7 : (0 : Int) ≤ (m9 : Int) := by omega
          have HWG : Aside0 (∀ x, W z i = x → ∀ j, j < i + 1 → (if j < i then W z j else x) = W z j) := ⟨fun x hx j hj => by
            by_cases hji : j < i
            · rw [if_pos hji]
            · rw [if_neg hji, show j = i by omega, hx]⟩
          generalize W z m1 = x1 at *
          generalize W z m14 = x14 at *
          have HX0 : Aside0 (∃ x, W z m0 = x) := ⟨_, rfl⟩
          have HX9 : Aside0 (∃ x, W z m9 = x) := ⟨_, rfl⟩
          obtain ⟨x0, hx0⟩ := HX0.out
          obtain ⟨x9, hx9⟩ := HX9.out
          rw [hx0] at k16 HWH
          rw [hx9] at k7 HWH
          have HX0 := Aside0.mk hx0
          have HX9 := Aside0.mk hx9
          clear hm1 hm14 hm0 hm9 hx0 hx9
          go_wp2_with fail
          go_quiet (fail)
          go_wp2_with fail
          refine (turn1 x1 _).mono ?_
          rintro e w1 ⟨rfl, rfl⟩
          go_wp2_with fail
          refine (turn8 x1 _).mono ?_
          rintro e w1 ⟨rfl, rfl⟩
          go_wp2_with fail
          refine (turn19 x14 _).mono ?_
          rintro e w1 ⟨rfl, rfl⟩
          go_wp2_with fail
          refine (turn61 x14 _).mono ?_
          rintro e w1 ⟨rfl, rfl⟩
          go_wp2_with fail
          go_region_held3 (fun w' => w'.cell? ⟨g, o + m0, none⟩ = some (.int .u64 x0) ∧ w'.cell? ⟨g, o + m9, none⟩ = some (.int .u64 x9)) (first | exact ⟨k16, k7⟩ | exact ⟨hk1, hk2⟩ | go_keep)
            ((refine oper_append (OwnS.alloc (OwnS.keep HOW.out (fun _ _ => rfl)) _) (NumsAt.one .u64 _ _ _) Tryd.underlying37 info64p rfl rfl rfl rfl rfl (fun e => by cases e) (by unfold maxLen; omega) (by omega) (by simp; omega) ?_; intro v5 w5 ho5 hg5 _ hkp; have hk1 := hkp g o cap rfl m0 (by omega); have hk2 := hkp g o cap rfl m9 (by omega); rw [HX0.out] at hk1; rw [HX9.out] at hk2))
          have HO5 := Aside0.mk ho5
          have HB5 := Aside0.mk (grown_bel (bel_drewN HB.out _ |>.alloc hsz _) hg5 (by simp; omega) (fun b hb => (HOW.out.lt b hb).1))
          clear ho5 hg5 hkp hk1 hk2
          go_wp2_with fail
          exact ⟨⟨i + 1, by omega, by omega, rfl, HO5.out.congr (HWG.out _ HWH.out), HB5.out⟩, meas_up 80 i h80⟩
        · obtain rfl : i = 80 := by omega
          rw [show ((80 : Nat) : Int) = 80 from rfl]
          have HF : Aside0 (∀ j, j < 8 → wr.cell? ⟨gs, os + j, none⟩ = some (.int .u64 (f j))) := ⟨fun j hj => (World.cell?_of_block (HB.out.block gs HGS.out)).trans (HSS.out j hj)⟩
          have s0 := HF.out 0 (by omega)
          rw [Nat.add_zero] at s0
          have s1 := HF.out 1 (by omega)
          have s2 := HF.out 2 (by omega)
          have s3 := HF.out 3 (by omega)
          have s4 := HF.out 4 (by omega)
          have s5 := HF.out 5 (by omega)
          have s6 := HF.out 6 (by omega)
          have s7 := HF.out 7 (by omega)
          have L0 : (0 : Int) < (ls : Int) := by omega
          have L1 : (1 : Int) < (ls : Int) := by omega
          have L2 : (2 : Int) < (ls : Int) := by omega
          have L3 : (3 : Int) < (ls : Int) := by omega
          have L4 : (4 : Int) < (ls : Int) := by omega
          have L5 : (5 : Int) < (ls : Int) := by omega
          have L6 : (6 : Int) < (ls : Int) := by omega
          have L7 : (7 : Int) < (ls : Int) := by omega
          go_wp2_with fail
          go_quiet (fail)
          go_wp2_with fail
          go_loopw [24, 16, 17, 18, 19, 20, 21, 22, 23] (fun v24 v16 v17 v18 v19 v20 v21 v22 v23 wr => NR4 z f w g o v24 v16 v17 v18 v19 v20 v21 v22 v23 wr) (fun v _ _ _ _ _ _ _ _ _ => 80 - (intOf v).toNat)
          case atStart => exact ⟨0, by omega, rfl, rfl, rfl, rfl, rfl, rfl, rfl, rfl, rfl, HCL.out, bel_drewN HB.out _⟩
          case round =>
            obtain ⟨i, hi, rfl, rfl, rfl, rfl, rfl, rfl, rfl, rfl, rfl, hc, hb⟩ := hrel
            clear s0 s1 s2 s3 s4 s5 s6 s7
            have HCL2 := Aside0.mk hc
            have HB2 := Aside0.mk hb
            have hsz2 := hb.size
            clear hc hb HCL HB HOW
            rcases Nat.lt_or_ge i 80 with h80 | h80
            · have hlt : ((i : Int) < 80) = True := eq_true (by omega)
              have kT := HKK.out i h80
              rw [← World.cell?_of_block (HB2.out.block gk HGK.out)] at kT
              have kW := HCL2.out i h80
              have HE : Aside0 (rds z f (i + 1) = rnd (rds z f i) (kk i) (W z i)) := ⟨rfl⟩
              generalize rds z f i = vv at *
              generalize kk i = ki at *
              have HWi : Aside0 (∃ x, W z i = x) := ⟨_, rfl⟩
              obtain ⟨wi, hwi⟩ := HWi.out
              rw [hwi] at kW HE
              go_wp2_with fail
              go_quiet ((go_at_call 18; exact Calls.quiet_of_same (threee _ _)))
              go_wp2_with fail
              refine (threea _ _).mono ?_
              rintro e w1 ⟨rfl, rfl⟩
              go_wp2_with fail
              refine ⟨⟨i + 1, by omega, rfl, ?_, ?_, ?_, ?_, ?_, ?_, ?_, ?_, HCL2.out, bel_drewN HB2.out _⟩, meas_up 80 i h80⟩ <;> rw [HE.out] <;> rfl
            · obtain rfl : i = 80 := by omega
              have HF2 : Aside0 (∀ j, j < 8 → wr.cell? ⟨gs, os + j, none⟩ = some (.int .u64 (f j))) := ⟨fun j hj => (World.cell?_of_block (HB2.out.block gs HGS.out)).trans (HSS.out j hj)⟩
              have s0 := HF2.out 0 (by omega)
              rw [Nat.add_zero] at s0
              have s1 := HF2.out 1 (by omega)
              have s2 := HF2.out 2 (by omega)
              have s3 := HF2.out 3 (by omega)
              have s4 := HF2.out 4 (by omega)
              have s5 := HF2.out 5 (by omega)
              have s6 := HF2.out 6 (by omega)
              have s7 := HF2.out 7 (by omega)
              have L00 : 0 < ls := by omega
              have HNX : Aside0 (nxt f z = fun j => IntKind.u64.wrap (f j + rds z f 80 j)) := ⟨rfl⟩
              generalize rds z f 80 = vv at *
              go_wp2_with fail
              go_region_held3 (fun w' => w'.cell? ⟨gs, os, none⟩ = some (.int .u64 (f 0)) ∧ w'.cell? ⟨gs, os + 1, none⟩ = some (.int .u64 (f 1)) ∧ w'.cell? ⟨gs, os + 2, none⟩ = some (.int .u64 (f 2)) ∧ w'.cell? ⟨gs, os + 3, none⟩ = some (.int .u64 (f 3)) ∧ w'.cell? ⟨gs, os + 4, none⟩ = some (.int .u64 (f 4)) ∧ w'.cell? ⟨gs, os + 5, none⟩ = some (.int .u64 (f 5)) ∧ w'.cell? ⟨gs, os + 6, none⟩ = some (.int .u64 (f 6)) ∧ w'.cell? ⟨gs, os + 7, none⟩ = some (.int .u64 (f 7)))
                (first | exact ⟨s0, s1, s2, s3, s4, s5, s6, s7⟩ | go_keep) (fail)
              go_wp2_with fail
              have HM := OwnS.made (e := 36) (k := .u64) (base := w.heap.size) wr 8 (fun j => IntKind.u64.wrap (f j + vv j)) hsz2 (by unfold maxLen; omega)
              go_ret
              exact ⟨_, rfl, by rw [HNX.out]; exact HM.keep (fun _ _ => rfl), (HB2.out.alloc hsz2 _).drew⟩
end Go.Proofs.YtlopmjolahhpnaaDoor.P
