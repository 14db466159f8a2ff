/- The document's Bytes by its walk. -/
import Derived.Test.YthonoagpiofojaaC5
import Derived.Test.YthonoagpiofojaaWMore
import Derived.Test.YthonoagpiofojaaWTab
import Derived.Test.YthonoagpiofojaaWRepsOne
namespace Go.Proofs.Ythonoagpiofojaa.P
set_option linter.unusedVariables false
set_option linter.unusedSimpArgs false
open Go.RowKit Go.Proofs.YthonoagpiofojaaW.PrintWords Go.Proofs.YthonoagpiofojaaW.PrintLast Go.Proofs.YthonoagpiofojaaW.PrintMore
attribute [local go_sem] setCell_drewN
theorem info5 : (Try.prog.info? 5).map (fun i => (i.zero, i.size, i.bytes)) = some (some (.int .u8 0), 1, 1) := by kernel_rfl
theorem tab6 : rtab .any (opsOf Try.f36 6) = (true, [([], []), ([], []), ([1], [1]), ([2], [2]), ([3], [3]), ([4], [4]), ([], []), ([6], [6]), ([7], [7]), ([8], [8]), ([9], [9]), ([5, 10], [5, 10]), ([0, 11], [0, 11]), ([12, 12, 0, 1, 2, 3, 4, 5, 6, 7, 8, 9, 10, 11, 12], [0, 12])]) := by kernel_rfl
theorem bits6 : waitsOk [([], []), ([], []), ([1], [1]), ([2], [2]), ([3], [3]), ([4], [4]), ([], []), ([6], [6]), ([7], [7]), ([8], [8]), ([9], [9]), ([5, 10], [5, 10]), ([0, 11], [0, 11]), ([12, 12, 0, 1, 2, 3, 4, 5, 6, 7, 8, 9, 10, 11, 12], [0, 12])] [0, 0, 2, 6, 14, 30, 0, 64, 192, 448, 960, 2046, 4095, 8191] = true := by kernel_rfl
/-- The bytes of 16 digits. -/
def outL (f : Nat → Int) : Nat → List Int
  | 0 => []
  | i + 1 => outL f i ++ [f i % 256, f i / 256]
theorem outL_len (f : Nat → Int) : ∀ i, (outL f i).length = 2 * i
  | 0 => rfl
  | i + 1 => by rw [outL, List.length_append, outL_len f i]; simp; omega
def YRel (w : World) (f : Nat → Int) (v4 v3 : Value) (wr : World) : Prop :=
  ∃ i : Nat, i ≤ 16 ∧ v4 = .int .i64 (i : Int) ∧ Below w.heap.size w wr ∧ Row wr w.heap.size .i64 16 f 33 ∧ Kd.R (Kd.int .u8) 5 wr w.heap.size (fun k => k ≠ w.heap.size) v3 (outL f i)
theorem bytes_wraps (x : Int) (h : 0 ≤ x ∧ x < 65536) : Int.tmod x 256 = x % 256 ∧ Int.tdiv x 256 = x / 256 ∧ IntKind.u8.wrap (x % 256) = x % 256 ∧ IntKind.u8.wrap (x / 256) = x / 256 ∧ x % 256 % 256 = x % 256 ∧ x / 256 % 256 = x / 256 ∧ wrap64 (x / 256) = x / 256 := by
  refine ⟨Int.tmod_eq_emod_of_nonneg h.1, Int.tdiv_eq_ediv_of_nonneg h.1, ?_, ?_, by omega, by omega, w64 _ (by omega)⟩
  · show x % 256 % 256 = _; omega
  · show x / 256 % 256 = _; omega
theorem ref_bytes_calls (f : Nat → Int) (w : World) (hf : CB f) :
    Calls Try.prog 36 #[.agg (FR .i64 16 f)] w fun e w' => e = .returned (.string (strOfNums (outL (dig 65536 (V16 f % PP)) 16))) ∧ Below w.heap.size w w' := by
  have HL := Aside0.mk (fun w => least_calls f w hf)
  clear hf
  go_enter Try.func36, Try.ntmps36
  have HR0 := Aside0.mk (Row.new w .i64 16 f 33)
  have HB0 := Aside0.mk ((Below.refl w.heap.size w).alloc (Nat.le_refl _) (.cells (FR .i64 16 f) 33))
  go_wp2_with (refine step_load HR0.out Try.underlying33 info33 rfl rfl rfl rfl ?_)
  refine (HL.out _).mono ?_
  rintro e w1 ⟨rfl, hb⟩
  have HR1 := Aside0.mk (HR0.out.below hb HR0.out.lt)
  have HB1 := Aside0.mk (HB0.out.trans (hb.mono (by have := HR0.out.lt; omega)))
  clear hb HR0 HB0
  go_wp2_with (refine step_store _ HR1.out info33 rfl rfl rfl rfl rfl ?_)
  have HR2 := Aside0.mk (HR1.out.all (f' := dig 65536 (V16 f % PP)))
  have HB2 := Aside0.mk (bel_setCells (Nat.le_refl _) (FR .i64 16 (dig 65536 (V16 f % PP))).toList 0 _ HB1.out)
  have HD : Aside0 (∀ i, 0 ≤ dig 65536 (V16 f % PP) i ∧ dig 65536 (V16 f % PP) i < 65536) := ⟨dig_b 65536 (by omega) _⟩
  generalize hdd : dig 65536 (V16 f % PP) = d at *
  have HDD := Aside0.mk hdd
  clear hdd
  clear HR1 HB1 HL
  go_loopw [4, 3] (fun v4 v3 wr => YRel w d v4 v3 wr) (fun v _ _ => 16 - (intOf v).toNat)
  case atStart => exact ⟨0, by omega, rfl, HB2.out, HR2.out, Kd.R_nil _ _ _ _ _⟩
  case round =>
    clear HR2 HB2
    obtain ⟨i, hi, rfl, hb, hr, ho⟩ := hrel
    have hlt1 := hr.lt
    have HB := Aside0.mk hb
    have HR := Aside0.mk hr
    have HO := Aside0.mk ho
    clear hb hr ho
    rcases Nat.lt_or_ge i 16 with h15 | h15
    · have hlt : ((i : Int) < 16) = True := eq_true (by omega)
      have hdx := HD.out i
      have HX : Aside0 (outL d (i + 1) = outL d i ++ [d i % 256, d i / 256]) := ⟨rfl⟩
      have hk : Aside0 (wr.cell? ⟨w.heap.size, i, none⟩ = some (.int .i64 (d i))) := ⟨HR.out.cell i h15⟩
      obtain ⟨e1, e2, e3, e4, e5, e6, e7⟩ := bytes_wraps (d i) hdx
      have d0 := hdx.1
      have d1 := hdx.2
      generalize hdx' : d i = x at *
      have HDX := Aside0.mk hdx'
      clear hdx'
      clear hdx
      go_wp2_with fail
      have HOd := Aside0.mk (Kd.R_drew HO.out)
      have HBd := Aside0.mk (below_drew1 HB.out)
      have HRd : Aside0 (Row wr.drew w.heap.size .i64 16 d 33) := ⟨HR.out⟩
      have hkd : wr.drew.cell? ⟨w.heap.size, i, none⟩ = some (.int .i64 x) := hk.out
      refine start_ (n := 14) (S := (fun w' => w'.cell? ⟨w.heap.size, i, none⟩ = some (.int .i64 x))) (ds := []) #[false, false, false, false, false, false, false, false, false, false, false, false, false, false] (by kernel_rfl) rfl rfl hkd (fun hHeld => ?_); refine with_tabW tab6 bits6 (fun HT_ HW_ => ?_)
      have hlt2 : w.heap.size < wr.drew.heap.size := hlt1
      generalize wr.drew = w6 at HOd HBd HRd hHeld hlt2 ⊢
      clear hkd
      refine pure_ (i := 0) (N := some 11) (v := ?_) (a' := ?_) #[true, false, false, false, false, false, false, false, false, false, false, false, false, false] rfl rfl (any_of HT_.out (by kernel_rfl)) (fun _ _ _ h => h) (Or.inl ⟨by rfl, ?_⟩) ?_ ?_
      rotate_left
      · intro w'
        go_simp
        with_reducible rfl
      rotate_left
      · simp only [Act.put, List.setIfInBounds_toArray, List.set_cons_zero, List.set_cons_succ, i64_w, i32_w]
        rfl
      refine pure_ (i := 1) (N := some 12) (v := ?_) (a' := ?_) #[true, true, false, false, false, false, false, false, false, false, false, false, false, false] rfl rfl (any_of HT_.out (by kernel_rfl)) (fun _ _ _ h => h) (Or.inl ⟨by rfl, ?_⟩) ?_ ?_
      rotate_left
      · intro w'
        go_simp
        with_reducible rfl
      rotate_left
      · simp only [Act.put, List.setIfInBounds_toArray, List.set_cons_zero, List.set_cons_succ, i64_w, i32_w]
        rfl
      refine pure_ (i := 6) (N := some 17) (v := ?_) (a' := ?_) #[true, true, false, false, false, false, true, false, false, false, false, false, false, false] rfl rfl (any_of HT_.out (by kernel_rfl)) (fun _ _ _ h => h) (Or.inl ⟨by rfl, ?_⟩) ?_ ?_
      rotate_left
      · intro w'
        go_simp
        with_reducible rfl
      rotate_left
      · simp only [Act.put, List.setIfInBounds_toArray, List.set_cons_zero, List.set_cons_succ, i64_w, i32_w]
        rfl
      refine take_ (i := 2) (N := some 13) (v := ?_) (a' := ?_) #[true, true, true, false, false, false, true, false, false, false, false, false, false, false] rfl rfl (take_ofW HT_.out HW_.out (by kernel_rfl)) (fun _ _ _ h => h) (Or.inl ⟨by rfl, ?_⟩) hHeld ?_ ?_
      rotate_left
      · intro w' hsw
        go_simp
        with_reducible rfl
      rotate_left
      · simp only [Act.put, List.setIfInBounds_toArray, List.set_cons_zero, List.set_cons_succ, i64_w, i32_w]
        rfl
      refine take_ (i := 3) (N := some 14) (v := ?_) (a' := ?_) #[true, true, true, true, false, false, true, false, false, false, false, false, false, false] rfl rfl (take_ofW HT_.out HW_.out (by kernel_rfl)) (fun _ _ _ h => h) (Or.inl ⟨by rfl, ?_⟩) hHeld ?_ ?_
      rotate_left
      · intro w' hsw
        go_simp
        with_reducible rfl
      rotate_left
      · simp only [Act.put, List.setIfInBounds_toArray, List.set_cons_zero, List.set_cons_succ, i64_w, i32_w]
        rfl
      refine take_ (i := 4) (N := some 15) (v := ?_) (a' := ?_) #[true, true, true, true, true, false, true, false, false, false, false, false, false, false] rfl rfl (take_ofW HT_.out HW_.out (by kernel_rfl)) (fun _ _ _ h => h) (Or.inl ⟨by rfl, ?_⟩) hHeld ?_ ?_
      rotate_left
      · intro w' hsw
        go_simp
        with_reducible rfl
      rotate_left
      · simp only [Act.put, List.setIfInBounds_toArray, List.set_cons_zero, List.set_cons_succ, i64_w, i32_w]
        rfl
      refine pure_ (i := 5) (N := some 16) (v := ?_) (a' := ?_) #[true, true, true, true, true, true, true, false, false, false, false, false, false, false] rfl rfl (any_of HT_.out (by kernel_rfl)) (fun _ _ _ h => h) (Or.inl ⟨by rfl, ?_⟩) ?_ ?_
      rotate_left
      · intro w'
        go_simp
        with_reducible rfl
      rotate_left
      · simp only [Act.put, List.setIfInBounds_toArray, List.set_cons_zero, List.set_cons_succ, i64_w, i32_w]
        rfl
      refine take_ (i := 7) (N := some 18) (v := ?_) (a' := ?_) #[true, true, true, true, true, true, true, true, false, false, false, false, false, false] rfl rfl (take_ofW HT_.out HW_.out (by kernel_rfl)) (fun _ _ _ h => h) (Or.inl ⟨by rfl, ?_⟩) hHeld ?_ ?_
      rotate_left
      · intro w' hsw
        go_simp
        with_reducible rfl
      rotate_left
      · simp only [Act.put, List.setIfInBounds_toArray, List.set_cons_zero, List.set_cons_succ, i64_w, i32_w]
        rfl
      refine take_ (i := 8) (N := some 19) (v := ?_) (a' := ?_) #[true, true, true, true, true, true, true, true, true, false, false, false, false, false] rfl rfl (take_ofW HT_.out HW_.out (by kernel_rfl)) (fun _ _ _ h => h) (Or.inl ⟨by rfl, ?_⟩) hHeld ?_ ?_
      rotate_left
      · intro w' hsw
        go_simp
        with_reducible rfl
      rotate_left
      · simp only [Act.put, List.setIfInBounds_toArray, List.set_cons_zero, List.set_cons_succ, i64_w, i32_w]
        rfl
      refine take_ (i := 9) (N := some 20) (v := ?_) (a' := ?_) #[true, true, true, true, true, true, true, true, true, true, false, false, false, false] rfl rfl (take_ofW HT_.out HW_.out (by kernel_rfl)) (fun _ _ _ h => h) (Or.inl ⟨by rfl, ?_⟩) hHeld ?_ ?_
      rotate_left
      · intro w' hsw
        go_simp
        with_reducible rfl
      rotate_left
      · simp only [Act.put, List.setIfInBounds_toArray, List.set_cons_zero, List.set_cons_succ, i64_w, i32_w]
        rfl
      refine pure_ (i := 10) (N := some 21) (v := ?_) (a' := ?_) #[true, true, true, true, true, true, true, true, true, true, true, false, false, false] rfl rfl (any_of HT_.out (by kernel_rfl)) (fun _ _ _ h => h) (Or.inl ⟨by rfl, ?_⟩) ?_ ?_
      rotate_left
      · intro w'
        go_simp
        with_reducible rfl
      rotate_left
      · simp only [Act.put, List.setIfInBounds_toArray, List.set_cons_zero, List.set_cons_succ, i64_w, i32_w]
        rfl
      refine one_ (i := 11) (N := some 22) #[true, true, true, true, true, true, true, true, true, true, true, true, false, false] rfl rfl (one_of HT_.out (by kernel_rfl)) (by decide) (fun K hK => ?_)
      refine Kd.R_lit_step (Kd.int .u8) w.heap.size 5 ?hg (N := 22) ?hd (xs := ([x % 256, x / 256] : List Int)) (inner := [.int .u8 (x % 256), .int .u8 (x / 256)]) (ok := fun _ => True) (okp := fun _ => True) ?hr ?hp (fun _ hk => hk) trivial HBd.out (by omega) (by simp) ?_
      (case hd => rfl)
      (case hg => rfl)
      (case hr => first | (go_simp; done) | (go_simp; rfl))
      (case hp => exact (Reps.one (show Kd.M (Kd.int .u8) _ _ _ (x % 256) [.int .u8 (x % 256)] from rfl) (Reps.one (show Kd.M (Kd.int .u8) _ _ _ (x / 256) [.int .u8 (x / 256)] from rfl) (Reps.none _ _))))
      intro v22 w4 ho hb hg_ hnew_
      have HO4 := Aside0.mk ho
      have HB4 := Aside0.mk hb
      have HG4 := Aside0.mk hg_
      clear ho hb hg_ hnew_
      obtain ⟨Ao, co, eo⟩ := Kd.R_slice HO4.out
      subst eo
      have HR4 : Aside0 (Row w4 w.heap.size .i64 16 d 33) := ⟨(HG4.out.block _ hlt2 (by simp)).trans HRd.out⟩
      have hlt4 := HR4.out.lt
      refine hK.out _ _ (by rw [HR4.out.cell i h15, HDX.out]) (fun hHeld => ?_)
      clear hK K
      refine norm_ (a' := ?_) ?_ ?_
      rotate_left
      · show Act.put _ (some 22) _ = _
        simp only [Act.put, List.setIfInBounds_toArray, List.set_cons_zero, List.set_cons_succ, i64_w, i32_w]
        rfl
      refine one_ (i := 12) (N := some 23) #[true, true, true, true, true, true, true, true, true, true, true, true, true, false] rfl rfl (one_of HT_.out (by kernel_rfl)) (by decide) (fun K hK => ?_)
      refine Kd.R_append_rows_step (Kd.int .u8) (w0 := w) w.heap.size (by rfl) (.tmp 11) (.tmp 22) 49 5 (.int .u8 0) 1 rfl Try.underlying49 info5 rfl (by decide) (by omega) u3 (outL d i) ([x % 256, x / 256] : List Int) _ _ _ (fun k => k ≠ w.heap.size) (fun _ => False) rfl rfl ?aO ?aR (fun _ _ h => h) (fun _ h => h.elim) ?aF ?aB ?aS ?aL ?_
      (case aR => exact (Kd.R_reads' HO4.out).2.2)
      (case aB => exact HB4.out)
      (case aF => exact (fun k_ hk => by omega))
      (case aO => exact Kd.R_grown HOd.out HG4.out (fun k hk => by simp))
      (case aS => omega)
      (case aL => have := outL_len d i; simp; omega)
      intro v1 w5 ho hb hg hat
      have HO5 := Aside0.mk ho
      have HB5 := Aside0.mk hb
      have HG5 := Aside0.mk hg
      clear ho hb hg hat
      have HR5 : Aside0 (Row w5 w.heap.size .i64 16 d 33) := ⟨(HG5.out.block _ hlt4 (fun e => HOd.out.1 _ e.symm rfl)).trans HR4.out⟩
      refine hK.out _ _ (by rw [HR5.out.cell i h15, HDX.out]) (fun hHeld => ?_)
      clear hK K
      refine norm_ (a' := ?_) ?_ ?_
      rotate_left
      · show Act.put _ (some 23) _ = _
        simp only [Act.put, List.setIfInBounds_toArray, List.set_cons_zero, List.set_cons_succ, i64_w, i32_w]
        rfl
      refine pure_ (i := 13) (N := some 3) (v := ?_) (a' := ?_) #[true, true, true, true, true, true, true, true, true, true, true, true, true, true] rfl rfl (any_of HT_.out (by kernel_rfl)) (fun _ _ _ h => h) (Or.inl ⟨by rfl, ?_⟩) ?_ ?_
      rotate_left
      · intro w'
        go_simp
        with_reducible rfl
      rotate_left
      · simp only [Act.put, List.setIfInBounds_toArray, List.set_cons_zero, List.set_cons_succ, i64_w, i32_w]
        rfl
      refine done_ (done_of HT_.out (by kernel_rfl)) ?_
      try go_wp2
      refine ⟨⟨i + 1, by omega, rfl, HB5.out, HR5.out, ?_⟩, meas_up 16 i (by omega)⟩
      rw [HX.out]
      exact HO5.out
    · obtain rfl : i = 16 := by omega
      have hcv := own_string (P := Try.prog) Try.underlying49 Try.underlying5 Try.underlying9 (Kd.own_of_R HO.out)
      go_wp2_with fail
      go_ret
      refine ⟨?_, HB.out⟩
      rw [HDD.out]; rfl
end Go.Proofs.Ythonoagpiofojaa.P
