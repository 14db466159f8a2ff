/- Merged of the texts: Fb, Fc, Fd, Fe, Ff, Fg, WFour, Fh, Eb, WInv, Iv (trim.py). -/
import Derived.Test.YtbmnkchcekacfaaDoorYv1
section
namespace Go.Proofs.YtbmnkchcekacfaaDoor.P.Fd
set_option linter.unusedVariables false
set_option linter.unusedSimpArgs false
set_option maxRecDepth 16384
open Go.RowKit Go.ChangeShapes Go.WideShapes Go.Proofs.YtbmnkchcekacfaaDoorW.PrintWords Go.Proofs.YtbmnkchcekacfaaDoorW.PrintLast Go.Proofs.YtbmnkchcekacfaaDoorW.PrintMore
attribute [local go_sem] setCell_drewN
attribute [local go_sem] setCell_drewN
theorem info5 : (Tryd.prog.info? 5).map (fun i => (i.zero, i.size, i.bytes)) = some (some (.int .u8 0), 1, 1) := by kernel_rfl
theorem tab6 : rtab .any (opsOf Tryd.f44 6) = (true, [([], []), ([], []), ([1], [1]), ([2], [2]), ([3], [3]), ([4], [4]), ([], []), ([6], [6]), ([7], [7]), ([8], [8]), ([9], [9]), ([5, 10], [5, 10]), ([0, 11], [0, 11]), ([12, 12, 0, 1, 2, 3, 4, 5, 6, 7, 8, 9, 10, 11, 12], [0, 12])]) := by kernel_rfl
theorem bits6 : zW [([], []), ([], []), ([1], [1]), ([2], [2]), ([3], [3]), ([4], [4]), ([], []), ([6], [6]), ([7], [7]), ([8], [8]), ([9], [9]), ([5, 10], [5, 10]), ([0, 11], [0, 11]), ([12, 12, 0, 1, 2, 3, 4, 5, 6, 7, 8, 9, 10, 11, 12], [0, 12])] [0, 0, 2, 6, 14, 30, 0, 64, 192, 448, 960, 2046, 4095, 8191] = true := by kernel_rfl
def outL (f : Nat → Int) : Nat → List Int
  | 0 => []
  | i + 1 => outL f i ++ [f i % 256, f i / 256]
theorem outL_len (f : Nat → Int) : ∀ i, (outL f i).length = 2 * i
  | 0 => rfl
  | i + 1 => by rw [outL, List.length_append, outL_len f i]; simp; omega
def YRel (w : World) (f : Nat → Int) (v4 v3 : Value) (wr : World) : Prop :=
  ∃ i : Nat, i ≤ 16 ∧ v4 = .int .i64 (i : Int) ∧ Below w.heap.size w wr ∧ Row wr w.heap.size .i64 16 f 50 ∧ Kd.R (Kd.int .u8) 5 wr w.heap.size (fun k => k ≠ w.heap.size) v3 (outL f i)
theorem bytes_wraps (x : Int) (h : 0 ≤ x ∧ x < 65536) : Int.tmod x 256 = x % 256 ∧ Int.tdiv x 256 = x / 256 ∧ IntKind.u8.wrap (x % 256) = x % 256 ∧ IntKind.u8.wrap (x / 256) = x / 256 ∧ x % 256 % 256 = x % 256 ∧ x / 256 % 256 = x / 256 ∧ wrap64 (x / 256) = x / 256 := by
  refine ⟨Int.tmod_eq_emod_of_nonneg h.1, Int.tdiv_eq_ediv_of_nonneg h.1, ?_, ?_, by omega, by omega, w64 _ (by omega)⟩
  · show x % 256 % 256 = _; omega
  · show x / 256 % 256 = _; omega
theorem ref_bytes_calls (f : Nat → Int) (w : World) (hf : CB f) :
    Calls Tryd.prog 44 #[.agg (FR .i64 16 f)] w fun e w' => e = .returned (.string (strOfNums (outL (dig 65536 (V16 f % PP)) 16))) ∧ Below w.heap.size w w' := by
  have HL := Aside0.mk (fun w => least_calls f w hf)
  clear hf
  go_enter Tryd.func44, Tryd.ntmps44
  have HR0 := Aside0.mk (Row.new w .i64 16 f 50)
  have HB0 := Aside0.mk ((Below.refl w.heap.size w).alloc (Nat.le_refl _) (.cells (FR .i64 16 f) 50))
  go_wp2_with (refine zX HR0.out Tryd.underlying50 info33 rfl rfl rfl rfl ?_)
  refine (HL.out _).mono ?_
  rintro e w1 ⟨rfl, hb⟩
  have HR1 := Aside0.mk (HR0.out.below hb HR0.out.lt)
  have HB1 := Aside0.mk (HB0.out.trans (hb.mono (by have := HR0.out.lt; omega)))
  clear hb HR0 HB0
  go_wp2_with (refine step_store _ HR1.out info33 rfl rfl rfl rfl rfl ?_)
  have HR2 := Aside0.mk (HR1.out.all (f' := dig 65536 (V16 f % PP)))
  have HB2 := Aside0.mk (yG (Nat.le_refl _) (FR .i64 16 (dig 65536 (V16 f % PP))).toList 0 _ HB1.out)
  have HD : Aside0 (∀ i, 0 ≤ dig 65536 (V16 f % PP) i ∧ dig 65536 (V16 f % PP) i < 65536) := ⟨dig_b 65536 (by omega) _⟩
  generalize hdd : dig 65536 (V16 f % PP) = d at *
  have HDD := Aside0.mk hdd
  clear hdd
  clear HR1 HB1 HL
  go_loopw [4, 3] (fun v4 v3 wr => YRel w d v4 v3 wr) (fun v _ _ => 16 - (intOf v).toNat)
  case atStart => exact ⟨0, by omega, rfl, HB2.out, HR2.out, Kd.R_nil _ _ _ _ _⟩
  case round =>
    clear HR2 HB2
    obtain ⟨i, hi, rfl, hb, hr, ho⟩ := hrel
    have hlt1 := hr.lt
    have HB := Aside0.mk hb
    have HR := Aside0.mk hr
    have HO := Aside0.mk ho
    clear hb hr ho
    rcases Nat.lt_or_ge i 16 with h15 | h15
    · have hlt : ((i : Int) < 16) = True := eq_true (by omega)
      have hdx := HD.out i
      have HX : Aside0 (outL d (i + 1) = outL d i ++ [d i % 256, d i / 256]) := ⟨rfl⟩
      have hk : Aside0 (wr.cell? ⟨w.heap.size, i, none⟩ = some (.int .i64 (d i))) := ⟨HR.out.cell i h15⟩
      obtain ⟨e1, e2, e3, e4, e5, e6, e7⟩ := bytes_wraps (d i) hdx
      have d0 := hdx.1
      have d1 := hdx.2
      generalize hdx' : d i = x at *
      have HDX := Aside0.mk hdx'
      clear hdx'
      clear hdx
      go_wp2_with fail
      have HOd := Aside0.mk (Kd.R_drew HO.out)
      have HBd := Aside0.mk (below_drew1 HB.out)
      have HRd : Aside0 (Row wr.drew w.heap.size .i64 16 d 50) := ⟨HR.out⟩
      have hkd : wr.drew.cell? ⟨w.heap.size, i, none⟩ = some (.int .i64 x) := hk.out
      refine start_ (n := 14) (S := (fun w' => w'.cell? ⟨w.heap.size, i, none⟩ = some (.int .i64 x))) (ds := []) #[false, false, false, false, false, false, false, false, false, false, false, false, false, false] (by kernel_rfl) rfl rfl hkd (fun hHeld => ?_); refine with_tabW tab6 bits6 (fun HT_ HW_ => ?_)
      have hlt2 : w.heap.size < wr.drew.heap.size := hlt1
      generalize wr.drew = w6 at HOd HBd HRd hHeld hlt2 ⊢
      clear hkd
      refine pure_ (i := 0) (N := some 11) (v := ?_) (a' := ?_) #[true, false, false, false, false, false, false, false, false, false, false, false, false, false] rfl rfl (any_of HT_.out (by kernel_rfl)) (fun _ _ _ h => h) (Or.inl ⟨by rfl, ?_⟩) ?_ ?_
      rotate_left
      · intro w'
        go_simp
        with_reducible rfl
      rotate_left
      · simp only [Act.put, List.setIfInBounds_toArray, List.set_cons_zero, List.set_cons_succ, yF, yI]
        rfl
      refine pure_ (i := 1) (N := some 12) (v := ?_) (a' := ?_) #[true, true, false, false, false, false, false, false, false, false, false, false, false, false] rfl rfl (any_of HT_.out (by kernel_rfl)) (fun _ _ _ h => h) (Or.inl ⟨by rfl, ?_⟩) ?_ ?_
      rotate_left
      · intro w'
        go_simp
        with_reducible rfl
      rotate_left
      · simp only [Act.put, List.setIfInBounds_toArray, List.set_cons_zero, List.set_cons_succ, yF, yI]
        rfl
      refine pure_ (i := 6) (N := some 17) (v := ?_) (a' := ?_) #[true, true, false, false, false, false, true, false, false, false, false, false, false, false] rfl rfl (any_of HT_.out (by kernel_rfl)) (fun _ _ _ h => h) (Or.inl ⟨by rfl, ?_⟩) ?_ ?_
      rotate_left
      · intro w'
        go_simp
        with_reducible rfl
      rotate_left
      · simp only [Act.put, List.setIfInBounds_toArray, List.set_cons_zero, List.set_cons_succ, yF, yI]
        rfl
      refine take_ (i := 2) (N := some 13) (v := ?_) (a' := ?_) #[true, true, true, false, false, false, true, false, false, false, false, false, false, false] rfl rfl (take_ofW HT_.out HW_.out (by kernel_rfl)) (fun _ _ _ h => h) (Or.inl ⟨by rfl, ?_⟩) hHeld ?_ ?_
      rotate_left
      · intro w' hsw
        go_simp
        with_reducible rfl
      rotate_left
      · simp only [Act.put, List.setIfInBounds_toArray, List.set_cons_zero, List.set_cons_succ, yF, yI]
        rfl
      refine take_ (i := 3) (N := some 14) (v := ?_) (a' := ?_) #[true, true, true, true, false, false, true, false, false, false, false, false, false, false] rfl rfl (take_ofW HT_.out HW_.out (by kernel_rfl)) (fun _ _ _ h => h) (Or.inl ⟨by rfl, ?_⟩) hHeld ?_ ?_
      rotate_left
      · intro w' hsw
        go_simp
        with_reducible rfl
      rotate_left
      · simp only [Act.put, List.setIfInBounds_toArray, List.set_cons_zero, List.set_cons_succ, yF, yI]
        rfl
      refine take_ (i := 4) (N := some 15) (v := ?_) (a' := ?_) #[true, true, true, true, true, false, true, false, false, false, false, false, false, false] rfl rfl (take_ofW HT_.out HW_.out (by kernel_rfl)) (fun _ _ _ h => h) (Or.inl ⟨by rfl, ?_⟩) hHeld ?_ ?_
      rotate_left
      · intro w' hsw
        go_simp
        with_reducible rfl
      rotate_left
      · simp only [Act.put, List.setIfInBounds_toArray, List.set_cons_zero, List.set_cons_succ, yF, yI]
        rfl
      refine pure_ (i := 5) (N := some 16) (v := ?_) (a' := ?_) #[true, true, true, true, true, true, true, false, false, false, false, false, false, false] rfl rfl (any_of HT_.out (by kernel_rfl)) (fun _ _ _ h => h) (Or.inl ⟨by rfl, ?_⟩) ?_ ?_
      rotate_left
      · intro w'
        go_simp
        with_reducible rfl
      rotate_left
      · simp only [Act.put, List.setIfInBounds_toArray, List.set_cons_zero, List.set_cons_succ, yF, yI]
        rfl
      refine take_ (i := 7) (N := some 18) (v := ?_) (a' := ?_) #[true, true, true, true, true, true, true, true, false, false, false, false, false, false] rfl rfl (take_ofW HT_.out HW_.out (by kernel_rfl)) (fun _ _ _ h => h) (Or.inl ⟨by rfl, ?_⟩) hHeld ?_ ?_
      rotate_left
      · intro w' hsw
        go_simp
        with_reducible rfl
      rotate_left
      · simp only [Act.put, List.setIfInBounds_toArray, List.set_cons_zero, List.set_cons_succ, yF, yI]
        rfl
      refine take_ (i := 8) (N := some 19) (v := ?_) (a' := ?_) #[true, true, true, true, true, true, true, true, true, false, false, false, false, false] rfl rfl (take_ofW HT_.out HW_.out (by kernel_rfl)) (fun _ _ _ h => h) (Or.inl ⟨by rfl, ?_⟩) hHeld ?_ ?_
      rotate_left
      · intro w' hsw
        go_simp
        with_reducible rfl
      rotate_left
      · simp only [Act.put, List.setIfInBounds_toArray, List.set_cons_zero, List.set_cons_succ, yF, yI]
        rfl
      refine take_ (i := 9) (N := some 20) (v := ?_) (a' := ?_) #[true, true, true, true, true, true, true, true, true, true, false, false, false, false] rfl rfl (take_ofW HT_.out HW_.out (by kernel_rfl)) (fun _ _ _ h => h) (Or.inl ⟨by rfl, ?_⟩) hHeld ?_ ?_
      rotate_left
      · intro w' hsw
        go_simp
        with_reducible rfl
      rotate_left
      · simp only [Act.put, List.setIfInBounds_toArray, List.set_cons_zero, List.set_cons_succ, yF, yI]
        rfl
      refine pure_ (i := 10) (N := some 21) (v := ?_) (a' := ?_) #[true, true, true, true, true, true, true, true, true, true, true, false, false, false] rfl rfl (any_of HT_.out (by kernel_rfl)) (fun _ _ _ h => h) (Or.inl ⟨by rfl, ?_⟩) ?_ ?_
      rotate_left
      · intro w'
        go_simp
        with_reducible rfl
      rotate_left
      · simp only [Act.put, List.setIfInBounds_toArray, List.set_cons_zero, List.set_cons_succ, yF, yI]
        rfl
      refine one_ (i := 11) (N := some 22) #[true, true, true, true, true, true, true, true, true, true, true, true, false, false] rfl rfl (one_of HT_.out (by kernel_rfl)) (by decide) (fun K hK => ?_)
      refine Kd.R_lit_step (Kd.int .u8) w.heap.size 5 ?hg (N := 22) ?hd (xs := ([x % 256, x / 256] : List Int)) (inner := [.int .u8 (x % 256), .int .u8 (x / 256)]) (ok := fun _ => True) (okp := fun _ => True) ?hr ?hp (fun _ hk => hk) trivial HBd.out (by omega) (by simp) ?_
      (case hd => rfl)
      (case hg => rfl)
      (case hr => first | (go_simp; done) | (go_simp; rfl))
      (case hp => exact (Reps.one (show Kd.M (Kd.int .u8) _ _ _ (x % 256) [.int .u8 (x % 256)] from rfl) (Reps.one (show Kd.M (Kd.int .u8) _ _ _ (x / 256) [.int .u8 (x / 256)] from rfl) (Reps.none _ _))))
      intro v22 w4 ho hb hg_ hnew_
      have HO4 := Aside0.mk ho
      have HB4 := Aside0.mk hb
      have HG4 := Aside0.mk hg_
      clear ho hb hg_ hnew_
      obtain ⟨Ao, co, eo⟩ := Kd.R_slice HO4.out
      subst eo
      have HR4 : Aside0 (Row w4 w.heap.size .i64 16 d 50) := ⟨(HG4.out.block _ hlt2 (by simp)).trans HRd.out⟩
      have hlt4 := HR4.out.lt
      refine hK.out _ _ (by rw [HR4.out.cell i h15, HDX.out]) (fun hHeld => ?_)
      clear hK K
      refine norm_ (a' := ?_) ?_ ?_
      rotate_left
      · show Act.put _ (some 22) _ = _
        simp only [Act.put, List.setIfInBounds_toArray, List.set_cons_zero, List.set_cons_succ, yF, yI]
        rfl
      refine one_ (i := 12) (N := some 23) #[true, true, true, true, true, true, true, true, true, true, true, true, true, false] rfl rfl (one_of HT_.out (by kernel_rfl)) (by decide) (fun K hK => ?_)
      refine Kd.R_append_rows_step (Kd.int .u8) (w0 := w) w.heap.size (by rfl) (.tmp 11) (.tmp 22) 25 5 (.int .u8 0) 1 rfl Tryd.underlying25 info5 rfl (by decide) (by omega) u3 (outL d i) ([x % 256, x / 256] : List Int) _ _ _ (fun k => k ≠ w.heap.size) (fun _ => False) rfl rfl ?aO ?aR (fun _ _ h => h) (fun _ h => h.elim) ?aF ?aB ?aS ?aL ?_
      (case aR => exact (Kd.R_reads' HO4.out).2.2)
      (case aB => exact HB4.out)
      (case aF => exact (fun k_ hk => by omega))
      (case aO => exact Kd.R_grown HOd.out HG4.out (fun k hk => by simp))
      (case aS => omega)
      (case aL => have := outL_len d i; simp; omega)
      intro v1 w5 ho hb hg hat
      have HO5 := Aside0.mk ho
      have HB5 := Aside0.mk hb
      have HG5 := Aside0.mk hg
      clear ho hb hg hat
      have HR5 : Aside0 (Row w5 w.heap.size .i64 16 d 50) := ⟨(HG5.out.block _ hlt4 (fun e => HOd.out.1 _ e.symm rfl)).trans HR4.out⟩
      refine hK.out _ _ (by rw [HR5.out.cell i h15, HDX.out]) (fun hHeld => ?_)
      clear hK K
      refine norm_ (a' := ?_) ?_ ?_
      rotate_left
      · show Act.put _ (some 23) _ = _
        simp only [Act.put, List.setIfInBounds_toArray, List.set_cons_zero, List.set_cons_succ, yF, yI]
        rfl
      refine pure_ (i := 13) (N := some 3) (v := ?_) (a' := ?_) #[true, true, true, true, true, true, true, true, true, true, true, true, true, true] rfl rfl (any_of HT_.out (by kernel_rfl)) (fun _ _ _ h => h) (Or.inl ⟨by rfl, ?_⟩) ?_ ?_
      rotate_left
      · intro w'
        go_simp
        with_reducible rfl
      rotate_left
      · simp only [Act.put, List.setIfInBounds_toArray, List.set_cons_zero, List.set_cons_succ, yF, yI]
        rfl
      refine done_ (done_of HT_.out (by kernel_rfl)) ?_
      try go_wp2
      refine ⟨⟨i + 1, by omega, rfl, HB5.out, HR5.out, ?_⟩, meas_up 16 i (by omega)⟩
      rw [HX.out]
      exact HO5.out
    · obtain rfl : i = 16 := by omega
      have hcv := own_string (P := Tryd.prog) Tryd.underlying25 Tryd.underlying5 Tryd.underlying9 (Kd.own_of_R HO.out)
      go_wp2_with fail
      go_ret
      refine ⟨?_, HB.out⟩
      rw [HDD.out]; rfl
attribute [local go_sem] setCell_drewN
theorem conv_row {w : World} {g : Nat} {f : Nat → Int} {t : TypeId} (hr : Row w g .u8 32 f t) : (convert 25 9 (.slice (some ⟨g, 0, none⟩) 32 32)).run Tryd.prog w = .ok (.string (sOf f)) w := by
  refine run_convert_bytes_arg w 25 5 Tryd.underlying25 Tryd.underlying5 g 0 32 32 ((List.range 32).map f) (by simp) (fun i hi => ?_) 9 Tryd.underlying9
  rw [Nat.zero_add, hr.cell i hi]
  simp [List.getD_eq_getElem?_getD, hi]
theorem equal22i (f g : Nat → Int) (w : World) : (Op.equalIn 10000 22 (.agg (FR .u8 32 f)) (.agg (FR .u8 32 g))).run Tryd.prog w = .ok (sameRow 32 f g) w := equal22 f g w
theorem outL_range (N : Int) : ∀ i, outL (dig 65536 N) i = (List.range (2 * i)).map (dig 256 N)
  | 0 => rfl
  | i + 1 => by
    rw [outL, outL_range N i, show 2 * (i + 1) = 2 * i + 1 + 1 by omega, List.range_succ, List.range_succ]
    simp only [List.map_append, List.map_cons, List.map_nil, List.append_assoc, List.cons_append, List.nil_append]
    congr 1
    have e : (256 : Int) ^ (2 * i) = 65536 ^ i := by rw [Int.pow_mul]; rfl
    have e2 : (256 : Int) ^ (2 * i + 1) = 65536 ^ i * 256 := by rw [Int.pow_succ, e]
    unfold dig
    rw [e, e2, ← Int.ediv_ediv_of_nonneg (Int.le_of_lt (pow_pos' 65536 (by omega) i))]
    generalize N / 65536 ^ i = x
    rw [show x % 65536 % 256 = x % 256 by omega, show x % 65536 / 256 = x / 256 % 256 by omega]
theorem ref_bytes_str (N : Int) : strOfNums (outL (dig 65536 N) 16) = sOf (dig 256 N) := by rw [outL_range]; rfl
theorem tab17 : rtab .any (opsOf Tryd.f53 1) = (true, [([], []), ([0], [0]), ([], []), ([2, 1], [2]), ([1, 3], [1, 3]), ([4, 3, 0, 1, 2, 3, 4], [4])]) := by kernel_rfl
theorem bits17 : zW [([], []), ([0], [0]), ([], []), ([2, 1], [2]), ([1, 3], [1, 3]), ([4, 3, 0, 1, 2, 3, 4], [4])] [0, 1, 0, 7, 15, 31] = true := by kernel_rfl
theorem elem_is_calls (f g : Nat → Int) (w : World) (hf : ∀ i, i < 5 → 0 ≤ f i ∧ f i ≤ 9223372036854775808) (hg : ∀ i, i < 5 → 0 ≤ g i ∧ g i ≤ 9223372036854775808) :
    Calls Tryd.prog 53 #[.agg (FR .u64 5 f), .agg (FR .u64 5 g)] w fun e w' => e = .returned (.bool (decide (V51 f % PP = V51 g % PP))) ∧ Below w.heap.size w w' := by
  have HF := Aside0.mk (fun w => elem_bytes_calls f w hf)
  have HG := Aside0.mk (fun w => elem_bytes_calls g w hg)
  clear hf hg
  go_enter Tryd.func53, Tryd.ntmps53
  go_wp2_with fail
  have hh : Row (((w.alloc (.cells (FR .u64 5 f) 40)).alloc (.cells (FR .u64 5 g) 40)).drew) w.heap.size .u64 5 f 40 ∧ Row (((w.alloc (.cells (FR .u64 5 f) 40)).alloc (.cells (FR .u64 5 g) 40)).drew) (w.heap.size + 1) .u64 5 g 40 := ⟨(Row.new w .u64 5 f 40).alloc _, heap_alloc2_new w _ _⟩
  have HBd := Aside0.mk ((bel_two w (.cells (FR .u64 5 f) 40) (.cells (FR .u64 5 g) 40)).drew)
  refine start_ (n := 6) (S := (fun w' => Row w' w.heap.size .u64 5 f 40 ∧ Row w' (w.heap.size + 1) .u64 5 g 40)) (ds := []) #[false, false, false, false, false, false] (by kernel_rfl) rfl rfl hh (fun hHeld => ?_); refine with_tabW tab17 bits17 (fun HT_ HW_ => ?_)
  generalize ((w.alloc (.cells (FR .u64 5 f) 40)).alloc (.cells (FR .u64 5 g) 40)).drew = w6 at HBd hHeld hh ⊢
  clear hh
  have heq := equal22i
  refine take_ (i := 0) (N := some 5) (v := ?_) (a' := ?_) #[true, false, false, false, false, false] rfl rfl (take_ofW HT_.out HW_.out (by kernel_rfl)) (fun _ _ _ h => h) (Or.inl ⟨by rfl, ?_⟩) hHeld ?_ ?_
  rotate_left
  · intro w' hsw
    refine exec_load (x := .tmp 2) hsw.1 Tryd.underlying40 info27 rfl ?_ ?_ <;> rfl
  rotate_left
  · simp only [Act.put, List.setIfInBounds_toArray, List.set_cons_zero, List.set_cons_succ, yF, yI]
    rfl
  refine take_ (i := 2) (N := some 7) (v := ?_) (a' := ?_) #[true, false, true, false, false, false] rfl rfl (take_ofW HT_.out HW_.out (by kernel_rfl)) (fun _ _ _ h => h) (Or.inl ⟨by rfl, ?_⟩) hHeld ?_ ?_
  rotate_left
  · intro w' hsw
    refine exec_load (x := .tmp 3) hsw.2 Tryd.underlying40 info27 rfl ?_ ?_ <;> rfl
  rotate_left
  · simp only [Act.put, List.setIfInBounds_toArray, List.set_cons_zero, List.set_cons_succ, yF, yI]
    rfl
  refine one_ (i := 1) (N := some 6) #[true, true, true, false, false, false] rfl rfl (one_of HT_.out (by kernel_rfl)) (by decide) (fun K hK => ?_)
  refine goes_ Tryd.func40 rfl rfl #[.agg (FR .u64 5 f)] rfl rfl rfl (by simp only [List.map_toArray, List.map_cons, List.map_nil]; rfl) ((HF.out _).mono ?_)
  rintro e w1 ⟨rfl, hb⟩
  have hS1 := hHeld.1.below hb hHeld.1.lt
  have hS2 := hHeld.2.below hb hHeld.2.lt
  have HB_HF := Aside0.mk (HBd.out.trans (hb.mono (by have := hHeld.2.lt; omega)))
  clear hb HBd
  refine ⟨_, rfl, hK.out _ _ ⟨hS1, hS2⟩ (fun hHeld => ?_)⟩
  clear hS1 hS2
  have HBd := HB_HF
  clear HB_HF
  clear hK K
  refine norm_ (a' := ?_) ?_ ?_
  rotate_left
  · show Act.put _ (some 6) _ = _
    simp only [Act.put, List.setIfInBounds_toArray, List.set_cons_zero, List.set_cons_succ, yF, yI]
    rfl
  refine one_ (i := 3) (N := some 8) #[true, true, true, true, false, false] rfl rfl (one_of HT_.out (by kernel_rfl)) (by decide) (fun K hK => ?_)
  refine goes_ Tryd.func40 rfl rfl #[.agg (FR .u64 5 g)] rfl rfl rfl (by simp only [List.map_toArray, List.map_cons, List.map_nil]; rfl) ((HG.out _).mono ?_)
  rintro e w1 ⟨rfl, hb⟩
  have hS1 := hHeld.1.below hb hHeld.1.lt
  have hS2 := hHeld.2.below hb hHeld.2.lt
  have HB_HG := Aside0.mk (HBd.out.trans (hb.mono (by have := hHeld.2.lt; omega)))
  clear hb HBd
  refine ⟨_, rfl, hK.out _ _ ⟨hS1, hS2⟩ (fun hHeld => ?_)⟩
  clear hS1 hS2
  have HBd := HB_HG
  clear HB_HG
  clear hK K
  refine norm_ (a' := ?_) ?_ ?_
  rotate_left
  · show Act.put _ (some 8) _ = _
    simp only [Act.put, List.setIfInBounds_toArray, List.set_cons_zero, List.set_cons_succ, yF, yI]
    rfl
  refine pure_ (i := 4) (N := some 9) (v := ?_) (a' := ?_) #[true, true, true, true, true, false] rfl rfl (any_of HT_.out (by kernel_rfl)) (fun _ _ _ h => h) (Or.inl ⟨by rfl, ?_⟩) ?_ ?_
  rotate_left
  · intro w'
    go_simp
    with_reducible rfl
  rotate_left
  · simp only [Act.put, List.setIfInBounds_toArray, List.set_cons_zero, List.set_cons_succ, yF, yI]
    rfl
  refine pure_ (i := 5) (N := some 4) (v := ?_) (a' := ?_) #[true, true, true, true, true, true] rfl rfl (any_of HT_.out (by kernel_rfl)) (fun _ _ _ h => h) (Or.inl ⟨by rfl, ?_⟩) ?_ ?_
  rotate_left
  · intro w'
    go_simp
    with_reducible rfl
  rotate_left
  · simp only [Act.put, List.setIfInBounds_toArray, List.set_cons_zero, List.set_cons_succ, yF, yI]
    rfl
  refine done_ (done_of HT_.out (by kernel_rfl)) ?_
  try go_wp2
  go_ret
  refine ⟨?_, HBd.out⟩
  show Ending.returned (Value.bool _) = _
  rw [sameRow_dig 256 (by omega) 32 _ _ (modP_32 _) (modP_32 _)]
theorem tab44 : rtab .any (opsOf Tryd.f64 1) = (true, [([], []), ([0], [0]), ([], []), ([2, 1], [2]), ([1, 3], [1, 3]), ([4, 3, 0, 1, 2, 3, 4], [4])]) := by kernel_rfl
theorem bits44 : zW [([], []), ([0], [0]), ([], []), ([2, 1], [2]), ([1, 3], [1, 3]), ([4, 3, 0, 1, 2, 3, 4], [4])] [0, 1, 0, 7, 15, 31] = true := by kernel_rfl
theorem ref_is_calls (f g : Nat → Int) (w : World) (hf : CB f) (hg : CB g) :
    Calls Tryd.prog 64 #[.agg (FR .i64 16 f), .agg (FR .i64 16 g)] w fun e w' => e = .returned (.bool (decide (V16 f % PP = V16 g % PP))) ∧ Below w.heap.size w w' := by
  have HF := Aside0.mk (fun w => ref_bytes_calls f w hf)
  have HG := Aside0.mk (fun w => ref_bytes_calls g w hg)
  clear hf hg
  go_enter Tryd.func64, Tryd.ntmps64
  go_wp2_with fail
  have hh : Row (((w.alloc (.cells (FR .i64 16 f) 50)).alloc (.cells (FR .i64 16 g) 50)).drew) w.heap.size .i64 16 f 50 ∧ Row (((w.alloc (.cells (FR .i64 16 f) 50)).alloc (.cells (FR .i64 16 g) 50)).drew) (w.heap.size + 1) .i64 16 g 50 := ⟨(Row.new w .i64 16 f 50).alloc _, heap_alloc2_new w _ _⟩
  have HBd := Aside0.mk ((bel_two w (.cells (FR .i64 16 f) 50) (.cells (FR .i64 16 g) 50)).drew)
  refine start_ (n := 6) (S := (fun w' => Row w' w.heap.size .i64 16 f 50 ∧ Row w' (w.heap.size + 1) .i64 16 g 50)) (ds := []) #[false, false, false, false, false, false] (by kernel_rfl) rfl rfl hh (fun hHeld => ?_); refine with_tabW tab44 bits44 (fun HT_ HW_ => ?_)
  generalize ((w.alloc (.cells (FR .i64 16 f) 50)).alloc (.cells (FR .i64 16 g) 50)).drew = w6 at HBd hHeld hh ⊢
  clear hh
  refine take_ (i := 0) (N := some 5) (v := ?_) (a' := ?_) #[true, false, false, false, false, false] rfl rfl (take_ofW HT_.out HW_.out (by kernel_rfl)) (fun _ _ _ h => h) (Or.inl ⟨by rfl, ?_⟩) hHeld ?_ ?_
  rotate_left
  · intro w' hsw
    refine exec_load (x := .tmp 2) hsw.1 Tryd.underlying50 info33 rfl ?_ ?_ <;> rfl
  rotate_left
  · simp only [Act.put, List.setIfInBounds_toArray, List.set_cons_zero, List.set_cons_succ, yF, yI]
    rfl
  refine take_ (i := 2) (N := some 7) (v := ?_) (a' := ?_) #[true, false, true, false, false, false] rfl rfl (take_ofW HT_.out HW_.out (by kernel_rfl)) (fun _ _ _ h => h) (Or.inl ⟨by rfl, ?_⟩) hHeld ?_ ?_
  rotate_left
  · intro w' hsw
    refine exec_load (x := .tmp 3) hsw.2 Tryd.underlying50 info33 rfl ?_ ?_ <;> rfl
  rotate_left
  · simp only [Act.put, List.setIfInBounds_toArray, List.set_cons_zero, List.set_cons_succ, yF, yI]
    rfl
  refine one_ (i := 1) (N := some 6) #[true, true, true, false, false, false] rfl rfl (one_of HT_.out (by kernel_rfl)) (by decide) (fun K hK => ?_)
  refine goes_ Tryd.func44 rfl rfl #[.agg (FR .i64 16 f)] rfl rfl rfl (by simp only [List.map_toArray, List.map_cons, List.map_nil]; rfl) ((HF.out _).mono ?_)
  rintro e w1 ⟨rfl, hb⟩
  have hS1 := hHeld.1.below hb hHeld.1.lt
  have hS2 := hHeld.2.below hb hHeld.2.lt
  have HB_HF := Aside0.mk (HBd.out.trans (hb.mono (by have := hHeld.2.lt; omega)))
  clear hb HBd
  refine ⟨_, rfl, hK.out _ _ ⟨hS1, hS2⟩ (fun hHeld => ?_)⟩
  clear hS1 hS2
  have HBd := HB_HF
  clear HB_HF
  clear hK K
  refine norm_ (a' := ?_) ?_ ?_
  rotate_left
  · show Act.put _ (some 6) _ = _
    simp only [Act.put, List.setIfInBounds_toArray, List.set_cons_zero, List.set_cons_succ, yF, yI]
    rfl
  refine one_ (i := 3) (N := some 8) #[true, true, true, true, false, false] rfl rfl (one_of HT_.out (by kernel_rfl)) (by decide) (fun K hK => ?_)
  refine goes_ Tryd.func44 rfl rfl #[.agg (FR .i64 16 g)] rfl rfl rfl (by simp only [List.map_toArray, List.map_cons, List.map_nil]; rfl) ((HG.out _).mono ?_)
  rintro e w1 ⟨rfl, hb⟩
  have hS1 := hHeld.1.below hb hHeld.1.lt
  have hS2 := hHeld.2.below hb hHeld.2.lt
  have HB_HG := Aside0.mk (HBd.out.trans (hb.mono (by have := hHeld.2.lt; omega)))
  clear hb HBd
  refine ⟨_, rfl, hK.out _ _ ⟨hS1, hS2⟩ (fun hHeld => ?_)⟩
  clear hS1 hS2
  have HBd := HB_HG
  clear HB_HG
  clear hK K
  refine norm_ (a' := ?_) ?_ ?_
  rotate_left
  · show Act.put _ (some 8) _ = _
    simp only [Act.put, List.setIfInBounds_toArray, List.set_cons_zero, List.set_cons_succ, yF, yI]
    rfl
  refine pure_ (i := 4) (N := some 9) (v := ?_) (a' := ?_) #[true, true, true, true, true, false] rfl rfl (any_of HT_.out (by kernel_rfl)) (fun _ _ _ h => h) (Or.inl ⟨by rfl, ?_⟩) ?_ ?_
  rotate_left
  · intro w'
    go_simp
    with_reducible rfl
  rotate_left
  · simp only [Act.put, List.setIfInBounds_toArray, List.set_cons_zero, List.set_cons_succ, yF, yI]
    rfl
  refine pure_ (i := 5) (N := some 4) (v := ?_) (a' := ?_) #[true, true, true, true, true, true] rfl rfl (any_of HT_.out (by kernel_rfl)) (fun _ _ _ h => h) (Or.inl ⟨by rfl, ?_⟩) ?_ ?_
  rotate_left
  · intro w'
    go_simp
    with_reducible rfl
  rotate_left
  · simp only [Act.put, List.setIfInBounds_toArray, List.set_cons_zero, List.set_cons_succ, yF, yI]
    rfl
  refine done_ (done_of HT_.out (by kernel_rfl)) ?_
  try go_wp2
  go_ret
  refine ⟨?_, HBd.out⟩
  show Ending.returned (Value.bool _) = _
  rw [ref_bytes_str, ref_bytes_str, sOf_sameL _ _ (modP_32 _) (modP_32 _)]
theorem dig0_odd (N : Int) (hN : 0 ≤ N) : decide (Go.bits .and .u8 (dig 256 N 0) 1 = 1) = decide (N % 2 = 1) := by
  have e : dig 256 N 0 = N % 256 := by unfold dig; simp
  have h : Go.bits .and .u8 (dig 256 N 0) 1 = N % 2 := by
    rw [e, u8_and _ _ (by omega) (by omega) (by omega) (by omega), show (1 : Int).toNat = 2 ^ 1 - 1 from rfl, Nat.and_two_pow_sub_one_eq_mod]
    omega
  rw [h]
theorem elem_odd_calls (f : Nat → Int) (w : World) (hf : ∀ i, i < 5 → 0 ≤ f i ∧ f i ≤ 9223372036854775808) :
    Calls Tryd.prog 41 #[.agg (FR .u64 5 f)] w fun e w' => e = .returned (.bool (decide (V51 f % PP % 2 = 1))) ∧ Below w.heap.size w w' := by
  have HF := Aside0.mk (fun w => elem_bytes_calls f w hf)
  have HO := Aside0.mk (dig0_odd (V51 f % PP) (modP_b _).1)
  clear hf
  go_enter Tryd.func41, Tryd.ntmps41
  have HR0 := Aside0.mk (Row.new w .u64 5 f 40)
  have HB0 := Aside0.mk ((Below.refl w.heap.size w).alloc (Nat.le_refl _) (.cells (FR .u64 5 f) 40))
  go_wp2_with (refine zX HR0.out Tryd.underlying40 info27 rfl rfl rfl rfl ?_)
  refine (HF.out _).mono ?_
  rintro e w1 ⟨rfl, hb⟩
  have HB1 := Aside0.mk (HB0.out.trans (hb.mono (by simp)))
  clear hb HR0 HB0
  have hix : ∀ (f : Nat → Int) (w : World), (Instr.index 22 (.agg (FR .u8 32 f)) (.int .i64 0)).run Tryd.prog w = .ok (.int .u8 (f 0)) w := fun f w => index22 f 0 (by omega) w
  go_wp2_with fail
  go_ret
  refine ⟨?_, HB1.out⟩
  show Ending.returned (Value.bool (Go.bits .and .u8 (dig 256 (V51 f % PP) 0) 1 == 1)) = _
  rw [← HO.out]
  rfl
theorem dig0_oddR (N : Int) : Int.tmod (dig 65536 N 0) 2 = N % 2 := by
  have e : dig 65536 N 0 = N % 65536 := by unfold dig; simp
  rw [e, Int.tmod_eq_emod_of_nonneg (by omega)]; omega
theorem ref_odd_calls (f : Nat → Int) (w : World) (hf : CB f) :
    Calls Tryd.prog 46 #[.agg (FR .i64 16 f)] w fun e w' => e = .returned (.bool (decide (V16 f % PP % 2 = 1))) ∧ Below w.heap.size w w' := by
  have HF := Aside0.mk (fun w => least_calls f w hf)
  have HO := Aside0.mk (dig0_oddR (V16 f % PP))
  clear hf
  go_enter Tryd.func46, Tryd.ntmps46
  have HR0 := Aside0.mk (Row.new w .i64 16 f 50)
  have HB0 := Aside0.mk ((Below.refl w.heap.size w).alloc (Nat.le_refl _) (.cells (FR .i64 16 f) 50))
  go_wp2_with (refine zX HR0.out Tryd.underlying50 info33 rfl rfl rfl rfl ?_)
  refine (HF.out _).mono ?_
  rintro e w1 ⟨rfl, hb⟩
  have HB1 := Aside0.mk (HB0.out.trans (hb.mono (by simp)))
  clear hb HR0 HB0
  have hix : ∀ (f : Nat → Int) (w : World), (Instr.index 50 (.agg (FR .i64 16 f)) (.int .i64 0)).run Tryd.prog w = .ok (.int .i64 (f 0)) w := fun f w => index33 f 0 (by omega) w
  have hmm := HO.out
  go_wp2_with fail
  go_ret
  refine ⟨?_, HB1.out⟩
  rfl
attribute [local go_sem] setCell_drewN
def B32 (b : Nat → Int) : Array Value := #[.int .u8 (b 0), .int .u8 (b 1), .int .u8 (b 2), .int .u8 (b 3), .int .u8 (b 4), .int .u8 (b 5), .int .u8 (b 6), .int .u8 (b 7), .int .u8 (b 8), .int .u8 (b 9), .int .u8 (b 10), .int .u8 (b 11), .int .u8 (b 12), .int .u8 (b 13), .int .u8 (b 14), .int .u8 (b 15), .int .u8 (b 16), .int .u8 (b 17), .int .u8 (b 18), .int .u8 (b 19), .int .u8 (b 20), .int .u8 (b 21), .int .u8 (b 22), .int .u8 (b 23), .int .u8 (b 24), .int .u8 (b 25), .int .u8 (b 26), .int .u8 (b 27), .int .u8 (b 28), .int .u8 (b 29), .int .u8 (b 30), .int .u8 (b 31)]
theorem B32_at (b : Nat → Int) : ∀ j, j < 32 → (B32 b)[j]? = some (.int .u8 (b j)) := by
  intro j hj
  have h : j = 0 ∨ j = 1 ∨ j = 2 ∨ j = 3 ∨ j = 4 ∨ j = 5 ∨ j = 6 ∨ j = 7 ∨ j = 8 ∨ j = 9 ∨ j = 10 ∨ j = 11 ∨ j = 12 ∨ j = 13 ∨ j = 14 ∨ j = 15 ∨ j = 16 ∨ j = 17 ∨ j = 18 ∨ j = 19 ∨ j = 20 ∨ j = 21 ∨ j = 22 ∨ j = 23 ∨ j = 24 ∨ j = 25 ∨ j = 26 ∨ j = 27 ∨ j = 28 ∨ j = 29 ∨ j = 30 ∨ j = 31 := by omega
  rcases h with rfl | rfl | rfl | rfl | rfl | rfl | rfl | rfl | rfl | rfl | rfl | rfl | rfl | rfl | rfl | rfl | rfl | rfl | rfl | rfl | rfl | rfl | rfl | rfl | rfl | rfl | rfl | rfl | rfl | rfl | rfl | rfl
  all_goals rfl
def L8 (b : Nat → Int) (i : Nat) : Int := ldZ (fun j => b (i + j)) 8
theorem L8_b (b : Nat → Int) (hb : ∀ j, j < 32 → 0 ≤ b j ∧ b j < 256) (i : Nat) (hi : i + 8 ≤ 32) : 0 ≤ L8 b i ∧ L8 b i < 18446744073709551616 := by
  have h := ldZ_b (fun j => b (i + j)) (fun j hj => hb _ (by omega)) 8 (by omega)
  exact h
theorem load_at (b : Nat → Int) (g off n c : Nat) (w : World) (t : TypeId) (hg : w.heap[g]? = some (.cells (B32 b) t (0, 0))) (hoff : off + 8 ≤ 32) (hn : 8 ≤ n) (hb : ∀ j, j < 32 → 0 ≤ b j ∧ b j < 256) :
    Calls Tryd.prog 80 #[.slice (some ⟨g, off, none⟩) n c] w fun e w' => e = .returned (.int .u64 (L8 b off)) ∧ w' = w :=
  load_calls (fun j => b (off + j)) g off n c w hn (fun j hj => hb _ (by omega)) (fun j hj => (cell_of_row w g (off + j) _ t _ hg).trans (B32_at b _ (by omega)))
theorem alloc_keep {V : World} {g : Nat} {x : Obj} (h : V.heap[g]? = some x) (o : Obj) : (V.alloc o).heap[g]? = some x := by
  have hlt : g < V.heap.size := (Array.getElem?_eq_some_iff.1 h).1
  have e : (V.alloc o).heap[g]? = V.heap[g]? := Below.heap_alloc V o g hlt
  rw [e]; exact h
def ofZ (b : Nat → Int) : Int × Int × Int × Int × Int := carriedZ (L8 b 0 % 2251799813685248 + 19 * (b 31 / 128)) (L8 b 6 / 8 % 2251799813685248) (L8 b 12 / 64 % 2251799813685248) (L8 b 19 / 2 % 2251799813685248) (L8 b 24 / 4096 % 2251799813685248)
set_option maxHeartbeats 1500000 in
theorem of_calls (b : Nat → Int) (w : World) (hb : ∀ j, j < 32 → 0 ≤ b j ∧ b j < 256) :
    Calls Tryd.prog 48 #[.agg (B32 b)] w fun e w' => e = .returned (E5t (ofZ b)) ∧ Below w.heap.size w w' := by
  have r0 := L8_b b hb 0 (by omega); have r1 := L8_b b hb 6 (by omega); have r2 := L8_b b hb 12 (by omega); have r3 := L8_b b hb 19 (by omega); have r4 := L8_b b hb 24 (by omega); have r5 := hb 31 (by omega)
  have m0 := mask51 (L8 b 0) (by omega) (by omega)
  have m1 := mask51 (L8 b 6 / 8) (by omega) (by omega)
  have m2 := mask51 (L8 b 12 / 64) (by omega) (by omega)
  have m3 := mask51 (L8 b 19 / 2) (by omega) (by omega)
  have m4 := mask51 (L8 b 24 / 4096) (by omega) (by omega)
  have w1 := u64w (b 31 / 128) (by omega) (by omega)
  have w2 := u64w (19 * (b 31 / 128)) (by omega) (by omega)
  have w3 := u64w (L8 b 0 % 2251799813685248 + 19 * (b 31 / 128)) (by omega) (by omega)
  have HC := Aside0.mk (fun w => carried_b (L8 b 0 % 2251799813685248 + 19 * (b 31 / 128)) (L8 b 6 / 8 % 2251799813685248) (L8 b 12 / 64 % 2251799813685248) (L8 b 19 / 2 % 2251799813685248) (L8 b 24 / 4096 % 2251799813685248) w (by intro x hx; simp only [List.mem_cons, List.not_mem_nil, or_false] at hx; omega))
  clear r0 r1 r2 r3 r4 r5
  go_enter Tryd.func48, Tryd.ntmps48
  go_wp2_with fail
  have HBb := Aside0.mk hb
  clear hb
  go_region_held3 (fun w' => w'.heap[w.heap.size]? = some (.cells (B32 b) 22 (0, 0))) (first | assumption | exact heap_alloc2_old w _ _ | exact alloc_keep (heap_alloc2_old w _ _) _ | exact alloc_keep (by assumption) _ | go_keep)
    (first | (go_at_call 80; refine (load_at b w.heap.size _ _ _ _ 22 ?h3 ?h1 ?h2 HBb.out).mono ?_; (case h1 => decide); (case h2 => decide); (case h3 => assumption); rintro e w' ⟨rfl, rfl⟩))
  all_goals simp only [B32]
  all_goals go_wp2_with fail
  all_goals refine (HC.out _).mono ?_
  all_goals rintro e w1 ⟨rfl, hb⟩
  all_goals (have hrow : w1.heap[w.heap.size + 1]? = some (.cells #[.int .u64 0, .int .u64 0, .int .u64 0, .int .u64 0, .int .u64 0] 40 (0, 0)) := by
               refine (hb.block _ (by simp)).trans ?_
               first | exact alloc_keep (heap_alloc2_new w _ _) _ | exact alloc_keep (alloc_keep (heap_alloc2_new w _ _) _) _)
  all_goals (have hBel : Below w.heap.size w w1 := by
               have h3 := fun c => (bel_three w (.cells (B32 b) 22) (.cells #[.int .u64 0, .int .u64 0, .int .u64 0, .int .u64 0, .int .u64 0] 40) c)
               first | exact (bel_drewN (h3 _) _).trans (hb.mono (bel_drewN (h3 _) _).size) | exact (h3 _).trans (hb.mono (h3 _).size))
  all_goals have HB1 := Aside0.mk hBel
  all_goals (have hlt : w.heap.size + 1 < w1.heap.size := (Array.getElem?_eq_some_iff.1 hrow).1)
  all_goals clear hb hBel HC
  all_goals generalize ht : carriedZ (L8 b 0 % 2251799813685248 + 19 * (b 31 / 128)) (L8 b 6 / 8 % 2251799813685248) (L8 b 12 / 64 % 2251799813685248) (L8 b 19 / 2 % 2251799813685248) (L8 b 24 / 4096 % 2251799813685248) = t
  all_goals (obtain ⟨t0, t1, t2, t3, t4⟩ := t; have HT := Aside0.mk ht; clear ht; simp only [E5t, E5])
  all_goals have k0 := cell_of_row w1 _ 0 _ _ _ hrow
  all_goals have k1 := cell_of_row w1 _ 1 _ _ _ hrow
  all_goals have k2 := cell_of_row w1 _ 2 _ _ _ hrow
  all_goals have k3 := cell_of_row w1 _ 3 _ _ _ hrow
  all_goals have k4 := cell_of_row w1 _ 4 _ _ _ hrow
  all_goals have f0 := frozen_of_row w1 _ 0 _ _ hrow
  all_goals have f1 := frozen_of_row w1 _ 1 _ _ hrow
  all_goals have f2 := frozen_of_row w1 _ 2 _ _ hrow
  all_goals have f3 := frozen_of_row w1 _ 3 _ _ hrow
  all_goals have f4 := frozen_of_row w1 _ 4 _ _ hrow
  all_goals go_wp2_with fail
  all_goals refine bodyPost_ret (results_cell_row rfl _ _ (w.heap.size + 1) 40 #[.int .u64 t0, .int .u64 t1, .int .u64 t2, .int .u64 t3, .int .u64 t4] (0, 0) _ rfl (set5_row hrow) Tryd.underlying40 rfl (by kernel_rfl)) rfl ?_
  all_goals exact ⟨by unfold ofZ; rw [HT.out]; rfl, set5_bel HB1.out (by omega)⟩
theorem L8_val (b : Nat → Int) (k : Nat) : L8 b k = val 256 (fun j => b (k + j)) 8 := by
  simp only [L8, ldZ, val, Nat.reduceSub]
  omega
def ofL (b : Nat → Int) : Nat → Int
  | 0 => L8 b 0 % 2251799813685248 + 19 * (b 31 / 128)
  | 1 => L8 b 6 / 8 % 2251799813685248
  | 2 => L8 b 12 / 64 % 2251799813685248
  | 3 => L8 b 19 / 2 % 2251799813685248
  | _ => L8 b 24 / 4096 % 2251799813685248
def By (b : Nat → Int) : Prop := ∀ j, j < 32 → 0 ≤ b j ∧ b j < 256
theorem Of_elem_calls (b : Nat → Int) (w : World) (hb : By b) :
    Calls Tryd.prog 48 #[.agg (FR .u8 32 b)] w fun e w' => e = .returned (.agg (FR .u64 5 (carr (ofL b)))) ∧ Below w.heap.size w w' := of_calls b w hb
def N32 (b : Nat → Int) : Int := val 256 b 32
theorem N32_b (b : Nat → Int) (hb : By b) : 0 ≤ N32 b ∧ N32 b < 115792089237316195423570985008687907853269984665640564039457584007913129639936 := by
  have h := val_b 256 (by omega) b 32 hb
  have e : (256 : Int) ^ 32 = 115792089237316195423570985008687907853269984665640564039457584007913129639936 := by decide
  rw [e] at h; exact h
theorem N32_parts (b : Nat → Int) (hb : By b) (k : Nat) (hk : k + 8 ≤ 32) : ∃ A R, 0 ≤ A ∧ A < 256 ^ k ∧ 0 ≤ R ∧ (0 ≤ L8 b k ∧ L8 b k < 18446744073709551616) ∧ N32 b = A + 256 ^ k * (L8 b k + 18446744073709551616 * R) := by
  have h1 := val_b 256 (by omega) b k (fun i hi => hb i (by omega))
  refine ⟨val 256 b k, val 256 (fun j => b (k + (8 + j))) (24 - k), h1.1, h1.2, val_nonneg 256 (by omega) _ _ (fun i hi => (hb _ (by omega)).1), L8_b b hb k hk, ?_⟩
  have e1 := val_split 256 b k (32 - k)
  have e2 := val_split 256 (fun j => b (k + j)) 8 (24 - k)
  rw [show k + (32 - k) = 32 by omega] at e1
  rw [show 8 + (24 - k) = 32 - k by omega] at e2
  unfold N32
  rw [e1, e2, L8_val]
  rfl
theorem ofL_dig (b : Nat → Int) (hb : By b) : (∀ i, i < 5 → (if i = 0 then ofL b 0 - 19 * (b 31 / 128) else ofL b i) = dig 2251799813685248 (N32 b) i) := by
  intro i hi
  have hc : i = 0 ∨ i = 1 ∨ i = 2 ∨ i = 3 ∨ i = 4 := by omega
  rcases hc with rfl | rfl | rfl | rfl | rfl
  · obtain ⟨A, R, h1, h2, h3, h4, e⟩ := N32_parts b hb 0 (by omega)
    rw [if_pos rfl]
    show L8 b 0 % 2251799813685248 + 19 * (b 31 / 128) - 19 * (b 31 / 128) = N32 b / 1 % 2251799813685248
    simp only [Int.pow_zero] at h2 e
    omega
  · obtain ⟨A, R, h1, h2, h3, h4, e⟩ := N32_parts b hb 6 (by omega)
    rw [if_neg (by omega)]
    show L8 b 6 / 8 % 2251799813685248 = N32 b / 2251799813685248 ^ 1 % 2251799813685248
    rw [show (256 : Int) ^ 6 = 281474976710656 by decide] at h2 e
    rw [show (2251799813685248 : Int) ^ 1 = 2251799813685248 by decide]
    omega
  · obtain ⟨A, R, h1, h2, h3, h4, e⟩ := N32_parts b hb 12 (by omega)
    rw [if_neg (by omega)]
    show L8 b 12 / 64 % 2251799813685248 = N32 b / 2251799813685248 ^ 2 % 2251799813685248
    rw [show (256 : Int) ^ 12 = 79228162514264337593543950336 by decide] at h2 e
    rw [show (2251799813685248 : Int) ^ 2 = 5070602400912917605986812821504 by decide]
    omega
  · obtain ⟨A, R, h1, h2, h3, h4, e⟩ := N32_parts b hb 19 (by omega)
    rw [if_neg (by omega)]
    show L8 b 19 / 2 % 2251799813685248 = N32 b / 2251799813685248 ^ 3 % 2251799813685248
    rw [show (256 : Int) ^ 19 = 5708990770823839524233143877797980545530986496 by decide] at h2 e
    rw [show (2251799813685248 : Int) ^ 3 = 11417981541647679048466287755595961091061972992 by decide]
    omega
  · obtain ⟨A, R, h1, h2, h3, h4, e⟩ := N32_parts b hb 24 (by omega)
    rw [if_neg (by omega)]
    show L8 b 24 / 4096 % 2251799813685248 = N32 b / 2251799813685248 ^ 4 % 2251799813685248
    rw [show (256 : Int) ^ 24 = 6277101735386680763835789423207666416102355444464034512896 by decide] at h2 e
    rw [show (2251799813685248 : Int) ^ 4 = 25711008708143844408671393477458601640355247900524685364822016 by decide]
    omega
theorem ofL_b (b : Nat → Int) (hb : By b) : ∀ i, i < 5 → 0 ≤ ofL b i ∧ ofL b i ≤ 9223372036854775808 := by
  intro i hi
  have h := ofL_dig b hb i hi
  have hd := dig_b 2251799813685248 (by omega) (N32 b) i
  have h31 := hb 31 (by omega)
  split at h
  · rename_i h0; subst h0; omega
  · omega
theorem ofL_V (b : Nat → Int) (hb : By b) : V51 (ofL b) = N32 b - PP * (b 31 / 128) := by
  have h := ofL_dig b hb
  have e1 := val_congr 2251799813685248 _ _ 5 h
  rw [val_dig 2251799813685248 (by omega)] at e1
  have e2 : val 2251799813685248 (fun i => if i = 0 then ofL b 0 - 19 * (b 31 / 128) else ofL b i) 5 = V51 (ofL b) - 19 * (b 31 / 128) := by
    simp [val, V51]; omega
  rw [e2, show (2251799813685248 : Int) ^ 5 = 57896044618658097711785492504343953926634992332820282019728792003956564819968 by decide] at e1
  have hA := val_b 256 (by omega) b 31 (fun i hi => hb i (by omega))
  have hN : N32 b = val 256 b 31 + b 31 * 256 ^ 31 := rfl
  have h31 := hb 31 (by omega)
  rw [show (256 : Int) ^ 31 = 452312848583266388373324160190187140051835877600158453279131187530910662656 by decide] at hA hN
  unfold PP
  generalize V51 (ofL b) = x at *
  generalize val 256 b 31 = y at *
  generalize b 31 = z at *
  omega
theorem of_mod (b : Nat → Int) (hb : By b) : V51 (carr (ofL b)) % PP = N32 b % PP := by
  rw [carr_mod, ofL_V b hb, Int.sub_mul_emod_self_left]
theorem of_Lm (b : Nat → Int) (hb : By b) : Lm (carr (ofL b)) := carr_Lm _ (ofL_b b hb)
def numD (b : Nat → Int) (i : Nat) : Int := b (2 * i) + 256 * b (2 * i + 1)
theorem numD_val (b : Nat → Int) : ∀ n, val 65536 (numD b) n = val 256 b (2 * n)
  | 0 => rfl
  | n + 1 => by
    have e : (256 : Int) ^ (2 * n) = 65536 ^ n := by rw [Int.pow_mul]; rfl
    show val 65536 (numD b) n + (b (2 * n) + 256 * b (2 * n + 1)) * 65536 ^ n = val 256 b (2 * n) + b (2 * n) * 256 ^ (2 * n) + b (2 * n + 1) * 256 ^ (2 * n + 1)
    rw [numD_val b n, Int.pow_succ, e]; grind
theorem numD_V (b : Nat → Int) : V16 (numD b) = N32 b := numD_val b 16
theorem numD_D (b : Nat → Int) (hb : By b) : D16 (numD b) := fun j hj => by
  have h1 := hb (2 * j) (by omega)
  have h2 := hb (2 * j + 1) (by omega)
  unfold numD; omega
theorem D16.cb {f : Nat → Int} (h : D16 f) : CB f := fun j hj => by have := h j hj; omega
theorem D16.cb0 {f : Nat → Int} (h : D16 f) : CB0 f := fun j hj => by have := h j hj; omega
theorem Lm.c {f : Nat → Int} (h : Lm f) : ∀ i, i < 5 → 0 ≤ f i ∧ f i ≤ 9223372036854775808 := fun i hi => by have := h.b i hi; omega
theorem small_elem_calls (n : Int) (w : World) (h : 0 ≤ n ∧ n < 4294967296) : Calls Tryd.prog 49 #[.int .u32 n] w fun e w' => e = .returned (.agg (FR .u64 5 (smL n))) ∧ Below w.heap.size w w' := small_calls n w h.1 h.2
theorem smL_V (n : Int) : V51 (smL n) = n := by simp [V51, smL]
theorem smL_Lm (n : Int) (h : 0 ≤ n ∧ n < 4294967296) : Lm (smL n) := by
  refine ⟨fun i hi => ?_, ?_⟩
  · unfold smL; split <;> omega
  · unfold smL; rw [if_neg (by omega)]; omega
theorem small_ref (n : Int) (h : 0 ≤ n ∧ n < 4294967296) : CB (zM (fun i => if i = 0 then n else 0) 16) ∧ V16 (zM (fun i => if i = 0 then n else 0) 16) % PP = n % PP := by
  refine ⟨(carry_CB1 _ (fun j hj => by split <;> omega)).cb, ?_⟩
  rw [V16_carry_mod]
  congr 1
  simp [V16, val]
theorem dig_By (N : Int) : By (dig 256 N) := fun j _ => dig_b 256 (by omega) N j
theorem N32_dig (N : Int) (h : 0 ≤ N ∧ N < 256 ^ 32) : N32 (dig 256 N) = N := by
  unfold N32; rw [val_dig 256 (by omega), Int.emod_eq_of_lt h.1 h.2]
end Go.Proofs.YtbmnkchcekacfaaDoor.P.Fd
end

section
namespace Go.Proofs.YtbmnkchcekacfaaDoor.P.Fd
set_option linter.unusedVariables false
set_option linter.unusedSimpArgs false
set_option maxRecDepth 16384
open Go.RowKit Go.ChangeShapes Go.WideShapes Go.Proofs.YtbmnkchcekacfaaDoorW.PrintWords Go.Proofs.YtbmnkchcekacfaaDoorW.PrintLast Go.Proofs.YtbmnkchcekacfaaDoorW.PrintMore
attribute [local go_sem] setCell_drewN
attribute [local go_sem] setCell_drewN
theorem elem_is_bool (f g : Nat → Int) (hf : Lm f) (hg : Lm g) (r : Bool) (h : decide (V51 f % PP = V51 g % PP) = r) (w : World) : Calls Tryd.prog 53 #[.agg (FR .u64 5 f), .agg (FR .u64 5 g)] w fun e w' => e = .returned (.bool r) ∧ Below w.heap.size w w' := by
  rw [← h]; exact elem_is_calls f g w hf.c hg.c
def Fe (f : Nat → Int) (n : Int) : Prop := Lm f ∧ V51 f % PP = n % PP
def Rn (g : Nat → Int) : Prop := (∀ j, j < 16 → j ≠ 0 → 0 ≤ g j ∧ g j < 65536) ∧ (-100000 ≤ g 0 ∧ g 0 ≤ 200000)
def Re (g : Nat → Int) (n : Int) : Prop := Rn g ∧ V16 g % PP = n % PP
theorem mod_add {a b n m : Int} (h1 : a % PP = n % PP) (h2 : b % PP = m % PP) : (a + b) % PP = (n + m) % PP := by rw [Int.add_emod, h1, h2, ← Int.add_emod]
theorem mod_sub {a b n m : Int} (h1 : a % PP = n % PP) (h2 : b % PP = m % PP) : (a - b) % PP = (n - m) % PP := by rw [Int.sub_emod, h1, h2, ← Int.sub_emod]
theorem mod_mul {a b n m : Int} (h1 : a % PP = n % PP) (h2 : b % PP = m % PP) : (a * b) % PP = (n * m) % PP := by rw [Int.mul_emod, h1, h2, ← Int.mul_emod]
theorem Rn.b {g : Nat → Int} (h : Rn g) (j : Nat) (hj : j < 16) : -100000 ≤ g j ∧ g j ≤ 200000 := by
  by_cases h0 : j = 0
  · subst h0; exact h.2
  · have := h.1 j hj h0; omega
theorem Rn.cb {g : Nat → Int} (h : Rn g) : CB g := fun j hj => by have := h.b j hj; omega
theorem Rn.cb0 {g : Nat → Int} (h : Rn g) : CB0 g := fun j hj => by have := h.b j hj; omega
theorem D16.rn {g : Nat → Int} (h : D16 g) : Rn g := ⟨fun j hj _ => h j hj, by have := h 0 (by omega); omega⟩
theorem V16_small (f : Nat → Int) (hf : ∀ j, j < 16 → -400000 ≤ f j ∧ f j ≤ 400000) : -10 * QQ ≤ V16 f ∧ V16 f ≤ 10 * QQ := by
  rw [V16_eq]
  have h0 := hf 0 (by omega); have h1 := hf 1 (by omega); have h2 := hf 2 (by omega); have h3 := hf 3 (by omega)
  have h4 := hf 4 (by omega); have h5 := hf 5 (by omega); have h6 := hf 6 (by omega); have h7 := hf 7 (by omega)
  have h8 := hf 8 (by omega); have h9 := hf 9 (by omega); have h10 := hf 10 (by omega); have h11 := hf 11 (by omega)
  have h12 := hf 12 (by omega); have h13 := hf 13 (by omega); have h14 := hf 14 (by omega); have h15 := hf 15 (by omega)
  unfold QQ
  omega
theorem carry_Rn (f : Nat → Int) (hV : -10 * QQ ≤ V16 f ∧ V16 f ≤ 10 * QQ) : Rn (zM f 16) := by
  refine ⟨carry_digits f, ?_⟩
  rw [carry_zero]
  generalize V16 f = x at *
  unfold QQ at *
  omega
def addR (f g : Nat → Int) : Nat → Int := zM (fun i => f i + g i) 16
def subR (f g : Nat → Int) : Nat → Int := zM (fun i => f i - g i) 16
theorem addR_c (f g : Nat → Int) (w : World) (hf : Rn f) (hg : Rn g) : Calls Tryd.prog 61 #[.agg (FR .i64 16 f), .agg (FR .i64 16 g)] w fun e w' => e = .returned (.agg (FR .i64 16 (addR f g))) ∧ Below w.heap.size w w' := addR_calls f g w hf.cb0 hg.cb0
theorem subR_c (f g : Nat → Int) (w : World) (hf : Rn f) (hg : Rn g) : Calls Tryd.prog 60 #[.agg (FR .i64 16 f), .agg (FR .i64 16 g)] w fun e w' => e = .returned (.agg (FR .i64 16 (subR f g))) ∧ Below w.heap.size w w' := subR_calls f g w hf.cb0 hg.cb0
theorem Re.add {f g : Nat → Int} {n m : Int} (hf : Re f n) (hg : Re g m) : Re (addR f g) (n + m) := by
  refine ⟨carry_Rn _ (V16_small _ (fun j hj => by have := hf.1.b j hj; have := hg.1.b j hj; omega)), ?_⟩
  unfold addR
  rw [V16_carry_mod]
  have e : V16 (fun i => f i + g i) = V16 f + V16 g := val_add 65536 f g 16
  rw [e]; exact mod_add hf.2 hg.2
theorem Re.sub {f g : Nat → Int} {n m : Int} (hf : Re f n) (hg : Re g m) : Re (subR f g) (n - m) := by
  refine ⟨carry_Rn _ (V16_small _ (fun j hj => by have := hf.1.b j hj; have := hg.1.b j hj; omega)), ?_⟩
  unfold subR
  rw [V16_carry_mod]
  have e : V16 (fun i => f i - g i) = V16 f - V16 g := val_sub 65536 f g 16
  rw [e]; exact mod_sub hf.2 hg.2
theorem Re.num (b : Nat → Int) (hb : By b) : Re (numD b) (N32 b) := ⟨(numD_D b hb).rn, by rw [numD_V]⟩
theorem Re.zero : Re (fun _ => 0) 0 := ⟨⟨fun j _ _ => by show 0 ≤ (0 : Int) ∧ (0 : Int) < 65536; omega, by show -100000 ≤ (0 : Int) ∧ (0 : Int) ≤ 200000; omega⟩, by decide⟩
theorem Re.small (n : Int) (h : 0 ≤ n ∧ n < 4294967296) : Re (zM (fun i => if i = 0 then n else 0) 16) n := by
  have e : V16 (fun i => if i = 0 then n else 0) = n := by simp [V16, val]
  refine ⟨carry_Rn _ (by rw [e]; unfold QQ; omega), (small_ref n h).2⟩
def addE (f g : Nat → Int) : Nat → Int := carr (fun i => f i + g i)
def subM : Nat → Int
  | 0 => 9007199254740916
  | _ => 9007199254740988
def subE (f g : Nat → Int) : Nat → Int := carr (fun i => f i + (subM i - g i))
def negE (g : Nat → Int) : Nat → Int := carr (fun i => 0 + (subM i - g i))
theorem five_of {f : Nat → Int} (h : Lm f) : ∀ x ∈ [f 0, f 1, f 2, f 3, f 4], 0 ≤ x ∧ x < 4503599627370496 := by
  have h0 := h.b 0 (by omega); have h1 := h.b 1 (by omega); have h2 := h.b 2 (by omega); have h3 := h.b 3 (by omega); have h4 := h.b 4 (by omega)
  intro x hx
  simp only [List.mem_cons, List.not_mem_nil, or_false] at hx
  rcases hx with rfl | rfl | rfl | rfl | rfl <;> assumption
theorem addE_c (f g : Nat → Int) (w : World) (hf : Lm f) (hg : Lm g) : Calls Tryd.prog 51 #[.agg (FR .u64 5 f), .agg (FR .u64 5 g)] w fun e w' => e = .returned (.agg (FR .u64 5 (addE f g))) ∧ Below w.heap.size w w' := add_calls _ _ _ _ _ _ _ _ _ _ w (five_of hf) (five_of hg)
theorem subE_c (f g : Nat → Int) (w : World) (hf : Lm f) (hg : Lm g) : Calls Tryd.prog 50 #[.agg (FR .u64 5 f), .agg (FR .u64 5 g)] w fun e w' => e = .returned (.agg (FR .u64 5 (subE f g))) ∧ Below w.heap.size w w' := sub_calls _ _ _ _ _ _ _ _ _ _ w (five_of hf) (five_of hg)
theorem negE_c (g : Nat → Int) (w : World) (hg : Lm g) : Calls Tryd.prog 54 #[.agg (FR .u64 5 g)] w fun e w' => e = .returned (.agg (FR .u64 5 (negE g))) ∧ Below w.heap.size w w' := neg_calls _ _ _ _ _ w (five_of hg)
theorem Fe.add {f g : Nat → Int} {n m : Int} (hf : Fe f n) (hg : Fe g m) : Fe (addE f g) (n + m) := by
  refine ⟨carr_Lm _ (fun i hi => by have := hf.1.b i hi; have := hg.1.b i hi; omega), ?_⟩
  unfold addE
  rw [carr_mod]
  have e : V51 (fun i => f i + g i) = V51 f + V51 g := by unfold V51; dsimp only; omega
  rw [e]; exact mod_add hf.2 hg.2
theorem subM_V (f g : Nat → Int) : V51 (fun i => f i + (subM i - g i)) = V51 f - V51 g + PP * 4 := by
  unfold V51 PP
  simp only [subM]
  omega
theorem Fe.sub {f g : Nat → Int} {n m : Int} (hf : Fe f n) (hg : Fe g m) : Fe (subE f g) (n - m) := by
  refine ⟨carr_Lm _ (fun i hi => by have := hf.1.b i hi; have := hg.1.b i hi; unfold subM; split <;> omega), ?_⟩
  unfold subE
  rw [carr_mod, subM_V, Int.add_mul_emod_self_left]
  exact mod_sub hf.2 hg.2
theorem Fe.neg {g : Nat → Int} {m : Int} (hg : Fe g m) : Fe (negE g) (0 - m) := by
  refine ⟨carr_Lm _ (fun i hi => by have := hg.1.b i hi; unfold subM; split <;> omega), ?_⟩
  unfold negE
  rw [carr_mod, subM_V (fun _ => 0) g, Int.add_mul_emod_self_left]
  exact mod_sub (by decide) hg.2
theorem Fe.of (b : Nat → Int) (hb : By b) : Fe (carr (ofL b)) (N32 b) := ⟨of_Lm b hb, of_mod b hb⟩
theorem Fe.small (n : Int) (h : 0 ≤ n ∧ n < 4294967296) : Fe (smL n) n := ⟨smL_Lm n h, by rw [smL_V]⟩
theorem add64_run (x y c : Int) (hx : 0 ≤ x) (hy : 0 ≤ y) (hc0 : 0 ≤ c) (hc : c ≤ 1) (w : World) :
    (callFunc 71 #[.int .u64 x, .int .u64 y, .int .u64 c]).run Tryd.prog w = .ok (.value (.tuple #[.int .u64 ((x + y + c) % 18446744073709551616), .int .u64 ((x + y + c) / 18446744073709551616)])) w := by
  rw [run_callFunc_extern Tryd.func71 (by kernel_rfl) (by kernel_rfl) (by kernel_rfl) (e := add64Entry) (by kernel_rfl), run_add64 x y c hx hy hc0 hc]
  rfl
theorem mod32 (z : Int) : Go.bits .and .u64 (z % 18446744073709551616) 4294967295 = z % 18446744073709551616 % 4294967296 := by
  have h := and32 (z % 18446744073709551616).toNat (by omega)
  rw [Int.toNat_of_nonneg (by omega)] at h
  rw [h]; omega
theorem mul64_calls (x y : Nat) (hx : x < 18446744073709551616) (hy : y < 18446744073709551616) (w : World) :
    Calls Tryd.prog 87 #[.int .u64 (x : Int), .int .u64 (y : Int)] w fun e w' => e = .returned (.tuple #[.int .u64 ((x * y / 18446744073709551616 : Nat) : Int), .int .u64 ((x * y % 18446744073709551616 : Nat) : Int)]) ∧ w' = w := by
  obtain ⟨h1, h2, h3, h4⟩ := Lib.mul64_hi x y hx hy
  have a0 := and32 x hx
  have a1 := and32 y hy
  go_enter Tryd.func87, Tryd.ntmps87
  go_wp2_with fail
  go_ret2
  refine ⟨?_, rfl⟩
  show Ending.returned (Value.tuple #[_, _]) = _
  simp only [u64wm]
  have c1 : (x : Int) / 4294967296 * ((y : Int) / 4294967296) = ((x / 4294967296 * (y / 4294967296) : Nat) : Int) := by simp
  have c2 : (x : Int) / 4294967296 * ((y : Int) % 4294967296) = ((x / 4294967296 * (y % 4294967296) : Nat) : Int) := by simp
  have c3 : (x : Int) % 4294967296 * ((y : Int) / 4294967296) = ((x % 4294967296 * (y / 4294967296) : Nat) : Int) := by simp
  have c4 : (x : Int) % 4294967296 * ((y : Int) % 4294967296) = ((x % 4294967296 * (y % 4294967296) : Nat) : Int) := by simp
  have c5 : (x : Int) * (y : Int) = ((x * y : Nat) : Int) := by simp
  have hb : x * y / 18446744073709551616 < 18446744073709551616 := by
    rw [Nat.div_lt_iff_lt_mul (by omega)]
    exact Nat.mul_lt_mul_of_lt_of_lt hx hy
  rw [← h4] at hb
  rw [c1, c2, c3, c4, c5, ← h4]
  clear a0 a1 c1 c2 c3 c4 c5 h4
  generalize x / 4294967296 * (y / 4294967296) = A at *
  generalize x / 4294967296 * (y % 4294967296) = B at *
  generalize x % 4294967296 * (y / 4294967296) = C at *
  generalize x % 4294967296 * (y % 4294967296) = D at *
  rw [mod32]
  simp only [Array.getD_eq_getD_getElem?, List.getElem?_toArray, List.getElem?_cons_succ, List.getElem?_cons_zero, Option.getD_some, Ending.returned.injEq, Value.tuple.injEq, Array.mk.injEq, List.cons.injEq, Value.int.injEq, true_and, and_true]
  constructor
  · omega
  · omega
def tN (f g : Nat → Int) : Nat → Nat → Int
  | 0 => fun _ => 0
  | s + 1 => upd (tN f g s) (s / 16 + s % 16) (tN f g s (s / 16 + s % 16) + f (s / 16) * g (s % 16))
theorem tN_succ (f g : Nat → Int) (s : Nat) : tN f g (s + 1) = upd (tN f g s) (s / 16 + s % 16) (tN f g s (s / 16 + s % 16) + f (s / 16) * g (s % 16)) := rfl
theorem tN_step (f g : Nat → Int) (i k : Nat) (hk : k < 16) : tN f g (16 * i + (k + 1)) = upd (tN f g (16 * i + k)) (i + k) (tN f g (16 * i + k) (i + k) + f i * g k) := by
  have e1 : (16 * i + k) / 16 = i := by omega
  have e2 : (16 * i + k) % 16 = k := by omega
  have h := tN_succ f g (16 * i + k)
  rw [e1, e2] at h
  exact h
theorem prod_b {x y : Int} (hx : -100000 ≤ x ∧ x ≤ 200000) (hy : -100000 ≤ y ∧ y ≤ 200000) : -40000000000 ≤ x * y ∧ x * y ≤ 40000000000 := by
  have h1 : x.natAbs ≤ 200000 := by omega
  have h2 : y.natAbs ≤ 200000 := by omega
  have h3 : x.natAbs * y.natAbs ≤ 200000 * 200000 := Nat.mul_le_mul h1 h2
  have h4 : (x * y).natAbs = x.natAbs * y.natAbs := Int.natAbs_mul x y
  omega
theorem tN_b (f g : Nat → Int) (hf : Rn f) (hg : Rn g) : ∀ s : Nat, s ≤ 256 → ∀ j, - ((s : Int) * 40000000000) ≤ tN f g s j ∧ tN f g s j ≤ (s : Int) * 40000000000
  | 0, _, j => by simp [tN]
  | s + 1, hs, j => by
    have ih := tN_b f g hf hg s (by omega)
    have hp := prod_b (hf.b (s / 16) (by omega)) (hg.b (s % 16) (by omega))
    have h1 := ih j
    have h2 := ih (s / 16 + s % 16)
    rw [tN_succ]
    unfold upd
    split
    · constructor <;> push_cast <;> omega
    · constructor <;> push_cast <;> omega
theorem tN_val (f g : Nat → Int) : ∀ i, i ≤ 16 → ∀ k, k ≤ 16 → val 65536 (tN f g (16 * i + k)) 31 = val 65536 f i * val 65536 g 16 + f i * 65536 ^ i * val 65536 g k ∨ (i = 16 ∧ 0 < k) := by
  have row : ∀ i, i < 16 → val 65536 (tN f g (16 * i)) 31 = val 65536 f i * val 65536 g 16 → ∀ k, k ≤ 16 → val 65536 (tN f g (16 * i + k)) 31 = val 65536 f i * val 65536 g 16 + f i * 65536 ^ i * val 65536 g k := by
    intro i hi h0 k
    induction k with
    | zero => intro _; show val 65536 (tN f g (16 * i)) 31 = _; rw [h0]; simp [val]
    | succ k ih =>
      intro hk
      rw [tN_step f g i k (by omega), val_upd 65536 _ _ _ 31 (by omega), ih (by omega), val_succ 65536 g k, Int.pow_add]
      grind
  have col : ∀ i, i ≤ 16 → val 65536 (tN f g (16 * i)) 31 = val 65536 f i * val 65536 g 16 := by
    intro i
    induction i with
    | zero => intro _; show val 65536 (fun _ => 0) 31 = _; simp [val]
    | succ i ih =>
      intro hi
      have h := row i (by omega) (ih (by omega)) 16 (by omega)
      rw [show 16 * (i + 1) = 16 * i + 16 by omega, h, val_succ 65536 f i]
      grind
  intro i hi k hk
  by_cases h : i = 16
  · subst h
    rcases Nat.eq_zero_or_pos k with h0 | h0
    · subst h0
      left
      rw [show 16 * 16 + 0 = 16 * 16 by omega, col 16 (by omega)]
      simp [val]
    · right; exact ⟨rfl, h0⟩
  · left; exact row i (by omega) (col i (by omega)) k hk
def outR (f g : Nat → Int) (i : Nat) : Int := if i < 15 then tN f g 256 i + 38 * tN f g 256 (i + 16) else tN f g 256 i
def mulR (f g : Nat → Int) : Nat → Int := zM (zM (outR f g) 16) 16
theorem outR_V (f g : Nat → Int) : V16 (outR f g) % PP = (V16 f * V16 g) % PP := by
  have h := tN_val f g 16 (by omega) 0 (by omega)
  have h1 : val 65536 (tN f g 256) 31 = V16 f * V16 g := by
    rcases h with h | h
    · have e : val 65536 (tN f g 256) 31 = val 65536 f 16 * val 65536 g 16 + f 16 * 65536 ^ 16 * val 65536 g 0 := h
      rw [e]; show V16 f * V16 g + f 16 * 65536 ^ 16 * 0 = _; omega
    · omega
  have h2 := val_split 65536 (tN f g 256) 16 15
  have e1 : V16 (outR f g) = val 65536 (tN f g 256) 16 + 38 * val 65536 (fun j => tN f g 256 (16 + j)) 15 := by
    rw [V16_eq]
    simp only [outR, val, Nat.reduceLT, Nat.reduceAdd, ↓reduceIte, if_true, if_false]
    omega
  rw [e1, ← h1, h2, QQ_pow, QQ_PP]
  generalize val 65536 (tN f g 256) 16 = x
  generalize val 65536 (fun j => tN f g 256 (16 + j)) 15 = y
  rw [show x + (2 * PP + 38) * y = (x + 38 * y) + PP * (2 * y) by grind, Int.add_mul_emod_self_left]
theorem outR_b (f g : Nat → Int) (hf : Rn f) (hg : Rn g) : CB (outR f g) := fun j hj => by
  have h1 := tN_b f g hf hg 256 (by omega) j
  have h2 := tN_b f g hf hg 256 (by omega) (j + 16)
  unfold outR
  split <;> omega
theorem Re.mul {f g : Nat → Int} {n m : Int} (hf : Re f n) (hg : Re g m) : Re (mulR f g) (n * m) := by
  have h1 := carry_CB1 _ (outR_b f g hf.1 hg.1)
  have h2 := V16_b1 _ h1
  refine ⟨carry_Rn _ (by unfold QQ at *; omega), ?_⟩
  unfold mulR
  rw [V16_carry_mod, V16_carry_mod, outR_V]
  exact mod_mul hf.2 hg.2
attribute [local go_sem] setCell_drewN
def URel (w : World) (f g : Nat → Int) (i : Nat) (v7 : Value) (wr : World) : Prop :=
  ∃ k : Nat, k ≤ 16 ∧ v7 = .int .i64 (k : Int) ∧ Below w.heap.size w wr ∧ Row wr w.heap.size .i64 16 f 50 ∧ Row wr (w.heap.size + 1) .i64 16 g 50 ∧ Row wr (w.heap.size + 1 + 1) .i64 16 (fun _ => 0) 50 ∧ Row wr (w.heap.size + 1 + 1 + 1) .i64 31 (tN f g (16 * i + k)) 115
def TRel (w : World) (f g : Nat → Int) (v6 : Value) (wr : World) : Prop :=
  ∃ i : Nat, i ≤ 16 ∧ v6 = .int .i64 (i : Int) ∧ Below w.heap.size w wr ∧ Row wr w.heap.size .i64 16 f 50 ∧ Row wr (w.heap.size + 1) .i64 16 g 50 ∧ Row wr (w.heap.size + 1 + 1) .i64 16 (fun _ => 0) 50 ∧ Row wr (w.heap.size + 1 + 1 + 1) .i64 31 (tN f g (16 * i)) 115
def XRel (w : World) (f g : Nat → Int) (v9 : Value) (bo : Nat) (wr : World) : Prop :=
  ∃ i : Nat, i ≤ 16 ∧ v9 = .int .i64 (i : Int) ∧ Below w.heap.size w wr ∧ Row wr (w.heap.size + 1 + 1) .i64 16 (fun _ => 0) 50 ∧ Row wr (w.heap.size + 1 + 1 + 1) .i64 31 (tN f g 256) 115 ∧ Row wr bo .i64 16 (fun j => if j < i then outR f g j else 0) 50
theorem ij_nat (i k : Nat) : ((i : Int) + (k : Int)).toNat = i + k := by omega
theorem mul_wraps (i k : Nat) (hi : i < 16) (hk : k < 16) : wrap64 ((i : Int) + (k : Int)) = (i : Int) + (k : Int) ∧ IntKind.i64.wrap ((i : Int) + (k : Int)) = (i : Int) + (k : Int) := ⟨w64 _ (by omega), i64w _ (by omega)⟩
theorem mul_vals (f g : Nat → Int) (hf : Rn f) (hg : Rn g) (i k s : Nat) (hi : i < 16) (hk : k < 16) (hs : s ≤ 256) (j : Nat) : wrap64 (f i * g k) = f i * g k ∧ IntKind.i64.wrap (f i * g k) = f i * g k ∧ wrap64 (tN f g s j + f i * g k) = tN f g s j + f i * g k ∧ IntKind.i64.wrap (tN f g s j + f i * g k) = tN f g s j + f i * g k := by
  have h1 := prod_b (hf.b i hi) (hg.b k hk)
  have h2 := tN_b f g hf hg s hs j
  generalize f i * g k = x at *
  generalize tN f g s j = y at *
  exact ⟨w64 _ (by omega), i64w _ (by omega), w64 _ (by omega), i64w _ (by omega)⟩
theorem out_wraps (x y : Int) (hx : -((256 : Nat) : Int) * 40000000000 ≤ x ∧ x ≤ ((256 : Nat) : Int) * 40000000000) (hy : -((256 : Nat) : Int) * 40000000000 ≤ y ∧ y ≤ ((256 : Nat) : Int) * 40000000000) : wrap64 (38 * y) = 38 * y ∧ IntKind.i64.wrap (38 * y) = 38 * y ∧ wrap64 (x + 38 * y) = x + 38 * y ∧ IntKind.i64.wrap (x + 38 * y) = x + 38 * y := ⟨w64 _ (by omega), i64w _ (by omega), w64 _ (by omega), i64w _ (by omega)⟩
theorem mulR_c (f g : Nat → Int) (w : World) (hf : Rn f) (hg : Rn g) :
    Calls Tryd.prog 45 #[.agg (FR .i64 16 f), .agg (FR .i64 16 g)] w fun e w' => e = .returned (.agg (FR .i64 16 (mulR f g))) ∧ Below w.heap.size w w' := by
  have HF := Aside0.mk hf
  have HG := Aside0.mk hg
  have HO := Aside0.mk (outR_b f g hf hg)
  clear hf hg
  go_enter Tryd.func45, Tryd.ntmps45
  go_wp2_with fail
  have HB0 := Aside0.mk (bel_four w (.cells (FR .i64 16 f) 50) (.cells (FR .i64 16 g) 50) (.cells (FR .i64 16 fun _ => 0) 50) (.cells (FR .i64 31 fun _ => 0) 115))
  have HR0 : Aside0 (Row ((((w.alloc (.cells (FR .i64 16 f) 50)).alloc (.cells (FR .i64 16 g) 50)).alloc (.cells (FR .i64 16 fun _ => 0) 50)).alloc (.cells (FR .i64 31 fun _ => 0) 115)) w.heap.size .i64 16 f 50) := ⟨(((Row.new w .i64 16 f 50).alloc _).alloc _).alloc _⟩
  have HR1 : Aside0 (Row ((((w.alloc (.cells (FR .i64 16 f) 50)).alloc (.cells (FR .i64 16 g) 50)).alloc (.cells (FR .i64 16 fun _ => 0) 50)).alloc (.cells (FR .i64 31 fun _ => 0) 115)) (w.heap.size + 1) .i64 16 g 50) := ⟨Row.alloc (Row.alloc (show Row ((w.alloc (.cells (FR .i64 16 f) 50)).alloc (.cells (FR .i64 16 g) 50)) (w.heap.size + 1) .i64 16 g 50 from heap_alloc2_new w _ _) _) _⟩
  have HR2 : Aside0 (Row ((((w.alloc (.cells (FR .i64 16 f) 50)).alloc (.cells (FR .i64 16 g) 50)).alloc (.cells (FR .i64 16 fun _ => 0) 50)).alloc (.cells (FR .i64 31 fun _ => 0) 115)) (w.heap.size + 1 + 1) .i64 16 (fun _ => 0) 50) := ⟨Row.alloc (show Row (((w.alloc (.cells (FR .i64 16 f) 50)).alloc (.cells (FR .i64 16 g) 50)).alloc (.cells (FR .i64 16 fun _ => 0) 50)) (w.heap.size + 1 + 1) .i64 16 (fun _ => 0) 50 from three_new w _ _ _) _⟩
  have HR3 : Aside0 (Row ((((w.alloc (.cells (FR .i64 16 f) 50)).alloc (.cells (FR .i64 16 g) 50)).alloc (.cells (FR .i64 16 fun _ => 0) 50)).alloc (.cells (FR .i64 31 fun _ => 0) 115)) (w.heap.size + 1 + 1 + 1) .i64 31 (fun _ => 0) 115) := ⟨four_new w _ _ _ _⟩
  go_loopw [6] (fun v6 wr => TRel w f g v6 wr) (fun v _ => 16 - (intOf v).toNat)
  case atStart => exact ⟨0, by omega, rfl, HB0.out, HR0.out, HR1.out, HR2.out, row_eq HR3.out (fun j _ => by rw [Nat.mul_zero]; rfl)⟩
  case round =>
    clear HB0 HR0 HR1 HR2 HR3
    obtain ⟨i, hi, rfl, hb, hr, hg, hz, ht⟩ := hrel
    have HB := Aside0.mk hb
    have HR := Aside0.mk hr
    have HR2 := Aside0.mk hg
    have HZ := Aside0.mk hz
    have HT := Aside0.mk ht
    have hl1 := hr.lt
    have hl2 := hg.lt
    have hl3 := hz.lt
    have hl4 := ht.lt
    clear hb hr hg hz ht
    rcases Nat.lt_or_ge i 16 with h16 | h16
    · have hlt : ((i : Int) < 16) = True := eq_true (by omega)
      go_wp2_with fail
      go_loopw [7] (fun v7 wr => URel w f g i v7 wr) (fun v _ => 16 - (intOf v).toNat)
      case atStart => exact ⟨0, by omega, rfl, HB.out, HR.out, HR2.out, HZ.out, HT.out⟩
      case round =>
        clear HB HR HR2 HZ HT
        obtain ⟨k, hk, rfl, hb, hr, hg, hz, ht⟩ := hrel
        have HB := Aside0.mk hb
        have HR := Aside0.mk hr
        have HR2 := Aside0.mk hg
        have HZ := Aside0.mk hz
        have HT := Aside0.mk ht
        rcases Nat.lt_or_ge k 16 with h17 | h17
        · have hltk : ((k : Int) < 16) = True := eq_true (by omega)
          have hlt31 : ((i : Int) + (k : Int) < 31) = True := eq_true (by omega)
          have hij := ij_nat i k
          obtain ⟨q1, q2⟩ := mul_wraps i k h16 h17
          obtain ⟨q3, q4, q5, q6⟩ := mul_vals f g HF.out HG.out i k (16 * i + k) h16 h17 (by omega) (i + k)
          have k0 := hr.cell i (by omega)
          have k1 := hg.cell k (by omega)
          have k2 := ht.cell (i + k) (by omega)
          have f2 := ht.fro (i + k)
          have HS := Aside0.mk (ht.set (i + k) (tN f g (16 * i + k) (i + k) + f i * g k) (by omega))
          have HE := Aside0.mk (tN_step f g i k h17)
          clear hb hr hg hz ht
          go_wp2_with fail
          go_region
          all_goals go_wp2_with fail
          refine ⟨⟨k + 1, by omega, rfl, (yJ HB.out ⟨w.heap.size + 1 + 1 + 1, i + k, none⟩ _ (by simp; omega)).drew, HR.out.other ⟨w.heap.size + 1 + 1 + 1, i + k, none⟩ _ (by simp; omega), HR2.out.other ⟨w.heap.size + 1 + 1 + 1, i + k, none⟩ _ (by simp), HZ.out.other ⟨w.heap.size + 1 + 1 + 1, i + k, none⟩ _ (by simp), ?_⟩, meas_up 16 k (by omega)⟩
          rw [HE.out]
          exact HS.out
        · obtain rfl : k = 16 := by omega
          clear hb hr hg hz ht
          go_wp2_with fail
          exact ⟨⟨i + 1, by omega, rfl, HB.out, HR.out, HR2.out, HZ.out, HT.out⟩, meas_up 16 i (by omega)⟩
    · obtain rfl : i = 16 := by omega
      clear HR HR2
      have HN := Aside0.mk (Row.new wr .i64 16 (fun _ => 0) 50)
      have HZ2 := Aside0.mk (HZ.out.alloc (.cells (FR .i64 16 fun _ => 0) 50))
      have HT2 := Aside0.mk (HT.out.alloc (.cells (FR .i64 16 fun _ => 0) 50))
      have HB2 := Aside0.mk (HB.out.alloc (by omega) (.cells (FR .i64 16 fun _ => 0) 50))
      go_wp2_with fail
      have hbo : w.heap.size + 1 + 1 + 1 < wr.heap.size := hl4
      generalize wr.heap.size = bo at *
      go_loopw [9] (fun v9 wr' => XRel w f g v9 bo wr') (fun v _ => 16 - (intOf v).toNat)
      case atStart => exact ⟨0, by omega, rfl, HB2.out, HZ2.out, HT2.out, row_eq HN.out (fun j hj => (if_neg (by omega)).symm)⟩
      case round =>
        clear HN HZ2 HT2 HB2 HB HZ HT
        obtain ⟨i, hi, rfl, hb, hz, ht, ho⟩ := hrel
        have HB := Aside0.mk hb
        have HZ := Aside0.mk hz
        have HT := Aside0.mk ht
        have HO2 := Aside0.mk ho
        rcases Nat.lt_or_ge i 16 with h16 | h16
        · have hlt : ((i : Int) < 16) = True := eq_true (by omega)
          have hlt31 : ((i : Int) < 31) = True := eq_true (by omega)
          have k0 := ht.cell i (by omega)
          have f0 := ho.fro i
          have k2 := ho.cell i (by omega)
          have HS := Aside0.mk (ho.set i (tN f g 256 i) (by omega))
          have hs1 := ho.set i (tN f g 256 i) (by omega)
          have hb1 := tN_b f g HF.out HG.out 256 (by omega) i
          have hb2 := tN_b f g HF.out HG.out 256 (by omega) (i + 16)
          rcases Nat.lt_or_ge i 15 with h15 | h15
          · have hlt15 : ((i : Int) < 15) = True := eq_true (by omega)
            have hlt3 : ((i : Int) + 16 < 31) = True := eq_true (by omega)
            have k1 := ht.cell (i + 16) (by omega)
            have HE : Aside0 (outR f g i = tN f g 256 i + 38 * tN f g 256 (i + 16)) := ⟨if_pos h15⟩
            generalize tN f g 256 i = x at *
            generalize tN f g 256 (i + 16) = y at *
            have q1 : wrap64 ((i : Int) + 16) = (i : Int) + 16 := w64 _ (by omega)
            have q2 : IntKind.i64.wrap ((i : Int) + 16) = (i : Int) + 16 := i64w _ (by omega)
            have q3 : ((i : Int) + 16).toNat = i + 16 := by omega
            obtain ⟨r1, r2, r3, r4⟩ := out_wraps x y (by omega) (by omega)
            have HS2 := Aside0.mk (hs1.set i (x + 38 * y) (by omega))
            clear hb hz ht ho hs1 hb1 hb2
            go_wp2_with fail
            go_region
            all_goals go_wp2_with fail
            refine ⟨⟨i + 1, by omega, rfl, ?_, ?_, ?_, ?_⟩, meas_up 16 i (by omega)⟩
            · exact (yJ (yJ HB.out ⟨bo, i, none⟩ _ (by simp; omega)) ⟨bo, i, none⟩ _ (by simp; omega)).drew
            · exact (HZ.out.other ⟨bo, i, none⟩ _ (by simp; omega)).other ⟨bo, i, none⟩ _ (by simp; omega)
            · exact (HT.out.other ⟨bo, i, none⟩ _ (by simp; omega)).other ⟨bo, i, none⟩ _ (by simp; omega)
            · exact row_eq HS2.out (fun j hj => by
                unfold upd
                by_cases hji : j = i
                · subst hji; rw [if_pos rfl, if_pos (by omega), HE.out]
                · rw [if_neg hji, if_neg hji]
                  show (if j < i then outR f g j else 0) = _
                  by_cases hjl : j < i
                  · rw [if_pos hjl, if_pos (by omega)]
                  · rw [if_neg hjl, if_neg (by omega)])
          · obtain rfl : i = 15 := by omega
            have HE : Aside0 (outR f g 15 = tN f g 256 15) := ⟨if_neg (by omega)⟩
            generalize tN f g 256 15 = x at *
            clear hb hz ht ho hs1 hb1 hb2
            go_wp2_with fail
            refine ⟨⟨16, by omega, rfl, ?_, ?_, ?_, ?_⟩, by decide⟩
            · exact yJ HB.out ⟨bo, 15, none⟩ _ (by simp; omega)
            · exact HZ.out.other ⟨bo, 15, none⟩ _ (by simp; omega)
            · exact HT.out.other ⟨bo, 15, none⟩ _ (by simp; omega)
            · exact row_eq HS.out (fun j hj => by
                unfold upd
                by_cases hji : j = 15
                · subst hji; rw [if_pos rfl, if_pos (by omega), HE.out]
                · rw [if_neg hji]
                  show (if j < 15 then outR f g j else 0) = _
                  by_cases hjl : j < 15
                  · rw [if_pos hjl, if_pos (by omega)]
                  · omega)
        · obtain rfl : i = 16 := by omega
          have HO3 := Aside0.mk (row_eq HO2.out (f' := outR f g) (fun j hj => if_pos hj))
          have hlz := hz.lt
          clear hb hz ht ho HO2
          go_wp2_with (refine zX HO3.out Tryd.underlying50 info33 rfl rfl rfl rfl ?_)
          refine (carry_calls _ _ HO.out).mono ?_
          rintro e w1 ⟨rfl, hb⟩
          have HZ1 := Aside0.mk (HZ.out.below hb hlz)
          have HB1 := Aside0.mk (HB.out.trans (hb.mono HB.out.size))
          clear hb
          go_wp2_with fail
          refine (carry_calls _ _ (carry_CB1 _ HO.out).cb).mono ?_
          rintro e w2 ⟨rfl, hb⟩
          have HZ2 := Aside0.mk (HZ1.out.below hb HZ1.out.lt)
          have HB2 := Aside0.mk (HB1.out.trans (hb.mono HB1.out.size))
          clear hb
          go_wp2_with (refine zQ _ HZ2.out info33 rfl rfl rfl rfl rfl ?_; intro w9 hs hr; have HS9 := Aside0.mk hs; have HR9 := Aside0.mk hr; clear hs hr)
          refine bodyPost_ret (zY rfl HR9.out rfl Tryd.underlying50 rfl info33) rfl ?_
          exact ⟨rfl, HS9.out.bel _ _ (by omega) HB2.out⟩
attribute [local go_sem] setCell_drewN
def wd (W : Int) (i : Nat) : Int := if i = 0 then W / 18446744073709551616 else W % 18446744073709551616
theorem info62 : (Tryd.prog.info? 103).map (·.size) = some 2 := by kernel_rfl
theorem plus_calls (W : Int) (x y : Nat) (w : World) (hx : x < 18446744073709551616) (hy : y < 18446744073709551616) (hW : 0 ≤ W) (hs : W + (x : Int) * (y : Int) < 340282366920938463463374607431768211456) :
    Calls Tryd.prog 70 #[.agg (FR .u64 2 (wd W)), .int .u64 (x : Int), .int .u64 (y : Int)] w fun e w' => e = .returned (.agg (FR .u64 2 (wd (W + (x : Int) * (y : Int))))) ∧ Below w.heap.size w w' := by
  have HM := Aside0.mk (fun w => mul64_calls x y hx hy w)
  obtain ⟨H, hH⟩ : ∃ H, x * y / 18446744073709551616 = H := ⟨_, rfl⟩
  obtain ⟨L, hL⟩ : ∃ L, x * y % 18446744073709551616 = L := ⟨_, rfl⟩
  have hxy : (x : Int) * (y : Int) = ((x * y : Nat) : Int) := by simp
  rw [hxy] at hs ⊢
  rw [hH, hL] at HM
  have hsum : x * y = H * 18446744073709551616 + L := by omega
  have hLb : L < 18446744073709551616 := by omega
  rw [hsum] at hs ⊢
  clear hH hL hxy hsum
  have hw0 : wd W 0 = W / 18446744073709551616 := rfl
  have hw1 : wd W 1 = W % 18446744073709551616 := rfl
  have b0 : 0 ≤ wd W 0 ∧ wd W 0 < 18446744073709551616 := by omega
  have b1 : 0 ≤ wd W 1 ∧ wd W 1 < 18446744073709551616 := by omega
  have c1 := add64_run (wd W 1) (L : Int) 0 b1.1 (by omega) (by omega) (by omega)
  have c2 := add64_run (wd W 0) (H : Int) ((wd W 1 + (L : Int)) / 18446744073709551616) b0.1 (by omega) (by omega) (by omega)
  have HV : Aside0 (∀ i, i < 2 → (if i = 0 then (wd W 0 + (H : Int) + (wd W 1 + (L : Int)) / 18446744073709551616) % 18446744073709551616 else (wd W 1 + (L : Int)) % 18446744073709551616) = wd (W + ((H * 18446744073709551616 + L : Nat) : Int)) i) := ⟨fun i hi => by
    unfold wd
    split
    · subst_vars; rw [if_pos rfl, if_neg (by omega)]; omega
    · rw [if_neg (by omega)]; omega⟩
  have HR0 := Row.new w .u64 2 (wd W) 103
  have k0 := fun o => (HR0.alloc o).cell 0 (by omega)
  have k1 := fun o => (HR0.alloc o).cell 1 (by omega)
  clear hW hs b0 b1 hw0 hw1 HR0
  go_enter Tryd.func70, Tryd.ntmps70
  go_wp2_with fail
  refine (HM.out _).mono ?_
  rintro e w1 ⟨rfl, rfl⟩
  go_wp2_with fail
  have e : (#[.int .u64 ((wd W 0 + (H : Int) + (wd W 1 + (L : Int)) / 18446744073709551616) % 18446744073709551616), .int .u64 ((wd W 1 + (L : Int)) % 18446744073709551616)] : Array Value) = FR .u64 2 (wd (W + ((H * 18446744073709551616 + L : Nat) : Int))) := by
    rw [← FR_congr .u64 2 _ _ HV.out]; rfl
  rw [e]
  refine bodyPost_ret (zY rfl (heap_alloc2_new _ _ _) rfl Tryd.underlying103 rfl info62) rfl ?_
  exact ⟨rfl, bel_two _ _ _⟩
def xk (f : Nat → Int) (i k : Nat) : Int := if 5 ≤ i + k then f i * 19 else f i
def sN (f g : Nat → Int) : Nat → Nat → Int
  | 0 => fun _ => 0
  | s + 1 => upd (sN f g s) ((s / 5 + s % 5) % 5) (sN f g s ((s / 5 + s % 5) % 5) + xk f (s / 5) (s % 5) * g (s % 5))
theorem sN_succ (f g : Nat → Int) (s : Nat) : sN f g (s + 1) = upd (sN f g s) ((s / 5 + s % 5) % 5) (sN f g s ((s / 5 + s % 5) % 5) + xk f (s / 5) (s % 5) * g (s % 5)) := rfl
theorem sN_step (f g : Nat → Int) (i k : Nat) (hk : k < 5) : sN f g (5 * i + (k + 1)) = upd (sN f g (5 * i + k)) ((i + k) % 5) (sN f g (5 * i + k) ((i + k) % 5) + xk f i k * g k) := by
  have e1 : (5 * i + k) / 5 = i := by omega
  have e2 : (5 * i + k) % 5 = k := by omega
  have h := sN_succ f g (5 * i + k)
  rw [e1, e2] at h
  exact h
theorem xk_b {f : Nat → Int} (hf : Lm f) (i k : Nat) (hi : i < 5) : 0 ≤ xk f i k ∧ xk f i k ≤ 85568392920039424 := by
  have h := hf.b i hi
  unfold xk
  split <;> omega
theorem xprod_b {x y : Int} (hx : 0 ≤ x ∧ x ≤ 85568392920039424) (hy : 0 ≤ y ∧ y < 4503599627370496) : 0 ≤ x * y ∧ x * y ≤ 385365782469703125063557837455360 := by
  have h0 : 0 ≤ x * y := Int.mul_nonneg hx.1 hy.1
  have h1 : x * y ≤ 85568392920039424 * 4503599627370496 := Int.mul_le_mul hx.2 (by omega) hy.1 (by omega)
  omega
theorem sN_b (f g : Nat → Int) (hf : Lm f) (hg : Lm g) : ∀ s : Nat, s ≤ 25 → ∀ j, 0 ≤ sN f g s j ∧ sN f g s j ≤ (s : Int) * 385365782469703125063557837455360
  | 0, _, j => by simp [sN]
  | s + 1, hs, j => by
    have ih := sN_b f g hf hg s (by omega)
    have hp := xprod_b (xk_b hf (s / 5) (s % 5) (by omega)) (hg.b (s % 5) (by omega))
    have h1 := ih j
    have h2 := ih ((s / 5 + s % 5) % 5)
    rw [sN_succ]
    unfold upd
    split
    · constructor <;> push_cast <;> omega
    · constructor <;> push_cast <;> omega
theorem pow5 : (2251799813685248 : Int) ^ 5 = PP + 19 := by decide
theorem wrap_pow (x : Int) (n : Nat) : (x * 19 * 2251799813685248 ^ n) % PP = (x * 2251799813685248 ^ (n + 5)) % PP := by
  rw [Int.pow_add, pow5, show x * (2251799813685248 ^ n * (PP + 19)) = x * 19 * 2251799813685248 ^ n + PP * (x * 2251799813685248 ^ n) by grind, Int.add_mul_emod_self_left]
theorem xk_pow (f g : Nat → Int) (i k : Nat) (hi : i < 5) (hk : k < 5) : (xk f i k * g k * 2251799813685248 ^ ((i + k) % 5)) % PP = (f i * g k * 2251799813685248 ^ (i + k)) % PP := by
  unfold xk
  split
  · rename_i h
    obtain ⟨n, hn⟩ : ∃ n, i + k = n + 5 := ⟨i + k - 5, by omega⟩
    rw [show (i + k) % 5 = n by omega, hn, ← wrap_pow]
    congr 1; grind
  · rw [show (i + k) % 5 = i + k by omega]
theorem sN_val (f g : Nat → Int) : val 2251799813685248 (sN f g 25) 5 % PP = (V51 f * V51 g) % PP := by
  have row : ∀ i, i < 5 → val 2251799813685248 (sN f g (5 * i)) 5 % PP = (val 2251799813685248 f i * val 2251799813685248 g 5) % PP → ∀ k, k ≤ 5 → val 2251799813685248 (sN f g (5 * i + k)) 5 % PP = (val 2251799813685248 f i * val 2251799813685248 g 5 + f i * 2251799813685248 ^ i * val 2251799813685248 g k) % PP := by
    intro i hi h0 k
    induction k with
    | zero => intro _; show val 2251799813685248 (sN f g (5 * i)) 5 % PP = _; rw [h0]; simp [val]
    | succ k ih =>
      intro hk
      rw [sN_step f g i k (by omega), val_upd 2251799813685248 _ _ _ 5 (by omega), val_succ 2251799813685248 g k]
      rw [mod_add (ih (by omega)) (xk_pow f g i k hi (by omega)), Int.pow_add]
      congr 1; grind
  have col : ∀ i, i ≤ 5 → val 2251799813685248 (sN f g (5 * i)) 5 % PP = (val 2251799813685248 f i * val 2251799813685248 g 5) % PP := by
    intro i
    induction i with
    | zero => intro _; show val 2251799813685248 (fun _ => 0) 5 % PP = _; simp [val]
    | succ i ih =>
      intro hi
      have h := row i (by omega) (ih (by omega)) 5 (by omega)
      rw [show 5 * (i + 1) = 5 * i + 5 by omega, h, val_succ 2251799813685248 f i]
      congr 1; grind
  have h := col 5 (by omega)
  rw [V51_val, V51_val]
  exact h
def mc (f g : Nat → Int) (i : Nat) : Int := cy 2251799813685248 (sN f g 25) i
def mulL (f g : Nat → Int) (i : Nat) : Int := (sN f g 25 i + mc f g i) % 2251799813685248
def mulE (f g : Nat → Int) : Nat → Int := carr (upd (mulL f g) 0 (mulL f g 0 + 19 * mc f g 5))
theorem mc_succ (f g : Nat → Int) (i : Nat) : mc f g (i + 1) = (sN f g 25 i + mc f g i) / 2251799813685248 := rfl
theorem mc_b (f g : Nat → Int) (hf : Lm f) (hg : Lm g) : ∀ i, i ≤ 5 → 0 ≤ mc f g i ∧ mc f g i ≤ 9223372036854775808
  | 0, _ => by simp [mc, cy]
  | i + 1, hi => by
    have ih := mc_b f g hf hg i (by omega)
    have h := sN_b f g hf hg 25 (by omega) i
    rw [mc_succ]
    omega
theorem pb {x y : Int} (hx : 0 ≤ x ∧ x < 4503599627370496) (hy : 0 ≤ y ∧ y < 4503599627370496) : 0 ≤ x * y ∧ x * y ≤ 20282409603651670423947251286016 := by
  have h0 : 0 ≤ x * y := Int.mul_nonneg hx.1 hy.1
  have h1 : x * y ≤ 4503599627370496 * 4503599627370496 := Int.mul_le_mul (by omega) (by omega) hy.1 (by omega)
  omega
theorem sN_four (f g : Nat → Int) : sN f g 25 4 = f 0 * g 4 + f 1 * g 3 + f 2 * g 2 + f 3 * g 1 + f 4 * g 0 := by
  simp [sN, upd, xk]
theorem mc_five (f g : Nat → Int) (hf : Lm f) (hg : Lm g) : 0 ≤ mc f g 5 ∧ mc f g 5 ≤ 144115188075855872 := by
  have h4 := mc_b f g hf hg 4 (by omega)
  have e : mc f g 5 = (sN f g 25 4 + mc f g 4) / 2251799813685248 := rfl
  have p0 := pb (hf.b 0 (by omega)) (hg.b 4 (by omega))
  have p1 := pb (hf.b 1 (by omega)) (hg.b 3 (by omega))
  have p2 := pb (hf.b 2 (by omega)) (hg.b 2 (by omega))
  have p3 := pb (hf.b 3 (by omega)) (hg.b 1 (by omega))
  have p4 := pb (hf.b 4 (by omega)) (hg.b 0 (by omega))
  rw [e, sN_four]
  omega
theorem mulL_b (f g : Nat → Int) (i : Nat) : 0 ≤ mulL f g i ∧ mulL f g i < 2251799813685248 := by unfold mulL; omega
theorem mulS_b (f g : Nat → Int) (hf : Lm f) (hg : Lm g) : ∀ i, i < 5 → 0 ≤ upd (mulL f g) 0 (mulL f g 0 + 19 * mc f g 5) i ∧ upd (mulL f g) 0 (mulL f g 0 + 19 * mc f g 5) i ≤ 9223372036854775808 := by
  intro i hi
  have h5 := mc_five f g hf hg
  have h0 := mulL_b f g 0
  have h1 := mulL_b f g i
  unfold upd
  split <;> omega
theorem Fe.mul {f g : Nat → Int} {n m : Int} (hf : Fe f n) (hg : Fe g m) : Fe (mulE f g) (n * m) := by
  refine ⟨carr_Lm _ (mulS_b f g hf.1 hg.1), ?_⟩
  unfold mulE
  rw [carr_mod, V51_val, val_upd0]
  have h1 := cy_val 2251799813685248 (by omega) (sN f g 25) 5
  have h2 : val 2251799813685248 (mulL f g) 5 + mc f g 5 * 2251799813685248 ^ 5 = val 2251799813685248 (sN f g 25) 5 := h1
  have e : val 2251799813685248 (mulL f g) (4 + 1) = val 2251799813685248 (mulL f g) 5 := rfl
  rw [e]
  have h3 : val 2251799813685248 (mulL f g) 5 + (mulL f g 0 + 19 * mc f g 5 - mulL f g 0) = val 2251799813685248 (sN f g 25) 5 + PP * (- mc f g 5) := by
    rw [← h2, pow5]; grind
  rw [h3, Int.add_mul_emod_self_left, sN_val]
  exact mod_mul hf.2 hg.2
attribute [local go_sem] setCell_drewN
theorem tab2611 : rtab .any (opsOf Tryd.f39 11) = (true, [([], []), ([], []), ([0, 1], [0, 1]), ([2], [2]), ([], []), ([], []), ([4, 5], [4, 5]), ([6], [6]), ([7], [7]), ([8], [8]), ([], []), ([], []), ([], []), ([12, 11], [11, 12]), ([13], [13]), ([9, 10, 14], [9, 10, 14]), ([3, 0, 1, 2, 3, 4, 5, 6, 7, 8, 9, 10, 11, 12, 13, 14, 15], [3]), ([16, 15, 15, 0, 1, 2, 3, 4, 5, 6, 7, 8, 9, 10, 11, 12, 13, 14, 15], [15, 16])]) := by kernel_rfl
theorem bits2611 : zW [([], []), ([], []), ([0, 1], [0, 1]), ([2], [2]), ([], []), ([], []), ([4, 5], [4, 5]), ([6], [6]), ([7], [7]), ([8], [8]), ([], []), ([], []), ([], []), ([12, 11], [11, 12]), ([13], [13]), ([9, 10, 14], [9, 10, 14]), ([3, 0, 1, 2, 3, 4, 5, 6, 7, 8, 9, 10, 11, 12, 13, 14, 15], [3]), ([16, 15, 15, 0, 1, 2, 3, 4, 5, 6, 7, 8, 9, 10, 11, 12, 13, 14, 15], [15, 16])] [0, 0, 3, 7, 0, 0, 48, 112, 240, 496, 0, 0, 0, 6144, 14336, 32752, 65535, 131071] = true := by kernel_rfl
def sw (s : Nat → Int) (j : Nat) : Int := wd (s (j / 2)) (j % 2)
theorem exec_load2 {o : Oper} {ev : Operand → Value} {w : World} {x : Operand} {g off j : Nat} {s : Nat → Int} {t : TypeId} (hr : Row w g .u64 10 (sw s) t) (hj : j < 5) (hoff : off = 2 * j) (ho : o.op = .load 103 x) (hx : ev x = .pointer (some ⟨g, off, none⟩)) :
    (execOp ev o).run Tryd.prog w = .ok (.value (.agg (FR .u64 2 (wd (s j))))) w := by
  subst hoff
  have hl : (loadCells ⟨g, 2 * j, none⟩ 2).run Tryd.prog w = .ok ([.int .u64 (wd (s j) 0), .int .u64 (wd (s j) 1)] : List Value).toArray w :=
    run_loadCells_list (P := Tryd.prog) w ⟨g, 2 * j, none⟩ [.int .u64 (wd (s j) 0), .int .u64 (wd (s j) 1)] (fun k v hv => by
      have hadd : (⟨g, 2 * j, none⟩ : Addr).add k = ⟨g, 2 * j + k, none⟩ := by unfold Addr.add; split <;> simp_all
      rw [hadd]
      have hk : k = 0 ∨ k = 1 := by
        rcases Nat.lt_or_ge k 2 with h | h
        · omega
        · rw [List.getElem?_eq_none (by simp; omega)] at hv; cases hv
      rcases hk with rfl | rfl
      · rw [hr.cell (2 * j + 0) (by omega), ← hv]
        simp [sw, Nat.mul_div_cancel_left]
      · rw [hr.cell (2 * j + 1) (by omega), ← hv]
        have e1 : (2 * j + 1) / 2 = j := by omega
        have e2 : (2 * j + 1) % 2 = 1 := by omega
        simp [sw, e1, e2])
  have ha : (isAgg 103).run Tryd.prog w = .ok true w := by simp [isAgg, run_underlying Tryd.underlying103]
  obtain ⟨ie, hie, hs⟩ : ∃ ie, Tryd.prog.info? 103 = some ie ∧ ie.size = 2 := by
    have h := info62
    cases he : Tryd.prog.info? 103 with
    | none => rw [he] at h; cases h
    | some ie => rw [he] at h; exact ⟨ie, rfl, Option.some.inj h⟩
  have hti : (typeInfo 103).run Tryd.prog w = .ok ie w := by simp [typeInfo, hie]
  unfold execOp
  simp only [ho, hx, Instr.loadAt, Instr.sureAddr, Sem.run_bind, Sem.run_pure, Result.andThen_ok, loadVar, ha, sizeOf, hti, hs, hl, if_true]
  rfl
theorem sw_upd (s : Nat → Int) (j : Nat) (V : Int) (i : Nat) : upd (upd (sw s) (2 * j) (wd V 0)) (2 * j + 1) (wd V 1) i = sw (upd s j V) i := by
  unfold upd sw
  by_cases h1 : i = 2 * j + 1
  · subst h1
    rw [if_pos rfl, show (2 * j + 1) / 2 = j by omega, show (2 * j + 1) % 2 = 1 by omega]
    simp [upd]
  · rw [if_neg h1]
    by_cases h2 : i = 2 * j
    · subst h2
      rw [if_pos rfl, show (2 * j) / 2 = j by omega, show (2 * j) % 2 = 0 by omega]
      simp [upd]
    · rw [if_neg h2]
      have : i / 2 ≠ j := by omega
      simp [upd, this]
theorem oper_store2 {o : Oper} {ops : Array Oper} {a : Act} {w : World} {K : Act → World → Prop} {Q : Exit → Act → World → Prop} {x y : Operand} {g off j : Nat} {s : Nat → Int} {t : TypeId} (V : Int)
    (hr : Row w g .u64 10 (sw s) t) (hj : j < 5) (hoff : off = 2 * j) (hw : Region.wanted o (yielded ops a.tmps) = true) (hdst : o.dst = none) (ho : o.op = .store 103 x y) (hx : a.eval x = .pointer (some ⟨g, off, none⟩)) (hy : a.eval y = .agg (FR .u64 2 (wd V)))
    (h : ∀ w', Stored w w' g → Row w' g .u64 10 (sw (upd s j V)) t → K a w') : if Region.wanted o (yielded ops a.tmps) = true then Oper.wp Tryd.prog o a w K Q else K (a.put none undef) w := by
  subst hoff
  rw [if_pos hw]
  have hst := run_storeCells_cells (P := Tryd.prog) g (2 * j) [.int .u64 (wd V 0), .int .u64 (wd V 1)] 0 w
    (fun k hk => by
      have hk2 : k < 2 := hk
      rw [hr.cell (2 * j + 0 + k) (by omega)]; rfl)
    (fun k hk => hr.fro _)
    (fun v hv => by simp at hv; rcases hv with rfl | rfl <;> rfl)
  obtain ⟨ie, hie, hs⟩ : ∃ ie, Tryd.prog.info? 103 = some ie ∧ ie.size = 2 := by
    have h := info62
    cases he : Tryd.prog.info? 103 with
    | none => rw [he] at h; cases h
    | some ie => rw [he] at h; exact ⟨ie, rfl, Option.some.inj h⟩
  have hti : (typeInfo 103).run Tryd.prog w = .ok ie w := by simp [typeInfo, hie]
  have hsv : (storeVar 103 ⟨g, 2 * j, none⟩ (.agg (FR .u64 2 (wd V)))).run Tryd.prog w = .ok () (w.setCells g (2 * j + 0) [.int .u64 (wd V 0), .int .u64 (wd V 1)]) := by
    show (storeVar 103 ⟨g, 2 * j, none⟩ (.agg #[.int .u64 (wd V 0), .int .u64 (wd V 1)])).run Tryd.prog w = _
    simp [storeVar, Value.cells, sizeOf, hti, hs, Result.andThen]
    simpa using hst
  unfold Oper.wp execOp
  simp only [ho, hx, hy, Instr.storeAt, Instr.sureAddr, Sem.run_bind, Sem.run_pure, Result.andThen_ok, hsv]
  have hrow : Row (w.setCells g (2 * j + 0) [.int .u64 (wd V 0), .int .u64 (wd V 1)]) g .u64 10 (sw (upd s j V)) t :=
    row_eq ((hr.set (2 * j) (wd V 0) (by omega)).set (2 * j + 1) (wd V 1) (by omega)) (fun i hi => sw_upd s j V i)
  have := h _ ⟨fun k hk => setCells_other hk _ _ _, setCells_size g _ _ _, fun B W hB hb => yG hB _ _ _ hb⟩ hrow
  show K (a.put o.dst undef) _
  rw [hdst]
  exact this
theorem plus_c (W x y : Int) (w : World) (hx : 0 ≤ x ∧ x < 18446744073709551616) (hy : 0 ≤ y ∧ y < 18446744073709551616) (hW : 0 ≤ W) (hs : W + x * y < 340282366920938463463374607431768211456) :
    Calls Tryd.prog 70 #[.agg (FR .u64 2 (wd W)), .int .u64 x, .int .u64 y] w fun e w' => e = .returned (.agg (FR .u64 2 (wd (W + x * y)))) ∧ Below w.heap.size w w' := by
  obtain ⟨X, rfl⟩ := Int.eq_ofNat_of_zero_le hx.1
  obtain ⟨Y, rfl⟩ := Int.eq_ofNat_of_zero_le hy.1
  exact plus_calls W X Y w (by omega) (by omega) hW hs
def SRel2 (w : World) (f g : Nat → Int) (i : Nat) (v19 : Value) (wr : World) : Prop :=
  ∃ k : Nat, k ≤ 5 ∧ v19 = .int .i64 (k : Int) ∧ Below w.heap.size w wr ∧ Row wr w.heap.size .u64 5 f 40 ∧ Row wr (w.heap.size + 1) .u64 5 g 40 ∧ Row wr (w.heap.size + 1 + 1) .u64 5 (fun _ => 0) 40 ∧ Row wr (w.heap.size + 1 + 1 + 1) .u64 10 (sw (sN f g (5 * i + k))) 104
def SRel1 (w : World) (f g : Nat → Int) (v16 : Value) (wr : World) : Prop :=
  ∃ i : Nat, i ≤ 5 ∧ v16 = .int .i64 (i : Int) ∧ Below w.heap.size w wr ∧ Row wr w.heap.size .u64 5 f 40 ∧ Row wr (w.heap.size + 1) .u64 5 g 40 ∧ Row wr (w.heap.size + 1 + 1) .u64 5 (fun _ => 0) 40 ∧ Row wr (w.heap.size + 1 + 1 + 1) .u64 10 (sw (sN f g (5 * i))) 104
theorem ij_nat5 (i k : Nat) : ((i : Int) + (k : Int)).toNat = i + k := by omega
theorem bel_four5 (w : World) (a b c d : Obj) : Below w.heap.size w ((((w.alloc a).alloc b).alloc c).alloc d) := (bel_three w a b c).alloc (bel_three w a b c).size d
theorem four_new5 (w : World) (a b c d : Obj) : ((((w.alloc a).alloc b).alloc c).alloc d).heap[w.heap.size + 1 + 1 + 1]? = some d := by
  have h := heap_alloc_new (((w.alloc a).alloc b).alloc c) d
  have e : (((w.alloc a).alloc b).alloc c).heap.size = w.heap.size + 1 + 1 + 1 := by simp
  rwa [e] at h
theorem m5_wraps (i k : Nat) (hi : i < 5) (hk : k < 5) : wrap64 ((i : Int) + (k : Int)) = (i : Int) + (k : Int) ∧ IntKind.i64.wrap ((i : Int) + (k : Int)) = (i : Int) + (k : Int) ∧ Int.tmod ((i : Int) + (k : Int)) 5 = (((i + k) % 5 : Nat) : Int) := ⟨w64 _ (by omega), i64w _ (by omega), by rw [Int.tmod_eq_emod_of_nonneg (by omega)]; omega⟩
theorem sw_zero (f g : Nat → Int) (j : Nat) : (fun _ : Nat => (0 : Int)) j = sw (sN f g (5 * 0)) j := by
  show (0 : Int) = wd (sN f g 0 (j / 2)) (j % 2)
  show (0 : Int) = wd 0 (j % 2)
  unfold wd
  split <;> rfl
theorem or13 (x y : Int) (h0 : 0 ≤ x ∧ x < 2251799813685248) (h1 : 0 ≤ y ∧ y < 8192) : Go.bits .or .u64 (x * 8192) y = x * 8192 + y := by
  rw [u64_or _ _ (by omega) (by omega) (by omega) (by omega)]
  have e : (x * 8192).toNat ||| y.toNat = x.toNat * 2 ^ 13 + y.toNat := by
    have : (x * 8192).toNat = x.toNat * 2 ^ 13 := by omega
    rw [this, Nat.mul_comm, ← Nat.two_pow_add_eq_or_of_lt (by omega)]
  rw [e]
  omega
theorem index63 (s : Nat → Int) (i : Nat) (hi : i < 5) (w : World) : (Instr.index 104 (.agg (FR .u64 10 (sw s))) (.int .i64 (i : Int))).run Tryd.prog w = .ok (.agg (FR .u64 2 (wd (s i)))) w := by
  obtain ⟨ie, hie, hs⟩ : ∃ ie, Tryd.prog.info? 103 = some ie ∧ ie.size = 2 := by
    have h := info62
    cases he : Tryd.prog.info? 103 with
    | none => rw [he] at h; cases h
    | some ie => rw [he] at h; exact ⟨ie, rfl, Option.some.inj h⟩
  have h1 : (asIntOf (.int .i64 (i : Int))).run Tryd.prog w = .ok (IntKind.i64, (i : Int)) w := by simp [asIntOf]
  have hin : 0 ≤ (i : Int) ∧ (i : Int) < ((5 : Nat) : Int) := by omega
  have h3 : (typeInfo 103).run Tryd.prog w = .ok ie w := by simp [typeInfo, hie]
  have ha : (isAgg 103).run Tryd.prog w = .ok true w := by simp [isAgg, run_underlying Tryd.underlying103]
  have he : (FR .u64 10 (sw s)).extract (i * 2) (i * 2 + 2) = FR .u64 2 (wd (s i)) := by
    apply Array.ext_getElem?
    intro j
    rw [Array.getElem?_extract, FR_size]
    by_cases hj : j < 2
    · rw [if_pos (by omega), FR_at _ _ _ _ (by omega), FR_at _ _ _ _ hj]
      unfold sw
      rw [show (i * 2 + j) / 2 = i by omega, show (i * 2 + j) % 2 = j by omega]
    · rw [if_neg (by omega), FR_out _ _ _ _ hj]
  simp only [Instr.index, Sem.run_bind, h1, Result.andThen_ok, run_underlying Tryd.underlying104, if_pos hin, sizeOf, h3, hs, Sem.run_pure, Int.toNat_natCast, part, ha, he, if_true]
theorem info63 : (Tryd.prog.info? 104).map (·.size) = some 10 := by kernel_rfl
def ZRel3 (w : World) (f g : Nat → Int) (bl : Nat) (v52 v10 : Value) (wr : World) : Prop :=
  ∃ i : Nat, i ≤ 5 ∧ v52 = .int .i64 (i : Int) ∧ v10 = .int .u64 (mc f g i) ∧ Below w.heap.size w wr ∧ Row wr (w.heap.size + 1 + 1) .u64 5 (fun _ => 0) 40 ∧ Row wr bl .u64 5 (fun j => if j < i then mulL f g j else 0) 38
theorem zS (f g : Nat → Int) (w : World) (hf : Lm f) (hg : Lm g) :
    Calls Tryd.prog 39 #[.agg (FR .u64 5 f), .agg (FR .u64 5 g)] w fun e w' => e = .returned (.agg (FR .u64 5 (mulE f g))) ∧ Below w.heap.size w w' := by
  have HF := Aside0.mk hf
  have HG := Aside0.mk hg
  clear hf hg
  go_enter Tryd.func39, Tryd.ntmps39
  have HB0 := Aside0.mk (bel_four5 w (.cells (FR .u64 5 f) 40) (.cells (FR .u64 5 g) 40) (.cells (FR .u64 5 fun _ => 0) 40) (.cells (FR .u64 10 fun _ => 0) 104))
  have HR0 : Aside0 (Row ((((w.alloc (.cells (FR .u64 5 f) 40)).alloc (.cells (FR .u64 5 g) 40)).alloc (.cells (FR .u64 5 fun _ => 0) 40)).alloc (.cells (FR .u64 10 fun _ => 0) 104)) w.heap.size .u64 5 f 40) := ⟨(((Row.new w .u64 5 f 40).alloc _).alloc _).alloc _⟩
  have HR1 : Aside0 (Row ((((w.alloc (.cells (FR .u64 5 f) 40)).alloc (.cells (FR .u64 5 g) 40)).alloc (.cells (FR .u64 5 fun _ => 0) 40)).alloc (.cells (FR .u64 10 fun _ => 0) 104)) (w.heap.size + 1) .u64 5 g 40) := ⟨Row.alloc (Row.alloc (show Row ((w.alloc (.cells (FR .u64 5 f) 40)).alloc (.cells (FR .u64 5 g) 40)) (w.heap.size + 1) .u64 5 g 40 from heap_alloc2_new w _ _) _) _⟩
  have HR2 : Aside0 (Row ((((w.alloc (.cells (FR .u64 5 f) 40)).alloc (.cells (FR .u64 5 g) 40)).alloc (.cells (FR .u64 5 fun _ => 0) 40)).alloc (.cells (FR .u64 10 fun _ => 0) 104)) (w.heap.size + 1 + 1) .u64 5 (fun _ => 0) 40) := ⟨Row.alloc (show Row (((w.alloc (.cells (FR .u64 5 f) 40)).alloc (.cells (FR .u64 5 g) 40)).alloc (.cells (FR .u64 5 fun _ => 0) 40)) (w.heap.size + 1 + 1) .u64 5 (fun _ => 0) 40 from three_new w _ _ _) _⟩
  have HR3 : Aside0 (Row ((((w.alloc (.cells (FR .u64 5 f) 40)).alloc (.cells (FR .u64 5 g) 40)).alloc (.cells (FR .u64 5 fun _ => 0) 40)).alloc (.cells (FR .u64 10 fun _ => 0) 104)) (w.heap.size + 1 + 1 + 1) .u64 10 (fun _ => 0) 104) := ⟨four_new5 w _ _ _ _⟩
  go_wp2_with fail
  go_loopw [16] (fun v16 wr => SRel1 w f g v16 wr) (fun v _ => 5 - (intOf v).toNat)
  case atStart => exact ⟨0, by omega, rfl, HB0.out, HR0.out, HR1.out, HR2.out, row_eq HR3.out (fun j _ => sw_zero f g j)⟩
  case round =>
    clear HB0 HR0 HR1 HR2 HR3
    obtain ⟨i, hi, rfl, hb, hr, hg, hz, ht⟩ := hrel
    have HB := Aside0.mk hb
    have HR := Aside0.mk hr
    have HR2 := Aside0.mk hg
    have HZ := Aside0.mk hz
    have HT := Aside0.mk ht
    have hl1 := hr.lt
    have hl2 := hg.lt
    have hl3 := hz.lt
    have hl4 := ht.lt
    clear hb hr hg hz ht
    rcases Nat.lt_or_ge i 5 with h16 | h16
    · have hlt : ((i : Int) < 5) = True := eq_true (by omega)
      go_wp2_with fail
      go_loopw [19] (fun v19 wr => SRel2 w f g i v19 wr) (fun v _ => 5 - (intOf v).toNat)
      case atStart => exact ⟨0, by omega, rfl, HB.out, HR.out, HR2.out, HZ.out, HT.out⟩
      case round =>
        clear HB HR HR2 HZ HT
        obtain ⟨k, hk, rfl, hb, hr, hg, hz, ht⟩ := hrel
        have HB := Aside0.mk hb
        have HR := Aside0.mk hr
        have HR2 := Aside0.mk hg
        have HZ := Aside0.mk hz
        have HT := Aside0.mk ht
        rcases Nat.lt_or_ge k 5 with h17 | h17
        · have hltk : ((k : Int) < 5) = True := eq_true (by omega)
          have hij := ij_nat5 i k
          obtain ⟨q1, q2, q3⟩ := m5_wraps i k h16 h17
          have k0 := hr.cell i (by omega)
          have k1 := hg.cell k (by omega)
          have hj5 : (i + k) % 5 < 5 := by omega
          have hc5 : (((i : Int) + (k : Int)) % 5 < 5) = True := eq_true (by omega)
          have hc0 : (0 ≤ ((i : Int) + (k : Int)) % 5) = True := eq_true (by omega)
          have hcn : (((i : Int) + (k : Int)) % 5).toNat = (i + k) % 5 := by omega
          have hxb := xk_b HF.out i k h16
          have hsb := sN_b f g HF.out HG.out (5 * i + k) (by omega) ((i + k) % 5)
          have hpb := xprod_b hxb (HG.out.b k h17)
          have hgb := HG.out.b k h17
          have HP : Aside0 (∀ w, Calls Tryd.prog 70 #[.agg (FR .u64 2 (wd (sN f g (5 * i + k) ((i + k) % 5)))), .int .u64 (xk f i k), .int .u64 (g k)] w fun e w' => e = .returned (.agg (FR .u64 2 (wd (sN f g (5 * i + k) ((i + k) % 5) + xk f i k * g k)))) ∧ Below w.heap.size w w') := ⟨fun w => plus_c _ _ _ w (by omega) (by omega) (by omega) (by omega)⟩
          have HST := Aside0.mk (sN_step f g i k h17)
          clear hb hr hg hz ht hxb hsb hpb hgb
          rcases Nat.lt_or_ge (i + k) 5 with hik | hik
          · have hxk : xk f i k = f i := by unfold xk; rw [if_neg (by omega)]
            rw [hxk] at HP HST
            clear hxk
            have hge : ((i : Int) + (k : Int) ≥ 5) = False := eq_false (by omega)
            have hge2 : (5 ≤ (i : Int) + (k : Int)) = False := eq_false (by omega)
            go_wp2_with fail
            have hh : Row wr.drew (w.heap.size + 1) .u64 5 g 40 ∧ Row wr.drew (w.heap.size + 1 + 1 + 1) .u64 10 (sw (sN f g (5 * i + k))) 104 := ⟨HR2.out, HT.out⟩
            have HBd := Aside0.mk HB.out.drew
            have HRd : Aside0 (Row wr.drew w.heap.size .u64 5 f 40) := ⟨HR.out⟩
            have HZd : Aside0 (Row wr.drew (w.heap.size + 1 + 1) .u64 5 (fun _ => 0) 40) := ⟨HZ.out⟩
            refine start_ (n := 18) (S := (fun w' => Row w' (w.heap.size + 1) .u64 5 g 40 ∧ Row w' (w.heap.size + 1 + 1 + 1) .u64 10 (sw (sN f g (5 * i + k))) 104)) (ds := [17]) #[false, false, false, false, false, false, false, false, false, false, false, false, false, false, false, false, false, false] (by kernel_rfl) rfl rfl hh (fun hHeld => ?_); refine with_tabW tab2611 bits2611 (fun HT_ HW_ => ?_)
            generalize wr.drew = w6 at HBd hHeld hh HRd HZd ⊢
            clear hh
            refine pure_ (i := 0) (N := some 32) (v := ?_) (a' := ?_) #[true, false, false, false, false, false, false, false, false, false, false, false, false, false, false, false, false, false] rfl rfl (any_of HT_.out (by kernel_rfl)) (fun _ _ _ h => h) (Or.inl ⟨by rfl, ?_⟩) ?_ ?_
            rotate_left
            · intro w'
              go_simp
              with_reducible rfl
            rotate_left
            · simp only [Act.put, List.setIfInBounds_toArray, List.set_cons_zero, List.set_cons_succ, yF, yI]
              rfl
            refine pure_ (i := 1) (N := some 33) (v := ?_) (a' := ?_) #[true, true, false, false, false, false, false, false, false, false, false, false, false, false, false, false, false, false] rfl rfl (any_of HT_.out (by kernel_rfl)) (fun _ _ _ h => h) (Or.inl ⟨by rfl, ?_⟩) ?_ ?_
            rotate_left
            · intro w'
              go_simp
              with_reducible rfl
            rotate_left
            · simp only [Act.put, List.setIfInBounds_toArray, List.set_cons_zero, List.set_cons_succ, yF, yI]
              rfl
            refine pure_ (i := 2) (N := some 34) (v := ?_) (a' := ?_) #[true, true, true, false, false, false, false, false, false, false, false, false, false, false, false, false, false, false] rfl rfl (any_of HT_.out (by kernel_rfl)) (fun _ _ _ h => h) (Or.inl ⟨by rfl, ?_⟩) ?_ ?_
            rotate_left
            · intro w'
              go_simp
              with_reducible rfl
            rotate_left
            · simp only [Act.put, List.setIfInBounds_toArray, List.set_cons_zero, List.set_cons_succ, yF, yI]
              rfl
            refine pure_ (i := 3) (N := some 35) (v := ?_) (a' := ?_) #[true, true, true, true, false, false, false, false, false, false, false, false, false, false, false, false, false, false] rfl rfl (any_of HT_.out (by kernel_rfl)) (fun _ _ _ h => h) (Or.inl ⟨by rfl, ?_⟩) ?_ ?_
            rotate_left
            · intro w'
              go_simp
              with_reducible rfl
            rotate_left
            · simp only [Act.put, List.setIfInBounds_toArray, List.set_cons_zero, List.set_cons_succ, yF, yI]
              rfl
            refine pure_ (i := 4) (N := some 36) (v := ?_) (a' := ?_) #[true, true, true, true, true, false, false, false, false, false, false, false, false, false, false, false, false, false] rfl rfl (any_of HT_.out (by kernel_rfl)) (fun _ _ _ h => h) (Or.inl ⟨by rfl, ?_⟩) ?_ ?_
            rotate_left
            · intro w'
              go_simp
              with_reducible rfl
            rotate_left
            · simp only [Act.put, List.setIfInBounds_toArray, List.set_cons_zero, List.set_cons_succ, yF, yI]
              rfl
            refine pure_ (i := 5) (N := some 37) (v := ?_) (a' := ?_) #[true, true, true, true, true, true, false, false, false, false, false, false, false, false, false, false, false, false] rfl rfl (any_of HT_.out (by kernel_rfl)) (fun _ _ _ h => h) (Or.inl ⟨by rfl, ?_⟩) ?_ ?_
            rotate_left
            · intro w'
              go_simp
              with_reducible rfl
            rotate_left
            · simp only [Act.put, List.setIfInBounds_toArray, List.set_cons_zero, List.set_cons_succ, yF, yI]
              rfl
            refine pure_ (i := 6) (N := some 38) (v := ?_) (a' := ?_) #[true, true, true, true, true, true, true, false, false, false, false, false, false, false, false, false, false, false] rfl rfl (any_of HT_.out (by kernel_rfl)) (fun _ _ _ h => h) (Or.inl ⟨by rfl, ?_⟩) ?_ ?_
            rotate_left
            · intro w'
              go_simp
              with_reducible rfl
            rotate_left
            · simp only [Act.put, List.setIfInBounds_toArray, List.set_cons_zero, List.set_cons_succ, yF, yI]
              rfl
            refine pure_ (i := 7) (N := some 39) (v := ?_) (a' := ?_) #[true, true, true, true, true, true, true, true, false, false, false, false, false, false, false, false, false, false] rfl rfl (any_of HT_.out (by kernel_rfl)) (fun _ _ _ h => h) (Or.inl ⟨by rfl, ?_⟩) ?_ ?_
            rotate_left
            · intro w'
              go_simp
              with_reducible rfl
            rotate_left
            · simp only [Act.put, List.setIfInBounds_toArray, List.set_cons_zero, List.set_cons_succ, yF, yI]
              rfl
            refine pure_ (i := 10) (N := some 42) (v := ?_) (a' := ?_) #[true, true, true, true, true, true, true, true, false, false, true, false, false, false, false, false, false, false] rfl rfl (any_of HT_.out (by kernel_rfl)) (fun _ _ _ h => h) (Or.inl ⟨by rfl, ?_⟩) ?_ ?_
            rotate_left
            · intro w'
              go_simp
              with_reducible rfl
            rotate_left
            · simp only [Act.put, List.setIfInBounds_toArray, List.set_cons_zero, List.set_cons_succ, yF, yI]
              rfl
            refine pure_ (i := 11) (N := some 43) (v := ?_) (a' := ?_) #[true, true, true, true, true, true, true, true, false, false, true, true, false, false, false, false, false, false] rfl rfl (any_of HT_.out (by kernel_rfl)) (fun _ _ _ h => h) (Or.inl ⟨by rfl, ?_⟩) ?_ ?_
            rotate_left
            · intro w'
              go_simp
              with_reducible rfl
            rotate_left
            · simp only [Act.put, List.setIfInBounds_toArray, List.set_cons_zero, List.set_cons_succ, yF, yI]
              rfl
            refine take_ (i := 8) (N := some 40) (v := ?_) (a' := ?_) #[true, true, true, true, true, true, true, true, true, false, true, true, false, false, false, false, false, false] rfl rfl (take_ofW HT_.out HW_.out (by kernel_rfl)) (fun _ _ _ h => h) (Or.inl ⟨by rfl, ?_⟩) hHeld ?_ ?_
            rotate_left
            · intro w' hsw
              go_simp
              with_reducible rfl
            rotate_left
            · simp only [Act.put, List.setIfInBounds_toArray, List.set_cons_zero, List.set_cons_succ, yF, yI]
              rfl
            refine take_ (i := 9) (N := some 41) (v := ?_) (a' := ?_) #[true, true, true, true, true, true, true, true, true, true, true, true, false, false, false, false, false, false] rfl rfl (take_ofW HT_.out HW_.out (by kernel_rfl)) (fun _ _ _ h => h) (Or.inl ⟨by rfl, ?_⟩) hHeld ?_ ?_
            rotate_left
            · intro w' hsw
              refine exec_load2 (x := .tmp 40) (off := (i + k) % 5 * 2) hsw.2 hj5 (by omega) ?_ ?_ <;> rfl
            rotate_left
            · simp only [Act.put, List.setIfInBounds_toArray, List.set_cons_zero, List.set_cons_succ, yF, yI]
              rfl
            refine take_ (i := 12) (N := some 44) (v := ?_) (a' := ?_) #[true, true, true, true, true, true, true, true, true, true, true, true, true, false, false, false, false, false] rfl rfl (take_ofW HT_.out HW_.out (by kernel_rfl)) (fun _ _ _ h => h) (Or.inl ⟨by rfl, ?_⟩) hHeld ?_ ?_
            rotate_left
            · intro w' hsw
              go_simp
              with_reducible rfl
            rotate_left
            · simp only [Act.put, List.setIfInBounds_toArray, List.set_cons_zero, List.set_cons_succ, yF, yI]
              rfl
            refine take_ (i := 13) (N := some 45) (v := ?_) (a' := ?_) #[true, true, true, true, true, true, true, true, true, true, true, true, true, true, false, false, false, false] rfl rfl (take_ofW HT_.out HW_.out (by kernel_rfl)) (fun _ _ _ h => h) (Or.inl ⟨by rfl, ?_⟩) hHeld ?_ ?_
            rotate_left
            · intro w' hsw
              go_simp
              with_reducible rfl
            rotate_left
            · simp only [Act.put, List.setIfInBounds_toArray, List.set_cons_zero, List.set_cons_succ, yF, yI]
              rfl
            refine take_ (i := 14) (N := some 46) (v := ?_) (a' := ?_) #[true, true, true, true, true, true, true, true, true, true, true, true, true, true, true, false, false, false] rfl rfl (take_ofW HT_.out HW_.out (by kernel_rfl)) (fun _ _ _ h => h) (Or.inl ⟨by rfl, ?_⟩) hHeld ?_ ?_
            rotate_left
            · intro w' hsw
              have kg := hsw.1.cell k h17
              go_simp
              with_reducible rfl
            rotate_left
            · simp only [Act.put, List.setIfInBounds_toArray, List.set_cons_zero, List.set_cons_succ, yF, yI]
              rfl
            refine one_ (i := 15) (N := some 47) #[true, true, true, true, true, true, true, true, true, true, true, true, true, true, true, true, false, false] rfl rfl (one_of HT_.out (by kernel_rfl)) (by decide) (fun K hK => ?_)
            refine goes_ Tryd.func70 rfl rfl #[.agg (FR .u64 2 (wd (sN f g (5 * i + k) ((i + k) % 5)))), .int .u64 (f i), .int .u64 (g k)] rfl rfl rfl (by simp only [List.map_toArray, List.map_cons, List.map_nil]; rfl) ((HP.out _).mono ?_)
            rintro e wc1 ⟨rfl, hb⟩
            have hSn : Row wc1 (w.heap.size + 1) .u64 5 g 40 ∧ Row wc1 (w.heap.size + 1 + 1 + 1) .u64 10 (sw (sN f g (5 * i + k))) 104 := ⟨hHeld.1.below hb hHeld.1.lt, hHeld.2.below hb hHeld.2.lt⟩
            have HBc1 := Aside0.mk (HBd.out.trans (hb.mono HBd.out.size))
            have HRc := Aside0.mk (HRd.out.below hb HRd.out.lt)
            have HZc := Aside0.mk (HZd.out.below hb HZd.out.lt)
            clear hb
            refine ⟨_, rfl, hK.out _ _ hSn (fun hHeld => ?_)⟩
            clear hSn
            clear hK K
            refine norm_ (a' := ?_) ?_ ?_
            rotate_left
            · show Act.put _ (some 47) _ = _
              simp only [Act.put, List.setIfInBounds_toArray, List.set_cons_zero, List.set_cons_succ, yF, yI]
              rfl
            refine take_ (i := 16) (N := some 48) (v := ?_) (a' := ?_) #[true, true, true, true, true, true, true, true, true, true, true, true, true, true, true, true, true, false] rfl rfl (take_ofW HT_.out HW_.out (by kernel_rfl)) (fun _ _ _ h => h) (Or.inl ⟨by rfl, ?_⟩) hHeld ?_ ?_
            rotate_left
            · intro w' hsw
              go_simp
              with_reducible rfl
            rotate_left
            · simp only [Act.put, List.setIfInBounds_toArray, List.set_cons_zero, List.set_cons_succ, yF, yI]
              rfl
            refine last_ (i := 17) (N := none) #[true, true, true, true, true, true, true, true, true, true, true, true, true, true, true, true, true, true] rfl rfl (one_of HT_.out (by kernel_rfl)) (by decide) (fun K hK => ?_)
            refine oper_store2 (off := (i + k) % 5 * 2) (sN f g (5 * i + k) ((i + k) % 5) + (f i) * g k) hHeld.2 hj5 (by omega) rfl rfl rfl rfl rfl ?_
            intro wk hs hr
            have HTk := Aside0.mk hr
            have HGk := Aside0.mk (hHeld.1.stored hs (by omega))
            have HBk := Aside0.mk (hs.bel _ _ (by omega) HBc1.out)
            have HSk := Aside0.mk hs
            have hHc := hHeld
            clear hs hr
            refine hK.out _ _ ?_
            clear hK K
            refine done_ (done_of HT_.out (by kernel_rfl)) ?_
            try go_wp2
            refine ⟨⟨k + 1, by omega, rfl, HBk.out, HRc.out.stored HSk.out (by omega), HGk.out, HZc.out.stored HSk.out (by omega), ?_⟩, meas_up 5 k (by omega)⟩
            rw [HST.out]
            exact HTk.out
          · have hxk : xk f i k = f i * 19 := by unfold xk; rw [if_pos (by omega)]
            rw [hxk] at HP HST
            clear hxk
            have hfb := HF.out.b i h16
            have hw19 : IntKind.u64.wrap (f i * 19) = f i * 19 := u64w _ (by omega) (by omega)
            clear hfb
            have hge : ((i : Int) + (k : Int) ≥ 5) = True := eq_true (by omega)
            have hge2 : (5 ≤ (i : Int) + (k : Int)) = True := eq_true (by omega)
            go_wp2_with fail
            have hh : Row wr.drew (w.heap.size + 1) .u64 5 g 40 ∧ Row wr.drew (w.heap.size + 1 + 1 + 1) .u64 10 (sw (sN f g (5 * i + k))) 104 := ⟨HR2.out, HT.out⟩
            have HBd := Aside0.mk HB.out.drew
            have HRd : Aside0 (Row wr.drew w.heap.size .u64 5 f 40) := ⟨HR.out⟩
            have HZd : Aside0 (Row wr.drew (w.heap.size + 1 + 1) .u64 5 (fun _ => 0) 40) := ⟨HZ.out⟩
            refine start_ (n := 18) (S := (fun w' => Row w' (w.heap.size + 1) .u64 5 g 40 ∧ Row w' (w.heap.size + 1 + 1 + 1) .u64 10 (sw (sN f g (5 * i + k))) 104)) (ds := [17]) #[false, false, false, false, false, false, false, false, false, false, false, false, false, false, false, false, false, false] (by kernel_rfl) rfl rfl hh (fun hHeld => ?_); refine with_tabW tab2611 bits2611 (fun HT_ HW_ => ?_)
            generalize wr.drew = w6 at HBd hHeld hh HRd HZd ⊢
            clear hh
            refine pure_ (i := 0) (N := some 32) (v := ?_) (a' := ?_) #[true, false, false, false, false, false, false, false, false, false, false, false, false, false, false, false, false, false] rfl rfl (any_of HT_.out (by kernel_rfl)) (fun _ _ _ h => h) (Or.inl ⟨by rfl, ?_⟩) ?_ ?_
            rotate_left
            · intro w'
              go_simp
              with_reducible rfl
            rotate_left
            · simp only [Act.put, List.setIfInBounds_toArray, List.set_cons_zero, List.set_cons_succ, yF, yI]
              rfl
            refine pure_ (i := 1) (N := some 33) (v := ?_) (a' := ?_) #[true, true, false, false, false, false, false, false, false, false, false, false, false, false, false, false, false, false] rfl rfl (any_of HT_.out (by kernel_rfl)) (fun _ _ _ h => h) (Or.inl ⟨by rfl, ?_⟩) ?_ ?_
            rotate_left
            · intro w'
              go_simp
              with_reducible rfl
            rotate_left
            · simp only [Act.put, List.setIfInBounds_toArray, List.set_cons_zero, List.set_cons_succ, yF, yI]
              rfl
            refine pure_ (i := 2) (N := some 34) (v := ?_) (a' := ?_) #[true, true, true, false, false, false, false, false, false, false, false, false, false, false, false, false, false, false] rfl rfl (any_of HT_.out (by kernel_rfl)) (fun _ _ _ h => h) (Or.inl ⟨by rfl, ?_⟩) ?_ ?_
            rotate_left
            · intro w'
              go_simp
              with_reducible rfl
            rotate_left
            · simp only [Act.put, List.setIfInBounds_toArray, List.set_cons_zero, List.set_cons_succ, yF, yI]
              rfl
            refine pure_ (i := 3) (N := some 35) (v := ?_) (a' := ?_) #[true, true, true, true, false, false, false, false, false, false, false, false, false, false, false, false, false, false] rfl rfl (any_of HT_.out (by kernel_rfl)) (fun _ _ _ h => h) (Or.inl ⟨by rfl, ?_⟩) ?_ ?_
            rotate_left
            · intro w'
              go_simp
              with_reducible rfl
            rotate_left
            · simp only [Act.put, List.setIfInBounds_toArray, List.set_cons_zero, List.set_cons_succ, yF, yI]
              rfl
            refine pure_ (i := 4) (N := some 36) (v := ?_) (a' := ?_) #[true, true, true, true, true, false, false, false, false, false, false, false, false, false, false, false, false, false] rfl rfl (any_of HT_.out (by kernel_rfl)) (fun _ _ _ h => h) (Or.inl ⟨by rfl, ?_⟩) ?_ ?_
            rotate_left
            · intro w'
              go_simp
              with_reducible rfl
            rotate_left
            · simp only [Act.put, List.setIfInBounds_toArray, List.set_cons_zero, List.set_cons_succ, yF, yI]
              rfl
            refine pure_ (i := 5) (N := some 37) (v := ?_) (a' := ?_) #[true, true, true, true, true, true, false, false, false, false, false, false, false, false, false, false, false, false] rfl rfl (any_of HT_.out (by kernel_rfl)) (fun _ _ _ h => h) (Or.inl ⟨by rfl, ?_⟩) ?_ ?_
            rotate_left
            · intro w'
              go_simp
              with_reducible rfl
            rotate_left
            · simp only [Act.put, List.setIfInBounds_toArray, List.set_cons_zero, List.set_cons_succ, yF, yI]
              rfl
            refine pure_ (i := 6) (N := some 38) (v := ?_) (a' := ?_) #[true, true, true, true, true, true, true, false, false, false, false, false, false, false, false, false, false, false] rfl rfl (any_of HT_.out (by kernel_rfl)) (fun _ _ _ h => h) (Or.inl ⟨by rfl, ?_⟩) ?_ ?_
            rotate_left
            · intro w'
              go_simp
              with_reducible rfl
            rotate_left
            · simp only [Act.put, List.setIfInBounds_toArray, List.set_cons_zero, List.set_cons_succ, yF, yI]
              rfl
            refine pure_ (i := 7) (N := some 39) (v := ?_) (a' := ?_) #[true, true, true, true, true, true, true, true, false, false, false, false, false, false, false, false, false, false] rfl rfl (any_of HT_.out (by kernel_rfl)) (fun _ _ _ h => h) (Or.inl ⟨by rfl, ?_⟩) ?_ ?_
            rotate_left
            · intro w'
              go_simp
              with_reducible rfl
            rotate_left
            · simp only [Act.put, List.setIfInBounds_toArray, List.set_cons_zero, List.set_cons_succ, yF, yI]
              rfl
            refine pure_ (i := 10) (N := some 42) (v := ?_) (a' := ?_) #[true, true, true, true, true, true, true, true, false, false, true, false, false, false, false, false, false, false] rfl rfl (any_of HT_.out (by kernel_rfl)) (fun _ _ _ h => h) (Or.inl ⟨by rfl, ?_⟩) ?_ ?_
            rotate_left
            · intro w'
              go_simp
              with_reducible rfl
            rotate_left
            · simp only [Act.put, List.setIfInBounds_toArray, List.set_cons_zero, List.set_cons_succ, yF, yI]
              rfl
            refine pure_ (i := 11) (N := some 43) (v := ?_) (a' := ?_) #[true, true, true, true, true, true, true, true, false, false, true, true, false, false, false, false, false, false] rfl rfl (any_of HT_.out (by kernel_rfl)) (fun _ _ _ h => h) (Or.inl ⟨by rfl, ?_⟩) ?_ ?_
            rotate_left
            · intro w'
              go_simp
              with_reducible rfl
            rotate_left
            · simp only [Act.put, List.setIfInBounds_toArray, List.set_cons_zero, List.set_cons_succ, yF, yI]
              rfl
            refine take_ (i := 8) (N := some 40) (v := ?_) (a' := ?_) #[true, true, true, true, true, true, true, true, true, false, true, true, false, false, false, false, false, false] rfl rfl (take_ofW HT_.out HW_.out (by kernel_rfl)) (fun _ _ _ h => h) (Or.inl ⟨by rfl, ?_⟩) hHeld ?_ ?_
            rotate_left
            · intro w' hsw
              go_simp
              with_reducible rfl
            rotate_left
            · simp only [Act.put, List.setIfInBounds_toArray, List.set_cons_zero, List.set_cons_succ, yF, yI]
              rfl
            refine take_ (i := 9) (N := some 41) (v := ?_) (a' := ?_) #[true, true, true, true, true, true, true, true, true, true, true, true, false, false, false, false, false, false] rfl rfl (take_ofW HT_.out HW_.out (by kernel_rfl)) (fun _ _ _ h => h) (Or.inl ⟨by rfl, ?_⟩) hHeld ?_ ?_
            rotate_left
            · intro w' hsw
              refine exec_load2 (x := .tmp 40) (off := (i + k) % 5 * 2) hsw.2 hj5 (by omega) ?_ ?_ <;> rfl
            rotate_left
            · simp only [Act.put, List.setIfInBounds_toArray, List.set_cons_zero, List.set_cons_succ, yF, yI]
              rfl
            refine take_ (i := 12) (N := some 44) (v := ?_) (a' := ?_) #[true, true, true, true, true, true, true, true, true, true, true, true, true, false, false, false, false, false] rfl rfl (take_ofW HT_.out HW_.out (by kernel_rfl)) (fun _ _ _ h => h) (Or.inl ⟨by rfl, ?_⟩) hHeld ?_ ?_
            rotate_left
            · intro w' hsw
              go_simp
              with_reducible rfl
            rotate_left
            · simp only [Act.put, List.setIfInBounds_toArray, List.set_cons_zero, List.set_cons_succ, yF, yI]
              rfl
            refine take_ (i := 13) (N := some 45) (v := ?_) (a' := ?_) #[true, true, true, true, true, true, true, true, true, true, true, true, true, true, false, false, false, false] rfl rfl (take_ofW HT_.out HW_.out (by kernel_rfl)) (fun _ _ _ h => h) (Or.inl ⟨by rfl, ?_⟩) hHeld ?_ ?_
            rotate_left
            · intro w' hsw
              go_simp
              with_reducible rfl
            rotate_left
            · simp only [Act.put, List.setIfInBounds_toArray, List.set_cons_zero, List.set_cons_succ, yF, yI]
              rfl
            refine take_ (i := 14) (N := some 46) (v := ?_) (a' := ?_) #[true, true, true, true, true, true, true, true, true, true, true, true, true, true, true, false, false, false] rfl rfl (take_ofW HT_.out HW_.out (by kernel_rfl)) (fun _ _ _ h => h) (Or.inl ⟨by rfl, ?_⟩) hHeld ?_ ?_
            rotate_left
            · intro w' hsw
              have kg := hsw.1.cell k h17
              go_simp
              with_reducible rfl
            rotate_left
            · simp only [Act.put, List.setIfInBounds_toArray, List.set_cons_zero, List.set_cons_succ, yF, yI]
              rfl
            refine one_ (i := 15) (N := some 47) #[true, true, true, true, true, true, true, true, true, true, true, true, true, true, true, true, false, false] rfl rfl (one_of HT_.out (by kernel_rfl)) (by decide) (fun K hK => ?_)
            refine goes_ Tryd.func70 rfl rfl #[.agg (FR .u64 2 (wd (sN f g (5 * i + k) ((i + k) % 5)))), .int .u64 (f i * 19), .int .u64 (g k)] rfl rfl rfl (by simp only [List.map_toArray, List.map_cons, List.map_nil]; rfl) ((HP.out _).mono ?_)
            rintro e wc1 ⟨rfl, hb⟩
            have hSn : Row wc1 (w.heap.size + 1) .u64 5 g 40 ∧ Row wc1 (w.heap.size + 1 + 1 + 1) .u64 10 (sw (sN f g (5 * i + k))) 104 := ⟨hHeld.1.below hb hHeld.1.lt, hHeld.2.below hb hHeld.2.lt⟩
            have HBc1 := Aside0.mk (HBd.out.trans (hb.mono HBd.out.size))
            have HRc := Aside0.mk (HRd.out.below hb HRd.out.lt)
            have HZc := Aside0.mk (HZd.out.below hb HZd.out.lt)
            clear hb
            refine ⟨_, rfl, hK.out _ _ hSn (fun hHeld => ?_)⟩
            clear hSn
            clear hK K
            refine norm_ (a' := ?_) ?_ ?_
            rotate_left
            · show Act.put _ (some 47) _ = _
              simp only [Act.put, List.setIfInBounds_toArray, List.set_cons_zero, List.set_cons_succ, yF, yI]
              rfl
            refine take_ (i := 16) (N := some 48) (v := ?_) (a' := ?_) #[true, true, true, true, true, true, true, true, true, true, true, true, true, true, true, true, true, false] rfl rfl (take_ofW HT_.out HW_.out (by kernel_rfl)) (fun _ _ _ h => h) (Or.inl ⟨by rfl, ?_⟩) hHeld ?_ ?_
            rotate_left
            · intro w' hsw
              go_simp
              with_reducible rfl
            rotate_left
            · simp only [Act.put, List.setIfInBounds_toArray, List.set_cons_zero, List.set_cons_succ, yF, yI]
              rfl
            refine last_ (i := 17) (N := none) #[true, true, true, true, true, true, true, true, true, true, true, true, true, true, true, true, true, true] rfl rfl (one_of HT_.out (by kernel_rfl)) (by decide) (fun K hK => ?_)
            refine oper_store2 (off := (i + k) % 5 * 2) (sN f g (5 * i + k) ((i + k) % 5) + (f i * 19) * g k) hHeld.2 hj5 (by omega) rfl rfl rfl rfl rfl ?_
            intro wk hs hr
            have HTk := Aside0.mk hr
            have HGk := Aside0.mk (hHeld.1.stored hs (by omega))
            have HBk := Aside0.mk (hs.bel _ _ (by omega) HBc1.out)
            have HSk := Aside0.mk hs
            have hHc := hHeld
            clear hs hr
            refine hK.out _ _ ?_
            clear hK K
            refine done_ (done_of HT_.out (by kernel_rfl)) ?_
            try go_wp2
            refine ⟨⟨k + 1, by omega, rfl, HBk.out, HRc.out.stored HSk.out (by omega), HGk.out, HZc.out.stored HSk.out (by omega), ?_⟩, meas_up 5 k (by omega)⟩
            rw [HST.out]
            exact HTk.out
        · obtain rfl : k = 5 := by omega
          clear hb hr hg hz ht
          go_wp2_with fail
          exact ⟨⟨i + 1, by omega, rfl, HB.out, HR.out, HR2.out, HZ.out, HT.out⟩, meas_up 5 i (by omega)⟩
    · obtain rfl : i = 5 := by omega
      have hbo : w.heap.size + 1 + 1 + 1 < wr.heap.size := hl4
      have HN := Aside0.mk (Row.new wr .u64 5 (fun _ => 0) 38)
      have HZ2 := Aside0.mk (HZ.out.alloc (.cells (FR .u64 5 fun _ => 0) 38))
      have HT2 := Aside0.mk (HT.out.alloc (.cells (FR .u64 5 fun _ => 0) 38))
      have HB2 := Aside0.mk (HB.out.alloc (by omega) (.cells (FR .u64 5 fun _ => 0) 38))
      clear HR HR2
      go_wp2_with (refine zX HT2.out Tryd.underlying104 info63 rfl rfl rfl rfl ?_)
      generalize wr.heap.size = bl at *
      go_loopw [52, 10] (fun v52 v10 wr' => ZRel3 w f g bl v52 v10 wr') (fun v _ _ => 5 - (intOf v).toNat)
      case atStart => exact ⟨0, by omega, rfl, rfl, HB2.out, HZ2.out, row_eq HN.out (fun j hj => (if_neg (by omega)).symm)⟩
      case round =>
        clear HN HZ2 HT2 HB2 HB HZ HT
        obtain ⟨i, hi, rfl, rfl, hb, hz, ho⟩ := hrel
        have HB := Aside0.mk hb
        have HZ := Aside0.mk hz
        have HO2 := Aside0.mk ho
        have hlz := hz.lt
        have hlo := ho.lt
        clear hb hz ho
        rcases Nat.lt_or_ge i 5 with h5 | h5
        · have hlt : ((i : Int) < 5) = True := eq_true (by omega)
          have hix := index63 (sN f g 25) i h5
          have hix2 : ∀ w, (Instr.index 104 (.agg (FR .u64 10 (sw (sN f g (5 * 5))))) (.int .i64 (i : Int))).run Tryd.prog w = .ok (.agg (FR .u64 2 (wd (sN f g 25 i)))) w := hix
          have hcb := mc_b f g HF.out HG.out i (by omega)
          have hsb := sN_b f g HF.out HG.out 25 (by omega) i
          have HMS := Aside0.mk (mc_succ f g i)
          have HML : Aside0 (mulL f g i = (sN f g 25 i + mc f g i) % 2251799813685248) := ⟨rfl⟩
          generalize hSe : sN f g 25 i = S at *
          generalize hce : mc f g i = c at *
          have hw0 : wd S 0 = S / 18446744073709551616 := rfl
          have hw1 : wd S 1 = S % 18446744073709551616 := rfl
          have c1 := add64_run (wd S 1) c 0 (by omega) (by omega) (by omega) (by omega)
          have e1 : (wd S 1 + c) % 18446744073709551616 = (S + c) % 18446744073709551616 := by omega
          have e2 : IntKind.u64.wrap (wd S 0 + (wd S 1 + c) / 18446744073709551616) = (S + c) / 18446744073709551616 := by rw [u64w _ (by omega) (by omega)]; omega
          have m1 := mask51 ((S + c) % 18446744073709551616) (by omega) (by omega)
          have e3 : IntKind.u64.wrap ((S + c) / 18446744073709551616 * 8192) = (S + c) / 18446744073709551616 * 8192 := u64w _ (by omega) (by omega)
          have e4 := or13 ((S + c) / 18446744073709551616) ((S + c) % 18446744073709551616 / 2251799813685248) (by omega) (by omega)
          have HE5 : Aside0 ((S + c) / 18446744073709551616 * 8192 + (S + c) % 18446744073709551616 / 2251799813685248 = (S + c) / 2251799813685248) := ⟨by omega⟩
          have HE6 : Aside0 ((S + c) % 18446744073709551616 % 2251799813685248 = (S + c) % 2251799813685248) := ⟨by omega⟩
          clear hcb hsb hw0 hw1 hSe hce hix
          have HNw := Aside0.mk (Row.new wr .u64 2 (fun _ => 0) 103)
          have HZa := Aside0.mk (HZ.out.alloc (.cells (FR .u64 2 fun _ => 0) 103))
          have HOa := Aside0.mk (HO2.out.alloc (.cells (FR .u64 2 fun _ => 0) 103))
          have HBa := Aside0.mk (HB.out.alloc (by omega) (.cells (FR .u64 2 fun _ => 0) 103))
          go_wp2_with (refine zQ (wd S) HNw.out info62 rfl rfl rfl rfl rfl ?_; intro w9 hs hr; have HS9 := Aside0.mk hs; have kk0 := hr.cell 0 (by omega); have kk1 := hr.cell 1 (by omega); have ho9 := HOa.out.stored hs (by omega); have HO9 := Aside0.mk ho9; have fi := ho9.fro i; have ki := ho9.cell i (by omega); clear hs hr ho9)
          have HB9 := Aside0.mk (HS9.out.bel _ _ (by omega) HBa.out)
          have HZ9 := Aside0.mk (HZa.out.stored HS9.out (by omega))
          refine ⟨⟨i + 1, by omega, rfl, by rw [HE5.out, HMS.out], yJ HB9.out ⟨bl, i, none⟩ _ (by simp; omega), HZ9.out.other ⟨bl, i, none⟩ _ (by simp; omega), ?_⟩, meas_up 5 i (by omega)⟩
          rw [← HML.out]
          exact part_step (F := mulL f g) (a := ⟨0, 0, none⟩) HO9.out h5
        · obtain rfl : i = 5 := by omega
          have HO3 := row_eq HO2.out (f' := mulL f g) (fun j hj => if_pos hj)
          have k0 := HO3.cell 0 (by omega)
          have f0 := HO3.fro 0
          have HSB := Aside0.mk (mulS_b f g HF.out HG.out)
          have h5c := mc_five f g HF.out HG.out
          have hb0 := mulL_b f g 0
          have q1 : IntKind.u64.wrap (19 * mc f g 5) = 19 * mc f g 5 := u64w _ (by omega) (by omega)
          have q2 : IntKind.u64.wrap (mulL f g 0 + 19 * mc f g 5) = mulL f g 0 + 19 * mc f g 5 := u64w _ (by omega) (by omega)
          have HRS := Aside0.mk (HO3.set 0 (mulL f g 0 + 19 * mc f g 5) (by omega))
          have HBS := Aside0.mk (yJ HB.out ⟨bl, 0, none⟩ (.int .u64 (mulL f g 0 + 19 * mc f g 5)) (by simp; omega))
          have HZS := Aside0.mk (HZ.out.other ⟨bl, 0, none⟩ (.int .u64 (mulL f g 0 + 19 * mc f g 5)) (by simp; omega))
          clear h5c hb0 HO2 HO3 HB HZ
          go_wp2_with (refine zX HRS.out Tryd.underlying38 info25 rfl rfl rfl rfl ?_)
          refine (carr_calls _ _ HSB.out).mono ?_
          rintro e w1 ⟨rfl, hb⟩
          have HZ1 := Aside0.mk (HZS.out.below hb HZS.out.lt)
          have HB1 := Aside0.mk (HBS.out.trans (hb.mono HBS.out.size))
          clear hb
          go_wp2_with (refine zQ _ HZ1.out info27 rfl rfl rfl rfl rfl ?_; intro w9 hs hr; have HS9 := Aside0.mk hs; have HR9 := Aside0.mk hr; clear hs hr)
          refine bodyPost_ret (zY rfl HR9.out rfl Tryd.underlying40 rfl info27) rfl ?_
          exact ⟨rfl, HS9.out.bel _ _ (by omega) HB1.out⟩
end Go.Proofs.YtbmnkchcekacfaaDoor.P.Fd
end

section
namespace Go.Proofs.YtbmnkchcekacfaaDoor.P.Fd
set_option linter.unusedVariables false
set_option linter.unusedSimpArgs false
set_option maxRecDepth 16384
open Go.RowKit Go.ChangeShapes Go.WideShapes Go.Proofs.YtbmnkchcekacfaaDoorW.PrintWords Go.Proofs.YtbmnkchcekacfaaDoorW.PrintLast Go.Proofs.YtbmnkchcekacfaaDoorW.PrintMore
attribute [local go_sem] setCell_drewN
attribute [local go_sem] setCell_drewN
def bitB (e : Nat → Int) (i : Nat) : Bool := e (i / 8) / 2 ^ (i % 8) % 2 == 1
def expN (e : Nat → Int) : Nat → Nat
  | 0 => 0
  | s + 1 => 2 * expN e s + (if bitB e (255 - s) then 1 else 0)
def powE (f e : Nat → Int) : Nat → (Nat → Int)
  | 0 => smL 1
  | s + 1 => if bitB e (255 - s) then mulE (mulE (powE f e s) (powE f e s)) f else mulE (powE f e s) (powE f e s)
def powR (g e : Nat → Int) : Nat → (Nat → Int)
  | 0 => zM (fun i => if i = 0 then 1 else 0) 16
  | s + 1 => if bitB e (255 - s) then mulR (mulR (powR g e s) (powR g e s)) g else mulR (powR g e s) (powR g e s)
theorem pow_two_mul (n : Int) (k : Nat) : n ^ (2 * k) = n ^ k * n ^ k := by rw [Nat.two_mul, Int.pow_add]
theorem Fe.pow {f : Nat → Int} {n : Int} (hf : Fe f n) (e : Nat → Int) : ∀ s, Fe (powE f e s) (n ^ expN e s)
  | 0 => by simpa [powE, expN] using Fe.small 1 (by omega)
  | s + 1 => by
    have ih := Fe.pow hf e s
    have h2 := ih.mul ih
    unfold powE expN
    by_cases hb : bitB e (255 - s) = true
    · rw [if_pos hb, if_pos hb, Int.pow_succ, pow_two_mul]; exact h2.mul hf
    · rw [if_neg hb, if_neg hb, Nat.add_zero, pow_two_mul]; exact h2
theorem Re.pow {g : Nat → Int} {n : Int} (hg : Re g n) (e : Nat → Int) : ∀ s, Re (powR g e s) (n ^ expN e s)
  | 0 => by simpa [powR, expN] using Re.small 1 (by omega)
  | s + 1 => by
    have ih := Re.pow hg e s
    have h2 := ih.mul ih
    unfold powR expN
    by_cases hb : bitB e (255 - s) = true
    · rw [if_pos hb, if_pos hb, Int.pow_succ, pow_two_mul]; exact h2.mul hg
    · rw [if_neg hb, if_neg hb, Nat.add_zero, pow_two_mul]; exact h2
def onesB (p j : Nat) : Int := 2 ^ (min 8 (p - 8 * j)) - 1
theorem onesB_step (i j : Nat) : onesB (i + 1) j = upd (onesB i) (i / 8) (onesB i (i / 8) + 2 ^ (i % 8)) j := by
  by_cases h : j = i / 8
  · subst h
    rw [upd_same]
    unfold onesB
    rw [show min 8 (i + 1 - 8 * (i / 8)) = i % 8 + 1 by omega, show min 8 (i - 8 * (i / 8)) = i % 8 by omega, Int.pow_succ]
    omega
  · rw [upd_other _ _ _ _ h]
    unfold onesB
    rw [show min 8 (i + 1 - 8 * j) = min 8 (i - 8 * j) by omega]
theorem pow8_le (r : Nat) (h : r ≤ 8) : (1 : Int) ≤ 2 ^ r ∧ (2 : Int) ^ r ≤ 256 := by
  have hc : r = 0 ∨ r = 1 ∨ r = 2 ∨ r = 3 ∨ r = 4 ∨ r = 5 ∨ r = 6 ∨ r = 7 ∨ r = 8 := by omega
  rcases hc with h | h | h | h | h | h | h | h | h <;> subst h <;> decide
theorem onesB_b (p j : Nat) : 0 ≤ onesB p j ∧ onesB p j < 256 := by
  have := pow8_le (min 8 (p - 8 * j)) (by omega)
  unfold onesB; omega
theorem ones_or (i : Nat) : Go.bits .or .u8 (onesB i (i / 8)) (2 ^ (i % 8)) = onesB i (i / 8) + 2 ^ (i % 8) := by
  have h := or_bit (onesB i (i / 8)) 1 (i % 8) (by omega) (by
    unfold onesB
    rw [show min 8 (i - 8 * (i / 8)) = i % 8 by omega]
    have := pow8_le (i % 8) (by omega)
    omega) (Or.inr rfl)
  have hp := pow8_le (i % 8) (by omega)
  have h8 : (2 : Int) ^ (i % 8) ≤ 128 := by
    have hc : i % 8 = 0 ∨ i % 8 = 1 ∨ i % 8 = 2 ∨ i % 8 = 3 ∨ i % 8 = 4 ∨ i % 8 = 5 ∨ i % 8 = 6 ∨ i % 8 = 7 := by omega
    rcases hc with h | h | h | h | h | h | h | h <;> rw [h] <;> decide
  have e : (1 : Int) % 256 * 2 ^ (i % 8) % 256 = 2 ^ (i % 8) := by
    rw [show (1 : Int) % 256 = 1 by decide, Int.one_mul, Int.emod_eq_of_lt (by omega) (by omega)]
  rw [e, Int.one_mul] at h
  exact h
attribute [local go_sem] setCell_drewN
theorem bit_and (e : Nat → Int) (j : Nat) (h : 0 ≤ e (j / 8) ∧ e (j / 8) < 256) : Go.bits .and .u8 (e (j / 8) / 2 ^ (j % 8)) 1 = e (j / 8) / 2 ^ (j % 8) % 2 := by
  have hp := pow8_le (j % 8) (by omega)
  have h0 : 0 ≤ e (j / 8) / 2 ^ (j % 8) := Int.ediv_nonneg h.1 (by omega)
  have h1 : e (j / 8) / 2 ^ (j % 8) ≤ e (j / 8) := Int.ediv_le_self _ h.1
  rw [u8_and _ _ h0 (by omega) (by omega) (by omega), show (1 : Int).toNat = 2 ^ 1 - 1 from rfl, Nat.and_two_pow_sub_one_eq_mod]
  omega
theorem meas_down (j : Nat) : (intOf (Value.int IntKind.i64 ((j : Int) - 1)) + 1).toNat < (intOf (Value.int IntKind.i64 (j : Int)) + 1).toNat := by
  have e1 : intOf (Value.int IntKind.i64 ((j : Int) - 1)) = (j : Int) - 1 := rfl
  have e2 : intOf (Value.int IntKind.i64 (j : Int)) = (j : Int) := rfl
  rw [e1, e2]; omega
def pow_elemRel (w : World) (f e : Nat → Int) (ba : Nat) (v6 : Value) (wr : World) : Prop :=
  ∃ i : Nat, i ≤ 256 ∧ v6 = .int .i64 ((i : Int) - 1) ∧ Below w.heap.size w wr ∧ Row wr w.heap.size .u64 5 f 40 ∧ Row wr (w.heap.size + 1 + 1) .u64 5 (fun _ => 0) 40 ∧ Row wr ba .u64 5 (powE f e (256 - i)) 40 ∧ Row wr (w.heap.size + 1) .u8 32 e 22
theorem pow_elem (f e : Nat → Int) (w : World) (hf : Lm f) (he : By e) :
    Calls Tryd.prog 68 #[.agg (FR .u64 5 f), .agg (FR .u8 32 e)] w fun e' w' => e' = .returned (.agg (FR .u64 5 (powE f e 256))) ∧ Below w.heap.size w w' := by
  have HF := Aside0.mk hf
  have HE := Aside0.mk he
  have HI : Aside0 (∀ s, Lm (powE f e s)) := ⟨fun s => (Fe.pow ⟨hf, rfl⟩ e s).1⟩
  clear hf he
  go_enter Tryd.func68, Tryd.ntmps68
  have HB0 := Aside0.mk (bel_three w (.cells (FR .u64 5 f) 40) (.cells (FR .u8 32 e) 22) (.cells (FR .u64 5 fun _ => 0) 40))
  have HR0 : Aside0 (Row (((w.alloc (.cells (FR .u64 5 f) 40)).alloc (.cells (FR .u8 32 e) 22)).alloc (.cells (FR .u64 5 fun _ => 0) 40)) w.heap.size .u64 5 f 40) := ⟨((Row.new w .u64 5 f 40).alloc _).alloc _⟩
  have HE0 : Aside0 (Row (((w.alloc (.cells (FR .u64 5 f) 40)).alloc (.cells (FR .u8 32 e) 22)).alloc (.cells (FR .u64 5 fun _ => 0) 40)) (w.heap.size + 1) .u8 32 e 22) := ⟨Row.alloc (show Row ((w.alloc (.cells (FR .u64 5 f) 40)).alloc (.cells (FR .u8 32 e) 22)) (w.heap.size + 1) .u8 32 e 22 from heap_alloc2_new w _ _) _⟩
  have HZ0 : Aside0 (Row (((w.alloc (.cells (FR .u64 5 f) 40)).alloc (.cells (FR .u8 32 e) 22)).alloc (.cells (FR .u64 5 fun _ => 0) 40)) (w.heap.size + 1 + 1) .u64 5 (fun _ => 0) 40) := ⟨three_new w _ _ _⟩
  go_wp2_with fail
  refine (small_elem_calls 1 _ (by omega)).mono ?_
  rintro e' w1 ⟨rfl, hb⟩
  have HR1 := Aside0.mk (HR0.out.below hb HR0.out.lt)
  have HZ1 := Aside0.mk (HZ0.out.below hb HZ0.out.lt)
  have HE1 := Aside0.mk (HE0.out.below hb HE0.out.lt)
  have HB1 := Aside0.mk (HB0.out.trans (hb.mono HB0.out.size))
  have hl1 := HZ1.out.lt
  have hl0 := HR1.out.lt
  clear hb HR0 HZ0 HB0 HE0
  have HN := Aside0.mk (Row.new w1 .u64 5 (fun _ => 0) 40)
  have HR2 := Aside0.mk (HR1.out.alloc (.cells (FR .u64 5 fun _ => 0) 40))
  have HZ2 := Aside0.mk (HZ1.out.alloc (.cells (FR .u64 5 fun _ => 0) 40))
  have HE2 := Aside0.mk (HE1.out.alloc (.cells (FR .u64 5 fun _ => 0) 40))
  have HB2 := Aside0.mk (HB1.out.alloc (by omega) (.cells (FR .u64 5 fun _ => 0) 40))
  clear HR1 HZ1 HB1 HE1
  go_wp2_with (refine zQ (smL 1) HN.out info27 rfl rfl rfl rfl rfl ?_; intro w3 hs hr; have HS3 := Aside0.mk hs; have HA3 := Aside0.mk hr; clear hs hr)
  have HR3 := Aside0.mk (HR2.out.stored HS3.out (by omega))
  have HZ3 := Aside0.mk (HZ2.out.stored HS3.out (by omega))
  have HE3 := Aside0.mk (HE2.out.stored HS3.out (by omega))
  have HB3 := Aside0.mk (HS3.out.bel _ _ (by omega) HB2.out)
  clear HN HR2 HZ2 HB2 HS3 HE2
  generalize w1.heap.size = ba at *
  go_loopw [6] (fun v6 wr => pow_elemRel w f e ba v6 wr) (fun v _ => (intOf v + 1).toNat)
  case atStart => exact ⟨256, by omega, rfl, HB3.out, HR3.out, HZ3.out, HA3.out, HE3.out⟩
  case round =>
    clear HR3 HZ3 HB3 HA3 HE3
    obtain ⟨i, hi, rfl, hb, hr, hz, ha, hee⟩ := hrel
    have HB := Aside0.mk hb
    have HR := Aside0.mk hr
    have HZ := Aside0.mk hz
    have HA := Aside0.mk ha
    have HEE := Aside0.mk hee
    have hlr := hr.lt
    have hlz := hz.lt
    have hla := ha.lt
    clear hb hr hz ha hee
    rcases Nat.eq_zero_or_pos i with h0 | h0
    · subst h0
      go_wp2_with (first | refine zX HA.out Tryd.underlying40 info27 rfl rfl rfl rfl ?_ | (refine zQ (powE f e 256) HZ.out info27 rfl rfl rfl rfl rfl ?_; intro w9 hs hr; have HS9 := Aside0.mk hs; have HR9 := Aside0.mk hr; clear hs hr))
      refine bodyPost_ret (zY rfl HR9.out rfl Tryd.underlying40 rfl info27) rfl ?_
      exact ⟨rfl, HS9.out.bel _ _ (by omega) HB.out⟩
    · obtain ⟨j, rfl⟩ : ∃ j, i = j + 1 := ⟨i - 1, by omega⟩
      have e1 : ((j + 1 : Nat) : Int) - 1 = (j : Int) := by omega
      rw [e1]
      have hge : ((j : Int) ≥ 0) = True := eq_true (by omega)
      have HST : Aside0 (powE f e (256 - j) = if bitB e j then mulE (mulE (powE f e (256 - (j + 1))) (powE f e (256 - (j + 1)))) f else mulE (powE f e (256 - (j + 1))) (powE f e (256 - (j + 1)))) := ⟨by
        have es : 256 - j = (256 - (j + 1)) + 1 := by omega
        rw [es]
        show (if bitB e (255 - (256 - (j + 1))) then _ else _) = _
        rw [show 255 - (256 - (j + 1)) = j by omega]⟩
      have HP := Aside0.mk (HI.out (256 - (j + 1)))
      generalize powE f e (256 - (j + 1)) = q at *
      go_wp2_with (refine zX HA.out Tryd.underlying40 info27 rfl rfl rfl rfl ?_)
      refine (zS q q _ HP.out HP.out).mono ?_
      rintro e' w1 ⟨rfl, hb⟩
      have HR1 := Aside0.mk (HR.out.below hb hlr)
      have HZ1 := Aside0.mk (HZ.out.below hb hlz)
      have HA1 := Aside0.mk (HA.out.below hb hla)
      have HE1 := Aside0.mk (HEE.out.below hb HEE.out.lt)
      have HB1 := Aside0.mk (HB.out.trans (hb.mono HB.out.size))
      clear hb
      have d8 : Int.tdiv (j : Int) 8 = ((j / 8 : Nat) : Int) := rfl
      have r8 : Int.tmod (j : Int) 8 = ((j % 8 : Nat) : Int) := rfl
      have hba := bit_and e j (HE.out (j / 8) (by omega))
      have hbq : (e (j / 8) / 2 ^ (j % 8) % 2 == 1) = bitB e j := rfl
      have l8 : (((j / 8 : Nat) : Int) < 32) = True := eq_true (by omega)
      have HSQ : Aside0 (Lm (mulE q q)) := ⟨(Fe.mul ⟨HP.out, rfl⟩ ⟨HP.out, rfl⟩).1⟩
      cases hbj : bitB e j
      · rw [hbj] at hbq
        have HBJ := Aside0.mk hbj
        clear hbj
        go_wp2_with (refine zQ (mulE q q) HA1.out info27 rfl rfl rfl rfl rfl ?_; intro w2 hs hr; have HS2 := Aside0.mk hs; have HA2 := Aside0.mk hr; have HR2 := Aside0.mk (HR1.out.stored hs (by omega)); have hee := HE1.out.stored hs (by omega); have HE2 := Aside0.mk hee; have k8 := hee.cell (j / 8) (by omega); clear hs hr hee)
        refine ⟨⟨j, by omega, rfl, HS2.out.bel _ _ (by omega) HB1.out, HR2.out, HZ1.out.stored HS2.out (by omega), ?_, HE2.out⟩, meas_down j⟩
        rw [HST.out, if_neg (by rw [HBJ.out]; decide)]
        exact HA2.out
      · rw [hbj] at hbq
        have HBJ := Aside0.mk hbj
        clear hbj
        go_wp2_with (first | (refine zQ (mulE q q) HA1.out info27 rfl rfl rfl rfl rfl ?_; intro w2 hs hr; have HS2 := Aside0.mk hs; have HA2 := Aside0.mk hr; have HR2 := Aside0.mk (HR1.out.stored hs (by omega)); have hee := HE1.out.stored hs (by omega); have HE2 := Aside0.mk hee; have k8 := hee.cell (j / 8) (by omega); clear hs hr hee) | refine zX HA2.out Tryd.underlying40 info27 rfl rfl rfl rfl ?_ | refine zX HR2.out Tryd.underlying40 info27 rfl rfl rfl rfl ?_)
        refine (zS _ _ _ HSQ.out HF.out).mono ?_
        rintro e' w4 ⟨rfl, hb⟩
        have HB2 := Aside0.mk (HS2.out.bel _ _ (by omega) HB1.out)
        have HR4 := Aside0.mk (HR2.out.below hb HR2.out.lt)
        have HZ4 := Aside0.mk ((HZ1.out.stored HS2.out (by omega)).below hb (HZ1.out.stored HS2.out (by omega)).lt)
        have HA4 := Aside0.mk (HA2.out.below hb HA2.out.lt)
        have HE4 := Aside0.mk (HE2.out.below hb HE2.out.lt)
        have HB4 := Aside0.mk (HB2.out.trans (hb.mono HB2.out.size))
        clear hb
        go_wp2_with (refine zQ (mulE (mulE q q) f) HA4.out info27 rfl rfl rfl rfl rfl ?_; intro w5 hs hr; have HS5 := Aside0.mk hs; have HA5 := Aside0.mk hr; clear hs hr)
        refine ⟨⟨j, by omega, rfl, HS5.out.bel _ _ (by omega) HB4.out, HR4.out.stored HS5.out (by omega), HZ4.out.stored HS5.out (by omega), ?_, HE4.out.stored HS5.out (by omega)⟩, meas_down j⟩
        rw [HST.out, if_pos HBJ.out]
        exact HA5.out
def pow_refRel (w : World) (f e : Nat → Int) (ba : Nat) (v6 : Value) (wr : World) : Prop :=
  ∃ i : Nat, i ≤ 256 ∧ v6 = .int .i64 ((i : Int) - 1) ∧ Below w.heap.size w wr ∧ Row wr w.heap.size .i64 16 f 50 ∧ Row wr (w.heap.size + 1) .i64 16 (fun _ => 0) 50 ∧ Row wr ba .i64 16 (powR f e (256 - i)) 50
theorem pow_ref (f e : Nat → Int) (w : World) (hf : Rn f) (he : By e) :
    Calls Tryd.prog 76 #[.agg (FR .i64 16 f), .string (sOf e)] w fun e' w' => e' = .returned (.agg (FR .i64 16 (powR f e 256))) ∧ Below w.heap.size w w' := by
  have HF := Aside0.mk hf
  have HE := Aside0.mk he
  have HI : Aside0 (∀ s, Rn (powR f e s)) := ⟨fun s => (Re.pow ⟨hf, rfl⟩ e s).1⟩
  clear hf he
  go_enter Tryd.func76, Tryd.ntmps76
  have HB0 := Aside0.mk (bel_two w (.cells (FR .i64 16 f) 50) (.cells (FR .i64 16 fun _ => 0) 50))
  have HR0 : Aside0 (Row ((w.alloc (.cells (FR .i64 16 f) 50)).alloc (.cells (FR .i64 16 fun _ => 0) 50)) w.heap.size .i64 16 f 50) := ⟨(Row.new w .i64 16 f 50).alloc _⟩
  have HZ0 : Aside0 (Row ((w.alloc (.cells (FR .i64 16 f) 50)).alloc (.cells (FR .i64 16 fun _ => 0) 50)) (w.heap.size + 1) .i64 16 (fun _ => 0) 50) := ⟨heap_alloc2_new w _ _⟩
  go_wp2_with fail
  refine (small_ref_calls 1 _ (by omega)).mono ?_
  rintro e' w1 ⟨rfl, hb⟩
  have HR1 := Aside0.mk (HR0.out.below hb HR0.out.lt)
  have HZ1 := Aside0.mk (HZ0.out.below hb HZ0.out.lt)
  have HB1 := Aside0.mk (HB0.out.trans (hb.mono HB0.out.size))
  have hl1 := HZ1.out.lt
  have hl0 := HR1.out.lt
  clear hb HR0 HZ0 HB0
  have HN := Aside0.mk (Row.new w1 .i64 16 (fun _ => 0) 50)
  have HR2 := Aside0.mk (HR1.out.alloc (.cells (FR .i64 16 fun _ => 0) 50))
  have HZ2 := Aside0.mk (HZ1.out.alloc (.cells (FR .i64 16 fun _ => 0) 50))
  have HB2 := Aside0.mk (HB1.out.alloc (by omega) (.cells (FR .i64 16 fun _ => 0) 50))
  clear HR1 HZ1 HB1
  go_wp2_with (refine zQ (zM (fun i => if i = 0 then 1 else 0) 16) HN.out info33 rfl rfl rfl rfl rfl ?_; intro w3 hs hr; have HS3 := Aside0.mk hs; have HA3 := Aside0.mk hr; clear hs hr)
  have HR3 := Aside0.mk (HR2.out.stored HS3.out (by omega))
  have HZ3 := Aside0.mk (HZ2.out.stored HS3.out (by omega))
  have HB3 := Aside0.mk (HS3.out.bel _ _ (by omega) HB2.out)
  clear HN HR2 HZ2 HB2 HS3
  generalize w1.heap.size = ba at *
  go_loopw [6] (fun v6 wr => pow_refRel w f e ba v6 wr) (fun v _ => (intOf v + 1).toNat)
  case atStart => exact ⟨256, by omega, rfl, HB3.out, HR3.out, HZ3.out, HA3.out⟩
  case round =>
    clear HR3 HZ3 HB3 HA3
    obtain ⟨i, hi, rfl, hb, hr, hz, ha⟩ := hrel
    have HB := Aside0.mk hb
    have HR := Aside0.mk hr
    have HZ := Aside0.mk hz
    have HA := Aside0.mk ha
    have hlr := hr.lt
    have hlz := hz.lt
    have hla := ha.lt
    clear hb hr hz ha
    rcases Nat.eq_zero_or_pos i with h0 | h0
    · subst h0
      go_wp2_with (first | refine zX HA.out Tryd.underlying50 info33 rfl rfl rfl rfl ?_ | (refine zQ (powR f e 256) HZ.out info33 rfl rfl rfl rfl rfl ?_; intro w9 hs hr; have HS9 := Aside0.mk hs; have HR9 := Aside0.mk hr; clear hs hr))
      refine bodyPost_ret (zY rfl HR9.out rfl Tryd.underlying50 rfl info33) rfl ?_
      exact ⟨rfl, HS9.out.bel _ _ (by omega) HB.out⟩
    · obtain ⟨j, rfl⟩ : ∃ j, i = j + 1 := ⟨i - 1, by omega⟩
      have e1 : ((j + 1 : Nat) : Int) - 1 = (j : Int) := by omega
      rw [e1]
      have hge : ((j : Int) ≥ 0) = True := eq_true (by omega)
      have HST : Aside0 (powR f e (256 - j) = if bitB e j then mulR (mulR (powR f e (256 - (j + 1))) (powR f e (256 - (j + 1)))) f else mulR (powR f e (256 - (j + 1))) (powR f e (256 - (j + 1)))) := ⟨by
        have es : 256 - j = (256 - (j + 1)) + 1 := by omega
        rw [es]
        show (if bitB e (255 - (256 - (j + 1))) then _ else _) = _
        rw [show 255 - (256 - (j + 1)) = j by omega]⟩
      have HP := Aside0.mk (HI.out (256 - (j + 1)))
      generalize powR f e (256 - (j + 1)) = q at *
      go_wp2_with (refine zX HA.out Tryd.underlying50 info33 rfl rfl rfl rfl ?_)
      refine (mulR_c q q _ HP.out HP.out).mono ?_
      rintro e' w1 ⟨rfl, hb⟩
      have HR1 := Aside0.mk (HR.out.below hb hlr)
      have HZ1 := Aside0.mk (HZ.out.below hb hlz)
      have HA1 := Aside0.mk (HA.out.below hb hla)
      have HB1 := Aside0.mk (HB.out.trans (hb.mono HB.out.size))
      clear hb
      have d8 : Int.tdiv (j : Int) 8 = ((j / 8 : Nat) : Int) := rfl
      have r8 : Int.tmod (j : Int) 8 = ((j % 8 : Nat) : Int) := rfl
      have hba := bit_and e j (HE.out (j / 8) (by omega))
      have hbq : (e (j / 8) / 2 ^ (j % 8) % 2 == 1) = bitB e j := rfl
      have l8 : (((j / 8 : Nat) : Int) < 32) = True := eq_true (by omega)
      have hsz := sOf_size e
      obtain ⟨c, hc1, hc2⟩ := sB_at (sOf e) (j / 8) (by omega)
      rw [sB_sOf e HE.out (j / 8) (by omega)] at hc2
      have l9 : ((j : Int) / 8 < ((sOf e).size : Int)) = True := eq_true (by omega)
      have l10 : (0 ≤ (j : Int) / 8) = True := eq_true (by omega)
      have l11 : ((j : Int) / 8).toNat = j / 8 := by omega
      have l12 : IntKind.u64.wrap ((j : Int) % 8) = (j : Int) % 8 := u64w _ (by omega) (by omega)
      have l13 : ((j : Int) % 8).toNat = j % 8 := by omega
      rw [← hc2] at hba hbq
      clear hsz hc2
      have HSQ : Aside0 (Rn (mulR q q)) := ⟨(Re.mul ⟨HP.out, rfl⟩ ⟨HP.out, rfl⟩).1⟩
      cases hbj : bitB e j
      · rw [hbj] at hbq
        have HBJ := Aside0.mk hbj
        clear hbj
        go_wp2_with (refine zQ (mulR q q) HA1.out info33 rfl rfl rfl rfl rfl ?_; intro w2 hs hr; have HS2 := Aside0.mk hs; have HA2 := Aside0.mk hr; have HR2 := Aside0.mk (HR1.out.stored hs (by omega)); clear hs hr)
        refine ⟨⟨j, by omega, rfl, HS2.out.bel _ _ (by omega) HB1.out, HR2.out, HZ1.out.stored HS2.out (by omega), ?_⟩, meas_down j⟩
        rw [HST.out, if_neg (by rw [HBJ.out]; decide)]
        exact HA2.out
      · rw [hbj] at hbq
        have HBJ := Aside0.mk hbj
        clear hbj
        go_wp2_with (first | (refine zQ (mulR q q) HA1.out info33 rfl rfl rfl rfl rfl ?_; intro w2 hs hr; have HS2 := Aside0.mk hs; have HA2 := Aside0.mk hr; have HR2 := Aside0.mk (HR1.out.stored hs (by omega)); clear hs hr) | refine zX HA2.out Tryd.underlying50 info33 rfl rfl rfl rfl ?_ | refine zX HR2.out Tryd.underlying50 info33 rfl rfl rfl rfl ?_)
        refine (mulR_c _ _ _ HSQ.out HF.out).mono ?_
        rintro e' w4 ⟨rfl, hb⟩
        have HB2 := Aside0.mk (HS2.out.bel _ _ (by omega) HB1.out)
        have HR4 := Aside0.mk (HR2.out.below hb HR2.out.lt)
        have HZ4 := Aside0.mk ((HZ1.out.stored HS2.out (by omega)).below hb (HZ1.out.stored HS2.out (by omega)).lt)
        have HA4 := Aside0.mk (HA2.out.below hb HA2.out.lt)
        have HB4 := Aside0.mk (HB2.out.trans (hb.mono HB2.out.size))
        clear hb
        go_wp2_with (refine zQ (mulR (mulR q q) f) HA4.out info33 rfl rfl rfl rfl rfl ?_; intro w5 hs hr; have HS5 := Aside0.mk hs; have HA5 := Aside0.mk hr; clear hs hr)
        refine ⟨⟨j, by omega, rfl, HS5.out.bel _ _ (by omega) HB4.out, HR4.out.stored HS5.out (by omega), HZ4.out.stored HS5.out (by omega), ?_⟩, meas_down j⟩
        rw [HST.out, if_pos HBJ.out]
        exact HA5.out
attribute [local go_sem] setCell_drewN
def exB (p : Nat) (k : Int) : Nat → Int := upd (onesB p) 0 ((onesB p 0 - (k - 1)) % 256)
def ERel (w : World) (v8 : Value) (p : Nat) (wr : World) : Prop :=
  ∃ i : Nat, i ≤ p ∧ v8 = .int .i64 (i : Int) ∧ Below w.heap.size w wr ∧ Row wr w.heap.size .u8 32 (fun _ => 0) 22 ∧ Row wr (w.heap.size + 1) .u8 32 (onesB i) 22
theorem onesB_zero (j : Nat) : (fun _ : Nat => (0 : Int)) j = onesB 0 j := by
  unfold onesB; rw [show min 8 (0 - 8 * j) = 0 by omega]; rfl
theorem pow8m (r : Nat) (h : r < 8) : (2 : Int) ^ r % 256 = 2 ^ r := by
  have hc : r = 0 ∨ r = 1 ∨ r = 2 ∨ r = 3 ∨ r = 4 ∨ r = 5 ∨ r = 6 ∨ r = 7 := by omega
  rcases hc with h | h | h | h | h | h | h | h <;> subst h <;> decide
theorem u8wm (z : Int) : IntKind.u8.wrap z = z % 256 := rfl
theorem exponent_calls (p : Nat) (k : Int) (w : World) (hp : p ≤ 255) (hk : 1 ≤ k ∧ k < 256) :
    Calls Tryd.prog 69 #[.int .i64 (p : Int), .int .u8 k] w fun e w' => e = .returned (.agg (FR .u8 32 (exB p k))) ∧ Below w.heap.size w w' := by
  go_enter Tryd.func69, Tryd.ntmps69
  have HB0 := Aside0.mk (bel_two w (.cells (FR .u8 32 fun _ => 0) 22) (.cells (FR .u8 32 fun _ => 0) 22))
  have HZ0 : Aside0 (Row ((w.alloc (.cells (FR .u8 32 fun _ => 0) 22)).alloc (.cells (FR .u8 32 fun _ => 0) 22)) w.heap.size .u8 32 (fun _ => 0) 22) := ⟨(Row.new w .u8 32 (fun _ => 0) 22).alloc _⟩
  have HE0 : Aside0 (Row ((w.alloc (.cells (FR .u8 32 fun _ => 0) 22)).alloc (.cells (FR .u8 32 fun _ => 0) 22)) (w.heap.size + 1) .u8 32 (fun _ => 0) 22) := ⟨heap_alloc2_new w _ _⟩
  go_wp2_with fail
  go_loopw [8] (fun v8 wr => ERel w v8 p wr) (fun v _ => p - (intOf v).toNat)
  case atStart => exact ⟨0, by omega, rfl, HB0.out, HZ0.out, row_eq HE0.out (fun j _ => onesB_zero j)⟩
  case round =>
    clear HB0 HE0 HZ0
    obtain ⟨i, hi, rfl, hb, hz, he⟩ := hrel
    have HB := Aside0.mk hb
    have HZ := Aside0.mk hz
    have hlz := hz.lt
    have HE := Aside0.mk he
    have hle := he.lt
    rcases Nat.lt_or_ge i p with h5 | h5
    · have hlt : ((i : Int) < (p : Int)) = True := eq_true (by omega)
      have d8 : Int.tdiv (i : Int) 8 = ((i / 8 : Nat) : Int) := rfl
      have r8 : Int.tmod (i : Int) 8 = ((i % 8 : Nat) : Int) := rfl
      have l8 : (((i / 8 : Nat) : Int) < 32) = True := eq_true (by omega)
      have l9 : ((i : Int) / 8 < 32) = True := eq_true (by omega)
      have l10 : (0 ≤ (i : Int) / 8) = True := eq_true (by omega)
      have l11 : ((i : Int) / 8).toNat = i / 8 := by omega
      have l12 : IntKind.u64.wrap ((i : Int) % 8) = (i : Int) % 8 := u64w _ (by omega) (by omega)
      have l13 : ((i : Int) % 8).toNat = i % 8 := by omega
      have k8 := he.cell (i / 8) (by omega)
      have f8 := he.fro (i / 8)
      have hor := ones_or i
      have hpm := pow8m (i % 8) (by omega)
      have HS := Aside0.mk (row_eq (he.set (i / 8) (onesB i (i / 8) + 2 ^ (i % 8)) (by omega)) (f' := onesB (i + 1)) (fun j hj => (onesB_step i j).symm))
      have HK := Aside0.mk hk
      clear hb hz he hk
      go_wp2_with fail
      go_region
      all_goals go_wp2_with fail
      refine ⟨⟨i + 1, by omega, rfl, (yJ HB.out ⟨(w.heap.size + 1), i / 8, none⟩ _ (by simp)).drew, HZ.out.other ⟨w.heap.size + 1, i / 8, none⟩ _ (by simp), HS.out⟩, meas_up p i h5⟩
    · obtain rfl : i = p := by omega
      have k0 := he.cell 0 (by omega)
      have f0 := he.fro 0
      have hob := onesB_b i 0
      have q1 : IntKind.u8.wrap (k - 1) = k - 1 := by rw [u8wm]; omega
      have q1m : (k - 1) % 256 = k - 1 := by omega
      have q2 : IntKind.u8.wrap (onesB i 0 - (k - 1)) = (onesB i 0 - (k - 1)) % 256 := rfl
      have q3 : IntKind.i64.wrap (k - 1) = k - 1 := i64w _ (by omega)
      have q4 : wrap64 (k - 1) = k - 1 := w64 _ (by omega)
      have HS : Aside0 (Row (wr.setCell ⟨(w.heap.size + 1), 0, none⟩ (.int .u8 ((onesB i 0 - (k - 1)) % 256))) (w.heap.size + 1) .u8 32 (exB i k) 22) := ⟨he.set 0 _ (by omega)⟩
      have HBS := Aside0.mk (yJ HB.out ⟨(w.heap.size + 1), 0, none⟩ (.int .u8 ((onesB i 0 - (k - 1)) % 256)) (by simp))
      have HZS := Aside0.mk (HZ.out.other ⟨w.heap.size + 1, 0, none⟩ (.int .u8 ((onesB i 0 - (k - 1)) % 256)) (by simp))
      clear hb hz he hob hk
      go_wp2_with (first | refine zX HS.out Tryd.underlying22 info22 rfl rfl rfl rfl ?_ | (refine zQ (exB i k) HZS.out info22 rfl rfl rfl rfl rfl ?_; intro w9 hs hr; have HS9 := Aside0.mk hs; have HR9 := Aside0.mk hr; clear hs hr))
      refine bodyPost_ret (zY rfl HR9.out rfl Tryd.underlying22 rfl info22) rfl ?_
      exact ⟨rfl, HS9.out.bel _ _ (by omega) HBS.out⟩
def ERelR (w : World) (v8 : Value) (p : Nat) (wr : World) : Prop :=
  ∃ i : Nat, i ≤ p ∧ v8 = .int .i64 (i : Int) ∧ Below w.heap.size w wr ∧ Row wr w.heap.size .u8 32 (onesB i) 22
theorem Exponent_calls (p : Nat) (k : Int) (w : World) (hp : p ≤ 255) (hk : 1 ≤ k ∧ k < 256) :
    Calls Tryd.prog 77 #[.int .i64 (p : Int), .int .i64 k] w fun e w' => e = .returned (.string (sOf (exB p k))) ∧ Below w.heap.size w w' := by
  go_enter Tryd.func77, Tryd.ntmps77
  have HB0 := Aside0.mk ((Below.refl w.heap.size w).alloc (Nat.le_refl _) (.cells (FR .u8 32 fun _ => 0) 22))
  have HE0 := Aside0.mk (Row.new w .u8 32 (fun _ => 0) 22)
  go_wp2_with fail
  go_loopw [6] (fun v8 wr => ERelR w v8 p wr) (fun v _ => p - (intOf v).toNat)
  case atStart => exact ⟨0, by omega, rfl, HB0.out, row_eq HE0.out (fun j _ => onesB_zero j)⟩
  case round =>
    clear HB0 HE0
    obtain ⟨i, hi, rfl, hb, he⟩ := hrel
    have HB := Aside0.mk hb
    have HE := Aside0.mk he
    have hle := he.lt
    rcases Nat.lt_or_ge i p with h5 | h5
    · have hlt : ((i : Int) < (p : Int)) = True := eq_true (by omega)
      have d8 : Int.tdiv (i : Int) 8 = ((i / 8 : Nat) : Int) := rfl
      have r8 : Int.tmod (i : Int) 8 = ((i % 8 : Nat) : Int) := rfl
      have l8 : (((i / 8 : Nat) : Int) < 32) = True := eq_true (by omega)
      have l9 : ((i : Int) / 8 < 32) = True := eq_true (by omega)
      have l10 : (0 ≤ (i : Int) / 8) = True := eq_true (by omega)
      have l11 : ((i : Int) / 8).toNat = i / 8 := by omega
      have l12 : IntKind.u64.wrap ((i : Int) % 8) = (i : Int) % 8 := u64w _ (by omega) (by omega)
      have l13 : ((i : Int) % 8).toNat = i % 8 := by omega
      have k8 := he.cell (i / 8) (by omega)
      have f8 := he.fro (i / 8)
      have hor := ones_or i
      have hpm := pow8m (i % 8) (by omega)
      have HS := Aside0.mk (row_eq (he.set (i / 8) (onesB i (i / 8) + 2 ^ (i % 8)) (by omega)) (f' := onesB (i + 1)) (fun j hj => (onesB_step i j).symm))
      have HK := Aside0.mk hk
      clear hb he hk
      go_wp2_with fail
      refine ⟨⟨i + 1, by omega, rfl, yJ HB.out ⟨w.heap.size, i / 8, none⟩ _ (by simp), HS.out⟩, meas_up p i h5⟩
    · obtain rfl : i = p := by omega
      have k0 := he.cell 0 (by omega)
      have f0 := he.fro 0
      have hob := onesB_b i 0
      have q1 : IntKind.u8.wrap (k - 1) = k - 1 := by rw [u8wm]; omega
      have q1m : (k - 1) % 256 = k - 1 := by omega
      have q2 : IntKind.u8.wrap (onesB i 0 - (k - 1)) = (onesB i 0 - (k - 1)) % 256 := rfl
      have q3 : IntKind.i64.wrap (k - 1) = k - 1 := i64w _ (by omega)
      have q4 : wrap64 (k - 1) = k - 1 := w64 _ (by omega)
      have HS : Aside0 (Row (wr.setCell ⟨w.heap.size, 0, none⟩ (.int .u8 ((onesB i 0 - (k - 1)) % 256))) w.heap.size .u8 32 (exB i k) 22) := ⟨he.set 0 _ (by omega)⟩
      have HBS := Aside0.mk (yJ HB.out ⟨w.heap.size, 0, none⟩ (.int .u8 ((onesB i 0 - (k - 1)) % 256)) (by simp))
      have hcv := conv_row HS.out
      clear hb he hob hk
      go_wp2_with fail
      go_ret
      exact ⟨rfl, HBS.out⟩
attribute [local go_sem] setCell_drewN
theorem exB_By (p : Nat) (k : Int) : By (exB p k) := fun j hj => by
  have := onesB_b p j
  unfold exB upd
  split <;> omega
def invE (f : Nat → Int) : Nat → Int := powE f (exB 255 21) 256
def invR (g : Nat → Int) : Nat → Int := powR g (exB 255 21) 256
theorem tab3001 : rtab .any (opsOf Tryd.f38 1) = (true, [([], []), ([], []), ([0, 1, 1], [0, 1]), ([2, 2, 0, 1, 2], [2])]) := by kernel_rfl
theorem bits3001 : zW [([], []), ([], []), ([0, 1, 1], [0, 1]), ([2, 2, 0, 1, 2], [2])] [0, 0, 3, 7] = true := by kernel_rfl
theorem invE_calls (f : Nat → Int) (w : World) (hf : Lm f) :
    Calls Tryd.prog 38 #[.agg (FR .u64 5 f)] w fun e w' => e = .returned (.agg (FR .u64 5 (invE f))) ∧ Below w.heap.size w w' := by
  have HF := Aside0.mk hf
  clear hf
  go_enter Tryd.func38, Tryd.ntmps38
  go_wp2_with fail
  have hh : Row (((w.alloc (.cells (FR .u64 5 f) 40)).alloc (.cells #[.int .u64 0, .int .u64 0, .int .u64 0, .int .u64 0, .int .u64 0] 40)).drew) w.heap.size .u64 5 f 40 := (Row.new w .u64 5 f 40).alloc _
  have HZd : Aside0 (Row (((w.alloc (.cells (FR .u64 5 f) 40)).alloc (.cells #[.int .u64 0, .int .u64 0, .int .u64 0, .int .u64 0, .int .u64 0] 40)).drew) (w.heap.size + 1) .u64 5 (fun _ => 0) 40) := ⟨heap_alloc2_new w _ _⟩
  have HBd := Aside0.mk ((bel_two w (.cells (FR .u64 5 f) 40) (.cells #[.int .u64 0, .int .u64 0, .int .u64 0, .int .u64 0, .int .u64 0] 40)).drew)
  refine start_ (n := 4) (S := (fun w' => Row w' w.heap.size .u64 5 f 40)) (ds := [3]) #[false, false, false, false] (by kernel_rfl) rfl rfl hh (fun hHeld => ?_); refine with_tabW tab3001 bits3001 (fun HT_ HW_ => ?_)
  generalize ((w.alloc (.cells (FR .u64 5 f) 40)).alloc (.cells #[.int .u64 0, .int .u64 0, .int .u64 0, .int .u64 0, .int .u64 0] 40)).drew = w6 at HBd hHeld hh HZd ⊢
  clear hh
  refine take_ (i := 0) (N := some 3) (v := ?_) (a' := ?_) #[true, false, false, false] rfl rfl (take_ofW HT_.out HW_.out (by kernel_rfl)) (fun _ _ _ h => h) (Or.inl ⟨by rfl, ?_⟩) hHeld ?_ ?_
  rotate_left
  · intro w' hsw
    refine exec_load (x := .tmp 1) hsw Tryd.underlying40 info27 rfl ?_ ?_ <;> rfl
  rotate_left
  · simp only [Act.put, List.setIfInBounds_toArray, List.set_cons_zero, List.set_cons_succ, yF, yI]
    rfl
  refine one_ (i := 1) (N := some 4) #[true, true, false, false] rfl rfl (one_of HT_.out (by kernel_rfl)) (by decide) (fun K hK => ?_)
  refine goes_ Tryd.func69 rfl rfl #[.int .i64 255, .int .u8 21] rfl rfl rfl (by simp only [List.map_toArray, List.map_cons, List.map_nil]; rfl) ((exponent_calls 255 21 _ (by omega) (by omega)).mono ?_)
  rintro e wc1 ⟨rfl, hb⟩
  have hSn : Row wc1 w.heap.size .u64 5 f 40 := hHeld.below hb hHeld.lt
  have HBc1 := Aside0.mk (HBd.out.trans (hb.mono HBd.out.size))
  have HZc1 := Aside0.mk (HZd.out.below hb HZd.out.lt)
  clear hb
  refine ⟨_, rfl, hK.out _ _ hSn (fun hHeld => ?_)⟩
  clear hSn
  clear hK K
  refine norm_ (a' := ?_) ?_ ?_
  rotate_left
  · show Act.put _ (some 4) _ = _
    simp only [Act.put, List.setIfInBounds_toArray, List.set_cons_zero, List.set_cons_succ, yF, yI]
    rfl
  refine one_ (i := 2) (N := some 5) #[true, true, true, false] rfl rfl (one_of HT_.out (by kernel_rfl)) (by decide) (fun K hK => ?_)
  refine goes_ Tryd.func68 rfl rfl #[.agg (FR .u64 5 f), .agg (FR .u8 32 (exB 255 21))] rfl rfl rfl (by simp only [List.map_toArray, List.map_cons, List.map_nil]; rfl) ((pow_elem f (exB 255 21) _ HF.out (exB_By _ _)).mono ?_)
  rintro e wc2 ⟨rfl, hb⟩
  have hSn : Row wc2 w.heap.size .u64 5 f 40 := hHeld.below hb hHeld.lt
  have HBc2 := Aside0.mk (HBc1.out.trans (hb.mono HBc1.out.size))
  have HZc2 := Aside0.mk (HZc1.out.below hb HZc1.out.lt)
  clear hb
  refine ⟨_, rfl, hK.out _ _ hSn (fun hHeld => ?_)⟩
  clear hSn
  clear hK K
  refine norm_ (a' := ?_) ?_ ?_
  rotate_left
  · show Act.put _ (some 5) _ = _
    simp only [Act.put, List.setIfInBounds_toArray, List.set_cons_zero, List.set_cons_succ, yF, yI]
    rfl
  refine last_ (i := 3) (N := none) #[true, true, true, true] rfl rfl (one_of HT_.out (by kernel_rfl)) (by decide) (fun K hK => ?_)
  refine oper_storeG (invE f) HZc2.out info27 rfl rfl rfl rfl rfl ?_
  intro wk hs hr
  have HRk := Aside0.mk hr
  have HBk := Aside0.mk (hs.bel _ _ (by omega) HBc2.out)
  clear hs hr
  refine hK.out _ _ ?_
  clear hK K
  refine done_ (done_of HT_.out (by kernel_rfl)) ?_
  try go_wp2
  refine bodyPost_ret (zY rfl HRk.out rfl Tryd.underlying40 rfl info27) rfl ?_
  exact ⟨rfl, HBk.out⟩
theorem tab3101 : rtab .any (opsOf Tryd.f43 1) = (true, [([], []), ([], []), ([0, 1, 1], [0, 1]), ([2, 2, 0, 1, 2], [2])]) := by kernel_rfl
theorem bits3101 : zW [([], []), ([], []), ([0, 1, 1], [0, 1]), ([2, 2, 0, 1, 2], [2])] [0, 0, 3, 7] = true := by kernel_rfl
theorem invR_calls (f : Nat → Int) (w : World) (hf : Rn f) :
    Calls Tryd.prog 43 #[.agg (FR .i64 16 f)] w fun e w' => e = .returned (.agg (FR .i64 16 (invR f))) ∧ Below w.heap.size w w' := by
  have HF := Aside0.mk hf
  clear hf
  go_enter Tryd.func43, Tryd.ntmps43
  go_wp2_with fail
  have hh : Row (((w.alloc (.cells (FR .i64 16 f) 50)).alloc (.cells #[.int .i64 0, .int .i64 0, .int .i64 0, .int .i64 0, .int .i64 0, .int .i64 0, .int .i64 0, .int .i64 0, .int .i64 0, .int .i64 0, .int .i64 0, .int .i64 0, .int .i64 0, .int .i64 0, .int .i64 0, .int .i64 0] 50)).drew) w.heap.size .i64 16 f 50 := (Row.new w .i64 16 f 50).alloc _
  have HZd : Aside0 (Row (((w.alloc (.cells (FR .i64 16 f) 50)).alloc (.cells #[.int .i64 0, .int .i64 0, .int .i64 0, .int .i64 0, .int .i64 0, .int .i64 0, .int .i64 0, .int .i64 0, .int .i64 0, .int .i64 0, .int .i64 0, .int .i64 0, .int .i64 0, .int .i64 0, .int .i64 0, .int .i64 0] 50)).drew) (w.heap.size + 1) .i64 16 (fun _ => 0) 50) := ⟨heap_alloc2_new w _ _⟩
  have HBd := Aside0.mk ((bel_two w (.cells (FR .i64 16 f) 50) (.cells #[.int .i64 0, .int .i64 0, .int .i64 0, .int .i64 0, .int .i64 0, .int .i64 0, .int .i64 0, .int .i64 0, .int .i64 0, .int .i64 0, .int .i64 0, .int .i64 0, .int .i64 0, .int .i64 0, .int .i64 0, .int .i64 0] 50)).drew)
  refine start_ (n := 4) (S := (fun w' => Row w' w.heap.size .i64 16 f 50)) (ds := [3]) #[false, false, false, false] (by kernel_rfl) rfl rfl hh (fun hHeld => ?_); refine with_tabW tab3101 bits3101 (fun HT_ HW_ => ?_)
  generalize ((w.alloc (.cells (FR .i64 16 f) 50)).alloc (.cells #[.int .i64 0, .int .i64 0, .int .i64 0, .int .i64 0, .int .i64 0, .int .i64 0, .int .i64 0, .int .i64 0, .int .i64 0, .int .i64 0, .int .i64 0, .int .i64 0, .int .i64 0, .int .i64 0, .int .i64 0, .int .i64 0] 50)).drew = w6 at HBd hHeld hh HZd ⊢
  clear hh
  refine take_ (i := 0) (N := some 3) (v := ?_) (a' := ?_) #[true, false, false, false] rfl rfl (take_ofW HT_.out HW_.out (by kernel_rfl)) (fun _ _ _ h => h) (Or.inl ⟨by rfl, ?_⟩) hHeld ?_ ?_
  rotate_left
  · intro w' hsw
    refine exec_load (x := .tmp 1) hsw Tryd.underlying50 info33 rfl ?_ ?_ <;> rfl
  rotate_left
  · simp only [Act.put, List.setIfInBounds_toArray, List.set_cons_zero, List.set_cons_succ, yF, yI]
    rfl
  refine one_ (i := 1) (N := some 4) #[true, true, false, false] rfl rfl (one_of HT_.out (by kernel_rfl)) (by decide) (fun K hK => ?_)
  refine goes_ Tryd.func77 rfl rfl #[.int .i64 255, .int .i64 21] rfl rfl rfl (by simp only [List.map_toArray, List.map_cons, List.map_nil]; rfl) ((Exponent_calls 255 21 _ (by omega) (by omega)).mono ?_)
  rintro e wc1 ⟨rfl, hb⟩
  have hSn : Row wc1 w.heap.size .i64 16 f 50 := hHeld.below hb hHeld.lt
  have HBc1 := Aside0.mk (HBd.out.trans (hb.mono HBd.out.size))
  have HZc1 := Aside0.mk (HZd.out.below hb HZd.out.lt)
  clear hb
  refine ⟨_, rfl, hK.out _ _ hSn (fun hHeld => ?_)⟩
  clear hSn
  clear hK K
  refine norm_ (a' := ?_) ?_ ?_
  rotate_left
  · show Act.put _ (some 4) _ = _
    simp only [Act.put, List.setIfInBounds_toArray, List.set_cons_zero, List.set_cons_succ, yF, yI]
    rfl
  refine one_ (i := 2) (N := some 5) #[true, true, true, false] rfl rfl (one_of HT_.out (by kernel_rfl)) (by decide) (fun K hK => ?_)
  refine goes_ Tryd.func76 rfl rfl #[.agg (FR .i64 16 f), .string (sOf (exB 255 21))] rfl rfl rfl (by simp only [List.map_toArray, List.map_cons, List.map_nil]; rfl) ((pow_ref f (exB 255 21) _ HF.out (exB_By _ _)).mono ?_)
  rintro e wc2 ⟨rfl, hb⟩
  have hSn : Row wc2 w.heap.size .i64 16 f 50 := hHeld.below hb hHeld.lt
  have HBc2 := Aside0.mk (HBc1.out.trans (hb.mono HBc1.out.size))
  have HZc2 := Aside0.mk (HZc1.out.below hb HZc1.out.lt)
  clear hb
  refine ⟨_, rfl, hK.out _ _ hSn (fun hHeld => ?_)⟩
  clear hSn
  clear hK K
  refine norm_ (a' := ?_) ?_ ?_
  rotate_left
  · show Act.put _ (some 5) _ = _
    simp only [Act.put, List.setIfInBounds_toArray, List.set_cons_zero, List.set_cons_succ, yF, yI]
    rfl
  refine last_ (i := 3) (N := none) #[true, true, true, true] rfl rfl (one_of HT_.out (by kernel_rfl)) (by decide) (fun K hK => ?_)
  refine oper_storeG (invR f) HZc2.out info33 rfl rfl rfl rfl rfl ?_
  intro wk hs hr
  have HRk := Aside0.mk hr
  have HBk := Aside0.mk (hs.bel _ _ (by omega) HBc2.out)
  clear hs hr
  refine hK.out _ _ ?_
  clear hK K
  refine done_ (done_of HT_.out (by kernel_rfl)) ?_
  try go_wp2
  refine bodyPost_ret (zY rfl HRk.out rfl Tryd.underlying50 rfl info33) rfl ?_
  exact ⟨rfl, HBk.out⟩
end Go.Proofs.YtbmnkchcekacfaaDoor.P.Fd
end

section
namespace Go.Proofs.YtbmnkchcekacfaaDoor.P.Fd
set_option linter.unusedVariables false
set_option linter.unusedSimpArgs false
open Go.RowKit Go.ChangeShapes Go.WideShapes Go.Proofs.YtbmnkchcekacfaaDoorW.PrintWords Go.Proofs.YtbmnkchcekacfaaDoorW.PrintLast Go.Proofs.YtbmnkchcekacfaaDoorW.PrintMore
attribute [local go_sem] setCell_drewN
def Prime (p : Nat) : Prop := 1 < p ∧ ∀ d, d ∣ p → d = 1 ∨ d = p
theorem Prime.coprime {q x : Nat} (hq : Prime q) (h : ¬ q ∣ x) : Nat.Coprime q x := by
  rcases hq.2 (Nat.gcd q x) (Nat.gcd_dvd_left q x) with h1 | h1
  · exact h1
  · exact absurd (h1 ▸ Nat.gcd_dvd_right q x) h
theorem Prime.dvd_mul {q x y : Nat} (hq : Prime q) (h : q ∣ x * y) : q ∣ x ∨ q ∣ y := by
  by_cases hx : q ∣ x
  · exact Or.inl hx
  · exact Or.inr ((hq.coprime hx).dvd_of_dvd_mul_left h)
def ch : Nat → Nat → Nat
  | _, 0 => 1
  | 0, _ + 1 => 0
  | n + 1, k + 1 => ch n k + ch n (k + 1)
theorem ch_zero (n : Nat) : ch n 0 = 1 := by cases n <;> rfl
theorem ch_succ (n k : Nat) : ch (n + 1) (k + 1) = ch n k + ch n (k + 1) := rfl
theorem ch_lt : ∀ n k, n < k → ch n k = 0
  | n, 0, h => absurd h (by omega)
  | 0, k + 1, _ => rfl
  | n + 1, k + 1, h => by rw [ch_succ, ch_lt n k (by omega), ch_lt n (k + 1) (by omega)]
theorem ch_self : ∀ n, ch n n = 1
  | 0 => rfl
  | n + 1 => by rw [ch_succ, ch_self n, ch_lt n (n + 1) (by omega)]
theorem ch_mul : ∀ n k, (k + 1) * ch (n + 1) (k + 1) = (n + 1) * ch n k
  | 0, 0 => rfl
  | 0, k + 1 => by rw [ch_lt 1 (k + 1 + 1) (by omega), ch_lt 0 (k + 1) (by omega)]; simp
  | n + 1, 0 => by
    have h := ch_mul n 0
    rw [ch_succ, ch_zero]
    rw [ch_zero] at h
    omega
  | n + 1, k + 1 => by
    have h1 := ch_mul n k
    have h2 := ch_mul n (k + 1)
    have e1 := ch_succ (n + 1) (k + 1)
    have e2 := ch_succ n k
    rw [e1, Nat.mul_add, h2]
    have e3 : (k + 1 + 1) * ch (n + 1) (k + 1) = (k + 1) * ch (n + 1) (k + 1) + ch (n + 1) (k + 1) := by rw [Nat.add_mul (k + 1) 1]; omega
    rw [e3, h1]
    have e4 : (n + 1 + 1) * ch (n + 1) (k + 1) = (n + 1) * ch (n + 1) (k + 1) + ch (n + 1) (k + 1) := by rw [Nat.add_mul (n + 1) 1]; omega
    rw [e4, e2, Nat.mul_add]
    omega
def bsum (a n : Nat) : Nat → Nat
  | 0 => 0
  | m + 1 => bsum a n m + ch n m * a ^ m
theorem bsum_succ (a n m : Nat) : bsum a n (m + 1) = bsum a n m + ch n m * a ^ m := rfl
theorem bsum_step (a n : Nat) : ∀ m, bsum a (n + 1) (m + 1) = a * bsum a n m + bsum a n (m + 1)
  | 0 => by simp [bsum, ch_zero]
  | m + 1 => by
    rw [bsum_succ a (n + 1) (m + 1), bsum_step a n m, ch_succ, bsum_succ a n (m + 1), bsum_succ a n m, Nat.pow_succ]
    grind
theorem binom (a : Nat) : ∀ n, (a + 1) ^ n = bsum a n (n + 1)
  | 0 => by simp [bsum, ch_zero]
  | n + 1 => by
    rw [Nat.pow_succ, binom a n, bsum_step, bsum_succ a n (n + 1), ch_lt n (n + 1) (by omega)]
    grind
theorem ch_dvd {p : Nat} (hp : Prime p) (k : Nat) (h0 : 0 < k) (hk : k < p) : p ∣ ch p k := by
  obtain ⟨j, rfl⟩ : ∃ j, k = j + 1 := ⟨k - 1, by omega⟩
  obtain ⟨q, rfl⟩ : ∃ q, p = q + 1 := ⟨p - 1, by omega⟩
  have h := ch_mul q j
  have hd : (q + 1) ∣ (j + 1) * ch (q + 1) (j + 1) := ⟨ch q j, h⟩
  rcases hp.dvd_mul hd with h1 | h1
  · exact absurd (Nat.le_of_dvd (by omega) h1) (by omega)
  · exact h1
theorem bsum_mod {p : Nat} (hp : Prime p) (a : Nat) : ∀ m, m < p → bsum a p (m + 1) % p = 1 % p
  | 0, _ => by simp [bsum, ch_zero]
  | m + 1, h => by
    obtain ⟨c, hc⟩ := ch_dvd hp (m + 1) (by omega) h
    rw [bsum_succ, hc, Nat.mul_assoc, Nat.add_mul_mod_self_left, bsum_mod hp a m (by omega)]
theorem fermat_all {p : Nat} (hp : Prime p) : ∀ a, a ^ p % p = a % p
  | 0 => by rw [Nat.zero_pow (by have := hp.1; omega)]
  | a + 1 => by
    have ih := fermat_all hp a
    have h1 := hp.1
    obtain ⟨q, hq⟩ : ∃ q, p = q + 1 := ⟨p - 1, by omega⟩
    have h2 := bsum_mod hp a q (by omega)
    rw [binom, bsum_succ, ch_self, Nat.one_mul]
    have e : bsum a p p = bsum a p (q + 1) := by rw [← hq]
    rw [e, Nat.add_mod, h2, ih, ← Nat.add_mod, Nat.add_comm]
theorem fermat {p : Nat} (hp : Prime p) (a : Nat) (ha : ¬ p ∣ a) : a ^ (p - 1) % p = 1 := by
  have h1 := hp.1
  have h := fermat_all hp a
  have hpos : 1 ≤ a ^ (p - 1) := by
    have : 0 < a := by
      rcases Nat.eq_zero_or_pos a with h0 | h0
      · subst h0; exact absurd (Nat.dvd_zero p) ha
      · exact h0
    exact Nat.one_le_iff_ne_zero.2 (by have := Nat.pow_pos (n := p - 1) this; omega)
  have e : a ^ p = a * a ^ (p - 1) := by
    conv => lhs; rw [show p = (p - 1) + 1 by omega, Nat.pow_succ]
    exact Nat.mul_comm _ _
  have hd : p ∣ a * (a ^ (p - 1) - 1) := by
    rw [Nat.mul_sub, Nat.mul_one, ← e]
    exact Nat.dvd_of_mod_eq_zero (Nat.sub_mod_eq_zero_of_mod_eq h)
  rcases hp.dvd_mul hd with h2 | h2
  · exact absurd h2 ha
  · obtain ⟨c, hc⟩ := h2
    have : a ^ (p - 1) = 1 + p * c := by omega
    rw [this, Nat.add_mul_mod_self_left, Nat.mod_eq_of_lt h1]
def pm (m : Nat) : Nat → Nat → Nat → Nat
  | 0, _, _ => 1 % m
  | f + 1, a, e => if e = 0 then 1 % m else (if e % 2 = 1 then a * pm m f (a * a % m) (e / 2) % m else pm m f (a * a % m) (e / 2))
theorem pm_eq (m : Nat) : ∀ f a e, e < 2 ^ f → pm m f a e = a ^ e % m
  | 0, a, e, h => by
    have : e = 0 := by simpa using h
    subst this; simp [pm]
  | f + 1, a, e, h => by
    have ih := pm_eq m f (a * a % m) (e / 2) (by rw [Nat.pow_succ] at h; omega)
    unfold pm
    split
    · subst_vars; simp
    · have e2 : (a * a % m) ^ (e / 2) % m = a ^ (2 * (e / 2)) % m := by rw [← Nat.pow_mod, Nat.pow_mul, Nat.pow_two]
      split
      · rename_i h0 h1
        rw [ih, e2, Nat.mul_mod_mod, ← Nat.pow_succ']
        congr 2; omega
      · rename_i h0 h1
        rw [ih, e2]
        congr 2; omega
theorem pow_gcd {r a : Nat} (h1 : 1 < r) : ∀ m n, a ^ m % r = 1 → a ^ n % r = 1 → a ^ Nat.gcd m n % r = 1 := by
  intro m n
  induction m, n using Nat.gcd.induction with
  | H0 n => intro _ h; rw [Nat.gcd_zero_left]; exact h
  | H1 m n hm ih =>
    intro hm1 hn1
    rw [Nat.gcd_rec]
    apply ih
    · have e : a ^ n = (a ^ m) ^ (n / m) * a ^ (n % m) := by rw [← Nat.pow_mul, ← Nat.pow_add, Nat.div_add_mod]
      have e2 : (a ^ m) ^ (n / m) % r = 1 := by rw [Nat.pow_mod, hm1, Nat.one_pow, Nat.mod_eq_of_lt h1]
      rw [e, Nat.mul_mod, e2, Nat.one_mul, Nat.mod_mod] at hn1
      exact hn1
    · exact hm1
theorem pock {r N q M a : Nat} (hr : Prime r) (hrN : r ∣ N) (hq : Prime q) (hN : N = q * M + 1) (h1 : a ^ (q * M) % N = 1) (h2 : Nat.gcd (a ^ M % N + (N - 1)) N = 1) : q ∣ r - 1 := by
  refine Classical.byContradiction fun hnd => ?_
  have hr1 := hr.1
  obtain ⟨c, hc⟩ := hrN
  have h1r : a ^ (q * M) % r = 1 := by
    have : a ^ (q * M) % N % r = a ^ (q * M) % r := Nat.mod_mod_of_dvd _ ⟨c, hc⟩
    rw [← this, h1, Nat.mod_eq_of_lt hr1]
  have hra : ¬ r ∣ a := by
    intro hd
    have hqM : 0 < q * M := by
      rcases Nat.eq_zero_or_pos (q * M) with h0 | h0
      · rw [h0] at hN; subst hN; exact absurd (Nat.dvd_one.1 ⟨c, hc⟩) (by omega)
      · exact h0
    obtain ⟨k, hk⟩ : ∃ k, q * M = k + 1 := ⟨q * M - 1, by omega⟩
    rw [hk, Nat.pow_succ] at h1r
    have : a ^ k * a % r = 0 := Nat.mod_eq_zero_of_dvd (Nat.dvd_trans hd (Nat.dvd_mul_left a _))
    omega
  have hf := fermat hr a hra
  have hg := pow_gcd hr1 _ _ h1r hf
  have hcop : Nat.Coprime (Nat.gcd (q * M) (r - 1)) q :=
    (Nat.Coprime.coprime_dvd_right (Nat.gcd_dvd_right _ _) (hq.coprime hnd)).symm
  have hgM : Nat.gcd (q * M) (r - 1) ∣ M := hcop.dvd_of_dvd_mul_left (Nat.gcd_dvd_left _ _)
  obtain ⟨k, hk⟩ := hgM
  have hM : a ^ M % r = 1 := by
    rw [hk, Nat.pow_mul, Nat.pow_mod, hg, Nat.one_pow, Nat.mod_eq_of_lt hr1]
  have hz : (a ^ M % N + (N - 1)) % r = 0 := by
    have e : a ^ M % N % r = a ^ M % r := Nat.mod_mod_of_dvd _ ⟨c, hc⟩
    have hNr : (1 + (N - 1)) % r = 0 := by
      rw [show 1 + (N - 1) = N by omega, hc, Nat.mul_mod_right]
    rw [Nat.add_mod, e, hM]
    rw [Nat.add_mod, Nat.mod_eq_of_lt hr1] at hNr
    exact hNr
  have hd : r ∣ Nat.gcd (a ^ M % N + (N - 1)) N := Nat.dvd_gcd (Nat.dvd_of_mod_eq_zero hz) ⟨c, hc⟩
  rw [h2] at hd
  exact absurd (Nat.dvd_one.1 hd) (by omega)
theorem has_prime : ∀ n, 1 < n → ∃ r, Prime r ∧ r ∣ n := by
  intro n
  induction n using Nat.strongRecOn with
  | ind n ih =>
    intro hn
    by_cases hp : Prime n
    · exact ⟨n, hp, Nat.dvd_refl n⟩
    · have : ∃ d, d ∣ n ∧ d ≠ 1 ∧ d ≠ n := Classical.byContradiction fun h => hp ⟨hn, fun d hd => Classical.byContradiction fun h2 => h ⟨d, hd, fun e => h2 (Or.inl e), fun e => h2 (Or.inr e)⟩⟩
      obtain ⟨d, hd, h1, h2⟩ := this
      have hle := Nat.le_of_dvd (by omega) hd
      have h0 : d ≠ 0 := by rintro rfl; exact absurd (Nat.eq_zero_of_zero_dvd hd) (by omega)
      obtain ⟨r, hr, hrd⟩ := ih d (by omega) (by omega)
      exact ⟨r, hr, Nat.dvd_trans hrd hd⟩
theorem prime_of {n : Nat} (hn : 1 < n) (h : ∀ r, Prime r → r ∣ n → n < r * r) : Prime n := by
  refine ⟨hn, fun d hd => Classical.byContradiction fun hne => ?_⟩
  have h1 : d ≠ 1 := fun e => hne (Or.inl e)
  have h2 : d ≠ n := fun e => hne (Or.inr e)
  obtain ⟨c, hc⟩ := hd
  have hd0 : d ≠ 0 := by rintro rfl; omega
  have hc0 : c ≠ 0 := by rintro rfl; omega
  have hc1 : c ≠ 1 := by rintro rfl; omega
  obtain ⟨r, hr, hrd⟩ := has_prime d (by omega)
  obtain ⟨s, hs, hsc⟩ := has_prime c (by omega)
  have h3 := h r hr (Nat.dvd_trans hrd ⟨c, hc⟩)
  have h4 := h s hs (Nat.dvd_trans hsc ⟨d, by rw [hc, Nat.mul_comm]⟩)
  have h5 := Nat.le_of_dvd (by omega) hrd
  have h6 := Nat.le_of_dvd (by omega) hsc
  have h7 : r * s ≤ n := by rw [hc]; exact Nat.mul_le_mul h5 h6
  rcases Nat.le_total r s with h8 | h8
  · have : r * r ≤ r * s := Nat.mul_le_mul_left r h8
    omega
  · have : s * s ≤ r * s := Nat.mul_le_mul_right s h8
    omega
def noDiv (n : Nat) : Nat → Bool
  | 0 => true
  | k + 1 => n % (k + 2) != 0 && noDiv n k
theorem noDiv_of (n : Nat) : ∀ k, noDiv n k = true → ∀ d, 2 ≤ d → d < k + 2 → ¬ d ∣ n
  | 0, _, d, h1, h2 => absurd h1 (by omega)
  | k + 1, h, d, h1, h2 => by
    simp only [noDiv, Bool.and_eq_true, bne_iff_ne] at h
    intro hd
    by_cases he : d = k + 2
    · subst he; exact h.1 (Nat.mod_eq_zero_of_dvd hd)
    · exact noDiv_of n k h.2 d h1 (by omega) hd
theorem prime_small {n k : Nat} (hn : 1 < n) (h : noDiv n k = true) (hk : n < (k + 2) * (k + 2)) : Prime n :=
  prime_of hn fun r hr hd => by
    have h1 := hr.1
    have h2 : ¬ r < k + 2 := fun hlt => noDiv_of n k h r (by omega) hlt hd
    have : (k + 2) * (k + 2) ≤ r * r := Nat.mul_le_mul (by omega) (by omega)
    omega
theorem prime_two {N q1 q2 : Nat} (hN : 1 < N) (h : ∀ r, Prime r → r ∣ N → q1 ∣ r - 1 ∧ q2 ∣ r - 1) (hc : Nat.Coprime q1 q2) (hlt : N < (q1 * q2) * (q1 * q2)) : Prime N :=
  prime_of hN fun r hr hd => by
    obtain ⟨h1, h2⟩ := h r hr hd
    have h3 := Nat.le_of_dvd (by have := hr.1; omega) (Nat.Coprime.mul_dvd_of_dvd_of_dvd hc h1 h2)
    have : (q1 * q2) * (q1 * q2) ≤ r * r := Nat.mul_le_mul (by omega) (by omega)
    omega
set_option maxRecDepth 100000
theorem pock2 {r N q M a f : Nat} (hr : Prime r) (hrN : r ∣ N) (hq : Prime q) (hN : N = q * M + 1) (hf : q * M < 2 ^ f) (hf2 : M < 2 ^ f) (h1 : pm N f a (q * M) = 1) (h2 : Nat.gcd (pm N f a M + (N - 1)) N = 1) : q ∣ r - 1 := by
  rw [pm_eq N f a _ hf] at h1
  rw [pm_eq N f a _ hf2] at h2
  exact pock hr hrN hq hN h1 h2
theorem prime_3 : Prime 3 := prime_small (k := 1) (by decide) (by decide +kernel) (by decide)
theorem prime_47 : Prime 47 := prime_small (k := 6) (by decide) (by decide +kernel) (by decide)
theorem prime_353 : Prime 353 := prime_small (k := 18) (by decide) (by decide +kernel) (by decide)
theorem prime_75707 : Prime 75707 := prime_small (k := 275) (by decide) (by decide +kernel) (by decide)
theorem prime_8574133 : Prime 8574133 := prime_small (k := 2928) (by decide) (by decide +kernel) (by decide)
theorem prime_s1 : Prime 1919519569386763 :=
  prime_two (q1 := 8574133) (q2 := 47) (by decide) (fun r hr hd => ⟨pock2 (q := 8574133) (M := 223873314) (a := 2) (f := 51) hr hd prime_8574133 (by decide) (by decide) (by decide) (by decide +kernel) (by decide +kernel),
    pock2 (q := 47) (M := 40840841901846) (a := 2) (f := 51) hr hd prime_47 (by decide) (by decide) (by decide) (by decide +kernel) (by decide +kernel)⟩) (by decide +kernel) (by decide)
theorem prime_r1 : Prime 75445702479781427272750846543864801 :=
  prime_two (q1 := 1919519569386763) (q2 := 75707) (by decide) (fun r hr hd => ⟨pock2 (q := 1919519569386763) (M := 39304471641247389600) (a := 2) (f := 116) hr hd prime_s1 (by decide) (by decide) (by decide) (by decide +kernel) (by decide +kernel),
    pock2 (q := 75707) (M := 996548568557483816196003626400) (a := 2) (f := 116) hr hd prime_75707 (by decide) (by decide) (by decide) (by decide +kernel) (by decide +kernel)⟩) (by decide +kernel) (by decide)
theorem prime_q0 : Prime 74058212732561358302231226437062788676166966415465897661863160754340907 :=
  prime_two (q1 := 75445702479781427272750846543864801) (q2 := 353) (by decide) (fun r hr hd => ⟨pock2 (q := 75445702479781427272750846543864801) (M := 981609426360740691344999861639072106) (a := 2) (f := 236) hr hd prime_r1 (by decide) (by decide) (by decide) (by decide +kernel) (by decide +kernel),
    pock2 (q := 353) (M := 209796636636151156663544550813209033076960244803019540118592523383402) (a := 2) (f := 236) hr hd prime_353 (by decide) (by decide) (by decide) (by decide +kernel) (by decide +kernel)⟩) (by decide +kernel) (by decide)
theorem prime_p : Prime 57896044618658097711785492504343953926634992332820282019728792003956564819949 :=
  prime_two (q1 := 74058212732561358302231226437062788676166966415465897661863160754340907) (q2 := 3) (by decide) (fun r hr hd => ⟨pock2 (q := 74058212732561358302231226437062788676166966415465897661863160754340907) (M := 781764) (a := 2) (f := 255) hr hd prime_q0 (by decide) (by decide) (by decide) (by decide +kernel) (by decide +kernel),
    pock2 (q := 3) (M := 19298681539552699237261830834781317975544997444273427339909597334652188273316) (a := 2) (f := 255) hr hd prime_3 (by decide) (by decide) (by decide) (by decide +kernel) (by decide +kernel)⟩) (by decide +kernel) (by decide)
def PN : Nat := 57896044618658097711785492504343953926634992332820282019728792003956564819949
theorem PN_PP : (PN : Int) = PP := by decide
theorem PN_prime : Prime PN := prime_p
theorem pow_mod_int (n : Int) : ∀ k : Nat, n ^ k % PP = (n % PP) ^ k % PP
  | 0 => by simp
  | k + 1 => by
    rw [Int.pow_succ, Int.pow_succ]
    exact mod_mul (pow_mod_int n k) (by rw [Int.emod_emod_of_dvd _ (Int.dvd_refl _)])
theorem pow_same {a b : Int} (h : a % PP = b % PP) (k : Nat) : a ^ k % PP = b ^ k % PP := by rw [pow_mod_int a, pow_mod_int b, h]
theorem pow_cast (n : Int) (k : Nat) : n ^ k % PP = (((n % PP).toNat ^ k % PN : Nat) : Int) := by
  have h := modP_b n
  rw [pow_mod_int n k, Int.natCast_emod, Int.natCast_pow, Int.toNat_of_nonneg h.1, PN_PP]
theorem toNat_lt (n : Int) : (n % PP).toNat < PN := by
  have h := modP_b n
  unfold PN; omega
theorem not_dvd_of (n : Int) (h : n % PP ≠ 0) : ¬ PN ∣ (n % PP).toNat := by
  intro hd
  have h1 := modP_b n
  have h2 := toNat_lt n
  have := Nat.eq_zero_of_dvd_of_lt hd h2
  omega
theorem ferm1 (n : Int) (h : n % PP ≠ 0) : n ^ (PN - 1) % PP = 1 := by
  rw [pow_cast, fermat PN_prime _ (not_dvd_of n h)]; rfl
theorem zero_pow (n : Int) (h : n % PP = 0) (k : Nat) (hk : 0 < k) : n ^ k % PP = 0 := by
  rw [pow_mod_int, h, Int.zero_pow (by omega)]; rfl
theorem mul_zero_mod {a b : Int} (h : a * b % PP = 0) : a % PP = 0 ∨ b % PP = 0 := by
  have h1 := modP_b a
  have h2 := modP_b b
  have hd : PN ∣ (a % PP).toNat * (b % PP).toNat := by
    apply Nat.dvd_of_mod_eq_zero
    have e : (((a % PP).toNat * (b % PP).toNat % PN : Nat) : Int) = a * b % PP := by
      rw [Int.natCast_emod, Int.natCast_mul, Int.toNat_of_nonneg h1.1, Int.toNat_of_nonneg h2.1, PN_PP, ← Int.mul_emod]
    rw [h] at e; omega
  rcases PN_prime.dvd_mul hd with h3 | h3
  · left
    have := Nat.eq_zero_of_dvd_of_lt h3 (toNat_lt a); omega
  · right
    have := Nat.eq_zero_of_dvd_of_lt h3 (toNat_lt b); omega
theorem exp_inv : expN (exB 255 21) 256 = PN - 2 := by decide +kernel
theorem exp_root : expN (exB 252 2) 256 = (PN + 3) / 8 := by decide +kernel
theorem exp_i : expN (exB 253 5) 256 = (PN - 1) / 4 := by decide +kernel
end Go.Proofs.YtbmnkchcekacfaaDoor.P.Fd
end

section
namespace Go.Proofs.YtbmnkchcekacfaaDoor.P.Fd
set_option linter.unusedVariables false
set_option linter.unusedSimpArgs false
open Go.RowKit Go.ChangeShapes Go.WideShapes Go.Proofs.YtbmnkchcekacfaaDoorW.PrintWords Go.Proofs.YtbmnkchcekacfaaDoorW.PrintLast Go.Proofs.YtbmnkchcekacfaaDoorW.PrintMore
attribute [local go_sem] setCell_drewN
theorem Fe.zero : Fe (fun _ => 0) 0 := ⟨⟨fun i _ => by show 0 ≤ (0 : Int) ∧ (0 : Int) < _; omega, by show 0 ≤ (0 : Int) ∧ (0 : Int) < _; omega⟩, by decide⟩
theorem Fe.inv {f : Nat → Int} {n : Int} (hf : Fe f n) : Fe (invE f) (n ^ (PN - 2)) := by
  have h := Fe.pow hf (exB 255 21) 256
  rw [exp_inv] at h
  exact h
theorem inv_mul (n : Int) : decide (n * n ^ (PN - 2) % PP = 1 % PP) = !decide (n % PP = 0) := by
  have e : n * n ^ (PN - 2) = n ^ (PN - 1) := by
    rw [Int.mul_comm, ← Int.pow_succ]
    rfl
  rw [e]
  by_cases h : n % PP = 0
  · rw [zero_pow _ h _ (by decide)]; simp [h]; decide
  · rw [ferm1 _ h]; simp [h]; decide
def x0N (n : Int) : Int := n ^ ((PN + 3) / 8)
def sq0 (n : Int) : Bool := decide (x0N n * x0N n % PP = n % PP)
def x1N (i n : Int) : Int := if sq0 n then x0N n else x0N n * i
def rOk (i n : Int) : Bool := decide (x1N i n * x1N i n % PP = n % PP)
def rOdd (i n : Int) : Bool := decide (x1N i n % PP % 2 = 1)
def rN (i n : Int) : Int := if rOk i n then (if rOdd i n then 0 - x1N i n else x1N i n) else 0
theorem rN_sq {i n : Int} (h : rOk i n = true) : rN i n * rN i n % PP = n % PP := by
  have h1 : x1N i n * x1N i n % PP = n % PP := of_decide_eq_true h
  unfold rN
  rw [if_pos h]
  split
  · rw [show (0 - x1N i n) * (0 - x1N i n) = x1N i n * x1N i n by grind]; exact h1
  · exact h1
theorem rN_even (i n : Int) : decide (rN i n % PP % 2 = 1) = false := by
  rw [decide_eq_false_iff_not]
  unfold rN
  split
  · split
    · rename_i h1 h2
      have h3 : x1N i n % PP % 2 = 1 := of_decide_eq_true h2
      have e : (0 - x1N i n) % PP = (0 - x1N i n % PP) % PP := by
        rw [Int.sub_emod, Int.sub_emod 0 (x1N i n % PP), Int.emod_emod_of_dvd _ (Int.dvd_refl _)]
      have hb := modP_b (x1N i n)
      rw [e]
      clear e h2
      generalize x1N i n % PP = y at *
      have e2 : (0 - y) % PP = PP - y := by
        rw [show 0 - y = (PP - y) + PP * (-1) by unfold PP; omega, Int.add_mul_emod_self_left]
        exact Int.emod_eq_of_lt (by unfold PP; omega) (by omega)
      rw [e2]
      unfold PP
      omega
    · rename_i h1 h2
      have h3 : ¬ x1N i n % PP % 2 = 1 := fun h => h2 (decide_eq_true h)
      exact h3
  · decide
theorem sub_zero_mod {a b : Int} (h : a % PP = b % PP) : (a - b) % PP = 0 := by
  rw [Int.sub_emod, h]; simp
theorem mod_of_sub {a b : Int} (h : (a - b) % PP = 0) : a % PP = b % PP := by
  have h0 : (a - b) % PP = 0 % PP := by rw [h]; rfl
  have := mod_add h0 (rfl : b % PP = b % PP)
  rw [show a - b + b = a by omega, show 0 + b = b by omega] at this
  exact this
theorem sq_same {a b : Int} (h : a * a % PP = b * b % PP) : a % PP = b % PP ∨ a % PP = (0 - b) % PP := by
  have h1 := sub_zero_mod h
  rw [show a * a - b * b = (a - b) * (a + b) by grind] at h1
  rcases mul_zero_mod h1 with h2 | h2
  · exact Or.inl (mod_of_sub h2)
  · right
    apply mod_of_sub
    rw [show a - (0 - b) = a + b by omega]; exact h2
theorem half_pow (n : Int) (h : n % PP ≠ 0) : n ^ ((PN - 1) / 2) % PP = 1 % PP ∨ n ^ ((PN - 1) / 2) % PP = (0 - 1) % PP := by
  have e : n ^ ((PN - 1) / 2) * n ^ ((PN - 1) / 2) = n ^ (PN - 1) := by
    rw [← Int.pow_add, show (PN - 1) / 2 + (PN - 1) / 2 = PN - 1 by unfold PN; omega]
  have h1 := ferm1 n h
  apply sq_same
  rw [e, h1]; rfl
theorem rOk_sq (i : Int) (hi : i * i % PP = (0 - 1) % PP) (n : Int) : rOk i (n * n) = true := by
  unfold rOk
  rw [decide_eq_true_eq]
  unfold x1N
  by_cases h0 : sq0 (n * n) = true
  · rw [if_pos h0]
    exact of_decide_eq_true h0
  · rw [if_neg h0]
    by_cases hz : n % PP = 0
    · exfalso
      apply h0
      unfold sq0
      rw [decide_eq_true_eq]
      have hz2 : n * n % PP = 0 := by rw [Int.mul_emod, hz]; rfl
      have h1 : x0N (n * n) % PP = 0 := zero_pow _ hz2 _ (by decide)
      rw [hz2, Int.mul_emod, h1]; rfl
    · have e : x0N (n * n) * x0N (n * n) = n * n * n ^ ((PN - 1) / 2) := by
        unfold x0N
        rw [← Int.pow_add, show n * n = n ^ 2 by rw [Int.pow_succ, Int.pow_succ, Int.pow_zero, Int.one_mul], ← Int.pow_mul, ← Int.pow_add, show 2 * ((PN + 3) / 8 + (PN + 3) / 8) = 2 + (PN - 1) / 2 by unfold PN; omega]
      rcases half_pow n hz with h1 | h1
      · exfalso
        apply h0
        unfold sq0
        rw [decide_eq_true_eq, e]
        have := mod_mul (rfl : n * n % PP = n * n % PP) h1
        rw [this, Int.mul_one]
      · have e2 : x0N (n * n) * i * (x0N (n * n) * i) = n * n * n ^ ((PN - 1) / 2) * (i * i) := by
          rw [← e]; grind
        rw [e2]
        have h2 := mod_mul (mod_mul (rfl : n * n % PP = n * n % PP) h1) hi
        rw [h2]
        congr 1; grind
theorem root_i (a : Nat) (ha : a = 2) : a ^ ((PN - 1) / 2) % PN = PN - 1 := by
  rw [← pm_eq PN 255 a _ (by decide)]
  subst ha
  decide +kernel
theorem iN_sq (s : Int) (hs : s = 2) : s ^ ((PN - 1) / 4) * s ^ ((PN - 1) / 4) % PP = (0 - 1) % PP := by
  rw [← Int.pow_add, show (PN - 1) / 4 + (PN - 1) / 4 = (PN - 1) / 2 by decide, pow_cast]
  have e : (s % PP).toNat = 2 := by subst hs; decide
  rw [root_i _ e]
  decide
end Go.Proofs.YtbmnkchcekacfaaDoor.P.Fd
end

section
namespace Go.Proofs.YtbmnkchcekacfaaDoorW.PrintLast
section
variable {P : Program} {ops : Array Oper} {Q : Exit → Act → World → Prop} {md : Region.Mode} {S : World → Prop} {ds : List Nat} {T : Bool × List (List Nat × List Nat)}
theorem five_of {i j k m n : Nat} {l li lj lk lm ln : Array Bool} (hT : rtab md ops = T) (h : (readyT T.2 l.toList == [i, j, k, m, n] && l.toList.set i true == li.toList && l.toList.set j true == lj.toList && l.toList.set k true == lk.toList && l.toList.set m true == lm.toList && l.toList.set n true == ln.toList) = true) : (Region.ready md ops l == [i, j, k, m, n] && l.setIfInBounds i true == li && l.setIfInBounds j true == lj && l.setIfInBounds k true == lk && l.setIfInBounds m true == lm && l.setIfInBounds n true == ln) = true := by
  simp only [Bool.and_eq_true] at h ⊢
  obtain ⟨⟨⟨⟨⟨hr, hsi⟩, hsj⟩, hsk⟩, hsm⟩, hsn⟩ := h
  subst hT
  exact ⟨⟨⟨⟨⟨by rw [ready_eq]; exact hr, set_of hsi⟩, set_of hsj⟩, set_of hsk⟩, set_of hsm⟩, set_of hsn⟩
end
end Go.Proofs.YtbmnkchcekacfaaDoorW.PrintLast
end

section
namespace Go.Proofs.YtbmnkchcekacfaaDoor.P.Fd
set_option linter.unusedVariables false
set_option linter.unusedSimpArgs false
set_option maxRecDepth 4096
open Go.RowKit Go.ChangeShapes Go.WideShapes Go.Proofs.YtbmnkchcekacfaaDoorW.PrintWords Go.Proofs.YtbmnkchcekacfaaDoorW.PrintLast Go.Proofs.YtbmnkchcekacfaaDoorW.PrintMore
attribute [local go_sem] setCell_drewN
def iE : Nat → Int := powE (smL 2) (exB 253 5) 256
def iR : Nat → Int := powR (zM (fun i => if i = 0 then 2 else 0) 16) (exB 253 5) 256
def two : Int := 2
def iZ : Int := two ^ ((PN - 1) / 4)
theorem iZ_sq : iZ * iZ % PP = (0 - 1) % PP := iN_sq two rfl
theorem iE_Fe : Fe iE iZ := by
  have h := Fe.pow (show Fe (smL 2) two from Fe.small 2 (by omega)) (exB 253 5) 256
  rw [exp_i] at h
  exact h
theorem iR_Re : Re iR iZ := by
  have h := Re.pow (show Re (zM (fun i => if i = 0 then 2 else 0) 16) two from Re.small 2 (by omega)) (exB 253 5) 256
  rw [exp_i] at h
  exact h
def x0E (f : Nat → Int) : Nat → Int := powE f (exB 252 2) 256
def x0R (g : Nat → Int) : Nat → Int := powR g (exB 252 2) 256
theorem x0E_Fe {f : Nat → Int} {n : Int} (hf : Fe f n) : Fe (x0E f) (x0N n) := by
  have h := Fe.pow hf (exB 252 2) 256
  rw [exp_root] at h
  exact h
theorem x0R_Re {g : Nat → Int} {n : Int} (hg : Re g n) : Re (x0R g) (x0N n) := by
  have h := Re.pow hg (exB 252 2) 256
  rw [exp_root] at h
  exact h
def x1E (f : Nat → Int) (n : Int) : Nat → Int := if sq0 n then x0E f else mulE (x0E f) iE
def x1R (g : Nat → Int) (n : Int) : Nat → Int := if sq0 n then x0R g else mulR (x0R g) iR
theorem x1E_Fe {f : Nat → Int} {n : Int} (hf : Fe f n) : Fe (x1E f n) (x1N iZ n) := by
  unfold x1E x1N
  split
  · exact x0E_Fe hf
  · exact (x0E_Fe hf).mul iE_Fe
theorem x1R_Re {g : Nat → Int} {n : Int} (hg : Re g n) : Re (x1R g n) (x1N iZ n) := by
  unfold x1R x1N
  split
  · exact x0R_Re hg
  · exact (x0R_Re hg).mul iR_Re
def rtE (f : Nat → Int) (n : Int) : Nat → Int := if rOk iZ n then (if rOdd iZ n then negE (x1E f n) else x1E f n) else fun _ => 0
def rtR (g : Nat → Int) (n : Int) : Nat → Int := if rOk iZ n then (if rOdd iZ n then subR (fun _ => 0) (x1R g n) else x1R g n) else fun _ => 0
theorem rtE_Fe {f : Nat → Int} {n : Int} (hf : Fe f n) : Fe (rtE f n) (rN iZ n) := by
  unfold rtE rN
  split
  · split
    · exact (x1E_Fe hf).neg
    · exact x1E_Fe hf
  · exact Fe.zero
theorem rtR_Re {g : Nat → Int} {n : Int} (hg : Re g n) : Re (rtR g n) (rN iZ n) := by
  unfold rtR rN
  split
  · split
    · exact Re.zero.sub (x1R_Re hg)
    · exact x1R_Re hg
  · exact Re.zero
theorem x1E_y {f : Nat → Int} {n : Int} (h : sq0 n = true) : x1E f n = x0E f := if_pos h
theorem x1E_n {f : Nat → Int} {n : Int} (h : sq0 n = false) : x1E f n = mulE (x0E f) iE := if_neg (by rw [h]; decide)
theorem x1R_y {f : Nat → Int} {n : Int} (h : sq0 n = true) : x1R f n = x0R f := if_pos h
theorem x1R_n {f : Nat → Int} {n : Int} (h : sq0 n = false) : x1R f n = mulR (x0R f) iR := if_neg (by rw [h]; decide)
theorem rtE_no {f : Nat → Int} {n : Int} (h : rOk iZ n = false) : rtE f n = fun _ => 0 := if_neg (by rw [h]; decide)
theorem rtE_n {f : Nat → Int} {n : Int} (h : rOk iZ n = true) (k : rOdd iZ n = false) : rtE f n = x1E f n := (if_pos h).trans (if_neg (by rw [k]; decide))
theorem rtE_y {f : Nat → Int} {n : Int} (h : rOk iZ n = true) (k : rOdd iZ n = true) : rtE f n = negE (x1E f n) := (if_pos h).trans (if_pos k)
theorem rtR_no {f : Nat → Int} {n : Int} (h : rOk iZ n = false) : rtR f n = fun _ => 0 := if_neg (by rw [h]; decide)
theorem rtR_n {f : Nat → Int} {n : Int} (h : rOk iZ n = true) (k : rOdd iZ n = false) : rtR f n = x1R f n := (if_pos h).trans (if_neg (by rw [k]; decide))
theorem rtR_y {f : Nat → Int} {n : Int} (h : rOk iZ n = true) (k : rOdd iZ n = true) : rtR f n = subR (fun _ => 0) (x1R f n) := (if_pos h).trans (if_pos k)
theorem refIs_bool {f g : Nat → Int} {n m : Int} (hf : Re f n) (hg : Re g m) (r : Bool) (h : decide (n % PP = m % PP) = r) (w : World) : Calls Tryd.prog 64 #[.agg (FR .i64 16 f), .agg (FR .i64 16 g)] w fun e w' => e = .returned (.bool r) ∧ Below w.heap.size w w' := by
  have := ref_is_calls f g w hf.1.cb hg.1.cb
  rw [hf.2, hg.2, h] at this
  exact this
theorem odd_bool {f : Nat → Int} {n : Int} (hf : Fe f n) (r : Bool) (h : decide (n % PP % 2 = 1) = r) (w : World) : Calls Tryd.prog 41 #[.agg (FR .u64 5 f)] w fun e w' => e = .returned (.bool r) ∧ Below w.heap.size w w' := by
  have := elem_odd_calls f w hf.1.c
  rw [hf.2, h] at this
  exact this
theorem refOdd_bool {g : Nat → Int} {n : Int} (hg : Re g n) (r : Bool) (h : decide (n % PP % 2 = 1) = r) (w : World) : Calls Tryd.prog 46 #[.agg (FR .i64 16 g)] w fun e w' => e = .returned (.bool r) ∧ Below w.heap.size w w' := by
  have := ref_odd_calls g w hg.1.cb
  rw [hg.2, h] at this
  exact this
end Go.Proofs.YtbmnkchcekacfaaDoor.P.Fd
end

section
namespace Go.Proofs.YtbmnkchcekacfaaDoor.P
set_option linter.unusedVariables false
open Go.Proofs.YtbmnkchcekacfaaDoor.P.Fd
instance : NeZero PN := ⟨by decide⟩
def toF (x : Int) : Fin PN := ⟨(x % PP).toNat, toNat_lt x⟩
theorem toF_val (x : Int) : ((toF x).val : Int) = x % PP := Int.toNat_of_nonneg (modP_b x).1
theorem toF_eq {a b : Int} : toF a = toF b ↔ a % PP = b % PP := by
  constructor
  · intro h
    rw [← toF_val, ← toF_val, h]
  · intro h
    apply Fin.ext
    show (a % PP).toNat = (b % PP).toNat
    rw [h]
theorem toF_of {a : Fin PN} {x : Int} (h : (a.val : Int) % PP = x % PP) : toF x = a := by
  apply Fin.ext
  have h2 : ((toF x).val : Int) = (a.val : Int) := by
    rw [toF_val, ← h]
    have := a.2
    exact Int.emod_eq_of_lt (by omega) (by rw [← PN_PP]; omega)
  omega
theorem toF_add (a b : Int) : toF (a + b) = toF a + toF b := by
  apply toF_of
  rw [Fin.val_add, Int.natCast_emod, PN_PP, Int.emod_emod_of_dvd _ (Int.dvd_refl _), Int.natCast_add, toF_val, toF_val, ← Int.add_emod]
theorem toF_mul (a b : Int) : toF (a * b) = toF a * toF b := by
  apply toF_of
  rw [Fin.val_mul, Int.natCast_emod, PN_PP, Int.emod_emod_of_dvd _ (Int.dvd_refl _), Int.natCast_mul, toF_val, toF_val, ← Int.mul_emod]
theorem toF_zero : toF 0 = 0 := by apply toF_of; rfl
theorem toF_one : toF 1 = 1 := by apply toF_of; decide
theorem toF_sub (a b : Int) : toF (a - b) = toF a - toF b := by
  have h := toF_add (a - b) b
  rw [show a - b + b = a by omega] at h
  rw [h]
  grind
theorem toF_surj (a : Fin PN) : toF (a.val : Int) = a := toF_of rfl
theorem toF_ne {a : Int} : toF a ≠ 0 ↔ a % PP ≠ 0 := by
  rw [← toF_zero, Ne, toF_eq]
  exact Iff.rfl
theorem inv_F (a : Fin PN) (h : a ≠ 0) : ∃ b, a * b = 1 := by
  rw [← toF_surj a] at h ⊢
  refine ⟨toF ((a.val : Int) ^ (PN - 2)), ?_⟩
  rw [← toF_mul, ← toF_one, toF_eq]
  have h2 := inv_mul (a.val : Int)
  have h3 : ¬ (a.val : Int) % PP = 0 := toF_ne.1 h
  rw [decide_eq_false h3] at h2
  exact of_decide_eq_true h2
def dN : Nat := 37095705934669439343138083508754565189542113879843219016388785533085940283555
def dF : Fin PN := toF (dN : Int)
theorem dN_half : dN ^ ((PN - 1) / 2) % PN = PN - 1 := by
  rw [← pm_eq PN 256 dN ((PN - 1) / 2) (by decide +kernel)]
  decide +kernel
theorem dF_nsq (z : Fin PN) : z * z ≠ dF := by
  intro h
  rw [← toF_surj z, ← toF_mul, dF, toF_eq] at h
  generalize (z.val : Int) = x at h
  have hd : (dN : Int) % PP ≠ 0 := by decide
  have hx : x % PP ≠ 0 := fun e => hd (by rw [← h, Int.mul_emod, e]; rfl)
  have h1 : ((dN : Int) ^ ((PN - 1) / 2)) % PP = 1 := by
    rw [← pow_same h ((PN - 1) / 2), Int.mul_pow, ← Int.pow_add]
    rw [show (PN - 1) / 2 + (PN - 1) / 2 = PN - 1 by decide +kernel]
    exact ferm1 x hx
  have h2 := dN_half
  have h3 : (((dN ^ ((PN - 1) / 2) % PN : Nat)) : Int) = ((PN - 1 : Nat) : Int) := by rw [h2]
  rw [Int.natCast_emod, Int.natCast_pow, PN_PP, h1] at h3
  exact absurd h3 (by decide +kernel)
theorem zsub {n : Nat} [NeZero n] (a : Fin n) : 0 - a = -a := by grind
theorem two_F {n : Nat} [NeZero n] : (1 : Fin n) + 1 = 2 := by grind
theorem fld : Fld PN dF where
  inv := inv_F
  one := by rw [← toF_one]; exact toF_ne.2 (by decide)
  two := by
    have e : (2 : Fin PN) = toF 2 := by rw [show (2 : Int) = 1 + 1 by decide, toF_add, toF_one]; exact two_F.symm
    rw [e]; exact toF_ne.2 (by decide)
  im := ⟨toF iZ, by
    rw [← toF_mul, toF_eq.2 iZ_sq, toF_sub, toF_zero, toF_one]; exact zsub 1⟩
  nsq := dF_nsq
end Go.Proofs.YtbmnkchcekacfaaDoor.P
end

section
namespace Go.Proofs.YtbmnkchcekacfaaDoorW.PrintLast
def up (b : Nat → Bool) (i : Nat) : Nat → Bool := fun j => if j = i then true else b j
theorem up_self (b : Nat → Bool) (i : Nat) : up b i i = true := by simp [up]
theorem up_ne {b : Nat → Bool} {i j : Nat} (h : j ≠ i) : up b i j = b j := by simp [up, h]
def lof (n : Nat) (O : List Nat) (b : Nat → Bool) : List Bool := (List.range n).map fun j => if O.contains j then b j else true
def zP (a : Act) (b : Nat → Bool) : List (Nat × Tmp × Value) → Act
  | [] => a
  | e :: r => zP (if b e.1 = true then a.put (some e.2.1) e.2.2 else a) b r
section
variable {P : Program} {ops : Array Oper} {Q : Exit → Act → World → Prop} {md : Region.Mode} {T : Bool × List (List Nat × List Nat)} {B : List Nat} {O : List Nat} {b : Nat → Bool} {i j n : Nat}
theorem lof_length : (lof n O b).length = n := by simp [lof]
theorem lof_get {d : Bool} (hj : j < n) : (lof n O b).getD j d = if O.contains j then b j else true := by
  simp [lof, List.getD_eq_getElem?_getD, hj]
theorem lof_up (hi : O.contains i = true) : (lof n O b).set i true = lof n O (up b i) := by
  apply List.ext_getElem?
  intro j
  by_cases hj : j < n
  · by_cases hij : i = j
    · subst hij
      have hl : i < (lof n O b).length := by rw [lof_length]; exact hj
      rw [List.getElem?_set_self hl]
      simp only [lof, List.getElem?_map, List.getElem?_range hj, Option.map_some, hi, if_true, up_self]
    · rw [List.getElem?_set_ne hij]
      simp only [lof, List.getElem?_map, List.getElem?_range hj, Option.map_some]
      rw [up_ne (Ne.symm hij)]
  · rw [List.getElem?_eq_none (by simp [lof]; omega), List.getElem?_eq_none (by simp [lof]; omega)]
def StepAt (P : Program) (ops : Array Oper) (Q : Exit → Act → World → Prop) (B : List Nat) (O : List Nat) (I : (Nat → Bool) → Act → World → Prop) (i : Nat) : Prop :=
  ∀ b a w, I b a w → b i = false → (∀ j, (O.contains j && (B.getD i 0).testBit j) = true → b j = true) → (∀ d, (O.contains d && (B.getD d 0).testBit i) = true → b d = false) →
    ∃ oi, ops[i]? = some oi ∧ ∀ K : Act → World → Prop, Shut (∀ a' w', I (up b i) a' w' → K a' w') → if Region.wanted oi (yielded ops a.tmps) = true then Oper.wp P oi a w K Q else K (a.put oi.dst undef) w
theorem zE {I : (Nat → Bool) → Act → World → Prop} : ∀ i ∈ ([] : List Nat), StepAt P ops Q B O I i := fun _ h => by cases h
theorem zA {I : (Nat → Bool) → Act → World → Prop} {rs : List Nat} (h : StepAt P ops Q B O I i) (hs : ∀ j ∈ rs, StepAt P ops Q B O I j) : ∀ j ∈ i :: rs, StepAt P ops Q B O I j := fun j hj => by
  rcases List.mem_cons.1 hj with rfl | hj
  · exact h
  · exact hs j hj
def baseOk (T : List (List Nat × List Nat)) (O : List Nat) : Bool :=
  (List.range T.length).all (fun d => match T[d]? with
    | some r => (O.contains d || r.1.all fun n => !O.contains n) && r.1.all fun n => decide (n < d)
    | none => false) && O.all (fun i => decide (i < T.length)) && decide O.Nodup
theorem baseOk_row {T : List (List Nat × List Nat)} (h : baseOk T O = true) {d : Nat} {r : List Nat × List Nat} (hr : T[d]? = some r) : (O.contains d = false → ∀ n ∈ r.1, O.contains n = false) ∧ ∀ n ∈ r.1, n < d := by
  simp only [baseOk, Bool.and_eq_true] at h
  have h1 := List.all_eq_true.1 h.1.1 d (List.mem_range.2 (List.getElem?_eq_some_iff.1 hr).1)
  rw [hr] at h1
  simp only [Bool.and_eq_true, Bool.or_eq_true, List.all_eq_true, decide_eq_true_eq] at h1
  refine ⟨fun hd n hn => ?_, h1.2⟩
  rcases h1.1 with h2 | h2
  · rw [hd] at h2; cases h2
  · simpa using h2 n hn
theorem baseOk_lt {T : List (List Nat × List Nat)} (h : baseOk T O = true) {i : Nat} (hi : i ∈ O) : i < T.length := by
  simp only [baseOk, Bool.and_eq_true] at h
  simpa using List.all_eq_true.1 h.1.2 i hi
theorem baseOk_nodup {T : List (List Nat × List Nat)} (h : baseOk T O = true) : O.Nodup := by
  simp only [baseOk, Bool.and_eq_true] at h
  exact of_decide_eq_true h.2
def Closed (T : List (List Nat × List Nat)) (O : List Nat) (b : Nat → Bool) : Prop := ∀ d r, T[d]? = some r → O.contains d = true → b d = true → ∀ n ∈ r.1, O.contains n = true → b n = true
theorem bits_out {T : List (List Nat × List Nat)} (hw : zW T B = true) (hk : baseOk T O = true) : ∀ (m d : Nat), d ≤ m → d < T.length → O.contains d = false → ∀ j, (B.getD d 0).testBit j = true → O.contains j = false := by
  intro m
  induction m with
  | zero =>
    intro d hd hl hO j hj
    have hd0 : d = 0 := by omega
    subst hd0
    have hr : T[0]? = some T[0] := List.getElem?_eq_getElem hl
    have h1 := List.all_eq_true.1 hw 0 (List.mem_range.2 hl)
    rw [hr] at h1
    simp only [beq_iff_eq] at h1
    have h2 : (upM B 0 T[0].1).testBit j = true := by rw [← h1, Nat.testBit_or, hj, Bool.true_or]
    obtain ⟨n, hn, h3⟩ := upM_bit h2
    have := (baseOk_row hk hr).2 n hn
    omega
  | succ m ih =>
    intro d hd hl hO j hj
    have hr : T[d]? = some T[d] := List.getElem?_eq_getElem hl
    have h1 := List.all_eq_true.1 hw d (List.mem_range.2 hl)
    rw [hr] at h1
    simp only [beq_iff_eq] at h1
    have h2 : (upM B d T[d].1).testBit j = true := by rw [← h1, Nat.testBit_or, hj, Bool.true_or]
    obtain ⟨n, hn, h3⟩ := upM_bit h2
    have hO2 := (baseOk_row hk hr).1 hO n hn
    rcases h3 with rfl | ⟨h4, h5⟩
    · exact hO2
    · exact ih n (by omega) (by omega) hO2 j h5
theorem closed_bits {T : List (List Nat × List Nat)} (hw : zW T B = true) (hk : baseOk T O = true) (hc : Closed T O b) : ∀ (m d : Nat), d ≤ m → d < T.length → O.contains d = true → b d = true → ∀ j, O.contains j = true → (B.getD d 0).testBit j = true → b j = true := by
  intro m
  induction m with
  | zero =>
    intro d hd hl hO hb j hjO hj
    have hd0 : d = 0 := by omega
    subst hd0
    have hr : T[0]? = some T[0] := List.getElem?_eq_getElem hl
    have h1 := List.all_eq_true.1 hw 0 (List.mem_range.2 hl)
    rw [hr] at h1
    simp only [beq_iff_eq] at h1
    have h2 : (upM B 0 T[0].1).testBit j = true := by rw [← h1, Nat.testBit_or, hj, Bool.true_or]
    obtain ⟨n, hn, h3⟩ := upM_bit h2
    have := (baseOk_row hk hr).2 n hn
    omega
  | succ m ih =>
    intro d hd hl hO hb j hjO hj
    have hr : T[d]? = some T[d] := List.getElem?_eq_getElem hl
    have h1 := List.all_eq_true.1 hw d (List.mem_range.2 hl)
    rw [hr] at h1
    simp only [beq_iff_eq] at h1
    have h2 : (upM B d T[d].1).testBit j = true := by rw [← h1, Nat.testBit_or, hj, Bool.true_or]
    obtain ⟨n, hn, h3⟩ := upM_bit h2
    rcases h3 with rfl | ⟨h4, h5⟩
    · exact hc d _ hr hO hb n hn hjO
    · cases hO2 : O.contains n with
      | true => exact ih n (by omega) (by omega) hO2 (hc d _ hr hO hb n hn hO2) j hjO h5
      | false =>
        have := bits_out hw hk n n (Nat.le_refl _) (by omega) hO2 j h5
        rw [hjO] at this
        cases this
theorem up_count : ∀ {O : List Nat}, O.Nodup → i ∈ O → b i = false → (O.filter fun j => !up b i j).length + 1 = (O.filter fun j => !b j).length
  | [], _, hi, _ => by cases hi
  | x :: r, hn, hi, hb => by
    rw [List.nodup_cons] at hn
    rcases List.mem_cons.1 hi with rfl | hi
    · have h1 : (r.filter fun j => !up b i j) = r.filter fun j => !b j := by
        refine List.filter_congr (fun j hj => ?_)
        rw [up_ne (fun e => hn.1 (by rw [← e]; exact hj))]
      rw [List.filter_cons, List.filter_cons]
      simp [up_self, hb, h1]
    · have hxi : x ≠ i := fun e => hn.1 (e ▸ hi)
      have h1 := up_count hn.2 hi hb
      rw [List.filter_cons, List.filter_cons, up_ne hxi]
      cases hbx : b x
      · simp only [Bool.not_false, if_true, List.length_cons]
        omega
      · simpa using h1
theorem inv_all (hT : rtab md ops = T) (hw : zW T.2 B = true) (hk : baseOk T.2 O = true) (I : (Nat → Bool) → Act → World → Prop) (hs : ∀ i ∈ O, StepAt P ops Q B O I i)
    (hend : ∀ b a w, (∀ j, O.contains j = true → b j = true) → I b a w → Q .normal a w) :
    ∀ (m : Nat) (b : Nat → Bool) (a : Act) (w : World), (O.filter fun j => !b j).length = m → Closed T.2 O b → I b a w → yD P md ops Q (fun _ => True) [] m (lof T.2.length O b).toArray a w := by
  subst hT
  have mem_ready' : ∀ {b : Nat → Bool} {i : Nat}, i ∈ Region.ready md ops (lof (rtab md ops).2.length O b).toArray → i < (rtab md ops).2.length ∧ O.contains i = true ∧ b i = false ∧ ∀ r, (rtab md ops).2[i]? = some r → ∀ n ∈ r.1, n < (rtab md ops).2.length → O.contains n = true → b n = true := by
    intro b i hi
    rw [ready_eq] at hi
    unfold readyT at hi
    rw [List.mem_filter, List.mem_range] at hi
    obtain ⟨hl, h1⟩ := hi
    unfold readyAt at h1
    rw [Bool.and_eq_true, lof_get hl] at h1
    obtain ⟨h2, h3⟩ := h1
    have h4 : O.contains i = true := by
      cases h : O.contains i with
      | true => rfl
      | false => rw [h] at h2; simp at h2
    rw [h4] at h2
    refine ⟨hl, h4, by simpa using h2, fun r hr n hn hnl hO => ?_⟩
    rw [hr] at h3
    simp only [List.all_eq_true] at h3
    have h5 := h3 n hn
    rw [lof_get hnl, hO] at h5
    simpa using h5
  intro m
  induction m with
  | zero =>
    intro b a w hm hc hI
    have hall : ∀ j, O.contains j = true → b j = true := by
      intro j hj
      cases hb : b j with
      | true => rfl
      | false =>
        have : j ∈ O.filter fun j => !b j := List.mem_filter.2 ⟨List.contains_iff_mem.1 hj, by simp [hb]⟩
        rw [List.eq_nil_of_length_eq_zero hm] at this
        cases this
    refine ⟨?_, hend b a w hall hI⟩
    refine List.eq_nil_iff_forall_not_mem.2 (fun i hi => ?_)
    obtain ⟨_, h1, h2, _⟩ := mem_ready' hi
    rw [hall i h1] at h2
    cases h2
  | succ m ih =>
    intro b a w hm hc hI
    refine ⟨fun hr => ?_, fun i hi => ?_⟩
    · exfalso
      -- the smallest number that isn't listed is ready
      have hex : ∃ i, O.contains i = true ∧ b i = false := by
        cases hf : O.filter (fun j => !b j) with
        | nil => rw [hf] at hm; simp at hm
        | cons x r =>
          have hx : x ∈ O.filter (fun j => !b j) := by rw [hf]; exact List.mem_cons_self
          rw [List.mem_filter] at hx
          exact ⟨x, List.contains_iff_mem.2 hx.1, by simpa using hx.2⟩
      have hmin : ∀ k, (∃ i, i ≤ k ∧ O.contains i = true ∧ b i = false) → ∃ i, O.contains i = true ∧ b i = false ∧ ∀ j, j < i → O.contains j = true → b j = true := by
        intro k
        induction k with
        | zero =>
          rintro ⟨i, hi, h1, h2⟩
          exact ⟨i, h1, h2, fun j hj => by omega⟩
        | succ k ihk =>
          rintro ⟨i, hi, h1, h2⟩
          by_cases hlow : ∃ j, j ≤ k ∧ O.contains j = true ∧ b j = false
          · exact ihk hlow
          · refine ⟨i, h1, h2, fun j hj hO => ?_⟩
            cases hb : b j with
            | true => rfl
            | false => exact absurd ⟨j, by omega, hO, hb⟩ hlow
      obtain ⟨i0, h1, h2⟩ := hex
      obtain ⟨i, hO, hb, hlow⟩ := hmin i0 ⟨i0, Nat.le_refl _, h1, h2⟩
      have hl := baseOk_lt hk (List.contains_iff_mem.1 hO)
      have hin : i ∈ Region.ready md ops (lof (rtab md ops).2.length O b).toArray := by
        rw [ready_eq]
        unfold readyT
        rw [List.mem_filter, List.mem_range]
        refine ⟨hl, ?_⟩
        unfold readyAt
        rw [lof_get hl, hO, hb]
        have hr2 : (rtab md ops).2[i]? = some (rtab md ops).2[i] := List.getElem?_eq_getElem hl
        rw [hr2]
        simp only [if_true, Bool.not_false, Bool.true_and, List.all_eq_true]
        intro n hn
        have hni := (baseOk_row hk hr2).2 n hn
        rw [lof_get (by omega)]
        cases hOn : O.contains n with
        | true => simpa using hlow n hni hOn
        | false => simp
      rw [hr] at hin
      cases hin
    · obtain ⟨hl, hO, hb, hneed⟩ := mem_ready' hi
      have hon : ∀ j, (O.contains j && (B.getD i 0).testBit j) = true → b j = true := by
        intro j hj
        rw [Bool.and_eq_true] at hj
        have hr2 : (rtab md ops).2[i]? = some (rtab md ops).2[i] := List.getElem?_eq_getElem hl
        have h1 := List.all_eq_true.1 hw i (List.mem_range.2 hl)
        rw [hr2] at h1
        simp only [beq_iff_eq] at h1
        have h2 : (upM B i (rtab md ops).2[i].1).testBit j = true := by rw [← h1, Nat.testBit_or, hj.2, Bool.true_or]
        obtain ⟨n, hn, h3⟩ := upM_bit h2
        have hni := (baseOk_row hk hr2).2 n hn
        rcases h3 with rfl | ⟨h4, h5⟩
        · exact hneed _ hr2 n hn (by omega) hj.1
        · cases hO2 : O.contains n with
          | true => exact closed_bits hw hk hc n n (Nat.le_refl _) (by omega) hO2 (hneed _ hr2 n hn (by omega) hO2) j hj.1 h5
          | false =>
            have := bits_out hw hk n n (Nat.le_refl _) (by omega) hO2 j h5
            rw [hj.1] at this
            cases this
      have hoff : ∀ d, (O.contains d && (B.getD d 0).testBit i) = true → b d = false := by
        intro d hd
        rw [Bool.and_eq_true] at hd
        cases hbd : b d with
        | false => rfl
        | true =>
          have hdl := baseOk_lt hk (List.contains_iff_mem.1 hd.1)
          have := closed_bits hw hk hc d d (Nat.le_refl _) hdl hd.1 hbd i hO hd.2
          rw [hb] at this
          cases this
      obtain ⟨oi, hoi, hK⟩ := hs i (List.contains_iff_mem.1 hO) b a w hI hb hon hoff
      refine wpOp_step hoi (fun K' hK' => hK K' (fun a' w' hI' => hK' a' w' ⟨fun _ _ => trivial, ?_⟩))
      have hset : (lof (rtab md ops).2.length O b).toArray.setIfInBounds i true = (lof (rtab md ops).2.length O (up b i)).toArray := by
        apply Array.ext'
        rw [Array.toList_setIfInBounds]
        exact lof_up hO
      rw [hset]
      refine ih (up b i) a' w' ?_ ?_ hI'
      · have := up_count (baseOk_nodup hk) (List.contains_iff_mem.1 hO) hb
        omega
      · intro d r hr hOd hbd n hn hOn
        by_cases hni : n = i
        · rw [hni, up_self]
        · rw [up_ne hni]
          by_cases hdi : d = i
          · subst hdi
            exact hneed r hr n hn (by have := (baseOk_row hk hr).2 n hn; omega) hOn
          · rw [up_ne hdi] at hbd
            exact hc d r hr hOd hbd n hn hOn
theorem putSel_size (b : Nat → Bool) : ∀ (L : List (Nat × Tmp × Value)) (a : Act), (zP a b L).tmps.size = a.tmps.size ∧ (zP a b L).defers = a.defers
  | [], a => ⟨rfl, rfl⟩
  | e :: r, a => by
    unfold zP
    by_cases h : b e.1 = true
    · rw [if_pos h]
      have := putSel_size b r (a.put (some e.2.1) e.2.2)
      exact ⟨this.1.trans (by simp [Act.put]), this.2.trans rfl⟩
    · rw [if_neg h]
      exact putSel_size b r a
theorem putSel_off {b : Nat → Bool} {t : Tmp} : ∀ {L : List (Nat × Tmp × Value)} {a : Act}, (L.all fun e => !(e.2.1 == t)) = true → (zP a b L).tmps[t]? = a.tmps[t]?
  | [], _, _ => rfl
  | e :: r, a, h => by
    rw [List.all_cons, Bool.and_eq_true] at h
    have he : e.2.1 ≠ t := by simpa using h.1
    unfold zP
    by_cases hb : b e.1 = true
    · rw [if_pos hb, putSel_off h.2]
      simp [Act.put, Array.getElem?_setIfInBounds_ne he]
    · rw [if_neg hb]
      exact putSel_off h.2
theorem putSel_on {b : Nat → Bool} {e : Nat × Tmp × Value} : ∀ {L : List (Nat × Tmp × Value)} {a : Act} (k : Nat), L[k]? = some e → ((L.drop (k + 1)).all fun x => !(x.2.1 == e.2.1)) = true → b e.1 = true → Nat.ble (e.2.1 + 1) a.tmps.size = true → (zP a b L).tmps[e.2.1]? = some e.2.2
  | [], _, _, h, _, _, _ => by cases h
  | x :: r, a, 0, h, hd, hb, ht => by
    simp only [List.getElem?_cons_zero, Option.some.injEq] at h
    subst h
    unfold zP
    rw [if_pos hb, putSel_off (by simpa using hd)]
    have ht2 : x.2.1 < a.tmps.size := Nat.le_of_ble_eq_true ht
    simp [Act.put, ht2]
  | x :: r, a, k + 1, h, hd, hb, ht => by
    unfold zP
    refine putSel_on k (by simpa using h) (by simpa using hd) hb ?_
    by_cases hx : b x.1 = true
    · rw [if_pos hx]
      simpa [Act.put] using ht
    · rw [if_neg hx]
      exact ht
theorem put_comm {a : Act} {s t : Tmp} {u v : Value} (h : s ≠ t) : (a.put (some s) u).put (some t) v = (a.put (some t) v).put (some s) u := by
  simp only [Act.put]
  rw [Array.setIfInBounds_comm _ _ h]
theorem putSel_put {b : Nat → Bool} {t : Tmp} {v : Value} : ∀ {L : List (Nat × Tmp × Value)} {a : Act}, (L.all fun e => !(e.2.1 == t)) = true → (zP a b L).put (some t) v = zP (a.put (some t) v) b L
  | [], _, _ => rfl
  | e :: r, a, h => by
    rw [List.all_cons, Bool.and_eq_true] at h
    have he : e.2.1 ≠ t := by simpa using h.1
    unfold zP
    by_cases hb : b e.1 = true
    · rw [if_pos hb, if_pos hb, putSel_put h.2, put_comm he]
    · rw [if_neg hb, if_neg hb]
      exact putSel_put h.2
theorem putSel_same {b : Nat → Bool} {i : Nat} : ∀ {L : List (Nat × Tmp × Value)} {a : Act}, (L.all fun e => !(e.1 == i)) = true → zP a (up b i) L = zP a b L
  | [], _, _ => rfl
  | e :: r, a, h => by
    rw [List.all_cons, Bool.and_eq_true] at h
    have he : e.1 ≠ i := by simpa using h.1
    unfold zP
    rw [up_ne he]
    exact putSel_same h.2
theorem putSel_up {b : Nat → Bool} {i : Nat} {t : Tmp} {v0 v : Value} : ∀ {L1 L2 : List (Nat × Tmp × Value)} {a : Act}, b i = false → ((L1 ++ L2).all fun e => !(e.1 == i) && !(e.2.1 == t)) = true →
    (zP a b (L1 ++ (i, t, v0) :: L2)).put (some t) v = zP a (up b i) (L1 ++ (i, t, v) :: L2)
  | [], L2, a, hb, h => by
    simp only [List.nil_append] at h ⊢
    have h1 : (L2.all fun e => !(e.1 == i)) = true := List.all_eq_true.2 (fun e he => by have := List.all_eq_true.1 h e he; simp only [Bool.and_eq_true] at this; exact this.1)
    have h2 : (L2.all fun e => !(e.2.1 == t)) = true := List.all_eq_true.2 (fun e he => by have := List.all_eq_true.1 h e he; simp only [Bool.and_eq_true] at this; exact this.2)
    unfold zP
    rw [if_neg (by rw [hb]; decide), if_pos (up_self b i), putSel_put h2, putSel_same h1]
  | e :: r, L2, a, hb, h => by
    simp only [List.cons_append, List.all_cons, Bool.and_eq_true] at h
    have he : e.1 ≠ i := by simpa using h.1.1
    simp only [List.cons_append]
    unfold zP
    rw [up_ne he]
    exact putSel_up hb h.2
theorem putSel_upk {b : Nat → Bool} {i : Nat} {t : Tmp} {v0 v : Value} {a : Act} {L L' : List (Nat × Tmp × Value)} (k : Nat) (hb : b i = false) (hL : L[k]? = some (i, t, v0)) (hL' : L.set k (i, t, v) = L') (hd : ((L.take k ++ L.drop (k + 1)).all fun e => !(e.1 == i) && !(e.2.1 == t)) = true) :
    (zP a b L).put (some t) v = zP a (up b i) L' := by
  have hk := (List.getElem?_eq_some_iff.1 hL).1
  have h1 : L = L.take k ++ (i, t, v0) :: L.drop (k + 1) := by
    have h2 : L[k] = (i, t, v0) := (List.getElem?_eq_some_iff.1 hL).2
    rw [← h2, List.getElem_cons_drop, List.take_append_drop]
  have h3 : L' = L.take k ++ (i, t, v) :: L.drop (k + 1) := by rw [← hL', List.set_eq_take_append_cons_drop, if_pos hk]
  rw [h3]
  conv => lhs; rw [h1]
  exact putSel_up hb hd
theorem inv_ {l : Array Bool} {fuel : Nat} {a : Act} {w : World} (O : List Nat) (I : (Nat → Bool) → Act → World → Prop) (hT : rtab md ops = T) (hw : zW T.2 B = true) (hk : baseOk T.2 O = true)
    (hl : (lof T.2.length O (fun _ => false) == l.toList && O.length == fuel) = true) (h0 : I (fun _ => false) a w) (hs : ∀ i ∈ O, StepAt P ops Q B O I i)
    (hend : ∀ b a w, (∀ j, O.contains j = true → b j = true) → I b a w → Q .normal a w) : yD P md ops Q (fun _ => True) [] fuel l a w := by
  rw [Bool.and_eq_true, beq_iff_eq, beq_iff_eq] at hl
  have h1 := inv_all hT hw hk I hs hend fuel (fun _ => false) a w (by rw [← hl.2]; simp) (fun d r _ _ hb => by cases hb) h0
  have h2 : (lof T.2.length O (fun _ => false)).toArray = l := by apply Array.ext'; exact hl.1
  rw [h2] at h1
  exact h1
end
end Go.Proofs.YtbmnkchcekacfaaDoorW.PrintLast
end

section
namespace Go.Proofs.YtbmnkchcekacfaaDoor.P
set_option linter.unusedVariables false
set_option linter.unusedSimpArgs false
open Go.RowKit Go.ChangeShapes Go.WideShapes Go.Proofs.YtbmnkchcekacfaaDoorW.PrintWords Go.Proofs.YtbmnkchcekacfaaDoorW.PrintLast Go.Proofs.YtbmnkchcekacfaaDoorW.PrintMore
structure Ent where
  g : Nat
  born : Option Nat
  stored : Option Nat
  k : IntKind
  n : Nat
  f0 : Nat → Int
  f1 : Nat → Int
  t : TypeId
def Ent.ad (x : Ent) (G : Nat → Nat) : Nat := match x.born with
  | none => x.g
  | some i => G i
inductive SV where
  | val (v : Value)
  | new (i : Nat) (mk : Nat → Value)
def SV.ptr (i off : Nat) : SV := .new i fun g => .pointer (some ⟨g, off, none⟩)
def SV.sl (i n c : Nat) : SV := .new i fun g => .slice (some ⟨g, 0, none⟩) n c
def SV.at (G : Nat → Nat) : SV → Value
  | .val v => v
  | .new i mk => mk (G i)
def SV.of (i : Nat) : SV → Bool
  | .val _ => false
  | .new j _ => j == i
def vals (G : Nat → Nat) (L : List (Nat × Tmp × SV)) : List (Nat × Tmp × Value) := L.map fun e => (e.1, e.2.1, e.2.2.at G)
structure RowD where
  g : Nat
  k : IntKind
  n : Nat
  f : Nat → Int
  t : TypeId
def Held (wE w : World) (R : List RowD) : Prop := Below wE.heap.size wE w ∧ (∀ r ∈ R, wE.heap.size ≤ r.g ∧ Row w r.g r.k r.n r.f r.t) ∧ (R.map RowD.g).Nodup
def isOn (b : Nat → Bool) (d : Bool) : Option Nat → Bool
  | none => d
  | some i => b i
def Ent.f (x : Ent) (b : Nat → Bool) : Nat → Int := if isOn b false x.stored = true then x.f1 else x.f0
def RI (wE : World) (a0 : Act) (L : List (Nat × Tmp × SV)) (A : List Ent) (b : Nat → Bool) (a : Act) (w : World) : Prop :=
  ∃ G : Nat → Nat, a = zP a0 b (vals G L) ∧ Below wE.heap.size wE w ∧ (∀ x ∈ A, isOn b true x.born = true → wE.heap.size ≤ x.ad G ∧ Row w (x.ad G) x.k x.n (x.f b) x.t) ∧
    A.Pairwise (fun x y => isOn b true x.born = true → isOn b true y.born = true → x.ad G ≠ y.ad G)
section
variable {P : Program} {ops : Array Oper} {Q : Exit → Act → World → Prop} {B O : List Nat} {wE : World} {a0 : Act} {L : List (Nat × Tmp × SV)} {A : List Ent} {i : Nat}
def Ons (B O : List Nat) (i : Nat) (b : Nat → Bool) : Prop := ∀ j, (O.contains j && (B.getD i 0).testBit j) = true → b j = true
def Offs (B O : List Nat) (i : Nat) (b : Nat → Bool) : Prop := ∀ d, (O.contains d && (B.getD d 0).testBit i) = true → b d = false
theorem isOn_up {b : Nat → Bool} {d : Bool} {i : Nat} {o : Option Nat} (h : (o == some i) = false) : isOn (up b i) d o = isOn b d o := by
  cases o with
  | none => rfl
  | some j =>
    have hj : j ≠ i := fun e => by subst e; simp at h
    exact up_ne hj
def LOk (L : List (Nat × Tmp × SV)) : Prop := (L.map fun e => e.1).Nodup ∧ (L.map fun e => e.2.1).Nodup
def nodB : List Nat → Bool
  | [] => true
  | a :: r => (r.all fun b => !Nat.beq a b) && nodB r
theorem nodB_is : ∀ {l : List Nat}, nodB l = true → l.Nodup
  | [], _ => List.nodup_nil
  | a :: r, h => by
    unfold nodB at h
    rw [Bool.and_eq_true] at h
    refine List.nodup_cons.2 ⟨fun hm => ?_, nodB_is h.2⟩
    have := List.all_eq_true.1 h.1 a hm
    rw [Nat.beq_refl] at this
    cases this
theorem lok (h1 : nodB (L.map fun e => e.1) = true) (h2 : nodB (L.map fun e => e.2.1) = true) : LOk L := ⟨nodB_is h1, nodB_is h2⟩
theorem vals_get {G : Nat → Nat} {k : Nat} {e : Nat × Tmp × SV} (h : L[k]? = some e) : (vals G L)[k]? = some (e.1, e.2.1, e.2.2.at G) := by
  unfold vals
  rw [List.getElem?_map, h]; rfl
theorem LOk.drop {d : Nat} {t : Tmp} {v : SV} {k : Nat} (h : LOk L) (hL : L[k]? = some (d, t, v)) (G : Nat → Nat) : (((vals G L).drop (k + 1)).all fun x => !(x.2.1 == t)) = true := by
  rw [List.all_eq_true]
  intro e he
  obtain ⟨m, hm⟩ := List.getElem?_of_mem he
  rw [List.getElem?_drop] at hm
  unfold vals at hm
  rw [List.getElem?_map] at hm
  cases h2 : L[k + 1 + m]? with
  | none => rw [h2] at hm; cases hm
  | some e2 =>
    rw [h2] at hm
    obtain rfl := Option.some.inj hm
    have h3 := h.2
    rw [List.nodup_iff_pairwise_ne, List.pairwise_iff_getElem] at h3
    obtain ⟨hk, hke⟩ := List.getElem?_eq_some_iff.1 hL
    obtain ⟨hl, hle⟩ := List.getElem?_eq_some_iff.1 h2
    have := h3 k (k + 1 + m) (by simpa using hk) (by simpa using hl) (by omega)
    simp only [List.getElem_map, hke, hle] at this
    simpa using fun e => this e.symm
theorem LOk.rest {N : Tmp} {v : SV} {k : Nat} (h : LOk L) (hL : L[k]? = some (i, N, v)) (G : Nat → Nat) : (((vals G L).take k ++ (vals G L).drop (k + 1)).all fun e => !(e.1 == i) && !(e.2.1 == N)) = true := by
  rw [List.all_eq_true]
  intro e he
  obtain ⟨hk, hke⟩ := List.getElem?_eq_some_iff.1 hL
  have key : ∃ j, j ≠ k ∧ (vals G L)[j]? = some e := by
    rw [List.mem_append] at he
    rcases he with he | he
    · obtain ⟨m, hm⟩ := List.getElem?_of_mem he
      have hlt : m < k := by
        apply Decidable.byContradiction
        intro hn
        rw [List.getElem?_eq_none (by simp; omega)] at hm; cases hm
      exact ⟨m, by omega, by rw [List.getElem?_take_of_lt hlt] at hm; exact hm⟩
    · obtain ⟨m, hm⟩ := List.getElem?_of_mem he
      rw [List.getElem?_drop] at hm
      exact ⟨k + 1 + m, by omega, hm⟩
  obtain ⟨j, hj, hje⟩ := key
  unfold vals at hje
  rw [List.getElem?_map] at hje
  cases h2 : L[j]? with
  | none => rw [h2] at hje; cases hje
  | some e2 =>
    rw [h2] at hje
    obtain rfl := Option.some.inj hje
    obtain ⟨hl, hle⟩ := List.getElem?_eq_some_iff.1 h2
    have h3 := h.1
    have h4 := h.2
    rw [List.nodup_iff_pairwise_ne, List.pairwise_iff_getElem] at h3 h4
    have a1 : e2.1 ≠ i := by
      rcases Nat.lt_or_ge j k with hlt | hge
      · have := h3 j k (by simpa using hl) (by simpa using hk) hlt
        simpa only [List.getElem_map, hke, hle] using this
      · have := h3 k j (by simpa using hk) (by simpa using hl) (by omega)
        simp only [List.getElem_map, hke, hle] at this
        exact fun e => this e.symm
    have a2 : e2.2.1 ≠ N := by
      rcases Nat.lt_or_ge j k with hlt | hge
      · have := h4 j k (by simpa using hl) (by simpa using hk) hlt
        simpa only [List.getElem_map, hke, hle] using this
      · have := h4 k j (by simpa using hk) (by simpa using hl) (by omega)
        simp only [List.getElem_map, hke, hle] at this
        exact fun e => this e.symm
    simp [a1, a2]
theorem vals_setG {G : Nat → Nat} {N : Tmp} {k g : Nat} {mk : Nat → Value} (h : ((L.take k ++ L.drop (k + 1)).all fun e => !e.2.2.of i) = true) (hL : L[k]? = some (i, N, .new i mk)) : vals (fun j => if j = i then g else G j) L = (vals G L).set k (i, N, mk g) := by
  obtain ⟨hk, hke⟩ := List.getElem?_eq_some_iff.1 hL
  apply List.ext_getElem?
  intro j
  by_cases hj : j = k
  · subst hj
    rw [List.getElem?_set_self (by unfold vals; simpa using hk), vals_get hL]
    simp [SV.at]
  · rw [List.getElem?_set_ne (Ne.symm hj)]
    unfold vals
    rw [List.getElem?_map, List.getElem?_map]
    cases h2 : L[j]? with
    | none => rfl
    | some e =>
      have hm : e ∈ L.take k ++ L.drop (k + 1) := by
        rw [List.mem_append]
        by_cases hlt : j < k
        · left; exact List.mem_of_getElem? (i := j) (by rw [List.getElem?_take_of_lt hlt]; exact h2)
        · right; exact List.mem_of_getElem? (i := j - (k + 1)) (by rw [List.getElem?_drop]; rw [show k + 1 + (j - (k + 1)) = j by omega]; exact h2)
      have h3 := List.all_eq_true.1 h e hm
      obtain ⟨e1, e2, e3⟩ := e
      cases e3 with
      | val v => rfl
      | new p off =>
        simp only [SV.of, Bool.not_eq_true', beq_eq_false_iff_ne] at h3
        simp [SV.at, h3]
theorem zB {b : Nat → Bool} {G : Nat → Nat} {d : Nat} {t : Tmp} {v : SV} (hLo : LOk L) (k : Nat) (hL : L[k]? = some (d, t, v)) {sz : Nat} (hsz : a0.tmps.size = sz) (hs : Nat.ble (t + 1) sz = true) (hb : b d = true) : (zP a0 b (vals G L)).eval (.tmp t) = v.at G := by
  subst hsz
  have h := putSel_on (a := a0) (b := b) (e := (d, t, v.at G)) k (vals_get hL) (hLo.drop hL G) hb hs
  show (zP a0 b (vals G L)).tmps.getD t undef = v.at G
  rw [Array.getD_eq_getD_getElem?, h]
  rfl
theorem zD {b : Nat → Bool} {G : Nat → Nat} {t : Tmp} {v : Value} (h : (L.all fun e => !(e.2.1 == t)) = true) (hv : a0.eval (.tmp t) = v) : (zP a0 b (vals G L)).eval (.tmp t) = v := by
  show (zP a0 b (vals G L)).tmps.getD t undef = v
  rw [Array.getD_eq_getD_getElem?, putSel_off (by unfold vals; rw [List.all_map]; exact h), ← Array.getD_eq_getD_getElem?]
  exact hv
theorem putSel_pre {b : Nat → Bool} {t : Tmp} : ∀ {M : List (Nat × Tmp × Value)} {a : Act}, (∀ e ∈ M, e.2.1 = t → b e.1 = false) → (zP a b M).tmps[t]? = a.tmps[t]?
  | [], _, _ => rfl
  | e :: r, a, h => by
    unfold zP
    by_cases hb : b e.1 = true
    · have he : e.2.1 ≠ t := fun h2 => by have := h e List.mem_cons_self h2; rw [hb] at this; cases this
      rw [if_pos hb, putSel_pre (fun x hx => h x (List.mem_cons_of_mem _ hx))]
      simp [Act.put, Array.getElem?_setIfInBounds_ne he]
    · rw [if_neg hb]
      exact putSel_pre (fun x hx => h x (List.mem_cons_of_mem _ hx))
theorem ev_pre {b : Nat → Bool} {G : Nat → Nat} {d : Nat} {t : Tmp} {sv : SV} {v : Value} (hLo : LOk L) (k : Nat) (hL : L[k]? = some (d, t, sv)) (hb : b d = false) (hv : a0.eval (.tmp t) = v) : (zP a0 b (vals G L)).eval (.tmp t) = v := by
  show (zP a0 b (vals G L)).tmps.getD t undef = v
  rw [Array.getD_eq_getD_getElem?, putSel_pre (fun e he h2 => ?_), ← Array.getD_eq_getD_getElem?]
  · exact hv
  · unfold vals at he
    obtain ⟨e2, he2, rfl⟩ := List.mem_map.1 he
    obtain ⟨j, hj⟩ := List.getElem?_of_mem he2
    obtain ⟨hk, hke⟩ := List.getElem?_eq_some_iff.1 hL
    obtain ⟨hl, hle⟩ := List.getElem?_eq_some_iff.1 hj
    have h4 := hLo.2
    rw [List.nodup_iff_pairwise_ne, List.pairwise_iff_getElem] at h4
    have : j = k := by
      apply Decidable.byContradiction
      intro hne
      rcases Nat.lt_or_ge j k with hlt | hge
      · have := h4 j k (by simpa using hl) (by simpa using hk) hlt
        simp only [List.getElem_map, hke, hle] at this
        exact this h2
      · have := h4 k j (by simpa using hk) (by simpa using hl) (by omega)
        simp only [List.getElem_map, hke, hle] at this
        exact this h2.symm
    subst this
    rw [hL] at hj
    obtain rfl := Option.some.inj hj
    exact hb
theorem st_keep {N : Tmp} {oi : Oper} (k : Nat) (v : SV) (hoi : ops[i]? = some oi) (hN : oi.dst = some N) (hLo : LOk L) (hL : L[k]? = some (i, N, v))
    (hA : (A.all fun x => !(x.born == some i) && !(x.stored == some i)) = true)
    (hgo : ∀ b G w (K : Act → World → Prop), Below wE.heap.size wE w → Ons B O i b → Offs B O i b → (∀ x ∈ A, isOn b true x.born = true → wE.heap.size ≤ x.ad G ∧ Row w (x.ad G) x.k x.n (x.f b) x.t) →
      (∀ w', Below w.heap.size w w' → K ((zP a0 b (vals G L)).put oi.dst (v.at G)) w') →
      if Region.wanted oi (yielded ops (zP a0 b (vals G L)).tmps) = true then Oper.wp P oi (zP a0 b (vals G L)) w K Q else K ((zP a0 b (vals G L)).put oi.dst undef) w) :
    StepAt P ops Q B O (RI wE a0 L A) i := by
  rintro b a w ⟨G, rfl, hB, hR, hD⟩ hb hon hoff
  refine ⟨oi, hoi, fun K hK => hgo b G w K hB hon hoff hR (fun w' hw' => hK _ _ ⟨G, ?_, hB.trans (hw'.mono hB.size), fun x hx hbx => ?_, ?_⟩)⟩
  · rw [hN]
    exact putSel_upk k hb (vals_get hL) (by have h := vals_get (G := G) hL; obtain ⟨h1, h2⟩ := List.getElem?_eq_some_iff.1 h; rw [← h2]; exact List.set_getElem_self h1) (hLo.rest hL G)
  · have hx2 := List.all_eq_true.1 hA x hx
    simp only [Bool.and_eq_true, Bool.not_eq_true'] at hx2
    rw [isOn_up hx2.1] at hbx
    have h := hR x hx hbx
    have e : x.f (up b i) = x.f b := by unfold Ent.f; rw [isOn_up hx2.2]
    rw [e]
    exact ⟨h.1, h.2.below hw' h.2.lt⟩
  · refine hD.imp_of_mem (fun {x y} hx hy h h1 h2 => ?_)
    have hx2 := List.all_eq_true.1 hA x hx
    have hy2 := List.all_eq_true.1 hA y hy
    simp only [Bool.and_eq_true, Bool.not_eq_true'] at hx2 hy2
    rw [isOn_up hx2.1] at h1
    rw [isOn_up hy2.1] at h2
    exact h h1 h2
theorem zC {N : Tmp} {oi : Oper} (k : Nat) (v : SV) (hoi : ops[i]? = some oi) (hN : oi.dst = some N) (hLo : LOk L) (hL : L[k]? = some (i, N, v))
    (hA : (A.all fun x => !(x.born == some i) && !(x.stored == some i)) = true)
    (hw : ∀ b G, Ons B O i b → Offs B O i b → Region.wanted oi (yielded ops (zP a0 b (vals G L)).tmps) = true) (hrun : ∀ b G w, Ons B O i b → Offs B O i b → (execOp (zP a0 b (vals G L)).eval oi).run P w = .ok (.value (v.at G)) w) : StepAt P ops Q B O (RI wE a0 L A) i :=
  st_keep k v hoi hN hLo hL hA (fun b G w K hB hon hoff hR hK => event_step (hw b G hon hoff) (hrun b G w hon hoff) (hK _ (Below.refl _ _)))
def onB (B O : List Nat) (i : Nat) : Option Nat → Bool
  | none => true
  | some j => O.contains j && (B.getD i 0).testBit j
def offB (B O : List Nat) (i : Nat) : Option Nat → Bool
  | none => true
  | some s => O.contains s && (B.getD s 0).testBit i
theorem onB_is {b : Nat → Bool} {o : Option Nat} (h : onB B O i o = true) (hon : Ons B O i b) : isOn b true o = true := by
  cases o with
  | none => rfl
  | some j => exact hon j h
theorem offB_is {b : Nat → Bool} {o : Option Nat} (h : offB B O i o = true) (hoff : Offs B O i b) : isOn b false o = false := by
  cases o with
  | none => rfl
  | some j => exact hoff j h
theorem add_at (g off j : Nat) : (⟨g, off, none⟩ : Addr).add j = ⟨g, off + j, none⟩ := by
  unfold Addr.add
  split
  · subst j; rfl
  · rfl
theorem exec_load_at {o : Oper} {ev : Operand → Value} {w : World} {k : IntKind} {n : Nat} {f : Nat → Int} {ty : TypeId} {x : Operand} {ad : Addr} {d : TypeDesc}
    (hr : ∀ j, j < n → w.cell? (ad.add j) = some (.int k (f j))) (hu : P.underlying ty = some d) (hi : (P.info? ty).map (·.size) = some n) (hd : (match d with | .struct _ | .array _ _ => true | _ => false) = true) (ho : o.op = .load ty x) (hx : ev x = .pointer (some ad)) :
    (execOp ev o).run P w = .ok (.value (.agg (FR k n f))) w := by
  obtain ⟨ie, hie, hs⟩ : ∃ ie, P.info? ty = some ie ∧ ie.size = n := by
    cases he : P.info? ty with
    | none => rw [he] at hi; cases hi
    | some ie => rw [he] at hi; exact ⟨ie, rfl, Option.some.inj hi⟩
  have hti : (typeInfo ty).run P w = .ok ie w := by simp [typeInfo, hie]
  have ha : (isAgg ty).run P w = .ok true w := by
    simp only [isAgg, Sem.run_bind, run_underlying hu, Result.andThen_ok]
    cases d <;> simp_all
  have hl : (loadCells ad n).run P w = .ok (FR k n f) w := by
    have := run_loadCells_list (P := P) w ad (FR k n f).toList (fun j v hv => by
      rw [Array.getElem?_toList] at hv
      by_cases hj : j < n
      · rw [FR_at _ _ _ _ hj] at hv; rw [hr j hj]; exact hv
      · rw [FR_out _ _ _ _ hj] at hv; cases hv)
    rw [Array.length_toList, FR_size] at this
    simpa using this
  unfold execOp
  simp only [ho, hx, Instr.loadAt, Instr.sureAddr, Sem.run_bind, Sem.run_pure, Result.andThen_ok, loadVar, ha, sizeOf, hti, hs, hl, if_true]
theorem ad_setG {x : Ent} {G : Nat → Nat} {g : Nat} (h : (x.born == some i) = false) : x.ad (fun j => if j = i then g else G j) = x.ad G := by
  unfold Ent.ad
  cases hb : x.born with
  | none => rfl
  | some j =>
    rw [hb] at h
    have : j ≠ i := fun e => by subst e; simp at h
    simp [this]
theorem yA {N : Tmp} {oi : Oper} (k : Nat) (r : Nat) (x : Ent) (off m : Nat) {ty : TypeId} {p : Operand} {d : TypeDesc} (hx : A[r]? = some x) (hoi : ops[i]? = some oi) (hN : oi.dst = some N) (ho : oi.op = .load ty p) (hw : ∀ b G, Ons B O i b → Offs B O i b → Region.wanted oi (yielded ops (zP a0 b (vals G L)).tmps) = true)
    (hLo : LOk L) (hL : L[k]? = some (i, N, .val (.agg (FR x.k m fun j => x.f0 (off + j))))) (hA : (A.all fun x => !(x.born == some i) && !(x.stored == some i)) = true)
    (hbo : onB B O i x.born = true) (hst : offB B O i x.stored = true) (hm : off + m ≤ x.n) (hu : P.underlying ty = some d) (hi : (P.info? ty).map (·.size) = some m) (hdd : (match d with | .struct _ | .array _ _ => true | _ => false) = true)
    (hp : ∀ b G, Ons B O i b → Offs B O i b → (zP a0 b (vals G L)).eval p = .pointer (some ⟨x.ad G, off, none⟩)) : StepAt P ops Q B O (RI wE a0 L A) i :=
  st_keep k (.val (.agg (FR x.k m fun j => x.f0 (off + j)))) hoi hN hLo hL hA (fun b G w K hB hon hoff hR hK => by
    have h := (hR x (List.mem_of_getElem? hx) (onB_is hbo hon)).2
    have e : x.f b = x.f0 := by unfold Ent.f; rw [offB_is hst hoff]; rfl
    rw [e] at h
    exact event_step (hw b G hon hoff) (exec_load_at (k := x.k) (n := m) (ad := ⟨x.ad G, off, none⟩) (f := fun j => x.f0 (off + j)) (fun j hj => by rw [add_at]; exact h.cell (off + j) (by omega)) hu hi hdd ho (hp b G hon hoff)) (hK _ (Below.refl _ _)))
theorem zH {N : Tmp} {oi : Oper} (k : Nat) (v : Value) {f : FuncId} {fn : Func} {asx : Array Operand} {ts : Array TypeId} (args : Array Value) (hoi : ops[i]? = some oi) (hN : oi.dst = some N) (hop : oi.op = .call { callee := .value (.func f), args := asx, argTypes := ts }) (hw : ∀ b G, Ons B O i b → Offs B O i b → Region.wanted oi (yielded ops (zP a0 b (vals G L)).tmps) = true)
    (hLo : LOk L) (hL : L[k]? = some (i, N, .val v)) (hA : (A.all fun x => !(x.born == some i) && !(x.stored == some i)) = true)
    (hf : P.funcs[f]? = some fn) (hname : (fn.name == "runtime.NumGoroutine") = false) (hbd : fn.body.isSome = true) (hargs : ∀ b G, Ons B O i b → Offs B O i b → asx.map (zP a0 b (vals G L)).eval = args)
    (hc : ∀ w, Below wE.heap.size wE w → Calls P f args w fun e w' => e = .returned v ∧ Below w.heap.size w w') : StepAt P ops Q B O (RI wE a0 L A) i :=
  st_keep k (.val v) hoi hN hLo hL hA (fun b G w K hB hon hoff hR hK => goes_ hf hname hbd args (hw b G hon hoff) rfl hop (hargs b G hon hoff) ((hc w hB).mono (by
    rintro e w' ⟨rfl, hb⟩
    exact ⟨_, rfl, hK _ hb⟩)))
def setG (G : Nat → Nat) (i g : Nat) : Nat → Nat := fun j => if j = i then g else G j
theorem zK {N : Tmp} {oi : Oper} {mk : Nat → Value} (k r : Nat) (kk : IntKind) (n : Nat) (t : TypeId) (st : Option Nat) (f0 f1 : Nat → Int) (hoi : ops[i]? = some oi) (hN : oi.dst = some N) (hw : ∀ b G, Ons B O i b → Offs B O i b → Region.wanted oi (yielded ops (zP a0 b (vals G L)).tmps) = true)
    (hx : A[r]? = some ⟨0, some i, st, kk, n, f0, f1, t⟩) (hLo : LOk L) (hL : L[k]? = some (i, N, .new i mk)) (hL' : ((L.take k ++ L.drop (k + 1)).all fun e => !e.2.2.of i) = true)
    (hA : ((A.take r ++ A.drop (r + 1)).all fun x => !(x.born == some i)) = true) (hAs : (A.all fun x => !(x.stored == some i)) = true)
    (hst : offB B O i st = true) (hrun : ∀ b G w, Ons B O i b → Offs B O i b → (execOp (zP a0 b (vals G L)).eval oi).run P w = .ok (.value (mk w.heap.size)) (w.alloc (.cells (FR kk n f0) t))) :
    StepAt P ops Q B O (RI wE a0 L A) i := by
  rintro b a w ⟨G, rfl, hB, hR, hD⟩ hb hon hoff
  refine ⟨oi, hoi, fun K hK => event_step (hw b G hon hoff) (hrun b G w hon hoff) (hK _ _ ⟨setG G i w.heap.size, ?_, hB.alloc hB.size _, fun x hx' hbx => ?_, ?_⟩)⟩
  · rw [hN]
    exact putSel_upk k hb (vals_get hL) (vals_setG hL' hL).symm (hLo.rest hL G)
  · obtain ⟨j, hj⟩ := List.getElem?_of_mem hx'
    have hxs := List.all_eq_true.1 hAs x hx'
    rw [Bool.not_eq_true'] at hxs
    have e : x.f (up b i) = x.f b := by unfold Ent.f; rw [isOn_up hxs]
    rw [e]
    by_cases hjr : j = r
    · subst hjr
      rw [hx] at hj
      obtain rfl := Option.some.inj hj
      have e2 : (setG G i w.heap.size) i = w.heap.size := if_pos rfl
      have e3 : (⟨0, some i, st, kk, n, f0, f1, t⟩ : Ent).f b = f0 := by unfold Ent.f; rw [offB_is hst hoff]; rfl
      rw [e3]
      show wE.heap.size ≤ setG G i w.heap.size i ∧ Row _ (setG G i w.heap.size i) kk n _ t
      rw [e2]
      exact ⟨hB.size, Row.new _ _ _ _ _⟩
    · have hbx2 : (x.born == some i) = false ∧ isOn b true x.born = true := by
        have hm : x ∈ A.take r ++ A.drop (r + 1) := by
          rw [List.mem_append]
          by_cases hlt : j < r
          · left; exact List.mem_of_getElem? (i := j) (by rw [List.getElem?_take_of_lt hlt]; exact hj)
          · right; exact List.mem_of_getElem? (i := j - (r + 1)) (by rw [List.getElem?_drop]; rw [show r + 1 + (j - (r + 1)) = j by omega]; exact hj)
        have h2 := List.all_eq_true.1 hA x hm
        rw [Bool.not_eq_true'] at h2
        rw [isOn_up h2] at hbx
        exact ⟨h2, hbx⟩
      have h := hR x hx' hbx2.2
      rw [show x.ad (setG G i w.heap.size) = x.ad G from ad_setG hbx2.1]
      exact ⟨h.1, h.2.alloc _⟩
  · -- distinct
    rw [List.pairwise_iff_getElem] at hD ⊢
    intro j1 j2 h1 h2 hlt hb1 hb2
    have key : ∀ (j : Nat) (hj : j < A.length), j ≠ r → isOn (up b i) true (A[j]).born = true → isOn b true (A[j]).born = true ∧ (A[j]).ad (setG G i w.heap.size) = (A[j]).ad G ∧ (A[j]).ad G < w.heap.size := by
      intro j hj hjr hbj
      have hm : A[j] ∈ A.take r ++ A.drop (r + 1) := by
        rw [List.mem_append]
        by_cases hlt : j < r
        · left; exact List.mem_of_getElem? (i := j) (by rw [List.getElem?_take_of_lt hlt]; exact List.getElem?_eq_getElem hj)
        · right; exact List.mem_of_getElem? (i := j - (r + 1)) (by rw [List.getElem?_drop]; rw [show r + 1 + (j - (r + 1)) = j by omega]; exact List.getElem?_eq_getElem hj)
      have h2 := List.all_eq_true.1 hA _ hm
      rw [Bool.not_eq_true'] at h2
      rw [isOn_up h2] at hbj
      exact ⟨hbj, ad_setG h2, (hR _ (List.getElem_mem hj) hbj).2.lt⟩
    have hr := (List.getElem?_eq_some_iff.1 hx)
    obtain ⟨hrl, hre⟩ := hr
    have hself : (A[r]).ad (setG G i w.heap.size) = w.heap.size := by rw [hre]; exact if_pos rfl
    by_cases e1 : j1 = r
    · have hk2 := key j2 h2 (by omega) hb2
      subst e1
      rw [hself, hk2.2.1]; omega
    · have hk1 := key j1 h1 e1 hb1
      by_cases e2 : j2 = r
      · subst e2
        rw [hself, hk1.2.1]; omega
      · have hk2 := key j2 h2 e2 hb2
        rw [hk1.2.1, hk2.2.1]
        exact hD j1 j2 h1 h2 hlt hk1.1 hk2.1
theorem zI {oi : Oper} (r : Nat) (x : Ent) {ty : TypeId} {p y : Operand} (hx : A[r]? = some x) (hxs : x.stored = some i) (hoi : ops[i]? = some oi) (hN : oi.dst = none) (ho : oi.op = .store ty p y) (hw : ∀ b G, Ons B O i b → Offs B O i b → Region.wanted oi (yielded ops (zP a0 b (vals G L)).tmps) = true)
    (hL : (L.all fun e => !(e.1 == i)) = true) (hA : (A.all fun x => !(x.born == some i)) = true) (hAs : ((A.take r ++ A.drop (r + 1)).all fun x => !(x.stored == some i)) = true) (hbo : onB B O i x.born = true) (hi : (P.info? ty).map (·.size) = some x.n)
    (hp : ∀ b G, Ons B O i b → Offs B O i b → (zP a0 b (vals G L)).eval p = .pointer (some ⟨x.ad G, 0, none⟩)) (hy : ∀ b G, Ons B O i b → Offs B O i b → (zP a0 b (vals G L)).eval y = .agg (FR x.k x.n x.f1)) : StepAt P ops Q B O (RI wE a0 L A) i := by
  rintro b a w ⟨G, rfl, hB, hR, hD⟩ hb hon hoff
  have hxm := List.mem_of_getElem? hx
  have h0 := hR x hxm (onB_is hbo hon)
  refine ⟨oi, hoi, fun K hK => ?_⟩
  rw [hN]
  refine oper_storeG x.f1 h0.2 hi (hw b G hon hoff) hN ho (hp b G hon hoff) (hy b G hon hoff) (fun w' hs hr => hK _ _ ⟨G, (putSel_same (by unfold vals; rw [List.all_map]; exact hL)).symm, hs.bel _ _ h0.1 hB, fun z hz hbz => ?_, ?_⟩)
  · have hzb := List.all_eq_true.1 hA z hz
    rw [Bool.not_eq_true'] at hzb
    rw [isOn_up hzb] at hbz
    obtain ⟨j, hj⟩ := List.getElem?_of_mem hz
    by_cases hjr : j = r
    · subst hjr
      rw [hx] at hj
      obtain rfl := Option.some.inj hj
      have e : x.f (up b i) = x.f1 := by unfold Ent.f; rw [hxs]; exact if_pos (up_self b i)
      rw [e]
      exact ⟨h0.1, hr⟩
    · have hm : z ∈ A.take r ++ A.drop (r + 1) := by
        rw [List.mem_append]
        by_cases hlt : j < r
        · left; exact List.mem_of_getElem? (i := j) (by rw [List.getElem?_take_of_lt hlt]; exact hj)
        · right; exact List.mem_of_getElem? (i := j - (r + 1)) (by rw [List.getElem?_drop]; rw [show r + 1 + (j - (r + 1)) = j by omega]; exact hj)
      have h2 := List.all_eq_true.1 hAs z hm
      rw [Bool.not_eq_true'] at h2
      have e : z.f (up b i) = z.f b := by unfold Ent.f; rw [isOn_up h2]
      rw [e]
      have hz0 := hR z hz hbz
      refine ⟨hz0.1, hz0.2.stored hs ?_⟩
      rw [List.pairwise_iff_getElem] at hD
      obtain ⟨hjl, hje⟩ := List.getElem?_eq_some_iff.1 hj
      obtain ⟨hrl, hre⟩ := List.getElem?_eq_some_iff.1 hx
      by_cases hlt : j < r
      · have := hD j r hjl hrl hlt (by rw [hje]; exact hbz) (by rw [hre]; exact onB_is hbo hon)
        rwa [hje, hre] at this
      · have := hD r j hrl hjl (by omega) (by rw [hre]; exact onB_is hbo hon) (by rw [hje]; exact hbz)
        rw [hje, hre] at this
        exact fun e => this e.symm
  · refine hD.imp_of_mem (fun {z y} hz hy h h1 h2 => ?_)
    have hz2 := List.all_eq_true.1 hA z hz
    have hy2 := List.all_eq_true.1 hA y hy
    rw [Bool.not_eq_true'] at hz2 hy2
    rw [isOn_up hz2] at h1
    rw [isOn_up hy2] at h2
    exact h h1 h2
noncomputable def Ent.row (x : Ent) (G : Nat → Nat) : RowD := ⟨@Option.rec Nat (fun _ => Nat) x.g (fun i => G i) x.born, x.k, x.n, @Option.rec Nat (fun _ => Nat → Int) x.f0 (fun _ => x.f1) x.stored, x.t⟩
theorem Ent.row_g (x : Ent) (G : Nat → Nat) : (x.row G).g = x.ad G := by cases x with | mk g born stored k n f0 f1 t => cases born <;> rfl
theorem Ent.row_f (x : Ent) (G : Nat → Nat) : (x.row G).f = if x.stored.isSome then x.f1 else x.f0 := by cases x with | mk g born stored k n f0 f1 t => cases stored <;> rfl
def Ent.row0 (x : Ent) : RowD := ⟨x.g, x.k, x.n, x.f0, x.t⟩
theorem putSel_nil {b : Nat → Bool} : ∀ {M : List (Nat × Tmp × Value)} {a : Act}, (∀ e, b e = false) → zP a b M = a
  | [], _, _ => rfl
  | e :: r, a, h => by
    unfold zP
    rw [if_neg (by rw [h]; decide)]
    exact putSel_nil h
theorem RI.start {w : World} {R : List RowD} (hH : Held wE w R) (hR : (A.filter fun x => x.born == none).map Ent.row0 = R) : RI wE a0 L A (fun _ => false) a0 w := by
  obtain ⟨h1, h2, h3⟩ := hH
  subst hR
  refine ⟨fun _ => 0, (putSel_nil (fun _ => rfl)).symm, h1, fun x hx hbx => ?_, ?_⟩
  · have hb0 : x.born = none := by
      cases h : x.born with
      | none => rfl
      | some j => rw [h] at hbx; cases hbx
    have hm : x.row0 ∈ (A.filter fun x => x.born == none).map Ent.row0 := List.mem_map.2 ⟨x, List.mem_filter.2 ⟨hx, by rw [hb0]; rfl⟩, rfl⟩
    have h := h2 _ hm
    have e : x.f (fun _ => false) = x.f0 := by unfold Ent.f; cases x.stored <;> rfl
    rw [e]
    have e2 : x.ad (fun _ => 0) = x.g := by unfold Ent.ad; rw [hb0]
    rw [e2]
    exact h
  · rw [List.map_map] at h3
    have h4 := (List.nodup_iff_pairwise_ne.1 h3)
    rw [List.pairwise_map, List.pairwise_filter] at h4
    refine h4.imp (fun {x y} h h1 h2 => ?_)
    have hx0 : x.born = none := by
      cases hh : x.born with
      | none => rfl
      | some j => rw [hh] at h1; cases h1
    have hy0 : y.born = none := by
      cases hh : y.born with
      | none => rfl
      | some j => rw [hh] at h2; cases h2
    have e1 : x.ad (fun _ => 0) = x.g := by unfold Ent.ad; rw [hx0]
    have e2 : y.ad (fun _ => 0) = y.g := by unfold Ent.ad; rw [hy0]
    rw [e1, e2]
    exact h (by rw [hx0]; rfl) (by rw [hy0]; rfl)
def Sl (a : Act) (sz : Nat) (S : List (Tmp × Value)) : Prop := a.tmps.size = sz ∧ a.defers = [] ∧ ∀ e ∈ S, a.eval (.tmp e.1) = e.2
theorem Sl.get {a : Act} {sz : Nat} {S : List (Tmp × Value)} (h : Sl a sz S) {t : Tmp} {v : Value} (k : Nat) (hk : S[k]? = some (t, v)) : a.eval (.tmp t) = v := h.2.2 _ (List.mem_of_getElem? hk)
def SlOk (L : List (Nat × Tmp × SV)) (S : List (Tmp × Value)) : List (Tmp × SV) → Prop
  | [] => True
  | e :: r => ((∃ d ∈ L, d.2 = (e.1, e.2)) ∨ ((L.all fun d => !(d.2.1 == e.1)) = true ∧ ∃ v, e.2 = .val v ∧ (e.1, v) ∈ S)) ∧ SlOk L S r
theorem slL {S : List (Tmp × Value)} {e : Tmp × SV} {r : List (Tmp × SV)} (k : Nat) {d : Nat} (h : L[k]? = some (d, e.1, e.2)) (hr : SlOk L S r) : SlOk L S (e :: r) := ⟨.inl ⟨_, List.mem_of_getElem? h, rfl⟩, hr⟩
theorem slS {S : List (Tmp × Value)} {t : Tmp} {v : Value} {r : List (Tmp × SV)} (k : Nat) (h : S[k]? = some (t, v)) (ho : (L.all fun d => !(d.2.1 == t)) = true) (hr : SlOk L S r) : SlOk L S ((t, .val v) :: r) := ⟨.inr ⟨ho, v, rfl, List.mem_of_getElem? h⟩, hr⟩
theorem SlOk.mem {S : List (Tmp × Value)} : ∀ {M : List (Tmp × SV)}, SlOk L S M → ∀ e ∈ M, (∃ d ∈ L, d.2 = (e.1, e.2)) ∨ ((L.all fun d => !(d.2.1 == e.1)) = true ∧ ∃ v, e.2 = .val v ∧ (e.1, v) ∈ S)
  | [], _, e, he => by cases he
  | x :: r, h, e, he => by
    rcases List.mem_cons.1 he with rfl | he
    · exact h.1
    · exact h.2.mem e he
theorem RI.fin {b : Nat → Bool} {a : Act} {w : World} {sz : Nat} {S : List (Tmp × Value)} {S' : List (Tmp × SV)} (h : RI wE a0 L A b a w) (hO : ∀ j, O.contains j = true → b j = true) (hA : (A.all fun x => (match x.born with | none => true | some j => O.contains j) && (match x.stored with | none => true | some j => O.contains j)) = true)
    (hLo : LOk L) (hL : (L.all fun e => O.contains e.1 && Nat.ble (e.2.1 + 1) sz) = true) (hS : Sl a0 sz S) (hS' : SlOk L S S') : ∃ G, Sl a sz (S'.map fun e => (e.1, e.2.at G)) ∧ Held wE w (A.map fun x => x.row G) := by
  obtain ⟨G, rfl, hB, hR, hD⟩ := h
  have hbo : ∀ x ∈ A, isOn b true x.born = true := fun x hx => by
    have := List.all_eq_true.1 hA x hx
    rw [Bool.and_eq_true] at this
    cases hh : x.born with
    | none => rfl
    | some j => rw [hh] at this; exact hO j this.1
  have hf : ∀ x ∈ A, x.f b = if x.stored.isSome then x.f1 else x.f0 := fun x hx => by
    have := List.all_eq_true.1 hA x hx
    rw [Bool.and_eq_true] at this
    unfold Ent.f
    cases hh : x.stored with
    | none => rfl
    | some j => rw [hh] at this; simp only [isOn, hO j this.2, Option.isSome_some]
  refine ⟨G, ⟨(putSel_size b _ _).1.trans hS.1, (putSel_size b _ _).2.trans hS.2.1, fun e he => ?_⟩, hB, fun r hr => ?_, ?_⟩
  · obtain ⟨e2, he2, rfl⟩ := List.mem_map.1 he
    rcases hS'.mem e2 he2 with ⟨d, hd, hde⟩ | ⟨ho, v, hv, hm⟩
    · obtain ⟨k, hk⟩ := List.getElem?_of_mem hd
      have h1 := List.all_eq_true.1 hL d hd
      rw [Bool.and_eq_true] at h1
      obtain ⟨d1, d2, d3⟩ := d
      obtain ⟨e1, e3⟩ := e2
      obtain ⟨rfl, rfl⟩ := Prod.mk.inj hde
      exact zB hLo k hk hS.1 h1.2 (hO d1 h1.1)
    · obtain ⟨e1, e3⟩ := e2
      simp only at ho hv hm ⊢
      subst hv
      exact zD ho (hS.2.2 _ hm)
  · obtain ⟨x, hx, rfl⟩ := List.mem_map.1 hr
    have h := hR x hx (hbo x hx)
    rw [hf x hx] at h
    rw [Ent.row_g, Ent.row_f]
    exact h
  · rw [List.map_map, List.nodup_iff_pairwise_ne, List.pairwise_map]
    refine hD.imp_of_mem (fun {x y} hx hy h => ?_)
    show (x.row G).g ≠ (y.row G).g
    rw [Ent.row_g, Ent.row_g]
    exact h (hbo x hx) (hbo y hy)
theorem yK {T : Bool × List (List Nat × List Nat)} {w : World} {R : List RowD} {id n sz : Nat} {S : List (Tmp × Value)} (O : List Nat) (S' : List (Tmp × SV)) (L : List (Nat × Tmp × SV)) (A : List Ent) (hm : P.follows .mixedOrders = true) (hn : ops.size = n) (hT : rtab .any ops = T) (hw : zW T.2 B = true) (hk : baseOk T.2 O = true) (hl : (lof T.2.length O (fun _ => false) == List.replicate n false && O.length == n) = true)
    (hH : Held wE w R) (hR : (A.filter fun x => x.born == none).map Ent.row0 = R) (hA : (A.all fun x => (match x.born with | none => true | some j => O.contains j) && (match x.stored with | none => true | some j => O.contains j)) = true) (hLo : LOk L) (hL : (L.all fun e => O.contains e.1 && Nat.ble (e.2.1 + 1) sz) = true) (hS : Sl a0 sz S) (hS' : SlOk L S S')
    (hs : ∀ i ∈ O, StepAt P ops Q B O (RI wE a0 L A) i) (hend : ∀ G a' w', Sl a' sz (S'.map fun e => (e.1, e.2.at G)) → Held wE w' (A.map fun x => x.row G) → Q .normal a' w') : (Code.region id ops true).wp P Q a0 w := by
  refine start_ (n := n) (S := fun _ => True) (ds := []) (Array.replicate n false) hm hn rfl trivial (fun _ => ?_)
  have hH' : Held wE w.drew R := ⟨hH.1.drew, fun r hr => ⟨(hH.2.1 r hr).1, (hH.2.1 r hr).2⟩, hH.2.2⟩
  refine inv_ O (RI wE a0 L A) hT hw hk (by simpa using hl) (RI.start hH' hR) hs (fun b a' w' hall hI => ?_)
  obtain ⟨G, h1, h2⟩ := hI.fin hall hA hLo hL hS hS'
  exact hend G a' w' h1 h2
theorem list_all (B : List Nat) (I : (Nat → Bool) → Act → World → Prop) (hs : ∀ i ∈ List.range ops.size, StepAt P ops Q B (List.range ops.size) I i)
    (hB : ∀ i j, (List.range ops.size).contains j = true → (B.getD i 0).testBit j = true → j < i) (hend : ∀ a w, I (fun j => decide (j < ops.size)) a w → Q .normal a w) :
    ∀ (m k : Nat) (a : Act) (w : World), k + m = ops.size → I (fun j => decide (j < k)) a w → wpList P ops Q (ops.toList.drop k) a w
  | 0, k, a, w, hk, hI => by
    have e : ops.toList.drop k = [] := by rw [List.drop_eq_nil_iff]; simp; omega
    rw [e]
    have e2 : k = ops.size := by omega
    subst e2
    exact hend a w hI
  | m + 1, k, a, w, hk, hI => by
    have hlt : k < ops.toList.length := by simp; omega
    rw [List.drop_eq_getElem_cons hlt]
    obtain ⟨oi, hoi, h⟩ := hs k (List.mem_range.2 (by omega)) _ a w hI (by simp) (fun j hj => by
      rw [Bool.and_eq_true] at hj
      simpa using hB k j hj.1 hj.2) (fun d hd => by
      rw [Bool.and_eq_true] at hd
      have := hB d k (by simp; omega) hd.2
      simp; omega)
    have e : ops.toList[k] = oi := by
      have h1 := List.getElem?_eq_getElem hlt
      rw [Array.getElem?_toList, hoi] at h1
      exact (Option.some.inj h1).symm
    rw [e]
    refine wpList_step (fun K hK => h K (fun a' w' hI' => hK a' w' (list_all B I hs hB hend m (k + 1) a' w' (by omega) ?_)))
    have e2 : (fun j => decide (j < k + 1)) = up (fun j => decide (j < k)) k := by
      funext j
      unfold up
      split
      · subst j; simp
      · rename_i hne
        have : (j < k + 1) = (j < k) := by apply propext; omega
        simp only [this]
    rw [e2]
    exact hI'
def lowB (B : List Nat) (n : Nat) : Bool := (List.range B.length).all fun i => (B.getD i 0) < 2 ^ i
theorem lowB_is {n : Nat} (h : lowB B n = true) (i j : Nat) (hj : (B.getD i 0).testBit j = true) : j < i := by
  by_cases hi : i < B.length
  · have h1 := List.all_eq_true.1 h i (List.mem_range.2 hi)
    rw [decide_eq_true_eq] at h1
    apply Decidable.byContradiction
    intro hn
    have : (B.getD i 0).testBit j = false := Nat.testBit_lt_two_pow (Nat.lt_of_lt_of_le h1 (Nat.pow_le_pow_right (by omega) (by omega)))
    rw [this] at hj; cases hj
  · rw [List.getD_eq_getElem?_getD, List.getElem?_eq_none (by omega)] at hj
    simp at hj
theorem zJ {w : World} {R : List RowD} {id n sz : Nat} {S : List (Tmp × Value)} (B : List Nat) (S' : List (Tmp × SV)) (L : List (Nat × Tmp × SV)) (A : List Ent) (hn : ops.size = n) (hB : lowB B n = true)
    (hH : Held wE w R) (hR : (A.filter fun x => x.born == none).map Ent.row0 = R) (hA : (A.all fun x => (match x.born with | none => true | some j => (List.range n).contains j) && (match x.stored with | none => true | some j => (List.range n).contains j)) = true) (hLo : LOk L) (hL : (L.all fun e => (List.range n).contains e.1 && Nat.ble (e.2.1 + 1) sz) = true) (hS : Sl a0 sz S) (hS' : SlOk L S S')
    (hs : ∀ i ∈ List.range n, StepAt P ops Q B (List.range n) (RI wE a0 L A) i) (hend : ∀ G a' w', Sl a' sz (S'.map fun e => (e.1, e.2.at G)) → Held wE w' (A.map fun x => x.row G) → Q .normal a' w') : (Code.region id ops false).wp P Q a0 w := by
  subst hn
  refine wp_region_list ?_
  have h := list_all (P := P) (Q := Q) (ops := ops) B (RI wE a0 L A) hs (fun i j _ hj => lowB_is hB i j hj) (fun a w hI => by
    obtain ⟨G, h1, h2⟩ := hI.fin (O := List.range ops.size) (fun j hj => by simpa using hj) hA hLo hL hS hS'
    exact hend G a w h1 h2) ops.size 0 a0 w (by omega) (by
      have e : (fun j : Nat => decide (j < 0)) = fun _ => false := by funext j; simp
      rw [e]
      exact RI.start hH hR)
  simpa using h
theorem then_ {K : Act → World → Prop} {a : Act} {w : World} (h : K a w) : Exit.then K Q .normal a w := h
theorem yC {K : Act → World → Prop} {a : Act} {w : World} (h : Q .ret a w) : Exit.then K Q .ret a w := h
theorem args0 {ev : Operand → Value} : (#[] : Array Operand).map ev = #[] := by simp
theorem args1 {ev : Operand → Value} {x : Operand} {u : Value} (h : ev x = u) : #[x].map ev = #[u] := by simp [h]
theorem zU {ev : Operand → Value} {x y : Operand} {u v : Value} (h : ev x = u) (h2 : ev y = v) : #[x, y].map ev = #[u, v] := by simp [h, h2]
theorem args3 {ev : Operand → Value} {x y z : Operand} {u v t : Value} (h : ev x = u) (h2 : ev y = v) (h3 : ev z = t) : #[x, y, z].map ev = #[u, v, t] := by simp [h, h2, h3]
theorem exec_box {o : Oper} {ev : Operand → Value} {w : World} {ty : TypeId} {x : Operand} {v : Value} {p : Value} {w' : World} (ho : o.op = .box ty x) (hx : ev x = v) (h : (Instr.box ty v).run P w = .ok p w') : (execOp ev o).run P w = .ok (.value p) w' := by
  unfold execOp
  simp only [ho, hx, Sem.run_bind, Sem.run_pure, h, Result.andThen_ok]
theorem zZ {o : Oper} {ev : Operand → Value} {w : World} {ty : TypeId} {parts : Array (Nat × Operand)} {ps : Array (Nat × Value)} {v : Value} (ho : o.op = .build ty parts) (hx : (parts.map fun (i, x) => (i, ev x)) = ps) (h : (Instr.build ty ps).run P w = .ok v w) : (execOp ev o).run P w = .ok (.value v) w := by
  unfold execOp
  simp only [ho, hx, Sem.run_bind, Sem.run_pure, h, Result.andThen_ok]
theorem zT {o : Oper} {ev : Operand → Value} {w : World} {ty : TypeId} {x : Operand} {p v : Value} {n : Nat} (ho : o.op = .fieldAddr ty x n) (hx : ev x = p) (h : (Instr.fieldAt ty p n).run P w = .ok v w) : (execOp ev o).run P w = .ok (.value v) w := by
  unfold execOp
  simp only [ho, hx, Sem.run_bind, Sem.run_pure, h, Result.andThen_ok]
theorem parts4 {ev : Operand → Value} {x y z a : Operand} {u v t s : Value} (h : ev x = u) (h2 : ev y = v) (h3 : ev z = t) (h4 : ev a = s) : ((#[(0, x), (1, y), (2, z), (3, a)] : Array (Nat × Operand)).map fun (i, x) => (i, ev x)) = #[(0, u), (1, v), (2, t), (3, s)] := by simp [h, h2, h3, h4]
theorem parts0 {ev : Operand → Value} : ((#[] : Array (Nat × Operand)).map fun (i, x) => (i, ev x)) = #[] := by simp
theorem parts1 {ev : Operand → Value} {i : Nat} {x : Operand} {u : Value} (h : ev x = u) : ((#[(i, x)] : Array (Nat × Operand)).map fun (i, x) => (i, ev x)) = #[(i, u)] := by simp [h]
theorem parts2 {ev : Operand → Value} {i j : Nat} {x y : Operand} {u v : Value} (h : ev x = u) (h2 : ev y = v) : ((#[(i, x), (j, y)] : Array (Nat × Operand)).map fun (i, x) => (i, ev x)) = #[(i, u), (j, v)] := by simp [h, h2]
theorem Held.first (w : World) : Held w w [] := ⟨Below.refl _ _, fun _ h => (by cases h), List.nodup_nil⟩
theorem Held.row {wE w : World} {R : List RowD} (h : Held wE w R) (k : Nat) {r : RowD} (hk : R[k]? = some r) : Row w r.g r.k r.n r.f r.t := (h.2.1 r (List.mem_of_getElem? hk)).2
theorem zG {N : Tmp} {oi : Oper} (k : Nat) (r : Nat) (x : Ent) {ty : TypeId} {p : Operand} {d : TypeDesc} (hx : A[r]? = some x) (hoi : ops[i]? = some oi) (hN : oi.dst = some N) (ho : oi.op = .load ty p) (hw : ∀ b G, Ons B O i b → Offs B O i b → Region.wanted oi (yielded ops (zP a0 b (vals G L)).tmps) = true)
    (hLo : LOk L) (hL : L[k]? = some (i, N, .val (.agg (FR x.k x.n x.f0)))) (hA : (A.all fun x => !(x.born == some i) && !(x.stored == some i)) = true)
    (hbo : onB B O i x.born = true) (hst : offB B O i x.stored = true) (hu : P.underlying ty = some d) (hi : (P.info? ty).map (·.size) = some x.n) (hdd : (match d with | .struct _ | .array _ _ => true | _ => false) = true)
    (hp : ∀ b G, Ons B O i b → Offs B O i b → (zP a0 b (vals G L)).eval p = .pointer (some ⟨x.ad G, 0, none⟩)) : StepAt P ops Q B O (RI wE a0 L A) i :=
  st_keep k (.val (.agg (FR x.k x.n x.f0))) hoi hN hLo hL hA (fun b G w K hB hon hoff hR hK => by
    have h := (hR x (List.mem_of_getElem? hx) (onB_is hbo hon)).2
    have e : x.f b = x.f0 := by unfold Ent.f; rw [offB_is hst hoff]; rfl
    rw [e] at h
    exact event_step (hw b G hon hoff) (exec_load h hu hi hdd ho (hp b G hon hoff)) (hK _ (Below.refl _ _)))
theorem st_table {N : Tmp} {oi : Oper} (k : Nat) {ty : TypeId} {p : Operand} {d : TypeDesc} {kk : IntKind} {n g : Nat} {f : Nat → Int} (hoi : ops[i]? = some oi) (hN : oi.dst = some N) (ho : oi.op = .load ty p) (hw : ∀ b G, Ons B O i b → Offs B O i b → Region.wanted oi (yielded ops (zP a0 b (vals G L)).tmps) = true)
    (hLo : LOk L) (hL : L[k]? = some (i, N, .val (.agg (FR kk n f)))) (hA : (A.all fun x => !(x.born == some i) && !(x.stored == some i)) = true) (hu : P.underlying ty = some d) (hi : (P.info? ty).map (·.size) = some n) (hdd : (match d with | .struct _ | .array _ _ => true | _ => false) = true)
    (hT : ∀ w, Below wE.heap.size wE w → ∀ j, j < n → w.cell? ((⟨g, 0, none⟩ : Addr).add j) = some (.int kk (f j))) (hp : p = .global g) : StepAt P ops Q B O (RI wE a0 L A) i :=
  st_keep k (.val (.agg (FR kk n f))) hoi hN hLo hL hA (fun b G w K hB hon hoff hR hK => by
    subst hp
    exact event_step (hw b G hon hoff) (exec_load_at (hT w hB) hu hi hdd ho rfl) (hK _ (Below.refl _ _)))
def argS (args : Array Value) : List (Tmp × Value) := args.toList.zipIdx.map fun e => (e.2, e.1)
theorem enter_ {f : FuncId} {fn : Func} {c : Code} {args : Array Value} {w : World} {R : Ending → World → Prop} (sz : Nat) (hf : P.funcs[f]? = some fn) (hb : fn.body = some c) (hsz : args.size + (fn.ntmps - args.size) = sz)
    (h : ∀ a, Sl a sz (argS args) → c.wp P (bodyPost P fn R) a w) : Calls P f args w R := by
  refine calls_of_wp hf hb (h _ ⟨by simpa using hsz, rfl, fun e he => ?_⟩)
  unfold argS at he
  obtain ⟨⟨v, j⟩, hm, rfl⟩ := List.mem_map.1 he
  have h1 := List.mem_zipIdx_iff_getElem?.1 hm
  simp only at h1
  have h2 : args[j]? = some v := by rw [← Array.getElem?_toList]; exact h1
  have hlt : j < args.size := (Array.getElem?_eq_some_iff.1 h2).1
  show (args ++ Array.replicate (fn.ntmps - args.size) undef).getD j undef = v
  rw [Array.getD_eq_getD_getElem?, Array.getElem?_append_left hlt, h2]
  rfl
theorem ret_row {fn : Func} {R : Ending → World → Prop} {p : Tmp} {ty : TypeId} {a : Act} {w : World} {g n : Nat} {k : IntKind} {f : Nat → Int} {t : TypeId} {d : TypeDesc} (h : fn.results = #[.cell p ty]) (hd : a.defers = []) (hp : a.eval (.tmp p) = .pointer (some ⟨g, 0, none⟩)) (hr : Row w g k n f t)
    (hu : P.underlying ty = some d) (hdd : (match d with | .struct _ | .array _ _ => true | _ => false) = true) (hi : (P.info? ty).map (·.size) = some n) (hR : R (.returned (.agg (FR k n f))) w) : Code.ret.wp P (bodyPost P fn R) a w :=
  wp_ret ⟨hd, _, zY h hr hp hu hdd hi, hR⟩
theorem zN {b : Nat → Bool} {G : Nat → Nat} {oi oj : Oper} {j : Nat} {t u : Bool} {N : Tmp} (hg : oi.guard = some (j, t)) (hoj : ops[j]? = some oj) (hN : oj.dst = some N) {sz : Nat} (hsz : a0.tmps.size = sz) (hs : Nat.ble (N + 1) sz = true) (hv : (zP a0 b (vals G L)).eval (.tmp N) = .bool u) {r : Bool} (hr : (u == t) = r) :
    Region.wanted oi (yielded ops (zP a0 b (vals G L)).tmps) = r := by
  have hlt : N < (zP a0 b (vals G L)).tmps.size := by rw [(putSel_size b _ _).1, hsz]; exact Nat.le_of_ble_eq_true hs
  have h1 : (zP a0 b (vals G L)).tmps[N]? = some (.bool u) := by
    have h2 : (zP a0 b (vals G L)).tmps.getD N undef = .bool u := hv
    rw [Array.getD_eq_getD_getElem?, Array.getElem?_eq_getElem hlt] at h2
    rw [Array.getElem?_eq_getElem hlt]
    exact congrArg some h2
  unfold Region.wanted yielded
  simp only [hg, hoj, Option.bind_some, hN, h1]
  subst hr
  cases u <;> cases t <;> rfl
theorem wanted_un {b : Nat → Bool} {G : Nat → Nat} {oi oj : Oper} {j : Nat} {t : Bool} {N : Tmp} (hg : oi.guard = some (j, t)) (hoj : ops[j]? = some oj) (hN : oj.dst = some N) {sz : Nat} (hsz : a0.tmps.size = sz) (hs : Nat.ble (N + 1) sz = true) (hv : (zP a0 b (vals G L)).eval (.tmp N) = undef) :
    Region.wanted oi (yielded ops (zP a0 b (vals G L)).tmps) = false := by
  have hlt : N < (zP a0 b (vals G L)).tmps.size := by rw [(putSel_size b _ _).1, hsz]; exact Nat.le_of_ble_eq_true hs
  have h1 : (zP a0 b (vals G L)).tmps[N]? = some undef := by
    have h2 : (zP a0 b (vals G L)).tmps.getD N undef = undef := hv
    rw [Array.getD_eq_getD_getElem?, Array.getElem?_eq_getElem hlt] at h2
    rw [Array.getElem?_eq_getElem hlt]
    exact congrArg some h2
  unfold Region.wanted yielded
  simp only [hg, hoj, Option.bind_some, hN, h1]
  cases t <;> rfl
theorem st_skip {N : Tmp} {oi : Oper} (k : Nat) (hoi : ops[i]? = some oi) (hN : oi.dst = some N) (hLo : LOk L) (hL : L[k]? = some (i, N, .val undef)) (hA : (A.all fun x => !(x.born == some i) && !(x.stored == some i)) = true)
    (hw : ∀ b G, Ons B O i b → Offs B O i b → Region.wanted oi (yielded ops (zP a0 b (vals G L)).tmps) = false) : StepAt P ops Q B O (RI wE a0 L A) i :=
  st_keep k (.val undef) hoi hN hLo hL hA (fun b G w K hB hon hoff hR hK => by
    rw [if_neg (by rw [hw b G hon hoff]; decide)]
    exact hK w (Below.refl _ _))
theorem st_read {N : Tmp} {oi : Oper} (k r : Nat) (x : Ent) (v : SV) (hx : A[r]? = some x) (hoi : ops[i]? = some oi) (hN : oi.dst = some N) (hLo : LOk L) (hL : L[k]? = some (i, N, v))
    (hA : (A.all fun x => !(x.born == some i) && !(x.stored == some i)) = true) (hw : ∀ b G, Ons B O i b → Offs B O i b → Region.wanted oi (yielded ops (zP a0 b (vals G L)).tmps) = true)
    (hbo : onB B O i x.born = true) (hst : offB B O i x.stored = true) (hrun : ∀ b G w, Ons B O i b → Offs B O i b → Row w (x.ad G) x.k x.n x.f0 x.t → (execOp (zP a0 b (vals G L)).eval oi).run P w = .ok (.value (v.at G)) w) : StepAt P ops Q B O (RI wE a0 L A) i :=
  st_keep k v hoi hN hLo hL hA (fun b G w K hB hon hoff hR hK => by
    have h := (hR x (List.mem_of_getElem? hx) (onB_is hbo hon)).2
    have e : x.f b = x.f0 := by unfold Ent.f; rw [offB_is hst hoff]; rfl
    rw [e] at h
    exact event_step (hw b G hon hoff) (hrun b G w hon hoff h) (hK _ (Below.refl _ _)))
theorem st_put {oi : Oper} (r : Nat) (x : Ent) (hx : A[r]? = some x) (hxs : x.stored = some i) (hoi : ops[i]? = some oi) (hN : oi.dst = none) (hw : ∀ b G, Ons B O i b → Offs B O i b → Region.wanted oi (yielded ops (zP a0 b (vals G L)).tmps) = true)
    (hL : (L.all fun e => !(e.1 == i)) = true) (hA : (A.all fun x => !(x.born == some i)) = true) (hAs : ((A.take r ++ A.drop (r + 1)).all fun x => !(x.stored == some i)) = true) (hbo : onB B O i x.born = true)
    (hrun : ∀ b G w, Ons B O i b → Offs B O i b → Row w (x.ad G) x.k x.n x.f0 x.t → ∃ w', (execOp (zP a0 b (vals G L)).eval oi).run P w = .ok .skip w' ∧ Stored w w' (x.ad G) ∧ Row w' (x.ad G) x.k x.n x.f1 x.t) : StepAt P ops Q B O (RI wE a0 L A) i := by
  rintro b a w ⟨G, rfl, hB, hR, hD⟩ hb hon hoff
  have hxm := List.mem_of_getElem? hx
  have h0 := hR x hxm (onB_is hbo hon)
  have e0 : x.f b = x.f0 := by unfold Ent.f; rw [hxs]; exact if_neg (by rw [show isOn b false (some i) = b i from rfl, hb]; decide)
  rw [e0] at h0
  obtain ⟨w', hr1, hs, hr⟩ := hrun b G w hon hoff h0.2
  refine ⟨oi, hoi, fun K hK => ?_⟩
  rw [if_pos (hw b G hon hoff)]
  unfold Oper.wp
  rw [hr1, Oper.upon_skip]
  rw [hN]
  refine hK _ _ ⟨G, (putSel_same (by unfold vals; rw [List.all_map]; exact hL)).symm, hs.bel _ _ h0.1 hB, fun z hz hbz => ?_, ?_⟩
  · have hzb := List.all_eq_true.1 hA z hz
    rw [Bool.not_eq_true'] at hzb
    rw [isOn_up hzb] at hbz
    obtain ⟨j, hj⟩ := List.getElem?_of_mem hz
    by_cases hjr : j = r
    · subst hjr
      rw [hx] at hj
      obtain rfl := Option.some.inj hj
      have e : x.f (up b i) = x.f1 := by unfold Ent.f; rw [hxs]; exact if_pos (up_self b i)
      rw [e]
      exact ⟨h0.1, hr⟩
    · have hm : z ∈ A.take r ++ A.drop (r + 1) := by
        rw [List.mem_append]
        by_cases hlt : j < r
        · left; exact List.mem_of_getElem? (i := j) (by rw [List.getElem?_take_of_lt hlt]; exact hj)
        · right; exact List.mem_of_getElem? (i := j - (r + 1)) (by rw [List.getElem?_drop]; rw [show r + 1 + (j - (r + 1)) = j by omega]; exact hj)
      have h2 := List.all_eq_true.1 hAs z hm
      rw [Bool.not_eq_true'] at h2
      have e : z.f (up b i) = z.f b := by unfold Ent.f; rw [isOn_up h2]
      rw [e]
      have hz0 := hR z hz hbz
      refine ⟨hz0.1, hz0.2.stored hs ?_⟩
      rw [List.pairwise_iff_getElem] at hD
      obtain ⟨hjl, hje⟩ := List.getElem?_eq_some_iff.1 hj
      obtain ⟨hrl, hre⟩ := List.getElem?_eq_some_iff.1 hx
      by_cases hlt : j < r
      · have := hD j r hjl hrl hlt (by rw [hje]; exact hbz) (by rw [hre]; exact onB_is hbo hon)
        rwa [hje, hre] at this
      · have := hD r j hrl hjl (by omega) (by rw [hre]; exact onB_is hbo hon) (by rw [hje]; exact hbz)
        rw [hje, hre] at this
        exact fun e => this e.symm
  · refine hD.imp_of_mem (fun {z y} hz hy h h1 h2 => ?_)
    have hz2 := List.all_eq_true.1 hA z hz
    have hy2 := List.all_eq_true.1 hA y hy
    rw [Bool.not_eq_true'] at hz2 hy2
    rw [isOn_up hz2] at h1
    rw [isOn_up hy2] at h2
    exact h h1 h2
theorem zF {o : Oper} {ev : Operand → Value} {w : World} {x : Operand} {v : Value} (ho : o.op = .move x ∨ o.op = .assign x) (hx : ev x = v) : (execOp ev o).run P w = .ok (.value v) w := by
  unfold execOp
  rcases ho with ho | ho <;> simp only [ho, hx, Sem.run_pure]
theorem zV {o : Oper} {ev : Operand → Value} {w : World} {op : BinOp} {t u : TypeId} {x y : Operand} {a b v : Value} (ho : o.op = .binOp op t x y u) (hx : ev x = a) (hy : ev y = b) (h : (do eqGuard op t x y a b; binOp op t a b : Sem Value).run P w = .ok v w) : (execOp ev o).run P w = .ok (.value v) w := by
  unfold execOp
  simp only [ho, hx, hy]
  rw [Sem.run_bind, h]
  rfl
theorem exec_un {o : Oper} {ev : Operand → Value} {w : World} {op : UnOp} {t : TypeId} {x : Operand} {a v : Value} (ho : o.op = .unOp op t x) (hx : ev x = a) (h : (Op.unary op a).run P w = .ok v w) : (execOp ev o).run P w = .ok (.value v) w := by
  unfold execOp
  simp only [ho, hx]
  rw [Sem.run_bind, h]
  rfl
theorem exec_extract {o : Oper} {ev : Operand → Value} {w : World} {x : Operand} {n : Nat} {a v : Value} (ho : o.op = .extract x n) (hx : ev x = a) (h : (Instr.extract a n).run P w = .ok v w) : (execOp ev o).run P w = .ok (.value v) w := by
  unfold execOp
  simp only [ho, hx]
  rw [Sem.run_bind, h]
  rfl
theorem exec_pick {o : Oper} {ev : Operand → Value} {w : World} {c x y : Operand} {t : Bool} {v : Value} (ho : o.op = .pick c x y) (hc : ev c = .bool t) (hx : ev (if t then x else y) = v) : (execOp ev o).run P w = .ok (.value v) w := by
  unfold execOp
  simp only [ho, hc]
  cases t <;> simp_all [asBool]
theorem exec_index {o : Oper} {ev : Operand → Value} {w : World} {t : TypeId} {x y : Operand} {a b v : Value} (ho : o.op = .index t x y) (hx : ev x = a) (hy : ev y = b) (h : (Instr.index t a b).run P w = .ok v w) : (execOp ev o).run P w = .ok (.value v) w := by
  unfold execOp
  simp only [ho, hx, hy]
  rw [Sem.run_bind, h]
  rfl
theorem exec_indexAddr {o : Oper} {ev : Operand → Value} {w : World} {t : TypeId} {x y : Operand} {a b v : Value} (ho : o.op = .indexAddr t x y) (hx : ev x = a) (hy : ev y = b) (h : (Instr.indexAt t a b).run P w = .ok v w) : (execOp ev o).run P w = .ok (.value v) w := by
  unfold execOp
  simp only [ho, hx, hy]
  rw [Sem.run_bind, h]
  rfl
theorem exec_convert {o : Oper} {ev : Operand → Value} {w : World} {s d : TypeId} {x : Operand} {a v : Value} (ho : o.op = .convert s d x) (hx : ev x = a) (h : (convert s d a).run P w = .ok v w) : (execOp ev o).run P w = .ok (.value v) w := by
  unfold execOp
  simp only [ho, hx]
  rw [Sem.run_bind, h]
  rfl
theorem exec_cell {o : Oper} {ev : Operand → Value} {w : World} {k : IntKind} {n g j : Nat} {f : Nat → Int} {t ty : TypeId} {x : Operand} {d : TypeDesc} (hr : Row w g k n f t) (hj : j < n) (hu : P.underlying ty = some d) (hd : (match d with | .struct _ | .array _ _ => false | _ => true) = true) (ho : o.op = .load ty x) (hx : ev x = .pointer (some ⟨g, j, none⟩)) :
    (execOp ev o).run P w = .ok (.value (.int k (f j))) w := by
  have ha : (isAgg ty).run P w = .ok false w := by
    simp only [isAgg, Sem.run_bind, run_underlying hu, Result.andThen_ok]
    cases d <;> simp_all
  unfold execOp
  simp only [ho, hx, Instr.loadAt, Instr.sureAddr, Sem.run_bind, Sem.run_pure, Result.andThen_ok, loadVar, ha, Bool.false_eq_true, if_false, run_load, hr.cell j hj]
def updR (f : Nat → Int) (o m : Nat) (v : Nat → Int) (j : Nat) : Int := if o ≤ j ∧ j < o + m then v (j - o) else f j
theorem setCells_FR {g : Nat} {k : IntKind} {n : Nat} {v : Nat → Int} {t : TypeId} {o : Nat} : ∀ (m : Nat) (s : Nat) (w : World) (f : Nat → Int), Row w g k n f t → o + s + m ≤ n → Row (w.setCells g (o + s) ((List.range' s m).map fun j => .int k (v j))) g k n (fun j => if o + s ≤ j ∧ j < o + s + m then v (j - o) else f j) t
  | 0, s, w, f, h, _ => by
    have e : (fun j => if o + s ≤ j ∧ j < o + s + 0 then v (j - o) else f j) = f := by funext j; rw [if_neg (by omega)]
    rw [e]; exact h
  | m + 1, s, w, f, h, hm => by
    have h1 := h.set (o + s) (v s) (by omega)
    have h2 := setCells_FR (v := v) (o := o) m (s + 1) _ _ h1 (by omega)
    have e : (fun j => if o + s ≤ j ∧ j < o + s + (m + 1) then v (j - o) else f j) = fun j => if o + (s + 1) ≤ j ∧ j < o + (s + 1) + m then v (j - o) else upd f (o + s) (v s) j := by
      funext j
      unfold upd
      by_cases hj : j = o + s
      · subst hj
        rw [if_pos (by omega), if_neg (by omega), if_pos rfl]
        congr 1; omega
      · by_cases hj2 : o + (s + 1) ≤ j ∧ j < o + (s + 1) + m
        · rw [if_pos (by omega), if_pos hj2]
        · rw [if_neg (by omega), if_neg hj2, if_neg hj]
    rw [e]
    exact h2
theorem FR_list (k : IntKind) (m : Nat) (v : Nat → Int) : (FR k m v).toList = (List.range' 0 m).map fun j => .int k (v j) := by
  apply List.ext_getElem?
  intro j
  rw [Array.getElem?_toList, List.getElem?_map]
  by_cases hj : j < m
  · rw [FR_at _ _ _ _ hj, List.getElem?_range' hj]
    simp
  · rw [FR_out _ _ _ _ hj, List.getElem?_eq_none (by simp; omega)]
    rfl
theorem Row.part {w : World} {g : Nat} {k : IntKind} {n : Nat} {f : Nat → Int} {t : TypeId} (h : Row w g k n f t) (o m : Nat) (v : Nat → Int) (hm : o + m ≤ n) : Row (w.setCells g o (FR k m v).toList) g k n (updR f o m v) t := by
  rw [FR_list]
  exact setCells_FR (v := v) (o := o) m 0 w f h (by omega)
theorem stored_cells (w : World) (g o : Nat) (vs : List Value) : Stored w (w.setCells g o vs) g := ⟨fun k hk => setCells_other hk _ _ _, setCells_size g _ _ _, fun B W hB hb => yG hB _ _ _ hb⟩
theorem exec_part {o : Oper} {ev : Operand → Value} {w : World} {k : IntKind} {n g off m : Nat} {f v : Nat → Int} {t ty : TypeId} {x y : Operand} (hr : Row w g k n f t) (hm : off + m ≤ n) (hi : (P.info? ty).map (·.size) = some m) (ho : o.op = .store ty x y) (hx : ev x = .pointer (some ⟨g, off, none⟩)) (hy : ev y = .agg (FR k m v)) :
    ∃ w', (execOp ev o).run P w = .ok .skip w' ∧ Stored w w' g ∧ Row w' g k n (updR f off m v) t := by
  refine ⟨_, ?_, stored_cells w g off (FR k m v).toList, hr.part off m v hm⟩
  unfold execOp
  simp only [ho, hx, hy]
  rw [Sem.run_bind, run_storeAt_mid w g off ty (FR k m v) (fun j hj => by rw [FR_size] at hj; exact ⟨by rw [hr.cell _ (by omega)]; rfl, hr.fro _⟩) (by rw [FR_size]; exact hi) (Array.all_eq_true_iff_forall_mem.2 fun v hv => FR_one k m _ v (by simpa using hv))]
  rfl
theorem exec_put1 {o : Oper} {ev : Operand → Value} {w : World} {k : IntKind} {n g j : Nat} {f : Nat → Int} {z : Int} {t ty : TypeId} {x y : Operand} (hr : Row w g k n f t) (hj : j < n) (hi : (P.info? ty).map (·.size) = some 1) (ho : o.op = .store ty x y) (hx : ev x = .pointer (some ⟨g, j, none⟩)) (hy : ev y = .int k z) :
    ∃ w', (execOp ev o).run P w = .ok .skip w' ∧ Stored w w' g ∧ Row w' g k n (upd f j z) t := by
  obtain ⟨ie, hie, hs⟩ : ∃ ie, P.info? ty = some ie ∧ ie.size = 1 := by
    cases he : P.info? ty with
    | none => rw [he] at hi; cases hi
    | some ie => rw [he] at hi; exact ⟨ie, rfl, Option.some.inj hi⟩
  refine ⟨w.setCell ⟨g, j, none⟩ (.int k z), ?_, ⟨fun q hq => heap_setCell_other _ _ _ _ hq, by simp [World.setCell], fun B W hB hb => hb.setCell hB _⟩, hr.set j z hj⟩
  unfold execOp
  simp only [ho, hx, hy]
  have hti : (typeInfo ty).run P w = .ok ie w := by simp [typeInfo, hie]
  have h1 : (Instr.storeAt ty (.pointer (some ⟨g, j, none⟩)) (.int k z)).run P w = .ok () (w.setCell ⟨g, j, none⟩ (.int k z)) := by
    have hsz : (Value.int k z).cells.size = 1 := rfl
    simp only [Instr.storeAt, Instr.sureAddr, Sem.run_bind, Sem.run_pure, Result.andThen_ok, storeVar, sizeOf, hti, hs, hsz, ne_eq, not_true_eq_false, if_false]
    have hcl : (Value.int k z).cells.toList = [.int k z] := rfl
    rw [hcl]
    have := run_storeCells_cells (P := P) g j [.int k z] 0 w (fun q hq => (by
      obtain rfl : q = 0 := (by simpa using hq)
      rw [Nat.add_zero, hr.cell j hj]; rfl)) (fun q hq => hr.fro _) (fun v hv => (by
      simp only [List.mem_singleton] at hv
      subst hv; rfl))
    simpa [World.setCells] using this
  rw [Sem.run_bind, h1]
  rfl
theorem b_row {fn : Func} {R : Ending → World → Prop} {p : Tmp} {ty : TypeId} {a : Act} {w : World} {g n : Nat} {k : IntKind} {f : Nat → Int} {t : TypeId} {d : TypeDesc} (h : fn.results = #[.cell p ty]) (hd : a.defers = []) (hp : a.eval (.tmp p) = .pointer (some ⟨g, 0, none⟩)) (hr : Row w g k n f t)
    (hu : P.underlying ty = some d) (hdd : (match d with | .struct _ | .array _ _ => true | _ => false) = true) (hi : (P.info? ty).map (·.size) = some n) (hR : R (.returned (.agg (FR k n f))) w) : bodyPost P fn R .ret a w :=
  ⟨hd, _, zY h hr hp hu hdd hi, hR⟩
theorem b_tmp {fn : Func} {R : Ending → World → Prop} {p : Tmp} {a : Act} {w : World} {v : Value} (h : fn.results = #[.tmp p]) (hd : a.defers = []) (hp : a.eval (.tmp p) = v) (hR : R (.returned v) w) : bodyPost P fn R .ret a w :=
  ⟨hd, v, by have hp' : a.tmps.getD p undef = v := hp; rw [← hp']; exact results_tmp h _ _ _, hR⟩
theorem b_row2 {fn : Func} {R : Ending → World → Prop} {p q : Tmp} {ty : TypeId} {a : Act} {w : World} {g n : Nat} {k : IntKind} {f : Nat → Int} {t : TypeId} {d : TypeDesc} {v : Value} (h : fn.results = #[.cell p ty, .tmp q]) (hd : a.defers = []) (hp : a.eval (.tmp p) = .pointer (some ⟨g, 0, none⟩)) (hq : a.eval (.tmp q) = v) (hr : Row w g k n f t)
    (hu : P.underlying ty = some d) (hdd : (match d with | .struct _ | .array _ _ => true | _ => false) = true) (hi : (P.info? ty).map (·.size) = some n) (hR : R (.returned (.tuple #[.agg (FR k n f), v])) w) : bodyPost P fn R .ret a w := by
  refine ⟨hd, .tuple #[.agg (FR k n f), v], ?_, hR⟩
  have hp' : a.tmps[p]?.getD undef = .pointer (some ⟨g, 0, none⟩) := by rw [← Array.getD_eq_getD_getElem?]; exact hp
  have hq' : a.tmps[q]?.getD undef = v := by rw [← Array.getD_eq_getD_getElem?]; exact hq
  simp [results, h, hp', hq', asAddr, run_loadVar_row w g t ty _ _ d hr hu hdd (by rw [FR_size]; exact hi)]
theorem exec_slice {o : Oper} {ev : Operand → Value} {w : World} {t : TypeId} {x : Operand} {lo hi mx : Option Operand} {a v : Value} {l h m : Option Value} (ho : o.op = .slice t x lo hi mx) (hx : ev x = a) (hl : lo.map ev = l) (hh : hi.map ev = h) (hm : mx.map ev = m) (hr : (Instr.sliceAt t a l h m).run P w = .ok v w) : (execOp ev o).run P w = .ok (.value v) w := by
  unfold execOp
  simp only [ho, hx, hl, hh, hm]
  rw [Sem.run_bind, hr]
  rfl
theorem exec_buildSlice {o : Oper} {ev : Operand → Value} {w w' : World} {t : TypeId} {n : Nat} {parts : Array (Nat × Operand)} {ps : Array (Nat × Value)} {v : Value} (ho : o.op = .buildSlice t n parts) (hx : (parts.map fun (i, x) => (i, ev x)) = ps) (h : (Instr.buildSlice t n ps).run P w = .ok v w') : (execOp ev o).run P w = .ok (.value v) w' := by
  unfold execOp
  simp only [ho, hx]
  rw [Sem.run_bind, h]
  rfl
theorem then_exit {K : Act → World → Prop} {a : Act} {w : World} {id : Nat} (h : Q (.exit id) a w) : Exit.then K Q (.exit id) a w := h
theorem inBlock_exit {a : Act} {w : World} {id : Nat} (h : Q .normal a w) : Exit.inBlock id Q (.exit id) a w := by unfold Exit.inBlock; simp only [if_true]; exact h
theorem inBlock_normal {a : Act} {w : World} {id : Nat} (h : Q .normal a w) : Exit.inBlock id Q .normal a w := h
end
end Go.Proofs.YtbmnkchcekacfaaDoor.P
end
