/- Texts C6, P2, F6, A5, OA of this session, in one (wip/tools/merge.py). -/
import Derived.Test.YthonoagpiofojaaU1
import Derived.Test.YthonoagpiofojaaWMore
import Derived.Test.YthonoagpiofojaaWTab
import Derived.Test.YthonoagpiofojaaWRepsOne
import Derived.Laws.BytesArg
import Derived.Laws.StructEq
import Derived.Deep.RegionWith
import Derived.Deep.RegionHeld3
import Derived.WideKeyArr2
namespace Go.Proofs.Ythonoagpiofojaa.P
section
set_option linter.unusedVariables false
set_option linter.unusedSimpArgs false
open Go.RowKit Go.Proofs.YthonoagpiofojaaW.PrintWords Go.Proofs.YthonoagpiofojaaW.PrintLast Go.Proofs.YthonoagpiofojaaW.PrintMore
attribute [local go_sem] setCell_drewN
theorem info5 : (Try.prog.info? 5).map (fun i => (i.zero, i.size, i.bytes)) = some (some (.int .u8 0), 1, 1) := by kernel_rfl
theorem tab6 : rtab .any (opsOf Try.f36 6) = (true, [([], []), ([], []), ([1], [1]), ([2], [2]), ([3], [3]), ([4], [4]), ([], []), ([6], [6]), ([7], [7]), ([8], [8]), ([9], [9]), ([5, 10], [5, 10]), ([0, 11], [0, 11]), ([12, 12, 0, 1, 2, 3, 4, 5, 6, 7, 8, 9, 10, 11, 12], [0, 12])]) := by kernel_rfl
theorem bits6 : waitsOk [([], []), ([], []), ([1], [1]), ([2], [2]), ([3], [3]), ([4], [4]), ([], []), ([6], [6]), ([7], [7]), ([8], [8]), ([9], [9]), ([5, 10], [5, 10]), ([0, 11], [0, 11]), ([12, 12, 0, 1, 2, 3, 4, 5, 6, 7, 8, 9, 10, 11, 12], [0, 12])] [0, 0, 2, 6, 14, 30, 0, 64, 192, 448, 960, 2046, 4095, 8191] = true := by kernel_rfl
/-- The bytes of 16 digits. -/
def outL (f : Nat → Int) : Nat → List Int
  | 0 => []
  | i + 1 => outL f i ++ [f i % 256, f i / 256]
theorem outL_len (f : Nat → Int) : ∀ i, (outL f i).length = 2 * i
  | 0 => rfl
  | i + 1 => by rw [outL, List.length_append, outL_len f i]; simp; omega
def YRel (w : World) (f : Nat → Int) (v4 v3 : Value) (wr : World) : Prop :=
  ∃ i : Nat, i ≤ 16 ∧ v4 = .int .i64 (i : Int) ∧ Below w.heap.size w wr ∧ Row wr w.heap.size .i64 16 f 33 ∧ Kd.R (Kd.int .u8) 5 wr w.heap.size (fun k => k ≠ w.heap.size) v3 (outL f i)
theorem bytes_wraps (x : Int) (h : 0 ≤ x ∧ x < 65536) : Int.tmod x 256 = x % 256 ∧ Int.tdiv x 256 = x / 256 ∧ IntKind.u8.wrap (x % 256) = x % 256 ∧ IntKind.u8.wrap (x / 256) = x / 256 ∧ x % 256 % 256 = x % 256 ∧ x / 256 % 256 = x / 256 ∧ wrap64 (x / 256) = x / 256 := by
  refine ⟨Int.tmod_eq_emod_of_nonneg h.1, Int.tdiv_eq_ediv_of_nonneg h.1, ?_, ?_, by omega, by omega, w64 _ (by omega)⟩
  · show x % 256 % 256 = _; omega
  · show x / 256 % 256 = _; omega
theorem ref_bytes_calls (f : Nat → Int) (w : World) (hf : CB f) :
    Calls Try.prog 36 #[.agg (FR .i64 16 f)] w fun e w' => e = .returned (.string (strOfNums (outL (dig 65536 (V16 f % PP)) 16))) ∧ Below w.heap.size w w' := by
  have HL := Aside0.mk (fun w => least_calls f w hf)
  clear hf
  go_enter Try.func36, Try.ntmps36
  have HR0 := Aside0.mk (Row.new w .i64 16 f 33)
  have HB0 := Aside0.mk ((Below.refl w.heap.size w).alloc (Nat.le_refl _) (.cells (FR .i64 16 f) 33))
  go_wp2_with (refine step_load HR0.out Try.underlying33 info33 rfl rfl rfl rfl ?_)
  refine (HL.out _).mono ?_
  rintro e w1 ⟨rfl, hb⟩
  have HR1 := Aside0.mk (HR0.out.below hb HR0.out.lt)
  have HB1 := Aside0.mk (HB0.out.trans (hb.mono (by have := HR0.out.lt; omega)))
  clear hb HR0 HB0
  go_wp2_with (refine step_store _ HR1.out info33 rfl rfl rfl rfl rfl ?_)
  have HR2 := Aside0.mk (HR1.out.all (f' := dig 65536 (V16 f % PP)))
  have HB2 := Aside0.mk (bel_setCells (Nat.le_refl _) (FR .i64 16 (dig 65536 (V16 f % PP))).toList 0 _ HB1.out)
  have HD : Aside0 (∀ i, 0 ≤ dig 65536 (V16 f % PP) i ∧ dig 65536 (V16 f % PP) i < 65536) := ⟨dig_b 65536 (by omega) _⟩
  generalize hdd : dig 65536 (V16 f % PP) = d at *
  have HDD := Aside0.mk hdd
  clear hdd
  clear HR1 HB1 HL
  go_loopw [4, 3] (fun v4 v3 wr => YRel w d v4 v3 wr) (fun v _ _ => 16 - (intOf v).toNat)
  case atStart => exact ⟨0, by omega, rfl, HB2.out, HR2.out, Kd.R_nil _ _ _ _ _⟩
  case round =>
    clear HR2 HB2
    obtain ⟨i, hi, rfl, hb, hr, ho⟩ := hrel
    have hlt1 := hr.lt
    have HB := Aside0.mk hb
    have HR := Aside0.mk hr
    have HO := Aside0.mk ho
    clear hb hr ho
    rcases Nat.lt_or_ge i 16 with h15 | h15
    · have hlt : ((i : Int) < 16) = True := eq_true (by omega)
      have hdx := HD.out i
      have HX : Aside0 (outL d (i + 1) = outL d i ++ [d i % 256, d i / 256]) := ⟨rfl⟩
      have hk : Aside0 (wr.cell? ⟨w.heap.size, i, none⟩ = some (.int .i64 (d i))) := ⟨HR.out.cell i h15⟩
      obtain ⟨e1, e2, e3, e4, e5, e6, e7⟩ := bytes_wraps (d i) hdx
      have d0 := hdx.1
      have d1 := hdx.2
      generalize hdx' : d i = x at *
      have HDX := Aside0.mk hdx'
      clear hdx'
      clear hdx
      go_wp2_with fail
      have HOd := Aside0.mk (Kd.R_drew HO.out)
      have HBd := Aside0.mk (below_drew1 HB.out)
      have HRd : Aside0 (Row wr.drew w.heap.size .i64 16 d 33) := ⟨HR.out⟩
      have hkd : wr.drew.cell? ⟨w.heap.size, i, none⟩ = some (.int .i64 x) := hk.out
      refine start_ (n := 14) (S := (fun w' => w'.cell? ⟨w.heap.size, i, none⟩ = some (.int .i64 x))) (ds := []) #[false, false, false, false, false, false, false, false, false, false, false, false, false, false] (by kernel_rfl) rfl rfl hkd (fun hHeld => ?_); refine with_tabW tab6 bits6 (fun HT_ HW_ => ?_)
      have hlt2 : w.heap.size < wr.drew.heap.size := hlt1
      generalize wr.drew = w6 at HOd HBd HRd hHeld hlt2 ⊢
      clear hkd
      refine pure_ (i := 0) (N := some 11) (v := ?_) (a' := ?_) #[true, false, false, false, false, false, false, false, false, false, false, false, false, false] rfl rfl (any_of HT_.out (by kernel_rfl)) (fun _ _ _ h => h) (Or.inl ⟨by rfl, ?_⟩) ?_ ?_
      rotate_left
      · intro w'
        go_simp
        with_reducible rfl
      rotate_left
      · simp only [Act.put, List.setIfInBounds_toArray, List.set_cons_zero, List.set_cons_succ, i64_w, i32_w]
        rfl
      refine pure_ (i := 1) (N := some 12) (v := ?_) (a' := ?_) #[true, true, false, false, false, false, false, false, false, false, false, false, false, false] rfl rfl (any_of HT_.out (by kernel_rfl)) (fun _ _ _ h => h) (Or.inl ⟨by rfl, ?_⟩) ?_ ?_
      rotate_left
      · intro w'
        go_simp
        with_reducible rfl
      rotate_left
      · simp only [Act.put, List.setIfInBounds_toArray, List.set_cons_zero, List.set_cons_succ, i64_w, i32_w]
        rfl
      refine pure_ (i := 6) (N := some 17) (v := ?_) (a' := ?_) #[true, true, false, false, false, false, true, false, false, false, false, false, false, false] rfl rfl (any_of HT_.out (by kernel_rfl)) (fun _ _ _ h => h) (Or.inl ⟨by rfl, ?_⟩) ?_ ?_
      rotate_left
      · intro w'
        go_simp
        with_reducible rfl
      rotate_left
      · simp only [Act.put, List.setIfInBounds_toArray, List.set_cons_zero, List.set_cons_succ, i64_w, i32_w]
        rfl
      refine take_ (i := 2) (N := some 13) (v := ?_) (a' := ?_) #[true, true, true, false, false, false, true, false, false, false, false, false, false, false] rfl rfl (take_ofW HT_.out HW_.out (by kernel_rfl)) (fun _ _ _ h => h) (Or.inl ⟨by rfl, ?_⟩) hHeld ?_ ?_
      rotate_left
      · intro w' hsw
        go_simp
        with_reducible rfl
      rotate_left
      · simp only [Act.put, List.setIfInBounds_toArray, List.set_cons_zero, List.set_cons_succ, i64_w, i32_w]
        rfl
      refine take_ (i := 3) (N := some 14) (v := ?_) (a' := ?_) #[true, true, true, true, false, false, true, false, false, false, false, false, false, false] rfl rfl (take_ofW HT_.out HW_.out (by kernel_rfl)) (fun _ _ _ h => h) (Or.inl ⟨by rfl, ?_⟩) hHeld ?_ ?_
      rotate_left
      · intro w' hsw
        go_simp
        with_reducible rfl
      rotate_left
      · simp only [Act.put, List.setIfInBounds_toArray, List.set_cons_zero, List.set_cons_succ, i64_w, i32_w]
        rfl
      refine take_ (i := 4) (N := some 15) (v := ?_) (a' := ?_) #[true, true, true, true, true, false, true, false, false, false, false, false, false, false] rfl rfl (take_ofW HT_.out HW_.out (by kernel_rfl)) (fun _ _ _ h => h) (Or.inl ⟨by rfl, ?_⟩) hHeld ?_ ?_
      rotate_left
      · intro w' hsw
        go_simp
        with_reducible rfl
      rotate_left
      · simp only [Act.put, List.setIfInBounds_toArray, List.set_cons_zero, List.set_cons_succ, i64_w, i32_w]
        rfl
      refine pure_ (i := 5) (N := some 16) (v := ?_) (a' := ?_) #[true, true, true, true, true, true, true, false, false, false, false, false, false, false] rfl rfl (any_of HT_.out (by kernel_rfl)) (fun _ _ _ h => h) (Or.inl ⟨by rfl, ?_⟩) ?_ ?_
      rotate_left
      · intro w'
        go_simp
        with_reducible rfl
      rotate_left
      · simp only [Act.put, List.setIfInBounds_toArray, List.set_cons_zero, List.set_cons_succ, i64_w, i32_w]
        rfl
      refine take_ (i := 7) (N := some 18) (v := ?_) (a' := ?_) #[true, true, true, true, true, true, true, true, false, false, false, false, false, false] rfl rfl (take_ofW HT_.out HW_.out (by kernel_rfl)) (fun _ _ _ h => h) (Or.inl ⟨by rfl, ?_⟩) hHeld ?_ ?_
      rotate_left
      · intro w' hsw
        go_simp
        with_reducible rfl
      rotate_left
      · simp only [Act.put, List.setIfInBounds_toArray, List.set_cons_zero, List.set_cons_succ, i64_w, i32_w]
        rfl
      refine take_ (i := 8) (N := some 19) (v := ?_) (a' := ?_) #[true, true, true, true, true, true, true, true, true, false, false, false, false, false] rfl rfl (take_ofW HT_.out HW_.out (by kernel_rfl)) (fun _ _ _ h => h) (Or.inl ⟨by rfl, ?_⟩) hHeld ?_ ?_
      rotate_left
      · intro w' hsw
        go_simp
        with_reducible rfl
      rotate_left
      · simp only [Act.put, List.setIfInBounds_toArray, List.set_cons_zero, List.set_cons_succ, i64_w, i32_w]
        rfl
      refine take_ (i := 9) (N := some 20) (v := ?_) (a' := ?_) #[true, true, true, true, true, true, true, true, true, true, false, false, false, false] rfl rfl (take_ofW HT_.out HW_.out (by kernel_rfl)) (fun _ _ _ h => h) (Or.inl ⟨by rfl, ?_⟩) hHeld ?_ ?_
      rotate_left
      · intro w' hsw
        go_simp
        with_reducible rfl
      rotate_left
      · simp only [Act.put, List.setIfInBounds_toArray, List.set_cons_zero, List.set_cons_succ, i64_w, i32_w]
        rfl
      refine pure_ (i := 10) (N := some 21) (v := ?_) (a' := ?_) #[true, true, true, true, true, true, true, true, true, true, true, false, false, false] rfl rfl (any_of HT_.out (by kernel_rfl)) (fun _ _ _ h => h) (Or.inl ⟨by rfl, ?_⟩) ?_ ?_
      rotate_left
      · intro w'
        go_simp
        with_reducible rfl
      rotate_left
      · simp only [Act.put, List.setIfInBounds_toArray, List.set_cons_zero, List.set_cons_succ, i64_w, i32_w]
        rfl
      refine one_ (i := 11) (N := some 22) #[true, true, true, true, true, true, true, true, true, true, true, true, false, false] rfl rfl (one_of HT_.out (by kernel_rfl)) (by decide) (fun K hK => ?_)
      refine Kd.R_lit_step (Kd.int .u8) w.heap.size 5 ?hg (N := 22) ?hd (xs := ([x % 256, x / 256] : List Int)) (inner := [.int .u8 (x % 256), .int .u8 (x / 256)]) (ok := fun _ => True) (okp := fun _ => True) ?hr ?hp (fun _ hk => hk) trivial HBd.out (by omega) (by simp) ?_
      (case hd => rfl)
      (case hg => rfl)
      (case hr => first | (go_simp; done) | (go_simp; rfl))
      (case hp => exact (Reps.one (show Kd.M (Kd.int .u8) _ _ _ (x % 256) [.int .u8 (x % 256)] from rfl) (Reps.one (show Kd.M (Kd.int .u8) _ _ _ (x / 256) [.int .u8 (x / 256)] from rfl) (Reps.none _ _))))
      intro v22 w4 ho hb hg_ hnew_
      have HO4 := Aside0.mk ho
      have HB4 := Aside0.mk hb
      have HG4 := Aside0.mk hg_
      clear ho hb hg_ hnew_
      obtain ⟨Ao, co, eo⟩ := Kd.R_slice HO4.out
      subst eo
      have HR4 : Aside0 (Row w4 w.heap.size .i64 16 d 33) := ⟨(HG4.out.block _ hlt2 (by simp)).trans HRd.out⟩
      have hlt4 := HR4.out.lt
      refine hK.out _ _ (by rw [HR4.out.cell i h15, HDX.out]) (fun hHeld => ?_)
      clear hK K
      refine norm_ (a' := ?_) ?_ ?_
      rotate_left
      · show Act.put _ (some 22) _ = _
        simp only [Act.put, List.setIfInBounds_toArray, List.set_cons_zero, List.set_cons_succ, i64_w, i32_w]
        rfl
      refine one_ (i := 12) (N := some 23) #[true, true, true, true, true, true, true, true, true, true, true, true, true, false] rfl rfl (one_of HT_.out (by kernel_rfl)) (by decide) (fun K hK => ?_)
      refine Kd.R_append_rows_step (Kd.int .u8) (w0 := w) w.heap.size (by rfl) (.tmp 11) (.tmp 22) 49 5 (.int .u8 0) 1 rfl Try.underlying49 info5 rfl (by decide) (by omega) u3 (outL d i) ([x % 256, x / 256] : List Int) _ _ _ (fun k => k ≠ w.heap.size) (fun _ => False) rfl rfl ?aO ?aR (fun _ _ h => h) (fun _ h => h.elim) ?aF ?aB ?aS ?aL ?_
      (case aR => exact (Kd.R_reads' HO4.out).2.2)
      (case aB => exact HB4.out)
      (case aF => exact (fun k_ hk => by omega))
      (case aO => exact Kd.R_grown HOd.out HG4.out (fun k hk => by simp))
      (case aS => omega)
      (case aL => have := outL_len d i; simp; omega)
      intro v1 w5 ho hb hg hat
      have HO5 := Aside0.mk ho
      have HB5 := Aside0.mk hb
      have HG5 := Aside0.mk hg
      clear ho hb hg hat
      have HR5 : Aside0 (Row w5 w.heap.size .i64 16 d 33) := ⟨(HG5.out.block _ hlt4 (fun e => HOd.out.1 _ e.symm rfl)).trans HR4.out⟩
      refine hK.out _ _ (by rw [HR5.out.cell i h15, HDX.out]) (fun hHeld => ?_)
      clear hK K
      refine norm_ (a' := ?_) ?_ ?_
      rotate_left
      · show Act.put _ (some 23) _ = _
        simp only [Act.put, List.setIfInBounds_toArray, List.set_cons_zero, List.set_cons_succ, i64_w, i32_w]
        rfl
      refine pure_ (i := 13) (N := some 3) (v := ?_) (a' := ?_) #[true, true, true, true, true, true, true, true, true, true, true, true, true, true] rfl rfl (any_of HT_.out (by kernel_rfl)) (fun _ _ _ h => h) (Or.inl ⟨by rfl, ?_⟩) ?_ ?_
      rotate_left
      · intro w'
        go_simp
        with_reducible rfl
      rotate_left
      · simp only [Act.put, List.setIfInBounds_toArray, List.set_cons_zero, List.set_cons_succ, i64_w, i32_w]
        rfl
      refine done_ (done_of HT_.out (by kernel_rfl)) ?_
      try go_wp2
      refine ⟨⟨i + 1, by omega, rfl, HB5.out, HR5.out, ?_⟩, meas_up 16 i (by omega)⟩
      rw [HX.out]
      exact HO5.out
    · obtain rfl : i = 16 := by omega
      have hcv := own_string (P := Try.prog) Try.underlying49 Try.underlying5 Try.underlying9 (Kd.own_of_R HO.out)
      go_wp2_with fail
      go_ret
      refine ⟨?_, HB.out⟩
      rw [HDD.out]; rfl
end
section
set_option linter.unusedVariables false
set_option linter.unusedSimpArgs false
open Go.RowKit Go.Proofs.YthonoagpiofojaaW.PrintWords Go.Proofs.YthonoagpiofojaaW.PrintLast Go.Proofs.YthonoagpiofojaaW.PrintMore
attribute [local go_sem] setCell_drewN
theorem exec_load {P : Program} {o : Oper} {ev : Operand → Value} {w : World} {ty : TypeId} {x : Operand} {g : Nat} {k : IntKind} {n : Nat} {f : Nat → Int} {t : TypeId} {d : TypeDesc} (hr : Row w g k n f t)
    (hu : P.underlying ty = some d) (hi : (P.info? ty).map (·.size) = some n) (hd : (match d with | .struct _ | .array _ _ => true | _ => false) = true) (ho : o.op = .load ty x) (hx : ev x = .pointer (some ⟨g, 0, none⟩)) : (execOp ev o).run P w = .ok (.value (.agg (FR k n f))) w := by
  unfold execOp
  simp only [ho, hx, Instr.loadAt, Instr.sureAddr, Sem.run_bind, Sem.run_pure, Result.andThen_ok, run_loadVar_row w g t ty _ _ d hr hu hd (by rw [FR_size]; exact hi)]
/-- 32 numbers as a string. -/
def sOf (f : Nat → Int) : ByteArray := strOfNums ((List.range 32).map f)
theorem conv_row {w : World} {g : Nat} {f : Nat → Int} {t : TypeId} (hr : Row w g .u8 32 f t) : (convert 49 9 (.slice (some ⟨g, 0, none⟩) 32 32)).run Try.prog w = .ok (.string (sOf f)) w := by
  refine run_convert_bytes_arg w 49 5 Try.underlying49 Try.underlying5 g 0 32 32 ((List.range 32).map f) (by simp) (fun i hi => ?_) 9 Try.underlying9
  rw [Nat.zero_add, hr.cell i hi]
  simp [List.getD_eq_getElem?_getD, hi]
theorem equal22i (f g : Nat → Int) (w : World) : (Op.equalIn 10000 22 (.agg (FR .u8 32 f)) (.agg (FR .u8 32 g))).run Try.prog w = .ok (sameRow 32 f g) w := equal22 f g w
theorem outL_range (N : Int) : ∀ i, outL (dig 65536 N) i = (List.range (2 * i)).map (dig 256 N)
  | 0 => rfl
  | i + 1 => by
    rw [outL, outL_range N i, show 2 * (i + 1) = 2 * i + 1 + 1 by omega, List.range_succ, List.range_succ]
    simp only [List.map_append, List.map_cons, List.map_nil, List.append_assoc, List.cons_append, List.nil_append]
    congr 1
    have e : (256 : Int) ^ (2 * i) = 65536 ^ i := by rw [Int.pow_mul]; rfl
    have e2 : (256 : Int) ^ (2 * i + 1) = 65536 ^ i * 256 := by rw [Int.pow_succ, e]
    unfold dig
    rw [e, e2, ← Int.ediv_ediv_of_nonneg (Int.le_of_lt (pow_pos' 65536 (by omega) i))]
    generalize N / 65536 ^ i = x
    rw [show x % 65536 % 256 = x % 256 by omega, show x % 65536 / 256 = x / 256 % 256 by omega]
theorem ref_bytes_str (N : Int) : strOfNums (outL (dig 65536 N) 16) = sOf (dig 256 N) := by rw [outL_range]; rfl
theorem sOf_inj (f g : Nat → Int) (hf : ∀ i, 0 ≤ f i ∧ f i < 256) (hg : ∀ i, 0 ≤ g i ∧ g i < 256) : sOf f = sOf g ↔ ∀ i, i < 32 → f i = g i := by
  constructor
  · intro h i hi
    have h1 : (((List.range 32).map f).map fun n => UInt8.ofNat n.toNat) = (((List.range 32).map g).map fun n => UInt8.ofNat n.toNat) := by
      have := congrArg (fun b : ByteArray => b.data.toList) h
      simpa [sOf, strOfNums] using this
    have h2 := congrArg (fun l => l[i]?) h1
    simp only [List.getElem?_map, List.getElem?_range hi, Option.map_some, Option.some.injEq] at h2
    have h3 := congrArg UInt8.toNat h2
    have b1 := hf i
    have b2 := hg i
    rw [UInt8.toNat_ofNat', UInt8.toNat_ofNat', Nat.mod_eq_of_lt (by omega), Nat.mod_eq_of_lt (by omega)] at h3
    omega
  · intro h
    unfold sOf
    congr 1
    apply List.map_congr_left
    intro i hi
    exact h i (List.mem_range.1 hi)
theorem beq_bytes (a b : ByteArray) : (a == b) = true ↔ a = b := by
  have e : (a == b) = (a.data == b.data) := rfl
  rw [e, beq_iff_eq]
  constructor
  · intro h; cases a; cases b; simp at h; rw [h]
  · rintro rfl; rfl
theorem sOf_same (N M : Int) (hN : 0 ≤ N ∧ N < 256 ^ 32) (hM : 0 ≤ M ∧ M < 256 ^ 32) : (sOf (dig 256 N) == sOf (dig 256 M)) = decide (N = M) := by
  rw [Bool.eq_iff_iff]
  rw [decide_eq_true_eq, beq_bytes, sOf_inj _ _ (dig_b 256 (by omega) N) (dig_b 256 (by omega) M), digs_same 256 (by omega) 32 N M hN hM]
theorem sOf_sameL (N M : Int) (hN : 0 ≤ N ∧ N < 256 ^ 32) (hM : 0 ≤ M ∧ M < 256 ^ 32) : ((sOf (dig 256 N)).toList == (sOf (dig 256 M)).toList) = decide (N = M) := by
  rw [← beq_toListBytes]; exact sOf_same N M hN hM
theorem sB_sOf (f : Nat → Int) (hf : ∀ i, i < 32 → 0 ≤ f i ∧ f i < 256) (i : Nat) (hi : i < 32) : sB (sOf f) i = f i := by
  have hs : (sOf f).size = 32 := by simp [sOf, strOfNums, ByteArray.size]
  obtain ⟨c, h1, h2⟩ := sB_at (sOf f) i (by omega)
  rw [← h2, ← h1 (by omega)]
  have h3 := hf i hi
  show (((sOf f).data[i]).toNat : Int) = f i
  simp [sOf, strOfNums]
  omega
theorem sOf_size (f : Nat → Int) : (sOf f).size = 32 := by simp [sOf, strOfNums, ByteArray.size]
theorem tab17 : rtab .any (opsOf Try.f17 1) = (true, [([], []), ([0], [0]), ([], []), ([2, 1], [2]), ([1, 3], [1, 3]), ([4, 3, 0, 1, 2, 3, 4], [4])]) := by kernel_rfl
theorem bits17 : waitsOk [([], []), ([0], [0]), ([], []), ([2, 1], [2]), ([1, 3], [1, 3]), ([4, 3, 0, 1, 2, 3, 4], [4])] [0, 1, 0, 7, 15, 31] = true := by kernel_rfl
theorem elem_is_calls (f g : Nat → Int) (w : World) (hf : ∀ i, i < 5 → 0 ≤ f i ∧ f i ≤ 9223372036854775808) (hg : ∀ i, i < 5 → 0 ≤ g i ∧ g i ≤ 9223372036854775808) :
    Calls Try.prog 17 #[.agg (FR .u64 5 f), .agg (FR .u64 5 g)] w fun e w' => e = .returned (.bool (decide (V51 f % PP = V51 g % PP))) ∧ Below w.heap.size w w' := by
  have HF := Aside0.mk (fun w => elem_bytes_calls f w hf)
  have HG := Aside0.mk (fun w => elem_bytes_calls g w hg)
  clear hf hg
  go_enter Try.func17, Try.ntmps17
  go_wp2_with fail
  have hh : Row (((w.alloc (.cells (FR .u64 5 f) 27)).alloc (.cells (FR .u64 5 g) 27)).drew) w.heap.size .u64 5 f 27 ∧ Row (((w.alloc (.cells (FR .u64 5 f) 27)).alloc (.cells (FR .u64 5 g) 27)).drew) (w.heap.size + 1) .u64 5 g 27 := ⟨(Row.new w .u64 5 f 27).alloc _, heap_alloc2_new w _ _⟩
  have HBd := Aside0.mk ((bel_two w (.cells (FR .u64 5 f) 27) (.cells (FR .u64 5 g) 27)).drew)
  refine start_ (n := 6) (S := (fun w' => Row w' w.heap.size .u64 5 f 27 ∧ Row w' (w.heap.size + 1) .u64 5 g 27)) (ds := []) #[false, false, false, false, false, false] (by kernel_rfl) rfl rfl hh (fun hHeld => ?_); refine with_tabW tab17 bits17 (fun HT_ HW_ => ?_)
  generalize ((w.alloc (.cells (FR .u64 5 f) 27)).alloc (.cells (FR .u64 5 g) 27)).drew = w6 at HBd hHeld hh ⊢
  clear hh
  have heq := equal22i
  refine take_ (i := 0) (N := some 5) (v := ?_) (a' := ?_) #[true, false, false, false, false, false] rfl rfl (take_ofW HT_.out HW_.out (by kernel_rfl)) (fun _ _ _ h => h) (Or.inl ⟨by rfl, ?_⟩) hHeld ?_ ?_
  rotate_left
  · intro w' hsw
    refine exec_load (x := .tmp 2) hsw.1 Try.underlying27 info27 rfl ?_ ?_ <;> rfl
  rotate_left
  · simp only [Act.put, List.setIfInBounds_toArray, List.set_cons_zero, List.set_cons_succ, i64_w, i32_w]
    rfl
  refine take_ (i := 2) (N := some 7) (v := ?_) (a' := ?_) #[true, false, true, false, false, false] rfl rfl (take_ofW HT_.out HW_.out (by kernel_rfl)) (fun _ _ _ h => h) (Or.inl ⟨by rfl, ?_⟩) hHeld ?_ ?_
  rotate_left
  · intro w' hsw
    refine exec_load (x := .tmp 3) hsw.2 Try.underlying27 info27 rfl ?_ ?_ <;> rfl
  rotate_left
  · simp only [Act.put, List.setIfInBounds_toArray, List.set_cons_zero, List.set_cons_succ, i64_w, i32_w]
    rfl
  refine one_ (i := 1) (N := some 6) #[true, true, true, false, false, false] rfl rfl (one_of HT_.out (by kernel_rfl)) (by decide) (fun K hK => ?_)
  refine goes_ Try.func12 rfl rfl #[.agg (FR .u64 5 f)] rfl rfl rfl (by simp only [List.map_toArray, List.map_cons, List.map_nil]; rfl) ((HF.out _).mono ?_)
  rintro e w1 ⟨rfl, hb⟩
  have hS1 := hHeld.1.below hb hHeld.1.lt
  have hS2 := hHeld.2.below hb hHeld.2.lt
  have HB_HF := Aside0.mk (HBd.out.trans (hb.mono (by have := hHeld.2.lt; omega)))
  clear hb HBd
  refine ⟨_, rfl, hK.out _ _ ⟨hS1, hS2⟩ (fun hHeld => ?_)⟩
  clear hS1 hS2
  have HBd := HB_HF
  clear HB_HF
  clear hK K
  refine norm_ (a' := ?_) ?_ ?_
  rotate_left
  · show Act.put _ (some 6) _ = _
    simp only [Act.put, List.setIfInBounds_toArray, List.set_cons_zero, List.set_cons_succ, i64_w, i32_w]
    rfl
  refine one_ (i := 3) (N := some 8) #[true, true, true, true, false, false] rfl rfl (one_of HT_.out (by kernel_rfl)) (by decide) (fun K hK => ?_)
  refine goes_ Try.func12 rfl rfl #[.agg (FR .u64 5 g)] rfl rfl rfl (by simp only [List.map_toArray, List.map_cons, List.map_nil]; rfl) ((HG.out _).mono ?_)
  rintro e w1 ⟨rfl, hb⟩
  have hS1 := hHeld.1.below hb hHeld.1.lt
  have hS2 := hHeld.2.below hb hHeld.2.lt
  have HB_HG := Aside0.mk (HBd.out.trans (hb.mono (by have := hHeld.2.lt; omega)))
  clear hb HBd
  refine ⟨_, rfl, hK.out _ _ ⟨hS1, hS2⟩ (fun hHeld => ?_)⟩
  clear hS1 hS2
  have HBd := HB_HG
  clear HB_HG
  clear hK K
  refine norm_ (a' := ?_) ?_ ?_
  rotate_left
  · show Act.put _ (some 8) _ = _
    simp only [Act.put, List.setIfInBounds_toArray, List.set_cons_zero, List.set_cons_succ, i64_w, i32_w]
    rfl
  refine pure_ (i := 4) (N := some 9) (v := ?_) (a' := ?_) #[true, true, true, true, true, false] rfl rfl (any_of HT_.out (by kernel_rfl)) (fun _ _ _ h => h) (Or.inl ⟨by rfl, ?_⟩) ?_ ?_
  rotate_left
  · intro w'
    go_simp
    with_reducible rfl
  rotate_left
  · simp only [Act.put, List.setIfInBounds_toArray, List.set_cons_zero, List.set_cons_succ, i64_w, i32_w]
    rfl
  refine pure_ (i := 5) (N := some 4) (v := ?_) (a' := ?_) #[true, true, true, true, true, true] rfl rfl (any_of HT_.out (by kernel_rfl)) (fun _ _ _ h => h) (Or.inl ⟨by rfl, ?_⟩) ?_ ?_
  rotate_left
  · intro w'
    go_simp
    with_reducible rfl
  rotate_left
  · simp only [Act.put, List.setIfInBounds_toArray, List.set_cons_zero, List.set_cons_succ, i64_w, i32_w]
    rfl
  refine done_ (done_of HT_.out (by kernel_rfl)) ?_
  try go_wp2
  go_ret
  refine ⟨?_, HBd.out⟩
  show Ending.returned (Value.bool _) = _
  rw [sameRow_dig 256 (by omega) 32 _ _ (modP_32 _) (modP_32 _)]
theorem tab44 : rtab .any (opsOf Try.f44 1) = (true, [([], []), ([0], [0]), ([], []), ([2, 1], [2]), ([1, 3], [1, 3]), ([4, 3, 0, 1, 2, 3, 4], [4])]) := by kernel_rfl
theorem bits44 : waitsOk [([], []), ([0], [0]), ([], []), ([2, 1], [2]), ([1, 3], [1, 3]), ([4, 3, 0, 1, 2, 3, 4], [4])] [0, 1, 0, 7, 15, 31] = true := by kernel_rfl
theorem ref_is_calls (f g : Nat → Int) (w : World) (hf : CB f) (hg : CB g) :
    Calls Try.prog 44 #[.agg (FR .i64 16 f), .agg (FR .i64 16 g)] w fun e w' => e = .returned (.bool (decide (V16 f % PP = V16 g % PP))) ∧ Below w.heap.size w w' := by
  have HF := Aside0.mk (fun w => ref_bytes_calls f w hf)
  have HG := Aside0.mk (fun w => ref_bytes_calls g w hg)
  clear hf hg
  go_enter Try.func44, Try.ntmps44
  go_wp2_with fail
  have hh : Row (((w.alloc (.cells (FR .i64 16 f) 33)).alloc (.cells (FR .i64 16 g) 33)).drew) w.heap.size .i64 16 f 33 ∧ Row (((w.alloc (.cells (FR .i64 16 f) 33)).alloc (.cells (FR .i64 16 g) 33)).drew) (w.heap.size + 1) .i64 16 g 33 := ⟨(Row.new w .i64 16 f 33).alloc _, heap_alloc2_new w _ _⟩
  have HBd := Aside0.mk ((bel_two w (.cells (FR .i64 16 f) 33) (.cells (FR .i64 16 g) 33)).drew)
  refine start_ (n := 6) (S := (fun w' => Row w' w.heap.size .i64 16 f 33 ∧ Row w' (w.heap.size + 1) .i64 16 g 33)) (ds := []) #[false, false, false, false, false, false] (by kernel_rfl) rfl rfl hh (fun hHeld => ?_); refine with_tabW tab44 bits44 (fun HT_ HW_ => ?_)
  generalize ((w.alloc (.cells (FR .i64 16 f) 33)).alloc (.cells (FR .i64 16 g) 33)).drew = w6 at HBd hHeld hh ⊢
  clear hh
  refine take_ (i := 0) (N := some 5) (v := ?_) (a' := ?_) #[true, false, false, false, false, false] rfl rfl (take_ofW HT_.out HW_.out (by kernel_rfl)) (fun _ _ _ h => h) (Or.inl ⟨by rfl, ?_⟩) hHeld ?_ ?_
  rotate_left
  · intro w' hsw
    refine exec_load (x := .tmp 2) hsw.1 Try.underlying33 info33 rfl ?_ ?_ <;> rfl
  rotate_left
  · simp only [Act.put, List.setIfInBounds_toArray, List.set_cons_zero, List.set_cons_succ, i64_w, i32_w]
    rfl
  refine take_ (i := 2) (N := some 7) (v := ?_) (a' := ?_) #[true, false, true, false, false, false] rfl rfl (take_ofW HT_.out HW_.out (by kernel_rfl)) (fun _ _ _ h => h) (Or.inl ⟨by rfl, ?_⟩) hHeld ?_ ?_
  rotate_left
  · intro w' hsw
    refine exec_load (x := .tmp 3) hsw.2 Try.underlying33 info33 rfl ?_ ?_ <;> rfl
  rotate_left
  · simp only [Act.put, List.setIfInBounds_toArray, List.set_cons_zero, List.set_cons_succ, i64_w, i32_w]
    rfl
  refine one_ (i := 1) (N := some 6) #[true, true, true, false, false, false] rfl rfl (one_of HT_.out (by kernel_rfl)) (by decide) (fun K hK => ?_)
  refine goes_ Try.func36 rfl rfl #[.agg (FR .i64 16 f)] rfl rfl rfl (by simp only [List.map_toArray, List.map_cons, List.map_nil]; rfl) ((HF.out _).mono ?_)
  rintro e w1 ⟨rfl, hb⟩
  have hS1 := hHeld.1.below hb hHeld.1.lt
  have hS2 := hHeld.2.below hb hHeld.2.lt
  have HB_HF := Aside0.mk (HBd.out.trans (hb.mono (by have := hHeld.2.lt; omega)))
  clear hb HBd
  refine ⟨_, rfl, hK.out _ _ ⟨hS1, hS2⟩ (fun hHeld => ?_)⟩
  clear hS1 hS2
  have HBd := HB_HF
  clear HB_HF
  clear hK K
  refine norm_ (a' := ?_) ?_ ?_
  rotate_left
  · show Act.put _ (some 6) _ = _
    simp only [Act.put, List.setIfInBounds_toArray, List.set_cons_zero, List.set_cons_succ, i64_w, i32_w]
    rfl
  refine one_ (i := 3) (N := some 8) #[true, true, true, true, false, false] rfl rfl (one_of HT_.out (by kernel_rfl)) (by decide) (fun K hK => ?_)
  refine goes_ Try.func36 rfl rfl #[.agg (FR .i64 16 g)] rfl rfl rfl (by simp only [List.map_toArray, List.map_cons, List.map_nil]; rfl) ((HG.out _).mono ?_)
  rintro e w1 ⟨rfl, hb⟩
  have hS1 := hHeld.1.below hb hHeld.1.lt
  have hS2 := hHeld.2.below hb hHeld.2.lt
  have HB_HG := Aside0.mk (HBd.out.trans (hb.mono (by have := hHeld.2.lt; omega)))
  clear hb HBd
  refine ⟨_, rfl, hK.out _ _ ⟨hS1, hS2⟩ (fun hHeld => ?_)⟩
  clear hS1 hS2
  have HBd := HB_HG
  clear HB_HG
  clear hK K
  refine norm_ (a' := ?_) ?_ ?_
  rotate_left
  · show Act.put _ (some 8) _ = _
    simp only [Act.put, List.setIfInBounds_toArray, List.set_cons_zero, List.set_cons_succ, i64_w, i32_w]
    rfl
  refine pure_ (i := 4) (N := some 9) (v := ?_) (a' := ?_) #[true, true, true, true, true, false] rfl rfl (any_of HT_.out (by kernel_rfl)) (fun _ _ _ h => h) (Or.inl ⟨by rfl, ?_⟩) ?_ ?_
  rotate_left
  · intro w'
    go_simp
    with_reducible rfl
  rotate_left
  · simp only [Act.put, List.setIfInBounds_toArray, List.set_cons_zero, List.set_cons_succ, i64_w, i32_w]
    rfl
  refine pure_ (i := 5) (N := some 4) (v := ?_) (a' := ?_) #[true, true, true, true, true, true] rfl rfl (any_of HT_.out (by kernel_rfl)) (fun _ _ _ h => h) (Or.inl ⟨by rfl, ?_⟩) ?_ ?_
  rotate_left
  · intro w'
    go_simp
    with_reducible rfl
  rotate_left
  · simp only [Act.put, List.setIfInBounds_toArray, List.set_cons_zero, List.set_cons_succ, i64_w, i32_w]
    rfl
  refine done_ (done_of HT_.out (by kernel_rfl)) ?_
  try go_wp2
  go_ret
  refine ⟨?_, HBd.out⟩
  show Ending.returned (Value.bool _) = _
  rw [ref_bytes_str, ref_bytes_str, sOf_sameL _ _ (modP_32 _) (modP_32 _)]
theorem dig0_odd (N : Int) (hN : 0 ≤ N) : decide (Go.bits .and .u8 (dig 256 N 0) 1 = 1) = decide (N % 2 = 1) := by
  have e : dig 256 N 0 = N % 256 := by unfold dig; simp
  have h : Go.bits .and .u8 (dig 256 N 0) 1 = N % 2 := by
    rw [e, u8_and _ _ (by omega) (by omega) (by omega) (by omega), show (1 : Int).toNat = 2 ^ 1 - 1 from rfl, Nat.and_two_pow_sub_one_eq_mod]
    omega
  rw [h]
theorem elem_odd_calls (f : Nat → Int) (w : World) (hf : ∀ i, i < 5 → 0 ≤ f i ∧ f i ≤ 9223372036854775808) :
    Calls Try.prog 18 #[.agg (FR .u64 5 f)] w fun e w' => e = .returned (.bool (decide (V51 f % PP % 2 = 1))) ∧ Below w.heap.size w w' := by
  have HF := Aside0.mk (fun w => elem_bytes_calls f w hf)
  have HO := Aside0.mk (dig0_odd (V51 f % PP) (modP_b _).1)
  clear hf
  go_enter Try.func18, Try.ntmps18
  have HR0 := Aside0.mk (Row.new w .u64 5 f 27)
  have HB0 := Aside0.mk ((Below.refl w.heap.size w).alloc (Nat.le_refl _) (.cells (FR .u64 5 f) 27))
  go_wp2_with (refine step_load HR0.out Try.underlying27 info27 rfl rfl rfl rfl ?_)
  refine (HF.out _).mono ?_
  rintro e w1 ⟨rfl, hb⟩
  have HB1 := Aside0.mk (HB0.out.trans (hb.mono (by simp)))
  clear hb HR0 HB0
  have hix : ∀ (f : Nat → Int) (w : World), (Instr.index 22 (.agg (FR .u8 32 f)) (.int .i64 0)).run Try.prog w = .ok (.int .u8 (f 0)) w := fun f w => index22 f 0 (by omega) w
  go_wp2_with fail
  go_ret
  refine ⟨?_, HB1.out⟩
  show Ending.returned (Value.bool (Go.bits .and .u8 (dig 256 (V51 f % PP) 0) 1 == 1)) = _
  rw [← HO.out]
  rfl
theorem dig0_oddR (N : Int) : Int.tmod (dig 65536 N 0) 2 = N % 2 := by
  have e : dig 65536 N 0 = N % 65536 := by unfold dig; simp
  rw [e, Int.tmod_eq_emod_of_nonneg (by omega)]; omega
theorem ref_odd_calls (f : Nat → Int) (w : World) (hf : CB f) :
    Calls Try.prog 19 #[.agg (FR .i64 16 f)] w fun e w' => e = .returned (.bool (decide (V16 f % PP % 2 = 1))) ∧ Below w.heap.size w w' := by
  have HF := Aside0.mk (fun w => least_calls f w hf)
  have HO := Aside0.mk (dig0_oddR (V16 f % PP))
  clear hf
  go_enter Try.func19, Try.ntmps19
  have HR0 := Aside0.mk (Row.new w .i64 16 f 33)
  have HB0 := Aside0.mk ((Below.refl w.heap.size w).alloc (Nat.le_refl _) (.cells (FR .i64 16 f) 33))
  go_wp2_with (refine step_load HR0.out Try.underlying33 info33 rfl rfl rfl rfl ?_)
  refine (HF.out _).mono ?_
  rintro e w1 ⟨rfl, hb⟩
  have HB1 := Aside0.mk (HB0.out.trans (hb.mono (by simp)))
  clear hb HR0 HB0
  have hix : ∀ (f : Nat → Int) (w : World), (Instr.index 33 (.agg (FR .i64 16 f)) (.int .i64 0)).run Try.prog w = .ok (.int .i64 (f 0)) w := fun f w => index33 f 0 (by omega) w
  have hmm := HO.out
  go_wp2_with fail
  go_ret
  refine ⟨?_, HB1.out⟩
  rfl
theorem tab14 : rtab .any (opsOf Try.f14 2) = (true, [([], []), ([0], [0]), ([], []), ([2], [2]), ([1, 3], [1, 3]), ([4, 3, 0, 1, 2, 3, 4], [4])]) := by kernel_rfl
theorem bits14 : waitsOk [([], []), ([0], [0]), ([], []), ([2], [2]), ([1, 3], [1, 3]), ([4, 3, 0, 1, 2, 3, 4], [4])] [0, 1, 0, 4, 15, 31] = true := by kernel_rfl
theorem law_is_calls (f g : Nat → Int) (w : World) (hf : ∀ i, i < 5 → 0 ≤ f i ∧ f i ≤ 9223372036854775808) (hg : CB g) :
    Calls Try.prog 14 #[.agg (FR .u64 5 f), .agg (FR .i64 16 g)] w fun e w' => e = .returned (.bool (decide (V51 f % PP = V16 g % PP))) ∧ Below w.heap.size w w' := by
  have HF := Aside0.mk (fun w => elem_bytes_calls f w hf)
  have HG := Aside0.mk (fun w => ref_bytes_calls g w hg)
  clear hf hg
  go_enter Try.func14, Try.ntmps14
  have HR0 := Aside0.mk ((Row.new w .u64 5 f 27).alloc (.cells (FR .i64 16 g) 33))
  have HG0 : Aside0 (Row ((w.alloc (.cells (FR .u64 5 f) 27)).alloc (.cells (FR .i64 16 g) 33)) (w.heap.size + 1) .i64 16 g 33) := ⟨heap_alloc2_new w _ _⟩
  have HB0 := Aside0.mk (bel_two w (.cells (FR .u64 5 f) 27) (.cells (FR .i64 16 g) 33))
  go_wp2_with (refine step_load HR0.out Try.underlying27 info27 rfl rfl rfl rfl ?_)
  refine (HF.out _).mono ?_
  rintro e w1 ⟨rfl, hb⟩
  have HG1 := Aside0.mk (HG0.out.below hb HG0.out.lt)
  have HB1 := Aside0.mk (HB0.out.trans (hb.mono (by simp; omega)))
  have hl1 := HG1.out.lt
  clear hb HR0 HB0 HG0
  have HN := Aside0.mk (Row.new w1 .u8 32 (fun _ => 0) 22)
  have HB2 := Aside0.mk (HB1.out.alloc (by omega) (.cells (FR .u8 32 fun _ => 0) 22))
  have HG2 := Aside0.mk (HG1.out.alloc (.cells (FR .u8 32 fun _ => 0) 22))
  go_wp2_with (refine step_storeG _ HN.out info22 rfl rfl rfl rfl rfl ?_; intro w3 hs hr; have HS3 := Aside0.mk hs; have HR3 := Aside0.mk hr; clear hs hr)
  have hg3 := HG2.out.stored HS3.out (show w.heap.size + 1 ≠ w1.heap.size by omega)
  have hh : Row w3.drew w1.heap.size .u8 32 (dig 256 (V51 f % PP)) 22 ∧ Row w3.drew (w.heap.size + 1) .i64 16 g 33 := ⟨HR3.out, hg3⟩
  have HBd := Aside0.mk (HS3.out.bel _ _ (by omega) HB2.out).drew
  refine start_ (n := 6) (S := (fun w' => Row w' w1.heap.size .u8 32 (dig 256 (V51 f % PP)) 22 ∧ Row w' (w.heap.size + 1) .i64 16 g 33)) (ds := []) #[false, false, false, false, false, false] (by kernel_rfl) rfl rfl hh (fun hHeld => ?_); refine with_tabW tab14 bits14 (fun HT_ HW_ => ?_)
  generalize w3.drew = w6 at HBd hHeld hh ⊢
  clear hh
  refine pure_ (i := 0) (N := some 8) (v := ?_) (a' := ?_) #[true, false, false, false, false, false] rfl rfl (any_of HT_.out (by kernel_rfl)) (fun _ _ _ h => h) (Or.inl ⟨by rfl, ?_⟩) ?_ ?_
  rotate_left
  · intro w'
    go_simp
    with_reducible rfl
  rotate_left
  · simp only [Act.put, List.setIfInBounds_toArray, List.set_cons_zero, List.set_cons_succ, i64_w, i32_w]
    rfl
  refine take_ (i := 1) (N := some 9) (v := ?_) (a' := ?_) #[true, true, false, false, false, false] rfl rfl (take_ofW HT_.out HW_.out (by kernel_rfl)) (fun _ _ _ h => h) (Or.inl ⟨by rfl, ?_⟩) hHeld ?_ ?_
  rotate_left
  · intro w' hsw
    have hcv := conv_row hsw.1
    go_simp
    with_reducible rfl
  rotate_left
  · simp only [Act.put, List.setIfInBounds_toArray, List.set_cons_zero, List.set_cons_succ, i64_w, i32_w]
    rfl
  refine take_ (i := 2) (N := some 10) (v := ?_) (a' := ?_) #[true, true, true, false, false, false] rfl rfl (take_ofW HT_.out HW_.out (by kernel_rfl)) (fun _ _ _ h => h) (Or.inl ⟨by rfl, ?_⟩) hHeld ?_ ?_
  rotate_left
  · intro w' hsw
    refine exec_load (x := .tmp 3) hsw.2 Try.underlying33 info33 rfl ?_ ?_ <;> rfl
  rotate_left
  · simp only [Act.put, List.setIfInBounds_toArray, List.set_cons_zero, List.set_cons_succ, i64_w, i32_w]
    rfl
  refine one_ (i := 3) (N := some 11) #[true, true, true, true, false, false] rfl rfl (one_of HT_.out (by kernel_rfl)) (by decide) (fun K hK => ?_)
  refine goes_ Try.func36 rfl rfl #[.agg (FR .i64 16 g)] rfl rfl rfl (by simp only [List.map_toArray, List.map_cons, List.map_nil]; rfl) ((HG.out _).mono ?_)
  rintro e w2 ⟨rfl, hb⟩
  have hS1 := hHeld.1.below hb hHeld.1.lt
  have hS2 := hHeld.2.below hb hHeld.2.lt
  have HBe := Aside0.mk (HBd.out.trans (hb.mono (by have := hHeld.2.lt; omega)))
  clear hb HBd
  refine ⟨_, rfl, hK.out _ _ ⟨hS1, hS2⟩ (fun hHeld => ?_)⟩
  clear hS1 hS2
  clear hK K
  refine norm_ (a' := ?_) ?_ ?_
  rotate_left
  · show Act.put _ (some 11) _ = _
    simp only [Act.put, List.setIfInBounds_toArray, List.set_cons_zero, List.set_cons_succ, i64_w, i32_w]
    rfl
  refine pure_ (i := 4) (N := some 12) (v := ?_) (a' := ?_) #[true, true, true, true, true, false] rfl rfl (any_of HT_.out (by kernel_rfl)) (fun _ _ _ h => h) (Or.inl ⟨by rfl, ?_⟩) ?_ ?_
  rotate_left
  · intro w'
    go_simp
    with_reducible rfl
  rotate_left
  · simp only [Act.put, List.setIfInBounds_toArray, List.set_cons_zero, List.set_cons_succ, i64_w, i32_w]
    rfl
  refine pure_ (i := 5) (N := some 4) (v := ?_) (a' := ?_) #[true, true, true, true, true, true] rfl rfl (any_of HT_.out (by kernel_rfl)) (fun _ _ _ h => h) (Or.inl ⟨by rfl, ?_⟩) ?_ ?_
  rotate_left
  · intro w'
    go_simp
    with_reducible rfl
  rotate_left
  · simp only [Act.put, List.setIfInBounds_toArray, List.set_cons_zero, List.set_cons_succ, i64_w, i32_w]
    rfl
  refine done_ (done_of HT_.out (by kernel_rfl)) ?_
  try go_wp2
  go_ret
  refine ⟨?_, HBe.out⟩
  show Ending.returned (Value.bool _) = _
  rw [ref_bytes_str, sOf_sameL _ _ (modP_32 _) (modP_32 _)]
theorem num_calls (b : Nat → Int) (w : World) (hb : ∀ j, j < 32 → 0 ≤ b j ∧ b j < 256) :
    Calls Try.prog 15 #[.agg (FR .u8 32 b)] w fun e w' => e = .returned (.agg (FR .i64 16 (fun i => b (2 * i) + 256 * b (2 * i + 1)))) ∧ Below w.heap.size w w' := by
  have HC := Aside0.mk (fun w => Of_calls (sOf b) w (sOf_size b))
  have HE : Aside0 (FR .i64 16 (bD (sOf b)) = FR .i64 16 (fun i => b (2 * i) + 256 * b (2 * i + 1))) := ⟨FR_congr _ _ _ _ (fun i hi => by unfold bD; rw [sB_sOf b hb _ (by omega), sB_sOf b hb _ (by omega)])⟩
  clear hb
  go_enter Try.func15, Try.ntmps15
  have HR0 := Aside0.mk ((Row.new w .u8 32 b 22).alloc (.cells (FR .i64 16 fun _ => 0) 33))
  have HZ0 : Aside0 (Row ((w.alloc (.cells (FR .u8 32 b) 22)).alloc (.cells (FR .i64 16 fun _ => 0) 33)) (w.heap.size + 1) .i64 16 (fun _ => 0) 33) := ⟨heap_alloc2_new w _ _⟩
  have HB0 := Aside0.mk (bel_two w (.cells (FR .u8 32 b) 22) (.cells (FR .i64 16 fun _ => 0) 33))
  have hcv : ∀ o, (convert 49 9 (.slice (some ⟨w.heap.size, 0, none⟩) 32 32)).run Try.prog ((w.alloc (.cells (FR .u8 32 b) 22)).alloc o) = .ok (.string (sOf b)) ((w.alloc (.cells (FR .u8 32 b) 22)).alloc o) := fun o => conv_row ((Row.new w .u8 32 b 22).alloc o)
  go_wp2_with fail
  refine (HC.out _).mono ?_
  rintro e w1 ⟨rfl, hb⟩
  have HZ1 := Aside0.mk (HZ0.out.below hb HZ0.out.lt)
  have HB1 := Aside0.mk (HB0.out.trans (hb.mono (by simp; omega)))
  have hl1 := HZ1.out.lt
  clear hb HR0 HB0 HZ0 hcv
  go_wp2_with (refine step_storeG _ HZ1.out info33 rfl rfl rfl rfl rfl ?_; intro w3 hs hr; have HS3 := Aside0.mk hs; have HR3 := Aside0.mk hr; clear hs hr)
  refine bodyPost_ret (row_results rfl HR3.out rfl Try.underlying33 rfl info33) rfl ?_
  exact ⟨by rw [HE.out], HS3.out.bel _ _ (by omega) HB1.out⟩
end
section
set_option linter.unusedVariables false
set_option linter.unusedSimpArgs false
open Go.RowKit
attribute [local go_sem] setCell_drewN
/-- 32 bytes as cells. -/
def B32 (b : Nat → Int) : Array Value := #[.int .u8 (b 0), .int .u8 (b 1), .int .u8 (b 2), .int .u8 (b 3), .int .u8 (b 4), .int .u8 (b 5), .int .u8 (b 6), .int .u8 (b 7), .int .u8 (b 8), .int .u8 (b 9), .int .u8 (b 10), .int .u8 (b 11), .int .u8 (b 12), .int .u8 (b 13), .int .u8 (b 14), .int .u8 (b 15), .int .u8 (b 16), .int .u8 (b 17), .int .u8 (b 18), .int .u8 (b 19), .int .u8 (b 20), .int .u8 (b 21), .int .u8 (b 22), .int .u8 (b 23), .int .u8 (b 24), .int .u8 (b 25), .int .u8 (b 26), .int .u8 (b 27), .int .u8 (b 28), .int .u8 (b 29), .int .u8 (b 30), .int .u8 (b 31)]
theorem B32_at (b : Nat → Int) : ∀ j, j < 32 → (B32 b)[j]? = some (.int .u8 (b j)) := by
  intro j hj
  have h : j = 0 ∨ j = 1 ∨ j = 2 ∨ j = 3 ∨ j = 4 ∨ j = 5 ∨ j = 6 ∨ j = 7 ∨ j = 8 ∨ j = 9 ∨ j = 10 ∨ j = 11 ∨ j = 12 ∨ j = 13 ∨ j = 14 ∨ j = 15 ∨ j = 16 ∨ j = 17 ∨ j = 18 ∨ j = 19 ∨ j = 20 ∨ j = 21 ∨ j = 22 ∨ j = 23 ∨ j = 24 ∨ j = 25 ∨ j = 26 ∨ j = 27 ∨ j = 28 ∨ j = 29 ∨ j = 30 ∨ j = 31 := by omega
  rcases h with rfl | rfl | rfl | rfl | rfl | rfl | rfl | rfl | rfl | rfl | rfl | rfl | rfl | rfl | rfl | rfl | rfl | rfl | rfl | rfl | rfl | rfl | rfl | rfl | rfl | rfl | rfl | rfl | rfl | rfl | rfl | rfl
  all_goals rfl
/-- Eight bytes from place i on, as a number. -/
def L8 (b : Nat → Int) (i : Nat) : Int := ldZ (fun j => b (i + j)) 8
theorem L8_b (b : Nat → Int) (hb : ∀ j, j < 32 → 0 ≤ b j ∧ b j < 256) (i : Nat) (hi : i + 8 ≤ 32) : 0 ≤ L8 b i ∧ L8 b i < 18446744073709551616 := by
  have h := ldZ_b (fun j => b (i + j)) (fun j hj => hb _ (by omega)) 8 (by omega)
  exact h
theorem load_at (b : Nat → Int) (g off n c : Nat) (w : World) (t : TypeId) (hg : w.heap[g]? = some (.cells (B32 b) t (0, 0))) (hoff : off + 8 ≤ 32) (hn : 8 ≤ n) (hb : ∀ j, j < 32 → 0 ≤ b j ∧ b j < 256) :
    Calls Try.prog 35 #[.slice (some ⟨g, off, none⟩) n c] w fun e w' => e = .returned (.int .u64 (L8 b off)) ∧ w' = w :=
  load_calls (fun j => b (off + j)) g off n c w hn (fun j hj => hb _ (by omega)) (fun j hj => (cell_of_row w g (off + j) _ t _ hg).trans (B32_at b _ (by omega)))
theorem alloc_keep {V : World} {g : Nat} {x : Obj} (h : V.heap[g]? = some x) (o : Obj) : (V.alloc o).heap[g]? = some x := by
  have hlt : g < V.heap.size := (Array.getElem?_eq_some_iff.1 h).1
  have e : (V.alloc o).heap[g]? = V.heap[g]? := Below.heap_alloc V o g hlt
  rw [e]; exact h
def ofZ (b : Nat → Int) : Int × Int × Int × Int × Int := carriedZ (L8 b 0 % 2251799813685248 + 19 * (b 31 / 128)) (L8 b 6 / 8 % 2251799813685248) (L8 b 12 / 64 % 2251799813685248) (L8 b 19 / 2 % 2251799813685248) (L8 b 24 / 4096 % 2251799813685248)
set_option maxHeartbeats 1500000 in
theorem of_calls (b : Nat → Int) (w : World) (hb : ∀ j, j < 32 → 0 ≤ b j ∧ b j < 256) :
    Calls Try.prog 13 #[.agg (B32 b)] w fun e w' => e = .returned (E5t (ofZ b)) ∧ Below w.heap.size w w' := by
  have r0 := L8_b b hb 0 (by omega); have r1 := L8_b b hb 6 (by omega); have r2 := L8_b b hb 12 (by omega); have r3 := L8_b b hb 19 (by omega); have r4 := L8_b b hb 24 (by omega); have r5 := hb 31 (by omega)
  have m0 := mask51 (L8 b 0) (by omega) (by omega)
  have m1 := mask51 (L8 b 6 / 8) (by omega) (by omega)
  have m2 := mask51 (L8 b 12 / 64) (by omega) (by omega)
  have m3 := mask51 (L8 b 19 / 2) (by omega) (by omega)
  have m4 := mask51 (L8 b 24 / 4096) (by omega) (by omega)
  have w1 := u64w (b 31 / 128) (by omega) (by omega)
  have w2 := u64w (19 * (b 31 / 128)) (by omega) (by omega)
  have w3 := u64w (L8 b 0 % 2251799813685248 + 19 * (b 31 / 128)) (by omega) (by omega)
  have HC := Aside0.mk (fun w => carried_b (L8 b 0 % 2251799813685248 + 19 * (b 31 / 128)) (L8 b 6 / 8 % 2251799813685248) (L8 b 12 / 64 % 2251799813685248) (L8 b 19 / 2 % 2251799813685248) (L8 b 24 / 4096 % 2251799813685248) w (by intro x hx; simp only [List.mem_cons, List.not_mem_nil, or_false] at hx; omega))
  clear r0 r1 r2 r3 r4 r5
  go_enter Try.func13, Try.ntmps13
  go_wp2_with fail
  have HBb := Aside0.mk hb
  clear hb
  go_region_held3 (fun w' => w'.heap[w.heap.size]? = some (.cells (B32 b) 22 (0, 0))) (first | assumption | exact heap_alloc2_old w _ _ | exact alloc_keep (heap_alloc2_old w _ _) _ | exact alloc_keep (by assumption) _ | go_keep)
    (first | (go_at_call 35; refine (load_at b w.heap.size _ _ _ _ 22 ?h3 ?h1 ?h2 HBb.out).mono ?_; (case h1 => decide); (case h2 => decide); (case h3 => assumption); rintro e w' ⟨rfl, rfl⟩))
  all_goals simp only [B32]
  all_goals go_wp2_with fail
  all_goals refine (HC.out _).mono ?_
  all_goals rintro e w1 ⟨rfl, hb⟩
  all_goals (have hrow : w1.heap[w.heap.size + 1]? = some (.cells #[.int .u64 0, .int .u64 0, .int .u64 0, .int .u64 0, .int .u64 0] 27 (0, 0)) := by
               refine (hb.block _ (by simp)).trans ?_
               first | exact alloc_keep (heap_alloc2_new w _ _) _ | exact alloc_keep (alloc_keep (heap_alloc2_new w _ _) _) _)
  all_goals (have hBel : Below w.heap.size w w1 := by
               have h3 := fun c => (bel_three w (.cells (B32 b) 22) (.cells #[.int .u64 0, .int .u64 0, .int .u64 0, .int .u64 0, .int .u64 0] 27) c)
               first | exact (bel_drewN (h3 _) _).trans (hb.mono (bel_drewN (h3 _) _).size) | exact (h3 _).trans (hb.mono (h3 _).size))
  all_goals have HB1 := Aside0.mk hBel
  all_goals (have hlt : w.heap.size + 1 < w1.heap.size := (Array.getElem?_eq_some_iff.1 hrow).1)
  all_goals clear hb hBel HC
  all_goals generalize ht : carriedZ (L8 b 0 % 2251799813685248 + 19 * (b 31 / 128)) (L8 b 6 / 8 % 2251799813685248) (L8 b 12 / 64 % 2251799813685248) (L8 b 19 / 2 % 2251799813685248) (L8 b 24 / 4096 % 2251799813685248) = t
  all_goals (obtain ⟨t0, t1, t2, t3, t4⟩ := t; have HT := Aside0.mk ht; clear ht; simp only [E5t, E5])
  all_goals have k0 := cell_of_row w1 _ 0 _ _ _ hrow
  all_goals have k1 := cell_of_row w1 _ 1 _ _ _ hrow
  all_goals have k2 := cell_of_row w1 _ 2 _ _ _ hrow
  all_goals have k3 := cell_of_row w1 _ 3 _ _ _ hrow
  all_goals have k4 := cell_of_row w1 _ 4 _ _ _ hrow
  all_goals have f0 := frozen_of_row w1 _ 0 _ _ hrow
  all_goals have f1 := frozen_of_row w1 _ 1 _ _ hrow
  all_goals have f2 := frozen_of_row w1 _ 2 _ _ hrow
  all_goals have f3 := frozen_of_row w1 _ 3 _ _ hrow
  all_goals have f4 := frozen_of_row w1 _ 4 _ _ hrow
  all_goals go_wp2_with fail
  all_goals refine bodyPost_ret (results_cell_row rfl _ _ (w.heap.size + 1) 27 #[.int .u64 t0, .int .u64 t1, .int .u64 t2, .int .u64 t3, .int .u64 t4] (0, 0) _ rfl (set5_row hrow) Try.underlying27 rfl (by kernel_rfl)) rfl ?_
  all_goals exact ⟨by unfold ofZ; rw [HT.out]; rfl, set5_bel HB1.out (by omega)⟩
end
section
set_option linter.unusedVariables false
set_option linter.unusedSimpArgs false
open Go.RowKit
theorem val_split (B : Int) (f : Nat → Int) (a : Nat) : ∀ n, val B f (a + n) = val B f a + B ^ a * val B (fun j => f (a + j)) n
  | 0 => by simp [val]
  | n + 1 => by
    have ih := val_split B f a n
    show val B f (a + n) + f (a + n) * B ^ (a + n) = val B f a + B ^ a * (val B (fun j => f (a + j)) n + f (a + n) * B ^ n)
    rw [ih, Int.pow_add]; grind
theorem val_nonneg (B : Int) (hB : 0 < B) (f : Nat → Int) : ∀ n, (∀ i, i < n → 0 ≤ f i) → 0 ≤ val B f n
  | 0, _ => by simp [val]
  | n + 1, h => by
    have h1 := val_nonneg B hB f n (fun i hi => h i (by omega))
    have h2 : 0 ≤ f n * B ^ n := Int.mul_nonneg (h n (by omega)) (Int.le_of_lt (pow_pos' B hB n))
    rw [val]; omega
theorem L8_val (b : Nat → Int) (k : Nat) : L8 b k = val 256 (fun j => b (k + j)) 8 := by
  simp only [L8, ldZ, val, Nat.reduceSub]
  omega
/-- The limbs that Of hands to carried. -/
def ofL (b : Nat → Int) : Nat → Int
  | 0 => L8 b 0 % 2251799813685248 + 19 * (b 31 / 128)
  | 1 => L8 b 6 / 8 % 2251799813685248
  | 2 => L8 b 12 / 64 % 2251799813685248
  | 3 => L8 b 19 / 2 % 2251799813685248
  | _ => L8 b 24 / 4096 % 2251799813685248
/-- Numbers that are bytes. -/
def By (b : Nat → Int) : Prop := ∀ j, j < 32 → 0 ≤ b j ∧ b j < 256
theorem Of_elem_calls (b : Nat → Int) (w : World) (hb : By b) :
    Calls Try.prog 13 #[.agg (FR .u8 32 b)] w fun e w' => e = .returned (.agg (FR .u64 5 (carr (ofL b)))) ∧ Below w.heap.size w w' := of_calls b w hb
def N32 (b : Nat → Int) : Int := val 256 b 32
theorem N32_b (b : Nat → Int) (hb : By b) : 0 ≤ N32 b ∧ N32 b < 115792089237316195423570985008687907853269984665640564039457584007913129639936 := by
  have h := val_b 256 (by omega) b 32 hb
  have e : (256 : Int) ^ 32 = 115792089237316195423570985008687907853269984665640564039457584007913129639936 := by decide
  rw [e] at h; exact h
theorem N32_parts (b : Nat → Int) (hb : By b) (k : Nat) (hk : k + 8 ≤ 32) : ∃ A R, 0 ≤ A ∧ A < 256 ^ k ∧ 0 ≤ R ∧ (0 ≤ L8 b k ∧ L8 b k < 18446744073709551616) ∧ N32 b = A + 256 ^ k * (L8 b k + 18446744073709551616 * R) := by
  have h1 := val_b 256 (by omega) b k (fun i hi => hb i (by omega))
  refine ⟨val 256 b k, val 256 (fun j => b (k + (8 + j))) (24 - k), h1.1, h1.2, val_nonneg 256 (by omega) _ _ (fun i hi => (hb _ (by omega)).1), L8_b b hb k hk, ?_⟩
  have e1 := val_split 256 b k (32 - k)
  have e2 := val_split 256 (fun j => b (k + j)) 8 (24 - k)
  rw [show k + (32 - k) = 32 by omega] at e1
  rw [show 8 + (24 - k) = 32 - k by omega] at e2
  unfold N32
  rw [e1, e2, L8_val]
  rfl
theorem ofL_dig (b : Nat → Int) (hb : By b) : (∀ i, i < 5 → (if i = 0 then ofL b 0 - 19 * (b 31 / 128) else ofL b i) = dig 2251799813685248 (N32 b) i) := by
  intro i hi
  have hc : i = 0 ∨ i = 1 ∨ i = 2 ∨ i = 3 ∨ i = 4 := by omega
  rcases hc with rfl | rfl | rfl | rfl | rfl
  · obtain ⟨A, R, h1, h2, h3, h4, e⟩ := N32_parts b hb 0 (by omega)
    rw [if_pos rfl]
    show L8 b 0 % 2251799813685248 + 19 * (b 31 / 128) - 19 * (b 31 / 128) = N32 b / 1 % 2251799813685248
    simp only [Int.pow_zero] at h2 e
    omega
  · obtain ⟨A, R, h1, h2, h3, h4, e⟩ := N32_parts b hb 6 (by omega)
    rw [if_neg (by omega)]
    show L8 b 6 / 8 % 2251799813685248 = N32 b / 2251799813685248 ^ 1 % 2251799813685248
    rw [show (256 : Int) ^ 6 = 281474976710656 by decide] at h2 e
    rw [show (2251799813685248 : Int) ^ 1 = 2251799813685248 by decide]
    omega
  · obtain ⟨A, R, h1, h2, h3, h4, e⟩ := N32_parts b hb 12 (by omega)
    rw [if_neg (by omega)]
    show L8 b 12 / 64 % 2251799813685248 = N32 b / 2251799813685248 ^ 2 % 2251799813685248
    rw [show (256 : Int) ^ 12 = 79228162514264337593543950336 by decide] at h2 e
    rw [show (2251799813685248 : Int) ^ 2 = 5070602400912917605986812821504 by decide]
    omega
  · obtain ⟨A, R, h1, h2, h3, h4, e⟩ := N32_parts b hb 19 (by omega)
    rw [if_neg (by omega)]
    show L8 b 19 / 2 % 2251799813685248 = N32 b / 2251799813685248 ^ 3 % 2251799813685248
    rw [show (256 : Int) ^ 19 = 5708990770823839524233143877797980545530986496 by decide] at h2 e
    rw [show (2251799813685248 : Int) ^ 3 = 11417981541647679048466287755595961091061972992 by decide]
    omega
  · obtain ⟨A, R, h1, h2, h3, h4, e⟩ := N32_parts b hb 24 (by omega)
    rw [if_neg (by omega)]
    show L8 b 24 / 4096 % 2251799813685248 = N32 b / 2251799813685248 ^ 4 % 2251799813685248
    rw [show (256 : Int) ^ 24 = 6277101735386680763835789423207666416102355444464034512896 by decide] at h2 e
    rw [show (2251799813685248 : Int) ^ 4 = 25711008708143844408671393477458601640355247900524685364822016 by decide]
    omega
theorem ofL_b (b : Nat → Int) (hb : By b) : ∀ i, i < 5 → 0 ≤ ofL b i ∧ ofL b i ≤ 9223372036854775808 := by
  intro i hi
  have h := ofL_dig b hb i hi
  have hd := dig_b 2251799813685248 (by omega) (N32 b) i
  have h31 := hb 31 (by omega)
  split at h
  · rename_i h0; subst h0; omega
  · omega
theorem ofL_V (b : Nat → Int) (hb : By b) : V51 (ofL b) = N32 b - PP * (b 31 / 128) := by
  have h := ofL_dig b hb
  have e1 := val_congr 2251799813685248 _ _ 5 h
  rw [val_dig 2251799813685248 (by omega)] at e1
  have e2 : val 2251799813685248 (fun i => if i = 0 then ofL b 0 - 19 * (b 31 / 128) else ofL b i) 5 = V51 (ofL b) - 19 * (b 31 / 128) := by
    simp [val, V51]; omega
  rw [e2, show (2251799813685248 : Int) ^ 5 = 57896044618658097711785492504343953926634992332820282019728792003956564819968 by decide] at e1
  have hA := val_b 256 (by omega) b 31 (fun i hi => hb i (by omega))
  have hN : N32 b = val 256 b 31 + b 31 * 256 ^ 31 := rfl
  have h31 := hb 31 (by omega)
  rw [show (256 : Int) ^ 31 = 452312848583266388373324160190187140051835877600158453279131187530910662656 by decide] at hA hN
  unfold PP
  generalize V51 (ofL b) = x at *
  generalize val 256 b 31 = y at *
  generalize b 31 = z at *
  omega
theorem of_mod (b : Nat → Int) (hb : By b) : V51 (carr (ofL b)) % PP = N32 b % PP := by
  rw [carr_mod, ofL_V b hb, Int.sub_mul_emod_self_left]
theorem of_Lm (b : Nat → Int) (hb : By b) : Lm (carr (ofL b)) := carr_Lm _ (ofL_b b hb)
/-- The digits that num answers. -/
def numD (b : Nat → Int) (i : Nat) : Int := b (2 * i) + 256 * b (2 * i + 1)
theorem numD_val (b : Nat → Int) : ∀ n, val 65536 (numD b) n = val 256 b (2 * n)
  | 0 => rfl
  | n + 1 => by
    have e : (256 : Int) ^ (2 * n) = 65536 ^ n := by rw [Int.pow_mul]; rfl
    show val 65536 (numD b) n + (b (2 * n) + 256 * b (2 * n + 1)) * 65536 ^ n = val 256 b (2 * n) + b (2 * n) * 256 ^ (2 * n) + b (2 * n + 1) * 256 ^ (2 * n + 1)
    rw [numD_val b n, Int.pow_succ, e]; grind
theorem numD_V (b : Nat → Int) : V16 (numD b) = N32 b := numD_val b 16
theorem numD_D (b : Nat → Int) (hb : By b) : D16 (numD b) := fun j hj => by
  have h1 := hb (2 * j) (by omega)
  have h2 := hb (2 * j + 1) (by omega)
  unfold numD; omega
theorem D16.cb {f : Nat → Int} (h : D16 f) : CB f := fun j hj => by have := h j hj; omega
theorem D16.cb0 {f : Nat → Int} (h : D16 f) : CB0 f := fun j hj => by have := h j hj; omega
theorem Lm.c {f : Nat → Int} (h : Lm f) : ∀ i, i < 5 → 0 ≤ f i ∧ f i ≤ 9223372036854775808 := fun i hi => by have := h.b i hi; omega
/-- The limbs of a small number. -/
def smL (n : Int) (i : Nat) : Int := if i = 0 then n else 0
theorem small_elem_calls (n : Int) (w : World) (h : 0 ≤ n ∧ n < 4294967296) : Calls Try.prog 11 #[.int .u32 n] w fun e w' => e = .returned (.agg (FR .u64 5 (smL n))) ∧ Below w.heap.size w w' := small_calls n w h.1 h.2
theorem smL_V (n : Int) : V51 (smL n) = n := by simp [V51, smL]
theorem smL_Lm (n : Int) (h : 0 ≤ n ∧ n < 4294967296) : Lm (smL n) := by
  refine ⟨fun i hi => ?_, ?_⟩
  · unfold smL; split <;> omega
  · unfold smL; rw [if_neg (by omega)]; omega
theorem small_ref (n : Int) (h : 0 ≤ n ∧ n < 4294967296) : CB (carryN (fun i => if i = 0 then n else 0) 16) ∧ V16 (carryN (fun i => if i = 0 then n else 0) 16) % PP = n % PP := by
  refine ⟨(carry_CB1 _ (fun j hj => by split <;> omega)).cb, ?_⟩
  rw [V16_carry_mod]
  congr 1
  simp [V16, val]
theorem num_calls' (b : Nat → Int) (w : World) (hb : By b) : Calls Try.prog 15 #[.agg (FR .u8 32 b)] w fun e w' => e = .returned (.agg (FR .i64 16 (numD b))) ∧ Below w.heap.size w w' := num_calls b w hb
theorem dig_By (N : Int) : By (dig 256 N) := fun j _ => dig_b 256 (by omega) N j
theorem N32_dig (N : Int) (h : 0 ≤ N ∧ N < 256 ^ 32) : N32 (dig 256 N) = N := by
  unfold N32; rw [val_dig 256 (by omega), Int.emod_eq_of_lt h.1 h.2]
end
section
set_option linter.unusedVariables false
set_option linter.unusedSimpArgs false
open Go.RowKit Go.ChangeShapes Go.WideShapes
section
variable {H : Type} {enc : TypeId × Value → H} {P : Program} {t e : TypeId} {n : Nat} {q : IntKind} {W : World} {base : Nat} {sp : Nat → Bool} {held : Bool}
/-- The number in a cell. -/
def cellInt (cs : List Value) (i : Nat) : Int := match cs[i]? with
  | some v => intOf v
  | none => 0
theorem drop_take_one {cs : List Value} {i : Nat} {v : Value} (h : (cs.drop i).take 1 = [v]) : cs[i]? = some v := by
  have h2 := congrArg (fun l => l[0]?) h
  simpa [List.getElem?_take, List.getElem?_drop] using h2
theorem take_drop_one {cs : List Value} {i : Nat} {v : Value} (h : cs[i]? = some v) : (cs.drop i).take 1 = [v] := by
  obtain ⟨hi, hv⟩ := List.getElem?_eq_some_iff.1 h
  rw [List.drop_eq_getElem_cons hi, hv]; rfl
theorem mapM_open (he : P.underlying e = some (.int q)) {m : Nat} {cs : List Value} : ∀ (L : List Nat) (xs : List (DataW H × List MemPlace)),
    L.mapM (fun i => DataW.trod enc P W base sp held m e ((cs.drop (i * 1)).take 1)) = some xs →
    xs = L.map (fun i => (.lit (.int q (cellInt cs i)), [])) ∧ ∀ i ∈ L, cs[i]? = some (.int q (cellInt cs i)) ∧ (Lit.int q (cellInt cs i)).wf = true
  | [], xs, h => by
    simp at h
    subst h
    exact ⟨rfl, by simp⟩
  | i :: L, xs, h => by
    rw [List.mapM_cons] at h
    simp only [bind, Option.bind_eq_some_iff, pure, Option.some.injEq] at h
    obtain ⟨y, hy, ys, hys, rfl⟩ := h
    obtain ⟨rfl, hl⟩ := mapM_open he L ys hys
    obtain ⟨a, ea, rfl, wa⟩ := DataW.trod_int he hy
    rw [Nat.mul_one] at ea
    have hc := drop_take_one ea
    have hi : cellInt cs i = a := by unfold cellInt; rw [hc]; rfl
    rw [← hi] at hc wa ⊢
    refine ⟨rfl, fun j hj => ?_⟩
    rcases List.mem_cons.1 hj with rfl | hj
    · exact ⟨hc, wa⟩
    · exact hl j hj
theorem mapM_shut (he : P.underlying e = some (.int q)) {m : Nat} {cs : List Value} (f : Nat → Int) : ∀ (L : List Nat), (∀ i ∈ L, cs[i]? = some (.int q (f i)) ∧ (Lit.int q (f i)).wf = true) →
    L.mapM (fun i => DataW.trod enc P W base sp held (m + 1) e ((cs.drop (i * 1)).take 1)) = some (L.map (fun i => (.lit (.int q (f i)), [])))
  | [], _ => by simp
  | i :: L, h => by
    have ih := mapM_shut he (m := m) f L (fun j hj => h j (by simp [hj]))
    have hi := h i (by simp)
    have e1 := take_drop_one hi.1
    have h1 : DataW.trod enc P W base sp held (m + 1) e [.int q (f i)] = some (.lit (.int q (f i)), []) := by
      rw [DataW.trod_step]
      unfold DataW.trodStep
      simp [he, hi.2]
    rw [List.mapM_cons, ih, Nat.mul_one, e1, h1]
    rfl
theorem open_array (ht : P.underlying t = some (.array n e)) (he : P.underlying e = some (.int q)) (hce : P.cellsOf e = 1) (hct : P.cellsOf t = n) {r : Reach} {b0 : Nat} {v : Value} (hval : Value.okWide P W r b0 t v) {d : DataW H} {ps : List MemPlace} (hd : DataW.Trod enc P W base sp held t v d ps) :
    ∃ f : Nat → Int, v = .agg (FR q n f) ∧ d = .agg ((List.range n).map fun i => .lit (.int q (f i))) ∧ ps = [] ∧ ∀ i, i < n → (Lit.int q (f i)).wf = true := by
  obtain ⟨cs, rfl⟩ : ∃ cs : Array Value, v = .agg cs := by
    simp only [Value.okWide, ht] at hval
    obtain ⟨cs, h1, _⟩ := hval
    exact ⟨cs, h1⟩
  obtain ⟨fuel, hf⟩ := hd
  cases fuel with
  | zero => simp [DataW.trod] at hf
  | succ m =>
    rw [DataW.trod_step] at hf
    unfold DataW.trodStep at hf
    simp only [ht, Value.cells, hce] at hf
    split at hf
    · rename_i hn
      simp only [Option.map_eq_some_iff] at hf
      obtain ⟨ys, hy, e1⟩ := hf
      obtain ⟨rfl, hl⟩ := mapM_open he _ ys hy
      simp only [Prod.mk.injEq] at e1
      have hsz : cs.size = n := by rw [← hct]; simpa using hn
      refine ⟨cellInt cs.toList, ?_, ?_, ?_, fun i hi => (hl i (List.mem_range.2 hi)).2⟩
      · congr 1
        apply Array.ext_getElem?
        intro i
        by_cases hi : i < n
        · have h2 := (hl i (List.mem_range.2 hi)).1
          rw [FR_at _ _ _ _ hi, ← h2]
          simp
        · rw [FR_out _ _ _ _ hi]
          exact Array.getElem?_eq_none (by omega)
      · rw [← e1.1]; simp [Function.comp_def]
      · rw [← e1.2]; simp [List.flatMap_eq_nil_iff]
    · cases hf
theorem shut_array (ht : P.underlying t = some (.array n e)) (he : P.underlying e = some (.int q)) (hce : P.cellsOf e = 1) (hct : P.cellsOf t = n) (f : Nat → Int) (hw : ∀ i, i < n → (Lit.int q (f i)).wf = true) :
    DataW.Trod enc P W base sp held t (.agg (FR q n f)) (.agg ((List.range n).map fun i => .lit (.int q (f i)))) [] := by
  refine ⟨0 + 1 + 1, ?_⟩
  rw [DataW.trod_step]
  unfold DataW.trodStep
  simp only [ht, Value.cells, hce]
  rw [if_pos (by rw [Array.length_toList, FR_size, hct])]
  rw [mapM_shut (enc := enc) (W := W) (base := base) (sp := sp) (held := held) he f (List.range n) (fun i hi => ⟨by rw [Array.getElem?_toList, FR_at _ _ _ _ (List.mem_range.1 hi)], hw i (List.mem_range.1 hi)⟩)]
  simp [Function.comp_def, List.flatMap_eq_nil_iff]
end
end
end Go.Proofs.Ythonoagpiofojaa.P
