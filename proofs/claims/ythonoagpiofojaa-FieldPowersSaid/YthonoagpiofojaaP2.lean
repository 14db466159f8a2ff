/- field.Is, Odd, the document's Is, Odd, the law's is and num by their walks. -/
import Derived.Test.YthonoagpiofojaaV1
import Derived.Test.YthonoagpiofojaaC6
import Derived.Laws.BytesArg
import Derived.Laws.StructEq
namespace Go.Proofs.Ythonoagpiofojaa.P
set_option linter.unusedVariables false
set_option linter.unusedSimpArgs false
open Go.RowKit Go.Proofs.YthonoagpiofojaaW.PrintWords Go.Proofs.YthonoagpiofojaaW.PrintLast Go.Proofs.YthonoagpiofojaaW.PrintMore
attribute [local go_sem] setCell_drewN
theorem exec_load {P : Program} {o : Oper} {ev : Operand → Value} {w : World} {ty : TypeId} {x : Operand} {g : Nat} {k : IntKind} {n : Nat} {f : Nat → Int} {t : TypeId} {d : TypeDesc} (hr : Row w g k n f t)
    (hu : P.underlying ty = some d) (hi : (P.info? ty).map (·.size) = some n) (hd : (match d with | .struct _ | .array _ _ => true | _ => false) = true) (ho : o.op = .load ty x) (hx : ev x = .pointer (some ⟨g, 0, none⟩)) : (execOp ev o).run P w = .ok (.value (.agg (FR k n f))) w := by
  unfold execOp
  simp only [ho, hx, Instr.loadAt, Instr.sureAddr, Sem.run_bind, Sem.run_pure, Result.andThen_ok, run_loadVar_row w g t ty _ _ d hr hu hd (by rw [FR_size]; exact hi)]
/-- 32 numbers as a string. -/
def sOf (f : Nat → Int) : ByteArray := strOfNums ((List.range 32).map f)
theorem conv_row {w : World} {g : Nat} {f : Nat → Int} {t : TypeId} (hr : Row w g .u8 32 f t) : (convert 49 9 (.slice (some ⟨g, 0, none⟩) 32 32)).run Try.prog w = .ok (.string (sOf f)) w := by
  refine run_convert_bytes_arg w 49 5 Try.underlying49 Try.underlying5 g 0 32 32 ((List.range 32).map f) (by simp) (fun i hi => ?_) 9 Try.underlying9
  rw [Nat.zero_add, hr.cell i hi]
  simp [List.getD_eq_getElem?_getD, hi]
theorem equal22i (f g : Nat → Int) (w : World) : (Op.equalIn 10000 22 (.agg (FR .u8 32 f)) (.agg (FR .u8 32 g))).run Try.prog w = .ok (sameRow 32 f g) w := equal22 f g w
theorem outL_range (N : Int) : ∀ i, outL (dig 65536 N) i = (List.range (2 * i)).map (dig 256 N)
  | 0 => rfl
  | i + 1 => by
    rw [outL, outL_range N i, show 2 * (i + 1) = 2 * i + 1 + 1 by omega, List.range_succ, List.range_succ]
    simp only [List.map_append, List.map_cons, List.map_nil, List.append_assoc, List.cons_append, List.nil_append]
    congr 1
    have e : (256 : Int) ^ (2 * i) = 65536 ^ i := by rw [Int.pow_mul]; rfl
    have e2 : (256 : Int) ^ (2 * i + 1) = 65536 ^ i * 256 := by rw [Int.pow_succ, e]
    unfold dig
    rw [e, e2, ← Int.ediv_ediv_of_nonneg (Int.le_of_lt (pow_pos' 65536 (by omega) i))]
    generalize N / 65536 ^ i = x
    rw [show x % 65536 % 256 = x % 256 by omega, show x % 65536 / 256 = x / 256 % 256 by omega]
theorem ref_bytes_str (N : Int) : strOfNums (outL (dig 65536 N) 16) = sOf (dig 256 N) := by rw [outL_range]; rfl
theorem sOf_inj (f g : Nat → Int) (hf : ∀ i, 0 ≤ f i ∧ f i < 256) (hg : ∀ i, 0 ≤ g i ∧ g i < 256) : sOf f = sOf g ↔ ∀ i, i < 32 → f i = g i := by
  constructor
  · intro h i hi
    have h1 : (((List.range 32).map f).map fun n => UInt8.ofNat n.toNat) = (((List.range 32).map g).map fun n => UInt8.ofNat n.toNat) := by
      have := congrArg (fun b : ByteArray => b.data.toList) h
      simpa [sOf, strOfNums] using this
    have h2 := congrArg (fun l => l[i]?) h1
    simp only [List.getElem?_map, List.getElem?_range hi, Option.map_some, Option.some.injEq] at h2
    have h3 := congrArg UInt8.toNat h2
    have b1 := hf i
    have b2 := hg i
    rw [UInt8.toNat_ofNat', UInt8.toNat_ofNat', Nat.mod_eq_of_lt (by omega), Nat.mod_eq_of_lt (by omega)] at h3
    omega
  · intro h
    unfold sOf
    congr 1
    apply List.map_congr_left
    intro i hi
    exact h i (List.mem_range.1 hi)
theorem beq_bytes (a b : ByteArray) : (a == b) = true ↔ a = b := by
  have e : (a == b) = (a.data == b.data) := rfl
  rw [e, beq_iff_eq]
  constructor
  · intro h; cases a; cases b; simp at h; rw [h]
  · rintro rfl; rfl
theorem sOf_same (N M : Int) (hN : 0 ≤ N ∧ N < 256 ^ 32) (hM : 0 ≤ M ∧ M < 256 ^ 32) : (sOf (dig 256 N) == sOf (dig 256 M)) = decide (N = M) := by
  rw [Bool.eq_iff_iff]
  rw [decide_eq_true_eq, beq_bytes, sOf_inj _ _ (dig_b 256 (by omega) N) (dig_b 256 (by omega) M), digs_same 256 (by omega) 32 N M hN hM]
theorem sOf_sameL (N M : Int) (hN : 0 ≤ N ∧ N < 256 ^ 32) (hM : 0 ≤ M ∧ M < 256 ^ 32) : ((sOf (dig 256 N)).toList == (sOf (dig 256 M)).toList) = decide (N = M) := by
  rw [← beq_toListBytes]; exact sOf_same N M hN hM
theorem sB_sOf (f : Nat → Int) (hf : ∀ i, i < 32 → 0 ≤ f i ∧ f i < 256) (i : Nat) (hi : i < 32) : sB (sOf f) i = f i := by
  have hs : (sOf f).size = 32 := by simp [sOf, strOfNums, ByteArray.size]
  obtain ⟨c, h1, h2⟩ := sB_at (sOf f) i (by omega)
  rw [← h2, ← h1 (by omega)]
  have h3 := hf i hi
  show (((sOf f).data[i]).toNat : Int) = f i
  simp [sOf, strOfNums]
  omega
theorem sOf_size (f : Nat → Int) : (sOf f).size = 32 := by simp [sOf, strOfNums, ByteArray.size]
theorem tab17 : rtab .any (opsOf Try.f17 1) = (true, [([], []), ([0], [0]), ([], []), ([2, 1], [2]), ([1, 3], [1, 3]), ([4, 3, 0, 1, 2, 3, 4], [4])]) := by kernel_rfl
theorem bits17 : waitsOk [([], []), ([0], [0]), ([], []), ([2, 1], [2]), ([1, 3], [1, 3]), ([4, 3, 0, 1, 2, 3, 4], [4])] [0, 1, 0, 7, 15, 31] = true := by kernel_rfl
theorem elem_is_calls (f g : Nat → Int) (w : World) (hf : ∀ i, i < 5 → 0 ≤ f i ∧ f i ≤ 9223372036854775808) (hg : ∀ i, i < 5 → 0 ≤ g i ∧ g i ≤ 9223372036854775808) :
    Calls Try.prog 17 #[.agg (FR .u64 5 f), .agg (FR .u64 5 g)] w fun e w' => e = .returned (.bool (decide (V51 f % PP = V51 g % PP))) ∧ Below w.heap.size w w' := by
  have HF := Aside0.mk (fun w => elem_bytes_calls f w hf)
  have HG := Aside0.mk (fun w => elem_bytes_calls g w hg)
  clear hf hg
  go_enter Try.func17, Try.ntmps17
  go_wp2_with fail
  have hh : Row (((w.alloc (.cells (FR .u64 5 f) 27)).alloc (.cells (FR .u64 5 g) 27)).drew) w.heap.size .u64 5 f 27 ∧ Row (((w.alloc (.cells (FR .u64 5 f) 27)).alloc (.cells (FR .u64 5 g) 27)).drew) (w.heap.size + 1) .u64 5 g 27 := ⟨(Row.new w .u64 5 f 27).alloc _, heap_alloc2_new w _ _⟩
  have HBd := Aside0.mk ((bel_two w (.cells (FR .u64 5 f) 27) (.cells (FR .u64 5 g) 27)).drew)
  refine start_ (n := 6) (S := (fun w' => Row w' w.heap.size .u64 5 f 27 ∧ Row w' (w.heap.size + 1) .u64 5 g 27)) (ds := []) #[false, false, false, false, false, false] (by kernel_rfl) rfl rfl hh (fun hHeld => ?_); refine with_tabW tab17 bits17 (fun HT_ HW_ => ?_)
  generalize ((w.alloc (.cells (FR .u64 5 f) 27)).alloc (.cells (FR .u64 5 g) 27)).drew = w6 at HBd hHeld hh ⊢
  clear hh
  have heq := equal22i
  refine take_ (i := 0) (N := some 5) (v := ?_) (a' := ?_) #[true, false, false, false, false, false] rfl rfl (take_ofW HT_.out HW_.out (by kernel_rfl)) (fun _ _ _ h => h) (Or.inl ⟨by rfl, ?_⟩) hHeld ?_ ?_
  rotate_left
  · intro w' hsw
    refine exec_load (x := .tmp 2) hsw.1 Try.underlying27 info27 rfl ?_ ?_ <;> rfl
  rotate_left
  · simp only [Act.put, List.setIfInBounds_toArray, List.set_cons_zero, List.set_cons_succ, i64_w, i32_w]
    rfl
  refine take_ (i := 2) (N := some 7) (v := ?_) (a' := ?_) #[true, false, true, false, false, false] rfl rfl (take_ofW HT_.out HW_.out (by kernel_rfl)) (fun _ _ _ h => h) (Or.inl ⟨by rfl, ?_⟩) hHeld ?_ ?_
  rotate_left
  · intro w' hsw
    refine exec_load (x := .tmp 3) hsw.2 Try.underlying27 info27 rfl ?_ ?_ <;> rfl
  rotate_left
  · simp only [Act.put, List.setIfInBounds_toArray, List.set_cons_zero, List.set_cons_succ, i64_w, i32_w]
    rfl
  refine one_ (i := 1) (N := some 6) #[true, true, true, false, false, false] rfl rfl (one_of HT_.out (by kernel_rfl)) (by decide) (fun K hK => ?_)
  refine goes_ Try.func12 rfl rfl #[.agg (FR .u64 5 f)] rfl rfl rfl (by simp only [List.map_toArray, List.map_cons, List.map_nil]; rfl) ((HF.out _).mono ?_)
  rintro e w1 ⟨rfl, hb⟩
  have hS1 := hHeld.1.below hb hHeld.1.lt
  have hS2 := hHeld.2.below hb hHeld.2.lt
  have HB_HF := Aside0.mk (HBd.out.trans (hb.mono (by have := hHeld.2.lt; omega)))
  clear hb HBd
  refine ⟨_, rfl, hK.out _ _ ⟨hS1, hS2⟩ (fun hHeld => ?_)⟩
  clear hS1 hS2
  have HBd := HB_HF
  clear HB_HF
  clear hK K
  refine norm_ (a' := ?_) ?_ ?_
  rotate_left
  · show Act.put _ (some 6) _ = _
    simp only [Act.put, List.setIfInBounds_toArray, List.set_cons_zero, List.set_cons_succ, i64_w, i32_w]
    rfl
  refine one_ (i := 3) (N := some 8) #[true, true, true, true, false, false] rfl rfl (one_of HT_.out (by kernel_rfl)) (by decide) (fun K hK => ?_)
  refine goes_ Try.func12 rfl rfl #[.agg (FR .u64 5 g)] rfl rfl rfl (by simp only [List.map_toArray, List.map_cons, List.map_nil]; rfl) ((HG.out _).mono ?_)
  rintro e w1 ⟨rfl, hb⟩
  have hS1 := hHeld.1.below hb hHeld.1.lt
  have hS2 := hHeld.2.below hb hHeld.2.lt
  have HB_HG := Aside0.mk (HBd.out.trans (hb.mono (by have := hHeld.2.lt; omega)))
  clear hb HBd
  refine ⟨_, rfl, hK.out _ _ ⟨hS1, hS2⟩ (fun hHeld => ?_)⟩
  clear hS1 hS2
  have HBd := HB_HG
  clear HB_HG
  clear hK K
  refine norm_ (a' := ?_) ?_ ?_
  rotate_left
  · show Act.put _ (some 8) _ = _
    simp only [Act.put, List.setIfInBounds_toArray, List.set_cons_zero, List.set_cons_succ, i64_w, i32_w]
    rfl
  refine pure_ (i := 4) (N := some 9) (v := ?_) (a' := ?_) #[true, true, true, true, true, false] rfl rfl (any_of HT_.out (by kernel_rfl)) (fun _ _ _ h => h) (Or.inl ⟨by rfl, ?_⟩) ?_ ?_
  rotate_left
  · intro w'
    go_simp
    with_reducible rfl
  rotate_left
  · simp only [Act.put, List.setIfInBounds_toArray, List.set_cons_zero, List.set_cons_succ, i64_w, i32_w]
    rfl
  refine pure_ (i := 5) (N := some 4) (v := ?_) (a' := ?_) #[true, true, true, true, true, true] rfl rfl (any_of HT_.out (by kernel_rfl)) (fun _ _ _ h => h) (Or.inl ⟨by rfl, ?_⟩) ?_ ?_
  rotate_left
  · intro w'
    go_simp
    with_reducible rfl
  rotate_left
  · simp only [Act.put, List.setIfInBounds_toArray, List.set_cons_zero, List.set_cons_succ, i64_w, i32_w]
    rfl
  refine done_ (done_of HT_.out (by kernel_rfl)) ?_
  try go_wp2
  go_ret
  refine ⟨?_, HBd.out⟩
  show Ending.returned (Value.bool _) = _
  rw [sameRow_dig 256 (by omega) 32 _ _ (modP_32 _) (modP_32 _)]
theorem tab44 : rtab .any (opsOf Try.f44 1) = (true, [([], []), ([0], [0]), ([], []), ([2, 1], [2]), ([1, 3], [1, 3]), ([4, 3, 0, 1, 2, 3, 4], [4])]) := by kernel_rfl
theorem bits44 : waitsOk [([], []), ([0], [0]), ([], []), ([2, 1], [2]), ([1, 3], [1, 3]), ([4, 3, 0, 1, 2, 3, 4], [4])] [0, 1, 0, 7, 15, 31] = true := by kernel_rfl
theorem ref_is_calls (f g : Nat → Int) (w : World) (hf : CB f) (hg : CB g) :
    Calls Try.prog 44 #[.agg (FR .i64 16 f), .agg (FR .i64 16 g)] w fun e w' => e = .returned (.bool (decide (V16 f % PP = V16 g % PP))) ∧ Below w.heap.size w w' := by
  have HF := Aside0.mk (fun w => ref_bytes_calls f w hf)
  have HG := Aside0.mk (fun w => ref_bytes_calls g w hg)
  clear hf hg
  go_enter Try.func44, Try.ntmps44
  go_wp2_with fail
  have hh : Row (((w.alloc (.cells (FR .i64 16 f) 33)).alloc (.cells (FR .i64 16 g) 33)).drew) w.heap.size .i64 16 f 33 ∧ Row (((w.alloc (.cells (FR .i64 16 f) 33)).alloc (.cells (FR .i64 16 g) 33)).drew) (w.heap.size + 1) .i64 16 g 33 := ⟨(Row.new w .i64 16 f 33).alloc _, heap_alloc2_new w _ _⟩
  have HBd := Aside0.mk ((bel_two w (.cells (FR .i64 16 f) 33) (.cells (FR .i64 16 g) 33)).drew)
  refine start_ (n := 6) (S := (fun w' => Row w' w.heap.size .i64 16 f 33 ∧ Row w' (w.heap.size + 1) .i64 16 g 33)) (ds := []) #[false, false, false, false, false, false] (by kernel_rfl) rfl rfl hh (fun hHeld => ?_); refine with_tabW tab44 bits44 (fun HT_ HW_ => ?_)
  generalize ((w.alloc (.cells (FR .i64 16 f) 33)).alloc (.cells (FR .i64 16 g) 33)).drew = w6 at HBd hHeld hh ⊢
  clear hh
  refine take_ (i := 0) (N := some 5) (v := ?_) (a' := ?_) #[true, false, false, false, false, false] rfl rfl (take_ofW HT_.out HW_.out (by kernel_rfl)) (fun _ _ _ h => h) (Or.inl ⟨by rfl, ?_⟩) hHeld ?_ ?_
  rotate_left
  · intro w' hsw
    refine exec_load (x := .tmp 2) hsw.1 Try.underlying33 info33 rfl ?_ ?_ <;> rfl
  rotate_left
  · simp only [Act.put, List.setIfInBounds_toArray, List.set_cons_zero, List.set_cons_succ, i64_w, i32_w]
    rfl
  refine take_ (i := 2) (N := some 7) (v := ?_) (a' := ?_) #[true, false, true, false, false, false] rfl rfl (take_ofW HT_.out HW_.out (by kernel_rfl)) (fun _ _ _ h => h) (Or.inl ⟨by rfl, ?_⟩) hHeld ?_ ?_
  rotate_left
  · intro w' hsw
    refine exec_load (x := .tmp 3) hsw.2 Try.underlying33 info33 rfl ?_ ?_ <;> rfl
  rotate_left
  · simp only [Act.put, List.setIfInBounds_toArray, List.set_cons_zero, List.set_cons_succ, i64_w, i32_w]
    rfl
  refine one_ (i := 1) (N := some 6) #[true, true, true, false, false, false] rfl rfl (one_of HT_.out (by kernel_rfl)) (by decide) (fun K hK => ?_)
  refine goes_ Try.func36 rfl rfl #[.agg (FR .i64 16 f)] rfl rfl rfl (by simp only [List.map_toArray, List.map_cons, List.map_nil]; rfl) ((HF.out _).mono ?_)
  rintro e w1 ⟨rfl, hb⟩
  have hS1 := hHeld.1.below hb hHeld.1.lt
  have hS2 := hHeld.2.below hb hHeld.2.lt
  have HB_HF := Aside0.mk (HBd.out.trans (hb.mono (by have := hHeld.2.lt; omega)))
  clear hb HBd
  refine ⟨_, rfl, hK.out _ _ ⟨hS1, hS2⟩ (fun hHeld => ?_)⟩
  clear hS1 hS2
  have HBd := HB_HF
  clear HB_HF
  clear hK K
  refine norm_ (a' := ?_) ?_ ?_
  rotate_left
  · show Act.put _ (some 6) _ = _
    simp only [Act.put, List.setIfInBounds_toArray, List.set_cons_zero, List.set_cons_succ, i64_w, i32_w]
    rfl
  refine one_ (i := 3) (N := some 8) #[true, true, true, true, false, false] rfl rfl (one_of HT_.out (by kernel_rfl)) (by decide) (fun K hK => ?_)
  refine goes_ Try.func36 rfl rfl #[.agg (FR .i64 16 g)] rfl rfl rfl (by simp only [List.map_toArray, List.map_cons, List.map_nil]; rfl) ((HG.out _).mono ?_)
  rintro e w1 ⟨rfl, hb⟩
  have hS1 := hHeld.1.below hb hHeld.1.lt
  have hS2 := hHeld.2.below hb hHeld.2.lt
  have HB_HG := Aside0.mk (HBd.out.trans (hb.mono (by have := hHeld.2.lt; omega)))
  clear hb HBd
  refine ⟨_, rfl, hK.out _ _ ⟨hS1, hS2⟩ (fun hHeld => ?_)⟩
  clear hS1 hS2
  have HBd := HB_HG
  clear HB_HG
  clear hK K
  refine norm_ (a' := ?_) ?_ ?_
  rotate_left
  · show Act.put _ (some 8) _ = _
    simp only [Act.put, List.setIfInBounds_toArray, List.set_cons_zero, List.set_cons_succ, i64_w, i32_w]
    rfl
  refine pure_ (i := 4) (N := some 9) (v := ?_) (a' := ?_) #[true, true, true, true, true, false] rfl rfl (any_of HT_.out (by kernel_rfl)) (fun _ _ _ h => h) (Or.inl ⟨by rfl, ?_⟩) ?_ ?_
  rotate_left
  · intro w'
    go_simp
    with_reducible rfl
  rotate_left
  · simp only [Act.put, List.setIfInBounds_toArray, List.set_cons_zero, List.set_cons_succ, i64_w, i32_w]
    rfl
  refine pure_ (i := 5) (N := some 4) (v := ?_) (a' := ?_) #[true, true, true, true, true, true] rfl rfl (any_of HT_.out (by kernel_rfl)) (fun _ _ _ h => h) (Or.inl ⟨by rfl, ?_⟩) ?_ ?_
  rotate_left
  · intro w'
    go_simp
    with_reducible rfl
  rotate_left
  · simp only [Act.put, List.setIfInBounds_toArray, List.set_cons_zero, List.set_cons_succ, i64_w, i32_w]
    rfl
  refine done_ (done_of HT_.out (by kernel_rfl)) ?_
  try go_wp2
  go_ret
  refine ⟨?_, HBd.out⟩
  show Ending.returned (Value.bool _) = _
  rw [ref_bytes_str, ref_bytes_str, sOf_sameL _ _ (modP_32 _) (modP_32 _)]
theorem dig0_odd (N : Int) (hN : 0 ≤ N) : decide (Go.bits .and .u8 (dig 256 N 0) 1 = 1) = decide (N % 2 = 1) := by
  have e : dig 256 N 0 = N % 256 := by unfold dig; simp
  have h : Go.bits .and .u8 (dig 256 N 0) 1 = N % 2 := by
    rw [e, u8_and _ _ (by omega) (by omega) (by omega) (by omega), show (1 : Int).toNat = 2 ^ 1 - 1 from rfl, Nat.and_two_pow_sub_one_eq_mod]
    omega
  rw [h]
theorem elem_odd_calls (f : Nat → Int) (w : World) (hf : ∀ i, i < 5 → 0 ≤ f i ∧ f i ≤ 9223372036854775808) :
    Calls Try.prog 18 #[.agg (FR .u64 5 f)] w fun e w' => e = .returned (.bool (decide (V51 f % PP % 2 = 1))) ∧ Below w.heap.size w w' := by
  have HF := Aside0.mk (fun w => elem_bytes_calls f w hf)
  have HO := Aside0.mk (dig0_odd (V51 f % PP) (modP_b _).1)
  clear hf
  go_enter Try.func18, Try.ntmps18
  have HR0 := Aside0.mk (Row.new w .u64 5 f 27)
  have HB0 := Aside0.mk ((Below.refl w.heap.size w).alloc (Nat.le_refl _) (.cells (FR .u64 5 f) 27))
  go_wp2_with (refine step_load HR0.out Try.underlying27 info27 rfl rfl rfl rfl ?_)
  refine (HF.out _).mono ?_
  rintro e w1 ⟨rfl, hb⟩
  have HB1 := Aside0.mk (HB0.out.trans (hb.mono (by simp)))
  clear hb HR0 HB0
  have hix : ∀ (f : Nat → Int) (w : World), (Instr.index 22 (.agg (FR .u8 32 f)) (.int .i64 0)).run Try.prog w = .ok (.int .u8 (f 0)) w := fun f w => index22 f 0 (by omega) w
  go_wp2_with fail
  go_ret
  refine ⟨?_, HB1.out⟩
  show Ending.returned (Value.bool (Go.bits .and .u8 (dig 256 (V51 f % PP) 0) 1 == 1)) = _
  rw [← HO.out]
  rfl
theorem dig0_oddR (N : Int) : Int.tmod (dig 65536 N 0) 2 = N % 2 := by
  have e : dig 65536 N 0 = N % 65536 := by unfold dig; simp
  rw [e, Int.tmod_eq_emod_of_nonneg (by omega)]; omega
theorem ref_odd_calls (f : Nat → Int) (w : World) (hf : CB f) :
    Calls Try.prog 19 #[.agg (FR .i64 16 f)] w fun e w' => e = .returned (.bool (decide (V16 f % PP % 2 = 1))) ∧ Below w.heap.size w w' := by
  have HF := Aside0.mk (fun w => least_calls f w hf)
  have HO := Aside0.mk (dig0_oddR (V16 f % PP))
  clear hf
  go_enter Try.func19, Try.ntmps19
  have HR0 := Aside0.mk (Row.new w .i64 16 f 33)
  have HB0 := Aside0.mk ((Below.refl w.heap.size w).alloc (Nat.le_refl _) (.cells (FR .i64 16 f) 33))
  go_wp2_with (refine step_load HR0.out Try.underlying33 info33 rfl rfl rfl rfl ?_)
  refine (HF.out _).mono ?_
  rintro e w1 ⟨rfl, hb⟩
  have HB1 := Aside0.mk (HB0.out.trans (hb.mono (by simp)))
  clear hb HR0 HB0
  have hix : ∀ (f : Nat → Int) (w : World), (Instr.index 33 (.agg (FR .i64 16 f)) (.int .i64 0)).run Try.prog w = .ok (.int .i64 (f 0)) w := fun f w => index33 f 0 (by omega) w
  have hmm := HO.out
  go_wp2_with fail
  go_ret
  refine ⟨?_, HB1.out⟩
  rfl
theorem tab14 : rtab .any (opsOf Try.f14 2) = (true, [([], []), ([0], [0]), ([], []), ([2], [2]), ([1, 3], [1, 3]), ([4, 3, 0, 1, 2, 3, 4], [4])]) := by kernel_rfl
theorem bits14 : waitsOk [([], []), ([0], [0]), ([], []), ([2], [2]), ([1, 3], [1, 3]), ([4, 3, 0, 1, 2, 3, 4], [4])] [0, 1, 0, 4, 15, 31] = true := by kernel_rfl
theorem law_is_calls (f g : Nat → Int) (w : World) (hf : ∀ i, i < 5 → 0 ≤ f i ∧ f i ≤ 9223372036854775808) (hg : CB g) :
    Calls Try.prog 14 #[.agg (FR .u64 5 f), .agg (FR .i64 16 g)] w fun e w' => e = .returned (.bool (decide (V51 f % PP = V16 g % PP))) ∧ Below w.heap.size w w' := by
  have HF := Aside0.mk (fun w => elem_bytes_calls f w hf)
  have HG := Aside0.mk (fun w => ref_bytes_calls g w hg)
  clear hf hg
  go_enter Try.func14, Try.ntmps14
  have HR0 := Aside0.mk ((Row.new w .u64 5 f 27).alloc (.cells (FR .i64 16 g) 33))
  have HG0 : Aside0 (Row ((w.alloc (.cells (FR .u64 5 f) 27)).alloc (.cells (FR .i64 16 g) 33)) (w.heap.size + 1) .i64 16 g 33) := ⟨heap_alloc2_new w _ _⟩
  have HB0 := Aside0.mk (bel_two w (.cells (FR .u64 5 f) 27) (.cells (FR .i64 16 g) 33))
  go_wp2_with (refine step_load HR0.out Try.underlying27 info27 rfl rfl rfl rfl ?_)
  refine (HF.out _).mono ?_
  rintro e w1 ⟨rfl, hb⟩
  have HG1 := Aside0.mk (HG0.out.below hb HG0.out.lt)
  have HB1 := Aside0.mk (HB0.out.trans (hb.mono (by simp; omega)))
  have hl1 := HG1.out.lt
  clear hb HR0 HB0 HG0
  have HN := Aside0.mk (Row.new w1 .u8 32 (fun _ => 0) 22)
  have HB2 := Aside0.mk (HB1.out.alloc (by omega) (.cells (FR .u8 32 fun _ => 0) 22))
  have HG2 := Aside0.mk (HG1.out.alloc (.cells (FR .u8 32 fun _ => 0) 22))
  go_wp2_with (refine step_storeG _ HN.out info22 rfl rfl rfl rfl rfl ?_; intro w3 hs hr; have HS3 := Aside0.mk hs; have HR3 := Aside0.mk hr; clear hs hr)
  have hg3 := HG2.out.stored HS3.out (show w.heap.size + 1 ≠ w1.heap.size by omega)
  have hh : Row w3.drew w1.heap.size .u8 32 (dig 256 (V51 f % PP)) 22 ∧ Row w3.drew (w.heap.size + 1) .i64 16 g 33 := ⟨HR3.out, hg3⟩
  have HBd := Aside0.mk (HS3.out.bel _ _ (by omega) HB2.out).drew
  refine start_ (n := 6) (S := (fun w' => Row w' w1.heap.size .u8 32 (dig 256 (V51 f % PP)) 22 ∧ Row w' (w.heap.size + 1) .i64 16 g 33)) (ds := []) #[false, false, false, false, false, false] (by kernel_rfl) rfl rfl hh (fun hHeld => ?_); refine with_tabW tab14 bits14 (fun HT_ HW_ => ?_)
  generalize w3.drew = w6 at HBd hHeld hh ⊢
  clear hh
  refine pure_ (i := 0) (N := some 8) (v := ?_) (a' := ?_) #[true, false, false, false, false, false] rfl rfl (any_of HT_.out (by kernel_rfl)) (fun _ _ _ h => h) (Or.inl ⟨by rfl, ?_⟩) ?_ ?_
  rotate_left
  · intro w'
    go_simp
    with_reducible rfl
  rotate_left
  · simp only [Act.put, List.setIfInBounds_toArray, List.set_cons_zero, List.set_cons_succ, i64_w, i32_w]
    rfl
  refine take_ (i := 1) (N := some 9) (v := ?_) (a' := ?_) #[true, true, false, false, false, false] rfl rfl (take_ofW HT_.out HW_.out (by kernel_rfl)) (fun _ _ _ h => h) (Or.inl ⟨by rfl, ?_⟩) hHeld ?_ ?_
  rotate_left
  · intro w' hsw
    have hcv := conv_row hsw.1
    go_simp
    with_reducible rfl
  rotate_left
  · simp only [Act.put, List.setIfInBounds_toArray, List.set_cons_zero, List.set_cons_succ, i64_w, i32_w]
    rfl
  refine take_ (i := 2) (N := some 10) (v := ?_) (a' := ?_) #[true, true, true, false, false, false] rfl rfl (take_ofW HT_.out HW_.out (by kernel_rfl)) (fun _ _ _ h => h) (Or.inl ⟨by rfl, ?_⟩) hHeld ?_ ?_
  rotate_left
  · intro w' hsw
    refine exec_load (x := .tmp 3) hsw.2 Try.underlying33 info33 rfl ?_ ?_ <;> rfl
  rotate_left
  · simp only [Act.put, List.setIfInBounds_toArray, List.set_cons_zero, List.set_cons_succ, i64_w, i32_w]
    rfl
  refine one_ (i := 3) (N := some 11) #[true, true, true, true, false, false] rfl rfl (one_of HT_.out (by kernel_rfl)) (by decide) (fun K hK => ?_)
  refine goes_ Try.func36 rfl rfl #[.agg (FR .i64 16 g)] rfl rfl rfl (by simp only [List.map_toArray, List.map_cons, List.map_nil]; rfl) ((HG.out _).mono ?_)
  rintro e w2 ⟨rfl, hb⟩
  have hS1 := hHeld.1.below hb hHeld.1.lt
  have hS2 := hHeld.2.below hb hHeld.2.lt
  have HBe := Aside0.mk (HBd.out.trans (hb.mono (by have := hHeld.2.lt; omega)))
  clear hb HBd
  refine ⟨_, rfl, hK.out _ _ ⟨hS1, hS2⟩ (fun hHeld => ?_)⟩
  clear hS1 hS2
  clear hK K
  refine norm_ (a' := ?_) ?_ ?_
  rotate_left
  · show Act.put _ (some 11) _ = _
    simp only [Act.put, List.setIfInBounds_toArray, List.set_cons_zero, List.set_cons_succ, i64_w, i32_w]
    rfl
  refine pure_ (i := 4) (N := some 12) (v := ?_) (a' := ?_) #[true, true, true, true, true, false] rfl rfl (any_of HT_.out (by kernel_rfl)) (fun _ _ _ h => h) (Or.inl ⟨by rfl, ?_⟩) ?_ ?_
  rotate_left
  · intro w'
    go_simp
    with_reducible rfl
  rotate_left
  · simp only [Act.put, List.setIfInBounds_toArray, List.set_cons_zero, List.set_cons_succ, i64_w, i32_w]
    rfl
  refine pure_ (i := 5) (N := some 4) (v := ?_) (a' := ?_) #[true, true, true, true, true, true] rfl rfl (any_of HT_.out (by kernel_rfl)) (fun _ _ _ h => h) (Or.inl ⟨by rfl, ?_⟩) ?_ ?_
  rotate_left
  · intro w'
    go_simp
    with_reducible rfl
  rotate_left
  · simp only [Act.put, List.setIfInBounds_toArray, List.set_cons_zero, List.set_cons_succ, i64_w, i32_w]
    rfl
  refine done_ (done_of HT_.out (by kernel_rfl)) ?_
  try go_wp2
  go_ret
  refine ⟨?_, HBe.out⟩
  show Ending.returned (Value.bool _) = _
  rw [ref_bytes_str, sOf_sameL _ _ (modP_32 _) (modP_32 _)]
theorem num_calls (b : Nat → Int) (w : World) (hb : ∀ j, j < 32 → 0 ≤ b j ∧ b j < 256) :
    Calls Try.prog 15 #[.agg (FR .u8 32 b)] w fun e w' => e = .returned (.agg (FR .i64 16 (fun i => b (2 * i) + 256 * b (2 * i + 1)))) ∧ Below w.heap.size w w' := by
  have HC := Aside0.mk (fun w => Of_calls (sOf b) w (sOf_size b))
  have HE : Aside0 (FR .i64 16 (bD (sOf b)) = FR .i64 16 (fun i => b (2 * i) + 256 * b (2 * i + 1))) := ⟨FR_congr _ _ _ _ (fun i hi => by unfold bD; rw [sB_sOf b hb _ (by omega), sB_sOf b hb _ (by omega)])⟩
  clear hb
  go_enter Try.func15, Try.ntmps15
  have HR0 := Aside0.mk ((Row.new w .u8 32 b 22).alloc (.cells (FR .i64 16 fun _ => 0) 33))
  have HZ0 : Aside0 (Row ((w.alloc (.cells (FR .u8 32 b) 22)).alloc (.cells (FR .i64 16 fun _ => 0) 33)) (w.heap.size + 1) .i64 16 (fun _ => 0) 33) := ⟨heap_alloc2_new w _ _⟩
  have HB0 := Aside0.mk (bel_two w (.cells (FR .u8 32 b) 22) (.cells (FR .i64 16 fun _ => 0) 33))
  have hcv : ∀ o, (convert 49 9 (.slice (some ⟨w.heap.size, 0, none⟩) 32 32)).run Try.prog ((w.alloc (.cells (FR .u8 32 b) 22)).alloc o) = .ok (.string (sOf b)) ((w.alloc (.cells (FR .u8 32 b) 22)).alloc o) := fun o => conv_row ((Row.new w .u8 32 b 22).alloc o)
  go_wp2_with fail
  refine (HC.out _).mono ?_
  rintro e w1 ⟨rfl, hb⟩
  have HZ1 := Aside0.mk (HZ0.out.below hb HZ0.out.lt)
  have HB1 := Aside0.mk (HB0.out.trans (hb.mono (by simp; omega)))
  have hl1 := HZ1.out.lt
  clear hb HR0 HB0 HZ0 hcv
  go_wp2_with (refine step_storeG _ HZ1.out info33 rfl rfl rfl rfl rfl ?_; intro w3 hs hr; have HS3 := Aside0.mk hs; have HR3 := Aside0.mk hr; clear hs hr)
  refine bodyPost_ret (row_results rfl HR3.out rfl Try.underlying33 rfl info33) rfl ?_
  exact ⟨by rw [HE.out], HS3.out.bel _ _ (by omega) HB1.out⟩
end Go.Proofs.Ythonoagpiofojaa.P
