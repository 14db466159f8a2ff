/- The laws ScalarRests, ScalarGood, ScalarMuls: their walks. -/
import Derived.Test.YtchokhakdnjfmaaDoorSl
import Derived.Test.YtchokhakdnjfmaaDoorWFour
import Derived.Laws.IdiomStrings
namespace Go.Proofs.YtchokhakdnjfmaaDoor.P
set_option linter.unusedVariables false
set_option linter.unusedSimpArgs false
open Go.RowKit Go.Proofs.YtchokhakdnjfmaaDoorW.PrintWords Go.Proofs.YtchokhakdnjfmaaDoorW.PrintLast Go.Proofs.YtchokhakdnjfmaaDoorW.PrintMore
attribute [local go_sem] setCell_drewN
theorem BytesAt.conv {w : World} {a : Option Addr} {n cap : Nat} {z : Nat → Int} (h : BytesAt w a n z) (hz : ∀ j, j < n → 0 ≤ z j ∧ z j < 256) : (convert 22 9 (.slice a n cap)).run Tryd.prog w = .ok (.string (sN n z)) w := by
  rcases h with ⟨rfl, rfl⟩ | ⟨x, rfl, h⟩
  · exact run_convert_bytes_nil w 22 5 Tryd.underlying22 Tryd.underlying5 0 cap 9 Tryd.underlying9
  · have hl : ((List.range n).map fun j => UInt8.ofNat (z j).toNat).length = n := by simp
    have hr := run_convert_bytes_back (P := Tryd.prog) w 22 9 5 x cap ((List.range n).map fun j => UInt8.ofNat (z j).toNat) Tryd.underlying22 Tryd.underlying5 Tryd.underlying9 (fun j hj => by
      have hj' : j < n := by rw [hl] at hj; exact hj
      rw [h j hj']
      have h3 := hz j hj'
      simp
      omega)
    rw [hl] at hr
    rw [hr]
    congr 2
    simp [sN, strOfNums]
/-- A row's bytes argument. -/
def IsRowB (w : World) (a : Option Addr) (len cap : Nat) (zs : List Int) : Prop :=
  (a = none ∧ len = 0 ∧ cap = 0 ∧ zs = []) ∨ ∃ x, a = some x ∧ len ≤ cap ∧ cap ≤ maxLen ∧ zs.length = cap ∧ (∀ i, i < zs.length → w.cell? (x.add i) = some (.int .u8 (zs.getD i 0))) ∧ ∀ n ∈ zs, (Lit.int .u8 n).wf = true
theorem IsRowB.at {w : World} {a : Option Addr} {len cap : Nat} {zs : List Int} (h : IsRowB w a len cap zs) : BytesAt w a len (fun j => zs.getD j 0) ∧ (∀ j, j < len → 0 ≤ zs.getD j 0 ∧ zs.getD j 0 < 256) ∧ len ≤ cap := by
  rcases h with ⟨rfl, rfl, rfl, rfl⟩ | ⟨x, rfl, hle, hm, hz, hc, hw⟩
  · exact ⟨.inl ⟨rfl, rfl⟩, fun j hj => by omega, by omega⟩
  · refine ⟨.inr ⟨x, rfl, fun j hj => hc j (by omega)⟩, fun j hj => u8b (hw _ ?_), hle⟩
    rw [List.getD_eq_getElem?_getD, List.getElem?_eq_getElem (by omega)]
    exact List.getElem_mem _
theorem sN_congr (n : Nat) (f g : Nat → Int) (h : ∀ i, i < n → f i = g i) : sN n f = sN n g := by
  unfold sN; congr 1; apply List.map_congr_left; intro j hj; exact h j (List.mem_range.1 hj)
theorem one_bytes (w : World) (x : Int) : BytesAt (w.alloc (.cells #[.int .u8 x] 5)) (some ⟨w.heap.size, 0, none⟩) 1 (fun _ => x) := .inr ⟨_, rfl, fun j hj => by
  obtain rfl : j = 0 := by omega
  exact news_one w (.int .u8 x) 5 0 _ rfl⟩
theorem beq_same (s : ByteArray) : (s.toList == s.toList) = true := by simp
theorem tabR3 : rtab .any (opsOf Tryd.f3 3) = (true, [([], []), ([0], [0]), ([1], [1]), ([2], [2]), ([3], [3]), ([4, 3, 3], [3, 4]), ([5, 5, 3], [3, 5]), ([3], [3]), ([7, 3], [3, 7]), ([8, 6, 3], [3, 8]), ([6, 9, 3], [3, 6, 9]), ([3, 10], [3, 10]), ([11, 9, 0, 1, 2, 3, 4, 5, 6, 7, 8, 9, 10, 11], [11])]) := by kernel_rfl
theorem bitsR3 : waitsOk [([], []), ([0], [0]), ([1], [1]), ([2], [2]), ([3], [3]), ([4, 3, 3], [3, 4]), ([5, 5, 3], [3, 5]), ([3], [3]), ([7, 3], [3, 7]), ([8, 6, 3], [3, 8]), ([6, 9, 3], [3, 6, 9]), ([3, 10], [3, 10]), ([11, 9, 0, 1, 2, 3, 4, 5, 6, 7, 8, 9, 10, 11], [11])] [0, 1, 3, 7, 15, 31, 63, 15, 143, 511, 1023, 2047, 4095] = true := by kernel_rfl
set_option maxHeartbeats 1000000 in
theorem ScalarRests_walk (a0 : Option Addr) (len0 cap0 : Nat) (z0 : List Int) (w : World) (ho : Ord w) (w0 : IsRowB w a0 len0 cap0 z0) (y0 : len0 * 1 ≤ 140737488351232) :
    Calls Tryd.prog 3 #[.slice a0 len0 cap0] w fun e w' => e = .returned (.bool true) ∧ Below w.heap.size w w' := by
  have HO := Aside0.mk ho
  obtain ⟨h1, h2, h3⟩ := w0.at
  have HX0 := Aside0.mk h1
  have HZ := Aside0.mk h2
  have HL : Aside0 (len0 ≤ 140737488351232) := ⟨by omega⟩
  have HLT0 : Aside0 (∀ x, a0 = some x → 0 < len0 → x.block < w.heap.size) := ⟨fun x hx hl => by subst hx; exact h1.lt hl⟩
  clear ho w0 h1 h2 h3 y0
  have hR : val 256 (fun _ => 7) 1 % LL = 7 := by decide
  have HR := Aside0.mk hR
  have hq := equal32 (dig 256 7) (smL 7)
  have e : sameRow 32 (dig 256 7) (smL 7) = true := by
    rw [same32 _ _ (dig_By _) (smL_By 7 (by omega)), N32_dig _ (by decide), smL_N]; decide
  rw [e, ← lit_row 7] at hq
  clear e hR
  go_enter Tryd.func3, Tryd.ntmps3
  go_wp2_with fail
  have HBa := Aside0.mk (one_bytes w 7)
  have hba := (Below.refl w.heap.size w).alloc (Nat.le_refl _) (.cells #[.int .u8 7] 5)
  have HB0 := Aside0.mk hba
  clear hba
  refine (rest_calls' (fun _ => 7) _ 1 1 _ (HO.out.below HB0.out HO.out.lt) (fun _ _ => by omega) (by omega) HBa.out).mono ?_
  rintro e w1 ⟨rfl, hb⟩
  have HB1 := Aside0.mk (HB0.out.trans (hb.mono HB0.out.size))
  clear hb HBa HB0
  rw [HR.out]
  go_wp2_with fail
  clear hq
  have HX := Aside0.mk (HX0.out.below HB1.out.drew HLT0.out)
  have HLT : Aside0 (∀ x, a0 = some x → 0 < len0 → x.block < w1.drew.heap.size) := ⟨fun x hx hl => by have := HLT0.out x hx hl; have := HB1.out.size; show x.block < w1.heap.size; omega⟩
  have HO6 := Aside0.mk (HO.out.below HB1.out.drew HO.out.lt)
  have HBd := Aside0.mk HB1.out.drew
  clear HX0 HLT0 HO HB1
  by_cases hlong : 1024 < len0
  · have hl : ((len0 : Int) > 1024) = True := eq_true (by omega)
    have hl2 : ((1024 : Int) < (len0 : Int)) = True := eq_true (by omega)
    refine start_ (n := 13) (S := (fun w' => Below (w1.drew).heap.size (w1.drew) w')) (ds := []) #[false, false, false, false, false, false, false, false, false, false, false, false, false] (by kernel_rfl) rfl rfl (Below.refl _ _) (fun hHeld => ?_); refine with_tabW tabR3 bitsR3 (fun HT_ HW_ => ?_)
    generalize w1.drew = w6 at HX HLT HO6 HBd hHeld ⊢
    refine pure_ (i := 0) (N := some 7) (v := ?_) (a' := ?_) #[true, false, false, false, false, false, false, false, false, false, false, false, false] rfl rfl (any_of HT_.out (by kernel_rfl)) (fun _ _ _ h => h) (Or.inl ⟨by rfl, ?_⟩) ?_ ?_
    rotate_left
    · intro w'
      go_simp
      with_reducible rfl
    rotate_left
    · simp only [Act.put, List.setIfInBounds_toArray, List.set_cons_zero, List.set_cons_succ, i64_w, i32_w]
      rfl
    refine pure_ (i := 1) (N := some 8) (v := ?_) (a' := ?_) #[true, true, false, false, false, false, false, false, false, false, false, false, false] rfl rfl (any_of HT_.out (by kernel_rfl)) (fun _ _ _ h => h) (Or.inl ⟨by rfl, ?_⟩) ?_ ?_
    rotate_left
    · intro w'
      go_simp
      with_reducible rfl
    rotate_left
    · simp only [Act.put, List.setIfInBounds_toArray, List.set_cons_zero, List.set_cons_succ, i64_w, i32_w]
      rfl
    refine pure_ (i := 2) (N := some 9) (v := ?_) (a' := ?_) #[true, true, true, false, false, false, false, false, false, false, false, false, false] rfl rfl (any_of HT_.out (by kernel_rfl)) (fun _ _ _ h => h) (Or.inl ⟨by rfl, ?_⟩) ?_ ?_
    rotate_left
    · intro w'
      go_simp
      with_reducible rfl
    rotate_left
    · simp only [Act.put, List.setIfInBounds_toArray, List.set_cons_zero, List.set_cons_succ, i64_w, i32_w]
      rfl
    refine pure_ (i := 3) (N := some 10) (v := ?_) (a' := ?_) #[true, true, true, true, false, false, false, false, false, false, false, false, false] rfl rfl (any_of HT_.out (by kernel_rfl)) (fun _ _ _ h => h) (Or.inl ⟨by rfl, ?_⟩) ?_ ?_
    rotate_left
    · intro w'
      go_simp
      with_reducible rfl
    rotate_left
    · simp only [Act.put, List.setIfInBounds_toArray, List.set_cons_zero, List.set_cons_succ, i64_w, i32_w]
      rfl
    refine pure_ (i := 7) (N := some 14) (v := undef) (a' := ?_) #[true, true, true, true, false, false, false, true, false, false, false, false, false] rfl rfl (any_of HT_.out (by kernel_rfl)) (fun _ _ _ h => h) (Or.inr ⟨by rfl, rfl⟩) ?_ ?_
    rotate_left
    · simp only [Act.put, List.setIfInBounds_toArray, List.set_cons_zero, List.set_cons_succ, i64_w, i32_w]
      rfl
    refine pure_ (i := 4) (N := some 11) (v := undef) (a' := ?_) #[true, true, true, true, true, false, false, true, false, false, false, false, false] rfl rfl (any_of HT_.out (by kernel_rfl)) (fun _ _ _ h => h) (Or.inr ⟨by rfl, rfl⟩) ?_ ?_
    rotate_left
    · simp only [Act.put, List.setIfInBounds_toArray, List.set_cons_zero, List.set_cons_succ, i64_w, i32_w]
      rfl
    refine pure_ (i := 5) (N := some 12) (v := undef) (a' := ?_) #[true, true, true, true, true, true, false, true, false, false, false, false, false] rfl rfl (any_of HT_.out (by kernel_rfl)) (fun _ _ _ h => h) (Or.inr ⟨by rfl, rfl⟩) ?_ ?_
    rotate_left
    · simp only [Act.put, List.setIfInBounds_toArray, List.set_cons_zero, List.set_cons_succ, i64_w, i32_w]
      rfl
    refine pure_ (i := 6) (N := some 13) (v := undef) (a' := ?_) #[true, true, true, true, true, true, true, true, false, false, false, false, false] rfl rfl (any_of HT_.out (by kernel_rfl)) (fun _ _ _ h => h) (Or.inr ⟨by rfl, rfl⟩) ?_ ?_
    rotate_left
    · simp only [Act.put, List.setIfInBounds_toArray, List.set_cons_zero, List.set_cons_succ, i64_w, i32_w]
      rfl
    refine pure_ (i := 8) (N := some 15) (v := undef) (a' := ?_) #[true, true, true, true, true, true, true, true, true, false, false, false, false] rfl rfl (any_of HT_.out (by kernel_rfl)) (fun _ _ _ h => h) (Or.inr ⟨by rfl, rfl⟩) ?_ ?_
    rotate_left
    · simp only [Act.put, List.setIfInBounds_toArray, List.set_cons_zero, List.set_cons_succ, i64_w, i32_w]
      rfl
    refine pure_ (i := 9) (N := some 16) (v := undef) (a' := ?_) #[true, true, true, true, true, true, true, true, true, true, false, false, false] rfl rfl (any_of HT_.out (by kernel_rfl)) (fun _ _ _ h => h) (Or.inr ⟨by rfl, rfl⟩) ?_ ?_
    rotate_left
    · simp only [Act.put, List.setIfInBounds_toArray, List.set_cons_zero, List.set_cons_succ, i64_w, i32_w]
      rfl
    refine pure_ (i := 10) (N := some 17) (v := undef) (a' := ?_) #[true, true, true, true, true, true, true, true, true, true, true, false, false] rfl rfl (any_of HT_.out (by kernel_rfl)) (fun _ _ _ h => h) (Or.inr ⟨by rfl, rfl⟩) ?_ ?_
    rotate_left
    · simp only [Act.put, List.setIfInBounds_toArray, List.set_cons_zero, List.set_cons_succ, i64_w, i32_w]
      rfl
    refine pure_ (i := 11) (N := some 18) (v := ?_) (a' := ?_) #[true, true, true, true, true, true, true, true, true, true, true, true, false] rfl rfl (any_of HT_.out (by kernel_rfl)) (fun _ _ _ h => h) (Or.inl ⟨by rfl, ?_⟩) ?_ ?_
    rotate_left
    · intro w'
      go_simp
      with_reducible rfl
    rotate_left
    · simp only [Act.put, List.setIfInBounds_toArray, List.set_cons_zero, List.set_cons_succ, i64_w, i32_w]
      rfl
    refine pure_ (i := 12) (N := some 2) (v := ?_) (a' := ?_) #[true, true, true, true, true, true, true, true, true, true, true, true, true] rfl rfl (any_of HT_.out (by kernel_rfl)) (fun _ _ _ h => h) (Or.inl ⟨by rfl, ?_⟩) ?_ ?_
    rotate_left
    · intro w'
      go_simp
      with_reducible rfl
    rotate_left
    · simp only [Act.put, List.setIfInBounds_toArray, List.set_cons_zero, List.set_cons_succ, i64_w, i32_w]
      rfl
    refine done_ (done_of HT_.out (by kernel_rfl)) ?_
    clear HT_ HW_
    go_wp2_with fail
    go_ret
    exact ⟨rfl, HBd.out.trans (hHeld.mono HBd.out.size)⟩
  · have hl : ((len0 : Int) > 1024) = False := eq_false (by omega)
    have hl2 : ((1024 : Int) < (len0 : Int)) = False := eq_false (by omega)
    have hv : val 256 (sB (sN len0 (fun j => z0.getD j 0))) (sN len0 (fun j => z0.getD j 0)).size = val 256 (fun j => z0.getD j 0) len0 := sN_val len0 _ HZ.out
    have HV := Aside0.mk hv
    have hbs := beq_same (sN 32 (dig 256 (val 256 (fun j => z0.getD j 0) len0 % LL)))
    clear hv
    refine start_ (n := 13) (S := (fun w' => Below (w1.drew).heap.size (w1.drew) w')) (ds := []) #[false, false, false, false, false, false, false, false, false, false, false, false, false] (by kernel_rfl) rfl rfl (Below.refl _ _) (fun hHeld => ?_); refine with_tabW tabR3 bitsR3 (fun HT_ HW_ => ?_)
    generalize w1.drew = w6 at HX HLT HO6 HBd hHeld ⊢
    refine pure_ (i := 0) (N := some 7) (v := ?_) (a' := ?_) #[true, false, false, false, false, false, false, false, false, false, false, false, false] rfl rfl (any_of HT_.out (by kernel_rfl)) (fun _ _ _ h => h) (Or.inl ⟨by rfl, ?_⟩) ?_ ?_
    rotate_left
    · intro w'
      go_simp
      with_reducible rfl
    rotate_left
    · simp only [Act.put, List.setIfInBounds_toArray, List.set_cons_zero, List.set_cons_succ, i64_w, i32_w]
      rfl
    refine pure_ (i := 1) (N := some 8) (v := ?_) (a' := ?_) #[true, true, false, false, false, false, false, false, false, false, false, false, false] rfl rfl (any_of HT_.out (by kernel_rfl)) (fun _ _ _ h => h) (Or.inl ⟨by rfl, ?_⟩) ?_ ?_
    rotate_left
    · intro w'
      go_simp
      with_reducible rfl
    rotate_left
    · simp only [Act.put, List.setIfInBounds_toArray, List.set_cons_zero, List.set_cons_succ, i64_w, i32_w]
      rfl
    refine pure_ (i := 2) (N := some 9) (v := ?_) (a' := ?_) #[true, true, true, false, false, false, false, false, false, false, false, false, false] rfl rfl (any_of HT_.out (by kernel_rfl)) (fun _ _ _ h => h) (Or.inl ⟨by rfl, ?_⟩) ?_ ?_
    rotate_left
    · intro w'
      go_simp
      with_reducible rfl
    rotate_left
    · simp only [Act.put, List.setIfInBounds_toArray, List.set_cons_zero, List.set_cons_succ, i64_w, i32_w]
      rfl
    refine pure_ (i := 3) (N := some 10) (v := ?_) (a' := ?_) #[true, true, true, true, false, false, false, false, false, false, false, false, false] rfl rfl (any_of HT_.out (by kernel_rfl)) (fun _ _ _ h => h) (Or.inl ⟨by rfl, ?_⟩) ?_ ?_
    rotate_left
    · intro w'
      go_simp
      with_reducible rfl
    rotate_left
    · simp only [Act.put, List.setIfInBounds_toArray, List.set_cons_zero, List.set_cons_succ, i64_w, i32_w]
      rfl
    refine pure_ (i := 4) (N := some 11) (v := ?_) (a' := ?_) #[true, true, true, true, true, false, false, false, false, false, false, false, false] rfl rfl (any_of HT_.out (by kernel_rfl)) (fun _ _ _ h => h) (Or.inl ⟨by rfl, ?_⟩) ?_ ?_
    rotate_left
    · intro w'
      go_simp
      with_reducible rfl
    rotate_left
    · simp only [Act.put, List.setIfInBounds_toArray, List.set_cons_zero, List.set_cons_succ, i64_w, i32_w]
      rfl
    refine pure_ (i := 7) (N := some 14) (v := ?_) (a' := ?_) #[true, true, true, true, true, false, false, true, false, false, false, false, false] rfl rfl (any_of HT_.out (by kernel_rfl)) (fun _ _ _ h => h) (Or.inl ⟨by rfl, ?_⟩) ?_ ?_
    rotate_left
    · intro w'
      go_simp
      with_reducible rfl
    rotate_left
    · simp only [Act.put, List.setIfInBounds_toArray, List.set_cons_zero, List.set_cons_succ, i64_w, i32_w]
      rfl
    refine take_ (i := 8) (N := some 15) (v := ?_) (a' := ?_) #[true, true, true, true, true, false, false, true, true, false, false, false, false] rfl rfl (take_ofW HT_.out HW_.out (by kernel_rfl)) (fun _ _ _ h => h) (Or.inl ⟨by rfl, ?_⟩) hHeld ?_ ?_
    rotate_left
    · intro w' hsw
      have hcv := (HX.out.below hsw HLT.out).conv (cap := cap0) HZ.out
      go_simp
      with_reducible rfl
    rotate_left
    · simp only [Act.put, List.setIfInBounds_toArray, List.set_cons_zero, List.set_cons_succ, i64_w, i32_w]
      rfl
    refine one_ (i := 5) (N := some 12) #[true, true, true, true, true, true, false, true, true, false, false, false, false] rfl rfl (one_of HT_.out (by kernel_rfl)) (by decide) (fun K hK => ?_)
    refine goes_ Tryd.func9 rfl rfl #[.slice a0 len0 cap0] rfl rfl rfl (by simp only [List.map_toArray, List.map_cons, List.map_nil]; rfl) ((rest_calls' (fun j => z0.getD j 0) a0 len0 cap0 _ (HO6.out.below hHeld HO6.out.lt) HZ.out HL.out (HX.out.below hHeld HLT.out)).mono ?_)
    rintro e wc1 ⟨rfl, hb⟩
    have hSn : Below w6.heap.size w6 wc1 := hHeld.trans (hb.mono hHeld.size)
    clear hb
    refine ⟨_, rfl, hK.out _ _ hSn (fun hHeld => ?_)⟩
    clear hSn
    clear hK K
    refine norm_ (a' := ?_) ?_ ?_
    rotate_left
    · show Act.put _ (some 12) _ = _
      simp only [Act.put, List.setIfInBounds_toArray, List.set_cons_zero, List.set_cons_succ, i64_w, i32_w]
      rfl
    refine one_ (i := 6) (N := some 13) #[true, true, true, true, true, true, true, true, true, false, false, false, false] rfl rfl (one_of HT_.out (by kernel_rfl)) (by decide) (fun K hK => ?_)
    refine goes_ Tryd.func10 rfl rfl #[.agg (FR .u8 32 (dig 256 (val 256 (fun j => z0.getD j 0) len0 % LL)))] rfl rfl rfl (by simp only [List.map_toArray, List.map_cons, List.map_nil]; rfl) ((text_calls _ _).mono ?_)
    rintro e wc2 ⟨rfl, hb⟩
    have hSn : Below w6.heap.size w6 wc2 := hHeld.trans (hb.mono hHeld.size)
    clear hb
    refine ⟨_, rfl, hK.out _ _ hSn (fun hHeld => ?_)⟩
    clear hSn
    clear hK K
    refine norm_ (a' := ?_) ?_ ?_
    rotate_left
    · show Act.put _ (some 13) _ = _
      simp only [Act.put, List.setIfInBounds_toArray, List.set_cons_zero, List.set_cons_succ, i64_w, i32_w]
      rfl
    refine one_ (i := 9) (N := some 16) #[true, true, true, true, true, true, true, true, true, true, false, false, false] rfl rfl (one_of HT_.out (by kernel_rfl)) (by decide) (fun K hK => ?_)
    refine goes_ Tryd.func11 rfl rfl #[.string (sN len0 (fun j => z0.getD j 0))] rfl rfl rfl (by simp only [List.map_toArray, List.map_cons, List.map_nil]; rfl) ((refrest_calls (sN len0 (fun j => z0.getD j 0)) _ (by rw [sN_size]; exact HL.out)).mono ?_)
    rintro e wc3 ⟨rfl, hb⟩
    rw [HV.out]
    have hSn : Below w6.heap.size w6 wc3 := hHeld.trans (hb.mono hHeld.size)
    clear hb
    refine ⟨_, rfl, hK.out _ _ hSn (fun hHeld => ?_)⟩
    clear hSn
    clear hK K
    refine norm_ (a' := ?_) ?_ ?_
    rotate_left
    · show Act.put _ (some 16) _ = _
      simp only [Act.put, List.setIfInBounds_toArray, List.set_cons_zero, List.set_cons_succ, i64_w, i32_w]
      rfl
    refine pure_ (i := 10) (N := some 17) (v := ?_) (a' := ?_) #[true, true, true, true, true, true, true, true, true, true, true, false, false] rfl rfl (any_of HT_.out (by kernel_rfl)) (fun _ _ _ h => h) (Or.inl ⟨by rfl, ?_⟩) ?_ ?_
    rotate_left
    · intro w'
      go_simp
      with_reducible rfl
    rotate_left
    · simp only [Act.put, List.setIfInBounds_toArray, List.set_cons_zero, List.set_cons_succ, i64_w, i32_w]
      rfl
    refine pure_ (i := 11) (N := some 18) (v := ?_) (a' := ?_) #[true, true, true, true, true, true, true, true, true, true, true, true, false] rfl rfl (any_of HT_.out (by kernel_rfl)) (fun _ _ _ h => h) (Or.inl ⟨by rfl, ?_⟩) ?_ ?_
    rotate_left
    · intro w'
      go_simp
      with_reducible rfl
    rotate_left
    · simp only [Act.put, List.setIfInBounds_toArray, List.set_cons_zero, List.set_cons_succ, i64_w, i32_w]
      rfl
    refine pure_ (i := 12) (N := some 2) (v := ?_) (a' := ?_) #[true, true, true, true, true, true, true, true, true, true, true, true, true] rfl rfl (any_of HT_.out (by kernel_rfl)) (fun _ _ _ h => h) (Or.inl ⟨by rfl, ?_⟩) ?_ ?_
    rotate_left
    · intro w'
      go_simp
      with_reducible rfl
    rotate_left
    · simp only [Act.put, List.setIfInBounds_toArray, List.set_cons_zero, List.set_cons_succ, i64_w, i32_w]
      rfl
    refine done_ (done_of HT_.out (by kernel_rfl)) ?_
    clear HT_ HW_ hbs
    go_wp2_with fail
    go_ret
    exact ⟨rfl, HBd.out.trans (hHeld.mono HBd.out.size)⟩
end Go.Proofs.YtchokhakdnjfmaaDoor.P
