/- The laws Digest2Is, Digest2Ends: their walks. -/
import Derived.Test.YtlopmjolahhpnaaDoorDj
import Derived.Test.YtlopmjolahhpnaaDoorWFour
import Derived.Laws.IdiomStrings
import Derived.Deep.OwnRows
namespace Go.Proofs.YtlopmjolahhpnaaDoor.P
set_option linter.unusedVariables false
set_option linter.unusedSimpArgs false
open Go.RowKit Go.Proofs.YtlopmjolahhpnaaDoorW.PrintWords Go.Proofs.YtlopmjolahhpnaaDoorW.PrintLast Go.Proofs.YtlopmjolahhpnaaDoorW.PrintMore
attribute [local go_sem] setCell_drewN
theorem beq_same (s : ByteArray) : (s.toList == s.toList) = true := by simp
theorem tabIs6 : rtab .any (opsOf Tryd.f3 6) = (true, [([], []), ([0], [0]), ([], []), ([2], [2]), ([1, 3], [1, 3]), ([4, 3, 0, 1, 2, 3, 4], [4])]) := by kernel_rfl
theorem bitsIs6 : waitsOk [([], []), ([0], [0]), ([], []), ([2], [2]), ([1, 3], [1, 3]), ([4, 3, 0, 1, 2, 3, 4], [4])] [0, 1, 0, 4, 15, 31] = true := by kernel_rfl
set_option maxRecDepth 100000 in
set_option maxHeartbeats 1000000 in
theorem Digest2Is_walk (a0 : Option Addr) (len0 cap0 : Nat) (z0 : List Int) (w : World) (ho : Tab w) (w0 : IsRowB w a0 len0 cap0 z0) (y0 : len0 * 1 ≤ 140737488351232) :
    Calls Tryd.prog 3 #[.slice a0 len0 cap0] w fun e w' => e = .returned (.bool true) ∧ Below w.heap.size w w' := by
  have HT := Aside0.mk ho
  obtain ⟨h1, h2, h3, h4⟩ := w0.at
  have HX := Aside0.mk h1
  have HZ := Aside0.mk h2
  have HN0 := Aside0.mk h4
  have HAL := Aside0.mk h1.lt
  clear ho w0 h1 h2 h3 h4 y0
  by_cases hlong : 8192 < len0
  · have hl : ((len0 : Int) > 8192) = True := eq_true (by omega)
    have hl2 : ((8192 : Int) < (len0 : Int)) = True := eq_true (by omega)
    go_enter Tryd.func3, Tryd.ntmps3
    go_wp2_with fail
    refine (alive_calls _ HT.out).mono ?_
    rintro e w1 ⟨rfl, hb⟩
    have HB1 := Aside0.mk hb
    clear hb
    go_wp2_with fail
    go_ret
    exact ⟨rfl, HB1.out⟩
  · have HL : Aside0 (len0 ≤ 8192) := ⟨by omega⟩
    have hl : ((len0 : Int) > 8192) = False := eq_false (by omega)
    have hl2 : ((8192 : Int) < (len0 : Int)) = False := eq_false (by omega)
    have hbs := beq_same (sN 64 (dg (fun j => z0.getD j 0) len0))
    go_enter Tryd.func3, Tryd.ntmps3
    go_wp2_with fail
    refine (alive_calls _ HT.out).mono ?_
    rintro e w1 ⟨rfl, hb⟩
    have HB1 := Aside0.mk hb
    have HT1 := Aside0.mk (HT.out.keep (hb.block _ HT.out.lt))
    have HX1 := Aside0.mk (HX.out.below hb HAL.out)
    clear hb
    go_wp2_with fail
    refine (of_calls _ a0 len0 cap0 w1 HT1.out HX1.out HN0.out (by have := HL.out; omega) HZ.out).mono ?_
    rintro e w2 ⟨rfl, hb⟩
    have HB2 := Aside0.mk (HB1.out.trans (hb.mono HB1.out.size))
    have HX2 := Aside0.mk (HX1.out.below hb (fun x hx h0 => by have := HAL.out x hx h0; have := HB1.out.size; omega))
    have hsz := HB2.out.size
    have HR3 := Aside0.mk (Row.new w2 .u8 64 (fun _ => 0) 24)
    have HB3 := Aside0.mk (HB2.out.alloc hsz (.cells (FR .u8 64 fun _ => 0) 24))
    have HX3 := Aside0.mk (HX2.out.keep (w' := w2.alloc (.cells (FR .u8 64 fun _ => 0) 24)) (fun x hx h0 => Below.heap_alloc w2 _ _ (by have := HAL.out x hx h0; omega)))
    clear hb
    have hzv := zero64b
    generalize hz : (fun j => z0.getD j 0) = z at *
    replace HZ : Aside0 (∀ j, j < len0 → 0 ≤ z j ∧ z j < 256) := ⟨by rw [← hz]; exact HZ.out⟩
    clear hz
    go_wp2_with (refine step_storeG (dg z len0) HR3.out info64b rfl rfl rfl rfl rfl ?_; intro w5 hs hr; have HB6 := Aside0.mk (hs.bel w.heap.size w hsz HB3.out); have HX6 := Aside0.mk (HX3.out.keep (fun x hx h0 => hs.other _ (by have := HAL.out x hx h0; omega))); have HR6 := Aside0.mk hr; clear hs hr)
    have HLT6 : Aside0 (∀ x, a0 = some x → 0 < len0 → x.block < w5.drew.heap.size) := ⟨fun x hx h0 => by have := HAL.out x hx h0; have := HB6.out.size; show x.block < w5.heap.size; omega⟩
    replace HX6 : Aside0 (NumsAt .u8 w5.drew a0 len0 z) := ⟨HX6.out⟩
    replace HR6 : Aside0 (Row w5.drew w2.heap.size .u8 64 (dg z len0) 24) := ⟨HR6.out⟩
    replace HB6 : Aside0 (Below w.heap.size w w5.drew) := ⟨HB6.out.drew⟩
    clear hzv
    refine start_ (n := 6) (S := (fun w' => Below (w5.drew).heap.size (w5.drew) w')) (ds := []) #[false, false, false, false, false, false] (by kernel_rfl) rfl rfl (Below.refl _ _) (fun hHeld => ?_); refine with_tabW tabIs6 bitsIs6 (fun HT_ HW_ => ?_)
    generalize w5.drew = w6 at HX6 HLT6 HR6 HB6 hHeld ⊢
    refine pure_ (i := 0) (N := some 11) (v := ?_) (a' := ?_) #[true, false, false, false, false, false] rfl rfl (any_of HT_.out (by kernel_rfl)) (fun _ _ _ h => h) (Or.inl ⟨by rfl, ?_⟩) ?_ ?_
    rotate_left
    · intro w'
      go_simp
      with_reducible rfl
    rotate_left
    · simp only [Act.put, List.setIfInBounds_toArray, List.set_cons_zero, List.set_cons_succ, i64_w, i32_w]
      rfl
    refine take_ (i := 1) (N := some 12) (v := ?_) (a' := ?_) #[true, true, false, false, false, false] rfl rfl (take_ofW HT_.out HW_.out (by kernel_rfl)) (fun _ _ _ h => h) (Or.inl ⟨by rfl, ?_⟩) hHeld ?_ ?_
    rotate_left
    · intro w' hsw
      have hcv := str_cells (o := 0) (n := 64) (cap := 64) (z := dg z len0) (fun j hj => by rw [Nat.zero_add]; exact (HR6.out.below hsw HR6.out.lt).cell j hj)
      go_simp
      with_reducible rfl
    rotate_left
    · simp only [Act.put, List.setIfInBounds_toArray, List.set_cons_zero, List.set_cons_succ, i64_w, i32_w]
      rfl
    refine pure_ (i := 2) (N := some 13) (v := ?_) (a' := ?_) #[true, true, true, false, false, false] rfl rfl (any_of HT_.out (by kernel_rfl)) (fun _ _ _ h => h) (Or.inl ⟨by rfl, ?_⟩) ?_ ?_
    rotate_left
    · intro w'
      go_simp
      with_reducible rfl
    rotate_left
    · simp only [Act.put, List.setIfInBounds_toArray, List.set_cons_zero, List.set_cons_succ, i64_w, i32_w]
      rfl
    refine one_ (i := 3) (N := some 14) #[true, true, true, true, false, false] rfl rfl (one_of HT_.out (by kernel_rfl)) (by decide) (fun K hK => ?_)
    refine goes_ Tryd.func9 rfl rfl #[.slice a0 len0 cap0] rfl rfl rfl (by simp only [List.map_toArray, List.map_cons, List.map_nil]; rfl) ((refof_calls z a0 len0 cap0 _ (HX6.out.below hHeld HLT6.out) HN0.out (by have := HL.out; omega) HZ.out).mono ?_)
    rintro e wc1 ⟨rfl, hb⟩
    have hSn : Below w6.heap.size w6 wc1 := hHeld.trans (hb.mono hHeld.size)
    clear hb
    refine ⟨_, rfl, hK.out _ _ hSn (fun hHeld => ?_)⟩
    clear hSn
    clear hK K
    refine norm_ (a' := ?_) ?_ ?_
    rotate_left
    · show Act.put _ (some 14) _ = _
      simp only [Act.put, List.setIfInBounds_toArray, List.set_cons_zero, List.set_cons_succ, i64_w, i32_w]
      rfl
    refine pure_ (i := 4) (N := some 15) (v := ?_) (a' := ?_) #[true, true, true, true, true, false] rfl rfl (any_of HT_.out (by kernel_rfl)) (fun _ _ _ h => h) (Or.inl ⟨by rfl, ?_⟩) ?_ ?_
    rotate_left
    · intro w'
      go_simp
      with_reducible rfl
    rotate_left
    · simp only [Act.put, List.setIfInBounds_toArray, List.set_cons_zero, List.set_cons_succ, i64_w, i32_w]
      rfl
    refine pure_ (i := 5) (N := some 2) (v := ?_) (a' := ?_) #[true, true, true, true, true, true] rfl rfl (any_of HT_.out (by kernel_rfl)) (fun _ _ _ h => h) (Or.inl ⟨by rfl, ?_⟩) ?_ ?_
    rotate_left
    · intro w'
      go_simp
      with_reducible rfl
    rotate_left
    · simp only [Act.put, List.setIfInBounds_toArray, List.set_cons_zero, List.set_cons_succ, i64_w, i32_w]
      rfl
    refine done_ (done_of HT_.out (by kernel_rfl)) ?_
    clear HT_ HW_ hbs
    go_wp2_with fail
    go_ret
    exact ⟨rfl, HB6.out.trans (hHeld.mono HB6.out.size)⟩
theorem tabEn12 : rtab .any (opsOf Tryd.f4 12) = (true, [([], []), ([0], [0]), ([], []), ([2], [2]), ([1, 3], [1, 3]), ([4, 3, 0, 1, 2, 3, 4], [4])]) := by kernel_rfl
theorem bitsEn12 : waitsOk [([], []), ([0], [0]), ([], []), ([2], [2]), ([1, 3], [1, 3]), ([4, 3, 0, 1, 2, 3, 4], [4])] [0, 1, 0, 4, 15, 31] = true := by kernel_rfl
theorem made_FR (n : Nat) : madeCells #[Value.int .u8 0] n = FR .u8 n (fun _ => 0) := by
  apply Array.toList_inj.1
  rw [toList_madeCells_one]
  simp [FR, List.map_const']
theorem make_row (n : Nat) (hn : n ≤ 281474976710656) (w : World) : (Instr.makeSlice 22 (.int .i64 (n : Int)) (.int .i64 (n : Int))).run Tryd.prog w = .ok (.slice (some ⟨w.heap.size, 0, none⟩) n n) (w.alloc (.cells (FR .u8 n fun _ => 0) 5)) := by
  rw [← made_FR]
  exact run_make_row' 22 5 (.int .u8 0) 1 Tryd.underlying22 info8p rfl .i64 .i64 n (by omega) (by omega) w
def ER (a1 : Int) (n b : Nat) (w : World) (v20 : Value) (wr : World) : Prop := ∃ i : Nat, i ≤ n ∧ v20 = .int .i64 (i : Int) ∧ Row wr b .u8 n (fun j => if j < i then a1 else 0) 5 ∧ Below w.heap.size w wr
set_option maxRecDepth 100000 in
set_option maxHeartbeats 1000000 in
theorem Digest2Ends_walk (a0 a1 : Int) (w : World) (ho : Tab w) (w0 : (Lit.int .i64 a0).wf = true) (w1 : (Lit.int .u8 a1).wf = true) :
    Calls Tryd.prog 4 #[.int .i64 a0, .int .u8 a1] w fun e w' => e = .returned (.bool true) ∧ Below w.heap.size w w' := by
  have HT := Aside0.mk ho
  have hc := u8b w1
  have HC := Aside0.mk hc
  clear ho w0 w1 hc
  by_cases hlow : a0 < 0
  · have hl : (a0 < 0) = True := eq_true hlow
    clear hlow
    go_enter Tryd.func4, Tryd.ntmps4
    go_wp2_with fail
    refine (alive_calls _ HT.out).mono ?_
    rintro e w1 ⟨rfl, hb⟩
    have HB1 := Aside0.mk hb
    clear hb
    go_wp2_with fail
    go_ret
    exact ⟨rfl, HB1.out⟩
  obtain ⟨n, rfl⟩ : ∃ n : Nat, a0 = (n : Int) := ⟨a0.toNat, by omega⟩
  clear hlow
  by_cases hlong : 600 < n
  · have hl0 : ((n : Int) < 0) = False := eq_false (by omega)
    have hl : ((n : Int) > 600) = True := eq_true (by omega)
    have hl2 : ((600 : Int) < (n : Int)) = True := eq_true (by omega)
    go_enter Tryd.func4, Tryd.ntmps4
    go_wp2_with fail
    refine (alive_calls _ HT.out).mono ?_
    rintro e w1 ⟨rfl, hb⟩
    have HB1 := Aside0.mk hb
    clear hb
    go_wp2_with fail
    go_ret
    exact ⟨rfl, HB1.out⟩
  have HL : Aside0 (n ≤ 600) := ⟨by omega⟩
  have hl0 : ((n : Int) < 0) = False := eq_false (by omega)
  have hl : ((n : Int) > 600) = False := eq_false (by omega)
  have hl2 : ((600 : Int) < (n : Int)) = False := eq_false (by omega)
  have hl3 : (n : Int) ≤ 600 := by omega
  clear hlong
  go_enter Tryd.func4, Tryd.ntmps4
  go_wp2_with fail
  refine (alive_calls _ HT.out).mono ?_
  rintro e w1 ⟨rfl, hb⟩
  have HB1 := Aside0.mk hb
  have HT1 := Aside0.mk (HT.out.keep (hb.block _ HT.out.lt))
  clear hb
  have hmk := make_row n (by have := HL.out; omega)
  have HR2 := Aside0.mk (Row.new w1 .u8 n (fun _ => 0) 5)
  have HB2 := Aside0.mk (HB1.out.alloc HB1.out.size (.cells (FR .u8 n fun _ => 0) 5))
  have hsz := HB1.out.size
  obtain ⟨g0, hg0⟩ : ∃ g0, w1.heap.size = g0 := ⟨_, rfl⟩
  rw [hg0] at HR2 hsz
  go_wp2_with fail
  go_loopw [20] (fun v20 wr => ER a1 n g0 w v20 wr) (fun v _ => n - (intOf v).toNat)
  case atStart => exact ⟨0, by omega, rfl, row_eq HR2.out (fun j hj => by rw [if_neg (by omega)]), HB2.out⟩
  case round =>
    clear HR2 HB2 hmk
    obtain ⟨i, hi, rfl, hr, hb⟩ := hrel
    have HR := Aside0.mk hr
    have HB := Aside0.mk hb
    clear hb
    rcases Nat.lt_or_ge i n with h8 | h8
    · have hlt : ((i : Int) < (n : Int)) = True := eq_true (by omega)
      have k0 := hr.cell i h8
      have f0 := hr.fro i
      rw [if_neg (Nat.lt_irrefl i)] at k0
      have HSt := Aside0.mk (part_step (a := ⟨0, 0, none⟩) hr h8)
      clear hr
      go_wp2_with fail
      refine ⟨⟨i + 1, by omega, rfl, HSt.out, bel_set HB.out _ _ (show w.heap.size ≤ g0 by omega)⟩, meas_up n i h8⟩
    · obtain rfl : n = i := by omega
      have HR1 := Aside0.mk (row_eq hr (f' := fun _ => a1) (fun j hj => by rw [if_pos hj]))
      have HX1 := Aside0.mk (Row.numsAt HR1.out)
      have HT2 := Aside0.mk (HT.out.keep (HB.out.block _ HT.out.lt))
      have HZ : Aside0 (∀ j, j < n → 0 ≤ (fun _ : Nat => a1) j ∧ (fun _ : Nat => a1) j < 256) := ⟨fun _ _ => HC.out⟩
      have hbs := beq_same (sN 64 (dg (fun _ => a1) n))
      have hgl := HR1.out.lt
      clear hr HR
      go_wp2_with fail
      refine (of_calls (fun _ => a1) (some ⟨g0, 0, none⟩) n n wr HT2.out HX1.out (fun e => by cases e) (by have := HL.out; omega) HZ.out).mono ?_
      rintro e w2 ⟨rfl, hb⟩
      have HB2 := Aside0.mk (HB.out.trans (hb.mono HB.out.size))
      have hgl2 := Nat.lt_of_lt_of_le hgl hb.size
      have HX2 := Aside0.mk (HX1.out.below hb (fun x hx h0 => by cases hx; exact hgl))
      have hsz := HB2.out.size
      have HR3 := Aside0.mk (Row.new w2 .u8 64 (fun _ => 0) 24)
      have HB3 := Aside0.mk (HB2.out.alloc hsz (.cells (FR .u8 64 fun _ => 0) 24))
      have HX3 := Aside0.mk (HX2.out.keep (w' := w2.alloc (.cells (FR .u8 64 fun _ => 0) 24)) (fun x hx h0 => Below.heap_alloc w2 _ _ (by cases hx; exact hgl2)))
      clear hb
      have hzv := zero64b
      generalize hD : dg (fun _ => a1) n = D at *
      go_wp2_with (refine step_storeG D HR3.out info64b rfl rfl rfl rfl rfl ?_; intro w5 hs hr; have HB6 := Aside0.mk (hs.bel w.heap.size w hsz HB3.out); have HX6 := Aside0.mk (HX3.out.keep (fun x hx h0 => hs.other _ (by cases hx; show g0 ≠ w2.heap.size; omega))); have HR6 := Aside0.mk hr; have hgl5 := hs.size; clear hs hr)
      subst hD
      rw [show (w2.alloc (.cells (FR .u8 64 fun _ => 0) 24)).heap.size = w2.heap.size + 1 by simp] at hgl5
      have HLT6 : Aside0 (∀ x, (some ⟨g0, 0, none⟩ : Option Addr) = some x → 0 < n → x.block < w5.drew.heap.size) := ⟨fun x hx h0 => by cases hx; show g0 < w5.heap.size; omega⟩
      replace HX6 : Aside0 (NumsAt .u8 w5.drew (some ⟨g0, 0, none⟩) n (fun _ => a1)) := ⟨HX6.out⟩
      replace HR6 : Aside0 (Row w5.drew w2.heap.size .u8 64 (dg (fun _ => a1) n) 24) := ⟨HR6.out⟩
      replace HB6 : Aside0 (Below w.heap.size w w5.drew) := ⟨HB6.out.drew⟩
      clear hzv
      refine start_ (n := 6) (S := (fun w' => Below (w5.drew).heap.size (w5.drew) w')) (ds := []) #[false, false, false, false, false, false] (by kernel_rfl) rfl rfl (Below.refl _ _) (fun hHeld => ?_); refine with_tabW tabEn12 bitsEn12 (fun HT_ HW_ => ?_)
      generalize w5.drew = w6 at HX6 HLT6 HR6 HB6 hHeld ⊢
      refine pure_ (i := 0) (N := some 30) (v := ?_) (a' := ?_) #[true, false, false, false, false, false] rfl rfl (any_of HT_.out (by kernel_rfl)) (fun _ _ _ h => h) (Or.inl ⟨by rfl, ?_⟩) ?_ ?_
      rotate_left
      · intro w'
        go_simp
        with_reducible rfl
      rotate_left
      · simp only [Act.put, List.setIfInBounds_toArray, List.set_cons_zero, List.set_cons_succ, i64_w, i32_w]
        rfl
      refine take_ (i := 1) (N := some 31) (v := ?_) (a' := ?_) #[true, true, false, false, false, false] rfl rfl (take_ofW HT_.out HW_.out (by kernel_rfl)) (fun _ _ _ h => h) (Or.inl ⟨by rfl, ?_⟩) hHeld ?_ ?_
      rotate_left
      · intro w' hsw
        have hcv := str_cells (o := 0) (n := 64) (cap := 64) (z := dg (fun _ => a1) n) (fun j hj => by rw [Nat.zero_add]; exact (HR6.out.below hsw HR6.out.lt).cell j hj)
        go_simp
        with_reducible rfl
      rotate_left
      · simp only [Act.put, List.setIfInBounds_toArray, List.set_cons_zero, List.set_cons_succ, i64_w, i32_w]
        rfl
      refine pure_ (i := 2) (N := some 32) (v := ?_) (a' := ?_) #[true, true, true, false, false, false] rfl rfl (any_of HT_.out (by kernel_rfl)) (fun _ _ _ h => h) (Or.inl ⟨by rfl, ?_⟩) ?_ ?_
      rotate_left
      · intro w'
        go_simp
        with_reducible rfl
      rotate_left
      · simp only [Act.put, List.setIfInBounds_toArray, List.set_cons_zero, List.set_cons_succ, i64_w, i32_w]
        rfl
      refine one_ (i := 3) (N := some 33) #[true, true, true, true, false, false] rfl rfl (one_of HT_.out (by kernel_rfl)) (by decide) (fun K hK => ?_)
      refine goes_ Tryd.func9 rfl rfl #[.slice (some ⟨g0, 0, none⟩) n n] rfl rfl rfl (by simp only [List.map_toArray, List.map_cons, List.map_nil]; rfl) ((refof_calls (fun _ => a1) (some ⟨g0, 0, none⟩) n n _ (HX6.out.below hHeld HLT6.out) (fun e => by cases e) (by have := HL.out; omega) HZ.out).mono ?_)
      rintro e wc1 ⟨rfl, hb⟩
      have hSn : Below w6.heap.size w6 wc1 := hHeld.trans (hb.mono hHeld.size)
      clear hb
      refine ⟨_, rfl, hK.out _ _ hSn (fun hHeld => ?_)⟩
      clear hSn
      clear hK K
      refine norm_ (a' := ?_) ?_ ?_
      rotate_left
      · show Act.put _ (some 33) _ = _
        simp only [Act.put, List.setIfInBounds_toArray, List.set_cons_zero, List.set_cons_succ, i64_w, i32_w]
        rfl
      refine pure_ (i := 4) (N := some 34) (v := ?_) (a' := ?_) #[true, true, true, true, true, false] rfl rfl (any_of HT_.out (by kernel_rfl)) (fun _ _ _ h => h) (Or.inl ⟨by rfl, ?_⟩) ?_ ?_
      rotate_left
      · intro w'
        go_simp
        with_reducible rfl
      rotate_left
      · simp only [Act.put, List.setIfInBounds_toArray, List.set_cons_zero, List.set_cons_succ, i64_w, i32_w]
        rfl
      refine pure_ (i := 5) (N := some 4) (v := ?_) (a' := ?_) #[true, true, true, true, true, true] rfl rfl (any_of HT_.out (by kernel_rfl)) (fun _ _ _ h => h) (Or.inl ⟨by rfl, ?_⟩) ?_ ?_
      rotate_left
      · intro w'
        go_simp
        with_reducible rfl
      rotate_left
      · simp only [Act.put, List.setIfInBounds_toArray, List.set_cons_zero, List.set_cons_succ, i64_w, i32_w]
        rfl
      refine done_ (done_of HT_.out (by kernel_rfl)) ?_
      clear HT_ HW_ hbs
      go_wp2_with fail
      go_ret
      exact ⟨rfl, HB6.out.trans (hHeld.mono HB6.out.size)⟩
end Go.Proofs.YtlopmjolahhpnaaDoor.P
