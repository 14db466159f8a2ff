/- The law ScalarKeeps: its walk. -/
import Derived.Test.YtchokhakdnjfmaaDoorSn
import Derived.Test.YtchokhakdnjfmaaDoorWZeros
import Derived.Lib.AppendZeros
namespace Go.Proofs.YtchokhakdnjfmaaDoor.P
set_option linter.unusedVariables false
set_option linter.unusedSimpArgs false
open Go.RowKit Go.Proofs.YtchokhakdnjfmaaDoorW.PrintWords Go.Proofs.YtchokhakdnjfmaaDoorW.PrintLast Go.Proofs.YtchokhakdnjfmaaDoorW.PrintMore
attribute [local go_sem] setCell_drewN
theorem tabK7 : rtab .any (opsOf Tryd.f5 7) = (true, [([], []), ([0], [0]), ([], []), ([2], [2]), ([1, 3], [1, 3]), ([4], [4]), ([5], [5]), ([5], [5]), ([6, 7, 5, 5], [5, 6, 7]), ([8, 8, 5], [5, 8]), ([5], [5]), ([9, 10, 5], [5, 9, 10]), ([5, 11], [5, 11]), ([12, 9, 0, 1, 2, 3, 4, 5, 6, 7, 8, 9, 10, 11, 12], [12])]) := by kernel_rfl
theorem bitsK7 : waitsOk [([], []), ([0], [0]), ([], []), ([2], [2]), ([1, 3], [1, 3]), ([4], [4]), ([5], [5]), ([5], [5]), ([6, 7, 5, 5], [5, 6, 7]), ([8, 8, 5], [5, 8]), ([5], [5]), ([9, 10, 5], [5, 9, 10]), ([5, 11], [5, 11]), ([12, 9, 0, 1, 2, 3, 4, 5, 6, 7, 8, 9, 10, 11, 12], [12])] [0, 1, 0, 4, 15, 31, 63, 63, 255, 511, 63, 2047, 4095, 8191] = true := by kernel_rfl

section
variable {P : Program} {ops : Array Oper} {Q : Exit → Act → World → Prop} {md : Region.Mode} {S : World → Prop} {ds : List Nat}
/-- An operation of no draw behind which nothing of S is asked (S may have been broken before it). -/
theorem one_loose {i : Nat} {N : Option Tmp} {oi : Oper} {fuel : Nat} {l : Array Bool} {a : Act} {w : World} (l' : Array Bool) (hi : ops[i]? = some oi) (hN : oi.dst = N) (hc : readyB md ops l l' i = true)
    (h : ∀ K : Act → World → Prop, Shut (∀ a' w', (S w → S w') → wpAnyLast P md ops Q S ds fuel l' a' w' → K a' w') → if Region.wanted oi (yielded ops a.tmps) = true then Oper.wp P oi a w K Q else K (a.put N undef) w) :
    wpAnyLast P md ops Q S ds (fuel + 1) l a w := one_free l' hi hN hc h
end
/-- A slice that the call owns, with a slice's bytes behind it. -/
theorem run_append_bytes {w : World} {base : Nat} {v : Value} {a : Option Addr} {len cap : Nat} {z : Nat → Int} (ty : TypeId) (ho : w.ownsRow base 5 1 v 0 []) (hx : BytesAt w a len z) (hn : a = none → cap = 0) (hl : len ≤ 140737488351232) (hb : base ≤ w.heap.size) :
    ∃ v' w', (Builtin.append_ #[22, 22] ty #[v, .slice a len cap]).run Tryd.prog w = .ok v' w' ∧ OwnB w' base v' len z ∧ w.grownBy w' v.ownBlock := by
  obtain ⟨ix, hinf, hx1, hx2, hx3⟩ := info_parts info8p
  rcases hx with ⟨rfl, rfl⟩ | ⟨x, rfl, hc⟩
  · obtain rfl := hn rfl
    exact ⟨v, w, run_append_owned_none (P := Tryd.prog) (w := w) base 22 ty 5 ix 1 Tryd.underlying22 hinf v 0 [] ho, ho, ⟨rfl, rfl, rfl, Nat.le_refl _, fun _ _ _ => rfl⟩⟩
  · obtain ⟨v', w', hr, h2, h3, _⟩ := run_append_own (P := Tryd.prog) w base 22 ty 5 ix (.int .u8 0) 1 1 Tryd.underlying22 hinf hx1 hx2 hx3 rfl (by decide) v 0 [] ho x len cap ((List.range len).map fun j => Value.int .u8 (z j)) (by simp) (fun j u hu => by
      have hj : j < len := by
        by_cases h : j < len
        · exact h
        · rw [List.getElem?_eq_none (by simp; omega)] at hu; cases hu
      rw [hc j hj]
      simpa [hj] using hu) (by simp [Value.oneCell']) (by unfold maxLen; omega) (by omega) hb
    refine ⟨v', w', hr, ?_, h3⟩
    unfold OwnB
    have e : 0 + len = len := by omega
    rw [e] at h2
    exact h2
theorem zeros_list (m : Nat) : (Builtin.zeroCells (Value.int .u8 0).cells m).toList = List.replicate m (Value.int .u8 0) := by
  apply List.ext_getElem?
  intro j
  by_cases h : j < m
  · simp [Builtin.zeroCells, Value.cells, Nat.mod_one, h]
  · simp [Builtin.zeroCells, Value.cells, Nat.mod_one, h]
theorem OwnB.zeros {w : World} {base len : Nat} {v : Value} {z : Nat → Int} (ho : OwnB w base v len z) (ty : TypeId) (m : Nat) (hl : len + m ≤ 140737488355328) (hb : base ≤ w.heap.size) :
    ∃ v' w', (Builtin.append_ #[22, 3] ty #[v, .int .i64 (m : Int)]).run Tryd.prog w = .ok v' w' ∧ OwnB w' base v' (len + m) (fun j => if j < len then z j else 0) ∧ w.grownBy w' v.ownBlock := by
  obtain ⟨ix, hinf, hx1, hx2, hx3⟩ := info_parts info8p
  obtain ⟨v', w', hr, h2, h3, _⟩ := run_append_zeros (P := Tryd.prog) w base 22 3 ty 5 ix (.int .u8 0) 1 1 Tryd.underlying22 Tryd.underlying3 hinf hx1 hx2 hx3 rfl (by decide) (by decide) v len _ ho .i64 m (fun u hu => by
    rw [zeros_list] at hu
    rw [List.eq_of_mem_replicate hu]
    rfl) (by omega) hb
  refine ⟨v', w', hr, ?_, h3⟩
  unfold OwnB
  have e : ((List.range len).map fun j => Value.int .u8 (z j)) ++ (Builtin.zeroCells (Value.int .u8 0).cells m).toList = (List.range (len + m)).map fun j => Value.int .u8 (if j < len then z j else 0) := by
    rw [zeros_list]
    apply List.ext_getElem?
    intro j
    by_cases h1 : j < len
    · rw [List.getElem?_append_left (by simpa using h1)]
      simp [h1, show j < len + m by omega]
    · rw [List.getElem?_append_right (by simpa using h1)]
      by_cases h2 : j < len + m
      · simp [h1, h2, show j - len < m by omega]
      · simp [h1, h2, show ¬ j - len < m by omega]
  rw [← e]
  exact h2
set_option maxHeartbeats 2000000 in
theorem ScalarKeeps_walk (a0 : Option Addr) (len0 cap0 : Nat) (z0 : List Int) (a1 : Int) (w : World) (ho : Ord w) (w0 : IsRowB w a0 len0 cap0 z0) (y0 : len0 * 1 ≤ 140737488351232) (w1 : (Lit.int .i64 a1).wf = true) :
    Calls Tryd.prog 5 #[.slice a0 len0 cap0, .int .i64 a1] w fun e w' => e = .returned (.bool true) ∧ Below w.heap.size w w' := by
  have HO0 := Aside0.mk ho
  obtain ⟨h1, h2, h3⟩ := w0.at
  have HX0 := Aside0.mk h1
  have HZ := Aside0.mk h2
  have HNC : Aside0 (a0 = none → cap0 = 0) := ⟨fun e => by rcases w0 with ⟨_, _, h, _⟩ | ⟨x, h, _⟩; exact h; rw [e] at h; cases h⟩
  have HL0 : Aside0 (len0 ≤ 140737488351232) := ⟨by omega⟩
  have HLT0 : Aside0 (∀ x, a0 = some x → 0 < len0 → x.block < w.heap.size) := ⟨fun x hx hl => by subst hx; exact h1.lt hl⟩
  clear ho w0 h1 h2 h3 y0 w1
  go_enter Tryd.func5, Tryd.ntmps5
  go_wp2_with fail
  refine (alive_calls _ HO0.out).mono ?_
  rintro e w1 ⟨rfl, hb⟩
  have HB1 := Aside0.mk hb
  clear hb
  by_cases hlong : 1024 < len0
  · have hl : ((len0 : Int) > 1024) = True := eq_true (by omega)
    have hl2 : ((1024 : Int) < (len0 : Int)) = True := eq_true (by omega)
    go_wp2_with fail
    go_ret
    exact ⟨rfl, HB1.out⟩
  have hl : ((len0 : Int) > 1024) = False := eq_false (by omega)
  have hl2 : ((1024 : Int) < (len0 : Int)) = False := eq_false (by omega)
  by_cases hneg : a1 < 0
  · have hl3 : (a1 < 0) = True := eq_true hneg
    go_wp2_with fail
    go_ret
    exact ⟨rfl, HB1.out⟩
  by_cases hbig : 100 < a1
  · have hl3 : (a1 < 0) = False := eq_false hneg
    have hl4 : (a1 > 100) = True := eq_true hbig
    have hl5 : ((100 : Int) < a1) = True := eq_true hbig
    go_wp2_with fail
    go_ret
    exact ⟨rfl, HB1.out⟩
  · have hl3 : (a1 < 0) = False := eq_false hneg
    have hl4 : (a1 > 100) = False := eq_false hbig
    have hl5 : ((100 : Int) < a1) = False := eq_false hbig
    obtain ⟨m1, rfl⟩ := Int.eq_ofNat_of_zero_le (show 0 ≤ a1 by omega)
    have HL : Aside0 (len0 ≤ 1024 ∧ m1 ≤ 100) := ⟨by omega, by omega⟩
    have HOW0 := Aside0.mk (World.ownsRow_made (e := 5) (size := 1) w1 #[] 0 (Nat.le_refl _) (by decide) rfl)
    have HBm := Aside0.mk (HB1.out.alloc HB1.out.size (.cells #[] 5))
    have HXm := Aside0.mk (HX0.out.below HBm.out HLT0.out)
    obtain ⟨v5, w5, hr5, ho5, hg5⟩ := run_append_bytes 22 HOW0.out HXm.out HNC.out HL0.out (by simp)
    clear hlong hneg hbig
    go_wp2_with (refine Lib.wpList_append_run _ rfl _ _ 22 22 rfl _ _ rfl rfl v5 w5 hr5 ?_)
    have hob5 := ho5.bytesAt
    obtain ⟨a5, c5, rfl, hbt5⟩ := hob5
    have HWB0 := HB1.out.size
    have HB5 := Aside0.mk (HBm.out.grown hg5 (by simp; omega) (fun k e => by cases e; exact HB1.out.size))
    have HX5 := Aside0.mk (HX0.out.below HB5.out HLT0.out)
    have HOW5 := Aside0.mk ho5
    have HM5 := Aside0.mk hbt5
    have HBS5 : Aside0 (w1.heap.size ≤ w5.heap.size) := ⟨by have := hg5.size; simp at this; omega⟩
    have HMLT5 : Aside0 (∀ x, a5 = some x → 0 < len0 → x.block < w5.heap.size) := ⟨fun x hx hl => by subst hx; exact hbt5.lt hl⟩
    clear hr5 ho5 hg5 hbt5 HOW0 HBm HXm
    generalize w1.heap.size = b1 at *
    refine (rest_calls' (fun j => z0.getD j 0) a5 len0 c5 _ (HO0.out.below HB5.out HO0.out.lt) HZ.out (by have := HL.out; omega) HM5.out).mono ?_
    rintro e w6 ⟨rfl, hb⟩
    have HBa := Aside0.mk (HB5.out.trans (hb.mono HB5.out.size))
    have HXa := Aside0.mk (HX5.out.below hb (fun x hx hl => Nat.lt_of_lt_of_le (HLT0.out x hx hl) HB5.out.size))
    have HMa := Aside0.mk (HM5.out.below hb HMLT5.out)
    have HOWa := Aside0.mk (OwnB.kept (row := none) HOW5.out ⟨hb.os, hb.tape, hb.output, hb.size, fun k hk _ => hb.block k hk⟩ (fun k e => by cases e))
    have HBSa : Aside0 (b1 ≤ w6.heap.size) := ⟨Nat.le_trans HBS5.out hb.size⟩
    have HMLTa : Aside0 (∀ x, a5 = some x → 0 < len0 → x.block < w6.heap.size) := ⟨fun x hx hl => Nat.lt_of_lt_of_le (HMLT5.out x hx hl) hb.size⟩
    clear hb HB5 HX5 HM5 HOW5 HBS5 HMLT5
    have HN6 := Aside0.mk (Row.new w6 .u8 32 (fun _ => 0) 23)
    have HBb := Aside0.mk (HBa.out.alloc HBa.out.size (.cells (FR .u8 32 fun _ => 0) 23))
    have hqe := equal32
    have hsr := sameRow_self 32
    have hbs := beq_same (sN len0 (fun j => z0.getD j 0))
    have HVE : Aside0 (val 256 (fun j => if j < len0 then (fun j => z0.getD j 0) j else 0) (len0 + m1) = val 256 (fun j => z0.getD j 0) len0) := ⟨val_ext0 256 _ len0 (len0 + m1) (by omega)⟩
    go_wp2_with (refine step_storeG _ HN6.out info32 rfl rfl rfl rfl rfl ?_; intro w8 hs hr; have H6 := Aside0.mk (hr.drew); have HBd := Aside0.mk ((hs.bel _ _ HBa.out.size HBb.out).drew); have hub := (Below.refl w6.heap.size w6).alloc (Nat.le_refl _) (.cells (FR .u8 32 fun _ => 0) 23); have hub2 := (hs.bel _ _ (Nat.le_refl _) hub).drew; have HUB := Aside0.mk hub2; clear hs hr hub hub2)
    clear HN6 HBb
    have HX := Aside0.mk (HXa.out.below HUB.out (fun x hx hl => Nat.lt_of_lt_of_le (HLT0.out x hx hl) HBa.out.size))
    have HM := Aside0.mk (HMa.out.below HUB.out HMLTa.out)
    have HLT : Aside0 (∀ x, a0 = some x → 0 < len0 → x.block < w8.drew.heap.size) := ⟨fun x hx hl => Nat.lt_of_lt_of_le (Nat.lt_of_lt_of_le (HLT0.out x hx hl) HBa.out.size) HUB.out.size⟩
    have HMLT : Aside0 (∀ x, a5 = some x → 0 < len0 → x.block < w8.drew.heap.size) := ⟨fun x hx hl => Nat.lt_of_lt_of_le (HMLTa.out x hx hl) HUB.out.size⟩
    have HOW := Aside0.mk (OwnB.kept (row := none) HOWa.out ⟨HUB.out.os, HUB.out.tape, HUB.out.output, HUB.out.size, fun k hk _ => HUB.out.block k hk⟩ (fun k e => by cases e))
    have HBASE : Aside0 (b1 ≤ w8.drew.heap.size) := ⟨Nat.le_trans HBSa.out HUB.out.size⟩
    have HWB : Aside0 (w.heap.size ≤ b1) := ⟨HWB0⟩
    have HO6 := Aside0.mk (HO0.out.below HBd.out HO0.out.lt)
    have HNE : Aside0 (∀ k, (Value.slice a5 len0 c5).ownBlock = some k → k < w6.heap.size) := ⟨fun k e => (World.ownsRow.lt HOWa.out k e).2⟩
    clear HBa HXa HMa HOWa HBSa HMLTa HUB HX0
    generalize w6.heap.size = b6 at *
    have zlen : ∀ j, j < len0 + m1 → 0 ≤ (fun j => if j < len0 then (fun j => z0.getD j 0) j else 0) j ∧ (fun j => if j < len0 then (fun j => z0.getD j 0) j else 0) j < 256 := fun j hj => by
      dsimp only
      by_cases h : j < len0
      · rw [if_pos h]; exact HZ.out j h
      · rw [if_neg h]; omega
    refine start_ (n := 14) (S := (fun w' => Row w' b6 .u8 32 (dig 256 (val 256 (fun j => z0.getD j 0) len0 % LL)) 23)) (ds := []) #[false, false, false, false, false, false, false, false, false, false, false, false, false, false] (by kernel_rfl) rfl rfl H6.out (fun hHeld => ?_); refine with_tabW tabK7 bitsK7 (fun HT_ HW_ => ?_)
    generalize w8.drew = w9 at HX HLT HM HMLT H6 HOW HBASE HO6 HBd hHeld ⊢
    refine pure_ (i := 0) (N := some 25) (v := ?_) (a' := ?_) #[true, false, false, false, false, false, false, false, false, false, false, false, false, false] rfl rfl (any_of HT_.out (by kernel_rfl)) (fun _ _ _ h => h) (Or.inl ⟨by rfl, ?_⟩) ?_ ?_
    rotate_left
    · intro w'
      go_simp
      with_reducible rfl
    rotate_left
    · simp only [Act.put, List.setIfInBounds_toArray, List.set_cons_zero, List.set_cons_succ, i64_w, i32_w]
      rfl
    refine pure_ (i := 2) (N := some 27) (v := ?_) (a' := ?_) #[true, false, true, false, false, false, false, false, false, false, false, false, false, false] rfl rfl (any_of HT_.out (by kernel_rfl)) (fun _ _ _ h => h) (Or.inl ⟨by rfl, ?_⟩) ?_ ?_
    rotate_left
    · intro w'
      go_simp
      with_reducible rfl
    rotate_left
    · simp only [Act.put, List.setIfInBounds_toArray, List.set_cons_zero, List.set_cons_succ, i64_w, i32_w]
      rfl
    refine join_ (σ := Unit) 10 #[true, true, true, true, false, false, false, false, false, false, false, false, false, false] (fun _ => [(26, .string (sN len0 (fun j => z0.getD j 0))), (28, .string (sN len0 (fun j => z0.getD j 0)))]) (fun _ w' => w' = w9) ?_ ?_
    rotate_left
    · intro hJ
      refine two_ (i := 1) (j := 3) (Ni := some 26) (Nj := some 28) #[true, true, true, false, false, false, false, false, false, false, false, false, false, false] #[true, false, true, true, false, false, false, false, false, false, false, false, false, false] rfl rfl rfl rfl (by kernel_rfl) (by decide) (by decide) (fun K hK => ?_) (fun K hK => ?_)
      · refine event_step (by rfl) (v := .string (sN len0 (fun j => z0.getD j 0))) (w1 := w9) (by have hcv := HM.out.conv (cap := c5) HZ.out; first | (go_simp; done) | (go_simp; rfl)) ?_
        refine hK.out _ _ hHeld (fun hHeld => ?_)
        clear hK K
        refine norm_ (a' := ?_) ?_ ?_
        rotate_left
        · show Act.put _ (some 26) _ = _
          simp only [Act.put, List.setIfInBounds_toArray, List.set_cons_zero, List.set_cons_succ, i64_w, i32_w]
          rfl
        refine one_ (i := 3) (N := some 28) #[true, true, true, true, false, false, false, false, false, false, false, false, false, false] rfl rfl (one_of HT_.out (by kernel_rfl)) (by decide) (fun K hK => ?_)
        refine event_step (by rfl) (v := .string (sN len0 (fun j => z0.getD j 0))) (w1 := w9) (by have hcv := HX.out.conv (cap := cap0) HZ.out; first | (go_simp; done) | (go_simp; rfl)) ?_
        refine hK.out _ _ hHeld (fun hHeld => ?_)
        clear hK K
        refine norm_ (a' := ?_) ?_ ?_
        rotate_left
        · show Act.put _ (some 28) _ = _
          simp only [Act.put, List.setIfInBounds_toArray, List.set_cons_zero, List.set_cons_succ, i64_w, i32_w]
          rfl
        exact norm_ (by first | (simp only [putAll, Act.put, List.setIfInBounds_toArray, List.set_cons_zero, List.set_cons_succ]; done) | (simp only [putAll, Act.put, List.setIfInBounds_toArray, List.set_cons_zero, List.set_cons_succ]; rfl)) (hJ () _ rfl)
      · refine event_step (by rfl) (v := .string (sN len0 (fun j => z0.getD j 0))) (w1 := w9) (by have hcv := HX.out.conv (cap := cap0) HZ.out; first | (go_simp; done) | (go_simp; rfl)) ?_
        refine hK.out _ _ hHeld (fun hHeld => ?_)
        clear hK K
        refine norm_ (a' := ?_) ?_ ?_
        rotate_left
        · show Act.put _ (some 28) _ = _
          simp only [Act.put, List.setIfInBounds_toArray, List.set_cons_zero, List.set_cons_succ, i64_w, i32_w]
          rfl
        refine one_ (i := 1) (N := some 26) #[true, true, true, true, false, false, false, false, false, false, false, false, false, false] rfl rfl (one_of HT_.out (by kernel_rfl)) (by decide) (fun K hK => ?_)
        refine event_step (by rfl) (v := .string (sN len0 (fun j => z0.getD j 0))) (w1 := w9) (by have hcv := HM.out.conv (cap := c5) HZ.out; first | (go_simp; done) | (go_simp; rfl)) ?_
        refine hK.out _ _ hHeld (fun hHeld => ?_)
        clear hK K
        refine norm_ (a' := ?_) ?_ ?_
        rotate_left
        · show Act.put _ (some 26) _ = _
          simp only [Act.put, List.setIfInBounds_toArray, List.set_cons_zero, List.set_cons_succ, i64_w, i32_w]
          rfl
        exact norm_ (by first | (simp only [putAll, Act.put, List.setIfInBounds_toArray, List.set_cons_zero, List.set_cons_succ]; done) | (simp only [putAll, Act.put, List.setIfInBounds_toArray, List.set_cons_zero, List.set_cons_succ]; rfl)) (hJ () _ rfl)
    rintro _ _ rfl
    refine norm_ (a' := ?_) ?_ ?_
    rotate_left
    · simp only [putAll, Act.put, List.setIfInBounds_toArray, List.set_cons_zero, List.set_cons_succ]
      rfl
    refine pure_ (i := 4) (N := some 29) (v := ?_) (a' := ?_) #[true, true, true, true, true, false, false, false, false, false, false, false, false, false] rfl rfl (any_of HT_.out (by kernel_rfl)) (fun _ _ _ h => h) (Or.inl ⟨by rfl, ?_⟩) ?_ ?_
    rotate_left
    · intro w'
      go_simp
      with_reducible rfl
    rotate_left
    · simp only [Act.put, List.setIfInBounds_toArray, List.set_cons_zero, List.set_cons_succ, i64_w, i32_w]
      rfl
    refine pure_ (i := 5) (N := some 30) (v := ?_) (a' := ?_) #[true, true, true, true, true, true, false, false, false, false, false, false, false, false] rfl rfl (any_of HT_.out (by kernel_rfl)) (fun _ _ _ h => h) (Or.inl ⟨by rfl, ?_⟩) ?_ ?_
    rotate_left
    · intro w'
      go_simp
      with_reducible rfl
    rotate_left
    · simp only [Act.put, List.setIfInBounds_toArray, List.set_cons_zero, List.set_cons_succ, i64_w, i32_w]
      rfl
    refine pure_ (i := 6) (N := some 31) (v := ?_) (a' := ?_) #[true, true, true, true, true, true, true, false, false, false, false, false, false, false] rfl rfl (any_of HT_.out (by kernel_rfl)) (fun _ _ _ h => h) (Or.inl ⟨by rfl, ?_⟩) ?_ ?_
    rotate_left
    · intro w'
      go_simp
      with_reducible rfl
    rotate_left
    · simp only [Act.put, List.setIfInBounds_toArray, List.set_cons_zero, List.set_cons_succ, i64_w, i32_w]
      rfl
    refine pure_ (i := 7) (N := some 32) (v := ?_) (a' := ?_) #[true, true, true, true, true, true, true, true, false, false, false, false, false, false] rfl rfl (any_of HT_.out (by kernel_rfl)) (fun _ _ _ h => h) (Or.inl ⟨by rfl, ?_⟩) ?_ ?_
    rotate_left
    · intro w'
      go_simp
      with_reducible rfl
    rotate_left
    · simp only [Act.put, List.setIfInBounds_toArray, List.set_cons_zero, List.set_cons_succ, i64_w, i32_w]
      rfl
    refine take_ (i := 10) (N := some 35) (v := ?_) (a' := ?_) #[true, true, true, true, true, true, true, true, false, false, true, false, false, false] rfl rfl (take_ofW HT_.out HW_.out (by kernel_rfl)) (fun _ _ _ h => h) (Or.inl ⟨by rfl, ?_⟩) hHeld ?_ ?_
    rotate_left
    · intro w' hsw
      refine exec_load (x := .tmp 6) hsw Tryd.underlying23 info32 rfl ?_ ?_ <;> rfl
    rotate_left
    · simp only [Act.put, List.setIfInBounds_toArray, List.set_cons_zero, List.set_cons_succ, i64_w, i32_w]
      rfl
    refine one_ (i := 8) (N := some 33) #[true, true, true, true, true, true, true, true, true, false, true, false, false, false] rfl rfl (one_of HT_.out (by kernel_rfl)) (by decide) (fun K hK => ?_)
    rw [if_pos (by rfl)]
    obtain ⟨v7, w7, hr7, ho7, hg7⟩ := OwnB.zeros (len := len0) (z := (fun j => z0.getD j 0)) HOW.out 22 m1 (by have := HL.out; omega) HBASE.out
    refine Lib.wp_append_run _ (.tmp 31) (.tmp 32) 22 3 rfl _ _ rfl rfl v7 w7 hr7 ?_
    refine hK.out _ _ ((hg7.block b6 hHeld.lt (fun e => by have := HNE.out _ e.symm; omega)).trans hHeld) (fun hHeld => ?_)
    have HB7 := Aside0.mk (HBd.out.grown hg7 HBd.out.size (fun k e => Nat.le_trans HWB.out (World.ownsRow.lt HOW.out k e).1))
    obtain ⟨a7, c7, rfl, hbt⟩ := ho7.bytesAt
    have HBT := Aside0.mk hbt
    have HO7 := Aside0.mk (HO0.out.below HB7.out HO0.out.lt)
    clear hK K hr7 ho7 hg7 hbt
    refine norm_ (a' := ?_) ?_ ?_
    rotate_left
    · show Act.put _ (some 33) _ = _
      simp only [Act.put, List.setIfInBounds_toArray, List.set_cons_zero, List.set_cons_succ, i64_w, i32_w]
      rfl
    refine one_ (i := 9) (N := some 34) #[true, true, true, true, true, true, true, true, true, true, true, false, false, false] rfl rfl (one_of HT_.out (by kernel_rfl)) (by decide) (fun K hK => ?_)
    refine goes_ Tryd.func9 rfl rfl #[.slice a7 (len0 + m1) c7] rfl rfl rfl (by simp only [List.map_toArray, List.map_cons, List.map_nil]; rfl) ((rest_calls' (fun j => if j < len0 then (fun j => z0.getD j 0) j else 0) a7 (len0 + m1) c7 _ HO7.out zlen (by have := HL.out; omega) HBT.out).mono ?_)
    rintro e w10 ⟨rfl, hb⟩
    have HB8 := Aside0.mk (HB7.out.trans (hb.mono HB7.out.size))
    refine ⟨_, rfl, hK.out _ _ (hHeld.below hb hHeld.lt) (fun hHeld => ?_)⟩
    clear hK K hb
    rw [HVE.out]
    refine norm_ (a' := ?_) ?_ ?_
    rotate_left
    · show Act.put _ (some 34) _ = _
      simp only [Act.put, List.setIfInBounds_toArray, List.set_cons_zero, List.set_cons_succ, i64_w, i32_w]
      rfl
    refine pure_ (i := 11) (N := some 36) (v := ?_) (a' := ?_) #[true, true, true, true, true, true, true, true, true, true, true, true, false, false] rfl rfl (any_of HT_.out (by kernel_rfl)) (fun _ _ _ h => h) (Or.inl ⟨by rfl, ?_⟩) ?_ ?_
    rotate_left
    · intro w'
      go_simp
      with_reducible rfl
    rotate_left
    · simp only [Act.put, List.setIfInBounds_toArray, List.set_cons_zero, List.set_cons_succ, i64_w, i32_w]
      rfl
    refine pure_ (i := 12) (N := some 37) (v := ?_) (a' := ?_) #[true, true, true, true, true, true, true, true, true, true, true, true, true, false] rfl rfl (any_of HT_.out (by kernel_rfl)) (fun _ _ _ h => h) (Or.inl ⟨by rfl, ?_⟩) ?_ ?_
    rotate_left
    · intro w'
      go_simp
      with_reducible rfl
    rotate_left
    · simp only [Act.put, List.setIfInBounds_toArray, List.set_cons_zero, List.set_cons_succ, i64_w, i32_w]
      rfl
    refine pure_ (i := 13) (N := some 4) (v := ?_) (a' := ?_) #[true, true, true, true, true, true, true, true, true, true, true, true, true, true] rfl rfl (any_of HT_.out (by kernel_rfl)) (fun _ _ _ h => h) (Or.inl ⟨by rfl, ?_⟩) ?_ ?_
    rotate_left
    · intro w'
      go_simp
      with_reducible rfl
    rotate_left
    · simp only [Act.put, List.setIfInBounds_toArray, List.set_cons_zero, List.set_cons_succ, i64_w, i32_w]
      rfl
    refine done_ (done_of HT_.out (by kernel_rfl)) ?_
    clear HT_ HW_ hqe hsr hbs
    go_wp2_with fail
    go_ret
    exact ⟨rfl, HB8.out⟩
end Go.Proofs.YtchokhakdnjfmaaDoor.P
