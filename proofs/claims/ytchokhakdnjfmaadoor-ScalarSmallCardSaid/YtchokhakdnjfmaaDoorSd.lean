/- scalar.Rest, by its walk. -/
import Derived.Test.YtchokhakdnjfmaaDoorSc
import Derived.Test.YtchokhakdnjfmaaDoorRf
namespace Go.Proofs.YtchokhakdnjfmaaDoor.P
set_option linter.unusedVariables false
set_option linter.unusedSimpArgs false
open Go.RowKit Go.Shelf
attribute [local go_sem] Oper.semAt_some setCell_drewN
/-- The rest behind some bytes, the highest first. -/
def rN (pre : List IB) : Int := pre.foldl (fun r x => (256 * r + x.2.1) % LL) 0
theorem rN_snoc (pre : List IB) (x : IB) : rN (pre ++ [x]) = (256 * rN pre + x.2.1) % LL := by simp [rN]
theorem rN_b (pre : List IB) : 0 ≤ rN pre ∧ rN pre < LL := by
  rcases List.eq_nil_or_concat pre with rfl | ⟨p, x, rfl⟩
  · unfold rN LL; simp
  · rw [List.concat_eq_append, rN_snoc]
    unfold LL
    omega
theorem val_succ_low (B : Int) (f : Nat → Int) : ∀ n, val B f (n + 1) = f 0 + B * val B (fun j => f (j + 1)) n
  | 0 => by simp [val]
  | n + 1 => by
    rw [val, val_succ_low B f n, val, Int.pow_succ]
    generalize B ^ n = q
    generalize val B (fun j => f (j + 1)) n = v
    grind
theorem rN_bk (z : Nat → {x : Int // 0 ≤ x ∧ x < 256}) (len : Nat) : ∀ k, k ≤ len → rN (bkU z len k) = val 256 (fun j => (z (len - k + j)).1) k % LL
  | 0, _ => by simp [rN, bkU, val]
  | k + 1, h => by
    have ih := rN_bk z len k (by omega)
    rw [bkU, rN_snoc, ih, val_succ_low]
    have e : (fun j => (z (len - (k + 1) + (j + 1))).1) = fun j => (z (len - k + j)).1 := by
      funext j; rw [show len - (k + 1) + (j + 1) = len - k + j by omega]
    rw [e, show len - (k + 1) + 0 = len - 1 - k by omega]
    generalize val 256 (fun j => (z (len - k + j)).1) k = v
    show (256 * (v % LL) + (z (len - 1 - k)).1) % LL = ((z (len - 1 - k)).1 + 256 * v) % LL
    rw [Int.add_comm, Int.add_emod, Int.mul_emod, Int.emod_emod_of_dvd _ (Int.dvd_refl LL), ← Int.mul_emod, ← Int.add_emod]
theorem info32 : (Tryd.prog.info? 23).map (·.size) = some 32 := by kernel_rfl
/-- One byte of a number in limbs. -/
theorem dig_limb (V : Int) (i : Nat) : dig 18446744073709551616 V (i / 8) / 2 ^ (8 * (i % 8)) % 256 = dig 256 V i := by
  have e : i = 8 * (i / 8) + i % 8 := by omega
  have hr : i % 8 < 8 := Nat.mod_lt _ (by omega)
  unfold dig
  have e2 : (256 : Int) ^ i = 18446744073709551616 ^ (i / 8) * 256 ^ (i % 8) := by
    conv => lhs; rw [e]
    rw [Int.pow_add, Int.pow_mul]; rfl
  rw [e2, ← Int.ediv_ediv_of_nonneg (Int.le_of_lt (pow_pos' 18446744073709551616 (by omega) (i / 8)))]
  generalize V / 18446744073709551616 ^ (i / 8) = x
  generalize i % 8 = r at *
  have hc : r = 0 ∨ r = 1 ∨ r = 2 ∨ r = 3 ∨ r = 4 ∨ r = 5 ∨ r = 6 ∨ r = 7 := by omega
  rcases hc with rfl | rfl | rfl | rfl | rfl | rfl | rfl | rfl <;> (simp only [Nat.mul_zero, Nat.reduceMul, Int.reducePow, Int.reducePow]; omega)
def RestRel (w : World) (D g6 : Nat) (V : Int) (v15 : Value) (wr : World) : Prop :=
  ∃ (i : Nat), i ≤ 32 ∧ v15 = .int .i64 (i : Int) ∧ Below w.heap.size w wr ∧ Row wr w.heap.size .u8 32 (fun _ => 0) 23 ∧ Row wr (w.heap.size + 1) .u64 5 (dig 18446744073709551616 V) 41 ∧ Row wr g6 .u8 32 (fun j => if j < i then dig 256 V j else 0) 23 ∧ wr.heap[D]? = some (.deferred (some []))
set_option maxRecDepth 100000 in
set_option maxHeartbeats 4000000 in
theorem rest_calls (z : Nat → Int) (a : Option Addr) (len cap : Nat) (w : World) (ho : Ord w) (hz : ∀ j, 0 ≤ z j ∧ z j < 256) (hreach : len ≤ 140737488351232) (hI : BytesAt w a len z) :
    Calls Tryd.prog 9 #[.slice a len cap] w fun e w' => e = .returned (.agg (FR .u8 32 (dig 256 (val 256 z len % LL)))) ∧ Below w.heap.size w w' := by
  refine (callsIn_wide (n := 5)).1 ?_
  have h1 : 1 ≤ 5 := by omega
  have HO := Aside0.mk ho
  have HIlt : Aside0 (∀ x, a = some x → 0 < len → x.block < w.heap.size) := ⟨fun x hx hl => by subst hx; exact hI.lt hl⟩
  obtain ⟨Z, hZ⟩ : ∃ Z : Nat → {x : Int // 0 ≤ x ∧ x < 256}, ∀ j, (Z j).1 = z j := ⟨fun j => ⟨z j, hz j⟩, fun _ => rfl⟩
  have hZe : (fun j => (Z j).1) = z := funext hZ
  have HI : Aside0 (BytesAt w a len fun j => (Z j).1) := ⟨by rw [hZe]; exact hI⟩
  have HV : Aside0 (rN (bkU Z len len) = val 256 z len % LL) := ⟨by
    rw [rN_bk Z len len (Nat.le_refl _), Nat.sub_self]
    simp only [Nat.zero_add, hZ]⟩
  clear ho hI hZ hZe hz
  refine callsIn_of_wp_marks Tryd.func9 rfl trivial ?_ rfl
  simp only [Tryd.ntmps9, List.size_toArray, List.length_cons, List.length_nil, Nat.reduceAdd, Nat.reduceSub, Array.replicate_succ, Array.replicate_zero, List.push_toArray, List.append_toArray, List.nil_append, List.cons_append]
  gi_wp2_with fail
  refine ⟨trivial, ?_⟩
  refine (back_in Fence.wide 4 trivial rfl _ _ _ _).mono ?_
  rintro e w' ⟨rfl, rfl⟩
  gi_wp2_with fail
  have HB0 := Aside0.mk (bel_three w (.cells (FR .u8 32 fun _ => 0) 23) (.cells (FR .u64 5 fun _ => 0) 41) (.cells #[.slice a len cap] 22))
  have HR0 := Aside0.mk (((Row.new w .u8 32 (fun _ => 0) 23).alloc (.cells (FR .u64 5 fun _ => 0) 41)).alloc (.cells #[.slice a len cap] 22))
  have HA0 := Aside0.mk ((Row.new (w.alloc (.cells (FR .u8 32 fun _ => 0) 23)) .u64 5 (fun _ => 0) 41).alloc (.cells #[.slice a len cap] 22))
  have bN := Boxed.new ((w.alloc (.cells (FR .u8 32 fun _ => 0) 23)).alloc (.cells (FR .u64 5 fun _ => 0) 41)) 22 (.slice a len cap)
  have hz1 : (w.alloc (.cells (FR .u8 32 fun _ => 0) 23)).heap.size = w.heap.size + 1 := by simp
  have hz2 : ((w.alloc (.cells (FR .u8 32 fun _ => 0) 23)).alloc (.cells (FR .u64 5 fun _ => 0) 41)).heap.size = w.heap.size + 1 + 1 := by simp
  rw [hz1] at HA0
  rw [hz2] at bN
  have HBOX := Aside0.mk bN.cell
  have HOs := Aside0.mk (HO.out.below HB0.out HO.out.lt)
  have HIs := Aside0.mk (HI.out.below HB0.out HIlt.out)
  have hsz : (((w.alloc (.cells (FR .u8 32 fun _ => 0) 23)).alloc (.cells (FR .u64 5 fun _ => 0) 41)).alloc (.cells #[.slice a len cap] 22)).heap.size = w.heap.size + 1 + 1 + 1 := by simp
  clear bN hz1 hz2
  show Code.wpIn _ _ _ _ _ _ (((w.alloc (.cells (FR .u8 32 fun _ => 0) 23)).alloc (.cells (FR .u64 5 fun _ => 0) 41)).alloc (.cells #[.slice a len cap] 22))
  generalize ((w.alloc (.cells (FR .u8 32 fun _ => 0) 23)).alloc (.cells (FR .u64 5 fun _ => 0) 41)).alloc (.cells #[.slice a len cap] 22) = w3 at *
  refine wpIn_rangeFunc_ownG rfl h1 (gf := 23) (lb := #[.pointer (some ⟨w.heap.size + 1 + 1, 0, none⟩)]) rfl trivial (enters_of Tryd.func23 (by kernel_rfl) rfl)
    (back_stops Fence.wide 4 trivial rfl (by omega) (w.heap.size + 1 + 1) w.heap.size len cap a Z hreach _ (by rw [hsz]; omega) (by rw [hsz]; omega) HBOX.out HIs.out HIlt.out) KpB.trans (KpB.b (by rw [hsz]; omega) (by rw [hsz]; omega)) (Below.refl _ _) (fun _ => rfl)
    (fun pre W => (Row W w.heap.size .u8 32 (fun _ => 0) 23 ∧ Row W (w.heap.size + 1) .u64 5 (dig 18446744073709551616 (rN pre)) 41 ∧ W.cell? ⟨w.heap.size + 1 + 1, 0, none⟩ = some (.slice a len cap)) ∧ Below w.heap.size w W)
    (fun _ _ _ => False)
    (OwnFrom.and (Own.from (fun s A B row hs hg hr => ⟨hs.1.kept hg hr, hs.2.1.kept hg hr, cell_kept hs.2.2 hg hr⟩) _) (ownFrom_below (Nat.le_refl _) (by rw [hsz]; omega)))
    (fun _ _ _ _ _ hs _ _ => hs)
    ⟨⟨HR0.out, row_eq HA0.out (fun j hj => by simp [rN, dig]), HBOX.out⟩, HB0.out⟩
    (fun x => { tmps := #[.slice a len cap, undef, .pointer (some ⟨w.heap.size, 0, none⟩), .pointer (some ⟨w.heap.size + 1, 0, none⟩), undef, .int .u8 x.2.1, undef, undef, .slice a len cap, .func (.func 23) #[] #[.pointer (some ⟨w.heap.size + 1 + 1, 0, none⟩)], .int .i64 (x.1 : Int), .int .u8 x.2.1, undef, undef, undef, undef, undef, undef, undef, undef, undef, undef, undef, undef, undef, undef, undef, undef, undef, undef, undef], defers := [] }) ?assign ?body ?done ?stop
  case assign =>
    intro l x W K hK
    dsimp only [encIB]
    gi_wp2
    exact hK
  case body =>
    rintro l pre x W ⟨⟨hr, hn, hbox⟩, hB⟩ _
    have hbl := block_lt_of_cell hbox
    have HX9 := Aside0.mk hbox
    have HR := Aside0.mk hr
    have HN := Aside0.mk hn
    have HB := Aside0.mk hB
    have HOw := Aside0.mk (HO.out.below hB HO.out.lt)
    have HX := Aside0.mk x.2.2
    have HD : Aside0 (V5 (dig 18446744073709551616 (rN pre)) = rN pre) := ⟨by
      have := rN_b pre
      unfold V5
      rw [val_dig _ (by omega), Int.emod_eq_of_lt this.1 (by unfold LL at this; omega)]⟩
    clear hr hn hbox hB HR0 HA0 HB0 HBOX HOs HIs
    gi_wp2_with (refine stepIn_load HN.out Tryd.underlying41 infoNum rfl rfl rfl rfl ?_)
    refine ⟨trivial, ?_⟩
    refine (CallsIn.inRound l (callsIn_wide.2 (fed_calls _ _ _ HOw.out (fun j _ => dig_b _ (by omega) _ j) (by rw [HD.out]; exact (rN_b pre).2) HX.out))).mono ?_
    rintro e w1 ⟨rfl, hb⟩
    have HN1 := Aside0.mk (HN.out.below hb HN.out.lt)
    have HB1 := Aside0.mk hb
    have HR1 := Aside0.mk (HR.out.below hb HR.out.lt)
    clear hb
    gi_wp2_with (refine stepIn_storeG _ HN1.out infoNum rfl rfl rfl rfl rfl ?_; intro w2 hs hr2; have HS2 := Aside0.mk hs; have HN2 := Aside0.mk hr2; clear hs hr2)
    have hle := HB.out.size
    refine ⟨(KeepsFrom.of_below HB1.out).trans (KeepsFrom.of_stored HS2.out HN1.out), ⟨HS2.out.bel _ _ (by omega) (HB1.out.mono hle), (HS2.out.other _ (by omega)).trans (HB1.out.block _ hbl)⟩, ⟨HR1.out.stored HS2.out (by omega), ?_, (World.cell?_of_block ((HS2.out.other _ (show w.heap.size + 1 + 1 ≠ w.heap.size + 1 by omega)).trans (HB1.out.block _ hbl))).trans HX9.out⟩, HS2.out.bel _ _ (by omega) (HB.out.trans (HB1.out.mono hle))⟩
    have e : (256 * V5 (fun j => dig 18446744073709551616 (rN pre) j) + x.2.1) % LL = rN (pre ++ [x]) := by
      rw [rN_snoc]
      show (256 * V5 (dig 18446744073709551616 (rN pre)) + x.2.1) % LL = _
      rw [HD.out]
    rw [← e]
    exact HN2.out
  case done =>
    rintro D ys W hD rfl ⟨⟨hr, hn, hbox⟩, hB⟩ hK
    have hVb := rN_b (bkU Z len len)
    generalize rN (bkU Z len len) = V at *
    have hle := hn.lt
    have hDW := (Array.getElem?_eq_some_iff.1 hK).1
    have HRa := Aside0.mk (hr.alloc (.cells (FR .u8 32 fun _ => 0) 23))
    have HNa := Aside0.mk (hn.alloc (.cells (FR .u8 32 fun _ => 0) 23))
    have HGa := Aside0.mk (Row.new W .u8 32 (fun _ => 0) 23)
    have HBa := Aside0.mk (hB.alloc (show w.heap.size ≤ W.heap.size by omega) (.cells (FR .u8 32 fun _ => 0) 23))
    have HKa := Aside0.mk ((Below.heap_alloc W (.cells (FR .u8 32 fun _ => 0) 23) D hDW).trans hK)
    clear hr hn hB hK hbox HR0 HA0 HB0 HBOX HOs HIs
    gi_wp2
    gi_loopw [15] (fun v15 wr => RestRel w D W.heap.size V v15 wr) (fun v _ => 32 - (intOf v).toNat)
    case atStart => exact ⟨0, by omega, rfl, HBa.out, HRa.out, HNa.out, row_eq HGa.out (fun j hj => by rw [if_neg (by omega)]), HKa.out⟩
    case round =>
      obtain ⟨i, hi, rfl, hB, hr, hn, hg, hK⟩ := hrel
      have HB := Aside0.mk hB
      have HR := Aside0.mk hr
      have HN := Aside0.mk hn
      have HG := Aside0.mk hg
      have HK := Aside0.mk hK
      have hgl := hg.lt
      clear HRa HNa HGa HBa HKa
      rcases Nat.lt_or_ge i 32 with h32 | h32
      · have k0 := hn.cell (i / 8) (by omega)
        have f0 := hg.fro i
        have k1 := hg.cell i h32
        have hlt : ((i : Int) < 32) = True := eq_true (by omega)
        have hd := dig_limb V i
        have HS := Aside0.mk (part_step (a := ⟨0, 0, none⟩) hg h32)
        clear hB hr hn hg hK
        gi_wp2
        exact ⟨⟨i + 1, by omega, rfl, bel_set HB.out _ _ (show w.heap.size ≤ W.heap.size by omega), HR.out.other _ _ (show w.heap.size ≠ W.heap.size by omega), HN.out.other _ _ (show w.heap.size + 1 ≠ W.heap.size by omega), HS.out, (heap_setCell_other _ _ _ _ (show D ≠ W.heap.size by omega)).trans HK.out⟩, meas_up 32 i h32⟩
      · obtain rfl : i = 32 := by omega
        have HM := Aside0.mk (row_eq hg (fun j hj => if_pos hj))
        clear hB hr hn hg hK
        gi_wp2_with (first | refine stepIn_load HM.out Tryd.underlying23 info32 rfl rfl rfl rfl ?_ | (refine stepIn_storeG (dig 256 V) HR.out info32 rfl rfl rfl rfl rfl ?_; intro w4 hs hr4; have HS4 := Aside0.mk hs; have HR4 := Aside0.mk hr4; clear hs hr4))
        have hK4 := (HS4.out.other D (by omega)).trans HK.out
        refine ⟨by simp, .inl ⟨_, _, rfl, run_takeDeferred hK4, ?_⟩⟩
        have hr5 := HR4.out.kept (grownBy_putObj' _ D (.deferred none)) (fun r e => by cases e; exact ⟨_, hK4, rfl⟩)
        refine ⟨_, row_results rfl hr5 rfl Tryd.underlying23 rfl info32, by rw [← HV.out], (HS4.out.bel _ _ (Nat.le_refl _) HB.out).trans (belowK_b (w := w) (Nat.le_refl _) _ D _ _ (by omega) hK4 rfl rfl)⟩
  case stop =>
    rintro D c pre W _ _ h _
    exact h.elim
end Go.Proofs.YtchokhakdnjfmaaDoor.P
