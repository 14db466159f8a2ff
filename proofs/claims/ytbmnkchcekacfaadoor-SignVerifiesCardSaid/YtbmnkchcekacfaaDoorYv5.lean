/- Merged of the texts: Sd, St, Sf, Sg, Eq, Ow, Ga, Gb, Gc, Ho, Gd, Ge, Gf, Gg, Gh, Gi, Gj, Ix, Iy, El, Se, Ha, Hb, He, Sh, Si (trim.py). -/
import Derived.Laws.AppendOwn
import Derived.Lib.LaidTab
import Derived.LaidMore
import Derived.Stop.LaidErr
import Derived.Test.YtbmnkchcekacfaaDoorRows
import Derived.Deep.AppendSrc
import Derived.Deep.RegionHeld3
import Derived.BigQuiet
import Derived.Laws.CopyRow
import Derived.Laws.CopyOwn
import Derived.Test.YtbmnkchcekacfaaDoorYv4
section
namespace Go.Proofs.YtbmnkchcekacfaaDoor.P
set_option linter.unusedVariables false
set_option linter.unusedSimpArgs false
open Go.RowKit Go.Shelf
attribute [local go_sem] Oper.semAt_some setCell_drewN
def rN (pre : List IB) : Int := pre.foldl (fun r x => (256 * r + x.2.1) % LL) 0
theorem rN_snoc (pre : List IB) (x : IB) : rN (pre ++ [x]) = (256 * rN pre + x.2.1) % LL := by simp [rN]
theorem rN_b (pre : List IB) : 0 ≤ rN pre ∧ rN pre < LL := by
  rcases List.eq_nil_or_concat pre with rfl | ⟨p, x, rfl⟩
  · unfold rN LL; simp
  · rw [List.concat_eq_append, rN_snoc]
    unfold LL
    omega
theorem val_succ_low (B : Int) (f : Nat → Int) : ∀ n, val B f (n + 1) = f 0 + B * val B (fun j => f (j + 1)) n
  | 0 => by simp [val]
  | n + 1 => by
    rw [val, val_succ_low B f n, val, Int.pow_succ]
    generalize B ^ n = q
    generalize val B (fun j => f (j + 1)) n = v
    grind
theorem rN_bk (z : Nat → {x : Int // 0 ≤ x ∧ x < 256}) (len : Nat) : ∀ k, k ≤ len → rN (bkU z len k) = val 256 (fun j => (z (len - k + j)).1) k % LL
  | 0, _ => by simp [rN, bkU, val]
  | k + 1, h => by
    have ih := rN_bk z len k (by omega)
    rw [bkU, rN_snoc, ih, val_succ_low]
    have e : (fun j => (z (len - (k + 1) + (j + 1))).1) = fun j => (z (len - k + j)).1 := by
      funext j; rw [show len - (k + 1) + (j + 1) = len - k + j by omega]
    rw [e, show len - (k + 1) + 0 = len - 1 - k by omega]
    generalize val 256 (fun j => (z (len - k + j)).1) k = v
    show (256 * (v % LL) + (z (len - 1 - k)).1) % LL = ((z (len - 1 - k)).1 + 256 * v) % LL
    rw [Int.add_comm, Int.add_emod, Int.mul_emod, Int.emod_emod_of_dvd _ (Int.dvd_refl LL), ← Int.mul_emod, ← Int.add_emod]
theorem info32 : (Tryd.prog.info? 22).map (·.size) = some 32 := by kernel_rfl
theorem dig_limb (V : Int) (i : Nat) : dig 18446744073709551616 V (i / 8) / 2 ^ (8 * (i % 8)) % 256 = dig 256 V i := by
  have e : i = 8 * (i / 8) + i % 8 := by omega
  have hr : i % 8 < 8 := Nat.mod_lt _ (by omega)
  unfold dig
  have e2 : (256 : Int) ^ i = 18446744073709551616 ^ (i / 8) * 256 ^ (i % 8) := by
    conv => lhs; rw [e]
    rw [Int.pow_add, Int.pow_mul]; rfl
  rw [e2, ← Int.ediv_ediv_of_nonneg (Int.le_of_lt (pow_pos' 18446744073709551616 (by omega) (i / 8)))]
  generalize V / 18446744073709551616 ^ (i / 8) = x
  generalize i % 8 = r at *
  have hc : r = 0 ∨ r = 1 ∨ r = 2 ∨ r = 3 ∨ r = 4 ∨ r = 5 ∨ r = 6 ∨ r = 7 := by omega
  rcases hc with rfl | rfl | rfl | rfl | rfl | rfl | rfl | rfl <;> (simp only [Nat.mul_zero, Nat.reduceMul, Int.reducePow, Int.reducePow]; omega)
def RestRel (w : World) (D g6 : Nat) (V : Int) (v15 : Value) (wr : World) : Prop :=
  ∃ (i : Nat), i ≤ 32 ∧ v15 = .int .i64 (i : Int) ∧ Below w.heap.size w wr ∧ Row wr w.heap.size .u8 32 (fun _ => 0) 22 ∧ Row wr (w.heap.size + 1) .u64 5 (dig 18446744073709551616 V) 96 ∧ Row wr g6 .u8 32 (fun j => if j < i then dig 256 V j else 0) 22 ∧ wr.heap[D]? = some (.deferred (some []))
set_option maxRecDepth 100000 in
set_option maxHeartbeats 4000000 in
theorem rest_calls (z : Nat → Int) (a : Option Addr) (len cap : Nat) (w : World) (ho : Ord w) (hz : ∀ j, 0 ≤ z j ∧ z j < 256) (hreach : len ≤ 140737488351232) (hI : BytesAt w a len z) :
    Calls Tryd.prog 35 #[.slice a len cap] w fun e w' => e = .returned (.agg (FR .u8 32 (dig 256 (val 256 z len % LL)))) ∧ Below w.heap.size w w' := by
  refine (callsIn_wide (n := 5)).1 ?_
  have h1 : 1 ≤ 5 := by omega
  have HO := Aside0.mk ho
  have HIlt : Aside0 (∀ x, a = some x → 0 < len → x.block < w.heap.size) := ⟨fun x hx hl => by subst hx; exact hI.lt hl⟩
  obtain ⟨Z, hZ⟩ : ∃ Z : Nat → {x : Int // 0 ≤ x ∧ x < 256}, ∀ j, (Z j).1 = z j := ⟨fun j => ⟨z j, hz j⟩, fun _ => rfl⟩
  have hZe : (fun j => (Z j).1) = z := funext hZ
  have HI : Aside0 (BytesAt w a len fun j => (Z j).1) := ⟨by rw [hZe]; exact hI⟩
  have HV : Aside0 (rN (bkU Z len len) = val 256 z len % LL) := ⟨by
    rw [rN_bk Z len len (Nat.le_refl _), Nat.sub_self]
    simp only [Nat.zero_add, hZ]⟩
  clear ho hI hZ hZe hz
  refine callsIn_of_wp_marks Tryd.func35 rfl trivial ?_ rfl
  simp only [Tryd.ntmps35, List.size_toArray, List.length_cons, List.length_nil, Nat.reduceAdd, Nat.reduceSub, Array.replicate_succ, Array.replicate_zero, List.push_toArray, List.append_toArray, List.nil_append, List.cons_append]
  gi_wp2_with fail
  refine ⟨trivial, ?_⟩
  refine (back_in Fence.wide 4 trivial rfl _ _ _ _).mono ?_
  rintro e w' ⟨rfl, rfl⟩
  gi_wp2_with fail
  have HB0 := Aside0.mk (bel_three w (.cells (FR .u8 32 fun _ => 0) 22) (.cells (FR .u64 5 fun _ => 0) 96) (.cells #[.slice a len cap] 25))
  have HR0 := Aside0.mk (((Row.new w .u8 32 (fun _ => 0) 22).alloc (.cells (FR .u64 5 fun _ => 0) 96)).alloc (.cells #[.slice a len cap] 25))
  have HA0 := Aside0.mk ((Row.new (w.alloc (.cells (FR .u8 32 fun _ => 0) 22)) .u64 5 (fun _ => 0) 96).alloc (.cells #[.slice a len cap] 25))
  have bN := Boxed.new ((w.alloc (.cells (FR .u8 32 fun _ => 0) 22)).alloc (.cells (FR .u64 5 fun _ => 0) 96)) 25 (.slice a len cap)
  have hz1 : (w.alloc (.cells (FR .u8 32 fun _ => 0) 22)).heap.size = w.heap.size + 1 := by simp
  have hz2 : ((w.alloc (.cells (FR .u8 32 fun _ => 0) 22)).alloc (.cells (FR .u64 5 fun _ => 0) 96)).heap.size = w.heap.size + 1 + 1 := by simp
  rw [hz1] at HA0
  rw [hz2] at bN
  have HBOX := Aside0.mk bN.cell
  have HOs := Aside0.mk (HO.out.below HB0.out HO.out.lt)
  have HIs := Aside0.mk (HI.out.below HB0.out HIlt.out)
  have hsz : (((w.alloc (.cells (FR .u8 32 fun _ => 0) 22)).alloc (.cells (FR .u64 5 fun _ => 0) 96)).alloc (.cells #[.slice a len cap] 25)).heap.size = w.heap.size + 1 + 1 + 1 := by simp
  clear bN hz1 hz2
  show Code.wpIn _ _ _ _ _ _ (((w.alloc (.cells (FR .u8 32 fun _ => 0) 22)).alloc (.cells (FR .u64 5 fun _ => 0) 96)).alloc (.cells #[.slice a len cap] 25))
  generalize ((w.alloc (.cells (FR .u8 32 fun _ => 0) 22)).alloc (.cells (FR .u64 5 fun _ => 0) 96)).alloc (.cells #[.slice a len cap] 25) = w3 at *
  refine wpIn_rangeFunc_ownG rfl h1 (gf := 84) (lb := #[.pointer (some ⟨w.heap.size + 1 + 1, 0, none⟩)]) rfl trivial (enters_of Tryd.func84 (by kernel_rfl) rfl)
    (back_stops Fence.wide 4 trivial rfl (by omega) (w.heap.size + 1 + 1) w.heap.size len cap a Z hreach _ (by rw [hsz]; omega) (by rw [hsz]; omega) HBOX.out HIs.out HIlt.out) KpB.trans (KpB.b (by rw [hsz]; omega) (by rw [hsz]; omega)) (Below.refl _ _) (fun _ => rfl)
    (fun pre W => (Row W w.heap.size .u8 32 (fun _ => 0) 22 ∧ Row W (w.heap.size + 1) .u64 5 (dig 18446744073709551616 (rN pre)) 96 ∧ W.cell? ⟨w.heap.size + 1 + 1, 0, none⟩ = some (.slice a len cap)) ∧ Below w.heap.size w W)
    (fun _ _ _ => False)
    (OwnFrom.and (Own.from (fun s A B row hs hg hr => ⟨hs.1.kept hg hr, hs.2.1.kept hg hr, cell_kept hs.2.2 hg hr⟩) _) (ownFrom_below (Nat.le_refl _) (by rw [hsz]; omega)))
    (fun _ _ _ _ _ hs _ _ => hs)
    ⟨⟨HR0.out, row_eq HA0.out (fun j hj => by simp [rN, dig]), HBOX.out⟩, HB0.out⟩
    (fun x => { tmps := #[.slice a len cap, undef, .pointer (some ⟨w.heap.size, 0, none⟩), .pointer (some ⟨w.heap.size + 1, 0, none⟩), undef, .int .u8 x.2.1, undef, undef, .slice a len cap, .func (.func 84) #[] #[.pointer (some ⟨w.heap.size + 1 + 1, 0, none⟩)], .int .i64 (x.1 : Int), .int .u8 x.2.1, undef, undef, undef, undef, undef, undef, undef, undef, undef, undef, undef, undef, undef, undef, undef, undef, undef, undef, undef], defers := [] }) ?assign ?body ?done ?stop
  case assign =>
    intro l x W K hK
    dsimp only [encIB]
    gi_wp2
    exact hK
  case body =>
    rintro l pre x W ⟨⟨hr, hn, hbox⟩, hB⟩ _
    have hbl := block_lt_of_cell hbox
    have HX9 := Aside0.mk hbox
    have HR := Aside0.mk hr
    have HN := Aside0.mk hn
    have HB := Aside0.mk hB
    have HOw := Aside0.mk (HO.out.below hB HO.out.lt)
    have HX := Aside0.mk x.2.2
    have HD : Aside0 (V5 (dig 18446744073709551616 (rN pre)) = rN pre) := ⟨by
      have := rN_b pre
      unfold V5
      rw [val_dig _ (by omega), Int.emod_eq_of_lt this.1 (by unfold LL at this; omega)]⟩
    clear hr hn hbox hB HR0 HA0 HB0 HBOX HOs HIs
    gi_wp2_with (refine stepIn_load HN.out Tryd.underlying96 infoNum rfl rfl rfl rfl ?_)
    refine ⟨trivial, ?_⟩
    refine (CallsIn.inRound l (callsIn_wide.2 (fed_calls _ _ _ HOw.out (fun j _ => dig_b _ (by omega) _ j) (by rw [HD.out]; exact (rN_b pre).2) HX.out))).mono ?_
    rintro e w1 ⟨rfl, hb⟩
    have HN1 := Aside0.mk (HN.out.below hb HN.out.lt)
    have HB1 := Aside0.mk hb
    have HR1 := Aside0.mk (HR.out.below hb HR.out.lt)
    clear hb
    gi_wp2_with (refine stepIn_storeG _ HN1.out infoNum rfl rfl rfl rfl rfl ?_; intro w2 hs hr2; have HS2 := Aside0.mk hs; have HN2 := Aside0.mk hr2; clear hs hr2)
    have hle := HB.out.size
    refine ⟨(KeepsFrom.of_below HB1.out).trans (KeepsFrom.of_stored HS2.out HN1.out), ⟨HS2.out.bel _ _ (by omega) (HB1.out.mono hle), (HS2.out.other _ (by omega)).trans (HB1.out.block _ hbl)⟩, ⟨HR1.out.stored HS2.out (by omega), ?_, (World.cell?_of_block ((HS2.out.other _ (show w.heap.size + 1 + 1 ≠ w.heap.size + 1 by omega)).trans (HB1.out.block _ hbl))).trans HX9.out⟩, HS2.out.bel _ _ (by omega) (HB.out.trans (HB1.out.mono hle))⟩
    have e : (256 * V5 (fun j => dig 18446744073709551616 (rN pre) j) + x.2.1) % LL = rN (pre ++ [x]) := by
      rw [rN_snoc]
      show (256 * V5 (dig 18446744073709551616 (rN pre)) + x.2.1) % LL = _
      rw [HD.out]
    rw [← e]
    exact HN2.out
  case done =>
    rintro D ys W hD rfl ⟨⟨hr, hn, hbox⟩, hB⟩ hK
    have hVb := rN_b (bkU Z len len)
    generalize rN (bkU Z len len) = V at *
    have hle := hn.lt
    have hDW := (Array.getElem?_eq_some_iff.1 hK).1
    have HRa := Aside0.mk (hr.alloc (.cells (FR .u8 32 fun _ => 0) 22))
    have HNa := Aside0.mk (hn.alloc (.cells (FR .u8 32 fun _ => 0) 22))
    have HGa := Aside0.mk (Row.new W .u8 32 (fun _ => 0) 22)
    have HBa := Aside0.mk (hB.alloc (show w.heap.size ≤ W.heap.size by omega) (.cells (FR .u8 32 fun _ => 0) 22))
    have HKa := Aside0.mk ((Below.heap_alloc W (.cells (FR .u8 32 fun _ => 0) 22) D hDW).trans hK)
    clear hr hn hB hK hbox HR0 HA0 HB0 HBOX HOs HIs
    gi_wp2
    gi_loopw [15] (fun v15 wr => RestRel w D W.heap.size V v15 wr) (fun v _ => 32 - (intOf v).toNat)
    case atStart => exact ⟨0, by omega, rfl, HBa.out, HRa.out, HNa.out, row_eq HGa.out (fun j hj => by rw [if_neg (by omega)]), HKa.out⟩
    case round =>
      obtain ⟨i, hi, rfl, hB, hr, hn, hg, hK⟩ := hrel
      have HB := Aside0.mk hB
      have HR := Aside0.mk hr
      have HN := Aside0.mk hn
      have HG := Aside0.mk hg
      have HK := Aside0.mk hK
      have hgl := hg.lt
      clear HRa HNa HGa HBa HKa
      rcases Nat.lt_or_ge i 32 with h32 | h32
      · have k0 := hn.cell (i / 8) (by omega)
        have f0 := hg.fro i
        have k1 := hg.cell i h32
        have hlt : ((i : Int) < 32) = True := eq_true (by omega)
        have hd := dig_limb V i
        have HS := Aside0.mk (part_step (a := ⟨0, 0, none⟩) hg h32)
        clear hB hr hn hg hK
        gi_wp2
        exact ⟨⟨i + 1, by omega, rfl, yJ HB.out _ _ (show w.heap.size ≤ W.heap.size by omega), HR.out.other _ _ (show w.heap.size ≠ W.heap.size by omega), HN.out.other _ _ (show w.heap.size + 1 ≠ W.heap.size by omega), HS.out, (heap_setCell_other _ _ _ _ (show D ≠ W.heap.size by omega)).trans HK.out⟩, meas_up 32 i h32⟩
      · obtain rfl : i = 32 := by omega
        have HM := Aside0.mk (row_eq hg (fun j hj => if_pos hj))
        clear hB hr hn hg hK
        gi_wp2_with (first | refine stepIn_load HM.out Tryd.underlying22 info32 rfl rfl rfl rfl ?_ | (refine stepIn_storeG (dig 256 V) HR.out info32 rfl rfl rfl rfl rfl ?_; intro w4 hs hr4; have HS4 := Aside0.mk hs; have HR4 := Aside0.mk hr4; clear hs hr4))
        have hK4 := (HS4.out.other D (by omega)).trans HK.out
        refine ⟨by simp, .inl ⟨_, _, rfl, run_takeDeferred hK4, ?_⟩⟩
        have hr5 := HR4.out.kept (grownBy_putObj' _ D (.deferred none)) (fun r e => by cases e; exact ⟨_, hK4, rfl⟩)
        refine ⟨_, zY rfl hr5 rfl Tryd.underlying22 rfl info32, by rw [← HV.out], (HS4.out.bel _ _ (Nat.le_refl _) HB.out).trans (belowK_b (w := w) (Nat.le_refl _) _ D _ _ (by omega) hK4 rfl rfl)⟩
  case stop =>
    rintro D c pre W _ _ h _
    exact h.elim
end Go.Proofs.YtbmnkchcekacfaaDoor.P
end

section
namespace Go.Proofs.YtbmnkchcekacfaaDoor.P
set_option linter.unusedVariables false
set_option linter.unusedSimpArgs false
open Go.RowKit Go.Proofs.YtbmnkchcekacfaaDoorW.PrintWords Go.Proofs.YtbmnkchcekacfaaDoorW.PrintLast Go.Proofs.YtbmnkchcekacfaaDoorW.PrintMore
attribute [local go_sem] setCell_drewN
theorem add_zero_at (g off j : Nat) : (⟨g, off, none⟩ : Addr).add j = ⟨g, off + j, none⟩ := by
  unfold Addr.add
  split
  · subst_vars; rfl
  · rfl
theorem Row.bytesAt {w : World} {g n m : Nat} {f : Nat → Int} {t : TypeId} (h : Row w g .u8 n f t) (hm : m ≤ n) : BytesAt w (some ⟨g, 0, none⟩) m f :=
  .inr ⟨_, rfl, fun j hj => by rw [add_zero_at, Nat.zero_add]; exact h.cell j (by omega)⟩
theorem BytesAt.congr {w : World} {a : Option Addr} {len : Nat} {z z' : Nat → Int} (h : BytesAt w a len z) (e : ∀ j, j < len → z j = z' j) : BytesAt w a len z' := by
  rcases h with h | ⟨x, hx, h⟩
  · exact .inl h
  · exact .inr ⟨x, hx, fun j hj => by rw [← e j hj]; exact h j hj⟩
theorem rest_calls' (z : Nat → Int) (a : Option Addr) (len cap : Nat) (w : World) (ho : Ord w) (hz : ∀ j, j < len → 0 ≤ z j ∧ z j < 256) (hreach : len ≤ 140737488351232) (hI : BytesAt w a len z) :
    Calls Tryd.prog 35 #[.slice a len cap] w fun e w' => e = .returned (.agg (FR .u8 32 (dig 256 (val 256 z len % LL)))) ∧ Below w.heap.size w w' := by
  have h := rest_calls (fun j => if j < len then z j else 0) a len cap w ho (fun j => by
    by_cases hj : j < len
    · rw [if_pos hj]; exact hz j hj
    · rw [if_neg hj]; omega) hreach (hI.congr (fun j hj => (if_pos hj).symm))
  rw [val_congr 256 (fun j => if j < len then z j else 0) z len (fun j hj => if_pos hj)] at h
  exact h
def By (f : Nat → Int) : Prop := ∀ j, j < 32 → 0 ≤ f j ∧ f j < 256
def N32 (f : Nat → Int) : Int := val 256 f 32
theorem N32_b (f : Nat → Int) (h : By f) : 0 ≤ N32 f ∧ N32 f < 256 ^ 32 := val_b 256 (by omega) f 32 h
theorem By.dig {f : Nat → Int} (h : By f) (j : Nat) (hj : j < 32) : f j = dig 256 (N32 f) j := dig_val 256 (by omega) f 32 h j hj
theorem dig_By (N : Int) : By (dig 256 N) := fun j _ => dig_b 256 (by omega) N j
theorem N32_dig (N : Int) (h : 0 ≤ N ∧ N < 256 ^ 32) : N32 (dig 256 N) = N := by unfold N32; rw [val_dig 256 (by omega), Int.emod_eq_of_lt h.1 h.2]
theorem info8 : (Tryd.prog.info? 5).map (·.size) = some 1 := by kernel_rfl
theorem equal32 (f g : Nat → Int) (w : World) : (Op.equalIn 10000 22 (.agg (FR .u8 32 f)) (.agg (FR .u8 32 g))).run Tryd.prog w = .ok (sameRow 32 f g) w := run_equal_FR Tryd.underlying22 Tryd.underlying5 info8 f g w
theorem modLL_b (x : Int) : 0 ≤ x % LL ∧ x % LL < 256 ^ 32 := by
  have e : (256 : Int) ^ 32 = 115792089237316195423570985008687907853269984665640564039457584007913129639936 := by decide
  rw [e]; unfold LL; omega
theorem sameRow_congr {n : Nat} {f f' g g' : Nat → Int} (hf : ∀ i, i < n → f i = f' i) (hg : ∀ i, i < n → g i = g' i) : sameRow n f g = sameRow n f' g' := by
  unfold sameRow
  congr 1
  apply propext
  constructor
  · intro h i hi; rw [← hf i hi, ← hg i hi]; exact h i hi
  · intro h i hi; rw [hf i hi, hg i hi]; exact h i hi
theorem same32 (f g : Nat → Int) (hf : By f) (hg : By g) : sameRow 32 f g = decide (N32 f = N32 g) := by
  rw [sameRow_congr hf.dig hg.dig, sameRow_dig 256 (by omega) 32 _ _ (N32_b f hf) (N32_b g hg)]
theorem same_good (s : Nat → Int) (hs : By s) : sameRow 32 (dig 256 (val 256 s 32 % LL)) s = decide (N32 s < LL) := by
  rw [same32 _ _ (dig_By _) hs, N32_dig _ (modLL_b _)]
  have h := N32_b s hs
  congr 1
  apply propext
  show N32 s % LL = N32 s ↔ _
  constructor
  · intro e; rw [← e]; unfold LL; omega
  · intro e; exact Int.emod_eq_of_lt h.1 e
def pS (f g : Nat → Int) : Nat → Nat → Int
  | 0 => fun _ => 0
  | s + 1 => upd (pS f g s) (s / 32 + s % 32) (pS f g s (s / 32 + s % 32) + f (s / 32) * g (s % 32))
theorem pS_step (f g : Nat → Int) (i k : Nat) (hk : k < 32) : pS f g (32 * i + (k + 1)) = upd (pS f g (32 * i + k)) (i + k) (pS f g (32 * i + k) (i + k) + f i * g k) := by
  have e1 : (32 * i + k) / 32 = i := by omega
  have e2 : (32 * i + k) % 32 = k := by omega
  have h : pS f g (32 * i + k + 1) = upd (pS f g (32 * i + k)) ((32 * i + k) / 32 + (32 * i + k) % 32) (pS f g (32 * i + k) ((32 * i + k) / 32 + (32 * i + k) % 32) + f ((32 * i + k) / 32) * g ((32 * i + k) % 32)) := rfl
  rw [e1, e2] at h
  exact h
theorem u8w (x : Int) : IntKind.u8.wrap x = x % 256 := rfl
theorem info8p : (Tryd.prog.info? 5).map (fun i => (i.zero, i.size, i.bytes)) = some (some (.int .u8 0), 1, 1) := by kernel_rfl
theorem ij_nat (i k : Nat) : ((i : Int) + (k : Int)).toNat = i + k := by omega
def OwnB (w : World) (base : Nat) (v : Value) (n : Nat) (z : Nat → Int) : Prop := w.ownsRow base 5 1 v n ((List.range n).map fun j => Value.int .u8 (z j))
theorem OwnB.kept {w w' : World} {base n : Nat} {v : Value} {z : Nat → Int} {row : Option Nat} (h : OwnB w base v n z) (hg : w.grownBy w' row) (hr : ∀ k, row = some k → k < base) : OwnB w' base v n z := by
  refine World.ownsRow.kept h hg ?_
  rcases h.2 with ⟨rfl, _⟩ | ⟨g, cap, cur, rfl, hb, _⟩
  · exact .inl rfl
  · refine .inr fun e => ?_
    have := hr g (by rw [← e]; rfl)
    omega
theorem OwnB.bytesAt {w : World} {base n : Nat} {v : Value} {z : Nat → Int} (h : OwnB w base v n z) : ∃ a c, v = .slice a n c ∧ BytesAt w a n z := by
  rcases h.2 with ⟨rfl, rfl⟩ | ⟨g, cap, cur, rfl, hb, hg, hn, hm, hs, ht⟩
  · exact ⟨none, 0, rfl, .inl ⟨rfl, rfl⟩⟩
  · refine ⟨_, cap, rfl, .inr ⟨_, rfl, fun j hj => ?_⟩⟩
    rw [add_zero_at, Nat.zero_add, cell_of_row w g j cur _ _ hg]
    have e : (cur.toList.take (n * 1))[j]? = some (.int .u8 (z j)) := by
      rw [ht]
      simp [hj]
    rw [List.getElem?_take_of_lt (by omega)] at e
    simpa using e
theorem OwnB.push {n : Nat} (z : Nat → Int) : ((List.range n).map fun j => Value.int .u8 (z j)) ++ [Value.int .u8 (z n)] = (List.range (n + 1)).map fun j => Value.int .u8 (z j) := by
  rw [List.range_succ]; simp
theorem news_one (w : World) (v : Value) (t : TypeId) : ∀ (j : Nat) (u : Value), [v][j]? = some u → (w.alloc (.cells #[v] t)).cell? ((⟨w.heap.size, 0, none⟩ : Addr).add j) = some u := fun j u h => by
  rw [add_zero_at, Nat.zero_add, cell_of_row _ _ _ _ _ _ (heap_alloc_new w _)]
  simpa using h
def MRow (f g c : Nat → Int) (w : World) (s : Nat) (wr : World) : Prop :=
  Below w.heap.size w wr ∧ Row wr (w.heap.size) .u8 32 f 22 ∧ Row wr (w.heap.size + 1) .u8 32 g 22 ∧ Row wr (w.heap.size + 1 + 1) .u8 32 c 22 ∧ Row wr (w.heap.size + 1 + 1 + 1) .u8 32 (fun _ => 0) 22 ∧ Row wr (w.heap.size + 1 + 1 + 1 + 1) .u32 64 (pS f g s) 94 ∧ wr.heap.size = w.heap.size + 1 + 1 + 1 + 1 + 1
theorem MRow.set {f g c : Nat → Int} {w wr : World} {i k : Nat} (h : MRow f g c w (32 * i + k) wr) (hi : i < 32) (hk : k < 32) : MRow f g c w (32 * i + (k + 1)) (wr.setCell ⟨w.heap.size + 1 + 1 + 1 + 1, i + k, none⟩ (.int .u32 (pS f g (32 * i + k) (i + k) + f i * g k))) := by
  obtain ⟨hb, h0, h1, h2, h3, h4, h5⟩ := h
  refine ⟨yJ hb _ _ (show w.heap.size ≤ w.heap.size + 1 + 1 + 1 + 1 by omega), h0.other _ _ (show w.heap.size ≠ w.heap.size + 1 + 1 + 1 + 1 by omega), h1.other _ _ (show w.heap.size + 1 ≠ w.heap.size + 1 + 1 + 1 + 1 by omega), h2.other _ _ (show w.heap.size + 1 + 1 ≠ w.heap.size + 1 + 1 + 1 + 1 by omega), h3.other _ _ (show w.heap.size + 1 + 1 + 1 ≠ w.heap.size + 1 + 1 + 1 + 1 by omega), ?_, by rw [← h5]; simp [World.setCell]⟩
  rw [pS_step f g i k hk]
  exact h4.set (i + k) _ (by omega)
end Go.Proofs.YtbmnkchcekacfaaDoor.P
end

section
namespace Go.Proofs.YtbmnkchcekacfaaDoor.P
set_option linter.unusedVariables false
set_option linter.unusedSimpArgs false
open Go.RowKit Go.ChangeShapes Go.WideShapes Go.Proofs.YtbmnkchcekacfaaDoorW.PrintWords Go.Proofs.YtbmnkchcekacfaaDoorW.PrintLast Go.Proofs.YtbmnkchcekacfaaDoorW.PrintMore
theorem Ord.to {w w' : World} (h : Ord w) (hb : Below w.heap.size w w') : Ord w' := h.below hb h.lt
theorem gCd2 : Tryd.prog.globalNamed "hustings/curve.d" = some 0 := by kernel_rfl
theorem tCd2 : (Tryd.prog.globals[(0 : Nat)]?).map (·.type) = some 22 := by kernel_rfl
theorem cellsD2 : Tryd.prog.cellsOf 22 = 32 := by kernel_rfl
theorem cellsU82 : Tryd.prog.cellsOf 5 = 1 := by kernel_rfl
theorem gOrd2 : Tryd.prog.globalNamed "hustings/scalar.order" = some 1 := by kernel_rfl
theorem tOrd2 : (Tryd.prog.globals[(1 : Nat)]?).map (·.type) = some 38 := by kernel_rfl
theorem cellsO2 : Tryd.prog.cellsOf 38 = 5 := by kernel_rfl
theorem cellsU64 : Tryd.prog.cellsOf 37 = 1 := by kernel_rfl
def ordList2 : List Int := [6346243789798364141, 1503914060200516822, 0, 1152921504606846976, 0]
end Go.Proofs.YtbmnkchcekacfaaDoor.P
end

section
namespace Go.Proofs.YtbmnkchcekacfaaDoor.P
set_option linter.unusedVariables false
set_option linter.unusedSimpArgs false
open Go.RowKit
def NumsAt (k : IntKind) (w : World) (a : Option Addr) (m : Nat) (z : Nat → Int) : Prop := (a = none ∧ m = 0) ∨ ∃ x, a = some x ∧ ∀ j, j < m → w.cell? (x.add j) = some (.int k (z j))
def OwnS (e : TypeId) (k : IntKind) (w : World) (base : Nat) (v : Value) (n : Nat) (z : Nat → Int) : Prop :=
  (v = .slice none 0 0 ∧ n = 0) ∨ ∃ g o cap cur, v = .slice (some ⟨g, o, none⟩) n cap ∧ base ≤ g ∧ w.heap[g]? = some (.cells cur e (0, 0)) ∧ n ≤ cap ∧ cap ≤ maxLen ∧ o + cap ≤ cur.size ∧ ∀ j, j < n → cur[o + j]? = some (.int k (z j))
section
variable {e : TypeId} {k : IntKind} {w w' : World} {base n m : Nat} {v : Value} {z z' y : Nat → Int}
theorem OwnS.nil (w : World) (base : Nat) (z : Nat → Int) : OwnS e k w base (.slice none 0 0) 0 z := .inl ⟨rfl, rfl⟩
theorem OwnS.congr (h : OwnS e k w base v n z) (he : ∀ j, j < n → z j = z' j) : OwnS e k w base v n z' := by
  rcases h with h | ⟨g, o, cap, cur, h1, h2, h3, h4, h5, h6, h7⟩
  · exact .inl h
  · exact .inr ⟨g, o, cap, cur, h1, h2, h3, h4, h5, h6, fun j hj => by rw [← he j hj]; exact h7 j hj⟩
theorem OwnS.low {base' : Nat} (h : OwnS e k w base v n z) (hb : base' ≤ base) : OwnS e k w base' v n z := by
  rcases h with h | ⟨g, o, cap, cur, h1, h2, h3⟩
  · exact .inl h
  · exact .inr ⟨g, o, cap, cur, h1, by omega, h3⟩
theorem OwnS.lt (h : OwnS e k w base v n z) : ∀ b, v.ownBlock = some b → base ≤ b ∧ b < w.heap.size := by
  intro b hb
  rcases h with ⟨rfl, _⟩ | ⟨g, o, cap, cur, rfl, h2, h3, _⟩
  · cases hb
  · cases hb; exact ⟨h2, (Array.getElem?_eq_some_iff.1 h3).1⟩
theorem OwnS.keep (h : OwnS e k w base v n z) (hk : ∀ b, v.ownBlock = some b → w'.heap[b]? = w.heap[b]?) : OwnS e k w' base v n z := by
  rcases h with h | ⟨g, o, cap, cur, rfl, h2, h3, h4⟩
  · exact .inl h
  · exact .inr ⟨g, o, cap, cur, rfl, h2, (hk g rfl).trans h3, h4⟩
theorem OwnS.alloc (h : OwnS e k w base v n z) (o : Obj) : OwnS e k (w.alloc o) base v n z := h.keep fun b hb => Below.heap_alloc w o b (h.lt b hb).2
theorem OwnS.below (h : OwnS e k w base v n z) {B : Nat} (hb : Below B w w') (hB : ∀ b, v.ownBlock = some b → b < B) : OwnS e k w' base v n z := h.keep fun b hv => hb.block b (hB b hv)
theorem OwnS.numsAt (h : OwnS e k w base v n z) : ∃ a c, v = .slice a n c ∧ NumsAt k w a n z ∧ (a = none → c = 0) := by
  rcases h with ⟨rfl, rfl⟩ | ⟨g, o, cap, cur, rfl, hb, hg, hn, hm, hs, ht⟩
  · exact ⟨none, 0, rfl, .inl ⟨rfl, rfl⟩, fun _ => rfl⟩
  · refine ⟨_, cap, rfl, .inr ⟨_, rfl, fun j hj => ?_⟩, fun e => by cases e⟩
    rw [show (⟨g, o, none⟩ : Addr).add j = ⟨g, o + j, none⟩ from Addr.add_lit .., cell_of_row w g (o + j) cur _ _ hg]
    exact ht j hj
theorem OwnS.open (h : OwnS e k w base v n z) (hn : 0 < n) : ∃ g o cap, v = .slice (some ⟨g, o, none⟩) n cap ∧ n ≤ cap ∧ base ≤ g ∧ g < w.heap.size ∧ (∀ j, j < n → w.cell? ⟨g, o + j, none⟩ = some (.int k (z j))) ∧ (∀ j, w.frozen? ⟨g, j, none⟩ = false) ∧ ∃ cur, w.heap[g]? = some (.cells cur e (0, 0)) := by
  rcases h with ⟨_, h0⟩ | ⟨g, o, cap, cur, rfl, hb, hg, hn2, hm, hs, ht⟩
  · omega
  · exact ⟨g, o, cap, rfl, hn2, hb, (Array.getElem?_eq_some_iff.1 hg).1, fun j hj => by rw [cell_of_row w g (o + j) cur _ _ hg]; exact ht j hj, fun j => frozen_of_row w g j cur _ hg, cur, hg⟩
theorem OwnS.drop {g o cap : Nat} (h : OwnS e k w base (.slice (some ⟨g, o, none⟩) n cap) n z) (hm : m ≤ n) : OwnS e k w base (.slice (some ⟨g, o + m, none⟩) (n - m) (cap - m)) (n - m) (fun j => z (m + j)) := by
  rcases h with ⟨h, _⟩ | ⟨g', o', cap', cur, h1, hb, hg, hn2, hx, hs, ht⟩
  · cases h
  · cases h1
    exact .inr ⟨g, o + m, cap - m, cur, rfl, hb, hg, by omega, by omega, by omega, fun j hj => by rw [show o + m + j = o + (m + j) by omega]; exact ht (m + j) (by omega)⟩
theorem OwnS.set {g o cap i : Nat} (h : OwnS e k w base (.slice (some ⟨g, o, none⟩) n cap) n z) (x : Int) (hi : i < n) : OwnS e k (w.setCell ⟨g, o + i, none⟩ (.int k x)) base (.slice (some ⟨g, o, none⟩) n cap) n (upd z i x) := by
  rcases h with ⟨h, _⟩ | ⟨g', o', cap', cur, h1, hb, hg, hn2, hx, hs, ht⟩
  · cases h
  · cases h1
    refine .inr ⟨g, o, cap, cur.setIfInBounds (o + i) (.int k x), rfl, hb, heap_setCell_same w g (o + i) cur _ _ hg, hn2, hx, by simpa using hs, fun j hj => ?_⟩
    by_cases hji : j = i
    · subst hji
      rw [Array.getElem?_setIfInBounds_self_of_lt (by omega), upd_same]
    · rw [Array.getElem?_setIfInBounds_ne (by omega), upd_other _ _ _ _ hji]
      exact ht j hj
theorem NumsAt.keep {a : Option Addr} (h : NumsAt k w a m z) (hk : ∀ x, a = some x → 0 < m → w'.heap[x.block]? = w.heap[x.block]?) : NumsAt k w' a m z := by
  rcases h with h | ⟨x, rfl, hc⟩
  · exact .inl h
  · exact .inr ⟨x, rfl, fun j hj => by
      have e : (x.add j).block = x.block := by unfold Addr.add; split <;> rfl
      rw [← hc j hj]; exact World.cell?_of_block (by rw [e]; exact hk x rfl (by omega))⟩
theorem numsList (k : IntKind) (m : Nat) (y : Nat → Int) (j : Nat) : ((List.range m).map fun j => Value.int k (y j))[j]? = if j < m then some (.int k (y j)) else none := by
  by_cases h : j < m
  · simp [h]
  · simp [h]
theorem OwnS.made (w : World) (n : Nat) (z : Nat → Int) (hb : base ≤ w.heap.size) (hn : n ≤ maxLen) : OwnS e k (w.alloc (.cells (FR k n z) e)) base (.slice (some ⟨w.heap.size, 0, none⟩) n n) n z :=
  .inr ⟨w.heap.size, 0, n, FR k n z, rfl, hb, heap_alloc_new w _, Nat.le_refl _, hn, by rw [FR_size]; omega, fun j hj => by rw [Nat.zero_add]; exact FR_at k n z j hj⟩
theorem run_append_S {P : Program} {t ty : TypeId} {i : TypeInfo} {d : Value} {bytes : Nat} (ht : P.underlying t = some (.slice e)) (hi : P.info? e = some i) (hz : i.zero = some d) (hs1 : i.size = 1) (hby : i.bytes = bytes) (hzs : d.cells.size = 1)
    (ho : OwnS e k w base v n z) {a : Option Addr} {c : Nat} (hx : NumsAt k w a m y) (hn0 : a = none → c = 0) (h63 : n + m ≤ maxLen) (hbytes : (n + m) * bytes ≤ 140737488355328) (hbase : base ≤ w.heap.size) :
    ∃ v' w', (Builtin.append_ #[t, t] ty #[v, .slice a m c]).run P w = .ok v' w' ∧ OwnS e k w' base v' (n + m) (fun j => if j < n then z j else y (j - n)) ∧ w.grownBy w' v.ownBlock ∧ (v'.ownBlock = v.ownBlock ∨ v'.ownBlock = some w.heap.size) ∧ (0 < n + m → v'.ownBlock ≠ none) ∧ (∀ g o cap, v = .slice (some ⟨g, o, none⟩) n cap → ∀ j, j < n → w'.cell? ⟨g, o + j, none⟩ = some (.int k (z j))) := by
  subst hby
  have hsrc : Src P i.size t (.slice a m c) m ((List.range m).map fun j => Value.int k (y j)) w := by
    rcases hx with ⟨rfl, rfl⟩ | ⟨x, rfl, hc⟩
    · exact Src.ofNil w ht c
    · refine Src.ofSlice w ht x m c _ (by simp [hs1]) (fun j u hu => ?_) (by intro u hu; simp only [List.mem_map] at hu; obtain ⟨_, _, rfl⟩ := hu; rfl)
      rw [numsList] at hu
      by_cases hj : j < m
      · rw [if_pos hj] at hu; rw [hc j hj]; exact hu
      · rw [if_neg hj] at hu; cases hu
  have hmax : ∀ x, x ≤ maxLen → ((x : Nat) : Int) ≤ 9223372036854775807 := fun x h => by simp only [maxLen] at h; omega
  rcases ho with ⟨rfl, rfl⟩ | ⟨g, o, cap, cur, rfl, hb, hg, hn2, hx2, hs, hcur⟩
  · by_cases hm : m = 0
    · subst hm
      refine ⟨.slice none 0 0, w, ?_, .inl ⟨rfl, rfl⟩, ⟨rfl, rfl, rfl, Nat.le_refl _, fun _ _ _ => rfl⟩, .inl rfl, (fun h => by omega), fun _ _ _ h => by cases h⟩
      rcases hx with ⟨rfl, _⟩ | ⟨x, rfl, hc⟩
      · simp [Builtin.append_, run_underlying ht, sizeOf, typeInfo, hi, Builtin.lenOf, Builtin.firstCells]
      · simp [Builtin.append_, run_underlying ht, sizeOf, typeInfo, hi, Builtin.lenOf, Builtin.firstCells, loadCells, loadCellsFrom]
    · have hr := run_append_grow_src (P := P) w t t ty e i d ht hi hz none 0 0 [] (run_firstCells_none w.drew i.size 0 0 0) _ m _ hsrc (by omega) (hmax _ h63) (growslice_fits (by omega) hbytes)
      have hge := grownCap_ge w (0 + m) 0 e
      have hcm := grownCap_le_maxLen w (0 + m) 0 e h63
      refine ⟨_, _, hr, .inr ⟨w.heap.size, 0, _, _, rfl, hbase, heap_alloc_new w.drew _, hge, hcm, ?_, fun j hj => ?_⟩, ⟨rfl, rfl, rfl, by simp, fun b hb2 _ => Below.heap_alloc w.drew _ b hb2⟩, .inr rfl, (fun _ => by simp [Value.ownBlock]), fun _ _ _ h => by cases h⟩
      · simp only [Array.size_append, List.size_toArray, size_zeroCells, hzs, List.length_append, List.length_nil, List.length_map, List.length_range]
        omega
      · rw [Nat.zero_add, Array.getElem?_append_left (by simp; omega), List.getElem?_toArray, List.nil_append, numsList, if_pos (by omega), Nat.zero_add]
        simp
  · by_cases hroom : n + m ≤ cap
    · have hcell : ∀ j, j < m → (w.cell? ⟨g, o + n + j, none⟩).isSome = true := fun j hj => by
        rw [cell_of_row w g _ cur _ _ hg, Array.getElem?_eq_getElem (by omega)]; rfl
      have hr := run_append_room_src (P := P) w t t ty e i ht hi g o n cap _ m _ hsrc hroom (by intro j hj; rw [hs1, Nat.mul_one]; exact hcell j (by simpa using hj)) (by intro j hj; exact frozen_of_row w g _ cur _ hg)
      rw [hs1, Nat.mul_one] at hr
      refine ⟨_, _, hr, .inr ⟨g, o, cap, _, rfl, hb, setCells_row _ (o + n) w cur hg, hroom, hx2, by rw [putA_size]; exact hs, fun j hj => ?_⟩, ⟨?_, ?_, ?_, by rw [setCells_size]; exact Nat.le_refl _, fun b _ hb2 => setCells_other (fun h => hb2 (by rw [h]; rfl)) _ _ w⟩, .inl rfl, (fun _ => by simp [Value.ownBlock]), fun g' o' cap' h j hj => by
        cases h
        rw [cell_of_row _ g (o + j) _ _ _ (setCells_row _ (o + n) w cur hg), putA_get _ _ _ _ (by simp; omega), if_neg (by omega)]
        exact hcur j hj⟩
      · rw [putA_get _ _ _ _ (by simp; omega)]
        show _ = some (Value.int k (if j < n then z j else y (j - n)))
        by_cases hjn : j < n
        · rw [if_neg (by omega), if_pos hjn]; exact hcur j hjn
        · rw [if_pos (by simp; omega), if_neg hjn, numsList, show o + j - (o + n) = j - n by omega, if_pos (by omega)]
      · exact (yG (Nat.le_refl g) _ _ w (Below.refl g w)).os
      · exact (yG (Nat.le_refl g) _ _ w (Below.refl g w)).tape
      · exact (yG (Nat.le_refl g) _ _ w (Below.refl g w)).output
    · have hr := run_append_grow_src (P := P) w t t ty e i d ht hi hz (some ⟨g, o, none⟩) n cap ((List.range n).map fun j => Value.int k (z j)) (run_firstCells_some w.drew i.size n ⟨g, o, none⟩ n cap _ (by simp [hs1]) (fun j u hu => by
        rw [numsList] at hu
        by_cases hj : j < n
        · rw [if_pos hj] at hu
          rw [show (⟨g, o, none⟩ : Addr).add j = ⟨g, o + j, none⟩ from Addr.add_lit .., ← hu, ← hcur j hj]
          exact cell_of_row w.drew g (o + j) cur _ _ hg
        · rw [if_neg hj] at hu; cases hu)) _ m _ hsrc (by omega) (hmax _ h63) (growslice_fits (by omega) hbytes)
      have hge := grownCap_ge w (n + m) cap e
      have hcm := grownCap_le_maxLen w (n + m) cap e h63
      refine ⟨_, _, hr, .inr ⟨w.heap.size, 0, _, _, rfl, hbase, heap_alloc_new w.drew _, hge, hcm, ?_, fun j hj => ?_⟩, ⟨rfl, rfl, rfl, by simp, fun b hb2 _ => Below.heap_alloc w.drew _ b hb2⟩, .inr rfl, (fun _ => by simp [Value.ownBlock]), fun g' o' cap' h j hj => by
        cases h
        rw [← hcur j hj, ← cell_of_row w g (o + j) cur _ _ hg]
        exact World.cell?_of_block (Below.heap_alloc w.drew _ g (Array.getElem?_eq_some_iff.1 hg).1)⟩
      · simp only [Array.size_append, List.size_toArray, size_zeroCells, hzs, List.length_append, List.length_map, List.length_range]
        omega
      · rw [Nat.zero_add, Array.getElem?_append_left (by simp; omega), List.getElem?_toArray]
        show _ = some (Value.int k (if j < n then z j else y (j - n)))
        by_cases hjn : j < n
        · rw [List.getElem?_append_left (by simpa using hjn), numsList, if_pos hjn, if_pos hjn]
        · rw [List.getElem?_append_right (by simpa using hjn), numsList, if_neg hjn]
          simp only [List.length_map, List.length_range]
          rw [if_pos (by omega)]
end
theorem step_append {P : Program} {ops : Array Oper} {rest : List Oper} {o : Oper} {a : Act} {w : World} {Q : Exit → Act → World → Prop} {e : TypeId} {k : IntKind} {base n m : Nat} {v : Value} {z y : Nat → Int} {t : TypeId} {d : Value} {bytes : Nat} {s x : Operand} {ad : Option Addr} {c : Nat}
    (ho : OwnS e k w base v n z) (hx : NumsAt k w ad m y) (ht : P.underlying t = some (.slice e)) (hi : (P.info? e).map (fun i => (i.zero, i.size, i.bytes)) = some (some d, 1, bytes)) (hzs : d.cells.size = 1)
    (hgd : o.guard = none) (hop : o.op = .call { callee := .builtin .append, args := #[s, x], argTypes := #[t, t] }) (hs : a.eval s = v) (hx2 : a.eval x = .slice ad m c) (hn0 : ad = none → c = 0)
    (h63 : n + m ≤ maxLen) (hbytes : (n + m) * bytes ≤ 140737488355328) (hbase : base ≤ w.heap.size)
    (h : ∀ v' w', OwnS e k w' base v' (n + m) (fun j => if j < n then z j else y (j - n)) → w.grownBy w' v.ownBlock → (v'.ownBlock = v.ownBlock ∨ v'.ownBlock = some w.heap.size) → (0 < n + m → v'.ownBlock ≠ none) → wpList P ops Q rest (a.put o.dst v') w') : wpList P ops Q (o :: rest) a w := by
  obtain ⟨ix, hinf, hx1, h2, hx3⟩ := info_parts hi
  refine wpList_plain hgd fun K hK => ?_
  obtain ⟨v', w', hr, h3, h4, h5, h6, _⟩ := run_append_S (P := P) (ty := o.type) ht hinf hx1 h2 hx3 hzs ho hx hn0 h63 hbytes hbase
  unfold Oper.wp execOp
  simp only [hop, resolve, invoke, builtin, Sem.run_bind, Sem.run_pure, Result.andThen_ok, List.map_toArray, List.map_cons, List.map_nil, hs, hx2, hr]
  exact hK _ _ (h v' w' h3 h4 h5 h6)
theorem oper_append {P : Program} {ops : Array Oper} {o : Oper} {a : Act} {w : World} {K : Act → World → Prop} {Q : Exit → Act → World → Prop} {E : Prop} {e : TypeId} {k : IntKind} {base n m : Nat} {v : Value} {z y : Nat → Int} {t : TypeId} {d : Value} {bytes : Nat} {s x : Operand} {ad : Option Addr} {c : Nat}
    (ho : OwnS e k w base v n z) (hx : NumsAt k w ad m y) (ht : P.underlying t = some (.slice e)) (hi : (P.info? e).map (fun i => (i.zero, i.size, i.bytes)) = some (some d, 1, bytes)) (hzs : d.cells.size = 1)
    (hgd : o.guard = none) (hop : o.op = .call { callee := .builtin .append, args := #[s, x], argTypes := #[t, t] }) (hs : a.eval s = v) (hx2 : a.eval x = .slice ad m c) (hn0 : ad = none → c = 0)
    (h63 : n + m ≤ maxLen) (hbytes : (n + m) * bytes ≤ 140737488355328) (hbase : base ≤ w.heap.size)
    (h : ∀ v' w', OwnS e k w' base v' (n + m) (fun j => if j < n then z j else y (j - n)) → w.grownBy w' v.ownBlock → (v'.ownBlock = v.ownBlock ∨ v'.ownBlock = some w.heap.size) → (∀ g o cap, v = .slice (some ⟨g, o, none⟩) n cap → ∀ j, j < n → w'.cell? ⟨g, o + j, none⟩ = some (.int k (z j))) → K (a.put o.dst v') w') :
    if Region.wanted o (yielded ops a.tmps) = true then Oper.wp P o a w K Q else E := by
  obtain ⟨ix, hinf, hx1, h2, hx3⟩ := info_parts hi
  have hw : Region.wanted o (yielded ops a.tmps) = true := by simp [Region.wanted, hgd]
  rw [if_pos hw]
  obtain ⟨v', w', hr, h3, h4, h5, h6, h7⟩ := run_append_S (P := P) (ty := o.type) ht hinf hx1 h2 hx3 hzs ho hx hn0 h63 hbytes hbase
  unfold Oper.wp execOp
  simp only [hop, resolve, invoke, builtin, Sem.run_bind, Sem.run_pure, Result.andThen_ok, List.map_toArray, List.map_cons, List.map_nil, hs, hx2, hr]
  exact h v' w' h3 h4 h5 h7
theorem NumsAt.new (k : IntKind) (w : World) (n : Nat) (f : Nat → Int) (t : TypeId) : NumsAt k (w.alloc (.cells (FR k n f) t)) (some ⟨w.heap.size, 0, none⟩) n f :=
  .inr ⟨_, rfl, fun j hj => by
    rw [show (⟨w.heap.size, 0, none⟩ : Addr).add j = ⟨w.heap.size, 0 + j, none⟩ from Addr.add_lit .., Nat.zero_add]
    exact (Row.new w k n f t).cell j hj⟩
theorem grown_bel {w w' W : World} {B : Nat} {row : Option Nat} (h : Below B W w) (hg : w.grownBy w' row) (hB : B ≤ w.heap.size) (hr : ∀ b, row = some b → B ≤ b) : Below B W w' := h.grown hg hB (fun k e => hr k e)
end Go.Proofs.YtbmnkchcekacfaaDoor.P
end

section
namespace Go.Proofs.YtbmnkchcekacfaaDoor.P.Dg
set_option linter.unusedVariables false
set_option linter.unusedSimpArgs false
open Go.RowKit Go.Proofs.YtbmnkchcekacfaaDoorW.PrintWords Go.Proofs.YtbmnkchcekacfaaDoorW.PrintLast Go.Proofs.YtbmnkchcekacfaaDoorW.PrintMore
def tn (p q x : Int) : Int := Go.bits .or .u64 (x / p) (IntKind.u64.wrap (x * q))
theorem bits_comm_or (x y : Int) : Go.bits .or .u64 x y = Go.bits .or .u64 y x := by
  unfold Go.bits
  simp only [BitVec.or_comm]
theorem rot1 (x : Int) (w : World) : Calls Tryd.prog 93 #[.int .u64 x, .int .i64 (-1)] w fun e w' => e = .returned (.int .u64 (tn 2 9223372036854775808 x)) ∧ w' = w := by
  have h1 : Go.bits .and .u64 (IntKind.u64.wrap (-1)) 63 = 63 := by kernel_rfl
  go_enter Tryd.func93, Tryd.ntmps93
  go_wp2_with fail
  go_ret
  refine ⟨?_, rfl⟩
  show Ending.returned (Value.int .u64 (Go.bits .or .u64 (IntKind.u64.wrap (x * 9223372036854775808)) (x / 2))) = _
  rw [bits_comm_or]; rfl
theorem turn1 (x : Int) (w : World) : Calls Tryd.prog 88 #[.int .u64 x, .int .u64 1] w fun e w' => e = .returned (.int .u64 (tn 2 9223372036854775808 x)) ∧ w' = w := by
  go_enter Tryd.func88, Tryd.ntmps88
  go_wp2_with fail
  go_ret
  exact ⟨rfl, rfl⟩
theorem rot8 (x : Int) (w : World) : Calls Tryd.prog 93 #[.int .u64 x, .int .i64 (-8)] w fun e w' => e = .returned (.int .u64 (tn 256 72057594037927936 x)) ∧ w' = w := by
  have h1 : Go.bits .and .u64 (IntKind.u64.wrap (-8)) 63 = 56 := by kernel_rfl
  go_enter Tryd.func93, Tryd.ntmps93
  go_wp2_with fail
  go_ret
  refine ⟨?_, rfl⟩
  show Ending.returned (Value.int .u64 (Go.bits .or .u64 (IntKind.u64.wrap (x * 72057594037927936)) (x / 256))) = _
  rw [bits_comm_or]; rfl
theorem turn8 (x : Int) (w : World) : Calls Tryd.prog 88 #[.int .u64 x, .int .u64 8] w fun e w' => e = .returned (.int .u64 (tn 256 72057594037927936 x)) ∧ w' = w := by
  go_enter Tryd.func88, Tryd.ntmps88
  go_wp2_with fail
  go_ret
  exact ⟨rfl, rfl⟩
theorem rot19 (x : Int) (w : World) : Calls Tryd.prog 93 #[.int .u64 x, .int .i64 (-19)] w fun e w' => e = .returned (.int .u64 (tn 524288 35184372088832 x)) ∧ w' = w := by
  have h1 : Go.bits .and .u64 (IntKind.u64.wrap (-19)) 63 = 45 := by kernel_rfl
  go_enter Tryd.func93, Tryd.ntmps93
  go_wp2_with fail
  go_ret
  refine ⟨?_, rfl⟩
  show Ending.returned (Value.int .u64 (Go.bits .or .u64 (IntKind.u64.wrap (x * 35184372088832)) (x / 524288))) = _
  rw [bits_comm_or]; rfl
theorem turn19 (x : Int) (w : World) : Calls Tryd.prog 88 #[.int .u64 x, .int .u64 19] w fun e w' => e = .returned (.int .u64 (tn 524288 35184372088832 x)) ∧ w' = w := by
  go_enter Tryd.func88, Tryd.ntmps88
  go_wp2_with fail
  go_ret
  exact ⟨rfl, rfl⟩
theorem rot61 (x : Int) (w : World) : Calls Tryd.prog 93 #[.int .u64 x, .int .i64 (-61)] w fun e w' => e = .returned (.int .u64 (tn 2305843009213693952 8 x)) ∧ w' = w := by
  have h1 : Go.bits .and .u64 (IntKind.u64.wrap (-61)) 63 = 3 := by kernel_rfl
  go_enter Tryd.func93, Tryd.ntmps93
  go_wp2_with fail
  go_ret
  refine ⟨?_, rfl⟩
  show Ending.returned (Value.int .u64 (Go.bits .or .u64 (IntKind.u64.wrap (x * 8)) (x / 2305843009213693952))) = _
  rw [bits_comm_or]; rfl
theorem turn61 (x : Int) (w : World) : Calls Tryd.prog 88 #[.int .u64 x, .int .u64 61] w fun e w' => e = .returned (.int .u64 (tn 2305843009213693952 8 x)) ∧ w' = w := by
  go_enter Tryd.func88, Tryd.ntmps88
  go_wp2_with fail
  go_ret
  exact ⟨rfl, rfl⟩
theorem rot14 (x : Int) (w : World) : Calls Tryd.prog 93 #[.int .u64 x, .int .i64 (-14)] w fun e w' => e = .returned (.int .u64 (tn 16384 1125899906842624 x)) ∧ w' = w := by
  have h1 : Go.bits .and .u64 (IntKind.u64.wrap (-14)) 63 = 50 := by kernel_rfl
  go_enter Tryd.func93, Tryd.ntmps93
  go_wp2_with fail
  go_ret
  refine ⟨?_, rfl⟩
  show Ending.returned (Value.int .u64 (Go.bits .or .u64 (IntKind.u64.wrap (x * 1125899906842624)) (x / 16384))) = _
  rw [bits_comm_or]; rfl
theorem turn14 (x : Int) (w : World) : Calls Tryd.prog 88 #[.int .u64 x, .int .u64 14] w fun e w' => e = .returned (.int .u64 (tn 16384 1125899906842624 x)) ∧ w' = w := by
  go_enter Tryd.func88, Tryd.ntmps88
  go_wp2_with fail
  go_ret
  exact ⟨rfl, rfl⟩
theorem rot18 (x : Int) (w : World) : Calls Tryd.prog 93 #[.int .u64 x, .int .i64 (-18)] w fun e w' => e = .returned (.int .u64 (tn 262144 70368744177664 x)) ∧ w' = w := by
  have h1 : Go.bits .and .u64 (IntKind.u64.wrap (-18)) 63 = 46 := by kernel_rfl
  go_enter Tryd.func93, Tryd.ntmps93
  go_wp2_with fail
  go_ret
  refine ⟨?_, rfl⟩
  show Ending.returned (Value.int .u64 (Go.bits .or .u64 (IntKind.u64.wrap (x * 70368744177664)) (x / 262144))) = _
  rw [bits_comm_or]; rfl
theorem turn18 (x : Int) (w : World) : Calls Tryd.prog 88 #[.int .u64 x, .int .u64 18] w fun e w' => e = .returned (.int .u64 (tn 262144 70368744177664 x)) ∧ w' = w := by
  go_enter Tryd.func88, Tryd.ntmps88
  go_wp2_with fail
  go_ret
  exact ⟨rfl, rfl⟩
theorem rot41 (x : Int) (w : World) : Calls Tryd.prog 93 #[.int .u64 x, .int .i64 (-41)] w fun e w' => e = .returned (.int .u64 (tn 2199023255552 8388608 x)) ∧ w' = w := by
  have h1 : Go.bits .and .u64 (IntKind.u64.wrap (-41)) 63 = 23 := by kernel_rfl
  go_enter Tryd.func93, Tryd.ntmps93
  go_wp2_with fail
  go_ret
  refine ⟨?_, rfl⟩
  show Ending.returned (Value.int .u64 (Go.bits .or .u64 (IntKind.u64.wrap (x * 8388608)) (x / 2199023255552))) = _
  rw [bits_comm_or]; rfl
theorem turn41 (x : Int) (w : World) : Calls Tryd.prog 88 #[.int .u64 x, .int .u64 41] w fun e w' => e = .returned (.int .u64 (tn 2199023255552 8388608 x)) ∧ w' = w := by
  go_enter Tryd.func88, Tryd.ntmps88
  go_wp2_with fail
  go_ret
  exact ⟨rfl, rfl⟩
theorem rot28 (x : Int) (w : World) : Calls Tryd.prog 93 #[.int .u64 x, .int .i64 (-28)] w fun e w' => e = .returned (.int .u64 (tn 268435456 68719476736 x)) ∧ w' = w := by
  have h1 : Go.bits .and .u64 (IntKind.u64.wrap (-28)) 63 = 36 := by kernel_rfl
  go_enter Tryd.func93, Tryd.ntmps93
  go_wp2_with fail
  go_ret
  refine ⟨?_, rfl⟩
  show Ending.returned (Value.int .u64 (Go.bits .or .u64 (IntKind.u64.wrap (x * 68719476736)) (x / 268435456))) = _
  rw [bits_comm_or]; rfl
theorem turn28 (x : Int) (w : World) : Calls Tryd.prog 88 #[.int .u64 x, .int .u64 28] w fun e w' => e = .returned (.int .u64 (tn 268435456 68719476736 x)) ∧ w' = w := by
  go_enter Tryd.func88, Tryd.ntmps88
  go_wp2_with fail
  go_ret
  exact ⟨rfl, rfl⟩
theorem rot34 (x : Int) (w : World) : Calls Tryd.prog 93 #[.int .u64 x, .int .i64 (-34)] w fun e w' => e = .returned (.int .u64 (tn 17179869184 1073741824 x)) ∧ w' = w := by
  have h1 : Go.bits .and .u64 (IntKind.u64.wrap (-34)) 63 = 30 := by kernel_rfl
  go_enter Tryd.func93, Tryd.ntmps93
  go_wp2_with fail
  go_ret
  refine ⟨?_, rfl⟩
  show Ending.returned (Value.int .u64 (Go.bits .or .u64 (IntKind.u64.wrap (x * 1073741824)) (x / 17179869184))) = _
  rw [bits_comm_or]; rfl
theorem turn34 (x : Int) (w : World) : Calls Tryd.prog 88 #[.int .u64 x, .int .u64 34] w fun e w' => e = .returned (.int .u64 (tn 17179869184 1073741824 x)) ∧ w' = w := by
  go_enter Tryd.func88, Tryd.ntmps88
  go_wp2_with fail
  go_ret
  exact ⟨rfl, rfl⟩
theorem rot39 (x : Int) (w : World) : Calls Tryd.prog 93 #[.int .u64 x, .int .i64 (-39)] w fun e w' => e = .returned (.int .u64 (tn 549755813888 33554432 x)) ∧ w' = w := by
  have h1 : Go.bits .and .u64 (IntKind.u64.wrap (-39)) 63 = 25 := by kernel_rfl
  go_enter Tryd.func93, Tryd.ntmps93
  go_wp2_with fail
  go_ret
  refine ⟨?_, rfl⟩
  show Ending.returned (Value.int .u64 (Go.bits .or .u64 (IntKind.u64.wrap (x * 33554432)) (x / 549755813888))) = _
  rw [bits_comm_or]; rfl
theorem turn39 (x : Int) (w : World) : Calls Tryd.prog 88 #[.int .u64 x, .int .u64 39] w fun e w' => e = .returned (.int .u64 (tn 549755813888 33554432 x)) ∧ w' = w := by
  go_enter Tryd.func88, Tryd.ntmps88
  go_wp2_with fail
  go_ret
  exact ⟨rfl, rfl⟩
def tk (k x : Int) : Int := if k = -1 then tn 2 9223372036854775808 x else if k = -8 then tn 256 72057594037927936 x else if k = -19 then tn 524288 35184372088832 x else if k = -61 then tn 2305843009213693952 8 x else if k = -14 then tn 16384 1125899906842624 x else if k = -18 then tn 262144 70368744177664 x else if k = -41 then tn 2199023255552 8388608 x else if k = -28 then tn 268435456 68719476736 x else if k = -34 then tn 17179869184 1073741824 x else tn 549755813888 33554432 x
theorem rotk (k x : Int) (w : World) (h : k = -14 ∨ k = -18 ∨ k = -41 ∨ k = -28 ∨ k = -34 ∨ k = -39) : Calls Tryd.prog 93 #[.int .u64 x, .int .i64 k] w fun e w' => e = .returned (.int .u64 (tk k x)) ∧ w' = w := by
  rcases h with rfl | rfl | rfl | rfl | rfl | rfl
  · exact rot14 x w
  · exact rot18 x w
  · exact rot41 x w
  · exact rot28 x w
  · exact rot34 x w
  · exact rot39 x w
def x3 (a b c : Int) : Int := Go.bits .xor .u64 (Go.bits .xor .u64 a b) c
def bige (x : Int) : Int := x3 (tk (-14) x) (tk (-18) x) (tk (-41) x)
theorem threee (x : Int) (w : World) : Calls Tryd.prog 89 #[.int .u64 x, .int .u64 14, .int .u64 18, .int .u64 41] w fun e w' => e = .returned (.int .u64 (bige x)) ∧ w' = w := by
  go_enter Tryd.func89, Tryd.ntmps89
  go_wp2_with fail
  refine (turn14 x w).mono ?_
  rintro e w1 ⟨rfl, rfl⟩
  go_wp2_with fail
  refine (turn18 x _).mono ?_
  rintro e w1 ⟨rfl, rfl⟩
  go_wp2_with fail
  refine (turn41 x _).mono ?_
  rintro e w1 ⟨rfl, rfl⟩
  go_wp2_with fail
  go_ret
  exact ⟨rfl, rfl⟩
def biga (x : Int) : Int := x3 (tk (-28) x) (tk (-34) x) (tk (-39) x)
theorem threea (x : Int) (w : World) : Calls Tryd.prog 89 #[.int .u64 x, .int .u64 28, .int .u64 34, .int .u64 39] w fun e w' => e = .returned (.int .u64 (biga x)) ∧ w' = w := by
  go_enter Tryd.func89, Tryd.ntmps89
  go_wp2_with fail
  refine (turn28 x w).mono ?_
  rintro e w1 ⟨rfl, rfl⟩
  go_wp2_with fail
  refine (turn34 x _).mono ?_
  rintro e w1 ⟨rfl, rfl⟩
  go_wp2_with fail
  refine (turn39 x _).mono ?_
  rintro e w1 ⟨rfl, rfl⟩
  go_wp2_with fail
  go_ret
  exact ⟨rfl, rfl⟩
def sma (x : Int) : Int := x3 (tn 2 9223372036854775808 x) (tn 256 72057594037927936 x) (x / 128)
def smb (x : Int) : Int := x3 (tn 524288 35184372088832 x) (tn 2305843009213693952 8 x) (x / 64)
end Go.Proofs.YtbmnkchcekacfaaDoor.P.Dg
end

section
namespace Go.Proofs.YtbmnkchcekacfaaDoor.P.Dg
set_option linter.unusedVariables false
set_option linter.unusedSimpArgs false
open Go.RowKit Go.Proofs.YtbmnkchcekacfaaDoorW.PrintWords Go.Proofs.YtbmnkchcekacfaaDoorW.PrintLast Go.Proofs.YtbmnkchcekacfaaDoorW.PrintMore
attribute [local go_sem] setCell_drewN
def wd (z : Nat → Int) : Nat → Int
  | 0 => 0
  | i + 1 => wd z i * 256 + z i
theorem wd_b (z : Nat → Int) (n : Nat) (hz : ∀ j, j < n → 0 ≤ z j ∧ z j < 256) : ∀ i, i ≤ n → 0 ≤ wd z i ∧ wd z i < 256 ^ i
  | 0, _ => by simp [wd]
  | i + 1, h => by
    have ih := wd_b z n hz i (by omega)
    have h1 := hz i (by omega)
    rw [wd, Int.pow_succ]; omega
theorem wd_b7 (z : Nat → Int) (hz : ∀ j, j < 8 → 0 ≤ z j ∧ z j < 256) (i : Nat) (hi : i < 8) : 0 ≤ wd z i ∧ wd z i < 72057594037927936 := by
  have h := wd_b z 8 hz i (by omega)
  have h2 : i = 0 ∨ i = 1 ∨ i = 2 ∨ i = 3 ∨ i = 4 ∨ i = 5 ∨ i = 6 ∨ i = 7 := by omega
  rcases h2 with rfl | rfl | rfl | rfl | rfl | rfl | rfl | rfl <;> omega
theorem or_low (x c : Int) (hx : 0 ≤ x ∧ x < 72057594037927936) (hc : 0 ≤ c ∧ c < 256) : Go.bits .or .u64 (x * 256) c = x * 256 + c :=
  bits_join .u64 64 (by decide) (fun n h0 h1 => u64w n h0 (by omega)) 8 _ _ (by omega) (by omega) (by omega) (by omega) (by omega) (by omega)
def WRel (z : Nat → Int) (w : World) (v9 v3 : Value) (wr : World) : Prop := ∃ i : Nat, i ≤ 8 ∧ v9 = .int .i64 (i : Int) ∧ v3 = .int .u64 (wd z i) ∧ wr = w
theorem word_calls (z : Nat → Int) (g o len cap : Nat) (w : World) (hcap : 8 ≤ cap) (hc : ∀ j, j < 8 → w.cell? ⟨g, o + j, none⟩ = some (.int .u8 (z j))) (hz : ∀ j, j < 8 → 0 ≤ z j ∧ z j < 256) :
    Calls Tryd.prog 92 #[.slice (some ⟨g, o, none⟩) len cap] w fun e w' => e = .returned (.int .u64 (wd z 8)) ∧ w' = w := by
  have HC := Aside0.mk hc
  have HZ := Aside0.mk hz
  clear hc hz
  go_enter Tryd.func92, Tryd.ntmps92
  go_wp2_with fail
  go_loopw [9, 3] (fun v9 v3 wr => WRel z w v9 v3 wr) (fun v _ _ => 8 - (intOf v).toNat)
  case atStart => exact ⟨0, by omega, rfl, rfl, rfl⟩
  case round =>
    obtain ⟨i, hi, rfl, rfl, rfl⟩ := hrel
    rcases Nat.lt_or_ge i 8 with h8 | h8
    · have k0 := HC.out i h8
      have hzi := HZ.out i h8
      have hlt : ((i : Int) < 8) = True := eq_true (by omega)
      have hb := wd_b7 z HZ.out i h8
      have q1 : IntKind.u64.wrap (wd z i * 256) = wd z i * 256 := u64w _ (by omega) (by omega)
      have q2 := or_low (wd z i) (z i) hb hzi
      have HE : Aside0 (wd z (i + 1) = wd z i * 256 + z i) := ⟨rfl⟩
      have q3 : IntKind.u64.wrap (z i) = z i := u64w _ (by omega) (by omega)
      generalize wd z i = x at *
      clear hzi hb
      go_wp2_with fail
      refine ⟨⟨i + 1, by omega, rfl, ?_, rfl⟩, meas_up 8 i h8⟩
      rw [HE.out]
    · obtain rfl : i = 8 := by omega
      go_wp2_with fail
      go_ret
      exact ⟨rfl, rfl⟩
theorem info8u : (Tryd.prog.info? 117).map (·.size) = some 8 := by kernel_rfl
theorem zero80 (w : World) : (zeroValue 130).run Tryd.prog w = .ok (.agg (FR .u64 80 fun _ => 0)) w := by kernel_rfl
def wl (z : Nat → Int) : Nat → List Int
  | 0 => []
  | n + 1 => (if n < 16 then wd (fun j => z (8 * n + j)) 8 else IntKind.u64.wrap (IntKind.u64.wrap (IntKind.u64.wrap ((wl z n).getD 15 0 + sma ((wl z n).getD 14 0)) + (wl z n).getD 6 0) + smb ((wl z n).getD 1 0))) :: wl z n
def W (z : Nat → Int) (n : Nat) : Int := (wl z (n + 1)).getD 0 0
theorem wl_at (z : Nat → Int) : ∀ (n k : Nat), k < n → (wl z n).getD k 0 = W z (n - 1 - k)
  | n + 1, 0, _ => rfl
  | n + 1, k + 1, h => by
    have e : (wl z (n + 1)).getD (k + 1) 0 = (wl z n).getD k 0 := rfl
    rw [e, wl_at z n k (by omega)]
    congr 1
    omega
theorem W_low (z : Nat → Int) (n : Nat) (h : n < 16) : W z n = wd (fun j => z (8 * n + j)) 8 := by
  show (if n < 16 then _ else _) = _
  rw [if_pos h]
theorem W_high (z : Nat → Int) (n : Nat) (h : 16 ≤ n) : W z n = IntKind.u64.wrap (IntKind.u64.wrap (IntKind.u64.wrap (W z (n - 16) + sma (W z (n - 15))) + W z (n - 7)) + smb (W z (n - 2))) := by
  show (if n < 16 then _ else _) = _
  rw [if_neg (by omega), wl_at z n 15 (by omega), wl_at z n 14 (by omega), wl_at z n 6 (by omega), wl_at z n 1 (by omega)]
  rw [show n - 1 - 15 = n - 16 by omega, show n - 1 - 14 = n - 15 by omega, show n - 1 - 6 = n - 7 by omega, show n - 1 - 1 = n - 2 by omega]
def hcells (f : Nat → Int) (v : Value) (c : Int) : Array Value := FR .u64 8 f ++ #[v, .int .u64 c]
def yH (w : World) (g : Nat) (f : Nat → Int) (v : Value) (c : Int) : Prop := w.heap[g]? = some (.cells (hcells f v c) 119 (0, 0))
theorem yH.cell {w : World} {g : Nat} {f : Nat → Int} {v : Value} {c : Int} (h : yH w g f v c) (j : Nat) (hj : j < 8) : w.cell? ⟨g, j, none⟩ = some (.int .u64 (f j)) := by
  rw [cell_of_row w g j _ _ _ h]
  unfold hcells
  rw [Array.getElem?_append_left (by rw [FR_size]; exact hj), FR_at _ _ _ _ hj]
theorem yH.cell8 {w : World} {g : Nat} {f : Nat → Int} {v : Value} {c : Int} (h : yH w g f v c) : w.cell? ⟨g, 8, none⟩ = some v := by
  rw [cell_of_row w g 8 _ _ _ h]
  unfold hcells
  rw [Array.getElem?_append_right (by rw [FR_size]; omega), FR_size]; rfl
theorem yH.cell9 {w : World} {g : Nat} {f : Nat → Int} {v : Value} {c : Int} (h : yH w g f v c) : w.cell? ⟨g, 9, none⟩ = some (.int .u64 c) := by
  rw [cell_of_row w g 9 _ _ _ h]
  unfold hcells
  rw [Array.getElem?_append_right (by rw [FR_size]; omega), FR_size]; rfl
theorem yH.fro {w : World} {g : Nat} {f : Nat → Int} {v : Value} {c : Int} (h : yH w g f v c) (j : Nat) : w.frozen? ⟨g, j, none⟩ = false := frozen_of_row w g j _ _ h
theorem yH.lt {w : World} {g : Nat} {f : Nat → Int} {v : Value} {c : Int} (h : yH w g f v c) : g < w.heap.size := (Array.getElem?_eq_some_iff.1 h).1
theorem yH.set {w : World} {g : Nat} {f : Nat → Int} {v : Value} {c : Int} (h : yH w g f v c) (i : Nat) (x : Int) (hi : i < 8) : yH (w.setCell ⟨g, i, none⟩ (.int .u64 x)) g (upd f i x) v c := by
  have e := heap_setCell_same w g i _ _ (.int .u64 x) h
  unfold yH
  rw [e]
  unfold hcells
  rw [Array.setIfInBounds_append_left (by rw [FR_size]; exact hi), FR_set _ _ _ _ _ hi]
theorem yH.set8 {w : World} {g : Nat} {f : Nat → Int} {v : Value} {c : Int} (h : yH w g f v c) (u : Value) : yH (w.setCell ⟨g, 8, none⟩ u) g f u c := by
  have e := heap_setCell_same w g 8 _ _ u h
  unfold yH
  rw [e]
  unfold hcells
  rw [Array.setIfInBounds_append_right (by rw [FR_size]; omega), FR_size]
  rfl
theorem yH.set9 {w : World} {g : Nat} {f : Nat → Int} {v : Value} {c : Int} (h : yH w g f v c) (x : Int) : yH (w.setCell ⟨g, 9, none⟩ (.int .u64 x)) g f v x := by
  have e := heap_setCell_same w g 9 _ _ (.int .u64 x) h
  unfold yH
  rw [e]
  unfold hcells
  rw [Array.setIfInBounds_append_right (by rw [FR_size]; omega), FR_size]
  rfl
theorem yH.keep {w w' : World} {g : Nat} {f : Nat → Int} {v : Value} {c : Int} (h : yH w g f v c) (hk : w'.heap[g]? = w.heap[g]?) : yH w' g f v c := hk.trans h
theorem yH.congr {w : World} {g : Nat} {f f' : Nat → Int} {v : Value} {c : Int} (h : yH w g f v c) (e : ∀ j, j < 8 → f j = f' j) : yH w g f' v c := by
  unfold yH hcells at *; rw [h, FR_congr .u64 8 f f' e]
theorem yH.alloc {w : World} {g : Nat} {f : Nat → Int} {v : Value} {c : Int} (h : yH w g f v c) (o : Obj) : yH (w.alloc o) g f v c := h.keep (Below.heap_alloc w o g h.lt)
theorem yH.other {w : World} {g : Nat} {f : Nat → Int} {v : Value} {c : Int} (h : yH w g f v c) (a : Addr) (u : Value) (ha : g ≠ a.block) : yH (w.setCell a u) g f v c := h.keep (heap_setCell_other w a g u ha)
theorem yH.below {w w' : World} {B g : Nat} {f : Nat → Int} {v : Value} {c : Int} (h : yH w g f v c) (hb : Below B w w') (hg : g < B) : yH w' g f v c := h.keep (hb.block g hg)
structure Chg (p : Nat → Prop) (w w' : World) : Prop where
  os : w'.os = w.os
  tape : w'.tape = w.tape
  output : w'.output = w.output
  size : w.heap.size ≤ w'.heap.size
  block : ∀ b, b < w.heap.size → ¬ p b → w'.heap[b]? = w.heap[b]?
theorem Chg.trans {p : Nat → Prop} {a b c : World} (h : Chg p a b) (k : Chg p b c) : Chg p a c :=
  ⟨k.os.trans h.os, k.tape.trans h.tape, k.output.trans h.output, Nat.le_trans h.size k.size, fun i hi hp => (k.block i (Nat.lt_of_lt_of_le hi h.size) hp).trans (h.block i hi hp)⟩
theorem Chg.mono {p q : Nat → Prop} {a b : World} (h : Chg p a b) (hpq : ∀ i, i < a.heap.size → p i → q i) : Chg q a b := ⟨h.os, h.tape, h.output, h.size, fun i hi hq => h.block i hi fun hp => hq (hpq i hi hp)⟩
theorem Chg.refl (p : Nat → Prop) (w : World) : Chg p w w := ⟨rfl, rfl, rfl, Nat.le_refl _, fun _ _ _ => rfl⟩
theorem Chg.of_below {p : Nat → Prop} {w w' : World} (h : Below w.heap.size w w') : Chg p w w' := ⟨h.os, h.tape, h.output, h.size, fun b hb _ => h.block b hb⟩
theorem Chg.below {p : Nat → Prop} {B : Nat} {W w w' : World} (h : Below B W w) (k : Chg p w w') (hB : B ≤ w.heap.size) (hp : ∀ b, p b → B ≤ b) : Below B W w' :=
  ⟨k.os.trans h.os, k.tape.trans h.tape, k.output.trans h.output, Nat.le_trans h.size k.size, fun b hb => (k.block b (by omega) (fun q => by have := hp b q; omega)).trans (h.block b hb)⟩
theorem Chg.drewN {p : Nat → Prop} {a b : World} (h : Chg p a b) (n : Nat) : Chg p a (b.drewN n) := ⟨h.os, h.tape, h.output, h.size, h.block⟩
theorem Chg.set {p : Nat → Prop} {a b : World} (h : Chg p a b) (x : Addr) (v : Value) (hx : p x.block ∨ a.heap.size ≤ x.block) : Chg p a (b.setCell x v) :=
  ⟨h.os, h.tape, h.output, by simpa [World.setCell] using h.size, fun i hi hp => (heap_setCell_other b x i v (fun e => by subst e; rcases hx with hx | hx; exact hp hx; omega)).trans (h.block i hi hp)⟩
theorem Chg.alloc {p : Nat → Prop} {a b : World} (h : Chg p a b) (o : Obj) : Chg p a (b.alloc o) :=
  ⟨h.os, h.tape, h.output, by simpa using Nat.le_succ_of_le h.size, fun i hi hp => (Below.heap_alloc b o i (Nat.lt_of_lt_of_le hi h.size)).trans (h.block i hi hp)⟩
theorem Chg.stored {p : Nat → Prop} {a b c : World} {g : Nat} (h : Chg p a b) (hs : Stored b c g) (hg : p g ∨ a.heap.size ≤ g) : Chg p a c := by
  have k := hs.bel a.heap.size
  exact ⟨(hs.bel _ _ (Nat.le_refl _) (Below.refl _ _)).os.trans h.os, (hs.bel _ _ (Nat.le_refl _) (Below.refl _ _)).tape.trans h.tape, (hs.bel _ _ (Nat.le_refl _) (Below.refl _ _)).output.trans h.output, Nat.le_trans h.size (hs.bel _ _ (Nat.le_refl _) (Below.refl _ _)).size,
    fun i hi hp => (hs.other i (fun e => by subst e; rcases hg with hg | hg; exact hp hg; omega)).trans (h.block i hi hp)⟩
def kList : List Int := [4794697086780616226, 8158064640168781261, 13096744586834688815, 16840607885511220156, 4131703408338449720, 6480981068601479193, 10538285296894168987, 12329834152419229976, 15566598209576043074, 1334009975649890238, 2608012711638119052, 6128411473006802146, 8268148722764581231, 9286055187155687089, 11230858885718282805, 13951009754708518548, 16472876342353939154, 17275323862435702243, 1135362057144423861, 2597628984639134821, 3308224258029322869, 5365058923640841347, 6679025012923562964, 8573033837759648693, 10970295158949994411, 12119686244451234320, 12683024718118986047, 13788192230050041572, 14330467153632333762, 15395433587784984357, 489312712824947311, 1452737877330783856, 2861767655752347644, 3322285676063803686, 5560940570517711597, 5996557281743188959, 7280758554555802590, 8532644243296465576, 9350256976987008742, 10552545826968843579, 11727347734174303076, 12113106623233404929, 14000437183269869457, 14369950271660146224, 15101387698204529176, 15463397548674623760, 17586052441742319658, 1182934255886127544, 1847814050463011016, 2177327727835720531, 2830643537854262169, 3796741975233480872, 4115178125766777443, 5681478168544905931, 6601373596472566643, 7507060721942968483, 8399075790359081724, 8693463985226723168, 9568029438360202098, 10144078919501101548, 10430055236837252648, 11840083180663258601, 13761210420658862357, 14299343276471374635, 14566680578165727644, 15097957966210449927, 16922976911328602910, 17689382322260857208, 500013540394364858, 748580250866718886, 1242879168328830382, 1977374033974150939, 2944078676154940804, 3659926193048069267, 4368137639120453308, 4836135668995329356, 5532061633213252278, 6448918945643986474, 6902733635092675308, 7801388544844847127]
def kk (j : Nat) : Int := kList.getD j 0
def Tab (w : World) : Prop := ∀ j, j < 80 → w.cell? ⟨2, j, none⟩ = some (.int .u64 (kk j))
theorem Tab.keep {w w' : World} (h : Tab w) (hk : w'.heap[(2 : Nat)]? = w.heap[(2 : Nat)]?) : Tab w' := fun j hj => by rw [← h j hj]; exact World.cell?_of_block hk
theorem Tab.lt {w : World} (h : Tab w) : 2 < w.heap.size := World.block_lt_of_cell? w ⟨2, 0, none⟩ (h 0 (by omega))
def ch (e f g : Int) : Int := Go.bits .xor .u64 (Go.bits .and .u64 e f) (Go.bits .and .u64 (Go.bits .xor .u64 IntKind.u64.max e) g)
def mj (a b c : Int) : Int := Go.bits .xor .u64 (Go.bits .xor .u64 (Go.bits .and .u64 a b) (Go.bits .and .u64 a c)) (Go.bits .and .u64 b c)
def lst8 (a b c d e f g h : Int) (j : Nat) : Int := [a, b, c, d, e, f, g, h].getD j 0
def rT (v : Nat → Int) (k w : Int) : Int := IntKind.u64.wrap (IntKind.u64.wrap (IntKind.u64.wrap (IntKind.u64.wrap (v 7 + bige (v 4)) + ch (v 4) (v 5) (v 6)) + k) + w)
def rU (v : Nat → Int) : Int := IntKind.u64.wrap (biga (v 0) + mj (v 0) (v 1) (v 2))
def rnd (v : Nat → Int) (k w : Int) : Nat → Int := lst8 (IntKind.u64.wrap (rT v k w + rU v)) (v 0) (v 1) (v 2) (IntKind.u64.wrap (v 3 + rT v k w)) (v 4) (v 5) (v 6)
theorem rnd_row (v : Nat → Int) (k w : Int) : (#[.int .u64 (IntKind.u64.wrap (rT v k w + rU v)), .int .u64 (v 0), .int .u64 (v 1), .int .u64 (v 2), .int .u64 (IntKind.u64.wrap (v 3 + rT v k w)), .int .u64 (v 4), .int .u64 (v 5), .int .u64 (v 6)] : Array Value) = FR .u64 8 (rnd v k w) := rfl
def rds (z f : Nat → Int) : Nat → Nat → Int
  | 0 => f
  | i + 1 => rnd (rds z f i) (kk i) (W z i)
def nxt (f z : Nat → Int) (j : Nat) : Int := IntKind.u64.wrap (f j + rds z f 80 j)
def BR1 (z f : Nat → Int) (w : World) (v16 : Value) (wr : World) : Prop :=
  ∃ i : Nat, i ≤ 80 ∧ v16 = .int .i64 (i : Int) ∧ Below w.heap.size w wr ∧ Row wr w.heap.size .u64 80 (fun j => if j < i then W z j else 0) 130
def BR2 (z f : Nat → Int) (w : World) (b2 : Nat) (v72 : Value) (wr : World) : Prop :=
  ∃ i : Nat, i ≤ 80 ∧ v72 = .int .i64 (i : Int) ∧ Below w.heap.size w wr ∧ Row wr w.heap.size .u64 80 (W z) 130 ∧ Row wr b2 .u64 8 (rds z f i) 117
def BR3 (z f : Nat → Int) (g : Nat) (v : Value) (c : Int) (w : World) (b2 : Nat) (v162 : Value) (wr : World) : Prop :=
  ∃ i : Nat, i ≤ 8 ∧ v162 = .int .i64 (i : Int) ∧ Chg (· = g) w wr ∧ yH wr g (fun j => if j < i then nxt f z j else f j) v c ∧ Row wr b2 .u64 8 (rds z f 80) 117
theorem quiet_more {P : Program} {f : FuncId} {args : Array Value} {w : World} {a n : Nat} {v : Value} (h : Calls P f args (w.drewN (a + n)) fun e w' => e = .returned v ∧ w' = w.drewN (a + n)) :
    Calls P f args (w.drewN (a + n)) fun e w' => e = .returned v ∧ ∃ m, w' = w.drewN (a + m) := h.mono fun _ _ hh => ⟨hh.1, n, hh.2⟩
set_option maxRecDepth 100000 in
set_option maxHeartbeats 4000000 in
theorem block_calls (z f : Nat → Int) (g : Nat) (v : Value) (c : Int) (gb o len cap : Nat) (w : World) (ht : Tab w) (hh : yH w g f v c) (hl : 128 ≤ len) (hcap : len ≤ cap) (hcap2 : cap ≤ 9223372036854775807)
    (hc : ∀ j, j < 128 → w.cell? ⟨gb, o + j, none⟩ = some (.int .u8 (z j))) (hz : ∀ j, j < 128 → 0 ≤ z j ∧ z j < 256) :
    Calls Tryd.prog 81 #[.pointer (some ⟨g, 0, none⟩), .slice (some ⟨gb, o, none⟩) len cap] w fun e w' => e = .returned (.tuple #[]) ∧ Chg (· = g) w w' ∧ yH w' g (nxt f z) v c := by
  have HT := Aside0.mk ht
  have HH := Aside0.mk hh
  have HC := Aside0.mk hc
  have HZ := Aside0.mk hz
  have HL := Aside0.mk hl
  have hgl := hh.lt
  have HG := Aside0.mk hgl
  have hgb := World.block_lt_of_cell? w _ (hc 0 (by omega))
  have HGB := Aside0.mk hgb
  clear ht hh hc hz hgl hgb
  have HB0 := Aside0.mk ((Below.refl w.heap.size w).alloc (Nat.le_refl _) (.cells (FR .u64 80 fun _ => 0) 130))
  have HR0 := Aside0.mk (Row.new w .u64 80 (fun _ => 0) 130)
  go_enter Tryd.func81, Tryd.ntmps81
  have hzv := zero80
  go_wp2_with fail
  clear hzv
  go_loopw [16] (fun v16 wr => BR1 z f w v16 wr) (fun v _ => 80 - (intOf v).toNat)
  case atStart => exact ⟨0, by omega, rfl, HB0.out, row_eq HR0.out (fun j hj => by rw [if_neg (by omega)])⟩
  case round =>
    clear HB0 HR0
    obtain ⟨i, hi, rfl, hb, hr⟩ := hrel
    have HB := Aside0.mk hb
    have HR := Aside0.mk hr
    have hsz := hr.lt
    rcases Nat.lt_or_ge i 80 with h80 | h80
    · have hlt : ((i : Int) < 80) = True := eq_true (by omega)
      have f0 := hr.fro i
      rcases Nat.lt_or_ge i 16 with h16 | h16
      · have hlt2 : ((i : Int) < 16) = True := eq_true (by omega)
        have HS := Aside0.mk (part_step (a := ⟨0, 0, none⟩) hr h80)
        have k0 := hr.cell i h80
        rw [if_neg (Nat.lt_irrefl i)] at k0
        rw [W_low z i h16] at HS
        have HW := Aside0.mk (word_calls (fun j => z (8 * i + j)) gb (o + 8 * i) (len - 8 * i) (cap - 8 * i) wr (by omega) (fun j hj => by
          rw [show o + 8 * i + j = o + (8 * i + j) by omega, World.cell?_of_block (HB.out.block gb HGB.out)]; exact HC.out (8 * i + j) (by omega)) (fun j hj => HZ.out (8 * i + j) (by omega)))
        generalize wd (fun j => z (8 * i + j)) 8 = x at *
        have e8 : (8 * (i : Int)).toNat = 8 * i := by omega
        clear hb hr
        go_wp2_with fail
        refine (HW.out).mono ?_
        rintro e w1 ⟨rfl, rfl⟩
        go_wp2_with fail
        exact ⟨⟨i + 1, by omega, rfl, yJ HB.out _ _ (Nat.le_refl _), HS.out⟩, meas_up 80 i h80⟩
      · obtain ⟨m, rfl⟩ : ∃ m, i = m + 16 := ⟨i - 16, by omega⟩
        have hge : (((m + 16 : Nat) : Int) < 16) = False := eq_false (by omega)
        have HS := Aside0.mk (part_step (a := ⟨0, 0, none⟩) hr h80)
        have k15 := hr.cell (m + 1) (by omega)
        rw [if_pos (by omega)] at k15
        have k2 := hr.cell (m + 14) (by omega)
        rw [if_pos (by omega)] at k2
        have k16 := hr.cell m (by omega)
        rw [if_pos (by omega)] at k16
        have k7 := hr.cell (m + 9) (by omega)
        rw [if_pos (by omega)] at k7
        have k0 := hr.cell (m + 16) h80
        rw [if_neg (Nat.lt_irrefl _)] at k0
        have HWH := W_high z (m + 16) (by omega)
        rw [show m + 16 - 16 = m by omega, show m + 16 - 15 = m + 1 by omega, show m + 16 - 7 = m + 9 by omega, show m + 16 - 2 = m + 14 by omega] at HWH
        rw [HWH] at HS
        clear HWH
        have e15 : ((m + 16 : Nat) : Int) - 15 = ((m + 1 : Nat) : Int) := by omega
        have e2 : ((m + 16 : Nat) : Int) - 2 = ((m + 14 : Nat) : Int) := by omega
        have e16 : ((m + 16 : Nat) : Int) - 16 = (m : Int) := by omega
        have e7 : ((m + 16 : Nat) : Int) - 7 = ((m + 9 : Nat) : Int) := by omega
        have l15 : (((m + 1 : Nat) : Int) < 80) = True := eq_true (by omega)
        have l2 : (((m + 14 : Nat) : Int) < 80) = True := eq_true (by omega)
        have l16 : ((m : Int) < 80) = True := eq_true (by omega)
        have l7 : (((m + 9 : Nat) : Int) < 80) = True := eq_true (by omega)
        generalize W z (m + 1) = x1 at *
        generalize W z (m + 14) = x14 at *
        generalize W z m = x0 at *
        generalize W z (m + 9) = x9 at *
        clear hb hr
        go_wp2_with fail
        go_region
        all_goals go_wp2_with fail
        refine (rot1 x1 _).mono ?_
        rintro e w1 ⟨rfl, rfl⟩
        go_wp2_with fail
        refine (rot8 x1 _).mono ?_
        rintro e w1 ⟨rfl, rfl⟩
        go_wp2_with fail
        refine (rot19 x14 _).mono ?_
        rintro e w1 ⟨rfl, rfl⟩
        go_wp2_with fail
        refine (rot61 x14 _).mono ?_
        rintro e w1 ⟨rfl, rfl⟩
        go_wp2_with fail
        go_region
        all_goals go_wp2_with fail
        refine ⟨⟨m + 16 + 1, by omega, rfl, yJ HB.out.drew.drew ⟨w.heap.size, m + 16, none⟩ _ (Nat.le_refl _), HS.out⟩, meas_up 80 (m + 16) h80⟩
    · obtain rfl : i = 80 := by omega
      have HR2 := Aside0.mk (row_eq hr (f' := W z) (fun j hj => if_pos hj))
      clear hb hr HR
      have hh8 : ∀ j, j < 8 → wr.cell? ((⟨g, 0, none⟩ : Addr).add j) = some (.int .u64 (f j)) := fun j hj => by
        rw [show (⟨g, 0, none⟩ : Addr).add j = ⟨g, 0 + j, none⟩ from Addr.add_lit .., Nat.zero_add, World.cell?_of_block (HB.out.block g HG.out)]
        exact HH.out.cell j hj
      have HH8 := Aside0.mk hh8
      clear hh8
      have HB2 := Aside0.mk (HB.out.alloc (Nat.le_of_lt hsz) (.cells (FR .u64 8 fun _ => 0) 117))
      have HN := Aside0.mk (Row.new wr .u64 8 (fun _ => 0) 117)
      have HR3 := Aside0.mk (HR2.out.alloc (.cells (FR .u64 8 fun _ => 0) 117))
      go_wp2_with (first | (refine step_load_at HH8.out Tryd.underlying117 info8u rfl rfl rfl rfl ?_) | (refine zQ f HN.out info8u rfl rfl rfl rfl rfl ?_; intro w3 hs hr; have HB3 := Aside0.mk (hs.bel _ _ (Nat.le_of_lt hsz) HB2.out); have HV := Aside0.mk hr; have HR4 := Aside0.mk (HR3.out.stored hs (show w.heap.size ≠ wr.heap.size by omega)); clear hs hr))
      have hlt3 := HR4.out.lt
      have hb2 : w.heap.size ≤ wr.heap.size := Nat.le_of_lt hsz
      have hne : w.heap.size ≠ wr.heap.size := by omega
      clear HN HR3 HB2 HR2 HH8 HB
      generalize wr.heap.size = b2 at *
      go_loopw [72] (fun v72 wr => BR2 z f w b2 v72 wr) (fun v _ => 80 - (intOf v).toNat)
      case atStart => exact ⟨0, by omega, rfl, HB3.out, HR4.out, HV.out⟩
      case round =>
        clear HB3 HR4 HV
        obtain ⟨i, hi, rfl, hb, hw, hv⟩ := hrel
        have HB := Aside0.mk hb
        have HW := Aside0.mk hw
        have HV := Aside0.mk hv
        rcases Nat.lt_or_ge i 80 with h80 | h80
        · have hlt : ((i : Int) < 80) = True := eq_true (by omega)
          have kT := (HT.out.keep (HB.out.block _ HT.out.lt)) i h80
          have kW := hw.cell i h80
          have c0 := hv.cell 0 (by omega)
          have c1 := hv.cell 1 (by omega)
          have c2 := hv.cell 2 (by omega)
          have c3 := hv.cell 3 (by omega)
          have c4 := hv.cell 4 (by omega)
          have c5 := hv.cell 5 (by omega)
          have c6 := hv.cell 6 (by omega)
          have c7 := hv.cell 7 (by omega)
          have HE : Aside0 (rds z f (i + 1) = rnd (rds z f i) (kk i) (W z i)) := ⟨rfl⟩
          generalize rds z f i = vv at *
          generalize kk i = ki at *
          generalize W z i = wi at *
          clear hb hw hv
          go_wp2_with fail
          go_quiet ((go_at_call 93; exact Calls.quiet_of_same (rotk _ _ _ (by decide))))
          go_wp2_with fail
          go_quiet (fail)
          go_wp2_with fail
          go_quiet ((go_at_call 93; exact quiet_more (rotk _ _ _ (by decide))))
          go_wp2_with (refine zQ (rnd vv ki wi) (HV.out.drewN _) info8u rfl rfl rfl rfl (congrArg Value.agg (rnd_row vv ki wi)) ?_; intro w3 hs hr; have HV3 := Aside0.mk hr; have HB3 := Aside0.mk (hs.bel _ _ hb2 (bel_drewN HB.out _)); have HW3 := Aside0.mk ((HW.out.drewN _).stored hs hne); clear hs hr)
          exact ⟨⟨i + 1, by omega, rfl, HB3.out, HW3.out, by rw [HE.out]; exact HV3.out⟩, meas_up 80 i h80⟩
        · obtain rfl : i = 80 := by omega
          clear hb hw hv
          have HH3 := Aside0.mk (HH.out.below HB.out HG.out)
          have HB3 := Aside0.mk (Chg.of_below (p := (· = g)) HB.out)
          have hbsz := HB.out.size
          have HNE : Aside0 (g ≠ b2) := ⟨by have := HG.out; omega⟩
          go_wp2_with fail
          clear HB HW
          go_loopw [162] (fun v162 wr => BR3 z f g v c w b2 v162 wr) (fun v _ => 8 - (intOf v).toNat)
          case atStart => exact ⟨0, by omega, rfl, HB3.out, HH3.out.congr (fun j hj => by rw [if_neg (by omega)]), HV.out⟩
          case round =>
            clear HB3 HH3 HV
            obtain ⟨i, hi, rfl, hb, hh, hv⟩ := hrel
            have HB := Aside0.mk hb
            have HH := Aside0.mk hh
            have HV := Aside0.mk hv
            rcases Nat.lt_or_ge i 8 with h8 | h8
            · have hlt : ((i : Int) < 8) = True := eq_true (by omega)
              have k0 := hh.cell i h8
              rw [if_neg (Nat.lt_irrefl i)] at k0
              have f0 := hh.fro i
              have kv := hv.cell i h8
              have HS : Aside0 (yH (wr.setCell ⟨g, i, none⟩ (.int .u64 (IntKind.u64.wrap (f i + rds z f 80 i)))) g (fun j => if j < i + 1 then nxt f z j else f j) v c) := ⟨(hh.set i _ h8).congr (fun j hj => by
                unfold upd
                by_cases hji : j = i
                · subst hji; rw [if_pos rfl, if_pos (by omega)]; rfl
                · rw [if_neg hji]
                  show (if j < i then nxt f z j else f j) = _
                  by_cases hjl : j < i
                  · rw [if_pos hjl, if_pos (by omega)]
                  · rw [if_neg hjl, if_neg (by omega)])⟩
              generalize rds z f 80 i = x at *
              clear hb hh hv
              go_wp2_with fail
              go_region
              all_goals go_wp2_with fail
              exact ⟨⟨i + 1, by omega, rfl, HB.out.drewN 1 |>.set _ _ (.inl rfl), HS.out, HV.out.other _ _ HNE.out.symm⟩, meas_up 8 i h8⟩
            · obtain rfl : i = 8 := by omega
              have HE : Aside0 (yH wr g (nxt f z) v c) := ⟨hh.congr (fun j hj => if_pos hj)⟩
              clear hb hh hv
              go_wp2_with fail
              go_end0
              exact ⟨rfl, HB.out, HE.out⟩
end Go.Proofs.YtbmnkchcekacfaaDoor.P.Dg
end

section
namespace Go.Proofs.YtbmnkchcekacfaaDoor.P
open Go.ChangeShapes Go.WideShapes
theorem gTab3 : Tryd.prog.globalNamed "hustings/digest2.table" = some 2 := by kernel_rfl
theorem tTab3 : (Tryd.prog.globals[(2 : Nat)]?).map (·.type) = some 130 := by kernel_rfl
theorem cellsT80 : Tryd.prog.cellsOf 130 = 80 := by kernel_rfl
theorem addr_add (g j : Nat) : (⟨g, 0, none⟩ : Addr).add j = ⟨g, j, none⟩ := by
  unfold Addr.add
  split
  · subst_vars; rfl
  · simp
theorem tab3 {W : World} {l : List (String × DataW Unit)} (h : laidMet Tryd.prog (("hustings/digest2.table", Rows.laid_hustings_digest2_table) :: l) W) : Dg.Tab W := by
  have hT : Lib.TabIs Tryd.prog W "hustings/digest2.table" .u64 Dg.kList := Lib.tabIs_of_head gTab3 tTab3 Tryd.underlying130 Tryd.underlying37 cellsU64 cellsT80 h
  intro j hj
  exact hT.cell gTab3 j (by simpa [Dg.kList] using hj)
theorem cd3 {W : World} {l : List (String × DataW Unit)} (h : laidMet Tryd.prog (("hustings/curve.d", Rows.laid_hustings_curve_d) :: l) W) : TabD W := by
  have hT : Lib.TabIs Tryd.prog W "hustings/curve.d" .u8 dL := Lib.tabIs_of_head gCd2 tCd2 Tryd.underlying22 Tryd.underlying5 cellsU82 cellsD2 h
  intro j hj
  rw [addr_add, hT.cell gCd2 j hj]
  rfl
theorem ordT3 {W : World} {l : List (String × DataW Unit)} (h : laidMet Tryd.prog (("hustings/scalar.order", Rows.laid_hustings_scalar_order) :: l) W) : Ord W := by
  have hO : Lib.TabIs Tryd.prog W "hustings/scalar.order" .u64 ordList2 := Lib.tabIs_of_head gOrd2 tOrd2 Tryd.underlying38 Tryd.underlying37 cellsU64 cellsO2 h
  intro j hj
  rw [addr_add, hO.cell gOrd2 j hj]
  have hj2 : j = 0 ∨ j = 1 ∨ j = 2 ∨ j = 3 ∨ j = 4 := by omega
  rcases hj2 with rfl | rfl | rfl | rfl | rfl <;> rfl
theorem sg_of {W : World} (h : laidMetH Tryd.prog [("hustings/digest2.table", Rows.laid_hustings_digest2_table), ("hustings/curve.d", Rows.laid_hustings_curve_d), ("hustings/scalar.order", Rows.laid_hustings_scalar_order)] W) : Dg.Tab W ∧ TabD W ∧ Ord W := by
  rw [MakeChecks.laidMetH_plain _ _ _ (by kernel_rfl)] at h
  exact ⟨tab3 h, cd3 (laidMet.tail h), ordT3 (laidMet.tail (laidMet.tail h))⟩
end Go.Proofs.YtbmnkchcekacfaaDoor.P
end

section
namespace Go.Proofs.YtbmnkchcekacfaaDoor.P.Dg
set_option linter.unusedVariables false
set_option linter.unusedSimpArgs false
open Go.RowKit Go.Proofs.YtbmnkchcekacfaaDoorW.PrintWords Go.Proofs.YtbmnkchcekacfaaDoorW.PrintLast Go.Proofs.YtbmnkchcekacfaaDoorW.PrintMore
attribute [local go_sem] setCell_drewN
theorem info8p : (Tryd.prog.info? 5).map (fun i => (i.zero, i.size, i.bytes)) = some (some (.int .u8 0), 1, 1) := by kernel_rfl
theorem info64p : (Tryd.prog.info? 37).map (fun i => (i.zero, i.size, i.bytes)) = some (some (.int .u64 0), 1, 8) := by kernel_rfl
theorem u8w (x : Int) : IntKind.u8.wrap x = x % 256 := rfl
theorem _root_.Go.Proofs.YtbmnkchcekacfaaDoor.P.NumsAt.one (k : IntKind) (w : World) (x : Int) (t : TypeId) : NumsAt k (w.alloc (.cells #[.int k x] t)) (some ⟨w.heap.size, 0, none⟩) 1 (fun _ => x) := NumsAt.new k w 1 (fun _ => x) t
abbrev OwnB (w : World) (base : Nat) (v : Value) (n : Nat) (z : Nat → Int) : Prop := OwnS 5 .u8 w base v n z
abbrev OwnU (w : World) (base : Nat) (v : Value) (n : Nat) (z : Nat → Int) : Prop := OwnS 37 .u64 w base v n z
theorem step_build {P : Program} {ops : Array Oper} {rest : List Oper} {o : Oper} {a : Act} {w : World} {Q : Exit → Act → World → Prop} (v : Value) (ob : Obj) (hgd : o.guard = none)
    (hr : (execOp a.eval o).run P w = .ok (.value v) (w.alloc ob)) (h : wpList P ops Q rest (a.put o.dst v) (w.alloc ob)) : wpList P ops Q (o :: rest) a w := by
  refine wpList_plain hgd fun K hK => ?_
  unfold Oper.wp
  rw [hr]
  exact hK _ _ h
set_option maxHeartbeats 1000000 in
theorem numbers_calls (w : World) : Calls Tryd.prog 74 #[] w fun e w' => e = .returned (.slice (some ⟨w.heap.size, 0, none⟩) 80 80) ∧ w' = w.alloc (.cells (FR .u64 80 kk) 37) := by
  go_enter Tryd.func74, Tryd.ntmps74
  go_wp2_with (refine step_build (.slice (some ⟨w.heap.size, 0, none⟩) 80 80) (.cells (FR .u64 80 kk) 37) rfl (by kernel_rfl) ?_)
  go_ret
  exact ⟨rfl, rfl⟩
def NR1 (z : Nat → Int) (w : World) (v8 v7 : Value) (wr : World) : Prop := ∃ i : Nat, i ≤ 16 ∧ v8 = .int .i64 (i : Int) ∧ OwnU wr w.heap.size v7 i (W z) ∧ Below w.heap.size w wr
def NR2 (z : Nat → Int) (wr0 : World) (v10 v9 : Value) (wr : World) : Prop := ∃ j : Nat, j ≤ 8 ∧ v10 = .int .i64 (j : Int) ∧ v9 = .int .u64 (wd z j) ∧ wr = wr0
def NR3 (z : Nat → Int) (w : World) (v11 v7 : Value) (wr : World) : Prop := ∃ i : Nat, 16 ≤ i ∧ i ≤ 80 ∧ v11 = .int .i64 (i : Int) ∧ OwnU wr w.heap.size v7 i (W z) ∧ Below w.heap.size w wr
def NR4 (z f : Nat → Int) (w : World) (g o : Nat) (v24 v16 v17 v18 v19 v20 v21 v22 v23 : Value) (wr : World) : Prop := ∃ i : Nat, i ≤ 80 ∧ v24 = .int .i64 (i : Int) ∧ v16 = .int .u64 (rds z f i 0) ∧ v17 = .int .u64 (rds z f i 1) ∧ v18 = .int .u64 (rds z f i 2) ∧ v19 = .int .u64 (rds z f i 3) ∧ v20 = .int .u64 (rds z f i 4) ∧ v21 = .int .u64 (rds z f i 5) ∧ v22 = .int .u64 (rds z f i 6) ∧ v23 = .int .u64 (rds z f i 7) ∧
  (∀ j, j < 80 → wr.cell? ⟨g, o + j, none⟩ = some (.int .u64 (W z j))) ∧ Below w.heap.size w wr
set_option maxRecDepth 100000 in
set_option maxHeartbeats 4000000 in
theorem next_calls (z f : Nat → Int) (gs os ls cs gb ob cb gk : Nat) (w : World) (hls : 8 ≤ ls)
    (hs : ∀ j, j < 8 → w.cell? ⟨gs, os + j, none⟩ = some (.int .u64 (f j))) (hb : ∀ j, j < 128 → w.cell? ⟨gb, ob + j, none⟩ = some (.int .u8 (z j))) (hk : ∀ j, j < 80 → w.cell? ⟨gk, j, none⟩ = some (.int .u64 (kk j)))
    (hz : ∀ j, j < 128 → 0 ≤ z j ∧ z j < 256) :
    Calls Tryd.prog 75 #[.slice (some ⟨gs, os, none⟩) ls cs, .slice (some ⟨gb, ob, none⟩) 128 cb, .slice (some ⟨gk, 0, none⟩) 80 80] w fun e w' => ∃ v, e = .returned v ∧ OwnU w' w.heap.size v 8 (nxt f z) ∧ Below w.heap.size w w' := by
  have HSS := Aside0.mk hs
  have HBB := Aside0.mk hb
  have HKK := Aside0.mk hk
  have HZ := Aside0.mk hz
  have HGS := Aside0.mk (World.block_lt_of_cell? w _ (hs 0 (by omega)))
  have HGB := Aside0.mk (World.block_lt_of_cell? w _ (hb 0 (by omega)))
  have HGK := Aside0.mk (World.block_lt_of_cell? w _ (hk 0 (by omega)))
  clear hs hb hk hz
  go_enter Tryd.func75, Tryd.ntmps75
  go_wp2_with fail
  go_loopw [8, 7] (fun v8 v7 wr => NR1 z w v8 v7 wr) (fun v _ _ => 16 - (intOf v).toNat)
  case atStart => exact ⟨0, by omega, rfl, OwnS.nil _ _ _, Below.refl _ _⟩
  case round =>
    obtain ⟨i, hi, rfl, hown, hb⟩ := hrel
    have HB := Aside0.mk hb
    have HOW := Aside0.mk hown
    have hsz := hb.size
    clear hb hown
    rcases Nat.lt_or_ge i 16 with h16 | h16
    · have hlt : ((i : Int) < 16) = True := eq_true (by omega)
      have HWL := Aside0.mk (W_low z i h16)
      go_wp2_with fail
      go_loopw [10, 9] (fun v10 v9 w2 => NR2 (fun j => z (8 * i + j)) wr v10 v9 w2) (fun v _ _ => 8 - (intOf v).toNat)
      case atStart => exact ⟨0, by omega, rfl, rfl, rfl⟩
      case round =>
        obtain ⟨j, hj, rfl, rfl, rfl⟩ := hrel
        rcases Nat.lt_or_ge j 8 with h8 | h8
        · have hlt2 : ((j : Int) < 8) = True := eq_true (by omega)
          have k0 := HBB.out (8 * i + j) (by omega)
          rw [← World.cell?_of_block (HB.out.block gb HGB.out)] at k0
          have hzj := HZ.out (8 * i + j) (by omega)
          have hwd := wd_b7 (fun j => z (8 * i + j)) (fun j hj => HZ.out (8 * i + j) (by omega)) j h8
          have HE : Aside0 (wd (fun j => z (8 * i + j)) (j + 1) = wd (fun j => z (8 * i + j)) j * 256 + z (8 * i + j)) := ⟨rfl⟩
          generalize wd (fun j => z (8 * i + j)) j = x at *
          generalize z (8 * i + j) = c at *
          have q1 : IntKind.u64.wrap (x * 256) = x * 256 := u64w _ (by omega) (by omega)
          have q2 : IntKind.u64.wrap c = c := u64w _ (by omega) (by omega)
          have q3 : IntKind.u64.wrap (x * 256 + c) = x * 256 + c := u64w _ (by omega) (by omega)
          have q4 : wrap64 (8 * (i : Int)) = 8 * (i : Int) := w64 _ (by omega)
          have q5 : (8 * (i : Int) + (j : Int)).toNat = 8 * i + j := by omega
          have q6 : (8 * (i : Int) + (j : Int) < 128) = True := eq_true (by omega)
          have q7 : (0 ≤ 8 * (i : Int) + (j : Int)) = True := eq_true (by omega)
          clear hzj hwd
          go_wp2_with fail
          refine ⟨⟨j + 1, by omega, rfl, ?_, rfl⟩, meas_up 8 j h8⟩
          rw [HE.out]
        · obtain rfl : j = 8 := by omega
          rw [← HWL.out]
          have HOa := Aside0.mk (HOW.out.alloc (.cells #[.int .u64 (W z i)] 37))
          have HBa := Aside0.mk (HB.out.alloc hsz (.cells #[.int .u64 (W z i)] 37))
          go_wp2_with (refine step_append HOa.out (NumsAt.one .u64 _ _ _) Tryd.underlying109 info64p rfl rfl rfl rfl rfl (fun e => by cases e) (by unfold maxLen; omega) (by omega) (by simp; omega) ?_; intro v5 w5 ho5 hg5 _ _; have HO5 := Aside0.mk ho5; have HB5 := Aside0.mk (grown_bel HBa.out hg5 (by simp; omega) (fun b hb => (HOa.out.lt b hb).1)); clear ho5 hg5)
          refine ⟨⟨i + 1, by omega, rfl, HO5.out.congr (fun j hj => ?_), HB5.out⟩, meas_up 16 i h16⟩
          by_cases hji : j < i
          · rw [if_pos hji]
          · rw [if_neg hji, show j = i by omega]
    · obtain rfl : i = 16 := by omega
      rw [show ((16 : Nat) : Int) = 16 from rfl]
      go_wp2_with fail
      go_loopw [11, 7] (fun v11 v7 wr => NR3 z w v11 v7 wr) (fun v _ _ => 80 - (intOf v).toNat)
      case atStart => exact ⟨16, by omega, by omega, rfl, HOW.out, HB.out⟩
      case round =>
        clear HB HOW hsz
        obtain ⟨i, h16, hi, rfl, hown, hb⟩ := hrel
        have HB := Aside0.mk hb
        have HOW := Aside0.mk hown
        have hsz := hb.size
        obtain ⟨g, o, cap, rfl, hnc, hg1, hg2, hcl, hfr, _⟩ := hown.open (by omega)
        have HCL := Aside0.mk hcl
        clear hb hown hfr hcl
        rcases Nat.lt_or_ge i 80 with h80 | h80
        · have hlt : ((i : Int) < 80) = True := eq_true (by omega)
          obtain ⟨m1, hm1⟩ : ∃ m, i = m + 15 := ⟨i - 15, by omega⟩
          obtain ⟨m14, hm14⟩ : ∃ m, i = m + 2 := ⟨i - 2, by omega⟩
          obtain ⟨m0, hm0⟩ : ∃ m, i = m + 16 := ⟨i - 16, by omega⟩
          obtain ⟨m9, hm9⟩ : ∃ m, i = m + 7 := ⟨i - 7, by omega⟩
          have k15 := HCL.out m1 (by omega)
          have k2 := HCL.out m14 (by omega)
          have k16 := HCL.out m0 (by omega)
          have k7 := HCL.out m9 (by omega)
          have HWH := W_high z i (by omega)
          rw [show i - 16 = m0 by omega, show i - 15 = m1 by omega, show i - 7 = m9 by omega, show i - 2 = m14 by omega] at HWH
          have HWH := Aside0.mk HWH
          have e15 : (i : Int) - 15 = (m1 : Int) := by omega
          have e2 : (i : Int) - 2 = (m14 : Int) := by omega
          have e16 : (i : Int) - 16 = (m0 : Int) := by omega
          have e7 : (i : Int) - 7 = (m9 : Int) := by omega
          have l15 : (m1 : Int) < (i : Int) := by omega
          have l2 : (m14 : Int) < (i : Int) := by omega
          have l16 : (m0 : Int) < (i : Int) := by omega
          have l7 : (m9 : Int) < (i : Int) := by omega
          have w15 : IntKind.i64.wrap (m1 : Int) = (m1 : Int) := i64w _ (by omega)
          have w2 : IntKind.i64.wrap (m14 : Int) = (m14 : Int) := i64w _ (by omega)
          have w16 : IntKind.i64.wrap (m0 : Int) = (m0 : Int) := i64w _ (by omega)
          have w7 : IntKind.i64.wrap (m9 : Int) = (m9 : Int) := i64w _ (by omega)
          have p15 : (0 : Int) ≤ (m1 : Int) := by omega
          have p2 : (0 : Int) ≤ (m14 : Int) := by omega
          have p16 : (0 : Int) ≤ (m0 : Int) := by omega
          have p7 : (0 : Int) ≤ (m9 : Int) := by omega
          have HWG : Aside0 (∀ x, W z i = x → ∀ j, j < i + 1 → (if j < i then W z j else x) = W z j) := ⟨fun x hx j hj => by
            by_cases hji : j < i
            · rw [if_pos hji]
            · rw [if_neg hji, show j = i by omega, hx]⟩
          generalize W z m1 = x1 at *
          generalize W z m14 = x14 at *
          have HX0 : Aside0 (∃ x, W z m0 = x) := ⟨_, rfl⟩
          have HX9 : Aside0 (∃ x, W z m9 = x) := ⟨_, rfl⟩
          obtain ⟨x0, hx0⟩ := HX0.out
          obtain ⟨x9, hx9⟩ := HX9.out
          rw [hx0] at k16 HWH
          rw [hx9] at k7 HWH
          have HX0 := Aside0.mk hx0
          have HX9 := Aside0.mk hx9
          clear hm1 hm14 hm0 hm9 hx0 hx9
          go_wp2_with fail
          go_quiet (fail)
          go_wp2_with fail
          refine (turn1 x1 _).mono ?_
          rintro e w1 ⟨rfl, rfl⟩
          go_wp2_with fail
          refine (turn8 x1 _).mono ?_
          rintro e w1 ⟨rfl, rfl⟩
          go_wp2_with fail
          refine (turn19 x14 _).mono ?_
          rintro e w1 ⟨rfl, rfl⟩
          go_wp2_with fail
          refine (turn61 x14 _).mono ?_
          rintro e w1 ⟨rfl, rfl⟩
          go_wp2_with fail
          go_region_held3 (fun w' => w'.cell? ⟨g, o + m0, none⟩ = some (.int .u64 x0) ∧ w'.cell? ⟨g, o + m9, none⟩ = some (.int .u64 x9)) (first | exact ⟨k16, k7⟩ | exact ⟨hk1, hk2⟩ | go_keep)
            ((refine oper_append (OwnS.alloc (OwnS.keep HOW.out (fun _ _ => rfl)) _) (NumsAt.one .u64 _ _ _) Tryd.underlying109 info64p rfl rfl rfl rfl rfl (fun e => by cases e) (by unfold maxLen; omega) (by omega) (by simp; omega) ?_; intro v5 w5 ho5 hg5 _ hkp; have hk1 := hkp g o cap rfl m0 (by omega); have hk2 := hkp g o cap rfl m9 (by omega); rw [HX0.out] at hk1; rw [HX9.out] at hk2))
          have HO5 := Aside0.mk ho5
          have HB5 := Aside0.mk (grown_bel (bel_drewN HB.out _ |>.alloc hsz _) hg5 (by simp; omega) (fun b hb => (HOW.out.lt b hb).1))
          clear ho5 hg5 hkp hk1 hk2
          go_wp2_with fail
          exact ⟨⟨i + 1, by omega, by omega, rfl, HO5.out.congr (HWG.out _ HWH.out), HB5.out⟩, meas_up 80 i h80⟩
        · obtain rfl : i = 80 := by omega
          rw [show ((80 : Nat) : Int) = 80 from rfl]
          have HF : Aside0 (∀ j, j < 8 → wr.cell? ⟨gs, os + j, none⟩ = some (.int .u64 (f j))) := ⟨fun j hj => (World.cell?_of_block (HB.out.block gs HGS.out)).trans (HSS.out j hj)⟩
          have s0 := HF.out 0 (by omega)
          rw [Nat.add_zero] at s0
          have s1 := HF.out 1 (by omega)
          have s2 := HF.out 2 (by omega)
          have s3 := HF.out 3 (by omega)
          have s4 := HF.out 4 (by omega)
          have s5 := HF.out 5 (by omega)
          have s6 := HF.out 6 (by omega)
          have s7 := HF.out 7 (by omega)
          have L0 : (0 : Int) < (ls : Int) := by omega
          have L1 : (1 : Int) < (ls : Int) := by omega
          have L2 : (2 : Int) < (ls : Int) := by omega
          have L3 : (3 : Int) < (ls : Int) := by omega
          have L4 : (4 : Int) < (ls : Int) := by omega
          have L5 : (5 : Int) < (ls : Int) := by omega
          have L6 : (6 : Int) < (ls : Int) := by omega
          have L7 : (7 : Int) < (ls : Int) := by omega
          go_wp2_with fail
          go_quiet (fail)
          go_wp2_with fail
          go_loopw [24, 16, 17, 18, 19, 20, 21, 22, 23] (fun v24 v16 v17 v18 v19 v20 v21 v22 v23 wr => NR4 z f w g o v24 v16 v17 v18 v19 v20 v21 v22 v23 wr) (fun v _ _ _ _ _ _ _ _ _ => 80 - (intOf v).toNat)
          case atStart => exact ⟨0, by omega, rfl, rfl, rfl, rfl, rfl, rfl, rfl, rfl, rfl, HCL.out, bel_drewN HB.out _⟩
          case round =>
            obtain ⟨i, hi, rfl, rfl, rfl, rfl, rfl, rfl, rfl, rfl, rfl, hc, hb⟩ := hrel
            clear s0 s1 s2 s3 s4 s5 s6 s7
            have HCL2 := Aside0.mk hc
            have HB2 := Aside0.mk hb
            have hsz2 := hb.size
            clear hc hb HCL HB HOW
            rcases Nat.lt_or_ge i 80 with h80 | h80
            · have hlt : ((i : Int) < 80) = True := eq_true (by omega)
              have kT := HKK.out i h80
              rw [← World.cell?_of_block (HB2.out.block gk HGK.out)] at kT
              have kW := HCL2.out i h80
              have HE : Aside0 (rds z f (i + 1) = rnd (rds z f i) (kk i) (W z i)) := ⟨rfl⟩
              generalize rds z f i = vv at *
              generalize kk i = ki at *
              have HWi : Aside0 (∃ x, W z i = x) := ⟨_, rfl⟩
              obtain ⟨wi, hwi⟩ := HWi.out
              rw [hwi] at kW HE
              go_wp2_with fail
              go_quiet ((go_at_call 89; exact Calls.quiet_of_same (threee _ _)))
              go_wp2_with fail
              refine (threea _ _).mono ?_
              rintro e w1 ⟨rfl, rfl⟩
              go_wp2_with fail
              refine ⟨⟨i + 1, by omega, rfl, ?_, ?_, ?_, ?_, ?_, ?_, ?_, ?_, HCL2.out, bel_drewN HB2.out _⟩, meas_up 80 i h80⟩ <;> rw [HE.out] <;> rfl
            · obtain rfl : i = 80 := by omega
              have HF2 : Aside0 (∀ j, j < 8 → wr.cell? ⟨gs, os + j, none⟩ = some (.int .u64 (f j))) := ⟨fun j hj => (World.cell?_of_block (HB2.out.block gs HGS.out)).trans (HSS.out j hj)⟩
              have s0 := HF2.out 0 (by omega)
              rw [Nat.add_zero] at s0
              have s1 := HF2.out 1 (by omega)
              have s2 := HF2.out 2 (by omega)
              have s3 := HF2.out 3 (by omega)
              have s4 := HF2.out 4 (by omega)
              have s5 := HF2.out 5 (by omega)
              have s6 := HF2.out 6 (by omega)
              have s7 := HF2.out 7 (by omega)
              have L00 : 0 < ls := by omega
              have HNX : Aside0 (nxt f z = fun j => IntKind.u64.wrap (f j + rds z f 80 j)) := ⟨rfl⟩
              generalize rds z f 80 = vv at *
              go_wp2_with fail
              go_region_held3 (fun w' => w'.cell? ⟨gs, os, none⟩ = some (.int .u64 (f 0)) ∧ w'.cell? ⟨gs, os + 1, none⟩ = some (.int .u64 (f 1)) ∧ w'.cell? ⟨gs, os + 2, none⟩ = some (.int .u64 (f 2)) ∧ w'.cell? ⟨gs, os + 3, none⟩ = some (.int .u64 (f 3)) ∧ w'.cell? ⟨gs, os + 4, none⟩ = some (.int .u64 (f 4)) ∧ w'.cell? ⟨gs, os + 5, none⟩ = some (.int .u64 (f 5)) ∧ w'.cell? ⟨gs, os + 6, none⟩ = some (.int .u64 (f 6)) ∧ w'.cell? ⟨gs, os + 7, none⟩ = some (.int .u64 (f 7)))
                (first | exact ⟨s0, s1, s2, s3, s4, s5, s6, s7⟩ | go_keep) (fail)
              go_wp2_with fail
              have HM := OwnS.made (e := 37) (k := .u64) (base := w.heap.size) wr 8 (fun j => IntKind.u64.wrap (f j + vv j)) hsz2 (by unfold maxLen; omega)
              go_ret
              exact ⟨_, rfl, by rw [HNX.out]; exact HM.keep (fun _ _ => rfl), (HB2.out.alloc hsz2 _).drew⟩
def PL (n : Nat) : Nat := 128 * ((n + 144) / 128)
def lb (n i : Nat) : Int := ((8 * n / 256 ^ i % 256 : Nat) : Int)
def pad (z : Nat → Int) (n j : Nat) : Int := if j < n then z j else if j = n then 128 else if j < PL n - 16 then 0 else lb n (PL n - 1 - j)
theorem PL_b (n : Nat) : n + 17 ≤ PL n ∧ PL n ≤ n + 144 ∧ PL n % 128 = 0 := by unfold PL; omega
theorem PL_next (n L : Nat) (h1 : n + 1 ≤ L) (h2 : L ≤ PL n - 16) : (L % 128 = 112 ↔ L = PL n - 16) := by unfold PL at *; omega
theorem pad_b (z : Nat → Int) (n : Nat) (hz : ∀ j, j < n → 0 ≤ z j ∧ z j < 256) (j : Nat) : 0 ≤ pad z n j ∧ pad z n j < 256 := by
  unfold pad lb
  split
  · exact hz j (by assumption)
  · split
    · omega
    · split <;> omega
theorem lb_zero (n : Nat) : lb n 0 = ((n % 32 * 8 : Nat) : Int) := by unfold lb; rw [Nat.pow_zero]; omega
theorem lb_succ (n i : Nat) : lb n (i + 1) = ((n / 32 / 256 ^ i % 256 : Nat) : Int) := by
  unfold lb
  have e : 8 * n / 256 ^ (i + 1) = n / 32 / 256 ^ i := by
    rw [Nat.pow_succ, Nat.mul_comm (256 ^ i) 256, ← Nat.div_div_eq_div_mul, show 8 * n / 256 = n / 32 by omega]
  rw [e]
def nn (n : Nat) : Nat → Nat
  | 0 => n
  | i + 1 => n / 32 / 256 ^ i
theorem nn_succ (n i : Nat) : nn n (i + 2) = nn n (i + 1) / 256 := by
  show n / 32 / 256 ^ (i + 1) = n / 32 / 256 ^ i / 256
  rw [Nat.pow_succ, ← Nat.div_div_eq_div_mul]
theorem nn_le (n : Nat) : ∀ i, nn n i ≤ n
  | 0 => Nat.le_refl _
  | i + 1 => Nat.le_trans (Nat.div_le_self _ _) (Nat.div_le_self _ _)
def slen : Value → Nat
  | .slice _ n _ => n
  | _ => 0
def PR1 (z : Nat → Int) (n : Nat) (w : World) (v3 : Value) (wr : World) : Prop := ∃ L : Nat, n + 1 ≤ L ∧ L ≤ PL n - 16 ∧ OwnB wr w.heap.size v3 L (pad z n) ∧ Below w.heap.size w wr
def PR2 (z : Nat → Int) (n : Nat) (w : World) (v3 v4 v5 v6 : Value) (wr : World) : Prop := ∃ i : Nat, i ≤ 16 ∧ v6 = .int .i64 (i : Int) ∧ v4 = .int .i64 (nn n i : Int) ∧ OwnB wr w.heap.size v5 i (fun j => lb n (i - 1 - j)) ∧ OwnB wr w.heap.size v3 (PL n - 16) (pad z n) ∧ Below w.heap.size w wr
theorem _root_.Go.Proofs.YtbmnkchcekacfaaDoor.P.OwnS.form {e : TypeId} {k : IntKind} {w : World} {base n : Nat} {v : Value} {z : Nat → Int} (h : OwnS e k w base v n z) : ∃ a c, v = .slice a n c := by
  rcases h with ⟨rfl, rfl⟩ | ⟨g, o, cap, cur, rfl, _⟩
  · exact ⟨_, _, rfl⟩
  · exact ⟨_, _, rfl⟩
set_option maxRecDepth 100000 in
set_option maxHeartbeats 2000000 in
theorem padded_calls (z : Nat → Int) (a : Option Addr) (n cap : Nat) (w : World) (hI : NumsAt .u8 w a n z) (hn0 : a = none → cap = 0) (hn : n ≤ 140737488351232) :
    Calls Tryd.prog 73 #[.slice a n cap] w fun e w' => ∃ v, e = .returned v ∧ OwnB w' w.heap.size v (PL n) (pad z n) ∧ Below w.heap.size w w' := by
  have HI := Aside0.mk hI
  have HN0 := Aside0.mk hn0
  have HN := Aside0.mk hn
  have HPL := Aside0.mk (PL_b n)
  clear hI hn0 hn
  have HE0 : Aside0 (OwnB (w.alloc (.cells #[] 5)) w.heap.size (.slice (some ⟨w.heap.size, 0, none⟩) 0 0) 0 z) := ⟨OwnS.made w 0 z (Nat.le_refl _) (by unfold maxLen; omega)⟩
  have HI1 := Aside0.mk (HI.out.keep (w' := w.alloc (.cells #[] 5)) (fun x hx h0 => by
    rcases HI.out with ⟨h1, _⟩ | ⟨y, h1, hc⟩
    · rw [h1] at hx; cases hx
    · rw [h1] at hx; cases hx
      have := World.block_lt_of_cell? w _ (hc 0 h0)
      rw [show (x.add 0).block = x.block by unfold Addr.add; split <;> rfl] at this
      exact Below.heap_alloc w _ _ this))
  go_enter Tryd.func73, Tryd.ntmps73
  have hN := HN.out
  have hPL := HPL.out
  go_wp2_with (first | (refine step_append HE0.out HI1.out Tryd.underlying25 info8p rfl rfl rfl rfl rfl HN0.out (by unfold maxLen; have := HN.out; omega) (by have := HN.out; omega) (by simp) ?_; intro v9 w9 ho9 hg9 _ _; have HB9 := Aside0.mk (grown_bel ((Below.refl w.heap.size w).alloc (Nat.le_refl _) _) hg9 (by simp) (fun b hb => (HE0.out.lt b hb).1)); have HB9a := Aside0.mk (HB9.out.alloc HB9.out.size (.cells #[.int .u8 128] 5)); have HO9a := Aside0.mk (OwnS.alloc ho9 (.cells #[.int .u8 128] 5)); clear ho9 hg9) | (refine step_append HO9a.out (NumsAt.one .u8 _ _ _) Tryd.underlying25 info8p rfl rfl rfl rfl rfl (fun e => by cases e) (by unfold maxLen; omega) (by omega) (by have := HB9a.out.size; simpa using this) ?_; intro v11 w11 ho11 hg11 _ _; have HB11 := Aside0.mk (grown_bel HB9a.out hg11 HB9a.out.size (fun b hb => (HO9a.out.lt b hb).1)); have HO11 := Aside0.mk ho11; clear ho11 hg11))
  have HO12 : Aside0 (OwnB w11 w.heap.size v11 (n + 1) (pad z n)) := ⟨by
    have h := HO11.out
    rw [Nat.zero_add] at h
    exact h.congr (fun j hj => by
      unfold pad
      by_cases h1 : j < n
      · rw [if_pos h1, if_pos h1, if_neg (by omega)]; rfl
      · rw [if_neg h1, if_neg h1, if_pos (by omega)])⟩
  go_loopw [3] (fun v3 wr => PR1 z n w v3 wr) (fun v _ => PL n - slen v)
  case atStart => exact ⟨n + 1, by omega, by omega, HO12.out, HB11.out⟩
  case round =>
    clear HB9a HO9a HB11 HO11 HO12 HE0 HI1
    obtain ⟨L, hL1, hL2, hown, hb⟩ := hrel
    have HOW := Aside0.mk hown
    have HB := Aside0.mk hb
    obtain ⟨x, c, rfl⟩ := hown.form
    have hsz := hb.size
    have hnx := PL_next n L hL1 hL2
    have HNX := Aside0.mk hnx
    clear hown hb
    by_cases hq : L % 128 = 112
    · have hLe := hnx.1 hq
      subst hLe
      have hne : ((((PL n - 16 : Nat) : Int)) % 128 != 112) = false := by simp; omega
      have hne2 : ((((PL n - 16 : Nat) : Int)) % 128 = 112) = True := eq_true (by omega)
      clear hnx hL1 hL2 hq
      go_wp2_with fail
      go_loopw [4, 5, 6] (fun v4 v5 v6 wr => PR2 z n w (.slice x (PL n - 16) c) v4 v5 v6 wr) (fun _ _ v _ => 16 - (intOf v).toNat)
      case atStart => exact ⟨0, by omega, rfl, rfl, OwnS.nil _ _ _, HOW.out, HB.out⟩
      case round =>
        clear HOW HB
        obtain ⟨i, hi, rfl, rfl, h5, h3, hb⟩ := hrel
        have HO5 := Aside0.mk h5
        have HO3 := Aside0.mk h3
        have HB := Aside0.mk hb
        have hsz2 := hb.size
        obtain ⟨x5, c5, rfl⟩ := h5.form
        clear h5 h3 hb
        rcases Nat.lt_or_ge i 16 with h16 | h16
        · have hlt : ((i : Int) < 16) = True := eq_true (by omega)
          rcases Nat.eq_zero_or_pos i with rfl | hi0
          · rw [show ((0 : Nat) : Int) = 0 from rfl, show nn n 0 = n from rfl]
            have HLB := Aside0.mk (lb_zero n)
            have hw1 : wrap64 ((n : Int) % 32 * 8) = (n : Int) % 32 * 8 := w64 _ (by omega)
            have hw2 : IntKind.i64.wrap ((n : Int) % 32 * 8) = (n : Int) % 32 * 8 := i64w _ (by omega)
            have hw3 : IntKind.u8.wrap ((n : Int) % 32 * 8) = lb n 0 := by rw [lb_zero, u8w]; omega
            have HD : Aside0 ((n : Int) / 32 = ((nn n 1 : Nat) : Int)) := ⟨by show _ = ((n / 32 / 256 ^ 0 : Nat) : Int); rw [Nat.pow_zero]; omega⟩
            have HM := Aside0.mk (OwnS.made (e := 5) (k := .u8) (base := w.heap.size) wr 1 (fun _ => lb n 0) hsz2 (by unfold maxLen; omega))
            have HT := (HO5.out.alloc (.cells #[.int .u8 (lb n 0)] 5)).numsAt
            obtain ⟨a', c', e', hnum, hnn⟩ := HT
            cases e'
            have HNUM := Aside0.mk hnum
            have HNN := Aside0.mk hnn
            have HBa := Aside0.mk (HB.out.alloc hsz2 (.cells #[.int .u8 (lb n 0)] 5))
            have hsza := HBa.out.size
            have HO3a := Aside0.mk (HO3.out.alloc (.cells #[.int .u8 (lb n 0)] 5))
            have HLT := Aside0.mk (HO3.out.lt)
            clear hnum hnn
            go_wp2_with (refine step_append HM.out HNUM.out Tryd.underlying25 info8p rfl rfl rfl rfl rfl HNN.out (by unfold maxLen; omega) (by omega) (by simpa using hsza) ?_; intro v5 w5 ho5 hg5 _ _; have HB5 := Aside0.mk (grown_bel HBa.out hg5 hsza (fun b hb => (HM.out.lt b hb).1)); have HO35 := Aside0.mk (HO3a.out.keep (fun b hb => hg5.block b (HO3a.out.lt b hb).2 (fun e => by have := (HLT.out b hb).2; simp only [Value.ownBlock, Option.some.injEq] at e; omega))); have HO55 := Aside0.mk ho5; clear ho5 hg5)
            refine ⟨⟨1, by omega, rfl, by rw [← HD.out], HO55.out.congr (fun j hj => ?_), HO35.out, HB5.out⟩, by simp only [intOf]; omega⟩
            have : j = 0 := by omega
            subst this; rfl
          · obtain ⟨k, hk⟩ : ∃ k, i = k + 1 := ⟨i - 1, by omega⟩
            have hne0 : ((i : Int) = 0) = False := eq_false (by omega)
            have hne1 : ((i : Int) == 0) = false := by simp; omega
            have HNI : Aside0 (((nn n i : Nat) : Int) / 256 = ((nn n (i + 1) : Nat) : Int)) := ⟨by rw [hk, nn_succ]; omega⟩
            have HLB : Aside0 (lb n i = ((nn n i % 256 : Nat) : Int)) := ⟨by rw [hk, lb_succ]; rfl⟩
            have hmn : nn n i ≤ n := nn_le n i
            generalize hm : nn n i = m at *
            have hw3 : IntKind.u8.wrap ((m : Int) % 256) = lb n i := by rw [HLB.out, u8w]; omega
            clear hk hm
            have HM := Aside0.mk (OwnS.made (e := 5) (k := .u8) (base := w.heap.size) wr 1 (fun _ => lb n i) hsz2 (by unfold maxLen; omega))
            have HT := (HO5.out.alloc (.cells #[.int .u8 (lb n i)] 5)).numsAt
            obtain ⟨a', c', e', hnum, hnn⟩ := HT
            cases e'
            have HNUM := Aside0.mk hnum
            have HNN := Aside0.mk hnn
            have HBa := Aside0.mk (HB.out.alloc hsz2 (.cells #[.int .u8 (lb n i)] 5))
            have hsza := HBa.out.size
            have HO3a := Aside0.mk (HO3.out.alloc (.cells #[.int .u8 (lb n i)] 5))
            have HLT := Aside0.mk (HO3.out.lt)
            clear hnum hnn
            go_wp2_with (refine step_append HM.out HNUM.out Tryd.underlying25 info8p rfl rfl rfl rfl rfl HNN.out (by unfold maxLen; omega) (by omega) (by simpa using hsza) ?_; intro v5 w5 ho5 hg5 _ _; have HB5 := Aside0.mk (grown_bel HBa.out hg5 hsza (fun b hb => (HM.out.lt b hb).1)); have HO35 := Aside0.mk (HO3a.out.keep (fun b hb => hg5.block b (HO3a.out.lt b hb).2 (fun e => by have := (HLT.out b hb).2; simp only [Value.ownBlock, Option.some.injEq] at e; omega))); have HO55 := Aside0.mk ho5; clear ho5 hg5)
            refine ⟨⟨i + 1, by omega, rfl, by rw [← HNI.out], (show 1 + i = i + 1 by omega) ▸ HO55.out.congr (fun j hj => ?_), HO35.out, HB5.out⟩, meas_up 16 i h16⟩
            by_cases hj0 : j < 1
            · rw [if_pos hj0, show 1 + i - 1 - j = i by omega]
            · rw [if_neg hj0, show i - 1 - (j - 1) = 1 + i - 1 - j by omega]
        · obtain rfl : i = 16 := by omega
          rw [show ((16 : Nat) : Int) = 16 from rfl]
          have HT := HO5.out.numsAt
          obtain ⟨a', c', e', hnum, hnn⟩ := HT
          cases e'
          have HNUM := Aside0.mk hnum
          have HNN := Aside0.mk hnn
          clear hnum hnn
          go_wp2_with (refine step_append HO3.out HNUM.out Tryd.underlying25 info8p rfl rfl rfl rfl rfl HNN.out (by unfold maxLen; omega) (by omega) hsz2 ?_; intro v46 w46 ho hg _ _; have HB6 := Aside0.mk (grown_bel HB.out hg hsz2 (fun b hb => (HO3.out.lt b hb).1)); have HO6 := Aside0.mk ho; clear ho hg)
          go_ret
          refine ⟨v46, rfl, ?_, HB6.out⟩
          have h := HO6.out
          rw [show PL n - 16 + 16 = PL n by omega] at h
          exact h.congr (fun j hj => by
            by_cases h1 : j < PL n - 16
            · rw [if_pos h1]
            · rw [if_neg h1]
              unfold pad
              rw [if_neg (by omega), if_neg (by omega), if_neg h1, show 16 - 1 - (j - (PL n - 16)) = PL n - 1 - j by omega])
    · have hne : ((L : Int) % 128 != 112) = true := by simp; omega
      have hne2 : ((L : Int) % 128 = 112) = False := eq_false (by omega)
      have hLl : L < PL n - 16 := by have := hnx; omega
      have HOa := Aside0.mk (HOW.out.alloc (.cells #[.int .u8 0] 5))
      have HBa := Aside0.mk (HB.out.alloc hsz (.cells #[.int .u8 0] 5))
      have hsza := HBa.out.size
      clear hnx
      go_wp2_with (refine step_append HOa.out (NumsAt.one .u8 _ _ _) Tryd.underlying25 info8p rfl rfl rfl rfl rfl (fun e => by cases e) (by unfold maxLen; omega) (by omega) (by simpa using hsza) ?_; intro v5 w5 ho5 hg5 _ _; have HB5 := Aside0.mk (grown_bel HBa.out hg5 hsza (fun b hb => (HOa.out.lt b hb).1)); obtain ⟨x5, c5, rfl⟩ := ho5.form; have HO5 := Aside0.mk ho5; clear ho5 hg5)
      refine ⟨⟨L + 1, by omega, by omega, HO5.out.congr (fun j hj => ?_), HB5.out⟩, ?_⟩
      · by_cases h1 : j < L
        · rw [if_pos h1]
        · rw [if_neg h1]
          unfold pad
          rw [if_neg (by omega), if_neg (by omega), if_pos (by omega)]
      · show PL n - (L + 1) < PL n - L
        omega
def iv : Nat → Int := lst8 7640891576956012808 13503953896175478587 4354685564936845355 11912009170470909681 5840696475078001361 11170449401992604703 2270897969802886507 6620516959819538809
def absorb (z : Nat → Int) : Nat → Nat → Int
  | 0 => iv
  | k + 1 => nxt (absorb z k) (fun j => z (128 * k + j))
def ob (s : Nat → Int) (i : Nat) : Int := s (i / 8) / 2 ^ (8 * (7 - i % 8)) % 256
def dg (z : Nat → Int) (n : Nat) : Nat → Int := ob (absorb (pad z n) (PL n / 128))
def sN (n : Nat) (z : Nat → Int) : ByteArray := strOfNums ((List.range n).map z)
theorem getD_range (n : Nat) (z : Nat → Int) (i : Nat) (h : i < n) : ((List.range n).map z).getD i 0 = z i := by
  rw [List.getD_eq_getElem?_getD]; simp [h]
theorem str_cells {w : World} {g o n cap : Nat} {z : Nat → Int} (h : ∀ j, j < n → w.cell? ⟨g, o + j, none⟩ = some (.int .u8 (z j))) : (convert 25 9 (.slice (some ⟨g, o, none⟩) n cap)).run Tryd.prog w = .ok (.string (sN n z)) w :=
  run_convert_bytes_arg w 25 5 Tryd.underlying25 Tryd.underlying5 g o n cap ((List.range n).map z) (by simp) (fun i hi => by rw [getD_range n z i hi]; exact h i hi) 9 Tryd.underlying9
theorem OwnB.str {w : World} {base n : Nat} {v : Value} {z : Nat → Int} (h : OwnB w base v n z) (hn : 0 < n) : (convert 25 9 v).run Tryd.prog w = .ok (.string (sN n z)) w := by
  obtain ⟨g, o, cap, rfl, _, _, _, hc, _⟩ := OwnS.open h hn
  exact str_cells hc
def OF1 (z : Nat → Int) (n pl : Nat) (w : World) (v4 : Value) (gk : Nat) (v6 v3 : Value) (wr : World) : Prop := ∃ k m : Nat, k ≤ pl / 128 ∧ m = 128 * k ∧ v6 = .int .i64 (m : Int) ∧ OwnU wr w.heap.size v3 8 (absorb (pad z n) k) ∧ OwnB wr w.heap.size v4 (pl) (pad z n) ∧ (∀ j, j < 80 → wr.cell? ⟨gk, j, none⟩ = some (.int .u64 (kk j))) ∧ Below w.heap.size w wr
def OF2 (S : Nat → Int) (w : World) (gs os : Nat) (v31 v7 : Value) (wr : World) : Prop := ∃ q : Nat, q ≤ 8 ∧ v31 = .int .i64 (q : Int) ∧ OwnB wr w.heap.size v7 (8 * q) (ob S) ∧ (∀ j, j < 8 → wr.cell? ⟨gs, os + j, none⟩ = some (.int .u64 (S j))) ∧ Below w.heap.size w wr ∧ v7.ownBlock ≠ some gs
def OF3 (S : Nat → Int) (w : World) (gs os q : Nat) (v10 v7 : Value) (wr : World) : Prop := ∃ r : Nat, r ≤ 8 ∧ v10 = .int .i64 ((r : Int) - 1) ∧ OwnB wr w.heap.size v7 (8 * q + (8 - r)) (ob S) ∧ (∀ j, j < 8 → wr.cell? ⟨gs, os + j, none⟩ = some (.int .u64 (S j))) ∧ Below w.heap.size w wr ∧ v7.ownBlock ≠ some gs
set_option maxRecDepth 100000 in
set_option maxHeartbeats 2000000 in
theorem refof_calls (z : Nat → Int) (a : Option Addr) (n cap : Nat) (w : World) (hI : NumsAt .u8 w a n z) (hn0 : a = none → cap = 0) (hn : n ≤ 140737488351232) (hz : ∀ j, j < n → 0 ≤ z j ∧ z j < 256) :
    Calls Tryd.prog 42 #[.slice a n cap] w fun e w' => e = .returned (.string (sN 64 (dg z n))) ∧ Below w.heap.size w w' := by
  have HN := Aside0.mk hn
  have HPL := Aside0.mk (PL_b n)
  have HPB := Aside0.mk (pad_b z n hz)
  have HS0 := Aside0.mk (OwnS.made (e := 37) (k := .u64) (base := w.heap.size) w 8 iv (Nat.le_refl _) (by unfold maxLen; omega))
  have HB0 := Aside0.mk ((Below.refl w.heap.size w).alloc (Nat.le_refl _) (.cells (FR .u64 8 iv) 37))
  have HI := Aside0.mk (hI.keep (w' := w.alloc (.cells (FR .u64 8 iv) 37)) (fun x hx h0 => by
    rcases hI with ⟨h1, _⟩ | ⟨y, h1, hc⟩
    · rw [h1] at hx; cases hx
    · rw [h1] at hx; cases hx
      have := World.block_lt_of_cell? w _ (hc 0 h0)
      rw [show (x.add 0).block = x.block by unfold Addr.add; split <;> rfl] at this
      exact Below.heap_alloc w _ _ this))
  clear hI
  have HP := Aside0.mk (padded_calls z a n cap (w.alloc (.cells (FR .u64 8 iv) 37)) HI.out hn0 hn)
  clear hn hn0 hz
  obtain ⟨pl, hpl⟩ : ∃ x, PL n = x := ⟨_, rfl⟩
  rw [hpl] at HP HPL
  have HDG : Aside0 (dg z n = ob (absorb (pad z n) (pl / 128))) := ⟨by rw [← hpl]; rfl⟩
  clear hpl
  go_enter Tryd.func42, Tryd.ntmps42
  go_wp2_with fail
  refine (HP.out).mono ?_
  rintro e w1 ⟨v, rfl, hp, hb⟩
  have HB1 := Aside0.mk (HB0.out.trans (hb.mono HB0.out.size))
  have hlt0 := hb.size
  have HS1 := Aside0.mk (HS0.out.below hb (fun b h => (HS0.out.lt b h).2))
  have HA1 := Aside0.mk (OwnS.low hp HB0.out.size)
  clear HP HS0 HB0 hp hb
  go_wp2_with fail
  refine (numbers_calls w1).mono ?_
  rintro e w2 ⟨rfl, rfl⟩
  have HB2 := Aside0.mk (HB1.out.alloc HB1.out.size (.cells (FR .u64 80 kk) 37))
  have HS2 := Aside0.mk (HS1.out.alloc (.cells (FR .u64 80 kk) 37))
  have HA2 := Aside0.mk (HA1.out.alloc (.cells (FR .u64 80 kk) 37))
  have HK2 := Aside0.mk (Row.new w1 .u64 80 kk 37).cell
  have hsz1 := HB1.out.size
  clear HB1 HS1 HA1
  go_wp2_with fail
  generalize w1.heap.size = gk at *
  go_loopw [6, 3] (fun v6 v3 wr => OF1 z n pl w v gk v6 v3 wr) (fun v _ _ => pl - (intOf v).toNat)
  case atStart => exact ⟨0, 0, by omega, rfl, rfl, HS2.out, HA2.out, HK2.out, HB2.out⟩
  case round =>
    clear HB2 HS2 HA2 HK2
    obtain ⟨k, m, hk, hm, rfl, h3, h4, hkk, hb⟩ := hrel
    have hPL := HPL.out
    have hN := HN.out
    have HB := Aside0.mk hb
    have HK := Aside0.mk hkk
    have H3 := Aside0.mk h3
    have H4 := Aside0.mk h4
    have hsz := hb.size
    obtain ⟨g4, o4, c4, rfl, hc4, hg4, hl4, hcl4, _, _⟩ := h4.open (by omega)
    obtain ⟨g3, o3, c3, rfl, hc3, hg3, hl3, hcl3, _, _⟩ := h3.open (by omega)
    have hmx : c4 ≤ 9223372036854775807 := by
      rcases h4 with ⟨h, _⟩ | ⟨_, _, _, _, h, _, _, _, hm, _⟩
      · cases h
      · cases h; unfold maxLen at hm; omega
    have HC4 := Aside0.mk hcl4
    have HC3 := Aside0.mk hcl3
    clear hb hkk h3 h4 hcl4 hcl3
    rcases Nat.lt_or_ge k (pl / 128) with hlt | hge
    · have HNX := Aside0.mk (next_calls (fun j => pad z n (128 * k + j)) (absorb (pad z n) k) g3 o3 8 c3 g4 (o4 + m) (c4 - m) gk wr (by omega) HC3.out (fun j hj => by
        rw [show o4 + m + j = o4 + (128 * k + j) by omega]; exact HC4.out (128 * k + j) (by omega)) HK.out (fun j _ => HPB.out _))
      have hm2 : m + 128 ≤ pl := by omega
      have HM := Aside0.mk hm
      have q1 : ((m : Int) < (pl : Int)) = True := eq_true (by omega)
      have q2 : wrap64 ((m : Int) + 128) = (m : Int) + 128 := w64 _ (by omega)
      have q3 : IntKind.i64.wrap ((m : Int) + 128) = (m : Int) + 128 := i64w _ (by omega)
      have q4 : ((m : Int) + 128).toNat = m + 128 := by omega
      have q5 : (m : Int) + 128 ≤ (c4 : Int) := by omega
      have q6 : m + 128 - m = 128 := by omega
      clear hm hPL hN hk
      generalize pl = pl2 at *
      go_wp2_with fail
      refine (HNX.out).mono ?_
      rintro e w3 ⟨v3, rfl, ho3, hb3⟩
      have HB3 := Aside0.mk (HB.out.trans (hb3.mono hsz))
      have HO3 := Aside0.mk (OwnS.low ho3 hsz)
      have HO4 := Aside0.mk (H4.out.below hb3 (fun b h => (H4.out.lt b h).2))
      have HK3 : Aside0 (∀ j, j < 80 → w3.cell? ⟨gk, j, none⟩ = some (.int .u64 (kk j))) := ⟨fun j hj => (World.cell?_of_block (hb3.block gk (World.block_lt_of_cell? _ _ (HK.out 0 (by omega))))).trans (HK.out j hj)⟩
      clear ho3 hb3 HNX
      go_wp2_with fail
      refine ⟨⟨k + 1, m + 128, by have := HM.out; omega, by have := HM.out; omega, by simp, HO3.out, HO4.out, HK3.out, HB3.out⟩, ?_⟩
      simp only [intOf]
      omega
    · obtain rfl : k = pl / 128 := by omega
      have q1 : ((m : Int) < (pl : Int)) = False := eq_false (by omega)
      have HGL := Aside0.mk hl3
      generalize absorb (pad z n) (pl / 128) = S at *
      clear hk hge hPL hN hm
      go_wp2_with fail
      go_loopw [31, 7] (fun v31 v7 wr => OF2 S w g3 o3 v31 v7 wr) (fun v _ _ => 8 - (intOf v).toNat)
      case atStart => exact ⟨0, by omega, rfl, OwnS.nil _ _ _, HC3.out, HB.out, by simp [Value.ownBlock]⟩
      case round =>
        clear HB HK H3 H4 HC4 HC3
        obtain ⟨q, hq, rfl, ho7, hc, hb, hne⟩ := hrel
        have HO7 := Aside0.mk ho7
        have HC := Aside0.mk hc
        have HB := Aside0.mk hb
        have HNE := Aside0.mk hne
        have hszq := hb.size
        clear ho7 hb hne
        rcases Nat.lt_or_ge q 8 with h8 | h8
        · have hlt : ((q : Int) < 8) = True := eq_true (by omega)
          have k0 := hc q h8
          clear hc
          go_wp2_with fail
          go_loopw [10, 7] (fun v10 v7 wr => OF3 S w g3 o3 q v10 v7 wr) (fun v _ _ => ((intOf v) + 1).toNat)
          case atStart => exact ⟨8, by omega, rfl, HO7.out, HC.out, HB.out, HNE.out⟩
          case round =>
            clear HO7 HC HB HNE k0
            obtain ⟨r, hr, rfl, ho7, hc, hb, hne⟩ := hrel
            have HO7 := Aside0.mk ho7
            have HC := Aside0.mk hc
            have HB := Aside0.mk hb
            have HNE := Aside0.mk hne
            have hszr := hb.size
            clear ho7 hb hne
            rcases Nat.eq_zero_or_pos r with rfl | hr0
            · rw [show (((0 : Nat) : Int) - 1) = -1 from rfl]
              clear hc
              go_wp2_with fail
              exact ⟨⟨q + 1, by omega, rfl, HO7.out, HC.out, HB.out, HNE.out⟩, meas_up 8 q h8⟩
            · obtain ⟨t, rfl⟩ : ∃ t, r = t + 1 := ⟨r - 1, by omega⟩
              rw [show (((t + 1 : Nat) : Int) - 1) = (t : Int) by omega]
              have hge : ((t : Int) ≥ 0) = True := eq_true (by omega)
              have q1 : wrap64 (8 * (t : Int)) = 8 * (t : Int) := w64 _ (by omega)
              have q2 : IntKind.i64.wrap (8 * (t : Int)) = 8 * (t : Int) := i64w _ (by omega)
              have q3 : IntKind.u64.wrap (8 * (t : Int)) = 8 * (t : Int) := u64w _ (by omega) (by omega)
              have q4 : (8 * (t : Int)).toNat = 8 * t := by omega
              have q5 : 0 ≤ 8 * (t : Int) := by omega
              have q6 : 8 * (t : Int) ≤ 64 := by omega
              have HX : Aside0 (S q / 2 ^ (8 * t) % 256 = ob S (8 * q + (8 - (t + 1)))) := ⟨by
                unfold ob
                rw [show (8 * q + (8 - (t + 1))) / 8 = q by omega, show 7 - (8 * q + (8 - (t + 1))) % 8 = t by omega]⟩
              have HOa := Aside0.mk (HO7.out.alloc (.cells #[.int .u8 (S q / 2 ^ (8 * t) % 256)] 5))
              have HBa := Aside0.mk (HB.out.alloc hszr (.cells #[.int .u8 (S q / 2 ^ (8 * t) % 256)] 5))
              have hsza := HBa.out.size
              have HLT := Aside0.mk (World.block_lt_of_cell? _ _ (hc 0 (by omega)))
              clear hc
              go_wp2_with (refine step_append HOa.out (NumsAt.one .u8 _ _ _) Tryd.underlying25 info8p rfl rfl rfl rfl rfl (fun e => by cases e) (by unfold maxLen; omega) (by omega) (by simpa using hsza) ?_; intro v5 w5 ho5 hg5 hat _; have HG5 := Aside0.mk hg5; have HAT := Aside0.mk hat; have HO5 := Aside0.mk ho5; clear ho5 hg5 hat)
              have hg5 := HG5.out
              have HB5 := Aside0.mk (grown_bel HBa.out hg5 hsza (fun b hb => (HOa.out.lt b hb).1))
              have HC5 : Aside0 (∀ j, j < 8 → w5.cell? ⟨g3, o3 + j, none⟩ = some (.int .u64 (S j))) := ⟨fun j hj => (World.cell?_of_block (a := ⟨g3, o3 + j, none⟩) (hg5.block g3 (by have := HLT.out; simp at this ⊢; omega) (fun e => HNE.out e.symm))).trans ((World.cell?_of_block (a := ⟨g3, o3 + j, none⟩) (Below.heap_alloc wr _ g3 HLT.out)).trans (HC.out j hj))⟩
              refine ⟨⟨t, by omega, rfl, ?_, HC5.out, HB5.out, ?_⟩, by simp only [intOf]; omega⟩
              · have h := HO5.out
                rw [show 8 * q + (8 - (t + 1)) + 1 = 8 * q + (8 - t) by omega] at h
                exact h.congr (fun j hj => by
                  by_cases h1 : j < 8 * q + (8 - (t + 1))
                  · rw [if_pos h1]
                  · rw [if_neg h1, HX.out, show j = 8 * q + (8 - (t + 1)) by omega])
              · rcases HAT.out with h | h
                · rw [h]; exact HNE.out
                · rw [h]; intro e; have h9 : g3 < wr.heap.size := HLT.out; simp at e; omega
        · obtain rfl : q = 8 := by omega
          have hcv := OwnB.str HO7.out (by omega)
          rw [show 8 * 8 = 64 from rfl] at hcv
          clear hc
          go_wp2_with fail
          go_ret
          rw [HDG.out]
          exact ⟨rfl, HB.out⟩
def HashOf (w : World) (B g : Nat) (z : Nat → Int) (n : Nat) (v : Value) : Prop :=
  yH w g (absorb z (n / 128)) v (n : Int) ∧ OwnB w B v (n % 128) (fun j => z (128 * (n / 128) + j))
theorem new_calls (w : World) : Calls Tryd.prog 55 #[] w fun e w' => e = .returned (.pointer (some ⟨w.heap.size, 0, none⟩)) ∧ w' = w.alloc (.cells (hcells iv (.slice none 0 0) 0) 119) := by
  go_enter Tryd.func55, Tryd.ntmps55
  go_wp2_with fail
  go_ret
  exact ⟨rfl, rfl⟩
def wlen (w : World) (g : Nat) : Nat := match w.cell? ⟨g, 8, none⟩ with
  | some v => slen v
  | none => 0
def WR1 (Z : Nat → Int) (q N : Nat) (B g : Nat) (v0 : Value) (w : World) (wr : World) : Prop := ∃ k v, 128 * (q + k) ≤ N ∧ yH wr g (absorb Z (q + k)) v (N : Int) ∧ OwnB wr B v (N - 128 * (q + k)) (fun j => Z (128 * (q + k) + j)) ∧ Tab wr ∧ Chg (fun b => b = g ∨ some b = v0.ownBlock) w wr ∧ (v.ownBlock = v0.ownBlock ∨ ∀ b, v.ownBlock = some b → w.heap.size ≤ b)
theorem wd_congr {z z' : Nat → Int} : ∀ i, (∀ j, j < i → z j = z' j) → wd z i = wd z' i
  | 0, _ => rfl
  | i + 1, h => by rw [wd, wd, wd_congr i (fun j hj => h j (by omega)), h i (by omega)]
theorem wl_congr {z z' : Nat → Int} (hz : ∀ j, j < 128 → z j = z' j) : ∀ i, wl z i = wl z' i
  | 0 => rfl
  | i + 1 => by
    rw [wl, wl, wl_congr hz i]
    congr 1
    split
    · exact wd_congr 8 (fun j hj => hz _ (by omega))
    · rfl
theorem W_congr {z z' : Nat → Int} (hz : ∀ j, j < 128 → z j = z' j) (i : Nat) : W z i = W z' i := by unfold W; rw [wl_congr hz]
theorem rds_congr {z z' f f' : Nat → Int} (hf : f = f') (hz : ∀ j, j < 128 → z j = z' j) : ∀ i, i ≤ 80 → rds z f i = rds z' f' i
  | 0, _ => hf
  | i + 1, h => by
    have ih := rds_congr hf hz i (by omega)
    show rnd _ _ _ = rnd _ _ _
    rw [ih, W_congr hz i]
theorem nxt_congr {z z' f f' : Nat → Int} (hf : f = f') (hz : ∀ j, j < 128 → z j = z' j) : nxt f z = nxt f' z' := by
  funext j
  unfold nxt
  rw [rds_congr hf hz 80 (Nat.le_refl _), hf]
theorem _root_.Go.Proofs.YtbmnkchcekacfaaDoor.P.OwnS.cut {e : TypeId} {k : IntKind} {w : World} {base n m g o cap : Nat} {z : Nat → Int} (h : OwnS e k w base (.slice (some ⟨g, o, none⟩) n cap) n z) (hm : m ≤ n) : OwnS e k w base (.slice (if cap = m then some ⟨g, o, none⟩ else some ⟨g, o + m, none⟩) (n - m) (cap - m)) (n - m) (fun j => z (m + j)) := by
  rcases h with ⟨h, _⟩ | ⟨g', o', cap', cur, h1, hb, hg, hn2, hx, hs, ht⟩
  · cases h
  · cases h1
    by_cases hc : cap = m
    · rw [if_pos hc]
      exact .inr ⟨g, o, cap - m, cur, rfl, hb, hg, by omega, by omega, by omega, fun j hj => by omega⟩
    · rw [if_neg hc]
      exact .inr ⟨g, o + m, cap - m, cur, rfl, hb, hg, by omega, by omega, by omega, fun j hj => by rw [show o + m + j = o + (m + j) by omega]; exact ht (m + j) (by omega)⟩
theorem cut_own (g o cap m n : Nat) : (Value.slice (if cap = m then some ⟨g, o, none⟩ else some ⟨g, o + m, none⟩) n (cap - m)).ownBlock = some g := by split <;> rfl
theorem hash_ne {w : World} {g B n : Nat} {f z : Nat → Int} {v u : Value} {c : Int} (h : yH w g f u c) (ho : OwnB w B v n z) : v.ownBlock ≠ some g := by
  intro e
  rcases ho with ⟨rfl, _⟩ | ⟨g', o, cap, cur, rfl, _, hg, _⟩
  · cases e
  · cases e
    unfold yH at h
    rw [h] at hg
    cases hg
set_option maxRecDepth 100000 in
set_option maxHeartbeats 2000000 in
theorem write_calls (z y : Nat → Int) (n m : Nat) (B g : Nat) (v : Value) (a : Option Addr) (cap : Nat) (w : World) (ht : Tab w) (hh : HashOf w B g z n v) (hB : 2 < B) (hgB : B ≤ g ∧ B ≤ w.heap.size)
    (hI : NumsAt .u8 w a m y) (hn0 : a = none → cap = 0) (hag : ∀ x, a = some x → 0 < m → x.block ≠ g) (hnm : n + m ≤ 1099511627776) (hz : ∀ j, j < n → 0 ≤ z j ∧ z j < 256) (hy : ∀ j, j < m → 0 ≤ y j ∧ y j < 256) :
    Calls Tryd.prog 56 #[.pointer (some ⟨g, 0, none⟩), .slice a m cap] w fun e w' => e = .returned (.tuple #[]) ∧ ∃ v', HashOf w' B g (fun j => if j < n then z j else y (j - n)) (n + m) v' ∧ Chg (fun b => b = g ∨ some b = v.ownBlock) w w' ∧ (v'.ownBlock = v.ownBlock ∨ ∀ b, v'.ownBlock = some b → w.heap.size ≤ b) := by
  obtain ⟨hh1, hh2⟩ := hh
  obtain ⟨x0, c0, rfl⟩ := hh2.form
  have k8 := hh1.cell8
  have k9 := hh1.cell9
  have f8 := hh1.fro 8
  have f9 := hh1.fro 9
  have HH := Aside0.mk hh1
  have hq1 : IntKind.u64.wrap (m : Int) = (m : Int) := u64w _ (by omega) (by omega)
  have hq2 : IntKind.u64.wrap ((n : Int) + (m : Int)) = (n : Int) + (m : Int) := u64w _ (by omega) (by omega)
  have HNE := Aside0.mk (hash_ne hh1 hh2)
  have hgl := hh1.lt
  have HOV := Aside0.mk (OwnS.keep (w' := w.setCell ⟨g, 9, none⟩ (.int .u64 ((n : Int) + (m : Int)))) hh2 (fun b hb => heap_setCell_other _ _ _ _ (fun e => HNE.out (by rw [hb, e]))))
  have HI := Aside0.mk (hI.keep (w' := w.setCell ⟨g, 9, none⟩ (.int .u64 ((n : Int) + (m : Int)))) (fun x hx h0 => heap_setCell_other _ _ _ _ (hag x hx h0)))
  have HH1 := Aside0.mk (hh1.set9 ((n : Int) + (m : Int)))
  have HT1 := Aside0.mk (ht.keep (w' := w.setCell ⟨g, 9, none⟩ (.int .u64 ((n : Int) + (m : Int)))) (heap_setCell_other _ _ _ _ (show (2 : Nat) ≠ g by omega)))
  have HC1 := Aside0.mk ((Chg.refl (fun b => b = g ∨ some b = (Value.slice x0 (n % 128) c0).ownBlock) w).set ⟨g, 9, none⟩ (.int .u64 ((n : Int) + (m : Int))) (.inl (.inl rfl)))
  have HSZ : Aside0 ((w.setCell ⟨g, 9, none⟩ (.int .u64 ((n : Int) + (m : Int)))).heap.size = w.heap.size) := ⟨by simp [World.setCell]⟩
  have HLT := Aside0.mk hh2.lt
  have HZZ : Aside0 (∀ j, j < n + m → 0 ≤ (if j < n then z j else y (j - n)) ∧ (if j < n then z j else y (j - n)) < 256) := ⟨fun j hj => by
    split
    · exact hz j (by assumption)
    · exact hy (j - n) (by omega)⟩
  have HST : Aside0 (absorb z (n / 128) = absorb (fun j => if j < n then z j else y (j - n)) (n / 128)) := ⟨by
    have key : ∀ k, 128 * k ≤ n → absorb z k = absorb (fun j => if j < n then z j else y (j - n)) k := by
      intro k
      induction k with
      | zero => intro _; rfl
      | succ k ih =>
        intro hk
        exact nxt_congr (ih (by omega)) (fun j hj => by show _ = (if 128 * k + j < n then _ else _); rw [if_pos (by omega)])
    exact key _ (by omega)⟩
  have HB := Aside0.mk hB
  have HGB := Aside0.mk hgB
  clear hh1 hh2 hI hag hz hy ht
  have hbs : B ≤ (w.setCell ⟨g, 9, none⟩ (.int .u64 ((n : Int) + (m : Int)))).heap.size := by rw [HSZ.out]; exact hgB.2
  go_enter Tryd.func56, Tryd.ntmps56
  go_wp2_with (refine step_append HOV.out HI.out Tryd.underlying25 info8p rfl rfl rfl rfl rfl hn0 (by unfold maxLen; omega) (by omega) hbs ?_; intro v5 w5 ho5 hg5 hat _; obtain ⟨x5, c5, rfl⟩ := ho5.form; have HG5 := Aside0.mk hg5; have HAT := Aside0.mk hat; have HO5 := Aside0.mk ho5; have HH5 := Aside0.mk (HH1.out.keep (hg5.block g (by rw [HSZ.out]; exact hgl) (fun e => HNE.out e.symm))); have k85 := HH5.out.cell8; have f85 := HH5.out.fro 8; clear ho5 hg5 hat)
  have HSB : Aside0 (∀ b, (Value.slice x5 (n % 128 + m) c5).ownBlock = some b → b ≠ g) := ⟨fun b hb e => hash_ne HH5.out HO5.out (by rw [hb, e])⟩
  have HH6 := Aside0.mk (HH5.out.set8 (.slice x5 (n % 128 + m) c5))
  have HO6 := Aside0.mk (HO5.out.keep (w' := w5.setCell ⟨g, 8, none⟩ (.slice x5 (n % 128 + m) c5)) (fun b hb => heap_setCell_other _ _ _ _ (HSB.out b hb)))
  have HC6 : Aside0 (Chg (fun b => b = g ∨ some b = (Value.slice x0 (n % 128) c0).ownBlock) w (w5.setCell ⟨g, 8, none⟩ (.slice x5 (n % 128 + m) c5))) := ⟨(HC1.out.trans ⟨HG5.out.os, HG5.out.tape, HG5.out.output, HG5.out.size, fun b hb hp => HG5.out.block b hb (fun e => hp (.inr e))⟩).set ⟨g, 8, none⟩ _ (.inl (.inl rfl))⟩
  have HT6 : Aside0 (Tab (w5.setCell ⟨g, 8, none⟩ (.slice x5 (n % 128 + m) c5))) := ⟨(HT1.out.keep (HG5.out.block _ HT1.out.lt (fun e => by have := (HLT.out _ e.symm).1; have := HB.out; omega))).keep (heap_setCell_other _ _ _ _ (show (2 : Nat) ≠ g by have := HB.out; have := HGB.out; omega))⟩
  obtain ⟨Z, hZ⟩ : ∃ Z, Z = fun j => if j < n then z j else y (j - n) := ⟨_, rfl⟩
  rw [← hZ] at HST
  have HZB : Aside0 (∀ j, j < n + m → 0 ≤ Z j ∧ Z j < 256) := ⟨by rw [hZ]; exact HZZ.out⟩
  have HO7 : Aside0 (OwnB (w5.setCell ⟨g, 8, none⟩ (.slice x5 (n % 128 + m) c5)) B (.slice x5 (n % 128 + m) c5) (n + m - 128 * (n / 128 + 0)) (fun j => Z (128 * (n / 128 + 0) + j))) := ⟨by
    have h := HO6.out
    have e : n % 128 + m = n + m - 128 * (n / 128 + 0) := by omega
    unfold OwnB at h ⊢
    rw [← e]
    exact h.congr (fun j hj => by
      rw [hZ]
      show _ = (if 128 * (n / 128 + 0) + j < n then _ else _)
      by_cases h1 : j < n % 128
      · rw [if_pos h1, if_pos (by omega)]; rfl
      · rw [if_neg h1, if_neg (by omega), show 128 * (n / 128 + 0) + j - n = j - n % 128 by omega])⟩
  have HH7 : Aside0 (yH (w5.setCell ⟨g, 8, none⟩ (.slice x5 (n % 128 + m) c5)) g (absorb Z (n / 128 + 0)) (.slice x5 (n % 128 + m) c5) ((n + m : Nat) : Int)) := ⟨by
    have h := HH6.out
    rw [HST.out] at h
    rw [Int.natCast_add]
    exact h⟩
  have HAT7 : Aside0 ((Value.slice x5 (n % 128 + m) c5).ownBlock = (Value.slice x0 (n % 128) c0).ownBlock ∨ ∀ b, (Value.slice x5 (n % 128 + m) c5).ownBlock = some b → w.heap.size ≤ b) := ⟨by
    rcases HAT.out with h | h
    · exact .inl h
    · exact .inr fun b hb => by rw [h, HSZ.out] at hb; cases hb; exact Nat.le_refl _⟩
  clear HO5 HO6 HH5 HH6 HAT HSB HG5 HH1 HOV HI HT1 HC1 HSZ HH HZZ hbs k8 k9 f8 f9 k85 f85 hq1 hq2
  generalize hv0 : Value.slice x0 (n % 128) c0 = v0 at *
  go_loopw [25] (fun _ wr => WR1 Z (n / 128) (n + m) B g v0 w wr) (fun _ wr => wlen wr g)
  case atStart => exact ⟨0, _, by omega, HH7.out, HO7.out, HT6.out, HC6.out, HAT7.out⟩
  case round =>
    clear HO7 HH7 HAT7 HT6 HC6
    obtain ⟨k, vk, hk, hh, ho, ht, hc, hat⟩ := hrel
    obtain ⟨xk, ck, rfl⟩ := ho.form
    have HH := Aside0.mk hh
    have HO := Aside0.mk ho
    have HT := Aside0.mk ht
    have HC := Aside0.mk hc
    have HAT := Aside0.mk hat
    have k8 := hh.cell8
    clear ht hc hat
    obtain ⟨L, hL⟩ : ∃ L, n + m - 128 * (n / 128 + k) = L := ⟨_, rfl⟩
    have hL2 : L + 128 * (n / 128 + k) = n + m := by omega
    rw [hL] at ho HO k8 HAT
    simp only [hL] at HH ⊢
    rcases Nat.lt_or_ge L 128 with h128 | h128
    · have hge : ((L : Int) ≥ 128) = False := eq_false (by omega)
      have hge2 : (128 ≤ (L : Int)) = False := eq_false (by omega)
      clear hh ho
      go_wp2_with fail
      go_end0
      have e1 : (n + m) / 128 = n / 128 + k := by omega
      have e2 : (n + m) % 128 = L := by omega
      refine ⟨rfl, _, ⟨?_, ?_⟩, by rw [hv0]; exact HC.out, by rw [hv0]; exact HAT.out⟩
      · rw [e1, ← hZ]; exact HH.out
      · rw [e1, e2, ← hZ]; exact HO.out
    · have hge : ((L : Int) ≥ 128) = True := eq_true (by omega)
      have hge2 : (128 ≤ (L : Int)) = True := eq_true (by omega)
      obtain ⟨gk, ok, ck', e', hck, hgk1, hgk2, hcl, _, _⟩ := ho.open (by omega)
      cases e'
      have hmx : ck ≤ 9223372036854775807 := by
        rcases ho with ⟨h, _⟩ | ⟨_, _, _, _, h, _, _, _, hm, _⟩
        · cases h
        · cases h; unfold maxLen at hm; omega
      have HBK := Aside0.mk (block_calls (fun j => Z (128 * (n / 128 + k) + j)) (absorb Z (n / 128 + k)) g (.slice (some ⟨gk, ok, none⟩) L ck) ((n + m : Nat) : Int) gk ok L ck wr HT.out HH.out h128 hck hmx (fun j hj => hcl j (by omega)) (fun j hj => HZB.out _ (by omega)))
      clear hcl
      go_wp2_with fail
      refine (HBK.out).mono ?_
      rintro e w6 ⟨rfl, hc6, hh6⟩
      have hgne : gk ≠ g := fun e => hash_ne HH.out HO.out (by rw [e]; rfl)
      have HNG := Aside0.mk hgne
      have HC6 := Aside0.mk (HC.out.trans (hc6.mono (fun b _ hb => .inl hb)))
      have HT6 := Aside0.mk (HT.out.keep (hc6.block _ HT.out.lt (fun e => by have := HB.out; have := HGB.out; omega)))
      have HO6 := Aside0.mk (HO.out.keep (w' := w6) (fun b hb => by cases hb; exact hc6.block gk hgk2 hgne))
      have HH6 := Aside0.mk hh6
      have k86 := hh6.cell8
      have f86 := hh6.fro 8
      have HW0 : Aside0 (wlen wr g = L) := ⟨by unfold wlen; rw [k8]; rfl⟩
      clear hc6 hh6 HBK k8 hh ho
      have p1 : (128 : Int) ≤ (ck : Int) := by omega
      have p2 : (128 : Int) ≤ (L : Int) := by omega
      go_wp2_with fail
      have HH7 := Aside0.mk (HH6.out.set8 (.slice (if ck = 128 then some ⟨gk, ok, none⟩ else some ⟨gk, ok + 128, none⟩) (L - 128) (ck - 128)))
      have HO7 := Aside0.mk ((HO6.out.cut h128).keep (w' := w6.setCell ⟨g, 8, none⟩ (.slice (if ck = 128 then some ⟨gk, ok, none⟩ else some ⟨gk, ok + 128, none⟩) (L - 128) (ck - 128))) (fun b hb => heap_setCell_other _ _ _ _ (fun e => by rw [cut_own] at hb; cases hb; exact HNG.out e)))
      refine ⟨?_, ?_⟩
      · refine ⟨k + 1, _, by omega, HH7.out, ?_, HT6.out.keep (heap_setCell_other _ _ _ _ (show (2 : Nat) ≠ g by have := HB.out; have := HGB.out; omega)), HC6.out.set _ _ (.inl (.inl rfl)), ?_⟩
        · have h := HO7.out
          have e1 : n + m - 128 * (n / 128 + (k + 1)) = L - 128 := by omega
          unfold OwnB at h ⊢
          rw [e1]
          exact h.congr (fun j hj => by rw [show 128 * (n / 128 + k) + (128 + j) = 128 * (n / 128 + (k + 1)) + j by omega])
        · rw [cut_own]; exact HAT.out
      · rw [HW0.out]
        have h := HH7.out.cell8
        unfold wlen
        rw [h]
        show L - 128 < L
        omega
theorem info64b : (Tryd.prog.info? 28).map (·.size) = some 64 := by kernel_rfl
theorem info8b : (Tryd.prog.info? 120).map (·.size) = some 8 := by kernel_rfl
theorem zero64b (w : World) : (zeroValue 28).run Tryd.prog w = .ok (.agg (FR .u8 64 fun _ => 0)) w := by kernel_rfl
theorem _root_.Go.Proofs.YtbmnkchcekacfaaDoor.P.Row.numsAt {w : World} {g : Nat} {k : IntKind} {n : Nat} {f : Nat → Int} {t : TypeId} (h : Row w g k n f t) : NumsAt k w (some ⟨g, 0, none⟩) n f := .inr ⟨_, rfl, fun j hj => by
  rw [show (⟨g, 0, none⟩ : Addr).add j = ⟨g, 0 + j, none⟩ from Addr.add_lit .., Nat.zero_add]; exact h.cell j hj⟩
def SR1 (z : Nat → Int) (n pl : Nat) (B1 : Nat) (w3 : World) (v5 : Value) (wr : World) : Prop := ∃ L : Nat, n + 1 ≤ L ∧ L ≤ pl - 16 ∧ OwnB wr B1 v5 (L - 128 * (n / 128)) (fun j => pad z n (128 * (n / 128) + j)) ∧ Below B1 w3 wr
def SR2 (z : Nat → Int) (n pl : Nat) (B1 : Nat) (w3 : World) (v7 v5 : Value) (wr : World) : Prop := ∃ r : Nat, r ≤ 8 ∧ v7 = .int .i64 ((r : Int) - 1) ∧ OwnB wr B1 v5 (pl - r - 128 * (n / 128)) (fun j => pad z n (128 * (n / 128) + j)) ∧ Below B1 w3 wr
def SR3 (z : Nat → Int) (n pl : Nat) (w : World) (v5 : Value) (wr : World) : Prop := ∃ k : Nat, n / 128 + k ≤ pl / 128 ∧ OwnB wr (w.heap.size + 1 + 1 + 1) v5 (pl - 128 * (n / 128 + k)) (fun j => pad z n (128 * (n / 128 + k) + j)) ∧ yH wr (w.heap.size + 1 + 1) (absorb (pad z n) (n / 128 + k)) (.slice none 0 0) 0 ∧
  Row wr w.heap.size .u8 64 (fun _ => 0) 28 ∧ Row wr (w.heap.size + 1) .u8 64 (fun _ => 0) 28 ∧ Tab wr ∧ Below w.heap.size w wr
def SR4 (S : Nat → Int) (w : World) (v67 : Value) (wr : World) : Prop := ∃ i : Nat, i ≤ 64 ∧ v67 = .int .i64 (i : Int) ∧ yH wr (w.heap.size + 1 + 1) S (.slice none 0 0) 0 ∧
  Row wr w.heap.size .u8 64 (fun _ => 0) 28 ∧ Row wr (w.heap.size + 1) .u8 64 (fun j => if j < i then ob S j else 0) 28 ∧ Below w.heap.size w wr
theorem lb_high (n e : Nat) (hn : n ≤ 1099511627776) (he : 8 ≤ e) : lb n e = 0 := by
  unfold lb
  have h1 : 256 ^ 8 ≤ 256 ^ e := Nat.pow_le_pow_right (by omega) he
  rw [Nat.div_eq_of_lt (by omega)]; rfl
theorem lb_shift (n t : Nat) : (n : Int) * 8 / 2 ^ (8 * t) % 256 = lb n t := by
  unfold lb
  rw [show (256 : Nat) ^ t = 2 ^ (8 * t) by rw [Nat.pow_mul]]
  rw [Int.natCast_emod, Int.natCast_ediv, Int.natCast_mul, Int.natCast_pow, Int.mul_comm]
  rfl
set_option maxRecDepth 100000 in
set_option maxHeartbeats 2000000 in
theorem sum_calls (z : Nat → Int) (n B g : Nat) (v : Value) (w : World) (ht : Tab w) (hh : HashOf w B g z n v) (hn : n ≤ 1099511627776) (hz : ∀ j, j < n → 0 ≤ z j ∧ z j < 256) :
    Calls Tryd.prog 57 #[.pointer (some ⟨g, 0, none⟩)] w fun e w' => e = .returned (.agg (FR .u8 64 (dg z n))) ∧ Below w.heap.size w w' := by
  obtain ⟨hh1, hh2⟩ := hh
  obtain ⟨x0, c0, rfl⟩ := hh2.form
  have HN := Aside0.mk hn
  have HPL := Aside0.mk (PL_b n)
  have HPN := Aside0.mk (PL_next n)
  have HPB := Aside0.mk (pad_b z n hz)
  have HT := Aside0.mk ht
  have HH := Aside0.mk hh1
  have hgl := hh1.lt
  have HGL := Aside0.mk hgl
  have HPAD : Aside0 (∀ j, 128 * (n / 128) + j < n → pad z n (128 * (n / 128) + j) = z (128 * (n / 128) + j)) := ⟨fun j hj => by unfold pad; rw [if_pos hj]⟩
  have HPAD1 : Aside0 (∀ j, 128 * (n / 128) + j = n → pad z n (128 * (n / 128) + j) = 128) := ⟨fun j hj => by unfold pad; rw [if_neg (by omega), if_pos hj]⟩
  have HABS : Aside0 (absorb z (n / 128) = absorb (pad z n) (n / 128)) := ⟨by
    have key : ∀ k, 128 * k ≤ n → absorb z k = absorb (pad z n) k := by
      intro k
      induction k with
      | zero => intro _; rfl
      | succ k ih =>
        intro hk
        exact nxt_congr (ih (by omega)) (fun j hj => by unfold pad; rw [if_pos (by omega)])
    exact key _ (by omega)⟩
  have HDG : Aside0 (∀ pl, PL n = pl → dg z n = ob (absorb (pad z n) (pl / 128))) := ⟨fun pl h => by rw [← h]; rfl⟩
  obtain ⟨f, hf⟩ : ∃ f, absorb z (n / 128) = f := ⟨_, rfl⟩
  rw [hf] at HH HABS
  have HW2 := Aside0.mk ((HH.out.alloc (.cells (FR .u8 64 fun _ => 0) 28)).alloc (.cells (FR .u8 64 fun _ => 0) 28))
  have k0 := HW2.out.cell 0 (by omega)
  have k1 := HW2.out.cell 1 (by omega)
  have k2 := HW2.out.cell 2 (by omega)
  have k3 := HW2.out.cell 3 (by omega)
  have k4 := HW2.out.cell 4 (by omega)
  have k5 := HW2.out.cell 5 (by omega)
  have k6 := HW2.out.cell 6 (by omega)
  have k7 := HW2.out.cell 7 (by omega)
  have HW3 : Aside0 (yH (((w.alloc (.cells (FR .u8 64 fun _ => 0) 28)).alloc (.cells (FR .u8 64 fun _ => 0) 28)).alloc (.cells #[.int .u64 (f 0), .int .u64 (f 1), .int .u64 (f 2), .int .u64 (f 3), .int .u64 (f 4), .int .u64 (f 5), .int .u64 (f 6), .int .u64 (f 7), .slice none 0 0, .int .u64 0] 119)) g f (.slice x0 (n % 128) c0) (n : Int)) := ⟨HW2.out.alloc _⟩
  have HE3 : Aside0 (yH (((w.alloc (.cells (FR .u8 64 fun _ => 0) 28)).alloc (.cells (FR .u8 64 fun _ => 0) 28)).alloc (.cells #[.int .u64 (f 0), .int .u64 (f 1), .int .u64 (f 2), .int .u64 (f 3), .int .u64 (f 4), .int .u64 (f 5), .int .u64 (f 6), .int .u64 (f 7), .slice none 0 0, .int .u64 0] 119)) (w.heap.size + 1 + 1) f (.slice none 0 0) 0) := ⟨by
    have h := heap_alloc_new ((w.alloc (.cells (FR .u8 64 fun _ => 0) 28)).alloc (.cells (FR .u8 64 fun _ => 0) 28)) (.cells #[.int .u64 (f 0), .int .u64 (f 1), .int .u64 (f 2), .int .u64 (f 3), .int .u64 (f 4), .int .u64 (f 5), .int .u64 (f 6), .int .u64 (f 7), .slice none 0 0, .int .u64 0] 119)
    rw [show ((w.alloc (.cells (FR .u8 64 fun _ => 0) 28)).alloc (.cells (FR .u8 64 fun _ => 0) 28)).heap.size = w.heap.size + 1 + 1 by simp] at h
    exact h⟩
  have HB3 : Aside0 (Below w.heap.size w (((w.alloc (.cells (FR .u8 64 fun _ => 0) 28)).alloc (.cells (FR .u8 64 fun _ => 0) 28)).alloc (.cells #[.int .u64 (f 0), .int .u64 (f 1), .int .u64 (f 2), .int .u64 (f 3), .int .u64 (f 4), .int .u64 (f 5), .int .u64 (f 6), .int .u64 (f 7), .slice none 0 0, .int .u64 0] 119))) := ⟨bel_three w _ _ _⟩
  have HR2 : Aside0 (Row (((w.alloc (.cells (FR .u8 64 fun _ => 0) 28)).alloc (.cells (FR .u8 64 fun _ => 0) 28)).alloc (.cells #[.int .u64 (f 0), .int .u64 (f 1), .int .u64 (f 2), .int .u64 (f 3), .int .u64 (f 4), .int .u64 (f 5), .int .u64 (f 6), .int .u64 (f 7), .slice none 0 0, .int .u64 0] 119)) w.heap.size .u8 64 (fun _ => 0) 28) := ⟨((Row.new w .u8 64 (fun _ => 0) 28).alloc _).alloc _⟩
  have HR3 : Aside0 (Row (((w.alloc (.cells (FR .u8 64 fun _ => 0) 28)).alloc (.cells (FR .u8 64 fun _ => 0) 28)).alloc (.cells #[.int .u64 (f 0), .int .u64 (f 1), .int .u64 (f 2), .int .u64 (f 3), .int .u64 (f 4), .int .u64 (f 5), .int .u64 (f 6), .int .u64 (f 7), .slice none 0 0, .int .u64 0] 119)) (w.heap.size + 1) .u8 64 (fun _ => 0) 28) := ⟨by
    have h := (Row.new (w.alloc (.cells (FR .u8 64 fun _ => 0) 28)) .u8 64 (fun _ => 0) 28)
    rw [show (w.alloc (.cells (FR .u8 64 fun _ => 0) 28)).heap.size = w.heap.size + 1 by simp] at h
    exact h.alloc _⟩
  have HT3 : Aside0 (Tab (((w.alloc (.cells (FR .u8 64 fun _ => 0) 28)).alloc (.cells (FR .u8 64 fun _ => 0) 28)).alloc (.cells #[.int .u64 (f 0), .int .u64 (f 1), .int .u64 (f 2), .int .u64 (f 3), .int .u64 (f 4), .int .u64 (f 5), .int .u64 (f 6), .int .u64 (f 7), .slice none 0 0, .int .u64 0] 119))) := ⟨HT.out.keep (HB3.out.block _ HT.out.lt)⟩
  have HS3 : Aside0 ((((w.alloc (.cells (FR .u8 64 fun _ => 0) 28)).alloc (.cells (FR .u8 64 fun _ => 0) 28)).alloc (.cells #[.int .u64 (f 0), .int .u64 (f 1), .int .u64 (f 2), .int .u64 (f 3), .int .u64 (f 4), .int .u64 (f 5), .int .u64 (f 6), .int .u64 (f 7), .slice none 0 0, .int .u64 0] 119)).heap.size = w.heap.size + 1 + 1 + 1) := ⟨by simp⟩
  have HV3 : Aside0 (OwnB (((w.alloc (.cells (FR .u8 64 fun _ => 0) 28)).alloc (.cells (FR .u8 64 fun _ => 0) 28)).alloc (.cells #[.int .u64 (f 0), .int .u64 (f 1), .int .u64 (f 2), .int .u64 (f 3), .int .u64 (f 4), .int .u64 (f 5), .int .u64 (f 6), .int .u64 (f 7), .slice none 0 0, .int .u64 0] 119)) B (.slice x0 (n % 128) c0) (n % 128) (fun j => z (128 * (n / 128) + j))) := ⟨hh2.below HB3.out (fun b hb => (hh2.lt b hb).2)⟩
  have k8 : ((((w.alloc (.cells (FR .u8 64 fun _ => 0) 28)).alloc (.cells (FR .u8 64 fun _ => 0) 28)).alloc (.cells #[.int .u64 (f 0), .int .u64 (f 1), .int .u64 (f 2), .int .u64 (f 3), .int .u64 (f 4), .int .u64 (f 5), .int .u64 (f 6), .int .u64 (f 7), .slice none 0 0, .int .u64 0] 119)).alloc (.cells #[] 5)).cell? ⟨g, 8, none⟩ = some (.slice x0 (n % 128) c0) := (HW3.out.alloc (.cells #[] 5)).cell8
  clear hh1 ht hz hf
  have HO4 : Aside0 (OwnB ((((w.alloc (.cells (FR .u8 64 fun _ => 0) 28)).alloc (.cells (FR .u8 64 fun _ => 0) 28)).alloc (.cells #[.int .u64 (f 0), .int .u64 (f 1), .int .u64 (f 2), .int .u64 (f 3), .int .u64 (f 4), .int .u64 (f 5), .int .u64 (f 6), .int .u64 (f 7), .slice none 0 0, .int .u64 0] 119)).alloc (.cells #[] 5)) (w.heap.size + 1 + 1 + 1) (.slice (some ⟨w.heap.size + 1 + 1 + 1, 0, none⟩) 0 0) 0 z) := ⟨by
    rw [← HS3.out]
    exact OwnS.made _ 0 z (Nat.le_refl _) (by unfold maxLen; omega)⟩
  obtain ⟨a', c', e', hnum, hnn⟩ := (HV3.out.alloc (.cells #[] 5)).numsAt
  cases e'
  have HNUM := Aside0.mk hnum
  have HNN := Aside0.mk hnn
  have HS4 : Aside0 (w.heap.size + 1 + 1 + 1 ≤ ((((w.alloc (.cells (FR .u8 64 fun _ => 0) 28)).alloc (.cells (FR .u8 64 fun _ => 0) 28)).alloc (.cells #[.int .u64 (f 0), .int .u64 (f 1), .int .u64 (f 2), .int .u64 (f 3), .int .u64 (f 4), .int .u64 (f 5), .int .u64 (f 6), .int .u64 (f 7), .slice none 0 0, .int .u64 0] 119)).alloc (.cells #[] 5)).heap.size) := ⟨by rw [← HS3.out]; exact ((Below.refl _ _).alloc (Nat.le_refl _) _).size⟩
  have HB4 : Aside0 (Below (w.heap.size + 1 + 1 + 1) (((w.alloc (.cells (FR .u8 64 fun _ => 0) 28)).alloc (.cells (FR .u8 64 fun _ => 0) 28)).alloc (.cells #[.int .u64 (f 0), .int .u64 (f 1), .int .u64 (f 2), .int .u64 (f 3), .int .u64 (f 4), .int .u64 (f 5), .int .u64 (f 6), .int .u64 (f 7), .slice none 0 0, .int .u64 0] 119)) ((((w.alloc (.cells (FR .u8 64 fun _ => 0) 28)).alloc (.cells (FR .u8 64 fun _ => 0) 28)).alloc (.cells #[.int .u64 (f 0), .int .u64 (f 1), .int .u64 (f 2), .int .u64 (f 3), .int .u64 (f 4), .int .u64 (f 5), .int .u64 (f 6), .int .u64 (f 7), .slice none 0 0, .int .u64 0] 119)).alloc (.cells #[] 5))) := ⟨by
    have h := (Below.refl (((w.alloc (.cells (FR .u8 64 fun _ => 0) 28)).alloc (.cells (FR .u8 64 fun _ => 0) 28)).alloc (.cells #[.int .u64 (f 0), .int .u64 (f 1), .int .u64 (f 2), .int .u64 (f 3), .int .u64 (f 4), .int .u64 (f 5), .int .u64 (f 6), .int .u64 (f 7), .slice none 0 0, .int .u64 0] 119)).heap.size (((w.alloc (.cells (FR .u8 64 fun _ => 0) 28)).alloc (.cells (FR .u8 64 fun _ => 0) 28)).alloc (.cells #[.int .u64 (f 0), .int .u64 (f 1), .int .u64 (f 2), .int .u64 (f 3), .int .u64 (f 4), .int .u64 (f 5), .int .u64 (f 6), .int .u64 (f 7), .slice none 0 0, .int .u64 0] 119))).alloc (Nat.le_refl _) (.cells #[] 5)
    rw [HS3.out] at h
    exact h⟩
  clear hnum hnn hh2
  go_enter Tryd.func57, Tryd.ntmps57
  have hzv := zero64b
  go_wp2_with (first | (refine step_append HO4.out HNUM.out Tryd.underlying25 info8p rfl rfl rfl rfl rfl HNN.out (by unfold maxLen; omega) (by omega) HS4.out ?_; intro v9 w9 ho9 hg9 _ _; have HB9 := Aside0.mk (grown_bel HB4.out hg9 HS4.out (fun b hb => (HO4.out.lt b hb).1)); have HB9a := Aside0.mk (HB9.out.alloc (by have := HB9.out.size; rw [HS3.out] at this; exact this) (.cells #[.int .u8 128] 5)); have HO9a := Aside0.mk (OwnS.alloc ho9 (.cells #[.int .u8 128] 5)); have hsz9 := HB9a.out.size; rw [HS3.out] at hsz9; clear ho9 hg9) | (refine step_append HO9a.out (NumsAt.one .u8 _ _ _) Tryd.underlying25 info8p rfl rfl rfl rfl rfl (fun e => by cases e) (by unfold maxLen; omega) (by omega) (by simpa using hsz9) ?_; intro v11 w11 ho11 hg11 _ _; have HB11 := Aside0.mk (grown_bel HB9a.out hg11 hsz9 (fun b hb => (HO9a.out.lt b hb).1)); have HO11 := Aside0.mk ho11; clear ho11 hg11))
  have HB0 := Aside0.mk (HB3.out.trans (HB11.out.mono (by omega)))
  have HR2b := Aside0.mk (HR2.out.below HB11.out (by omega))
  have HR3b := Aside0.mk (HR3.out.below HB11.out (by omega))
  have HEb := Aside0.mk (HE3.out.below HB11.out (by omega))
  have HTb := Aside0.mk (HT3.out.keep (HB11.out.block _ (by have := HT.out.lt; omega)))
  have HHb := Aside0.mk (HW3.out.below HB11.out (by omega))
  have HO12 : Aside0 (OwnB w11 (w.heap.size + 1 + 1 + 1) v11 (n + 1 - 128 * (n / 128)) (fun j => pad z n (128 * (n / 128) + j))) := ⟨by
    have h := HO11.out
    rw [Nat.zero_add] at h
    unfold OwnB
    rw [show n + 1 - 128 * (n / 128) = n % 128 + 1 by omega]
    exact h.congr (fun j hj => by
      by_cases h1 : j < n % 128
      · rw [if_pos h1, HPAD.out j (by omega)]; rfl
      · rw [if_neg h1, HPAD1.out j (by omega)])⟩
  have hs11 := HB11.out.size
  rw [HS3.out] at hs11
  have HS11 := Aside0.mk hs11
  clear k0 k1 k2 k3 k4 k5 k6 k7 k8 hzv HB9 HB9a HO9a hsz9 HO11 HO4 HB4 HS4 HNUM HNN HV3 HT3 HR2 HR3 HE3 HW3 HB3 HW2 HS3 HH HB11
  obtain ⟨pl, hpl⟩ : ∃ x, PL n = x := ⟨_, rfl⟩
  rw [hpl] at HPL HPN
  have HDG := Aside0.mk (HDG.out pl hpl)
  have HPZ : Aside0 (∀ j, n < j → j < pl - 16 → pad z n j = 0) := ⟨fun j h1 h2 => by unfold pad; rw [if_neg (by omega), if_neg (by omega), if_pos (by omega)]⟩
  have HPE : Aside0 (∀ j, pl - 16 ≤ j → pad z n j = lb n (pl - 1 - j)) := ⟨fun j h1 => by have := HPL.out; unfold pad; rw [if_neg (by omega), if_neg (by omega), if_neg (by omega), hpl]⟩
  clear hpl
  have hPL := HPL.out
  go_loopw [5] (fun v5 wr => SR1 z n pl (w.heap.size + 1 + 1 + 1) w11 v5 wr) (fun v _ => pl - 128 * (n / 128) - slen v)
  case atStart => exact ⟨n + 1, by omega, by omega, HO12.out, Below.refl _ _⟩
  case round =>
    clear HO12
    obtain ⟨L, hL1, hL2, hown, hb⟩ := hrel
    have hnx := HPN.out L hL1 hL2
    obtain ⟨M, hM⟩ : ∃ M, L - 128 * (n / 128) = M := ⟨_, rfl⟩
    rw [hM] at hown
    have hLM : L = M + 128 * (n / 128) := by omega
    have hmod : M % 128 = L % 128 := by omega
    obtain ⟨x, c, rfl⟩ := hown.form
    have HOW := Aside0.mk hown
    have HB := Aside0.mk hb
    have hsz := hb.size
    have hszB : w.heap.size + 1 + 1 + 1 ≤ wr.heap.size := by omega
    clear hown hb
    by_cases hq : M % 128 = 112
    · have hLe := hnx.1 (by omega)
      have hne : ((M : Int) % 128 != 112) = false := by simp; omega
      have hne2 : ((M : Int) % 128 = 112) = True := eq_true (by omega)
      clear hmod hnx
      have HHr := Aside0.mk (HHb.out.below HB.out (by omega))
      have k9 := HHr.out.cell9
      have s61 : (n : Int) / 2305843009213693952 = 0 := by omega
      have HN8 := Aside0.mk (Row.new wr .u8 8 (fun _ => 0) 120)
      have HBn := Aside0.mk (HB.out.alloc (by omega) (.cells (FR .u8 8 fun _ => 0) 120))
      have HOn := Aside0.mk (HOW.out.alloc (.cells (FR .u8 8 fun _ => 0) 120))
      have hlt8 := HOW.out.lt
      have HLT8 := Aside0.mk hlt8
      clear hlt8 hL1 hL2
      go_wp2_with (first | (refine zQ (fun _ => 0) HN8.out info8b rfl rfl rfl rfl rfl ?_; intro w8 hs hr; have HNU8 : Aside0 (NumsAt .u8 w8 (some ⟨wr.heap.size, 0, none⟩) 8 (fun _ => 0)) := ⟨Row.numsAt hr⟩; have HB8 := Aside0.mk (hs.bel (w.heap.size + 1 + 1 + 1) _ hszB HBn.out); have HO8 := Aside0.mk (HOn.out.keep (w' := w8) (fun b hb => hs.other b (by have := (HLT8.out b hb).2; omega))); have hs9 := Nat.le_trans HS11.out HB8.out.size; clear hs hr) | (refine step_append HO8.out HNU8.out Tryd.underlying25 info8p rfl rfl rfl rfl rfl (fun e => by cases e) (by unfold maxLen; omega) (by omega) hs9 ?_; intro v5 w5 ho5 hg5 _ _; have HB5 := Aside0.mk (grown_bel HB8.out hg5 hs9 (fun b hb => (HO8.out.lt b hb).1)); obtain ⟨x5, c5, rfl⟩ := ho5.form; have HO5 := Aside0.mk ho5; clear ho5 hg5))
      have HO6 : Aside0 (OwnB w5 (w.heap.size + 1 + 1 + 1) (.slice x5 (M + 8) c5) (pl - 8 - 128 * (n / 128)) (fun j => pad z n (128 * (n / 128) + j))) := ⟨by
        unfold OwnB
        rw [show pl - 8 - 128 * (n / 128) = M + 8 by omega]
        exact HO5.out.congr (fun j hj => by
          by_cases h1 : j < M
          · rw [if_pos h1]
          · rw [if_neg h1, HPE.out _ (by omega), lb_high n _ hn (by omega)])⟩
      clear HO5 HO8 HB8 HNU8 hs9 HOn HBn HN8 HOW HHr k9 HB
      go_loopw [7, 5] (fun v7 v5 wr => SR2 z n pl (w.heap.size + 1 + 1 + 1) w11 v7 v5 wr) (fun v _ _ => ((intOf v) + 1).toNat)
      case atStart => exact ⟨8, by omega, rfl, HO6.out, HB5.out⟩
      case round =>
        clear HO6 HB5
        obtain ⟨r, hr, rfl, hown, hb⟩ := hrel
        have HOW := Aside0.mk hown
        have HB := Aside0.mk hb
        have hszr := hb.size
        have hszB2 := Nat.le_trans HS11.out hszr
        obtain ⟨x6, c6, rfl⟩ := hown.form
        clear hown hb
        rcases Nat.eq_zero_or_pos r with rfl | hr0
        · rw [show (((0 : Nat) : Int) - 1) = -1 from rfl]
          go_wp2_with fail
          have HO0 : Aside0 (OwnB wr (w.heap.size + 1 + 1 + 1) (.slice x6 (pl - 0 - 128 * (n / 128)) c6) (pl - 128 * (n / 128 + 0)) (fun j => pad z n (128 * (n / 128 + 0) + j))) := ⟨HOW.out⟩
          have HE0 : Aside0 (yH wr (w.heap.size + 1 + 1) (absorb (pad z n) (n / 128 + 0)) (.slice none 0 0) 0) := ⟨by
            have h := HEb.out.below HB.out (by omega)
            rw [HABS.out] at h
            exact h⟩
          have HR20 := Aside0.mk (HR2b.out.below HB.out (by omega))
          have HR30 := Aside0.mk (HR3b.out.below HB.out (by omega))
          have HT0 := Aside0.mk (HTb.out.keep (HB.out.block _ (by have := HT.out.lt; omega)))
          have HBB := Aside0.mk (HB0.out.trans (HB.out.mono (by omega)))
          clear HOW HB
          go_loopw [5] (fun v5 wr => SR3 z n pl w v5 wr) (fun v _ => slen v)
          case atStart => exact ⟨0, by omega, HO0.out, HE0.out, HR20.out, HR30.out, HT0.out, HBB.out⟩
          case round =>
            clear HO0 HE0 HR20 HR30 HT0 HBB HR2b HR3b HTb HEb HHb HB0 HS11 HABS HPAD HPAD1 HPZ HPE HPN
            obtain ⟨k, hk, ho, he, h2, h3, ht, hb⟩ := hrel
            obtain ⟨L, hL⟩ : ∃ L, pl - 128 * (n / 128 + k) = L := ⟨_, rfl⟩
            have hL2 : L + 128 * (n / 128 + k) = pl := by omega
            rw [hL] at ho
            obtain ⟨xk, ck, rfl⟩ := ho.form
            have HO := Aside0.mk ho
            have HE := Aside0.mk he
            have HR2 := Aside0.mk h2
            have HR3 := Aside0.mk h3
            have HT := Aside0.mk ht
            have HB := Aside0.mk hb
            have hszb := hb.size
            clear he h2 h3 ht hb
            rcases Nat.eq_zero_or_pos L with h0 | hL0
            · subst h0
              clear ho
              go_wp2_with fail
              have HS : Aside0 (yH wr (w.heap.size + 1 + 1) (absorb (pad z n) (pl / 128)) (.slice none 0 0) 0) := ⟨by
                rw [show pl / 128 = n / 128 + k by omega]; exact HE.out⟩
              generalize absorb (pad z n) (pl / 128) = S at *
              clear HE HO hL hL2 hk
              go_loopw [67] (fun v67 wr => SR4 S w v67 wr) (fun v _ => 64 - (intOf v).toNat)
              case atStart => exact ⟨0, by omega, rfl, HS.out, HR2.out, row_eq HR3.out (fun j hj => by rw [if_neg (by omega)]), HB.out⟩
              case round =>
                clear HS HR2 HR3 HB HT
                obtain ⟨i, hi, rfl, he, h2, h3, hb⟩ := hrel
                have HE := Aside0.mk he
                have HR2 := Aside0.mk h2
                have HR3 := Aside0.mk h3
                have HB := Aside0.mk hb
                rcases Nat.lt_or_ge i 64 with h64 | h64
                · have hlt : ((i : Int) < 64) = True := eq_true (by omega)
                  obtain ⟨q, hq⟩ : ∃ q, i / 8 = q := ⟨_, rfl⟩
                  obtain ⟨r, hr⟩ : ∃ r, i % 8 = r := ⟨_, rfl⟩
                  have hq8 : q < 8 := by omega
                  have hr8 : r < 8 := by omega
                  have dq : (i : Int) / 8 = (q : Int) := by omega
                  have dr : (i : Int) % 8 = (r : Int) := by omega
                  have l8 : ((q : Int) < 8) = True := eq_true (by omega)
                  have q1 : wrap64 (8 * (r : Int)) = 8 * (r : Int) := w64 _ (by omega)
                  have q2 : IntKind.i64.wrap (8 * (r : Int)) = 8 * (r : Int) := i64w _ (by omega)
                  have q3 : wrap64 (56 - 8 * (r : Int)) = 56 - 8 * (r : Int) := w64 _ (by omega)
                  have q4 : IntKind.i64.wrap (56 - 8 * (r : Int)) = 56 - 8 * (r : Int) := i64w _ (by omega)
                  have q5 : (56 - 8 * (r : Int)).toNat = 8 * (7 - r) := by omega
                  have q6 : 0 ≤ 56 - 8 * (r : Int) := by omega
                  have q7 : 56 - 8 * (r : Int) ≤ 64 := by omega
                  have k0 := he.cell q hq8
                  have f3 := h3.fro i
                  have k3 := h3.cell i h64
                  rw [if_neg (Nat.lt_irrefl i)] at k3
                  have HSt := Aside0.mk (part_step (a := ⟨0, 0, none⟩) h3 h64)
                  rw [show ob S i = S q / 2 ^ (8 * (7 - r)) % 256 by unfold ob; rw [hq, hr]] at HSt
                  clear he h2 h3 hb hq hr
                  go_wp2_with fail
                  refine ⟨⟨i + 1, by omega, rfl, HE.out.other _ _ (show w.heap.size + 1 + 1 ≠ w.heap.size + 1 by omega), HR2.out.other _ _ (show w.heap.size ≠ w.heap.size + 1 by omega), HSt.out, yJ HB.out _ _ (show w.heap.size ≤ w.heap.size + 1 by omega)⟩, meas_up 64 i h64⟩
                · obtain rfl : i = 64 := by omega
                  have HM := Aside0.mk (row_eq h3 (f' := dg z n) (fun j hj => by rw [if_pos hj, HDG.out]))
                  clear he h2 h3 hb
                  go_wp2_with (first | (refine zX HM.out Tryd.underlying28 info64b rfl rfl rfl rfl ?_) | (refine zQ (dg z n) HR2.out info64b rfl rfl rfl rfl rfl ?_; intro w7 hs hr; have HS7 := Aside0.mk hs; have HR7 := Aside0.mk hr; clear hs hr))
                  refine bodyPost_ret (zY rfl HR7.out rfl Tryd.underlying28 rfl info64b) rfl ?_
                  exact ⟨rfl, HS7.out.bel _ _ (Nat.le_refl _) HB.out⟩
            · have hgt : ((L : Int) > 0) = True := eq_true (by omega)
              have h128 : 128 ≤ L := by omega
              obtain ⟨gk, ok, ck', e', hck, hgk1, hgk2, hcl, _, _⟩ := ho.open (by omega)
              cases e'
              have hmx : ck ≤ 9223372036854775807 := by
                rcases ho with ⟨h, _⟩ | ⟨_, _, _, _, h, _, _, _, hm, _⟩
                · cases h
                · cases h; unfold maxLen at hm; omega
              have HBK := Aside0.mk (block_calls (fun j => pad z n (128 * (n / 128 + k) + j)) (absorb (pad z n) (n / 128 + k)) (w.heap.size + 1 + 1) (.slice none 0 0) 0 gk ok L ck wr HT.out HE.out h128 hck hmx (fun j hj => hcl j (by omega)) (fun j hj => HPB.out _))
              clear hcl ho
              have p1 : (128 : Int) ≤ (ck : Int) := by omega
              have p2 : (128 : Int) ≤ (L : Int) := by omega
              go_wp2_with fail
              refine (HBK.out).mono ?_
              rintro e w6 ⟨rfl, hc6, hh6⟩
              have hgne : gk ≠ w.heap.size + 1 + 1 := by omega
              have HO6 := Aside0.mk ((HO.out.keep (w' := w6) (fun b hb => by cases hb; exact hc6.block gk hgk2 hgne)).cut h128)
              have HE6 := Aside0.mk hh6
              have HR26 : Aside0 (Row w6 w.heap.size .u8 64 (fun _ => 0) 28) := ⟨(hc6.block _ HR2.out.lt (by omega)).trans HR2.out⟩
              have HR36 : Aside0 (Row w6 (w.heap.size + 1) .u8 64 (fun _ => 0) 28) := ⟨(hc6.block _ HR3.out.lt (by omega)).trans HR3.out⟩
              have HT6 := Aside0.mk (HT.out.keep (hc6.block _ HT.out.lt (by omega)))
              have HB6 := Aside0.mk (Chg.below HB.out hc6 hszb (fun b e => by omega))
              clear hc6 hh6 HBK
              go_wp2_with fail
              refine ⟨⟨k + 1, by omega, ?_, HE6.out, HR26.out, HR36.out, HT6.out, HB6.out⟩, ?_⟩
              · unfold OwnB
                rw [show pl - 128 * (n / 128 + (k + 1)) = L - 128 by omega]
                exact HO6.out.congr (fun j hj => by rw [show 128 * (n / 128 + k) + (128 + j) = 128 * (n / 128 + (k + 1)) + j by omega])
              · show L - 128 < L
                omega
        · obtain ⟨t, rfl⟩ : ∃ t, r = t + 1 := ⟨r - 1, by omega⟩
          rw [show (((t + 1 : Nat) : Int) - 1) = (t : Int) by omega]
          obtain ⟨T, hT⟩ : ∃ T, pl - (t + 1) - 128 * (n / 128) = T := ⟨_, rfl⟩
          have HOT : Aside0 (OwnB wr (w.heap.size + 1 + 1 + 1) (.slice x6 T c6) T (fun j => pad z n (128 * (n / 128) + j))) := ⟨by rw [← hT]; exact HOW.out⟩
          rw [hT]
          have k9 := (HHb.out.below HB.out (by omega)).cell9
          have hge : ((t : Int) ≥ 0) = True := eq_true (by omega)
          have q1 : wrap64 (8 * (t : Int)) = 8 * (t : Int) := w64 _ (by omega)
          have q2 : IntKind.i64.wrap (8 * (t : Int)) = 8 * (t : Int) := i64w _ (by omega)
          have q3 : IntKind.u64.wrap ((n : Int) * 8) = (n : Int) * 8 := u64w _ (by omega) (by omega)
          have q4 : (8 * (t : Int)).toNat = 8 * t := by omega
          have q5 : 0 ≤ 8 * (t : Int) := by omega
          have q6 : 8 * (t : Int) ≤ 64 := by omega
          have q7 := lb_shift n t
          have HOa := Aside0.mk (HOT.out.alloc (.cells #[.int .u8 (lb n t)] 5))
          have HBa := Aside0.mk (HB.out.alloc (by omega) (.cells #[.int .u8 (lb n t)] 5))
          have HSa := Aside0.mk (Nat.le_trans HS11.out HBa.out.size)
          have hTb : T ≤ pl := by omega
          go_wp2_with (refine step_append HOa.out (NumsAt.one .u8 _ _ _) Tryd.underlying25 info8p rfl rfl rfl rfl rfl (fun e => by cases e) (by unfold maxLen; omega) (by omega) HSa.out ?_; intro v5 w6 ho5 hg5 _ _; have HB6 := Aside0.mk (grown_bel HBa.out hg5 HSa.out (fun b hb => (HOa.out.lt b hb).1)); obtain ⟨x7, c7, rfl⟩ := ho5.form; have HO7 := Aside0.mk ho5; clear ho5 hg5)
          refine ⟨⟨t, by omega, rfl, ?_, HB6.out⟩, by simp only [intOf]; omega⟩
          unfold OwnB
          rw [show pl - t - 128 * (n / 128) = T + 1 by omega]
          exact HO7.out.congr (fun j hj => by
            by_cases h1 : j < T
            · rw [if_pos h1]
            · rw [if_neg h1, HPE.out _ (by omega), show pl - 1 - (128 * (n / 128) + j) = t by omega])
    · have hne : ((M : Int) % 128 != 112) = true := by simp; omega
      have hne2 : ((M : Int) % 128 = 112) = False := eq_false (by omega)
      have hLl : L < pl - 16 := by have := hnx; omega
      have HOa := Aside0.mk (HOW.out.alloc (.cells #[.int .u8 0] 5))
      have HBa := Aside0.mk (HB.out.alloc (by omega) (.cells #[.int .u8 0] 5))
      have hsza : w.heap.size + 1 + 1 + 1 ≤ (wr.alloc (.cells #[.int .u8 0] 5)).heap.size := by have := HBa.out.size; omega
      clear hnx hmod
      go_wp2_with (refine step_append HOa.out (NumsAt.one .u8 _ _ _) Tryd.underlying25 info8p rfl rfl rfl rfl rfl (fun e => by cases e) (by unfold maxLen; omega) (by omega) hsza ?_; intro v5 w5 ho5 hg5 _ _; have HB5 := Aside0.mk (grown_bel HBa.out hg5 hsza (fun b hb => (HOa.out.lt b hb).1)); obtain ⟨x5, c5, rfl⟩ := ho5.form; have HO5 := Aside0.mk ho5; clear ho5 hg5)
      refine ⟨⟨L + 1, by omega, by omega, ?_, HB5.out⟩, ?_⟩
      · unfold OwnB
        rw [show L + 1 - 128 * (n / 128) = M + 1 by omega]
        exact HO5.out.congr (fun j hj => by
          by_cases h1 : j < M
          · rw [if_pos h1]
          · rw [if_neg h1, HPZ.out _ (by omega) (by omega)])
      · show pl - 128 * (n / 128) - (M + 1) < pl - 128 * (n / 128) - M
        omega
theorem pad_congr {z z' : Nat → Int} {n : Nat} (h : ∀ j, j < n → z j = z' j) : pad z n = pad z' n := by
  funext j
  unfold pad
  by_cases hj : j < n
  · rw [if_pos hj, if_pos hj, h j hj]
  · rw [if_neg hj, if_neg hj]
theorem dg_congr {z z' : Nat → Int} {n : Nat} (h : ∀ j, j < n → z j = z' j) : dg z n = dg z' n := by
  unfold dg; rw [pad_congr h]
theorem dg_b (z : Nat → Int) (n j : Nat) : 0 ≤ dg z n j ∧ dg z n j < 256 := by
  unfold dg ob; omega
theorem _root_.Go.Proofs.YtbmnkchcekacfaaDoor.P.NumsAt.lt {k : IntKind} {w : World} {a : Option Addr} {m : Nat} {z : Nat → Int} (h : NumsAt k w a m z) : ∀ x, a = some x → 0 < m → x.block < w.heap.size := by
  intro x hx h0
  rcases h with ⟨h1, _⟩ | ⟨y, h1, hc⟩
  · rw [h1] at hx; cases hx
  · rw [h1] at hx; cases hx
    have := World.block_lt_of_cell? w _ (hc 0 h0)
    rwa [show (x.add 0).block = x.block by unfold Addr.add; split <;> rfl] at this
theorem _root_.Go.Proofs.YtbmnkchcekacfaaDoor.P.NumsAt.below {k : IntKind} {w w' : World} {a : Option Addr} {m : Nat} {z : Nat → Int} {B : Nat} (h : NumsAt k w a m z) (hb : Below B w w') (hl : ∀ x, a = some x → 0 < m → x.block < B) : NumsAt k w' a m z :=
  h.keep fun x hx h0 => hb.block _ (hl x hx h0)
theorem fresh_hash (w : World) (o : Obj) (z : Nat → Int) (B : Nat) : HashOf ((w.alloc o).alloc (.cells (hcells iv (.slice none 0 0) 0) 119)) B (w.heap.size + 1) z 0 (.slice none 0 0) := by
  refine ⟨?_, OwnS.nil _ _ _⟩
  have h := heap_alloc_new (w.alloc o) (.cells (hcells iv (.slice none 0 0) 0) 119)
  rw [show (w.alloc o).heap.size = w.heap.size + 1 by simp] at h
  exact h
set_option maxRecDepth 100000 in
set_option maxHeartbeats 1000000 in
theorem of_calls (z : Nat → Int) (a : Option Addr) (n cap : Nat) (w : World) (ht : Tab w) (hI : NumsAt .u8 w a n z) (hn0 : a = none → cap = 0) (hn : n ≤ 1099511627776) (hz : ∀ j, j < n → 0 ≤ z j ∧ z j < 256) :
    Calls Tryd.prog 36 #[.slice a n cap] w fun e w' => e = .returned (.agg (FR .u8 64 (dg z n))) ∧ Below w.heap.size w w' := by
  have HLT := Aside0.mk ht.lt
  have HAL := Aside0.mk hI.lt
  have HN1 := Aside0.mk (Row.new w .u8 64 (fun _ => 0) 28)
  have HB1 := Aside0.mk ((Below.refl w.heap.size w).alloc (Nat.le_refl _) (.cells (FR .u8 64 fun _ => 0) 28))
  have HB2 := Aside0.mk (bel_two w (.cells (FR .u8 64 fun _ => 0) 28) (.cells (hcells iv (.slice none 0 0) 0) 119))
  have HF := Aside0.mk (fresh_hash w (.cells (FR .u8 64 fun _ => 0) 28) z (w.heap.size + 1))
  have HT2 := Aside0.mk (ht.keep (HB2.out.block _ HLT.out))
  have HI2 := Aside0.mk (hI.below HB2.out HAL.out)
  have HR2 := Aside0.mk (HN1.out.alloc (.cells (hcells iv (.slice none 0 0) 0) 119))
  have HSZ : Aside0 (((w.alloc (.cells (FR .u8 64 fun _ => 0) 28)).alloc (.cells (hcells iv (.slice none 0 0) 0) 119)).heap.size = w.heap.size + 1 + 1) := ⟨by simp⟩
  have HW := Aside0.mk (write_calls z z 0 n (w.heap.size + 1) (w.heap.size + 1) (.slice none 0 0) a cap _ HT2.out HF.out (by have := HLT.out; omega) ⟨Nat.le_refl _, by rw [HSZ.out]; omega⟩ HI2.out hn0 (fun x hx h0 => by have := HAL.out x hx h0; omega) (by omega) (fun j hj => by omega) hz)
  have HZ := Aside0.mk hz
  have HN := Aside0.mk hn
  clear ht hI hn0 hn hz
  go_enter Tryd.func36, Tryd.ntmps36
  go_wp2_with fail
  refine (new_calls _).mono ?_
  rintro e w1 ⟨rfl, rfl⟩
  go_wp2_with fail
  refine (HW.out).mono ?_
  rintro e w3 ⟨rfl, v3, hh, hc, _⟩
  have HB3 := Aside0.mk (Chg.below HB2.out hc (by rw [HSZ.out]; omega) (fun b hb => by rcases hb with rfl | hb; omega; cases hb))
  have HT3 := Aside0.mk (HT2.out.keep (hc.block _ HT2.out.lt (fun hb => by have := HLT.out; rcases hb with hb | hb; omega; cases hb)))
  have HR3 : Aside0 (Row w3 w.heap.size .u8 64 (fun _ => 0) 28) := ⟨(hc.block _ HR2.out.lt (fun hb => by rcases hb with hb | hb; omega; cases hb)).trans HR2.out⟩
  have HS := Aside0.mk (sum_calls _ (0 + n) (w.heap.size + 1) (w.heap.size + 1) v3 w3 HT3.out hh (by have := HN.out; omega) (fun j hj => by rw [if_neg (by omega)]; exact HZ.out (j - 0) (by omega)))
  have HD : Aside0 (dg (fun j => if j < 0 then z j else z (j - 0)) (0 + n) = dg z n) := ⟨by rw [Nat.zero_add]; exact dg_congr fun j _ => by rw [if_neg (by omega)]; rfl⟩
  rw [HD.out] at HS
  clear hh hc HW HF HI2
  go_wp2_with fail
  refine (HS.out).mono ?_
  rintro e w4 ⟨rfl, hb⟩
  have HB4 := Aside0.mk (HB3.out.trans (hb.mono HB3.out.size))
  have HR4 := Aside0.mk (HR3.out.below hb HR3.out.lt)
  clear hb HS
  go_wp2_with (refine zQ (dg z n) HR4.out info64b rfl rfl rfl rfl rfl ?_; intro w5 hs hr; have HS5 := Aside0.mk hs; have HR5 := Aside0.mk hr; clear hs hr)
  refine bodyPost_ret (zY rfl HR5.out rfl Tryd.underlying28 rfl info64b) rfl ?_
  exact ⟨rfl, HS5.out.bel _ _ (Nat.le_refl _) HB4.out⟩
end Go.Proofs.YtbmnkchcekacfaaDoor.P.Dg
end

section
namespace Go.Proofs.YtbmnkchcekacfaaDoor.P.Dg
set_option linter.unusedVariables false
set_option linter.unusedSimpArgs false
open Go.RowKit Go.Proofs.YtbmnkchcekacfaaDoorW.PrintWords Go.Proofs.YtbmnkchcekacfaaDoorW.PrintLast Go.Proofs.YtbmnkchcekacfaaDoorW.PrintMore Go.Deep
attribute [local go_sem] setCell_drewN
def Pcs (w : World) (x : Addr) (n : Nat) (A : Nat → Option Addr) (L C : Nat → Nat) (Z : Nat → Nat → Int) : Prop :=
  ∀ r, r < n → w.cell? (x.add r) = some (.slice (A r) (L r) (C r)) ∧ (A r = none → C r = 0) ∧ NumsAt .u8 w (A r) (L r) (Z r) ∧ ∀ j, j < L r → 0 ≤ Z r j ∧ Z r j < 256
def catN (L : Nat → Nat) : Nat → Nat
  | 0 => 0
  | r + 1 => catN L r + L r
def catZ (L : Nat → Nat) (Z : Nat → Nat → Int) : Nat → Nat → Int
  | 0 => fun _ => 0
  | r + 1 => fun j => if j < catN L r then catZ L Z r j else Z r (j - catN L r)
theorem catZ_b (L : Nat → Nat) (Z : Nat → Nat → Int) : ∀ r, (∀ i, i < r → ∀ j, j < L i → 0 ≤ Z i j ∧ Z i j < 256) → ∀ j, j < catN L r → 0 ≤ catZ L Z r j ∧ catZ L Z r j < 256
  | 0, _, j, hj => by simp [catN] at hj
  | r + 1, h, j, hj => by
    simp only [catZ]
    simp only [catN] at hj
    split
    · exact catZ_b L Z r (fun i hi => h i (by omega)) j (by assumption)
    · exact h r (by omega) _ (by omega)
theorem catN_mono (L : Nat → Nat) : ∀ {r n : Nat}, r ≤ n → catN L r ≤ catN L n := by
  intro r n h
  induction h with
  | refl => exact Nat.le_refl _
  | step _ ih => exact Nat.le_trans ih (Nat.le_add_right _ _)
def PRr (L : Nat → Nat) (Z : Nat → Nat → Int) (n : Nat) (w : World) (v10 : Value) (wr : World) : Prop :=
  ∃ (r : Nat) (v : Value), r ≤ n ∧ v10 = .int .i64 (r : Int) ∧ HashOf wr (w.heap.size + 1) (w.heap.size + 1) (catZ L Z r) (catN L r) v ∧ Row wr w.heap.size .u8 32 (fun _ => 0) 22 ∧ Below w.heap.size w wr ∧ w.heap.size + 2 ≤ wr.heap.size
theorem info32r : (Tryd.prog.info? 22).map (·.size) = some 32 := by kernel_rfl
theorem zrow32 : (#[.int .u8 0, .int .u8 0, .int .u8 0, .int .u8 0, .int .u8 0, .int .u8 0, .int .u8 0, .int .u8 0, .int .u8 0, .int .u8 0, .int .u8 0, .int .u8 0, .int .u8 0, .int .u8 0, .int .u8 0, .int .u8 0, .int .u8 0, .int .u8 0, .int .u8 0, .int .u8 0, .int .u8 0, .int .u8 0, .int .u8 0, .int .u8 0, .int .u8 0, .int .u8 0, .int .u8 0, .int .u8 0, .int .u8 0, .int .u8 0, .int .u8 0, .int .u8 0] : Array Value) = FR .u8 32 fun _ => 0 := by kernel_rfl
set_option maxRecDepth 100000 in
set_option maxHeartbeats 2000000 in
theorem rest_pieces (x : Addr) (n : Nat) (A : Nat → Option Addr) (L C : Nat → Nat) (Z : Nat → Nat → Int) (w : World) (ht : Tab w) (ho : Ord w) (w0 : Pcs w x n A L C Z) (hn : n ≤ 1000) (hN : catN L n ≤ 1000000) :
    Calls Tryd.prog 25 #[.slice (some x) n n] w fun e w' => e = .returned (.agg (FR .u8 32 (dig 256 (val 256 (dg (catZ L Z n) (catN L n)) 64 % LL)))) ∧ Below w.heap.size w w' := by
  have HIn := Aside0.mk w0
  have HOr := Aside0.mk ho
  have HLT := Aside0.mk ht.lt
  have HOl := Aside0.mk ho.lt
  have HNN := Aside0.mk hN
  have HT := Aside0.mk ht
  have HBD : Aside0 (∀ r, r < n → ∀ j, j < L r → 0 ≤ Z r j ∧ Z r j < 256) := ⟨fun r hr => (w0 r hr).2.2.2⟩
  clear w0 ho ht hN
  have HB2 := Aside0.mk (bel_two w (.cells (FR .u8 32 fun _ => 0) 22) (.cells (hcells iv (.slice none 0 0) 0) 119))
  have HF2 := Aside0.mk (fresh_hash w (.cells (FR .u8 32 fun _ => 0) 22) (catZ L Z 0) (w.heap.size + 1))
  have HR2 := Aside0.mk ((Row.new w .u8 32 (fun _ => 0) 22).alloc (.cells (hcells iv (.slice none 0 0) 0) 119))
  have HS2 : Aside0 (w.heap.size + 2 ≤ ((w.alloc (.cells (FR .u8 32 fun _ => 0) 22)).alloc (.cells (hcells iv (.slice none 0 0) 0) 119)).heap.size) := ⟨by simp⟩
  go_enter Tryd.func25, Tryd.ntmps25
  go_wp2_with fail
  refine (new_calls _).mono ?_
  rintro e w1 ⟨rfl, rfl⟩
  rw [zrow32]
  have hgs : (w.alloc (.cells (FR .u8 32 fun _ => 0) 22)).heap.size = w.heap.size + 1 := by simp
  rw [hgs]
  generalize (w.alloc (.cells (FR .u8 32 fun _ => 0) 22)).alloc (.cells (hcells iv (.slice none 0 0) 0) 119) = w2 at *
  clear hgs
  have hn2 : (n : Int) ≤ 1000 := by omega
  go_wp2_with fail
  go_loopw [10] (fun v10 wr => PRr L Z n w v10 wr) (fun v _ => n - (intOf v).toNat)
  case atStart => exact ⟨0, _, by omega, rfl, HF2.out, HR2.out, HB2.out, HS2.out⟩
  case round =>
    clear HF2 HR2 HB2 HS2
    obtain ⟨r, v, hr, rfl, hh, hrow, hb, hsz⟩ := hrel
    have HH := Aside0.mk hh
    have HR := Aside0.mk hrow
    have HB := Aside0.mk hb
    have HSZ := Aside0.mk hsz
    clear hh hrow hb hsz
    rcases Nat.lt_or_ge r n with h8 | h8
    · have hlt : ((r : Int) < (n : Int)) = True := eq_true (by omega)
      obtain ⟨hcell, hA0, hnums, hby⟩ := HIn.out r h8
      have hxl := World.block_lt_of_cell? w _ hcell
      have kx : wr.cell? (x.add r) = some (.slice (A r) (L r) (C r)) := (World.cell?_of_block (HB.out.block _ hxl)).trans hcell
      have HNl := Aside0.mk hnums.lt
      have HI := Aside0.mk (hnums.below HB.out HNl.out)
      have hcl : catN L r + L r ≤ catN L n := catN_mono L (show r + 1 ≤ n by omega)
      have HTr := Aside0.mk (HT.out.keep (HB.out.block _ HT.out.lt))
      have HWR := Aside0.mk (write_calls (catZ L Z r) (Z r) (catN L r) (L r) (w.heap.size + 1) (w.heap.size + 1) v (A r) (C r) wr HTr.out HH.out (by have := HLT.out; omega) ⟨Nat.le_refl _, by have := HSZ.out; omega⟩ HI.out hA0 (fun y hy h0 => by have := HNl.out y hy h0; omega) (by have := HNN.out; omega) (catZ_b L Z r (fun i hi => HBD.out i (by omega))) (HBD.out r h8))
      have HVLT := Aside0.mk (HH.out.2.lt)
      clear hcell hnums hxl hA0 hby hcl HH HI HTr
      go_wp2_with fail
      refine (HWR.out).mono ?_
      rintro e w6 ⟨rfl, v6, hh6, hc6, hv6⟩
      have hszr := HSZ.out
      have HB6 := Aside0.mk (Chg.below HB.out hc6 HB.out.size (fun b e => by
        rcases e with rfl | e
        · omega
        · have := (HVLT.out b e.symm).1; omega))
      have HR6 : Aside0 (Row w6 w.heap.size .u8 32 (fun _ => 0) 22) := ⟨(hc6.block _ HR.out.lt (fun e => by
        rcases e with e | e
        · omega
        · have := (HVLT.out _ e.symm).1; omega)).trans HR.out⟩
      have HS6 : Aside0 (w.heap.size + 2 ≤ w6.heap.size) := ⟨Nat.le_trans hszr hc6.size⟩
      have HH6 : Aside0 (HashOf w6 (w.heap.size + 1) (w.heap.size + 1) (catZ L Z (r + 1)) (catN L (r + 1)) v6) := ⟨hh6⟩
      clear hh6 hc6 hv6 HWR HB HR HSZ hszr HVLT
      go_wp2_with fail
      exact ⟨⟨r + 1, v6, by omega, rfl, HH6.out, HR6.out, HB6.out, HS6.out⟩, meas_up n r h8⟩
    · obtain rfl : n = r := by omega
      have HZB : Aside0 (∀ j, j < catN L n → 0 ≤ catZ L Z n j ∧ catZ L Z n j < 256) := ⟨catZ_b L Z n HBD.out⟩
      have HTr := Aside0.mk (HT.out.keep (HB.out.block _ HT.out.lt))
      have HSM := Aside0.mk (sum_calls _ _ (w.heap.size + 1) (w.heap.size + 1) v wr HTr.out HH.out (by have := HNN.out; omega) HZB.out)
      clear HH HTr HZB HIn
      have HDB : Aside0 (∀ j, j < 64 → 0 ≤ dg (catZ L Z n) (catN L n) j ∧ dg (catZ L Z n) (catN L n) j < 256) := ⟨fun j _ => dg_b _ _ j⟩
      obtain ⟨D, hDe⟩ : ∃ D, dg (catZ L Z n) (catN L n) = D := ⟨_, rfl⟩
      rw [hDe] at HSM HDB
      have HDE := Aside0.mk hDe
      clear hDe
      go_wp2_with fail
      refine (HSM.out).mono ?_
      rintro e w7 ⟨rfl, hb7⟩
      have HB7 := Aside0.mk (HB.out.trans (hb7.mono HB.out.size))
      have HR7 := Aside0.mk (HR.out.below hb7 HR.out.lt)
      have HS7 : Aside0 (w.heap.size + 2 ≤ w7.heap.size) := ⟨Nat.le_trans HSZ.out hb7.size⟩
      clear hb7 HSM HB HR HSZ
      have HN8 := Aside0.mk (Row.new w7 .u8 64 (fun _ => 0) 28)
      have HR8 := Aside0.mk (HR7.out.alloc (.cells (FR .u8 64 fun _ => 0) 28))
      have hs7 := HB7.out.size
      have HB8 := Aside0.mk (HB7.out.alloc hs7 (.cells (FR .u8 64 fun _ => 0) 28))
      have hne : w7.heap.size ≠ w.heap.size := by have := HS7.out; omega
      go_wp2_with (refine zQ D HN8.out info64b rfl rfl rfl rfl rfl ?_; intro w9 hs9 hr9; have HS9 := Aside0.mk hs9; have HN9 := Aside0.mk hr9; clear hs9 hr9)
      have HB9 := Aside0.mk (HS9.out.bel _ _ hs7 HB8.out)
      have HR9 := Aside0.mk (HR8.out.stored HS9.out (by omega))
      have HO9 : Aside0 (Ord w9) := ⟨HOr.out.below HB9.out HOl.out⟩
      have HRS := Aside0.mk (rest_calls' D (some ⟨w7.heap.size, 0, none⟩) 64 64 w9 HO9.out HDB.out (by omega) (HN9.out.bytesAt (Nat.le_refl _)))
      clear HS9 HN9 HR8 HB8 HN8 HO9
      go_wp2_with fail
      refine (HRS.out).mono ?_
      rintro e w10 ⟨rfl, hb10⟩
      have HB10 := Aside0.mk (HB9.out.trans (hb10.mono HB9.out.size))
      have HR10 := Aside0.mk (HR9.out.below hb10 HR9.out.lt)
      clear hb10 HRS
      go_wp2_with (refine zQ (dig 256 (val 256 D 64 % LL)) HR10.out info32r rfl rfl rfl rfl rfl ?_; intro w11 hs hr; have HS11 := Aside0.mk hs; have HR11 := Aside0.mk hr; clear hs hr)
      refine bodyPost_ret (zY rfl HR11.out rfl Tryd.underlying22 rfl info32r) rfl ?_
      exact ⟨by rw [HDE.out], HS11.out.bel _ _ (Nat.le_refl _) HB10.out⟩
end Go.Proofs.YtbmnkchcekacfaaDoor.P.Dg
end

section
namespace Go.Proofs.YtbmnkchcekacfaaDoor.P
set_option linter.unusedVariables false
set_option linter.unusedSimpArgs false
open Go.RowKit Go.ChangeShapes Go.WideShapes Go.Proofs.YtbmnkchcekacfaaDoorW.PrintWords Go.Proofs.YtbmnkchcekacfaaDoorW.PrintLast Go.Proofs.YtbmnkchcekacfaaDoorW.PrintMore
structure CB where
  i : Nat
  cs : Array Value
  t : TypeId
def RX (wE : World) (a0 : Act) (L : List (Nat × Tmp × SV)) (A : List Ent) (C : List CB) (b : Nat → Bool) (a : Act) (w : World) : Prop :=
  ∃ G : Nat → Nat, (a = zP a0 b (vals G L) ∧ Below wE.heap.size wE w ∧ (∀ x ∈ A, isOn b true x.born = true → wE.heap.size ≤ x.ad G ∧ Row w (x.ad G) x.k x.n (x.f b) x.t) ∧
    A.Pairwise (fun x y => isOn b true x.born = true → isOn b true y.born = true → x.ad G ≠ y.ad G)) ∧
    ∀ c ∈ C, b c.i = true → w.heap[G c.i]? = some (.cells c.cs c.t (0, 0))
section
variable {P : Program} {ops : Array Oper} {Q : Exit → Act → World → Prop} {B O : List Nat} {wE : World} {a0 : Act} {L : List (Nat × Tmp × SV)} {A : List Ent} {C : List CB} {i : Nat}
theorem RX.toRI {b : Nat → Bool} {a : Act} {w : World} (h : RX wE a0 L A C b a w) : RI wE a0 L A b a w := by
  obtain ⟨G, h, _⟩ := h
  exact ⟨G, h⟩
theorem RX.of {a : Act} {w : World} (h : RI wE a0 L A (fun _ => false) a w) : RX wE a0 L A C (fun _ => false) a w := by
  obtain ⟨G, h⟩ := h
  exact ⟨G, h, fun c _ hb => by cases hb⟩
theorem CB.up {c : CB} {b : Nat → Bool} (h : (c.i == i) = false) (hb : up b i c.i = true) : b c.i = true := by
  have hne : c.i ≠ i := fun e => by rw [e] at h; simp at h
  rw [up_ne hne] at hb
  exact hb
theorem sx_keep {N : Tmp} {oi : Oper} (k : Nat) (v : SV) (hoi : ops[i]? = some oi) (hN : oi.dst = some N) (hLo : LOk L) (hL : L[k]? = some (i, N, v))
    (hA : (A.all fun x => !(x.born == some i) && !(x.stored == some i)) = true) (hC : (C.all fun c => !(c.i == i)) = true)
    (hgo : ∀ b G w (K : Act → World → Prop), Below wE.heap.size wE w → Ons B O i b → Offs B O i b → (∀ x ∈ A, isOn b true x.born = true → wE.heap.size ≤ x.ad G ∧ Row w (x.ad G) x.k x.n (x.f b) x.t) → (∀ c ∈ C, b c.i = true → w.heap[G c.i]? = some (.cells c.cs c.t (0, 0))) →
      (∀ w', Below w.heap.size w w' → K ((zP a0 b (vals G L)).put oi.dst (v.at G)) w') →
      if Region.wanted oi (yielded ops (zP a0 b (vals G L)).tmps) = true then Oper.wp P oi (zP a0 b (vals G L)) w K Q else K ((zP a0 b (vals G L)).put oi.dst undef) w) :
    StepAt P ops Q B O (RX wE a0 L A C) i := by
  rintro b a w ⟨G, ⟨rfl, hB, hR, hD⟩, hCf⟩ hb hon hoff
  refine ⟨oi, hoi, fun K hK => hgo b G w K hB hon hoff hR hCf (fun w' hw' => hK _ _ ⟨G, ⟨?_, hB.trans (hw'.mono hB.size), fun x hx hbx => ?_, ?_⟩, fun c hc hbc => ?_⟩)⟩
  · rw [hN]
    exact putSel_upk k hb (vals_get hL) (by have h := vals_get (G := G) hL; obtain ⟨h1, h2⟩ := List.getElem?_eq_some_iff.1 h; rw [← h2]; exact List.set_getElem_self h1) (hLo.rest hL G)
  · have hx2 := List.all_eq_true.1 hA x hx
    simp only [Bool.and_eq_true, Bool.not_eq_true'] at hx2
    rw [isOn_up hx2.1] at hbx
    have h := hR x hx hbx
    have e : x.f (up b i) = x.f b := by unfold Ent.f; rw [isOn_up hx2.2]
    rw [e]
    exact ⟨h.1, h.2.below hw' h.2.lt⟩
  · refine hD.imp_of_mem (fun {x y} hx hy h h1 h2 => ?_)
    have hx2 := List.all_eq_true.1 hA x hx
    have hy2 := List.all_eq_true.1 hA y hy
    simp only [Bool.and_eq_true, Bool.not_eq_true'] at hx2 hy2
    rw [isOn_up hx2.1] at h1
    rw [isOn_up hy2.1] at h2
    exact h h1 h2
  · have hc2 := List.all_eq_true.1 hC c hc
    rw [Bool.not_eq_true'] at hc2
    have h := hCf c hc (CB.up hc2 hbc)
    exact (hw'.block _ (Array.getElem?_eq_some_iff.1 h).1).trans h
theorem sx_run {N : Tmp} {oi : Oper} (k : Nat) (v : SV) (hoi : ops[i]? = some oi) (hN : oi.dst = some N) (hLo : LOk L) (hL : L[k]? = some (i, N, v))
    (hA : (A.all fun x => !(x.born == some i) && !(x.stored == some i)) = true) (hC : (C.all fun c => !(c.i == i)) = true)
    (hw : ∀ b G, Ons B O i b → Offs B O i b → Region.wanted oi (yielded ops (zP a0 b (vals G L)).tmps) = true) (hrun : ∀ b G w, Ons B O i b → Offs B O i b → (execOp (zP a0 b (vals G L)).eval oi).run P w = .ok (.value (v.at G)) w) : StepAt P ops Q B O (RX wE a0 L A C) i :=
  sx_keep k v hoi hN hLo hL hA hC (fun b G w K hB hon hoff hR hCf hK => event_step (hw b G hon hoff) (hrun b G w hon hoff) (hK _ (Below.refl _ _)))
theorem sx_callC {N : Tmp} {oi : Oper} (k : Nat) (v : Value) (c : CB) {f : FuncId} {fn : Func} {asx : Array Operand} {ts : Array TypeId} (args : (Nat → Nat) → Array Value) (hcC : c ∈ C) (hoi : ops[i]? = some oi) (hN : oi.dst = some N) (hop : oi.op = .call { callee := .value (.func f), args := asx, argTypes := ts }) (hw : ∀ b G, Ons B O i b → Offs B O i b → Region.wanted oi (yielded ops (zP a0 b (vals G L)).tmps) = true)
    (hLo : LOk L) (hL : L[k]? = some (i, N, .val v)) (hA : (A.all fun x => !(x.born == some i) && !(x.stored == some i)) = true) (hC : (C.all fun c => !(c.i == i)) = true)
    (hf : P.funcs[f]? = some fn) (hname : (fn.name == "runtime.NumGoroutine") = false) (hbd : fn.body.isSome = true) (hon : onB B O i (some c.i) = true) (hargs : ∀ b G, Ons B O i b → Offs B O i b → asx.map (zP a0 b (vals G L)).eval = args G)
    (hc : ∀ G w, Below wE.heap.size wE w → (∀ x ∈ A, x.born = none → x.stored = none → Row w x.g x.k x.n x.f0 x.t) → w.heap[G c.i]? = some (.cells c.cs c.t (0, 0)) → Calls P f (args G) w fun e w' => e = .returned v ∧ Below w.heap.size w w') : StepAt P ops Q B O (RX wE a0 L A C) i :=
  sx_keep k (.val v) hoi hN hLo hL hA hC (fun b G w K hB hon' hoff hR hCf hK => goes_ hf hname hbd (args G) (hw b G hon' hoff) rfl hop (hargs b G hon' hoff) ((hc G w hB (fun x hx h1 h2 => by
      have h := (hR x hx (by rw [h1]; rfl)).2
      have e : x.f b = x.f0 := by unfold Ent.f; rw [h2]; rfl
      have e2 : x.ad G = x.g := by unfold Ent.ad; rw [h1]
      rw [e, e2] at h
      exact h) (hCf c hcC (onB_is hon hon'))).mono (by
    rintro e w' ⟨rfl, hb⟩
    exact ⟨_, rfl, hK _ hb⟩)))
theorem sx_mk {N : Tmp} {oi : Oper} {mk : Nat → Value} (k r : Nat) (c : CB) (hoi : ops[i]? = some oi) (hN : oi.dst = some N) (hw : ∀ b G, Ons B O i b → Offs B O i b → Region.wanted oi (yielded ops (zP a0 b (vals G L)).tmps) = true)
    (hx : C[r]? = some c) (hci : c.i = i) (hLo : LOk L) (hL : L[k]? = some (i, N, .new i mk)) (hL' : ((L.take k ++ L.drop (k + 1)).all fun e => !e.2.2.of i) = true)
    (hC : ((C.take r ++ C.drop (r + 1)).all fun x => !(x.i == i)) = true) (hA : (A.all fun x => !(x.born == some i) && !(x.stored == some i)) = true)
    (hrun : ∀ b G w, Ons B O i b → Offs B O i b → (execOp (zP a0 b (vals G L)).eval oi).run P w = .ok (.value (mk w.heap.size)) (w.alloc (.cells c.cs c.t))) :
    StepAt P ops Q B O (RX wE a0 L A C) i := by
  rintro b a w ⟨G, ⟨rfl, hB, hR, hD⟩, hCf⟩ hb hon hoff
  have hbn : ∀ x ∈ A, (x.born == some i) = false ∧ (x.stored == some i) = false := fun x hx => by
    have hx2 := List.all_eq_true.1 hA x hx
    simp only [Bool.and_eq_true, Bool.not_eq_true'] at hx2
    exact hx2
  have had : ∀ x ∈ A, x.ad (setG G i w.heap.size) = x.ad G := fun x hx => ad_setG (hbn x hx).1
  refine ⟨oi, hoi, fun K hK => event_step (hw b G hon hoff) (hrun b G w hon hoff) (hK _ _ ⟨setG G i w.heap.size, ⟨?_, hB.alloc hB.size _, fun x hx' hbx => ?_, ?_⟩, fun z hz hbz => ?_⟩)⟩
  · rw [hN]
    exact putSel_upk k hb (vals_get hL) (vals_setG hL' hL).symm (hLo.rest hL G)
  · rw [isOn_up (hbn x hx').1] at hbx
    have e : x.f (up b i) = x.f b := by unfold Ent.f; rw [isOn_up (hbn x hx').2]
    have h := hR x hx' hbx
    rw [e, had x hx']
    exact ⟨h.1, h.2.alloc _⟩
  · refine hD.imp_of_mem (fun {x y} hx hy h h1 h2 => ?_)
    rw [isOn_up (hbn x hx).1] at h1
    rw [isOn_up (hbn y hy).1] at h2
    rw [had x hx, had y hy]
    exact h h1 h2
  · obtain ⟨j, hj⟩ := List.getElem?_of_mem hz
    by_cases hjr : j = r
    · subst hjr
      rw [hx] at hj
      obtain rfl := Option.some.inj hj
      rw [hci]
      show (w.alloc (.cells c.cs c.t)).heap[setG G i w.heap.size i]? = _
      rw [show setG G i w.heap.size i = w.heap.size from if_pos rfl]
      exact heap_alloc_new w _
    · have hm : z ∈ C.take r ++ C.drop (r + 1) := by
        rw [List.mem_append]
        by_cases hlt : j < r
        · left; exact List.mem_of_getElem? (i := j) (by rw [List.getElem?_take_of_lt hlt]; exact hj)
        · right; exact List.mem_of_getElem? (i := j - (r + 1)) (by rw [List.getElem?_drop]; rw [show r + 1 + (j - (r + 1)) = j by omega]; exact hj)
      have h2 := List.all_eq_true.1 hC z hm
      rw [Bool.not_eq_true'] at h2
      have h := hCf z hz (CB.up h2 hbz)
      have hne : z.i ≠ i := fun e => by rw [e] at h2; simp at h2
      rw [show setG G i w.heap.size z.i = G z.i from if_neg hne]
      exact (Below.heap_alloc w _ _ (Array.getElem?_eq_some_iff.1 h).1).trans h
theorem sx_alloc {N : Tmp} {oi : Oper} {mk : Nat → Value} (k r : Nat) (kk : IntKind) (n : Nat) (t : TypeId) (st : Option Nat) (f0 f1 : Nat → Int) (hoi : ops[i]? = some oi) (hN : oi.dst = some N) (hw : ∀ b G, Ons B O i b → Offs B O i b → Region.wanted oi (yielded ops (zP a0 b (vals G L)).tmps) = true)
    (hx : A[r]? = some ⟨0, some i, st, kk, n, f0, f1, t⟩) (hLo : LOk L) (hL : L[k]? = some (i, N, .new i mk)) (hL' : ((L.take k ++ L.drop (k + 1)).all fun e => !e.2.2.of i) = true)
    (hA : ((A.take r ++ A.drop (r + 1)).all fun x => !(x.born == some i)) = true) (hAs : (A.all fun x => !(x.stored == some i)) = true) (hC : (C.all fun c => !(c.i == i)) = true)
    (hst : offB B O i st = true) (hrun : ∀ b G w, Ons B O i b → Offs B O i b → (execOp (zP a0 b (vals G L)).eval oi).run P w = .ok (.value (mk w.heap.size)) (w.alloc (.cells (FR kk n f0) t))) :
    StepAt P ops Q B O (RX wE a0 L A C) i := by
  rintro b a w ⟨G, ⟨rfl, hB, hR, hD⟩, hCf⟩ hb hon hoff
  have hCC : ∀ c ∈ C, up b i c.i = true → (w.alloc (.cells (FR kk n f0) t)).heap[setG G i w.heap.size c.i]? = some (.cells c.cs c.t (0, 0)) := fun z hz hbz => by
    have h2 := List.all_eq_true.1 hC z hz
    rw [Bool.not_eq_true'] at h2
    have h := hCf z hz (CB.up h2 hbz)
    have hne : z.i ≠ i := fun e => by rw [e] at h2; simp at h2
    rw [show setG G i w.heap.size z.i = G z.i from if_neg hne]
    exact (Below.heap_alloc w _ _ (Array.getElem?_eq_some_iff.1 h).1).trans h
  refine ⟨oi, hoi, fun K hK => event_step (hw b G hon hoff) (hrun b G w hon hoff) (hK _ _ ⟨setG G i w.heap.size, ⟨?_, hB.alloc hB.size _, fun x hx' hbx => ?_, ?_⟩, hCC⟩)⟩
  · rw [hN]
    exact putSel_upk k hb (vals_get hL) (vals_setG hL' hL).symm (hLo.rest hL G)
  · obtain ⟨j, hj⟩ := List.getElem?_of_mem hx'
    have hxs := List.all_eq_true.1 hAs x hx'
    rw [Bool.not_eq_true'] at hxs
    have e : x.f (up b i) = x.f b := by unfold Ent.f; rw [isOn_up hxs]
    rw [e]
    by_cases hjr : j = r
    · subst hjr
      rw [hx] at hj
      obtain rfl := Option.some.inj hj
      have e2 : (setG G i w.heap.size) i = w.heap.size := if_pos rfl
      have e3 : (⟨0, some i, st, kk, n, f0, f1, t⟩ : Ent).f b = f0 := by unfold Ent.f; rw [offB_is hst hoff]; rfl
      rw [e3]
      show wE.heap.size ≤ setG G i w.heap.size i ∧ Row _ (setG G i w.heap.size i) kk n _ t
      rw [e2]
      exact ⟨hB.size, Row.new _ _ _ _ _⟩
    · have hbx2 : (x.born == some i) = false ∧ isOn b true x.born = true := by
        have hm : x ∈ A.take r ++ A.drop (r + 1) := by
          rw [List.mem_append]
          by_cases hlt : j < r
          · left; exact List.mem_of_getElem? (i := j) (by rw [List.getElem?_take_of_lt hlt]; exact hj)
          · right; exact List.mem_of_getElem? (i := j - (r + 1)) (by rw [List.getElem?_drop]; rw [show r + 1 + (j - (r + 1)) = j by omega]; exact hj)
        have h2 := List.all_eq_true.1 hA x hm
        rw [Bool.not_eq_true'] at h2
        rw [isOn_up h2] at hbx
        exact ⟨h2, hbx⟩
      have h := hR x hx' hbx2.2
      rw [show x.ad (setG G i w.heap.size) = x.ad G from ad_setG hbx2.1]
      exact ⟨h.1, h.2.alloc _⟩
  · -- distinct
    rw [List.pairwise_iff_getElem] at hD ⊢
    intro j1 j2 h1 h2 hlt hb1 hb2
    have key : ∀ (j : Nat) (hj : j < A.length), j ≠ r → isOn (up b i) true (A[j]).born = true → isOn b true (A[j]).born = true ∧ (A[j]).ad (setG G i w.heap.size) = (A[j]).ad G ∧ (A[j]).ad G < w.heap.size := by
      intro j hj hjr hbj
      have hm : A[j] ∈ A.take r ++ A.drop (r + 1) := by
        rw [List.mem_append]
        by_cases hlt : j < r
        · left; exact List.mem_of_getElem? (i := j) (by rw [List.getElem?_take_of_lt hlt]; exact List.getElem?_eq_getElem hj)
        · right; exact List.mem_of_getElem? (i := j - (r + 1)) (by rw [List.getElem?_drop]; rw [show r + 1 + (j - (r + 1)) = j by omega]; exact List.getElem?_eq_getElem hj)
      have h2 := List.all_eq_true.1 hA _ hm
      rw [Bool.not_eq_true'] at h2
      rw [isOn_up h2] at hbj
      exact ⟨hbj, ad_setG h2, (hR _ (List.getElem_mem hj) hbj).2.lt⟩
    have hr := (List.getElem?_eq_some_iff.1 hx)
    obtain ⟨hrl, hre⟩ := hr
    have hself : (A[r]).ad (setG G i w.heap.size) = w.heap.size := by rw [hre]; exact if_pos rfl
    by_cases e1 : j1 = r
    · have hk2 := key j2 h2 (by omega) hb2
      subst e1
      rw [hself, hk2.2.1]; omega
    · have hk1 := key j1 h1 e1 hb1
      by_cases e2 : j2 = r
      · subst e2
        rw [hself, hk1.2.1]; omega
      · have hk2 := key j2 h2 e2 hb2
        rw [hk1.2.1, hk2.2.1]
        exact hD j1 j2 h1 h2 hlt hk1.1 hk2.1
theorem sx_store {oi : Oper} (r : Nat) (x : Ent) {ty : TypeId} {p y : Operand} (hx : A[r]? = some x) (hxs : x.stored = some i) (hoi : ops[i]? = some oi) (hN : oi.dst = none) (ho : oi.op = .store ty p y) (hw : ∀ b G, Ons B O i b → Offs B O i b → Region.wanted oi (yielded ops (zP a0 b (vals G L)).tmps) = true)
    (hL : (L.all fun e => !(e.1 == i)) = true) (hA : (A.all fun x => !(x.born == some i)) = true) (hAs : ((A.take r ++ A.drop (r + 1)).all fun x => !(x.stored == some i)) = true) (hC : (C.all fun c => !(c.i == i) && !(c.t == x.t)) = true) (hbo : onB B O i x.born = true) (hi : (P.info? ty).map (·.size) = some x.n)
    (hp : ∀ b G, Ons B O i b → Offs B O i b → (zP a0 b (vals G L)).eval p = .pointer (some ⟨x.ad G, 0, none⟩)) (hy : ∀ b G, Ons B O i b → Offs B O i b → (zP a0 b (vals G L)).eval y = .agg (FR x.k x.n x.f1)) : StepAt P ops Q B O (RX wE a0 L A C) i := by
  rintro b a w ⟨G, ⟨rfl, hB, hR, hD⟩, hCf⟩ hb hon hoff
  have hxm := List.mem_of_getElem? hx
  have h0 := hR x hxm (onB_is hbo hon)
  refine ⟨oi, hoi, fun K hK => ?_⟩
  rw [hN]
  refine oper_storeG x.f1 h0.2 hi (hw b G hon hoff) hN ho (hp b G hon hoff) (hy b G hon hoff) (fun w' hs hr => hK _ _ ⟨G, ⟨(putSel_same (by unfold vals; rw [List.all_map]; exact hL)).symm, hs.bel _ _ h0.1 hB, fun z hz hbz => ?_, ?_⟩, fun c hc hbc => ?_⟩)
  · have hzb := List.all_eq_true.1 hA z hz
    rw [Bool.not_eq_true'] at hzb
    rw [isOn_up hzb] at hbz
    obtain ⟨j, hj⟩ := List.getElem?_of_mem hz
    by_cases hjr : j = r
    · subst hjr
      rw [hx] at hj
      obtain rfl := Option.some.inj hj
      have e : x.f (up b i) = x.f1 := by unfold Ent.f; rw [hxs]; exact if_pos (up_self b i)
      rw [e]
      exact ⟨h0.1, hr⟩
    · have hm : z ∈ A.take r ++ A.drop (r + 1) := by
        rw [List.mem_append]
        by_cases hlt : j < r
        · left; exact List.mem_of_getElem? (i := j) (by rw [List.getElem?_take_of_lt hlt]; exact hj)
        · right; exact List.mem_of_getElem? (i := j - (r + 1)) (by rw [List.getElem?_drop]; rw [show r + 1 + (j - (r + 1)) = j by omega]; exact hj)
      have h2 := List.all_eq_true.1 hAs z hm
      rw [Bool.not_eq_true'] at h2
      have e : z.f (up b i) = z.f b := by unfold Ent.f; rw [isOn_up h2]
      rw [e]
      have hz0 := hR z hz hbz
      refine ⟨hz0.1, hz0.2.stored hs ?_⟩
      rw [List.pairwise_iff_getElem] at hD
      obtain ⟨hjl, hje⟩ := List.getElem?_eq_some_iff.1 hj
      obtain ⟨hrl, hre⟩ := List.getElem?_eq_some_iff.1 hx
      by_cases hlt : j < r
      · have := hD j r hjl hrl hlt (by rw [hje]; exact hbz) (by rw [hre]; exact onB_is hbo hon)
        rwa [hje, hre] at this
      · have := hD r j hrl hjl (by omega) (by rw [hre]; exact onB_is hbo hon) (by rw [hje]; exact hbz)
        rw [hje, hre] at this
        exact fun e => this e.symm
  · refine hD.imp_of_mem (fun {z y} hz hy h h1 h2 => ?_)
    have hz2 := List.all_eq_true.1 hA z hz
    have hy2 := List.all_eq_true.1 hA y hy
    rw [Bool.not_eq_true'] at hz2 hy2
    rw [isOn_up hz2] at h1
    rw [isOn_up hy2] at h2
    exact h h1 h2
  · have hc2 := List.all_eq_true.1 hC c hc
    simp only [Bool.and_eq_true, Bool.not_eq_true'] at hc2
    have h := hCf c hc (CB.up hc2.1 hbc)
    have hne : G c.i ≠ x.ad G := fun e => by
      rw [e] at h
      have h2 := Option.some.inj (h.symm.trans h0.2)
      injection h2 with h3 h4
      rw [h4] at hc2
      simp at hc2
    exact (hs.other _ hne).trans h
theorem regionx_ {T : Bool × List (List Nat × List Nat)} {w : World} {R : List RowD} {id n sz : Nat} {S : List (Tmp × Value)} (O : List Nat) (S' : List (Tmp × SV)) (L : List (Nat × Tmp × SV)) (A : List Ent) (C : List CB) (hm : P.follows .mixedOrders = true) (hn : ops.size = n) (hT : rtab .any ops = T) (hw : zW T.2 B = true) (hk : baseOk T.2 O = true) (hl : (Go.Proofs.YtbmnkchcekacfaaDoorW.PrintLast.lof T.2.length O (fun _ => false) == List.replicate n false && O.length == n) = true)
    (hH : Held wE w R) (hR : (A.filter fun x => x.born == none).map Ent.row0 = R) (hA : (A.all fun x => (match x.born with | none => true | some j => O.contains j) && (match x.stored with | none => true | some j => O.contains j)) = true) (hLo : LOk L) (hL : (L.all fun e => O.contains e.1 && Nat.ble (e.2.1 + 1) sz) = true) (hS : Sl a0 sz S) (hS' : SlOk L S S')
    (hs : ∀ i ∈ O, StepAt P ops Q B O (RX wE a0 L A C) i) (hend : ∀ G a' w', Sl a' sz (S'.map fun e => (e.1, e.2.at G)) → Held wE w' (A.map fun x => x.row G) → Q .normal a' w') : (Code.region id ops true).wp P Q a0 w := by
  refine start_ (n := n) (S := fun _ => True) (ds := []) (Array.replicate n false) hm hn rfl trivial (fun _ => ?_)
  have hH' : Held wE w.drew R := ⟨hH.1.drew, fun r hr => ⟨(hH.2.1 r hr).1, (hH.2.1 r hr).2⟩, hH.2.2⟩
  refine inv_ O (RX wE a0 L A C) hT hw hk (by simpa using hl) (RX.of (RI.start hH' hR)) hs (fun b a' w' hall hI => ?_)
  obtain ⟨G, h1, h2⟩ := hI.toRI.fin hall hA hLo hL hS hS'
  exact hend G a' w' h1 h2
end
section
variable {P : Program} {ops : Array Oper} {Q : Exit → Act → World → Prop} {B O : List Nat} {wE : World} {a0 : Act} {L : List (Nat × Tmp × SV)} {A : List Ent} {i : Nat}
def Old (A : List Ent) (w : World) : Prop := ∀ x ∈ A, x.born = none → x.stored = none → Row w x.g x.k x.n x.f0 x.t
theorem old_of {b : Nat → Bool} {G : Nat → Nat} {w : World} (hR : ∀ x ∈ A, isOn b true x.born = true → wE.heap.size ≤ x.ad G ∧ Row w (x.ad G) x.k x.n (x.f b) x.t) : Old A w := fun x hx h1 h2 => by
  have h := (hR x hx (by rw [h1]; rfl)).2
  have e : x.f b = x.f0 := by unfold Ent.f; rw [h2]; rfl
  have e2 : x.ad G = x.g := by unfold Ent.ad; rw [h1]
  rw [e, e2] at h
  exact h
theorem Old.at {w : World} (h : Old A w) (r : Nat) {g : Nat} {k : IntKind} {n : Nat} {f0 f1 : Nat → Int} {t : TypeId} (hr : A[r]? = some ⟨g, none, none, k, n, f0, f1, t⟩) : Row w g k n f0 t := h _ (List.mem_of_getElem? hr) rfl rfl
theorem st_callO {N : Tmp} {oi : Oper} (k : Nat) (v : Value) {f : FuncId} {fn : Func} {asx : Array Operand} {ts : Array TypeId} (args : Array Value) (hoi : ops[i]? = some oi) (hN : oi.dst = some N) (hop : oi.op = .call { callee := .value (.func f), args := asx, argTypes := ts }) (hw : ∀ b G, Ons B O i b → Offs B O i b → Region.wanted oi (yielded ops (zP a0 b (vals G L)).tmps) = true)
    (hLo : LOk L) (hL : L[k]? = some (i, N, .val v)) (hA : (A.all fun x => !(x.born == some i) && !(x.stored == some i)) = true)
    (hf : P.funcs[f]? = some fn) (hname : (fn.name == "runtime.NumGoroutine") = false) (hbd : fn.body.isSome = true) (hargs : ∀ b G, Ons B O i b → Offs B O i b → asx.map (zP a0 b (vals G L)).eval = args)
    (hc : ∀ w, Below wE.heap.size wE w → Old A w → Calls P f args w fun e w' => e = .returned v ∧ Below w.heap.size w w') : StepAt P ops Q B O (RI wE a0 L A) i :=
  st_keep k (.val v) hoi hN hLo hL hA (fun b G w K hB hon hoff hR hK => goes_ hf hname hbd args (hw b G hon hoff) rfl hop (hargs b G hon hoff) ((hc w hB (old_of hR)).mono (by
    rintro e w' ⟨rfl, hb⟩
    exact ⟨_, rfl, hK _ hb⟩)))
theorem st_readO {N : Tmp} {oi : Oper} (k : Nat) (v : SV) (hoi : ops[i]? = some oi) (hN : oi.dst = some N) (hLo : LOk L) (hL : L[k]? = some (i, N, v))
    (hA : (A.all fun x => !(x.born == some i) && !(x.stored == some i)) = true) (hw : ∀ b G, Ons B O i b → Offs B O i b → Region.wanted oi (yielded ops (zP a0 b (vals G L)).tmps) = true)
    (hrun : ∀ b G w, Ons B O i b → Offs B O i b → Below wE.heap.size wE w → Old A w → (execOp (zP a0 b (vals G L)).eval oi).run P w = .ok (.value (v.at G)) w) : StepAt P ops Q B O (RI wE a0 L A) i :=
  st_keep k v hoi hN hLo hL hA (fun b G w K hB hon hoff hR hK => event_step (hw b G hon hoff) (hrun b G w hon hoff hB (old_of hR)) (hK _ (Below.refl _ _)))
end
theorem exec_toArr {P : Program} {o : Oper} {ev : Operand → Value} {w : World} {t : TypeId} {x : Operand} {a v : Value} (ho : o.op = .sliceToArrayPointer t x) (hx : ev x = a) (h : (Instr.arrayAt t a).run P w = .ok v w) : (execOp ev o).run P w = .ok (.value v) w := by
  unfold execOp
  simp only [ho, hx, Sem.run_bind, Sem.run_pure, h, Result.andThen_ok]
theorem b_rows {P : Program} {fn : Func} {R : Ending → World → Prop} {p q : Tmp} {ty ty2 : TypeId} {a : Act} {w : World} {g n g2 n2 : Nat} {k k2 : IntKind} {f f2 : Nat → Int} {t t2 : TypeId} {d d2 : TypeDesc} (h : fn.results = #[.cell p ty, .cell q ty2]) (hd : a.defers = []) (hp : a.eval (.tmp p) = .pointer (some ⟨g, 0, none⟩)) (hq : a.eval (.tmp q) = .pointer (some ⟨g2, 0, none⟩)) (hr : Row w g k n f t) (hr2 : Row w g2 k2 n2 f2 t2)
    (hu : P.underlying ty = some d) (hdd : (match d with | .struct _ | .array _ _ => true | _ => false) = true) (hi : (P.info? ty).map (·.size) = some n) (hu2 : P.underlying ty2 = some d2) (hdd2 : (match d2 with | .struct _ | .array _ _ => true | _ => false) = true) (hi2 : (P.info? ty2).map (·.size) = some n2)
    (hR : R (.returned (.tuple #[.agg (FR k n f), .agg (FR k2 n2 f2)])) w) : bodyPost P fn R .ret a w := by
  refine ⟨hd, _, ?_, hR⟩
  have hp' : a.tmps[p]?.getD undef = .pointer (some ⟨g, 0, none⟩) := by have hp2 : a.tmps.getD p undef = _ := hp; simpa using hp2
  have hq' : a.tmps[q]?.getD undef = .pointer (some ⟨g2, 0, none⟩) := by have hp2 : a.tmps.getD q undef = _ := hq; simpa using hp2
  simp [results, h, hp', hq', asAddr, run_loadVar_row w g t ty _ _ d hr hu hdd (by rw [FR_size]; exact hi), run_loadVar_row w g2 t2 ty2 _ _ d2 hr2 hu2 hdd2 (by rw [FR_size]; exact hi2)]
end Go.Proofs.YtbmnkchcekacfaaDoor.P
end

section
namespace Go.Proofs.YtbmnkchcekacfaaDoor.P
set_option linter.unusedVariables false
set_option linter.unusedSimpArgs false
open Go.RowKit Go.Proofs.YtbmnkchcekacfaaDoorW.PrintWords Go.Proofs.YtbmnkchcekacfaaDoorW.PrintLast Go.Proofs.YtbmnkchcekacfaaDoorW.PrintMore
attribute [local go_sem] setCell_drewN
theorem tabGood1 : rtab .any (opsOf Tryd.f15 1) = (true, [([], []), ([0], [0]), ([], []), ([1, 2], [1, 2]), ([3, 1, 0, 1, 2, 3], [3])]) := by kernel_rfl
theorem bitsGood1 : zW [([], []), ([0], [0]), ([], []), ([1, 2], [1, 2]), ([3, 1, 0, 1, 2, 3], [3])] [0, 1, 0, 7, 15] = true := by kernel_rfl
theorem good_calls (s : Nat → Int) (w : World) (ho : Ord w) (hs : By s) :
    Calls Tryd.prog 15 #[.agg (FR .u8 32 s)] w fun e w' => e = .returned (.bool (decide (N32 s < LL))) ∧ Below w.heap.size w w' := by
  have HO := Aside0.mk ho
  have HS := Aside0.mk hs
  have HE := Aside0.mk (same_good s hs)
  have hq := equal32
  clear ho hs
  go_enter Tryd.func15, Tryd.ntmps15
  go_wp2_with fail
  have hh : Row (w.alloc (.cells (FR .u8 32 s) 22)).drew w.heap.size .u8 32 s 22 := Row.new w .u8 32 s 22
  have HBd := Aside0.mk ((Below.refl w.heap.size w).alloc (Nat.le_refl _) (.cells (FR .u8 32 s) 22)).drew
  refine start_ (n := 5) (S := (fun w' => Row w' w.heap.size .u8 32 s 22)) (ds := []) #[false, false, false, false, false] (by kernel_rfl) rfl rfl hh (fun hHeld => ?_); refine with_tabW tabGood1 bitsGood1 (fun HT_ HW_ => ?_)
  generalize (w.alloc (.cells (FR .u8 32 s) 22)).drew = w6 at HBd hHeld hh ⊢
  clear hh
  refine pure_ (i := 0) (N := some 3) (v := ?_) (a' := ?_) #[true, false, false, false, false] rfl rfl (any_of HT_.out (by kernel_rfl)) (fun _ _ _ h => h) (Or.inl ⟨by rfl, ?_⟩) ?_ ?_
  rotate_left
  · intro w'
    go_simp
    with_reducible rfl
  rotate_left
  · simp only [Act.put, List.setIfInBounds_toArray, List.set_cons_zero, List.set_cons_succ, yF, yI]
    rfl
  refine take_ (i := 2) (N := some 5) (v := ?_) (a' := ?_) #[true, false, true, false, false] rfl rfl (take_ofW HT_.out HW_.out (by kernel_rfl)) (fun _ _ _ h => h) (Or.inl ⟨by rfl, ?_⟩) hHeld ?_ ?_
  rotate_left
  · intro w' hsw
    refine exec_load (x := .tmp 1) hsw Tryd.underlying22 info32 rfl ?_ ?_ <;> rfl
  rotate_left
  · simp only [Act.put, List.setIfInBounds_toArray, List.set_cons_zero, List.set_cons_succ, yF, yI]
    rfl
  refine one_ (i := 1) (N := some 4) #[true, true, true, false, false] rfl rfl (one_of HT_.out (by kernel_rfl)) (by decide) (fun K hK => ?_)
  refine goes_ Tryd.func35 rfl rfl #[.slice (some ⟨w.heap.size, 0, none⟩) 32 32] rfl rfl rfl (by simp only [List.map_toArray, List.map_cons, List.map_nil]; rfl) ((rest_calls' s _ 32 32 _ (HO.out.below HBd.out HO.out.lt) HS.out (by omega) (hHeld.bytesAt (Nat.le_refl _))).mono ?_)
  rintro e wc1 ⟨rfl, hb⟩
  have hSn : Row wc1 w.heap.size .u8 32 s 22 := hHeld.below hb hHeld.lt
  have HBc1 := Aside0.mk (HBd.out.trans (hb.mono HBd.out.size))
  clear hb
  refine ⟨_, rfl, hK.out _ _ hSn (fun hHeld => ?_)⟩
  clear hSn
  clear hK K
  refine norm_ (a' := ?_) ?_ ?_
  rotate_left
  · show Act.put _ (some 4) _ = _
    simp only [Act.put, List.setIfInBounds_toArray, List.set_cons_zero, List.set_cons_succ, yF, yI]
    rfl
  refine pure_ (i := 3) (N := some 6) (v := ?_) (a' := ?_) #[true, true, true, true, false] rfl rfl (any_of HT_.out (by kernel_rfl)) (fun _ _ _ h => h) (Or.inl ⟨by rfl, ?_⟩) ?_ ?_
  rotate_left
  · intro w'
    go_simp
    with_reducible rfl
  rotate_left
  · simp only [Act.put, List.setIfInBounds_toArray, List.set_cons_zero, List.set_cons_succ, yF, yI]
    rfl
  refine pure_ (i := 4) (N := some 2) (v := ?_) (a' := ?_) #[true, true, true, true, true] rfl rfl (any_of HT_.out (by kernel_rfl)) (fun _ _ _ h => h) (Or.inl ⟨by rfl, ?_⟩) ?_ ?_
  rotate_left
  · intro w'
    go_simp
    with_reducible rfl
  rotate_left
  · simp only [Act.put, List.setIfInBounds_toArray, List.set_cons_zero, List.set_cons_succ, yF, yI]
    rfl
  refine done_ (done_of HT_.out (by kernel_rfl)) ?_
  clear HT_ HW_ hHeld
  go_wp2_with fail
  go_ret
  exact ⟨by rw [← HE.out]; rfl, HBc1.out⟩
end Go.Proofs.YtbmnkchcekacfaaDoor.P
end

section
namespace Go.Proofs.YtbmnkchcekacfaaDoor.P
set_option linter.unusedVariables false
set_option linter.unusedSimpArgs false
open Go.RowKit Go.ChangeShapes Go.WideShapes Go.Proofs.YtbmnkchcekacfaaDoorW.PrintWords Go.Proofs.YtbmnkchcekacfaaDoorW.PrintLast Go.Proofs.YtbmnkchcekacfaaDoorW.PrintMore
open Go.Proofs.YtbmnkchcekacfaaDoor.P.Fd
def secA (z : Nat → Int) : Nat → Int := upd (upd (Dg.dg z 32) 0 (Go.bits .and .u8 (Dg.dg z 32 0) 248)) 31 (Go.bits .or .u8 (Go.bits .and .u8 (upd (Dg.dg z 32) 0 (Go.bits .and .u8 (Dg.dg z 32 0) 248) 31) 127) 64)
def prefP (z : Nat → Int) : Nat → Int := fun j => Dg.dg z 32 (32 + j)
theorem _root_.Go.Proofs.YtbmnkchcekacfaaDoor.P.Dg.Tab.to {w w' : World} (h : Dg.Tab w) (hb : Below w.heap.size w w') : Dg.Tab w' := h.keep (hb.block _ h.lt)
theorem infoB6 : (Tryd.prog.info? 28).map (·.size) = some 64 := by kernel_rfl
theorem conv_slc {w : World} {g n m c : Nat} {f : Nat → Int} {t : TypeId} (hr : Row w g .u8 n f t) (hm : m ≤ n) : (convert 25 9 (.slice (some ⟨g, 0, none⟩) m c)).run Tryd.prog w = .ok (.string (Dg.sN m f)) w :=
  run_convert_bytes_arg w 25 5 Tryd.underlying25 Tryd.underlying5 g 0 m c ((List.range m).map f) (by simp) (fun i hi => by
    rw [Nat.zero_add, hr.cell i (by omega)]
    simp [List.getD_eq_getElem?_getD, hi]) 9 Tryd.underlying9
theorem of_as {z D : Nat → Int} (h : Dg.dg z 32 = D) (w : World) (ht : Dg.Tab w) (hz : Fd.By z) {g : Nat} {t : TypeId} (hr : Row w g .u8 32 z t) : Calls Tryd.prog 36 #[.slice (some ⟨g, 0, none⟩) 32 32] w fun e w' => e = .returned (.agg (FR .u8 64 D)) ∧ Below w.heap.size w w' := by
  rw [← h]
  exact Dg.of_calls z (some ⟨g, 0, none⟩) 32 32 w ht hr.numsAt (fun e => by cases e) (by omega) hz
theorem and248_run (x : Int) (w : World) (p q : Operand) : (do eqGuard .and 5 p q (.int .u8 x) (.int .u8 248); binOp .and 5 (.int .u8 x) (.int .u8 248) : Sem Value).run Tryd.prog w = .ok (.int .u8 (Go.bits .and .u8 x 248)) w := by go_simp
theorem or64_run (x : Int) (w : World) (p q : Operand) : (do eqGuard .or 5 p q (.int .u8 x) (.int .u8 64); binOp .or 5 (.int .u8 x) (.int .u8 64) : Sem Value).run Tryd.prog w = .ok (.int .u8 (Go.bits .or .u8 x 64)) w := by go_simp
theorem slc_32_0_32 (g : Nat) (w : World) : (Instr.sliceAt 22 (.pointer (some ⟨g, 0, none⟩)) none none none).run Tryd.prog w = .ok (.slice (some ⟨g, 0, none⟩) 32 32) w := by kernel_rfl
theorem slc_64_0_32 (g : Nat) (w : World) : (Instr.sliceAt 28 (.pointer (some ⟨g, 0, none⟩)) none (some (.int .i64 32)) none).run Tryd.prog w = .ok (.slice (some ⟨g, 0, none⟩) 32 64) w := by kernel_rfl
theorem slc_64_32_64 (g : Nat) (w : World) : (Instr.sliceAt 28 (.pointer (some ⟨g, 0, none⟩)) (some (.int .i64 32)) none none).run Tryd.prog w = .ok (.slice (some ⟨g, 32, none⟩) 32 32) w := by kernel_rfl
theorem tabhv_2 : rtab .any (opsOf Tryd.f16 2) = (true, [([], []), ([0], [0]), ([1], [1]), ([], []), ([3], [3]), ([4], [4]), ([], []), ([], []), ([6, 2, 0, 1, 2, 6, 7], [2, 6]), ([7, 5, 8, 0, 1, 2, 3, 4, 5, 6, 7, 8], [5, 7])]) := by kernel_rfl
theorem bitshv_2 : zW [([], []), ([0], [0]), ([1], [1]), ([], []), ([3], [3]), ([4], [4]), ([], []), ([], []), ([6, 2, 0, 1, 2, 6, 7], [2, 6]), ([7, 5, 8, 0, 1, 2, 3, 4, 5, 6, 7, 8], [5, 7])] [0, 1, 3, 0, 8, 24, 0, 0, 199, 511] = true := by kernel_rfl
theorem tabhv_5 : rtab .any (opsOf Tryd.f16 5) = (true, [([], []), ([], []), ([0, 0], [0]), ([1, 2, 0, 1, 2], [1])]) := by kernel_rfl
theorem bitshv_5 : zW [([], []), ([], []), ([0, 0], [0]), ([1, 2, 0, 1, 2], [1])] [0, 0, 1, 7] = true := by kernel_rfl
theorem halves_calls (z : Nat → Int) (w : World) (hTd : Dg.Tab w) (hz : Fd.By z) : Calls Tryd.prog 16 #[.agg (FR .u8 32 z)] w fun e w' => e = .returned (.tuple #[.agg (FR .u8 32 (secA z)), .agg (FR .u8 32 (prefP z))]) ∧ Below w.heap.size w w' := by
  obtain ⟨D, hD⟩ : ∃ D, Dg.dg z 32 = D := ⟨_, rfl⟩
  obtain ⟨Q, hQ⟩ : ∃ Q, (fun j => D (32 + j)) = Q := ⟨_, rfl⟩
  obtain ⟨X, hX⟩ : ∃ X, upd D 0 (Go.bits .and .u8 (D 0) 248) = X := ⟨_, rfl⟩
  obtain ⟨Y, hY⟩ : ∃ Y, upd X 31 (Go.bits .or .u8 (Go.bits .and .u8 (X 31) 127) 64) = Y := ⟨_, rfl⟩
  have e1 : secA z = Y := by rw [← hY, ← hX, ← hD]; rfl
  have e2 : prefP z = Q := by rw [← hQ, ← hD]; rfl
  rw [e1, e2]
  refine enter_ 26 Tryd.func16 rfl rfl (fun a0 hS => ?_)
  have HS0 : Sl a0 26 [(0, .agg (FR .u8 32 z))] := hS
  have HH0 : Held w w [] := Held.first w
  clear hS
  refine wp_seq ?_
  have hLo : LOk [(0, 1, .ptr 0 0), (1, 2, .ptr 1 0), (2, 3, .ptr 2 0)] := lok rfl rfl
  refine zJ (wE := w) (sz := 26) (n := 3) [0, 1, 3] [(1, .ptr 0 0), (2, .ptr 1 0), (3, .ptr 2 0)] _ [⟨0, some 0, none, .u8, 32, z, z, 22⟩, ⟨0, some 1, none, .u8, 32, fun _ => 0, fun _ => 0, 22⟩, ⟨0, some 2, none, .u8, 32, fun _ => 0, fun _ => 0, 22⟩] rfl (by rfl) HH0 rfl rfl hLo rfl HS0 (slL 0 (d := 0) rfl (slL 1 (d := 1) rfl (slL 2 (d := 2) rfl (trivial)))) ?_ ?_
  · show ∀ i ∈ [0, 1, 2], _
    refine zA (zK 0 0 .u8 32 22 none _ _ rfl rfl (fun _ _ _ _ => rfl) rfl hLo rfl rfl rfl rfl (by rfl) (fun b G w hb ho => exec_box rfl (zD rfl (HS0.get 0 rfl)) (by kernel_rfl))) ?_
    refine zA (zK 1 1 .u8 32 22 none _ _ rfl rfl (fun _ _ _ _ => rfl) rfl hLo rfl rfl rfl rfl (by rfl) (fun b G w _ _ => by kernel_rfl)) ?_
    refine zA (zK 2 2 .u8 32 22 none _ _ rfl rfl (fun _ _ _ _ => rfl) rfl hLo rfl rfl rfl rfl (by rfl) (fun b G w _ _ => by kernel_rfl)) ?_
    exact zE
  clear hLo
  intro G a1 w1 hS hH
  have HS1 : Sl a1 26 [(1, .pointer (some ⟨(G 0), 0, none⟩)), (2, .pointer (some ⟨(G 1), 0, none⟩)), (3, .pointer (some ⟨(G 2), 0, none⟩))] := hS
  have HH1 : Held w w1 [⟨(G 0), .u8, 32, z, 22⟩, ⟨(G 1), .u8, 32, fun _ => 0, 22⟩, ⟨(G 2), .u8, 32, fun _ => 0, 22⟩] := hH
  clear hS hH HS0 HH0
  generalize G 0 = g1_0 at HS1 HH1
  generalize G 1 = g1_1 at HS1 HH1
  generalize G 2 = g1_2 at HS1 HH1
  refine then_ ?_
  refine wp_seq ?_
  have hLo : LOk [(0, 7, .val (.slice (some ⟨g1_0, 0, none⟩) 32 32)), (1, 8, .val (.agg (FR .u8 64 (D)))), (2, 4, .ptr 2 0)] := lok rfl rfl
  refine zJ (wE := w) (sz := 26) (n := 4) [0, 1, 3, 7] [(2, .val (.pointer (some ⟨g1_1, 0, none⟩))), (3, .val (.pointer (some ⟨g1_2, 0, none⟩))), (4, .ptr 2 0)] _ [⟨g1_0, none, none, .u8, 32, z, z, 22⟩, ⟨g1_1, none, none, .u8, 32, fun _ => 0, fun _ => 0, 22⟩, ⟨g1_2, none, none, .u8, 32, fun _ => 0, fun _ => 0, 22⟩, ⟨0, some 2, some 3, .u8, 64, fun _ => 0, D, 28⟩] rfl (by rfl) HH1 rfl rfl hLo rfl HS1 (slS 1 rfl rfl (slS 2 rfl rfl (slL 2 (d := 2) rfl (trivial)))) ?_ ?_
  · show ∀ i ∈ [0, 1, 2, 3], _
    refine zA (zC 0 _ rfl rfl hLo rfl rfl (fun _ _ _ _ => rfl) (fun b G w hb ho => exec_slice rfl (zD rfl (HS1.get 0 rfl)) rfl rfl rfl (slc_32_0_32 _ _))) ?_
    refine zA (st_callO 1 _ #[.slice (some ⟨g1_0, 0, none⟩) 32 32] rfl rfl rfl (fun _ _ _ _ => rfl) hLo rfl rfl Tryd.func36 rfl rfl (fun b G hb ho => args1 (zB hLo 0 rfl HS1.1 rfl (hb 0 (by rfl)))) (fun w hw hO => of_as hD w (hTd.to hw) hz (hO.at 0 rfl))) ?_
    refine zA (zK 2 3 .u8 64 28 (some 3) _ _ rfl rfl (fun _ _ _ _ => rfl) rfl hLo rfl rfl rfl rfl (by rfl) (fun b G w _ _ => by kernel_rfl)) ?_
    refine zA (zI 3 _ rfl rfl rfl rfl rfl (fun _ _ _ _ => rfl) rfl rfl rfl (by rfl) infoB6 (fun b G hb ho => zB hLo 2 rfl HS1.1 rfl (hb 2 (by rfl))) (fun b G hb ho => zB hLo 1 rfl HS1.1 rfl (hb 1 (by rfl)))) ?_
    exact zE
  clear hLo
  intro G a2 w2 hS hH
  have HS2 : Sl a2 26 [(2, .pointer (some ⟨g1_1, 0, none⟩)), (3, .pointer (some ⟨g1_2, 0, none⟩)), (4, .pointer (some ⟨(G 2), 0, none⟩))] := hS
  have HH2 : Held w w2 [⟨g1_0, .u8, 32, z, 22⟩, ⟨g1_1, .u8, 32, fun _ => 0, 22⟩, ⟨g1_2, .u8, 32, fun _ => 0, 22⟩, ⟨(G 2), .u8, 64, D, 28⟩] := hH
  clear hS hH HS1 HH1
  generalize G 2 = g2_2 at HS2 HH2
  refine then_ ?_
  refine wp_seq ?_
  have hLo : LOk [(0, 9, .val (.slice (some ⟨g2_2, 0, none⟩) 32 64)), (1, 10, .val (.pointer (some ⟨g2_2, 0, none⟩))), (2, 11, .val (.agg (FR .u8 32 (fun j => (D) (0 + j))))), (3, 12, .val (.slice (some ⟨g2_2, 32, none⟩) 32 32)), (4, 13, .val (.pointer (some ⟨g2_2, 32, none⟩))), (5, 14, .val (.agg (FR .u8 32 (fun j => (D) (32 + j))))), (6, 5, .ptr 6 0), (7, 6, .ptr 7 0)] := lok rfl rfl
  refine yK (wE := w) (sz := 26) (n := 10) (B := [0, 1, 3, 0, 8, 24, 0, 0, 199, 511]) [0, 1, 2, 3, 4, 5, 6, 7, 8, 9] [(2, .val (.pointer (some ⟨g1_1, 0, none⟩))), (3, .val (.pointer (some ⟨g1_2, 0, none⟩))), (5, .ptr 6 0), (6, .ptr 7 0)] _ [⟨g1_0, none, none, .u8, 32, z, z, 22⟩, ⟨g1_1, none, none, .u8, 32, fun _ => 0, fun _ => 0, 22⟩, ⟨g1_2, none, none, .u8, 32, fun _ => 0, fun _ => 0, 22⟩, ⟨g2_2, none, none, .u8, 64, D, D, 28⟩, ⟨0, some 6, some 8, .u8, 32, fun _ => 0, fun j => (D) (0 + j), 22⟩, ⟨0, some 7, some 9, .u8, 32, fun _ => 0, fun j => (D) (32 + j), 22⟩] (by rfl) rfl tabhv_2 bitshv_2 (by kernel_rfl) (by kernel_rfl) HH2 rfl rfl hLo rfl HS2 (slS 0 rfl rfl (slS 1 rfl rfl (slL 6 (d := 6) rfl (slL 7 (d := 7) rfl (trivial))))) ?_ ?_
  · show ∀ i ∈ [0, 1, 2, 3, 4, 5, 6, 7, 8, 9], _
    refine zA (zC 0 _ rfl rfl hLo rfl rfl (fun _ _ _ _ => rfl) (fun b G w hb ho => exec_slice rfl (zD rfl (HS2.get 2 rfl)) rfl rfl rfl (slc_64_0_32 _ _))) ?_
    refine zA (zC 1 _ rfl rfl hLo rfl rfl (fun _ _ _ _ => rfl) (fun b G w hb ho => exec_toArr rfl (zB hLo 0 rfl HS2.1 rfl (hb 0 (by rfl))) (by kernel_rfl))) ?_
    refine zA (yA 2 3 _ 0 32 rfl rfl rfl rfl (fun _ _ _ _ => rfl) hLo rfl rfl rfl (by rfl) (Nat.le_of_ble_eq_true rfl) Tryd.underlying22 infoB3 rfl (fun b G hb ho => zB hLo 1 rfl HS2.1 rfl (hb 1 (by rfl)))) ?_
    refine zA (zC 3 _ rfl rfl hLo rfl rfl (fun _ _ _ _ => rfl) (fun b G w hb ho => exec_slice rfl (zD rfl (HS2.get 2 rfl)) rfl rfl rfl (slc_64_32_64 _ _))) ?_
    refine zA (zC 4 _ rfl rfl hLo rfl rfl (fun _ _ _ _ => rfl) (fun b G w hb ho => exec_toArr rfl (zB hLo 3 rfl HS2.1 rfl (hb 3 (by rfl))) (by kernel_rfl))) ?_
    refine zA (yA 5 3 _ 32 32 rfl rfl rfl rfl (fun _ _ _ _ => rfl) hLo rfl rfl rfl (by rfl) (Nat.le_of_ble_eq_true rfl) Tryd.underlying22 infoB3 rfl (fun b G hb ho => zB hLo 4 rfl HS2.1 rfl (hb 4 (by rfl)))) ?_
    refine zA (zK 6 4 .u8 32 22 (some 8) _ _ rfl rfl (fun _ _ _ _ => rfl) rfl hLo rfl rfl rfl rfl (by rfl) (fun b G w _ _ => by kernel_rfl)) ?_
    refine zA (zK 7 5 .u8 32 22 (some 9) _ _ rfl rfl (fun _ _ _ _ => rfl) rfl hLo rfl rfl rfl rfl (by rfl) (fun b G w _ _ => by kernel_rfl)) ?_
    refine zA (zI 4 _ rfl rfl rfl rfl rfl (fun _ _ _ _ => rfl) rfl rfl rfl (by rfl) infoB3 (fun b G hb ho => zB hLo 6 rfl HS2.1 rfl (hb 6 (by rfl))) (fun b G hb ho => zB hLo 2 rfl HS2.1 rfl (hb 2 (by rfl)))) ?_
    refine zA (zI 5 _ rfl rfl rfl rfl rfl (fun _ _ _ _ => rfl) rfl rfl rfl (by rfl) infoB3 (fun b G hb ho => zB hLo 7 rfl HS2.1 rfl (hb 7 (by rfl))) (fun b G hb ho => zB hLo 5 rfl HS2.1 rfl (hb 5 (by rfl)))) ?_
    exact zE
  clear hLo
  intro G a3 w3 hS hH
  have HS3 : Sl a3 26 [(2, .pointer (some ⟨g1_1, 0, none⟩)), (3, .pointer (some ⟨g1_2, 0, none⟩)), (5, .pointer (some ⟨(G 6), 0, none⟩)), (6, .pointer (some ⟨(G 7), 0, none⟩))] := hS
  have HH3 : Held w w3 [⟨g1_0, .u8, 32, z, 22⟩, ⟨g1_1, .u8, 32, fun _ => 0, 22⟩, ⟨g1_2, .u8, 32, fun _ => 0, 22⟩, ⟨g2_2, .u8, 64, D, 28⟩, ⟨(G 6), .u8, 32, fun j => (D) (0 + j), 22⟩, ⟨(G 7), .u8, 32, fun j => (D) (32 + j), 22⟩] := hH
  clear hS hH HS2 HH2
  generalize G 6 = g3_6 at HS3 HH3
  generalize G 7 = g3_7 at HS3 HH3
  refine then_ ?_
  rw [show (fun j => (D) (0 + j)) = D from funext fun j => by rw [Nat.zero_add], hQ] at HH3
  refine wp_seq ?_
  have hLo : LOk [(0, 15, .val (.pointer (some ⟨g3_6, 0, none⟩))), (1, 16, .val (.int .u8 ((D) 0))), (2, 17, .val (.int .u8 (Go.bits .and .u8 (D 0) 248))), (3, 18, .val (.pointer (some ⟨g3_6, 0, none⟩)))] := lok rfl rfl
  refine zJ (wE := w) (sz := 26) (n := 5) [0, 1, 3, 7, 15] [(2, .val (.pointer (some ⟨g1_1, 0, none⟩))), (3, .val (.pointer (some ⟨g1_2, 0, none⟩))), (5, .val (.pointer (some ⟨g3_6, 0, none⟩))), (6, .val (.pointer (some ⟨g3_7, 0, none⟩)))] _ [⟨g1_0, none, none, .u8, 32, z, z, 22⟩, ⟨g1_1, none, none, .u8, 32, fun _ => 0, fun _ => 0, 22⟩, ⟨g1_2, none, none, .u8, 32, fun _ => 0, fun _ => 0, 22⟩, ⟨g2_2, none, none, .u8, 64, D, D, 28⟩, ⟨g3_6, none, some 4, .u8, 32, D, upd (D) 0 ((Go.bits .and .u8 (D 0) 248)), 22⟩, ⟨g3_7, none, none, .u8, 32, Q, Q, 22⟩] rfl (by rfl) HH3 rfl rfl hLo rfl HS3 (slS 0 rfl rfl (slS 1 rfl rfl (slS 2 rfl rfl (slS 3 rfl rfl (trivial))))) ?_ ?_
  · show ∀ i ∈ [0, 1, 2, 3, 4], _
    refine zA (zC 0 _ rfl rfl hLo rfl rfl (fun _ _ _ _ => rfl) (fun b G w hb ho => exec_indexAddr rfl (zD rfl (HS3.get 2 rfl)) (rfl) (by kernel_rfl))) ?_
    refine zA (st_read 1 4 _ _ rfl rfl rfl hLo rfl rfl (fun _ _ _ _ => rfl) (by rfl) (by rfl) (fun b G w hb ho hr => exec_cell hr (Nat.le_of_ble_eq_true rfl) Tryd.underlying5 rfl rfl (zB hLo 0 rfl HS3.1 rfl (hb 0 (by rfl))))) ?_
    refine zA (zC 2 _ rfl rfl hLo rfl rfl (fun _ _ _ _ => rfl) (fun b G w hb ho => zV rfl (zB hLo 1 rfl HS3.1 rfl (hb 1 (by rfl))) (rfl) (and248_run _ _ _ _))) ?_
    refine zA (zC 3 _ rfl rfl hLo rfl rfl (fun _ _ _ _ => rfl) (fun b G w hb ho => exec_indexAddr rfl (zD rfl (HS3.get 2 rfl)) (rfl) (by kernel_rfl))) ?_
    refine zA (st_put 4 _ rfl rfl rfl rfl (fun _ _ _ _ => rfl) rfl rfl rfl (by rfl) (fun b G w hb ho hr => exec_put1 hr (Nat.le_of_ble_eq_true rfl) Fd.info5s rfl (zB hLo 3 rfl HS3.1 rfl (hb 3 (by rfl))) (zB hLo 2 rfl HS3.1 rfl (hb 2 (by rfl))))) ?_
    exact zE
  clear hLo
  intro G a4 w4 hS hH
  have HS4 : Sl a4 26 [(2, .pointer (some ⟨g1_1, 0, none⟩)), (3, .pointer (some ⟨g1_2, 0, none⟩)), (5, .pointer (some ⟨g3_6, 0, none⟩)), (6, .pointer (some ⟨g3_7, 0, none⟩))] := hS
  have HH4 : Held w w4 [⟨g1_0, .u8, 32, z, 22⟩, ⟨g1_1, .u8, 32, fun _ => 0, 22⟩, ⟨g1_2, .u8, 32, fun _ => 0, 22⟩, ⟨g2_2, .u8, 64, D, 28⟩, ⟨g3_6, .u8, 32, upd (D) 0 ((Go.bits .and .u8 (D 0) 248)), 22⟩, ⟨g3_7, .u8, 32, Q, 22⟩] := hH
  clear hS hH HS3 HH3
  refine then_ ?_
  rw [hX] at HH4
  refine wp_seq ?_
  have hLo : LOk [(0, 19, .val (.pointer (some ⟨g3_6, 31, none⟩))), (1, 20, .val (.int .u8 ((X) 31))), (2, 21, .val (.int .u8 (Go.bits .and .u8 (X 31) 127))), (3, 22, .val (.int .u8 (Go.bits .or .u8 (Go.bits .and .u8 (X 31) 127) 64))), (4, 23, .val (.pointer (some ⟨g3_6, 31, none⟩)))] := lok rfl rfl
  refine zJ (wE := w) (sz := 26) (n := 6) [0, 1, 3, 7, 15, 31] [(2, .val (.pointer (some ⟨g1_1, 0, none⟩))), (3, .val (.pointer (some ⟨g1_2, 0, none⟩))), (5, .val (.pointer (some ⟨g3_6, 0, none⟩))), (6, .val (.pointer (some ⟨g3_7, 0, none⟩)))] _ [⟨g1_0, none, none, .u8, 32, z, z, 22⟩, ⟨g1_1, none, none, .u8, 32, fun _ => 0, fun _ => 0, 22⟩, ⟨g1_2, none, none, .u8, 32, fun _ => 0, fun _ => 0, 22⟩, ⟨g2_2, none, none, .u8, 64, D, D, 28⟩, ⟨g3_6, none, some 5, .u8, 32, X, upd (X) 31 ((Go.bits .or .u8 (Go.bits .and .u8 (X 31) 127) 64)), 22⟩, ⟨g3_7, none, none, .u8, 32, Q, Q, 22⟩] rfl (by rfl) HH4 rfl rfl hLo rfl HS4 (slS 0 rfl rfl (slS 1 rfl rfl (slS 2 rfl rfl (slS 3 rfl rfl (trivial))))) ?_ ?_
  · show ∀ i ∈ [0, 1, 2, 3, 4, 5], _
    refine zA (zC 0 _ rfl rfl hLo rfl rfl (fun _ _ _ _ => rfl) (fun b G w hb ho => exec_indexAddr rfl (zD rfl (HS4.get 2 rfl)) (rfl) (by kernel_rfl))) ?_
    refine zA (st_read 1 4 _ _ rfl rfl rfl hLo rfl rfl (fun _ _ _ _ => rfl) (by rfl) (by rfl) (fun b G w hb ho hr => exec_cell hr (Nat.le_of_ble_eq_true rfl) Tryd.underlying5 rfl rfl (zB hLo 0 rfl HS4.1 rfl (hb 0 (by rfl))))) ?_
    refine zA (zC 2 _ rfl rfl hLo rfl rfl (fun _ _ _ _ => rfl) (fun b G w hb ho => zV rfl (zB hLo 1 rfl HS4.1 rfl (hb 1 (by rfl))) (rfl) (and127_run _ _ _ _))) ?_
    refine zA (zC 3 _ rfl rfl hLo rfl rfl (fun _ _ _ _ => rfl) (fun b G w hb ho => zV rfl (zB hLo 2 rfl HS4.1 rfl (hb 2 (by rfl))) (rfl) (or64_run _ _ _ _))) ?_
    refine zA (zC 4 _ rfl rfl hLo rfl rfl (fun _ _ _ _ => rfl) (fun b G w hb ho => exec_indexAddr rfl (zD rfl (HS4.get 2 rfl)) (rfl) (by kernel_rfl))) ?_
    refine zA (st_put 4 _ rfl rfl rfl rfl (fun _ _ _ _ => rfl) rfl rfl rfl (by rfl) (fun b G w hb ho hr => exec_put1 hr (Nat.le_of_ble_eq_true rfl) Fd.info5s rfl (zB hLo 4 rfl HS4.1 rfl (hb 4 (by rfl))) (zB hLo 3 rfl HS4.1 rfl (hb 3 (by rfl))))) ?_
    exact zE
  clear hLo
  intro G a5 w5 hS hH
  have HS5 : Sl a5 26 [(2, .pointer (some ⟨g1_1, 0, none⟩)), (3, .pointer (some ⟨g1_2, 0, none⟩)), (5, .pointer (some ⟨g3_6, 0, none⟩)), (6, .pointer (some ⟨g3_7, 0, none⟩))] := hS
  have HH5 : Held w w5 [⟨g1_0, .u8, 32, z, 22⟩, ⟨g1_1, .u8, 32, fun _ => 0, 22⟩, ⟨g1_2, .u8, 32, fun _ => 0, 22⟩, ⟨g2_2, .u8, 64, D, 28⟩, ⟨g3_6, .u8, 32, upd (X) 31 ((Go.bits .or .u8 (Go.bits .and .u8 (X 31) 127) 64)), 22⟩, ⟨g3_7, .u8, 32, Q, 22⟩] := hH
  clear hS hH HS4 HH4
  refine then_ ?_
  rw [hY] at HH5
  refine wp_seq ?_
  have hLo : LOk [(0, 24, .val (.agg (FR .u8 32 (Y)))), (1, 25, .val (.agg (FR .u8 32 (Q))))] := lok rfl rfl
  refine yK (wE := w) (sz := 26) (n := 4) (B := [0, 0, 1, 7]) [0, 1, 2, 3] [(2, .val (.pointer (some ⟨g1_1, 0, none⟩))), (3, .val (.pointer (some ⟨g1_2, 0, none⟩)))] _ [⟨g1_0, none, none, .u8, 32, z, z, 22⟩, ⟨g1_1, none, some 2, .u8, 32, fun _ => 0, Y, 22⟩, ⟨g1_2, none, some 3, .u8, 32, fun _ => 0, Q, 22⟩, ⟨g2_2, none, none, .u8, 64, D, D, 28⟩, ⟨g3_6, none, none, .u8, 32, Y, Y, 22⟩, ⟨g3_7, none, none, .u8, 32, Q, Q, 22⟩] (by rfl) rfl tabhv_5 bitshv_5 (by kernel_rfl) (by kernel_rfl) HH5 rfl rfl hLo rfl HS5 (slS 0 rfl rfl (slS 1 rfl rfl (trivial))) ?_ ?_
  · show ∀ i ∈ [0, 1, 2, 3], _
    refine zA (zG 0 4 _ rfl rfl rfl rfl (fun _ _ _ _ => rfl) hLo rfl rfl rfl (by rfl) Tryd.underlying22 infoB3 rfl (fun b G hb ho => zD rfl (HS5.get 2 rfl))) ?_
    refine zA (zG 1 5 _ rfl rfl rfl rfl (fun _ _ _ _ => rfl) hLo rfl rfl rfl (by rfl) Tryd.underlying22 infoB3 rfl (fun b G hb ho => zD rfl (HS5.get 3 rfl))) ?_
    refine zA (zI 1 _ rfl rfl rfl rfl rfl (fun _ _ _ _ => rfl) rfl rfl rfl (by rfl) infoB3 (fun b G hb ho => zD rfl (HS5.get 0 rfl)) (fun b G hb ho => zB hLo 0 rfl HS5.1 rfl (hb 0 (by rfl)))) ?_
    refine zA (zI 2 _ rfl rfl rfl rfl rfl (fun _ _ _ _ => rfl) rfl rfl rfl (by rfl) infoB3 (fun b G hb ho => zD rfl (HS5.get 1 rfl)) (fun b G hb ho => zB hLo 1 rfl HS5.1 rfl (hb 1 (by rfl)))) ?_
    exact zE
  clear hLo
  intro G a6 w6 hS hH
  have HS6 : Sl a6 26 [(2, .pointer (some ⟨g1_1, 0, none⟩)), (3, .pointer (some ⟨g1_2, 0, none⟩))] := hS
  have HH6 : Held w w6 [⟨g1_0, .u8, 32, z, 22⟩, ⟨g1_1, .u8, 32, Y, 22⟩, ⟨g1_2, .u8, 32, Q, 22⟩, ⟨g2_2, .u8, 64, D, 28⟩, ⟨g3_6, .u8, 32, Y, 22⟩, ⟨g3_7, .u8, 32, Q, 22⟩] := hH
  clear hS hH HS5 HH5
  refine then_ ?_
  refine wp_ret ?_
  repeat refine yC ?_
  exact b_rows rfl HS6.2.1 (HS6.get 0 rfl) (HS6.get 1 rfl) (HH6.row 1 rfl) (HH6.row 2 rfl) Tryd.underlying22 rfl infoB3 Tryd.underlying22 rfl infoB3 ⟨rfl, HH6.1⟩
def nmb (z : Nat → Int) (n : Nat) : Nat → Int := dig 256 (val 256 (Dg.dg z n) 64 % LL)
theorem nmb_By (z : Nat → Int) (n : Nat) : Fd.By (nmb z n) := dig_By _
theorem nmb_congr {z z' : Nat → Int} {n : Nat} (h : ∀ j, j < n → z j = z' j) : nmb z n = nmb z' n := by unfold nmb; rw [Dg.dg_congr h]
def cat2 (n : Nat) (f m : Nat → Int) : Nat → Int := fun j => if j < n then f j else m (j - n)
def cat3 (f g m : Nat → Int) : Nat → Int := fun j => if j < 32 then f j else if j < 64 then g (j - 32) else m (j - 64)
theorem secA_By (z : Nat → Int) : Fd.By (secA z) := fun j hj => by
  have hD : ∀ j, 0 ≤ Dg.dg z 32 j ∧ Dg.dg z 32 j < 256 := fun j => Dg.dg_b z 32 j
  have hb : ∀ n m : Fin 256, 0 ≤ Go.bits .and .u8 (n.val : Int) 248 ∧ Go.bits .and .u8 (n.val : Int) 248 < 256 ∧ 0 ≤ Go.bits .or .u8 (Go.bits .and .u8 (n.val : Int) 127) 64 ∧ Go.bits .or .u8 (Go.bits .and .u8 (n.val : Int) 127) 64 < 256 := by
    intro n m
    revert n
    decide +kernel
  have key : ∀ x : Int, 0 ≤ x ∧ x < 256 → (0 ≤ Go.bits .and .u8 x 248 ∧ Go.bits .and .u8 x 248 < 256) ∧ 0 ≤ Go.bits .or .u8 (Go.bits .and .u8 x 127) 64 ∧ Go.bits .or .u8 (Go.bits .and .u8 x 127) 64 < 256 := by
    intro x hx
    have := hb ⟨x.toNat, by omega⟩ ⟨0, by omega⟩
    simp only [Int.toNat_of_nonneg hx.1] at this
    exact ⟨⟨this.1, this.2.1⟩, this.2.2⟩
  have hY : ∀ j, 0 ≤ upd (Dg.dg z 32) 0 (Go.bits .and .u8 (Dg.dg z 32 0) 248) j ∧ upd (Dg.dg z 32) 0 (Go.bits .and .u8 (Dg.dg z 32 0) 248) j < 256 := by
    intro j
    unfold upd
    split
    · exact (key _ (hD 0)).1
    · exact hD j
  unfold secA
  generalize upd (Dg.dg z 32) 0 (Go.bits .and .u8 (Dg.dg z 32 0) 248) = Y at hY ⊢
  unfold upd
  split
  · exact (key _ (hY 31)).2
  · exact hY j
theorem prefP_By (z : Nat → Int) : Fd.By (prefP z) := fun j _ => Dg.dg_b z 32 _
theorem halves_as {z A P : Nat → Int} (hA : secA z = A) (hP : prefP z = P) (w : World) (ht : Dg.Tab w) (hz : Fd.By z) : Calls Tryd.prog 16 #[.agg (FR .u8 32 z)] w fun e w' => e = .returned (.tuple #[.agg (FR .u8 32 A), .agg (FR .u8 32 P)]) ∧ Below w.heap.size w w' := by rw [← hA, ← hP]; exact halves_calls z w ht hz
theorem good_as {s : Nat → Int} {g : Bool} (h : decide (N32 s < LL) = g) (w : World) (ho : Ord w) (hs : Fd.By s) : Calls Tryd.prog 15 #[.agg (FR .u8 32 s)] w fun e w' => e = .returned (.bool g) ∧ Below w.heap.size w w' := by rw [← h]; exact good_calls s w ho hs
noncomputable def pubK (z : Nat → Int) : Nat → Int := ptB (Pt.mul fld basePt (NZ (secA z)))
noncomputable def verV (a : Nat → Int) (lm : Nat) (zm sg : Nat → Int) : Bool :=
  open Classical in if h : Fd.By a ∧ decOk a = true then decide (N32 (fun j => sg (32 + j)) < LL) && sameRow 32 (ptB (Pt.add fld (Pt.mul fld basePt (NZ (fun j => sg (32 + j)))) (Pt.mul fld (decPt a h.1 h.2).neg (NZ (nmb (cat3 sg a zm) (64 + lm)))))) (fun j => sg (0 + j)) else false
theorem verV_no {a zm sg : Nat → Int} {lm : Nat} (h : decOk a = false) : verV a lm zm sg = false := by
  unfold verV
  rw [dif_neg (fun c => by rw [h] at c; exact absurd c.2 (by decide))]
theorem verV_bad {a zm sg s : Nat → Int} {lm : Nat} (hs : (fun j => sg (32 + j)) = s) (hg : decide (N32 s < LL) = false) : verV a lm zm sg = false := by
  unfold verV
  rw [hs, hg]
  split <;> rfl
theorem verV_yes {a zm sg s k E : Nat → Int} {lm : Nat} {Pa : Pt dF} (ha : Fd.By a) (hra : decOk a = true) (hPa : decPt a ha hra = Pa) (hs : (fun j => sg (32 + j)) = s) (hg : decide (N32 s < LL) = true) (hk : nmb (cat3 sg a zm) (64 + lm) = k)
    (hE : ptB (Pt.add fld (Pt.mul fld (basePt) (NZ (s))) (Pt.mul fld (Pt.neg (Pa)) (NZ (k)))) = E) : verV a lm zm sg = sameRow 32 E (fun j => sg (0 + j)) := by
  unfold verV
  rw [dif_pos ⟨ha, hra⟩, hs, hg, hPa, hk, hE]
  rfl
def _root_.Go.Proofs.YtbmnkchcekacfaaDoor.P.Dg.Msg (w : World) (am : Option Addr) (lm cm : Nat) (zm : Nat → Int) : Prop := NumsAt .u8 w am lm zm ∧ (am = none → cm = 0) ∧ lm ≤ 100000 ∧ ∀ j, j < lm → 0 ≤ zm j ∧ zm j < 256
theorem cell_slices {w : World} {g : Nat} {cs : Array Value} {t : TypeId} (h : w.heap[g]? = some (.cells cs t (0, 0))) (r : Nat) (v : Value) (hv : cs[r]? = some v) : w.cell? ((⟨g, 0, none⟩ : Addr).add r) = some v := by
  rw [add_at, Nat.zero_add, cell_of_row w g r cs t _ h, hv]
theorem rest3 {f1 f2 zm n : Nat → Int} {am : Option Addr} {lm cm c1 : Nat} (hn : nmb (cat3 f1 f2 zm) (64 + lm) = n) (w : World) (ht : Dg.Tab w) (ho : Ord w) {g g1 g2 n1 : Nat} {t t1 t2 : TypeId} (hcs : w.heap[g]? = some (.cells #[.slice (some ⟨g1, 0, none⟩) 32 c1, .slice (some ⟨g2, 0, none⟩) 32 32, .slice am lm cm] t (0, 0))) (h1 : Row w g1 .u8 n1 f1 t1) (hn1 : 32 ≤ n1) (h2 : Row w g2 .u8 32 f2 t2)
    (hf1 : ∀ j, j < 32 → 0 ≤ f1 j ∧ f1 j < 256) (hf2 : Fd.By f2) (hM : Dg.Msg w am lm cm zm) :
    Calls Tryd.prog 25 #[.slice (some ⟨g, 0, none⟩) 3 3] w fun e w' => e = .returned (.agg (FR .u8 32 n)) ∧ Below w.heap.size w w' := by
  obtain ⟨m1, m2, m3, m4⟩ := hM
  have h := Dg.rest_pieces ⟨g, 0, none⟩ 3 (fun r => if r = 0 then some ⟨g1, 0, none⟩ else if r = 1 then some ⟨g2, 0, none⟩ else am) (fun r => if r = 0 then 32 else if r = 1 then 32 else lm) (fun r => if r = 0 then c1 else if r = 1 then 32 else cm) (fun r => if r = 0 then f1 else if r = 1 then f2 else zm) w ht ho (fun r hr => by
    have hr2 : r = 0 ∨ r = 1 ∨ r = 2 := by omega
    rcases hr2 with rfl | rfl | rfl
    · exact ⟨cell_slices hcs 0 _ rfl, fun e => (by cases e), .inr ⟨_, rfl, fun j hj => by rw [add_at, Nat.zero_add]; exact h1.cell j (by have : j < 32 := hj; omega)⟩, hf1⟩
    · exact ⟨cell_slices hcs 1 _ rfl, fun e => (by cases e), h2.numsAt, hf2⟩
    · exact ⟨cell_slices hcs 2 _ rfl, m2, m1, m4⟩) (by omega) (by show 0 + 32 + 32 + lm ≤ 1000000; omega)
  have e : nmb (Dg.catZ (fun r => if r = 0 then 32 else if r = 1 then 32 else lm) (fun r => if r = 0 then f1 else if r = 1 then f2 else zm) 3) (Dg.catN (fun r => if r = 0 then 32 else if r = 1 then 32 else lm) 3) = n := by
    rw [← hn, show Dg.catN (fun r => if r = 0 then 32 else if r = 1 then 32 else lm) 3 = 64 + lm from by show 0 + 32 + 32 + lm = 64 + lm; omega]
    refine nmb_congr fun j hj => ?_
    show (if j < 0 + 32 + 32 then (if j < 0 + 32 then (if j < 0 then 0 else f1 (j - 0)) else f2 (j - (0 + 32))) else zm (j - (0 + 32 + 32))) = if j < 32 then f1 j else if j < 64 then f2 (j - 32) else zm (j - 64)
    rw [Nat.zero_add, Nat.sub_zero, if_neg (Nat.not_lt_zero j)]
    by_cases h3 : j < 32
    · rw [if_pos h3, if_pos h3, if_pos (by omega)]
    · rw [if_neg h3, if_neg h3]
  unfold nmb at e
  rw [e] at h
  exact h
theorem parts3 {ev : Operand → Value} {i j l : Nat} {x y z : Operand} {u v t : Value} (h : ev x = u) (h2 : ev y = v) (h3 : ev z = t) : ((#[(i, x), (j, y), (l, z)] : Array (Nat × Operand)).map fun (i, x) => (i, ev x)) = #[(i, u), (j, v), (l, t)] := by simp [h, h2, h3]
theorem tabpu_2 : rtab .any (opsOf Tryd.f9 2) = (true, [([], []), ([], []), ([0, 1, 0], [0, 1]), ([2, 2], [2]), ([3, 3, 0, 1, 2, 3], [3])]) := by kernel_rfl
theorem bitspu_2 : zW [([], []), ([], []), ([0, 1, 0], [0, 1]), ([2, 2], [2]), ([3, 3, 0, 1, 2, 3], [3])] [0, 0, 3, 7, 15] = true := by kernel_rfl
theorem tabvf_5 : rtab .any (opsOf Tryd.f11 5) = (true, [([], []), ([], []), ([], []), ([0, 1, 2], [0, 1, 2]), ([3], [3]), ([], []), ([5, 4, 4, 0, 1, 2, 3, 4, 5], [4, 5])]) := by kernel_rfl
theorem bitsvf_5 : zW [([], []), ([], []), ([], []), ([0, 1, 2], [0, 1, 2]), ([3], [3]), ([], []), ([5, 4, 4, 0, 1, 2, 3, 4, 5], [4, 5])] [0, 0, 0, 7, 15, 0, 63] = true := by kernel_rfl
theorem tabvf_6 : rtab .any (opsOf Tryd.f11 6) = (true, [([], []), ([], []), ([0, 1, 0], [0, 1]), ([], []), ([3, 2], [3]), ([], []), ([4, 5, 4], [4, 5]), ([2, 6, 6], [2, 6]), ([7, 7], [7]), ([], []), ([9], [9]), ([10], [10]), ([8, 11], [8, 11]), ([12, 8, 0, 1, 2, 3, 4, 5, 6, 7, 8, 9, 10, 11, 12], [12])]) := by kernel_rfl
theorem bitsvf_6 : zW [([], []), ([], []), ([0, 1, 0], [0, 1]), ([], []), ([3, 2], [3]), ([], []), ([4, 5, 4], [4, 5]), ([2, 6, 6], [2, 6]), ([7, 7], [7]), ([], []), ([9], [9]), ([10], [10]), ([8, 11], [8, 11]), ([12, 8, 0, 1, 2, 3, 4, 5, 6, 7, 8, 9, 10, 11, 12], [12])] [0, 0, 3, 0, 15, 0, 63, 127, 255, 0, 512, 1536, 4095, 8191] = true := by kernel_rfl
theorem public_calls (z : Nat → Int) (w : World) (hTd : Dg.Tab w) (hT : TabD w) (hz : Fd.By z) : Calls Tryd.prog 9 #[.agg (FR .u8 32 z)] w fun e w' => e = .returned (.agg (FR .u8 32 (pubK z))) ∧ Below w.heap.size w w' := by
  obtain ⟨A_z, hA_z⟩ : ∃ A, secA z = A := ⟨_, rfl⟩
  obtain ⟨P_z, hP_z⟩ : ∃ A, prefP z = A := ⟨_, rfl⟩
  have hAB_z : Fd.By A_z := by rw [← hA_z]; exact secA_By z
  have hPB_z : Fd.By P_z := by rw [← hP_z]; exact prefP_By z
  obtain ⟨K, hK⟩ : ∃ S : Nat → Int, ptB (Pt.mul fld (basePt) (NZ (A_z))) = S := ⟨_, rfl⟩
  have hKB : Fd.By K := by rw [← hK]; exact ptB_By _
  have eK : pubK z = K := by rw [← hK, ← hA_z]; rfl
  rw [eK]
  refine enter_ 14 Tryd.func9 rfl rfl (fun a0 hS => ?_)
  have HS0 : Sl a0 14 [(0, .agg (FR .u8 32 z))] := hS
  have HH0 : Held w w [] := Held.first w
  clear hS
  refine wp_seq ?_
  have hLo : LOk [(0, 1, .ptr 0 0), (1, 2, .ptr 1 0)] := lok rfl rfl
  refine zJ (wE := w) (sz := 14) (n := 2) [0, 1] [(1, .ptr 0 0), (2, .ptr 1 0)] _ [⟨0, some 0, none, .u8, 32, z, z, 22⟩, ⟨0, some 1, none, .u8, 32, fun _ => 0, fun _ => 0, 22⟩] rfl (by rfl) HH0 rfl rfl hLo rfl HS0 (slL 0 (d := 0) rfl (slL 1 (d := 1) rfl (trivial))) ?_ ?_
  · show ∀ i ∈ [0, 1], _
    refine zA (zK 0 0 .u8 32 22 none _ _ rfl rfl (fun _ _ _ _ => rfl) rfl hLo rfl rfl rfl rfl (by rfl) (fun b G w hb ho => exec_box rfl (zD rfl (HS0.get 0 rfl)) (by kernel_rfl))) ?_
    refine zA (zK 1 1 .u8 32 22 none _ _ rfl rfl (fun _ _ _ _ => rfl) rfl hLo rfl rfl rfl rfl (by rfl) (fun b G w _ _ => by kernel_rfl)) ?_
    exact zE
  clear hLo
  intro G a1 w1 hS hH
  have HS1 : Sl a1 14 [(1, .pointer (some ⟨(G 0), 0, none⟩)), (2, .pointer (some ⟨(G 1), 0, none⟩))] := hS
  have HH1 : Held w w1 [⟨(G 0), .u8, 32, z, 22⟩, ⟨(G 1), .u8, 32, fun _ => 0, 22⟩] := hH
  clear hS hH HS0 HH0
  generalize G 0 = g1_0 at HS1 HH1
  generalize G 1 = g1_1 at HS1 HH1
  refine then_ ?_
  refine wp_seq ?_
  have hLo : LOk [(0, 6, .val (.agg (FR .u8 32 (z)))), (1, 7, .val (.tuple #[.agg (FR .u8 32 (A_z)), .agg (FR .u8 32 (P_z))])), (2, 5, .val (.tuple #[.agg (FR .u8 32 (A_z)), .agg (FR .u8 32 (P_z))])), (3, 8, .val (.agg (FR .u8 32 (A_z)))), (4, 9, .val (.agg (FR .u8 32 (P_z)))), (5, 3, .ptr 5 0), (6, 4, .ptr 6 0)] := lok rfl rfl
  refine zJ (wE := w) (sz := 14) (n := 9) [0, 1, 3, 7, 15, 31, 63, 127, 255] [(2, .val (.pointer (some ⟨g1_1, 0, none⟩))), (3, .ptr 5 0)] _ [⟨g1_0, none, none, .u8, 32, z, z, 22⟩, ⟨g1_1, none, none, .u8, 32, fun _ => 0, fun _ => 0, 22⟩, ⟨0, some 5, some 7, .u8, 32, fun _ => 0, A_z, 22⟩, ⟨0, some 6, some 8, .u8, 32, fun _ => 0, P_z, 22⟩] rfl (by rfl) HH1 rfl rfl hLo rfl HS1 (slS 1 rfl rfl (slL 5 (d := 5) rfl (trivial))) ?_ ?_
  · show ∀ i ∈ [0, 1, 2, 3, 4, 5, 6, 7, 8], _
    refine zA (zG 0 0 _ rfl rfl rfl rfl (fun _ _ _ _ => rfl) hLo rfl rfl rfl (by rfl) Tryd.underlying22 infoB3 rfl (fun b G hb ho => zD rfl (HS1.get 0 rfl))) ?_
    refine zA (zH 1 _ #[.agg (FR .u8 32 (z))] rfl rfl rfl (fun _ _ _ _ => rfl) hLo rfl rfl Tryd.func16 rfl rfl (fun b G hb ho => args1 (zB hLo 0 rfl HS1.1 rfl (hb 0 (by rfl)))) (fun w hw => halves_as hA_z hP_z w (hTd.to hw) hz)) ?_
    refine zA (zC 2 _ rfl rfl hLo rfl rfl (fun _ _ _ _ => rfl) (fun b G w hb ho => zF (.inl rfl) (zB hLo 1 rfl HS1.1 rfl (hb 1 (by rfl))))) ?_
    refine zA (zC 3 _ rfl rfl hLo rfl rfl (fun _ _ _ _ => rfl) (fun b G w hb ho => exec_extract rfl (zB hLo 2 rfl HS1.1 rfl (hb 2 (by rfl))) (by rfl))) ?_
    refine zA (zC 4 _ rfl rfl hLo rfl rfl (fun _ _ _ _ => rfl) (fun b G w hb ho => exec_extract rfl (zB hLo 2 rfl HS1.1 rfl (hb 2 (by rfl))) (by rfl))) ?_
    refine zA (zK 5 2 .u8 32 22 (some 7) _ _ rfl rfl (fun _ _ _ _ => rfl) rfl hLo rfl rfl rfl rfl (by rfl) (fun b G w _ _ => by kernel_rfl)) ?_
    refine zA (zK 6 3 .u8 32 22 (some 8) _ _ rfl rfl (fun _ _ _ _ => rfl) rfl hLo rfl rfl rfl rfl (by rfl) (fun b G w _ _ => by kernel_rfl)) ?_
    refine zA (zI 2 _ rfl rfl rfl rfl rfl (fun _ _ _ _ => rfl) rfl rfl rfl (by rfl) infoB3 (fun b G hb ho => zB hLo 5 rfl HS1.1 rfl (hb 5 (by rfl))) (fun b G hb ho => zB hLo 3 rfl HS1.1 rfl (hb 3 (by rfl)))) ?_
    refine zA (zI 3 _ rfl rfl rfl rfl rfl (fun _ _ _ _ => rfl) rfl rfl rfl (by rfl) infoB3 (fun b G hb ho => zB hLo 6 rfl HS1.1 rfl (hb 6 (by rfl))) (fun b G hb ho => zB hLo 4 rfl HS1.1 rfl (hb 4 (by rfl)))) ?_
    exact zE
  clear hLo
  intro G a2 w2 hS hH
  have HS2 : Sl a2 14 [(2, .pointer (some ⟨g1_1, 0, none⟩)), (3, .pointer (some ⟨(G 5), 0, none⟩))] := hS
  have HH2 : Held w w2 [⟨g1_0, .u8, 32, z, 22⟩, ⟨g1_1, .u8, 32, fun _ => 0, 22⟩, ⟨(G 5), .u8, 32, A_z, 22⟩, ⟨(G 6), .u8, 32, P_z, 22⟩] := hH
  clear hS hH HS1 HH1
  generalize G 5 = g2_5 at HS2 HH2
  generalize G 6 = g2_6 at HS2 HH2
  refine then_ ?_
  obtain ⟨B1, hB1, rB1⟩ : ∃ S, baseP = S ∧ PRep S (basePt) := ⟨_, rfl, base_prep⟩
  obtain ⟨M2, hM2, rM2⟩ : ∃ S, mulP B1 (A_z) = S ∧ PRep S (Pt.mul fld (basePt) (NZ (A_z))) := ⟨_, rfl, rB1.mul hAB_z⟩
  refine wp_seq ?_
  have hLo : LOk [(0, 10, .val (.agg (FR .u64 20 (B1)))), (1, 11, .val (.agg (FR .u8 32 (A_z)))), (2, 12, .val (.agg (FR .u64 20 (M2)))), (3, 13, .val (.agg (FR .u8 32 (K))))] := lok rfl rfl
  refine yK (wE := w) (sz := 14) (n := 5) (B := [0, 0, 3, 7, 15]) [0, 1, 2, 3, 4] [(2, .val (.pointer (some ⟨g1_1, 0, none⟩)))] _ [⟨g1_0, none, none, .u8, 32, z, z, 22⟩, ⟨g1_1, none, some 4, .u8, 32, fun _ => 0, K, 22⟩, ⟨g2_5, none, none, .u8, 32, A_z, A_z, 22⟩, ⟨g2_6, none, none, .u8, 32, P_z, P_z, 22⟩] (by rfl) rfl tabpu_2 bitspu_2 (by kernel_rfl) (by kernel_rfl) HH2 rfl rfl hLo rfl HS2 (slS 0 rfl rfl (trivial)) ?_ ?_
  · show ∀ i ∈ [0, 1, 2, 3, 4], _
    refine zA (zH 0 _ #[] rfl rfl rfl (fun _ _ _ _ => rfl) hLo rfl rfl Tryd.func17 rfl rfl (fun b G hb ho => args0 ) (fun w hw => base_as hB1 w (hT.to hw))) ?_
    refine zA (zG 1 2 _ rfl rfl rfl rfl (fun _ _ _ _ => rfl) hLo rfl rfl rfl (by rfl) Tryd.underlying22 infoB3 rfl (fun b G hb ho => zD rfl (HS2.get 1 rfl))) ?_
    refine zA (zH 2 _ #[.agg (FR .u64 20 (B1)), .agg (FR .u8 32 (A_z))] rfl rfl rfl (fun _ _ _ _ => rfl) hLo rfl rfl Tryd.func18 rfl rfl (fun b G hb ho => zU (zB hLo 0 rfl HS2.1 rfl (hb 0 (by rfl))) (zB hLo 1 rfl HS2.1 rfl (hb 1 (by rfl)))) (fun w hw => mul_as hM2 w (hT.to hw) rB1.1 hAB_z)) ?_
    refine zA (zH 3 _ #[.agg (FR .u64 20 (M2))] rfl rfl rfl (fun _ _ _ _ => rfl) hLo rfl rfl Tryd.func19 rfl rfl (fun b G hb ho => args1 (zB hLo 2 rfl HS2.1 rfl (hb 2 (by rfl)))) (fun w hw => bytes_as (rM2.bytes.trans hK) w rM2.1)) ?_
    refine zA (zI 1 _ rfl rfl rfl rfl rfl (fun _ _ _ _ => rfl) rfl rfl rfl (by rfl) infoB3 (fun b G hb ho => zD rfl (HS2.get 0 rfl)) (fun b G hb ho => zB hLo 3 rfl HS2.1 rfl (hb 3 (by rfl)))) ?_
    exact zE
  clear hLo
  intro G a3 w3 hS hH
  have HS3 : Sl a3 14 [(2, .pointer (some ⟨g1_1, 0, none⟩))] := hS
  have HH3 : Held w w3 [⟨g1_0, .u8, 32, z, 22⟩, ⟨g1_1, .u8, 32, K, 22⟩, ⟨g2_5, .u8, 32, A_z, 22⟩, ⟨g2_6, .u8, 32, P_z, 22⟩] := hH
  clear hS hH HS2 HH2
  refine then_ ?_
  refine wp_ret ?_
  repeat refine yC ?_
  exact b_row rfl HS3.2.1 (HS3.get 0 rfl) (HH3.row 1 rfl) Tryd.underlying22 rfl infoB3 ⟨rfl, HH3.1⟩
theorem verify_calls (a : Nat → Int) (am : Option Addr) (lm cm : Nat) (zm sg : Nat → Int) (w : World) (hTd : Dg.Tab w) (hT : TabD w) (hO : Ord w) (ha : Fd.By a) (hsg : ∀ j, j < 64 → 0 ≤ sg j ∧ sg j < 256) (hM : ∀ w', Below w.heap.size w w' → Dg.Msg w' am lm cm zm) : Calls Tryd.prog 11 #[.agg (FR .u8 32 a), .slice am lm cm, .agg (FR .u8 64 sg)] w fun e w' => e = .returned (.bool (verV a lm zm sg)) ∧ Below w.heap.size w w' := by
  obtain ⟨Xa, hXa⟩ : ∃ X, decP a = X := ⟨_, rfl⟩
  obtain ⟨Ya, hYa⟩ : ∃ X, decRP a = X := ⟨_, rfl⟩
  obtain ⟨ra, hra⟩ : ∃ r, decOk a = r := ⟨_, rfl⟩
  have hrra := (decOk_eq ha).symm.trans hra
  obtain ⟨s, hs⟩ : ∃ S : Nat → Int, (fun j => sg (32 + j)) = S := ⟨_, rfl⟩
  have hsB : Fd.By s := fun j hj => by rw [← hs]; exact hsg (32 + j) (by omega)
  obtain ⟨k, hk⟩ : ∃ S : Nat → Int, nmb (cat3 sg a zm) (64 + lm) = S := ⟨_, rfl⟩
  have hkB : Fd.By k := by rw [← hk]; exact nmb_By _ _
  obtain ⟨g, hg⟩ : ∃ g, decide (N32 s < LL) = g := ⟨_, rfl⟩
  refine enter_ 44 Tryd.func11 rfl rfl (fun a0 hS => ?_)
  have HS0 : Sl a0 44 [(0, .agg (FR .u8 32 a)), (1, .slice am lm cm), (2, .agg (FR .u8 64 sg))] := hS
  have HH0 : Held w w [] := Held.first w
  clear hS
  refine wp_seq ?_
  have hLo : LOk [(0, 3, .ptr 0 0), (1, 5, .ptr 1 0), (2, 6, .val (.bool false))] := lok rfl rfl
  refine zJ (wE := w) (sz := 44) (n := 3) [0, 1, 3] [(1, .val (.slice am lm cm)), (3, .ptr 0 0), (5, .ptr 1 0)] _ [⟨0, some 0, none, .u8, 32, a, a, 22⟩, ⟨0, some 1, none, .u8, 64, sg, sg, 28⟩] rfl (by rfl) HH0 rfl rfl hLo rfl HS0 (slS 1 rfl rfl (slL 0 (d := 0) rfl (slL 1 (d := 1) rfl (trivial)))) ?_ ?_
  · show ∀ i ∈ [0, 1, 2], _
    refine zA (zK 0 0 .u8 32 22 none _ _ rfl rfl (fun _ _ _ _ => rfl) rfl hLo rfl rfl rfl rfl (by rfl) (fun b G w hb ho => exec_box rfl (zD rfl (HS0.get 0 rfl)) (by kernel_rfl))) ?_
    refine zA (zK 1 1 .u8 64 28 none _ _ rfl rfl (fun _ _ _ _ => rfl) rfl hLo rfl rfl rfl rfl (by rfl) (fun b G w hb ho => exec_box rfl (zD rfl (HS0.get 2 rfl)) (by kernel_rfl))) ?_
    refine zA (zC 2 _ rfl rfl hLo rfl rfl (fun _ _ _ _ => rfl) (fun b G w hb ho => zF (.inr rfl) (rfl))) ?_
    exact zE
  clear hLo
  intro G a1 w1 hS hH
  have HS1 : Sl a1 44 [(1, .slice am lm cm), (3, .pointer (some ⟨(G 0), 0, none⟩)), (5, .pointer (some ⟨(G 1), 0, none⟩))] := hS
  have HH1 : Held w w1 [⟨(G 0), .u8, 32, a, 22⟩, ⟨(G 1), .u8, 64, sg, 28⟩] := hH
  clear hS hH HS0 HH0
  generalize G 0 = g1_0 at HS1 HH1
  generalize G 1 = g1_1 at HS1 HH1
  refine then_ ?_
  refine wp_seq ?_
  have hLo : LOk [(0, 12, .val (.agg (FR .u8 32 (a)))), (1, 13, .val (.tuple #[.agg (FR .u64 20 (Xa)), .bool ra])), (2, 11, .val (.tuple #[.agg (FR .u64 20 (Xa)), .bool ra])), (3, 14, .val (.agg (FR .u64 20 (Xa)))), (4, 15, .val (.bool ra)), (5, 7, .ptr 5 0), (7, 8, .val (.bool ra))] := lok rfl rfl
  refine zJ (wE := w) (sz := 44) (n := 8) [0, 1, 3, 7, 15, 31, 63, 127] [(1, .val (.slice am lm cm)), (3, .val (.pointer (some ⟨g1_0, 0, none⟩))), (5, .val (.pointer (some ⟨g1_1, 0, none⟩))), (7, .ptr 5 0), (8, .val (.bool ra))] _ [⟨g1_0, none, none, .u8, 32, a, a, 22⟩, ⟨g1_1, none, none, .u8, 64, sg, sg, 28⟩, ⟨0, some 5, some 6, .u64, 20, fun _ => 0, Xa, 42⟩] rfl (by rfl) HH1 rfl rfl hLo rfl HS1 (slS 0 rfl rfl (slS 1 rfl rfl (slS 2 rfl rfl (slL 5 (d := 5) rfl (slL 6 (d := 7) rfl (trivial)))))) ?_ ?_
  · show ∀ i ∈ [0, 1, 2, 3, 4, 5, 6, 7], _
    refine zA (zG 0 0 _ rfl rfl rfl rfl (fun _ _ _ _ => rfl) hLo rfl rfl rfl (by rfl) Tryd.underlying22 infoB3 rfl (fun b G hb ho => zD rfl (HS1.get 1 rfl))) ?_
    refine zA (zH 1 _ #[.agg (FR .u8 32 (a))] rfl rfl rfl (fun _ _ _ _ => rfl) hLo rfl rfl Tryd.func24 rfl rfl (fun b G hb ho => args1 (zB hLo 0 rfl HS1.1 rfl (hb 0 (by rfl)))) (fun w hw => dec_as hXa hra w (hT.to hw) ha)) ?_
    refine zA (zC 2 _ rfl rfl hLo rfl rfl (fun _ _ _ _ => rfl) (fun b G w hb ho => zF (.inl rfl) (zB hLo 1 rfl HS1.1 rfl (hb 1 (by rfl))))) ?_
    refine zA (zC 3 _ rfl rfl hLo rfl rfl (fun _ _ _ _ => rfl) (fun b G w hb ho => exec_extract rfl (zB hLo 2 rfl HS1.1 rfl (hb 2 (by rfl))) (by rfl))) ?_
    refine zA (zC 4 _ rfl rfl hLo rfl rfl (fun _ _ _ _ => rfl) (fun b G w hb ho => exec_extract rfl (zB hLo 2 rfl HS1.1 rfl (hb 2 (by rfl))) (by rfl))) ?_
    refine zA (zK 5 2 .u64 20 42 (some 6) _ _ rfl rfl (fun _ _ _ _ => rfl) rfl hLo rfl rfl rfl rfl (by rfl) (fun b G w _ _ => by kernel_rfl)) ?_
    refine zA (zI 2 _ rfl rfl rfl rfl rfl (fun _ _ _ _ => rfl) rfl rfl rfl (by rfl) infoPt (fun b G hb ho => zB hLo 5 rfl HS1.1 rfl (hb 5 (by rfl))) (fun b G hb ho => zB hLo 3 rfl HS1.1 rfl (hb 3 (by rfl)))) ?_
    refine zA (zC 6 _ rfl rfl hLo rfl rfl (fun _ _ _ _ => rfl) (fun b G w hb ho => zF (.inr rfl) (zB hLo 4 rfl HS1.1 rfl (hb 4 (by rfl))))) ?_
    exact zE
  clear hLo
  intro G a2 w2 hS hH
  have HS2 : Sl a2 44 [(1, .slice am lm cm), (3, .pointer (some ⟨g1_0, 0, none⟩)), (5, .pointer (some ⟨g1_1, 0, none⟩)), (7, .pointer (some ⟨(G 5), 0, none⟩)), (8, .bool ra)] := hS
  have HH2 : Held w w2 [⟨g1_0, .u8, 32, a, 22⟩, ⟨g1_1, .u8, 64, sg, 28⟩, ⟨(G 5), .u64, 20, Xa, 42⟩] := hH
  clear hS hH HS1 HH1
  generalize G 5 = g2_5 at HS2 HH2
  refine then_ ?_
  refine wp_seq ?_
  have hLo : LOk [(0, 16, .val (.slice (some ⟨g1_1, 32, none⟩) 32 32)), (1, 17, .val (.pointer (some ⟨g1_1, 32, none⟩))), (2, 18, .val (.agg (FR .u8 32 (fun j => (sg) (32 + j))))), (3, 9, .ptr 3 0)] := lok rfl rfl
  refine zJ (wE := w) (sz := 44) (n := 5) [0, 1, 3, 7, 15] [(1, .val (.slice am lm cm)), (3, .val (.pointer (some ⟨g1_0, 0, none⟩))), (5, .val (.pointer (some ⟨g1_1, 0, none⟩))), (7, .val (.pointer (some ⟨g2_5, 0, none⟩))), (8, .val (.bool ra)), (9, .ptr 3 0)] _ [⟨g1_0, none, none, .u8, 32, a, a, 22⟩, ⟨g1_1, none, none, .u8, 64, sg, sg, 28⟩, ⟨g2_5, none, none, .u64, 20, Xa, Xa, 42⟩, ⟨0, some 3, some 4, .u8, 32, fun _ => 0, fun j => (sg) (32 + j), 22⟩] rfl (by rfl) HH2 rfl rfl hLo rfl HS2 (slS 0 rfl rfl (slS 1 rfl rfl (slS 2 rfl rfl (slS 3 rfl rfl (slS 4 rfl rfl (slL 3 (d := 3) rfl (trivial))))))) ?_ ?_
  · show ∀ i ∈ [0, 1, 2, 3, 4], _
    refine zA (zC 0 _ rfl rfl hLo rfl rfl (fun _ _ _ _ => rfl) (fun b G w hb ho => exec_slice rfl (zD rfl (HS2.get 2 rfl)) rfl rfl rfl (slc_64_32_64 _ _))) ?_
    refine zA (zC 1 _ rfl rfl hLo rfl rfl (fun _ _ _ _ => rfl) (fun b G w hb ho => exec_toArr rfl (zB hLo 0 rfl HS2.1 rfl (hb 0 (by rfl))) (by kernel_rfl))) ?_
    refine zA (yA 2 1 _ 32 32 rfl rfl rfl rfl (fun _ _ _ _ => rfl) hLo rfl rfl rfl (by rfl) (Nat.le_of_ble_eq_true rfl) Tryd.underlying22 infoB3 rfl (fun b G hb ho => zB hLo 1 rfl HS2.1 rfl (hb 1 (by rfl)))) ?_
    refine zA (zK 3 3 .u8 32 22 (some 4) _ _ rfl rfl (fun _ _ _ _ => rfl) rfl hLo rfl rfl rfl rfl (by rfl) (fun b G w _ _ => by kernel_rfl)) ?_
    refine zA (zI 3 _ rfl rfl rfl rfl rfl (fun _ _ _ _ => rfl) rfl rfl rfl (by rfl) infoB3 (fun b G hb ho => zB hLo 3 rfl HS2.1 rfl (hb 3 (by rfl))) (fun b G hb ho => zB hLo 2 rfl HS2.1 rfl (hb 2 (by rfl)))) ?_
    exact zE
  clear hLo
  intro G a3 w3 hS hH
  have HS3 : Sl a3 44 [(1, .slice am lm cm), (3, .pointer (some ⟨g1_0, 0, none⟩)), (5, .pointer (some ⟨g1_1, 0, none⟩)), (7, .pointer (some ⟨g2_5, 0, none⟩)), (8, .bool ra), (9, .pointer (some ⟨(G 3), 0, none⟩))] := hS
  have HH3 : Held w w3 [⟨g1_0, .u8, 32, a, 22⟩, ⟨g1_1, .u8, 64, sg, 28⟩, ⟨g2_5, .u64, 20, Xa, 42⟩, ⟨(G 3), .u8, 32, fun j => (sg) (32 + j), 22⟩] := hH
  clear hS hH HS2 HH2
  generalize G 3 = g3_3 at HS3 HH3
  refine then_ ?_
  rw [hs] at HH3
  cases ra
  · skip
    refine wp_seq ?_
    refine wp_seq ?_
    have hLo : LOk [(0, 19, .val (.bool false)), (1, 20, .val (.bool true)), (2, 21, .val (.bool true)), (3, 22, .val (undef)), (4, 23, .val (undef)), (5, 24, .val (undef)), (6, 25, .val (.bool true))] := lok rfl rfl
    refine zJ (wE := w) (sz := 44) (n := 7) [0, 1, 3, 7, 15, 31, 63] [(25, .val (.bool true))] _ [⟨g1_0, none, none, .u8, 32, a, a, 22⟩, ⟨g1_1, none, none, .u8, 64, sg, sg, 28⟩, ⟨g2_5, none, none, .u64, 20, Xa, Xa, 42⟩, ⟨g3_3, none, none, .u8, 32, s, s, 22⟩] rfl (by rfl) HH3 rfl rfl hLo rfl HS3 (slL 6 (d := 6) rfl (trivial)) ?_ ?_
    · show ∀ i ∈ [0, 1, 2, 3, 4, 5, 6], _
      refine zA (zC 0 _ rfl rfl hLo rfl rfl (fun _ _ _ _ => rfl) (fun b G w hb ho => zF (.inl rfl) (zD rfl (HS3.get 4 rfl)))) ?_
      refine zA (zC 1 _ rfl rfl hLo rfl rfl (fun _ _ _ _ => rfl) (fun b G w hb ho => exec_un rfl (zB hLo 0 rfl HS3.1 rfl (hb 0 (by rfl))) (by rfl))) ?_
      refine zA (zC 2 _ rfl rfl hLo rfl rfl (fun _ _ _ _ => rfl) (fun b G w hb ho => zF (.inl rfl) (zB hLo 1 rfl HS3.1 rfl (hb 1 (by rfl))))) ?_
      refine zA (st_skip 3 rfl rfl hLo rfl rfl (fun b G hb ho => zN rfl rfl rfl HS3.1 rfl (zB hLo 2 rfl HS3.1 rfl (hb 2 (by rfl))) rfl)) ?_
      refine zA (st_skip 4 rfl rfl hLo rfl rfl (fun b G hb ho => zN rfl rfl rfl HS3.1 rfl (zB hLo 2 rfl HS3.1 rfl (hb 2 (by rfl))) rfl)) ?_
      refine zA (st_skip 5 rfl rfl hLo rfl rfl (fun b G hb ho => zN rfl rfl rfl HS3.1 rfl (zB hLo 2 rfl HS3.1 rfl (hb 2 (by rfl))) rfl)) ?_
      refine zA (zC 6 _ rfl rfl hLo rfl rfl (fun _ _ _ _ => rfl) (fun b G w hb ho => exec_pick rfl (zB hLo 2 rfl HS3.1 rfl (hb 2 (by rfl))) (rfl))) ?_
      exact zE
    clear hLo
    intro G a4 w4 hS hH
    have HS4 : Sl a4 44 [(25, .bool true)] := hS
    have HH4 : Held w w4 [⟨g1_0, .u8, 32, a, 22⟩, ⟨g1_1, .u8, 64, sg, 28⟩, ⟨g2_5, .u64, 20, Xa, 42⟩, ⟨g3_3, .u8, 32, s, 22⟩] := hH
    clear hS hH HS3 HH3
    refine then_ ?_
    refine wp_cond_true (HS4.get 0 rfl) ?_
    refine wp_seq ?_
    have hLo : LOk [(0, 6, .val (.bool false))] := lok rfl rfl
    refine zJ (wE := w) (sz := 44) (n := 1) [0] [(6, .val (.bool false))] _ [⟨g1_0, none, none, .u8, 32, a, a, 22⟩, ⟨g1_1, none, none, .u8, 64, sg, sg, 28⟩, ⟨g2_5, none, none, .u64, 20, Xa, Xa, 42⟩, ⟨g3_3, none, none, .u8, 32, s, s, 22⟩] rfl (by rfl) HH4 rfl rfl hLo rfl HS4 (slL 0 (d := 0) rfl (trivial)) ?_ ?_
    · show ∀ i ∈ [0], _
      refine zA (zC 0 _ rfl rfl hLo rfl rfl (fun _ _ _ _ => rfl) (fun b G w hb ho => zF (.inr rfl) (rfl))) ?_
      exact zE
    clear hLo
    intro G a5 w5 hS hH
    have HS5 : Sl a5 44 [(6, .bool false)] := hS
    have HH5 : Held w w5 [⟨g1_0, .u8, 32, a, 22⟩, ⟨g1_1, .u8, 64, sg, 28⟩, ⟨g2_5, .u64, 20, Xa, 42⟩, ⟨g3_3, .u8, 32, s, 22⟩] := hH
    clear hS hH HS4 HH4
    refine then_ ?_
    refine wp_ret ?_
    repeat refine yC ?_
    exact b_tmp rfl HS5.2.1 (HS5.get 0 rfl) ⟨by rw [verV_no hra], HH5.1⟩
  · skip
    obtain ⟨Pa, hPa⟩ : ∃ P, decPt a ha hra = P := ⟨_, rfl⟩
    have rXa : PRep Xa Pa := by rw [← hXa, ← hPa]; exact dec_prep ha hra
    have rYa : RRep Ya Pa := by rw [← hYa, ← hPa]; exact dec_rrep ha hra
    cases g
    · skip
      refine wp_seq ?_
      refine wp_seq ?_
      have hLo : LOk [(0, 19, .val (.bool true)), (1, 20, .val (.bool false)), (2, 21, .val (.bool false)), (3, 22, .val (.agg (FR .u8 32 (s)))), (4, 23, .val (.bool false)), (5, 24, .val (.bool true)), (6, 25, .val (.bool true))] := lok rfl rfl
      refine zJ (wE := w) (sz := 44) (n := 7) [0, 1, 3, 7, 15, 31, 63] [(25, .val (.bool true))] _ [⟨g1_0, none, none, .u8, 32, a, a, 22⟩, ⟨g1_1, none, none, .u8, 64, sg, sg, 28⟩, ⟨g2_5, none, none, .u64, 20, Xa, Xa, 42⟩, ⟨g3_3, none, none, .u8, 32, s, s, 22⟩] rfl (by rfl) HH3 rfl rfl hLo rfl HS3 (slL 6 (d := 6) rfl (trivial)) ?_ ?_
      · show ∀ i ∈ [0, 1, 2, 3, 4, 5, 6], _
        refine zA (zC 0 _ rfl rfl hLo rfl rfl (fun _ _ _ _ => rfl) (fun b G w hb ho => zF (.inl rfl) (zD rfl (HS3.get 4 rfl)))) ?_
        refine zA (zC 1 _ rfl rfl hLo rfl rfl (fun _ _ _ _ => rfl) (fun b G w hb ho => exec_un rfl (zB hLo 0 rfl HS3.1 rfl (hb 0 (by rfl))) (by rfl))) ?_
        refine zA (zC 2 _ rfl rfl hLo rfl rfl (fun _ _ _ _ => rfl) (fun b G w hb ho => zF (.inl rfl) (zB hLo 1 rfl HS3.1 rfl (hb 1 (by rfl))))) ?_
        refine zA (zG 3 3 _ rfl rfl rfl rfl (fun b G hb ho => zN rfl rfl rfl HS3.1 rfl (zB hLo 2 rfl HS3.1 rfl (hb 2 (by rfl))) rfl) hLo rfl rfl rfl (by rfl) Tryd.underlying22 infoB3 rfl (fun b G hb ho => zD rfl (HS3.get 5 rfl))) ?_
        refine zA (zH 4 _ #[.agg (FR .u8 32 (s))] rfl rfl rfl (fun b G hb ho => zN rfl rfl rfl HS3.1 rfl (zB hLo 2 rfl HS3.1 rfl (hb 2 (by rfl))) rfl) hLo rfl rfl Tryd.func15 rfl rfl (fun b G hb ho => args1 (zB hLo 3 rfl HS3.1 rfl (hb 3 (by rfl)))) (fun w hw => good_as hg w (hO.to hw) hsB)) ?_
        refine zA (zC 5 _ rfl rfl hLo rfl rfl (fun b G hb ho => zN rfl rfl rfl HS3.1 rfl (zB hLo 2 rfl HS3.1 rfl (hb 2 (by rfl))) rfl) (fun b G w hb ho => exec_un rfl (zB hLo 4 rfl HS3.1 rfl (hb 4 (by rfl))) (by rfl))) ?_
        refine zA (zC 6 _ rfl rfl hLo rfl rfl (fun _ _ _ _ => rfl) (fun b G w hb ho => exec_pick rfl (zB hLo 2 rfl HS3.1 rfl (hb 2 (by rfl))) (zB hLo 5 rfl HS3.1 rfl (hb 5 (by rfl))))) ?_
        exact zE
      clear hLo
      intro G a6 w6 hS hH
      have HS6 : Sl a6 44 [(25, .bool true)] := hS
      have HH6 : Held w w6 [⟨g1_0, .u8, 32, a, 22⟩, ⟨g1_1, .u8, 64, sg, 28⟩, ⟨g2_5, .u64, 20, Xa, 42⟩, ⟨g3_3, .u8, 32, s, 22⟩] := hH
      clear hS hH HS3 HH3
      refine then_ ?_
      refine wp_cond_true (HS6.get 0 rfl) ?_
      refine wp_seq ?_
      have hLo : LOk [(0, 6, .val (.bool false))] := lok rfl rfl
      refine zJ (wE := w) (sz := 44) (n := 1) [0] [(6, .val (.bool false))] _ [⟨g1_0, none, none, .u8, 32, a, a, 22⟩, ⟨g1_1, none, none, .u8, 64, sg, sg, 28⟩, ⟨g2_5, none, none, .u64, 20, Xa, Xa, 42⟩, ⟨g3_3, none, none, .u8, 32, s, s, 22⟩] rfl (by rfl) HH6 rfl rfl hLo rfl HS6 (slL 0 (d := 0) rfl (trivial)) ?_ ?_
      · show ∀ i ∈ [0], _
        refine zA (zC 0 _ rfl rfl hLo rfl rfl (fun _ _ _ _ => rfl) (fun b G w hb ho => zF (.inr rfl) (rfl))) ?_
        exact zE
      clear hLo
      intro G a7 w7 hS hH
      have HS7 : Sl a7 44 [(6, .bool false)] := hS
      have HH7 : Held w w7 [⟨g1_0, .u8, 32, a, 22⟩, ⟨g1_1, .u8, 64, sg, 28⟩, ⟨g2_5, .u64, 20, Xa, 42⟩, ⟨g3_3, .u8, 32, s, 22⟩] := hH
      clear hS hH HS6 HH6
      refine then_ ?_
      refine wp_ret ?_
      repeat refine yC ?_
      exact b_tmp rfl HS7.2.1 (HS7.get 0 rfl) ⟨by rw [verV_bad hs hg], HH7.1⟩
    · skip
      refine wp_seq ?_
      refine wp_seq ?_
      have hLo : LOk [(0, 19, .val (.bool true)), (1, 20, .val (.bool false)), (2, 21, .val (.bool false)), (3, 22, .val (.agg (FR .u8 32 (s)))), (4, 23, .val (.bool true)), (5, 24, .val (.bool false)), (6, 25, .val (.bool false))] := lok rfl rfl
      refine zJ (wE := w) (sz := 44) (n := 7) [0, 1, 3, 7, 15, 31, 63] [(1, .val (.slice am lm cm)), (3, .val (.pointer (some ⟨g1_0, 0, none⟩))), (5, .val (.pointer (some ⟨g1_1, 0, none⟩))), (7, .val (.pointer (some ⟨g2_5, 0, none⟩))), (9, .val (.pointer (some ⟨g3_3, 0, none⟩))), (25, .val (.bool false))] _ [⟨g1_0, none, none, .u8, 32, a, a, 22⟩, ⟨g1_1, none, none, .u8, 64, sg, sg, 28⟩, ⟨g2_5, none, none, .u64, 20, Xa, Xa, 42⟩, ⟨g3_3, none, none, .u8, 32, s, s, 22⟩] rfl (by rfl) HH3 rfl rfl hLo rfl HS3 (slS 0 rfl rfl (slS 1 rfl rfl (slS 2 rfl rfl (slS 3 rfl rfl (slS 5 rfl rfl (slL 6 (d := 6) rfl (trivial))))))) ?_ ?_
      · show ∀ i ∈ [0, 1, 2, 3, 4, 5, 6], _
        refine zA (zC 0 _ rfl rfl hLo rfl rfl (fun _ _ _ _ => rfl) (fun b G w hb ho => zF (.inl rfl) (zD rfl (HS3.get 4 rfl)))) ?_
        refine zA (zC 1 _ rfl rfl hLo rfl rfl (fun _ _ _ _ => rfl) (fun b G w hb ho => exec_un rfl (zB hLo 0 rfl HS3.1 rfl (hb 0 (by rfl))) (by rfl))) ?_
        refine zA (zC 2 _ rfl rfl hLo rfl rfl (fun _ _ _ _ => rfl) (fun b G w hb ho => zF (.inl rfl) (zB hLo 1 rfl HS3.1 rfl (hb 1 (by rfl))))) ?_
        refine zA (zG 3 3 _ rfl rfl rfl rfl (fun b G hb ho => zN rfl rfl rfl HS3.1 rfl (zB hLo 2 rfl HS3.1 rfl (hb 2 (by rfl))) rfl) hLo rfl rfl rfl (by rfl) Tryd.underlying22 infoB3 rfl (fun b G hb ho => zD rfl (HS3.get 5 rfl))) ?_
        refine zA (zH 4 _ #[.agg (FR .u8 32 (s))] rfl rfl rfl (fun b G hb ho => zN rfl rfl rfl HS3.1 rfl (zB hLo 2 rfl HS3.1 rfl (hb 2 (by rfl))) rfl) hLo rfl rfl Tryd.func15 rfl rfl (fun b G hb ho => args1 (zB hLo 3 rfl HS3.1 rfl (hb 3 (by rfl)))) (fun w hw => good_as hg w (hO.to hw) hsB)) ?_
        refine zA (zC 5 _ rfl rfl hLo rfl rfl (fun b G hb ho => zN rfl rfl rfl HS3.1 rfl (zB hLo 2 rfl HS3.1 rfl (hb 2 (by rfl))) rfl) (fun b G w hb ho => exec_un rfl (zB hLo 4 rfl HS3.1 rfl (hb 4 (by rfl))) (by rfl))) ?_
        refine zA (zC 6 _ rfl rfl hLo rfl rfl (fun _ _ _ _ => rfl) (fun b G w hb ho => exec_pick rfl (zB hLo 2 rfl HS3.1 rfl (hb 2 (by rfl))) (zB hLo 5 rfl HS3.1 rfl (hb 5 (by rfl))))) ?_
        exact zE
      clear hLo
      intro G a8 w8 hS hH
      have HS8 : Sl a8 44 [(1, .slice am lm cm), (3, .pointer (some ⟨g1_0, 0, none⟩)), (5, .pointer (some ⟨g1_1, 0, none⟩)), (7, .pointer (some ⟨g2_5, 0, none⟩)), (9, .pointer (some ⟨g3_3, 0, none⟩)), (25, .bool false)] := hS
      have HH8 : Held w w8 [⟨g1_0, .u8, 32, a, 22⟩, ⟨g1_1, .u8, 64, sg, 28⟩, ⟨g2_5, .u64, 20, Xa, 42⟩, ⟨g3_3, .u8, 32, s, 22⟩] := hH
      clear hS hH HS3 HH3
      refine then_ ?_
      refine wp_cond_false (HS8.get 5 rfl) ?_
      refine wp_skip ?_
      refine then_ ?_
      refine wp_seq ?_
      have hLo : LOk [(0, 26, .val (.slice (some ⟨g1_1, 0, none⟩) 32 64)), (1, 27, .val (.slice (some ⟨g1_0, 0, none⟩) 32 32)), (2, 28, .val (.slice am lm cm)), (3, 29, .sl 3 3 3), (4, 30, .val (.agg (FR .u8 32 (k)))), (5, 10, .ptr 5 0)] := lok rfl rfl
      refine regionx_ (wE := w) (sz := 44) (n := 7) (B := [0, 0, 0, 7, 15, 0, 63]) [0, 1, 2, 3, 4, 5, 6] [(5, .val (.pointer (some ⟨g1_1, 0, none⟩))), (7, .val (.pointer (some ⟨g2_5, 0, none⟩))), (9, .val (.pointer (some ⟨g3_3, 0, none⟩))), (10, .ptr 5 0)] _ [⟨g1_0, none, none, .u8, 32, a, a, 22⟩, ⟨g1_1, none, none, .u8, 64, sg, sg, 28⟩, ⟨g2_5, none, none, .u64, 20, Xa, Xa, 42⟩, ⟨g3_3, none, none, .u8, 32, s, s, 22⟩, ⟨0, some 5, some 6, .u8, 32, fun _ => 0, k, 22⟩] [⟨3, #[.slice (some ⟨g1_1, 0, none⟩) 32 64, .slice (some ⟨g1_0, 0, none⟩) 32 32, .slice am lm cm], 25⟩] (by rfl) rfl tabvf_5 bitsvf_5 (by kernel_rfl) (by kernel_rfl) HH8 rfl rfl hLo rfl HS8 (slS 2 rfl rfl (slS 3 rfl rfl (slS 4 rfl rfl (slL 5 (d := 5) rfl (trivial))))) ?_ ?_
      · show ∀ i ∈ [0, 1, 2, 3, 4, 5, 6], _
        refine zA (sx_run 0 _ rfl rfl hLo rfl rfl rfl (fun _ _ _ _ => rfl) (fun b G w hb ho => exec_slice rfl (zD rfl (HS8.get 2 rfl)) rfl rfl rfl (slc_64_0_32 _ _))) ?_
        refine zA (sx_run 1 _ rfl rfl hLo rfl rfl rfl (fun _ _ _ _ => rfl) (fun b G w hb ho => exec_slice rfl (zD rfl (HS8.get 1 rfl)) rfl rfl rfl (slc_32_0_32 _ _))) ?_
        refine zA (sx_run 2 _ rfl rfl hLo rfl rfl rfl (fun _ _ _ _ => rfl) (fun b G w hb ho => zF (.inl rfl) (zD rfl (HS8.get 0 rfl)))) ?_
        refine zA (sx_mk 3 0 _ rfl rfl (fun _ _ _ _ => rfl) rfl rfl hLo rfl rfl rfl rfl (fun b G w hb ho => exec_buildSlice rfl (parts3 (zB hLo 0 rfl HS8.1 rfl (hb 0 (by rfl))) (zB hLo 1 rfl HS8.1 rfl (hb 1 (by rfl))) (zB hLo 2 rfl HS8.1 rfl (hb 2 (by rfl)))) (by kernel_rfl))) ?_
        refine zA (sx_callC 4 _ _ (fun G => #[.slice (some ⟨G 3, 0, none⟩) 3 3]) List.mem_cons_self rfl rfl rfl (fun _ _ _ _ => rfl) hLo rfl rfl rfl Tryd.func25 rfl rfl (show onB _ _ _ (some 3) = true from rfl) (fun b G hb ho => args1 (zB hLo 3 rfl HS8.1 rfl (hb 3 (by rfl)))) (fun G w hw hR hcs => rest3 hk w (hTd.to hw) (hO.to hw) hcs ((show Old _ w from hR).at 1 rfl) (by decide) ((show Old _ w from hR).at 0 rfl) (fun j hj => hsg j (by omega)) ha (hM w hw))) ?_
        refine zA (sx_alloc 5 4 .u8 32 22 (some 6) _ _ rfl rfl (fun _ _ _ _ => rfl) rfl hLo rfl rfl rfl rfl rfl (by rfl) (fun b G w _ _ => by kernel_rfl)) ?_
        refine zA (sx_store 4 _ rfl rfl rfl rfl rfl (fun _ _ _ _ => rfl) rfl rfl rfl rfl (by rfl) infoB3 (fun b G hb ho => zB hLo 5 rfl HS8.1 rfl (hb 5 (by rfl))) (fun b G hb ho => zB hLo 4 rfl HS8.1 rfl (hb 4 (by rfl)))) ?_
        exact zE
      clear hLo
      intro G a9 w9 hS hH
      have HS9 : Sl a9 44 [(5, .pointer (some ⟨g1_1, 0, none⟩)), (7, .pointer (some ⟨g2_5, 0, none⟩)), (9, .pointer (some ⟨g3_3, 0, none⟩)), (10, .pointer (some ⟨(G 5), 0, none⟩))] := hS
      have HH9 : Held w w9 [⟨g1_0, .u8, 32, a, 22⟩, ⟨g1_1, .u8, 64, sg, 28⟩, ⟨g2_5, .u64, 20, Xa, 42⟩, ⟨g3_3, .u8, 32, s, 22⟩, ⟨(G 5), .u8, 32, k, 22⟩] := hH
      clear hS hH HS8 HH8
      generalize G 5 = g9_5 at HS9 HH9
      refine then_ ?_
      obtain ⟨E, hE⟩ : ∃ E, ptB (Pt.add fld (Pt.mul fld (basePt) (NZ (s))) (Pt.mul fld (Pt.neg (Pa)) (NZ (k)))) = E := ⟨_, rfl⟩
      have hEB : Fd.By E := by rw [← hE]; exact ptB_By _
      obtain ⟨r, hr⟩ : ∃ r, sameRow 32 E (fun j => sg (0 + j)) = r := ⟨_, rfl⟩
      obtain ⟨B6, hB6, rB6⟩ : ∃ S, baseP = S ∧ PRep S (basePt) := ⟨_, rfl, base_prep⟩
      obtain ⟨M7, hM7, rM7⟩ : ∃ S, mulP B6 (s) = S ∧ PRep S (Pt.mul fld (basePt) (NZ (s))) := ⟨_, rfl, rB6.mul hsB⟩
      obtain ⟨N8, hN8, rN8⟩ : ∃ S, negP Xa = S ∧ PRep S (Pt.neg (Pa)) := ⟨_, rfl, rXa.neg⟩
      obtain ⟨M9, hM9, rM9⟩ : ∃ S, mulP N8 (k) = S ∧ PRep S (Pt.mul fld (Pt.neg (Pa)) (NZ (k))) := ⟨_, rfl, rN8.mul hkB⟩
      obtain ⟨S10, hS10, rS10⟩ : ∃ S, addP M7 M9 = S ∧ PRep S (Pt.add fld (Pt.mul fld (basePt) (NZ (s))) (Pt.mul fld (Pt.neg (Pa)) (NZ (k)))) := ⟨_, rfl, rM7.add rM9⟩
      refine wp_seq ?_
      have hLo : LOk [(0, 31, .val (.agg (FR .u64 20 (B6)))), (1, 32, .val (.agg (FR .u8 32 (s)))), (2, 33, .val (.agg (FR .u64 20 (M7)))), (3, 34, .val (.agg (FR .u64 20 (Xa)))), (4, 35, .val (.agg (FR .u64 20 (N8)))), (5, 36, .val (.agg (FR .u8 32 (k)))), (6, 37, .val (.agg (FR .u64 20 (M9)))), (7, 38, .val (.agg (FR .u64 20 (S10)))), (8, 39, .val (.agg (FR .u8 32 (E)))), (9, 40, .val (.slice (some ⟨g1_1, 0, none⟩) 32 64)), (10, 41, .val (.pointer (some ⟨g1_1, 0, none⟩))), (11, 42, .val (.agg (FR .u8 32 (fun j => (sg) (0 + j))))), (12, 43, .val (.bool r)), (13, 6, .val (.bool r))] := lok rfl rfl
      refine yK (wE := w) (sz := 44) (n := 14) (B := [0, 0, 3, 0, 15, 0, 63, 127, 255, 0, 512, 1536, 4095, 8191]) [0, 1, 2, 3, 4, 5, 6, 7, 8, 9, 10, 11, 12, 13] [(6, .val (.bool r))] _ [⟨g1_0, none, none, .u8, 32, a, a, 22⟩, ⟨g1_1, none, none, .u8, 64, sg, sg, 28⟩, ⟨g2_5, none, none, .u64, 20, Xa, Xa, 42⟩, ⟨g3_3, none, none, .u8, 32, s, s, 22⟩, ⟨g9_5, none, none, .u8, 32, k, k, 22⟩] (by rfl) rfl tabvf_6 bitsvf_6 (by kernel_rfl) (by kernel_rfl) HH9 rfl rfl hLo rfl HS9 (slL 13 (d := 13) rfl (trivial)) ?_ ?_
      · show ∀ i ∈ [0, 1, 2, 3, 4, 5, 6, 7, 8, 9, 10, 11, 12, 13], _
        refine zA (zH 0 _ #[] rfl rfl rfl (fun _ _ _ _ => rfl) hLo rfl rfl Tryd.func17 rfl rfl (fun b G hb ho => args0 ) (fun w hw => base_as hB6 w (hT.to hw))) ?_
        refine zA (zG 1 3 _ rfl rfl rfl rfl (fun _ _ _ _ => rfl) hLo rfl rfl rfl (by rfl) Tryd.underlying22 infoB3 rfl (fun b G hb ho => zD rfl (HS9.get 2 rfl))) ?_
        refine zA (zH 2 _ #[.agg (FR .u64 20 (B6)), .agg (FR .u8 32 (s))] rfl rfl rfl (fun _ _ _ _ => rfl) hLo rfl rfl Tryd.func18 rfl rfl (fun b G hb ho => zU (zB hLo 0 rfl HS9.1 rfl (hb 0 (by rfl))) (zB hLo 1 rfl HS9.1 rfl (hb 1 (by rfl)))) (fun w hw => mul_as hM7 w (hT.to hw) rB6.1 hsB)) ?_
        refine zA (zG 3 2 _ rfl rfl rfl rfl (fun _ _ _ _ => rfl) hLo rfl rfl rfl (by rfl) Tryd.underlying42 infoPt rfl (fun b G hb ho => zD rfl (HS9.get 1 rfl))) ?_
        refine zA (zH 4 _ #[.agg (FR .u64 20 (Xa))] rfl rfl rfl (fun _ _ _ _ => rfl) hLo rfl rfl Tryd.func27 rfl rfl (fun b G hb ho => args1 (zB hLo 3 rfl HS9.1 rfl (hb 3 (by rfl)))) (fun w hw => ptneg_as hN8 w rXa.1)) ?_
        refine zA (zG 5 4 _ rfl rfl rfl rfl (fun _ _ _ _ => rfl) hLo rfl rfl rfl (by rfl) Tryd.underlying22 infoB3 rfl (fun b G hb ho => zD rfl (HS9.get 3 rfl))) ?_
        refine zA (zH 6 _ #[.agg (FR .u64 20 (N8)), .agg (FR .u8 32 (k))] rfl rfl rfl (fun _ _ _ _ => rfl) hLo rfl rfl Tryd.func18 rfl rfl (fun b G hb ho => zU (zB hLo 4 rfl HS9.1 rfl (hb 4 (by rfl))) (zB hLo 5 rfl HS9.1 rfl (hb 5 (by rfl)))) (fun w hw => mul_as hM9 w (hT.to hw) rN8.1 hkB)) ?_
        refine zA (zH 7 _ #[.agg (FR .u64 20 (M7)), .agg (FR .u64 20 (M9))] rfl rfl rfl (fun _ _ _ _ => rfl) hLo rfl rfl Tryd.func26 rfl rfl (fun b G hb ho => zU (zB hLo 2 rfl HS9.1 rfl (hb 2 (by rfl))) (zB hLo 6 rfl HS9.1 rfl (hb 6 (by rfl)))) (fun w hw => add_as hS10 w (hT.to hw) rM7.1 rM9.1)) ?_
        refine zA (zH 8 _ #[.agg (FR .u64 20 (S10))] rfl rfl rfl (fun _ _ _ _ => rfl) hLo rfl rfl Tryd.func19 rfl rfl (fun b G hb ho => args1 (zB hLo 7 rfl HS9.1 rfl (hb 7 (by rfl)))) (fun w hw => bytes_as (rS10.bytes.trans hE) w rS10.1)) ?_
        refine zA (zC 9 _ rfl rfl hLo rfl rfl (fun _ _ _ _ => rfl) (fun b G w hb ho => exec_slice rfl (zD rfl (HS9.get 0 rfl)) rfl rfl rfl (slc_64_0_32 _ _))) ?_
        refine zA (zC 10 _ rfl rfl hLo rfl rfl (fun _ _ _ _ => rfl) (fun b G w hb ho => exec_toArr rfl (zB hLo 9 rfl HS9.1 rfl (hb 9 (by rfl))) (by kernel_rfl))) ?_
        refine zA (yA 11 1 _ 0 32 rfl rfl rfl rfl (fun _ _ _ _ => rfl) hLo rfl rfl rfl (by rfl) (Nat.le_of_ble_eq_true rfl) Tryd.underlying22 infoB3 rfl (fun b G hb ho => zB hLo 10 rfl HS9.1 rfl (hb 10 (by rfl)))) ?_
        refine zA (zC 12 _ rfl rfl hLo rfl rfl (fun _ _ _ _ => rfl) (fun b G w hb ho => zV rfl (zB hLo 8 rfl HS9.1 rfl (hb 8 (by rfl))) (zB hLo 11 rfl HS9.1 rfl (hb 11 (by rfl))) (eqB_run hr _ _ _))) ?_
        refine zA (zC 13 _ rfl rfl hLo rfl rfl (fun _ _ _ _ => rfl) (fun b G w hb ho => zF (.inr rfl) (zB hLo 12 rfl HS9.1 rfl (hb 12 (by rfl))))) ?_
        exact zE
      clear hLo
      intro G a10 w10 hS hH
      have HS10 : Sl a10 44 [(6, .bool r)] := hS
      have HH10 : Held w w10 [⟨g1_0, .u8, 32, a, 22⟩, ⟨g1_1, .u8, 64, sg, 28⟩, ⟨g2_5, .u64, 20, Xa, 42⟩, ⟨g3_3, .u8, 32, s, 22⟩, ⟨g9_5, .u8, 32, k, 22⟩] := hH
      clear hS hH HS9 HH9
      refine then_ ?_
      refine wp_ret ?_
      repeat refine yC ?_
      exact b_tmp rfl HS10.2.1 (HS10.get 0 rfl) ⟨by rw [verV_yes ha hra hPa hs hg hk hE, ← hr], HH10.1⟩
end Go.Proofs.YtbmnkchcekacfaaDoor.P
end

section
namespace Go.Proofs.YtbmnkchcekacfaaDoor.P
set_option linter.unusedVariables false
set_option linter.unusedSimpArgs false
open Classical in
theorem Pt.zero_neg : (Pt.zero dF).neg = Pt.zero dF := Pt.ext (by decide : -(0 : Fin Fd.PN) = 0) rfl
def sdL : List Int := [157, 97, 177, 157, 239, 253, 90, 96, 186, 132, 74, 244, 146, 236, 44, 196, 68, 73, 197, 105, 123, 50, 105, 25, 112, 59, 172, 3, 28, 174, 127, 96]
def sdF (j : Nat) : Int := sdL.getD j 0
def sdN : Nat := 36144925721603087658594284515452164870581325872720374094707712194495455132720
def kxN : Nat := 38815646466658113194383306759739515082307681141926459231621296960732224964046
def kyN : Nat := 11903303657706407974989296177215005343713679411332034699907763981919547054807
theorem sd_num : NZ (secA sdF) = sdN := by decide +kernel
theorem key_num : (ngo sdN bxN byN 1 (bxN * byN % Fd.PN) 255 0 1 1 0).1 % Fd.PN = kxN * (ngo sdN bxN byN 1 (bxN * byN % Fd.PN) 255 0 1 1 0).2.2.1 % Fd.PN ∧ (ngo sdN bxN byN 1 (bxN * byN % Fd.PN) 255 0 1 1 0).2.1 % Fd.PN = kyN * (ngo sdN bxN byN 1 (bxN * byN % Fd.PN) 255 0 1 1 0).2.2.1 % Fd.PN := by decide +kernel
theorem key_pt : (basePt.mul fld sdN).1 = (toF (kxN : Int), toF (kyN : Int)) := by
  have h := ngo_rep (n := sdN) base_repN 255 0 1 1 0 0 zero_repN
  rw [Nat.zero_mul, Nat.zero_add, show sdN % 2 ^ 255 = sdN by decide] at h
  obtain ⟨hX, hY⟩ := key_num
  obtain ⟨X, hXe⟩ : ∃ X, (ngo sdN bxN byN 1 (bxN * byN % Fd.PN) 255 0 1 1 0).1 = X := ⟨_, rfl⟩
  obtain ⟨Y, hYe⟩ : ∃ Y, (ngo sdN bxN byN 1 (bxN * byN % Fd.PN) 255 0 1 1 0).2.1 = Y := ⟨_, rfl⟩
  obtain ⟨Z, hZe⟩ : ∃ Z, (ngo sdN bxN byN 1 (bxN * byN % Fd.PN) 255 0 1 1 0).2.2.1 = Z := ⟨_, rfl⟩
  obtain ⟨T, hTe⟩ : ∃ T, (ngo sdN bxN byN 1 (bxN * byN % Fd.PN) 255 0 1 1 0).2.2.2 = T := ⟨_, rfl⟩
  rw [hXe, hYe, hZe, hTe] at h
  rw [hXe, hZe] at hX
  rw [hYe, hZe] at hY
  obtain ⟨z, x, y, t⟩ := h
  rw [← toF_nmod X, hX, toF_nmul] at x
  rw [← toF_nmod Y, hY, toF_nmul] at y
  exact Prod.ext (fld.cancel z x).symm (fld.cancel z y).symm
theorem key_bytes : ∀ j, j < 4 → pubK sdF j = [215, 90, 152, 1].getD j 0 := by
  have e : pubK sdF = dig 256 (((toF (kyN : Int)).val : Nat) : Int) := by
    unfold pubK
    rw [sd_num]
    unfold ptB
    rw [key_pt]
    exact if_neg (by decide +kernel)
  rw [e]
  have : ∀ j : Fin 4, dig 256 (((toF (kyN : Int)).val : Nat) : Int) j.val = [215, 90, 152, 1].getD j.val 0 := by decide +kernel
  exact fun j hj => this ⟨j, hj⟩
end Go.Proofs.YtbmnkchcekacfaaDoor.P
end

section
namespace Go.Proofs.YtbmnkchcekacfaaDoor.P
set_option linter.unusedVariables false
set_option linter.unusedSimpArgs false
open Go.RowKit Go.Proofs.YtbmnkchcekacfaaDoorW.PrintWords Go.Proofs.YtbmnkchcekacfaaDoorW.PrintLast Go.Proofs.YtbmnkchcekacfaaDoorW.PrintMore
attribute [local go_sem] setCell_drewN
theorem info33 : (Tryd.prog.info? 121).map (·.size) = some 33 := by kernel_rfl
def lList : List Int := [237, 211, 245, 92, 26, 99, 18, 88, 214, 156, 247, 162, 222, 249, 222, 20, 0, 0, 0, 0, 0, 0, 0, 0, 0, 0, 0, 0, 0, 0, 0, 16, 0]
def lD (j : Nat) : Int := lList.getD j 0
theorem lD_b (j : Nat) : 0 ≤ lD j ∧ lD j < 256 := by
  by_cases h : j < 33
  · have : ∀ j, j < 33 → 0 ≤ lD j ∧ lD j < 256 := by decide +kernel
    exact this j h
  · have e : lD j = 0 := by unfold lD; rw [List.getD_eq_getElem?_getD, List.getElem?_eq_none (by show 33 ≤ j; omega)]; rfl
    omega
theorem lD_val : val 256 lD 33 = LL := by decide +kernel
theorem lD_row : (#[.int .i64 237, .int .i64 211, .int .i64 245, .int .i64 92, .int .i64 26, .int .i64 99, .int .i64 18, .int .i64 88, .int .i64 214, .int .i64 156, .int .i64 247, .int .i64 162, .int .i64 222, .int .i64 249, .int .i64 222, .int .i64 20, .int .i64 0, .int .i64 0, .int .i64 0, .int .i64 0, .int .i64 0, .int .i64 0, .int .i64 0, .int .i64 0, .int .i64 0, .int .i64 0, .int .i64 0, .int .i64 0, .int .i64 0, .int .i64 0, .int .i64 0, .int .i64 16, .int .i64 0] : Array Value) = FR .i64 33 lD := by kernel_rfl
theorem L_calls (w : World) : Calls Tryd.prog 82 #[] w fun e w' => e = .returned (.agg (FR .i64 33 lD)) ∧ Below w.heap.size w w' := by
  have HN := Aside0.mk (Row.new w .i64 33 (fun _ => 0) 121)
  have HB := Aside0.mk ((Below.refl w.heap.size w).alloc (Nat.le_refl _) (.cells (FR .i64 33 fun _ => 0) 121))
  go_enter Tryd.func82, Tryd.ntmps82
  go_wp2_with (refine zQ lD HN.out info33 rfl rfl rfl rfl (congrArg Value.agg lD_row) ?_; intro w3 hs hr; have HS := Aside0.mk hs; have HR := Aside0.mk hr; clear hs hr)
  refine bodyPost_ret (zY rfl HR.out rfl Tryd.underlying121 rfl info33) rfl ?_
  exact ⟨rfl, HS.out.bel _ _ (Nat.le_refl _) HB.out⟩
def BelRel (f : Nat → Int) (w : World) (v4 : Value) (gp : Nat) (wr : World) : Prop :=
  ∃ (i : Nat), i ≤ 33 ∧ v4 = .int .i64 ((i : Int) - 1) ∧ lexN f lD i = lexN f lD 33 ∧ Below w.heap.size w wr ∧ Row wr w.heap.size .i64 33 f 121 ∧ Row wr gp .i64 33 lD 121
set_option maxRecDepth 100000 in
theorem below_calls (f : Nat → Int) (w : World) :
    Calls Tryd.prog 83 #[.agg (FR .i64 33 f)] w fun e w' => e = .returned (.bool (lexN f lD 33)) ∧ Below w.heap.size w w' := by
  go_enter Tryd.func83, Tryd.ntmps83
  go_wp2_with fail
  refine (L_calls _).mono ?_
  rintro e w1 ⟨rfl, hb⟩
  have hr := Row.below (Row.new w .i64 33 f 121) hb (by simp)
  have HR := Aside0.mk hr
  have hb2 := (Below.refl w.heap.size w).alloc (Nat.le_refl _) (.cells (FR .i64 33 f) 121)
  have HB := Aside0.mk (hb2.trans (hb.mono (by simp)))
  have hlt := hr.lt
  clear hb hb2 hr
  have HN := Aside0.mk (Row.new w1 .i64 33 (fun _ => 0) 121)
  go_wp2_with (refine step_store lD HN.out info33 rfl rfl rfl rfl rfl ?_)
  have HB2 := Aside0.mk (yG (show w.heap.size ≤ w1.heap.size by omega) (FR .i64 33 lD).toList 0 _ (HB.out.alloc (by omega) (.cells (FR .i64 33 fun _ => 0) 121)))
  have HR2 := Aside0.mk ((HR.out.alloc (.cells (FR .i64 33 fun _ => 0) 121)).cells_other (FR .i64 33 lD).toList (show w.heap.size ≠ w1.heap.size by omega))
  have HP := Aside0.mk (HN.out.all (f' := lD))
  go_loopw [4, 2] (fun v4 v2 wr => v2 = .bool false ∧ BelRel f w v4 w1.heap.size wr) (fun v _ _ => ((intOf v) + 1).toNat)
  case atStart => exact ⟨rfl, 33, by omega, rfl, rfl, HB2.out, HR2.out, HP.out⟩
  case round =>
    obtain ⟨rfl, i, hi, rfl, he, hb, hr, hp⟩ := hrel
    have HB3 := Aside0.mk hb
    have HE := Aside0.mk he
    have HR3 := Aside0.mk hr
    have HP3 := Aside0.mk hp
    clear HN HB2 HR2 HP HR HB
    rcases Nat.lt_or_ge 0 i with h15 | h15
    · obtain ⟨j, rfl⟩ : ∃ j, i = j + 1 := ⟨i - 1, by omega⟩
      have e1 : ((j + 1 : Nat) : Int) - 1 = (j : Int) := by omega
      rw [e1]
      have hge : ((j : Int) ≥ 0) = True := eq_true (by omega)
      have hlt : ((j : Int) < 33) = True := eq_true (by omega)
      have k0 := hr.cell j (by omega)
      have k1 := hp.cell j (by omega)
      clear hb hr hp he
      by_cases hq : f j = lD j
      · have HQ := Aside0.mk hq
        have hd : (f j != lD j) = false := by simp [hq]
        have hd2 : (f j = lD j) = True := eq_true hq
        clear hq
        go_wp2_with fail
        go_region
        all_goals go_wp2_with fail
        refine ⟨⟨rfl, j, by omega, rfl, ?_, HB3.out.drew, HR3.out, HP3.out⟩, by simp only [intOf]; omega⟩
        rw [← HE.out]; show _ = if f j = lD j then lexN f lD j else _
        rw [if_pos HQ.out]
      · have HQ := Aside0.mk hq
        have hd : (f j != lD j) = true := by simp [hq]
        have hd2 : (f j = lD j) = False := eq_false hq
        clear hq
        go_wp2_with fail
        go_region
        all_goals go_wp2_with fail
        go_region
        all_goals go_wp2_with fail
        go_ret
        refine ⟨?_, HB3.out.drew.drew⟩
        rw [← HE.out]; show _ = Ending.returned (Value.bool (if f j = lD j then lexN f lD j else _))
        rw [if_neg HQ.out]; rfl
    · obtain rfl : i = 0 := by omega
      clear hb hr hp he
      go_wp2_with fail
      go_ret
      refine ⟨?_, HB3.out⟩
      rw [← HE.out]; rfl
def sN (n : Nat) (z : Nat → Int) : ByteArray := strOfNums ((List.range n).map z)
theorem OwnB.str {w : World} {base n : Nat} {v : Value} {z : Nat → Int} (h : OwnB w base v n z) : (convert 25 9 v).run Tryd.prog w = .ok (.string (sN n z)) w := by
  refine own_string Tryd.underlying25 Tryd.underlying5 Tryd.underlying9 (base := base) (e' := 5) (n := n) ?_
  have e : nums .u8 ((List.range n).map z) = (List.range n).map fun j => Value.int .u8 (z j) := by simp [nums]
  rw [e]; exact h
theorem OwnB.nil (w : World) (base : Nat) (z : Nat → Int) : OwnB w base (.slice none 0 0) 0 z := World.ownsRow_nil w base _ 1
theorem OwnB.congr {w : World} {base n : Nat} {v : Value} {z z' : Nat → Int} (h : OwnB w base v n z) (e : ∀ j, j < n → z j = z' j) : OwnB w base v n z' := by
  have e2 : ((List.range n).map fun j => Value.int .u8 (z j)) = (List.range n).map fun j => Value.int .u8 (z' j) := by
    apply List.map_congr_left; intro j hj; rw [e j (List.mem_range.1 hj)]
  unfold OwnB at *; rw [← e2]; exact h
end Go.Proofs.YtbmnkchcekacfaaDoor.P
end
