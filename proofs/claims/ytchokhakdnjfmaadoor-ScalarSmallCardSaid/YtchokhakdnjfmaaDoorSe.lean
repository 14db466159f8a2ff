/- scalar.Good, by its walk. -/
import Derived.Test.YtchokhakdnjfmaaDoorSd
namespace Go.Proofs.YtchokhakdnjfmaaDoor.P
set_option linter.unusedVariables false
set_option linter.unusedSimpArgs false
open Go.RowKit Go.Proofs.YtchokhakdnjfmaaDoorW.PrintWords Go.Proofs.YtchokhakdnjfmaaDoorW.PrintLast Go.Proofs.YtchokhakdnjfmaaDoorW.PrintMore
attribute [local go_sem] setCell_drewN
theorem add_zero_at (g off j : Nat) : (⟨g, off, none⟩ : Addr).add j = ⟨g, off + j, none⟩ := by
  unfold Addr.add
  split
  · subst_vars; rfl
  · rfl
theorem Row.bytesAt {w : World} {g n m : Nat} {f : Nat → Int} {t : TypeId} (h : Row w g .u8 n f t) (hm : m ≤ n) : BytesAt w (some ⟨g, 0, none⟩) m f :=
  .inr ⟨_, rfl, fun j hj => by rw [add_zero_at, Nat.zero_add]; exact h.cell j (by omega)⟩
theorem BytesAt.congr {w : World} {a : Option Addr} {len : Nat} {z z' : Nat → Int} (h : BytesAt w a len z) (e : ∀ j, j < len → z j = z' j) : BytesAt w a len z' := by
  rcases h with h | ⟨x, hx, h⟩
  · exact .inl h
  · exact .inr ⟨x, hx, fun j hj => by rw [← e j hj]; exact h j hj⟩
/-- scalar.Rest, of bytes that are known where they are. -/
theorem rest_calls' (z : Nat → Int) (a : Option Addr) (len cap : Nat) (w : World) (ho : Ord w) (hz : ∀ j, j < len → 0 ≤ z j ∧ z j < 256) (hreach : len ≤ 140737488351232) (hI : BytesAt w a len z) :
    Calls Tryd.prog 9 #[.slice a len cap] w fun e w' => e = .returned (.agg (FR .u8 32 (dig 256 (val 256 z len % LL)))) ∧ Below w.heap.size w w' := by
  have h := rest_calls (fun j => if j < len then z j else 0) a len cap w ho (fun j => by
    by_cases hj : j < len
    · rw [if_pos hj]; exact hz j hj
    · rw [if_neg hj]; omega) hreach (hI.congr (fun j hj => (if_pos hj).symm))
  rw [val_congr 256 (fun j => if j < len then z j else 0) z len (fun j hj => if_pos hj)] at h
  exact h
/-- 32 bytes. -/
def By (f : Nat → Int) : Prop := ∀ j, j < 32 → 0 ≤ f j ∧ f j < 256
def N32 (f : Nat → Int) : Int := val 256 f 32
theorem N32_b (f : Nat → Int) (h : By f) : 0 ≤ N32 f ∧ N32 f < 256 ^ 32 := val_b 256 (by omega) f 32 h
theorem By.dig {f : Nat → Int} (h : By f) (j : Nat) (hj : j < 32) : f j = dig 256 (N32 f) j := dig_val 256 (by omega) f 32 h j hj
theorem dig_By (N : Int) : By (dig 256 N) := fun j _ => dig_b 256 (by omega) N j
theorem N32_dig (N : Int) (h : 0 ≤ N ∧ N < 256 ^ 32) : N32 (dig 256 N) = N := by unfold N32; rw [val_dig 256 (by omega), Int.emod_eq_of_lt h.1 h.2]
theorem info8 : (Tryd.prog.info? 5).map (·.size) = some 1 := by kernel_rfl
theorem equal32 (f g : Nat → Int) (w : World) : (Op.equalIn 10000 23 (.agg (FR .u8 32 f)) (.agg (FR .u8 32 g))).run Tryd.prog w = .ok (sameRow 32 f g) w := run_equal_FR Tryd.underlying23 Tryd.underlying5 info8 f g w
theorem modLL_b (x : Int) : 0 ≤ x % LL ∧ x % LL < 256 ^ 32 := by
  have e : (256 : Int) ^ 32 = 115792089237316195423570985008687907853269984665640564039457584007913129639936 := by decide
  rw [e]; unfold LL; omega
theorem sameRow_congr {n : Nat} {f f' g g' : Nat → Int} (hf : ∀ i, i < n → f i = f' i) (hg : ∀ i, i < n → g i = g' i) : sameRow n f g = sameRow n f' g' := by
  unfold sameRow
  congr 1
  apply propext
  constructor
  · intro h i hi; rw [← hf i hi, ← hg i hi]; exact h i hi
  · intro h i hi; rw [hf i hi, hg i hi]; exact h i hi
theorem same32 (f g : Nat → Int) (hf : By f) (hg : By g) : sameRow 32 f g = decide (N32 f = N32 g) := by
  rw [sameRow_congr hf.dig hg.dig, sameRow_dig 256 (by omega) 32 _ _ (N32_b f hf) (N32_b g hg)]
theorem same_good (s : Nat → Int) (hs : By s) : sameRow 32 (dig 256 (val 256 s 32 % LL)) s = decide (N32 s < LL) := by
  rw [same32 _ _ (dig_By _) hs, N32_dig _ (modLL_b _)]
  have h := N32_b s hs
  congr 1
  apply propext
  show N32 s % LL = N32 s ↔ _
  constructor
  · intro e; rw [← e]; unfold LL; omega
  · intro e; exact Int.emod_eq_of_lt h.1 e
theorem tabGood1 : rtab .any (opsOf Tryd.f12 1) = (true, [([], []), ([0], [0]), ([], []), ([1, 2], [1, 2]), ([3, 1, 0, 1, 2, 3], [3])]) := by kernel_rfl
theorem bitsGood1 : waitsOk [([], []), ([0], [0]), ([], []), ([1, 2], [1, 2]), ([3, 1, 0, 1, 2, 3], [3])] [0, 1, 0, 7, 15] = true := by kernel_rfl
theorem good_calls (s : Nat → Int) (w : World) (ho : Ord w) (hs : By s) :
    Calls Tryd.prog 12 #[.agg (FR .u8 32 s)] w fun e w' => e = .returned (.bool (decide (N32 s < LL))) ∧ Below w.heap.size w w' := by
  have HO := Aside0.mk ho
  have HS := Aside0.mk hs
  have HE := Aside0.mk (same_good s hs)
  have hq := equal32
  clear ho hs
  go_enter Tryd.func12, Tryd.ntmps12
  go_wp2_with fail
  have hh : Row (w.alloc (.cells (FR .u8 32 s) 23)).drew w.heap.size .u8 32 s 23 := Row.new w .u8 32 s 23
  have HBd := Aside0.mk ((Below.refl w.heap.size w).alloc (Nat.le_refl _) (.cells (FR .u8 32 s) 23)).drew
  refine start_ (n := 5) (S := (fun w' => Row w' w.heap.size .u8 32 s 23)) (ds := []) #[false, false, false, false, false] (by kernel_rfl) rfl rfl hh (fun hHeld => ?_); refine with_tabW tabGood1 bitsGood1 (fun HT_ HW_ => ?_)
  generalize (w.alloc (.cells (FR .u8 32 s) 23)).drew = w6 at HBd hHeld hh ⊢
  clear hh
  refine pure_ (i := 0) (N := some 3) (v := ?_) (a' := ?_) #[true, false, false, false, false] rfl rfl (any_of HT_.out (by kernel_rfl)) (fun _ _ _ h => h) (Or.inl ⟨by rfl, ?_⟩) ?_ ?_
  rotate_left
  · intro w'
    go_simp
    with_reducible rfl
  rotate_left
  · simp only [Act.put, List.setIfInBounds_toArray, List.set_cons_zero, List.set_cons_succ, i64_w, i32_w]
    rfl
  refine take_ (i := 2) (N := some 5) (v := ?_) (a' := ?_) #[true, false, true, false, false] rfl rfl (take_ofW HT_.out HW_.out (by kernel_rfl)) (fun _ _ _ h => h) (Or.inl ⟨by rfl, ?_⟩) hHeld ?_ ?_
  rotate_left
  · intro w' hsw
    refine exec_load (x := .tmp 1) hsw Tryd.underlying23 info32 rfl ?_ ?_ <;> rfl
  rotate_left
  · simp only [Act.put, List.setIfInBounds_toArray, List.set_cons_zero, List.set_cons_succ, i64_w, i32_w]
    rfl
  refine one_ (i := 1) (N := some 4) #[true, true, true, false, false] rfl rfl (one_of HT_.out (by kernel_rfl)) (by decide) (fun K hK => ?_)
  refine goes_ Tryd.func9 rfl rfl #[.slice (some ⟨w.heap.size, 0, none⟩) 32 32] rfl rfl rfl (by simp only [List.map_toArray, List.map_cons, List.map_nil]; rfl) ((rest_calls' s _ 32 32 _ (HO.out.below HBd.out HO.out.lt) HS.out (by omega) (hHeld.bytesAt (Nat.le_refl _))).mono ?_)
  rintro e wc1 ⟨rfl, hb⟩
  have hSn : Row wc1 w.heap.size .u8 32 s 23 := hHeld.below hb hHeld.lt
  have HBc1 := Aside0.mk (HBd.out.trans (hb.mono HBd.out.size))
  clear hb
  refine ⟨_, rfl, hK.out _ _ hSn (fun hHeld => ?_)⟩
  clear hSn
  clear hK K
  refine norm_ (a' := ?_) ?_ ?_
  rotate_left
  · show Act.put _ (some 4) _ = _
    simp only [Act.put, List.setIfInBounds_toArray, List.set_cons_zero, List.set_cons_succ, i64_w, i32_w]
    rfl
  refine pure_ (i := 3) (N := some 6) (v := ?_) (a' := ?_) #[true, true, true, true, false] rfl rfl (any_of HT_.out (by kernel_rfl)) (fun _ _ _ h => h) (Or.inl ⟨by rfl, ?_⟩) ?_ ?_
  rotate_left
  · intro w'
    go_simp
    with_reducible rfl
  rotate_left
  · simp only [Act.put, List.setIfInBounds_toArray, List.set_cons_zero, List.set_cons_succ, i64_w, i32_w]
    rfl
  refine pure_ (i := 4) (N := some 2) (v := ?_) (a' := ?_) #[true, true, true, true, true] rfl rfl (any_of HT_.out (by kernel_rfl)) (fun _ _ _ h => h) (Or.inl ⟨by rfl, ?_⟩) ?_ ?_
  rotate_left
  · intro w'
    go_simp
    with_reducible rfl
  rotate_left
  · simp only [Act.put, List.setIfInBounds_toArray, List.set_cons_zero, List.set_cons_succ, i64_w, i32_w]
    rfl
  refine done_ (done_of HT_.out (by kernel_rfl)) ?_
  clear HT_ HW_ hHeld
  go_wp2_with fail
  go_ret
  exact ⟨by rw [← HE.out]; rfl, HBc1.out⟩
end Go.Proofs.YtchokhakdnjfmaaDoor.P
