/- digest2's Of, by its walk; what the digest hangs on. -/
import Derived.Test.YtlopmjolahhpnaaDoorDh
namespace Go.Proofs.YtlopmjolahhpnaaDoor.P
set_option linter.unusedVariables false
set_option linter.unusedSimpArgs false
open Go.RowKit Go.Proofs.YtlopmjolahhpnaaDoorW.PrintWords Go.Proofs.YtlopmjolahhpnaaDoorW.PrintLast Go.Proofs.YtlopmjolahhpnaaDoorW.PrintMore
attribute [local go_sem] setCell_drewN
theorem pad_congr {z z' : Nat → Int} {n : Nat} (h : ∀ j, j < n → z j = z' j) : pad z n = pad z' n := by
  funext j
  unfold pad
  by_cases hj : j < n
  · rw [if_pos hj, if_pos hj, h j hj]
  · rw [if_neg hj, if_neg hj]
theorem dg_congr {z z' : Nat → Int} {n : Nat} (h : ∀ j, j < n → z j = z' j) : dg z n = dg z' n := by
  unfold dg; rw [pad_congr h]
theorem dg_b (z : Nat → Int) (n j : Nat) : 0 ≤ dg z n j ∧ dg z n j < 256 := by
  unfold dg ob; omega
theorem NumsAt.lt {k : IntKind} {w : World} {a : Option Addr} {m : Nat} {z : Nat → Int} (h : NumsAt k w a m z) : ∀ x, a = some x → 0 < m → x.block < w.heap.size := by
  intro x hx h0
  rcases h with ⟨h1, _⟩ | ⟨y, h1, hc⟩
  · rw [h1] at hx; cases hx
  · rw [h1] at hx; cases hx
    have := World.block_lt_of_cell? w _ (hc 0 h0)
    rwa [show (x.add 0).block = x.block by unfold Addr.add; split <;> rfl] at this
theorem NumsAt.below {k : IntKind} {w w' : World} {a : Option Addr} {m : Nat} {z : Nat → Int} {B : Nat} (h : NumsAt k w a m z) (hb : Below B w w') (hl : ∀ x, a = some x → 0 < m → x.block < B) : NumsAt k w' a m z :=
  h.keep fun x hx h0 => hb.block _ (hl x hx h0)
/-- A digest to which nothing was given, behind one block more. -/
theorem fresh_hash (w : World) (o : Obj) (z : Nat → Int) (B : Nat) : HashOf ((w.alloc o).alloc (.cells (hcells iv (.slice none 0 0) 0) 44)) B (w.heap.size + 1) z 0 (.slice none 0 0) := by
  refine ⟨?_, OwnS.nil _ _ _⟩
  have h := heap_alloc_new (w.alloc o) (.cells (hcells iv (.slice none 0 0) 0) 44)
  rw [show (w.alloc o).heap.size = w.heap.size + 1 by simp] at h
  exact h
set_option maxRecDepth 100000 in
set_option maxHeartbeats 1000000 in
theorem of_calls (z : Nat → Int) (a : Option Addr) (n cap : Nat) (w : World) (ht : Tab w) (hI : NumsAt .u8 w a n z) (hn0 : a = none → cap = 0) (hn : n ≤ 1099511627776) (hz : ∀ j, j < n → 0 ≤ z j ∧ z j < 256) :
    Calls Tryd.prog 8 #[.slice a n cap] w fun e w' => e = .returned (.agg (FR .u8 64 (dg z n))) ∧ Below w.heap.size w w' := by
  have HLT := Aside0.mk ht.lt
  have HAL := Aside0.mk hI.lt
  have HN1 := Aside0.mk (Row.new w .u8 64 (fun _ => 0) 24)
  have HB1 := Aside0.mk ((Below.refl w.heap.size w).alloc (Nat.le_refl _) (.cells (FR .u8 64 fun _ => 0) 24))
  have HB2 := Aside0.mk (bel_two w (.cells (FR .u8 64 fun _ => 0) 24) (.cells (hcells iv (.slice none 0 0) 0) 44))
  have HF := Aside0.mk (fresh_hash w (.cells (FR .u8 64 fun _ => 0) 24) z (w.heap.size + 1))
  have HT2 := Aside0.mk (ht.keep (HB2.out.block _ HLT.out))
  have HI2 := Aside0.mk (hI.below HB2.out HAL.out)
  have HR2 := Aside0.mk (HN1.out.alloc (.cells (hcells iv (.slice none 0 0) 0) 44))
  have HSZ : Aside0 (((w.alloc (.cells (FR .u8 64 fun _ => 0) 24)).alloc (.cells (hcells iv (.slice none 0 0) 0) 44)).heap.size = w.heap.size + 1 + 1) := ⟨by simp⟩
  have HW := Aside0.mk (write_calls z z 0 n (w.heap.size + 1) (w.heap.size + 1) (.slice none 0 0) a cap _ HT2.out HF.out (by have := HLT.out; omega) ⟨Nat.le_refl _, by rw [HSZ.out]; omega⟩ HI2.out hn0 (fun x hx h0 => by have := HAL.out x hx h0; omega) (by omega) (fun j hj => by omega) hz)
  have HZ := Aside0.mk hz
  have HN := Aside0.mk hn
  clear ht hI hn0 hn hz
  go_enter Tryd.func8, Tryd.ntmps8
  go_wp2_with fail
  refine (new_calls _).mono ?_
  rintro e w1 ⟨rfl, rfl⟩
  go_wp2_with fail
  refine (HW.out).mono ?_
  rintro e w3 ⟨rfl, v3, hh, hc, _⟩
  have HB3 := Aside0.mk (Chg.below HB2.out hc (by rw [HSZ.out]; omega) (fun b hb => by rcases hb with rfl | hb; omega; cases hb))
  have HT3 := Aside0.mk (HT2.out.keep (hc.block _ HT2.out.lt (fun hb => by have := HLT.out; rcases hb with hb | hb; omega; cases hb)))
  have HR3 : Aside0 (Row w3 w.heap.size .u8 64 (fun _ => 0) 24) := ⟨(hc.block _ HR2.out.lt (fun hb => by rcases hb with hb | hb; omega; cases hb)).trans HR2.out⟩
  have HS := Aside0.mk (sum_calls _ (0 + n) (w.heap.size + 1) (w.heap.size + 1) v3 w3 HT3.out hh (by have := HN.out; omega) (fun j hj => by rw [if_neg (by omega)]; exact HZ.out (j - 0) (by omega)))
  have HD : Aside0 (dg (fun j => if j < 0 then z j else z (j - 0)) (0 + n) = dg z n) := ⟨by rw [Nat.zero_add]; exact dg_congr fun j _ => by rw [if_neg (by omega)]; rfl⟩
  rw [HD.out] at HS
  clear hh hc HW HF HI2
  go_wp2_with fail
  refine (HS.out).mono ?_
  rintro e w4 ⟨rfl, hb⟩
  have HB4 := Aside0.mk (HB3.out.trans (hb.mono HB3.out.size))
  have HR4 := Aside0.mk (HR3.out.below hb HR3.out.lt)
  clear hb HS
  go_wp2_with (refine step_storeG (dg z n) HR4.out info64b rfl rfl rfl rfl rfl ?_; intro w5 hs hr; have HS5 := Aside0.mk hs; have HR5 := Aside0.mk hr; clear hs hr)
  refine bodyPost_ret (row_results rfl HR5.out rfl Tryd.underlying24 rfl info64b) rfl ?_
  exact ⟨rfl, HS5.out.bel _ _ (Nat.le_refl _) HB4.out⟩
end Go.Proofs.YtlopmjolahhpnaaDoor.P
