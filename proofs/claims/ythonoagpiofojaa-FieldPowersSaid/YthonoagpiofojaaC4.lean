/- The document's Add, Sub and Small by their walks. -/
import Derived.Test.YthonoagpiofojaaC3
namespace Go.Proofs.Ythonoagpiofojaa.P
set_option linter.unusedVariables false
set_option linter.unusedSimpArgs false
open Go.RowKit
attribute [local go_sem] setCell_drewN
/-- Each of 16 digits is within 2^50 of nought. -/
def CB0 (f : Nat → Int) : Prop := ∀ j, j < 16 → - 1125899906842624 ≤ f j ∧ f j ≤ 1125899906842624
theorem part_step {w : World} {g : Nat} {k : IntKind} {n : Nat} {t : TypeId} {F G : Nat → Int} {i : Nat} {a : Addr} (h : Row w g k n (fun j => if j < i then F j else G j) t) (hi : i < n) :
    Row (w.setCell ⟨g, i, none⟩ (.int k (F i))) g k n (fun j => if j < i + 1 then F j else G j) t :=
  row_eq (h.set i (F i) hi) (fun j hj => by
    unfold upd
    by_cases hji : j = i
    · subst hji; rw [if_pos rfl, if_pos (by omega)]
    · rw [if_neg hji]
      show (if j < i then F j else G j) = _
      by_cases hjl : j < i
      · rw [if_pos hjl, if_pos (by omega)]
      · rw [if_neg hjl, if_neg (by omega)])
theorem bel_three' (w : World) (a b c : Obj) : Below w.heap.size w (((w.alloc a).alloc b).alloc c) := bel_three w a b c
theorem small_ref_calls (n : Int) (w : World) (hn : 0 ≤ n ∧ n < 4294967296) :
    Calls Try.prog 16 #[.int .i64 n] w fun e w' => e = .returned (.agg (FR .i64 16 (carryN (fun i => if i = 0 then n else 0) 16))) ∧ Below w.heap.size w w' := by
  have HN := Aside0.mk hn
  clear hn
  go_enter Try.func16, Try.ntmps16
  go_wp2_with fail
  have e : (#[.int .i64 n, .int .i64 0, .int .i64 0, .int .i64 0, .int .i64 0, .int .i64 0, .int .i64 0, .int .i64 0, .int .i64 0, .int .i64 0, .int .i64 0, .int .i64 0, .int .i64 0, .int .i64 0, .int .i64 0, .int .i64 0] : Array Value) = FR .i64 16 (fun i => if i = 0 then n else 0) := by rfl
  rw [e]
  refine (carry_calls _ _ (fun j hj => by have := HN.out; split <;> omega)).mono ?_
  rintro e w1 ⟨rfl, hb⟩
  have hr : Row w1 w.heap.size .i64 16 (fun _ => 0) 33 := (Row.new w .i64 16 (fun _ => 0) 33).below hb (by simp)
  have HR := Aside0.mk hr
  have HB := Aside0.mk (((Below.refl w.heap.size w).alloc (Nat.le_refl _) (.cells (FR .i64 16 fun _ => 0) 33)).trans (hb.mono (by simp)))
  have hlt := hr.lt
  clear hb hr e
  go_wp2_with (refine step_store _ HR.out info33 rfl rfl rfl rfl rfl ?_)
  refine bodyPost_ret (row_results rfl (HR.out.all) rfl Try.underlying33 rfl info33) rfl ?_
  exact ⟨rfl, bel_setCells (by omega) _ _ _ HB.out⟩
def addRRel (f g : Nat → Int) (w : World) (v5 : Value) (wr : World) : Prop :=
  ∃ (i : Nat), i ≤ 16 ∧ v5 = .int .i64 (i : Int) ∧ Below w.heap.size w wr ∧ Row wr w.heap.size .i64 16 (fun j => if j < i then f j + g j else f j) 33 ∧ Row wr (w.heap.size + 1) .i64 16 g 33 ∧ Row wr (w.heap.size + 1 + 1) .i64 16 (fun _ => 0) 33
theorem addR_calls (f g : Nat → Int) (w : World) (hf : CB0 f) (hg : CB0 g) :
    Calls Try.prog 21 #[.agg (FR .i64 16 f), .agg (FR .i64 16 g)] w fun e w' => e = .returned (.agg (FR .i64 16 (carryN (fun i => f i + g i) 16))) ∧ Below w.heap.size w w' := by
  have HF := Aside0.mk hf
  have HG := Aside0.mk hg
  clear hf hg
  go_enter Try.func21, Try.ntmps21
  go_wp2_with fail
  go_loopw [5] (fun v5 wr => addRRel f g w v5 wr) (fun v _ => 16 - (intOf v).toNat)
  case atStart => exact ⟨0, by omega, rfl, bel_three w _ _ _, ((Row.new w .i64 16 f 33).alloc _).alloc _, Row.alloc (heap_alloc2_new w _ _) _, three_new w _ _ _⟩
  case round =>
    obtain ⟨i, hi, rfl, hb, hr, hg, h0⟩ := hrel
    have HB := Aside0.mk hb
    have HR := Aside0.mk hr
    have HR2 := Aside0.mk hg
    have HR3 := Aside0.mk h0
    have hlt1 := hr.lt
    have hlt2 := hg.lt
    have hlt3 := h0.lt
    rcases Nat.lt_or_ge i 16 with h15 | h15
    · have hlt : ((i : Int) < 16) = True := eq_true (by omega)
      have f0 := hr.fro i
      have k0 := hr.cell i (by omega)
      have e0 : (if i < i then f i + g i else f i) = f i := if_neg (by omega)
      have k1 := hg.cell i (by omega)
      rw [e0] at k0
      have b0 := HF.out i (by omega)
      have b1 := HG.out i (by omega)
      have w0 : wrap64 (f i + g i) = f i + g i := w64 _ (by omega)
      clear hb hr hg h0 e0 b0 b1
      go_wp2_with fail
      go_region
      all_goals go_wp2_with fail
      refine ⟨⟨i + 1, by omega, rfl, (bel_set HB.out _ _ (by simp)).drew, ?_, HR2.out.other _ _ (show w.heap.size + 1 ≠ w.heap.size by omega), HR3.out.other _ _ (show w.heap.size + 1 + 1 ≠ w.heap.size by omega)⟩, meas_up 16 i (by omega)⟩
      exact part_step (F := fun j => f j + g j) (a := ⟨0, 0, none⟩) HR.out (by omega)
    · obtain rfl : i = 16 := by omega
      have HR1 := Aside0.mk (row_eq HR.out (f' := fun j => f j + g j) (fun j hj => if_pos hj))
      clear hb hr hg h0 HR
      go_wp2_with (refine step_load HR1.out Try.underlying33 info33 rfl rfl rfl rfl ?_)
      refine (carry_calls _ _ (fun j hj => by have := HF.out j hj; have := HG.out j hj; omega)).mono ?_
      rintro e w1 ⟨rfl, hb⟩
      have HR4 := Aside0.mk (HR3.out.below hb (by omega))
      have HB4 := Aside0.mk (HB.out.trans (hb.mono (by omega)))
      have hlt4 := HR4.out.lt
      clear hb
      go_wp2_with (refine step_store _ HR4.out info33 rfl rfl rfl rfl rfl ?_)
      refine bodyPost_ret (row_results rfl (HR4.out.all) rfl Try.underlying33 rfl info33) rfl ?_
      exact ⟨rfl, bel_setCells (by omega) _ _ _ HB4.out⟩
def subRRel (f g : Nat → Int) (w : World) (v5 : Value) (wr : World) : Prop :=
  ∃ (i : Nat), i ≤ 16 ∧ v5 = .int .i64 (i : Int) ∧ Below w.heap.size w wr ∧ Row wr w.heap.size .i64 16 (fun j => if j < i then f j - g j else f j) 33 ∧ Row wr (w.heap.size + 1) .i64 16 g 33 ∧ Row wr (w.heap.size + 1 + 1) .i64 16 (fun _ => 0) 33
theorem subR_calls (f g : Nat → Int) (w : World) (hf : CB0 f) (hg : CB0 g) :
    Calls Try.prog 23 #[.agg (FR .i64 16 f), .agg (FR .i64 16 g)] w fun e w' => e = .returned (.agg (FR .i64 16 (carryN (fun i => f i - g i) 16))) ∧ Below w.heap.size w w' := by
  have HF := Aside0.mk hf
  have HG := Aside0.mk hg
  clear hf hg
  go_enter Try.func23, Try.ntmps23
  go_wp2_with fail
  go_loopw [5] (fun v5 wr => subRRel f g w v5 wr) (fun v _ => 16 - (intOf v).toNat)
  case atStart => exact ⟨0, by omega, rfl, bel_three w _ _ _, ((Row.new w .i64 16 f 33).alloc _).alloc _, Row.alloc (heap_alloc2_new w _ _) _, three_new w _ _ _⟩
  case round =>
    obtain ⟨i, hi, rfl, hb, hr, hg, h0⟩ := hrel
    have HB := Aside0.mk hb
    have HR := Aside0.mk hr
    have HR2 := Aside0.mk hg
    have HR3 := Aside0.mk h0
    have hlt1 := hr.lt
    have hlt2 := hg.lt
    have hlt3 := h0.lt
    rcases Nat.lt_or_ge i 16 with h15 | h15
    · have hlt : ((i : Int) < 16) = True := eq_true (by omega)
      have f0 := hr.fro i
      have k0 := hr.cell i (by omega)
      have e0 : (if i < i then f i - g i else f i) = f i := if_neg (by omega)
      have k1 := hg.cell i (by omega)
      rw [e0] at k0
      have b0 := HF.out i (by omega)
      have b1 := HG.out i (by omega)
      have w0 : wrap64 (f i - g i) = f i - g i := w64 _ (by omega)
      clear hb hr hg h0 e0 b0 b1
      go_wp2_with fail
      go_region
      all_goals go_wp2_with fail
      refine ⟨⟨i + 1, by omega, rfl, (bel_set HB.out _ _ (by simp)).drew, ?_, HR2.out.other _ _ (show w.heap.size + 1 ≠ w.heap.size by omega), HR3.out.other _ _ (show w.heap.size + 1 + 1 ≠ w.heap.size by omega)⟩, meas_up 16 i (by omega)⟩
      exact part_step (F := fun j => f j - g j) (a := ⟨0, 0, none⟩) HR.out (by omega)
    · obtain rfl : i = 16 := by omega
      have HR1 := Aside0.mk (row_eq HR.out (f' := fun j => f j - g j) (fun j hj => if_pos hj))
      clear hb hr hg h0 HR
      go_wp2_with (refine step_load HR1.out Try.underlying33 info33 rfl rfl rfl rfl ?_)
      refine (carry_calls _ _ (fun j hj => by have := HF.out j hj; have := HG.out j hj; omega)).mono ?_
      rintro e w1 ⟨rfl, hb⟩
      have HR4 := Aside0.mk (HR3.out.below hb (by omega))
      have HB4 := Aside0.mk (HB.out.trans (hb.mono (by omega)))
      have hlt4 := HR4.out.lt
      clear hb
      go_wp2_with (refine step_store _ HR4.out info33 rfl rfl rfl rfl rfl ?_)
      refine bodyPost_ret (row_results rfl (HR4.out.all) rfl Try.underlying33 rfl info33) rfl ?_
      exact ⟨rfl, bel_setCells (by omega) _ _ _ HB4.out⟩
end Go.Proofs.Ythonoagpiofojaa.P
