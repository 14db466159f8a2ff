/- The document's L, below and Rest (layer 5), by their walks. -/
import Derived.Test.YtchokhakdnjfmaaDoorSh
namespace Go.Proofs.YtchokhakdnjfmaaDoor.P
set_option linter.unusedVariables false
set_option linter.unusedSimpArgs false
open Go.RowKit Go.Proofs.YtchokhakdnjfmaaDoorW.PrintWords Go.Proofs.YtchokhakdnjfmaaDoorW.PrintLast Go.Proofs.YtchokhakdnjfmaaDoorW.PrintMore
attribute [local go_sem] setCell_drewN
theorem info33 : (Tryd.prog.info? 46).map (·.size) = some 33 := by kernel_rfl
/-- The order's bytes. -/
def lList : List Int := [237, 211, 245, 92, 26, 99, 18, 88, 214, 156, 247, 162, 222, 249, 222, 20, 0, 0, 0, 0, 0, 0, 0, 0, 0, 0, 0, 0, 0, 0, 0, 16, 0]
def lD (j : Nat) : Int := lList.getD j 0
theorem lD_b (j : Nat) : 0 ≤ lD j ∧ lD j < 256 := by
  by_cases h : j < 33
  · have : ∀ j, j < 33 → 0 ≤ lD j ∧ lD j < 256 := by decide +kernel
    exact this j h
  · have e : lD j = 0 := by unfold lD; rw [List.getD_eq_getElem?_getD, List.getElem?_eq_none (by show 33 ≤ j; omega)]; rfl
    omega
theorem lD_val : val 256 lD 33 = LL := by decide +kernel
theorem lD_row : (#[.int .i64 237, .int .i64 211, .int .i64 245, .int .i64 92, .int .i64 26, .int .i64 99, .int .i64 18, .int .i64 88, .int .i64 214, .int .i64 156, .int .i64 247, .int .i64 162, .int .i64 222, .int .i64 249, .int .i64 222, .int .i64 20, .int .i64 0, .int .i64 0, .int .i64 0, .int .i64 0, .int .i64 0, .int .i64 0, .int .i64 0, .int .i64 0, .int .i64 0, .int .i64 0, .int .i64 0, .int .i64 0, .int .i64 0, .int .i64 0, .int .i64 0, .int .i64 16, .int .i64 0] : Array Value) = FR .i64 33 lD := by kernel_rfl
theorem L_calls (w : World) : Calls Tryd.prog 21 #[] w fun e w' => e = .returned (.agg (FR .i64 33 lD)) ∧ Below w.heap.size w w' := by
  have HN := Aside0.mk (Row.new w .i64 33 (fun _ => 0) 46)
  have HB := Aside0.mk ((Below.refl w.heap.size w).alloc (Nat.le_refl _) (.cells (FR .i64 33 fun _ => 0) 46))
  go_enter Tryd.func21, Tryd.ntmps21
  go_wp2_with (refine step_storeG lD HN.out info33 rfl rfl rfl rfl (congrArg Value.agg lD_row) ?_; intro w3 hs hr; have HS := Aside0.mk hs; have HR := Aside0.mk hr; clear hs hr)
  refine bodyPost_ret (row_results rfl HR.out rfl Tryd.underlying46 rfl info33) rfl ?_
  exact ⟨rfl, HS.out.bel _ _ (Nat.le_refl _) HB.out⟩
def BelRel (f : Nat → Int) (w : World) (v4 : Value) (gp : Nat) (wr : World) : Prop :=
  ∃ (i : Nat), i ≤ 33 ∧ v4 = .int .i64 ((i : Int) - 1) ∧ lexN f lD i = lexN f lD 33 ∧ Below w.heap.size w wr ∧ Row wr w.heap.size .i64 33 f 46 ∧ Row wr gp .i64 33 lD 46
set_option maxRecDepth 100000 in
theorem below_calls (f : Nat → Int) (w : World) :
    Calls Tryd.prog 22 #[.agg (FR .i64 33 f)] w fun e w' => e = .returned (.bool (lexN f lD 33)) ∧ Below w.heap.size w w' := by
  go_enter Tryd.func22, Tryd.ntmps22
  go_wp2_with fail
  refine (L_calls _).mono ?_
  rintro e w1 ⟨rfl, hb⟩
  have hr := Row.below (Row.new w .i64 33 f 46) hb (by simp)
  have HR := Aside0.mk hr
  have hb2 := (Below.refl w.heap.size w).alloc (Nat.le_refl _) (.cells (FR .i64 33 f) 46)
  have HB := Aside0.mk (hb2.trans (hb.mono (by simp)))
  have hlt := hr.lt
  clear hb hb2 hr
  have HN := Aside0.mk (Row.new w1 .i64 33 (fun _ => 0) 46)
  go_wp2_with (refine step_store lD HN.out info33 rfl rfl rfl rfl rfl ?_)
  have HB2 := Aside0.mk (bel_setCells (show w.heap.size ≤ w1.heap.size by omega) (FR .i64 33 lD).toList 0 _ (HB.out.alloc (by omega) (.cells (FR .i64 33 fun _ => 0) 46)))
  have HR2 := Aside0.mk ((HR.out.alloc (.cells (FR .i64 33 fun _ => 0) 46)).cells_other (FR .i64 33 lD).toList (show w.heap.size ≠ w1.heap.size by omega))
  have HP := Aside0.mk (HN.out.all (f' := lD))
  go_loopw [4, 2] (fun v4 v2 wr => v2 = .bool false ∧ BelRel f w v4 w1.heap.size wr) (fun v _ _ => ((intOf v) + 1).toNat)
  case atStart => exact ⟨rfl, 33, by omega, rfl, rfl, HB2.out, HR2.out, HP.out⟩
  case round =>
    obtain ⟨rfl, i, hi, rfl, he, hb, hr, hp⟩ := hrel
    have HB3 := Aside0.mk hb
    have HE := Aside0.mk he
    have HR3 := Aside0.mk hr
    have HP3 := Aside0.mk hp
    clear HN HB2 HR2 HP HR HB
    rcases Nat.lt_or_ge 0 i with h15 | h15
    · obtain ⟨j, rfl⟩ : ∃ j, i = j + 1 := ⟨i - 1, by omega⟩
      have e1 : ((j + 1 : Nat) : Int) - 1 = (j : Int) := by omega
      rw [e1]
      have hge : ((j : Int) ≥ 0) = True := eq_true (by omega)
      have hlt : ((j : Int) < 33) = True := eq_true (by omega)
      have k0 := hr.cell j (by omega)
      have k1 := hp.cell j (by omega)
      clear hb hr hp he
      by_cases hq : f j = lD j
      · have HQ := Aside0.mk hq
        have hd : (f j != lD j) = false := by simp [hq]
        have hd2 : (f j = lD j) = True := eq_true hq
        clear hq
        go_wp2_with fail
        go_region
        all_goals go_wp2_with fail
        refine ⟨⟨rfl, j, by omega, rfl, ?_, HB3.out.drew, HR3.out, HP3.out⟩, by simp only [intOf]; omega⟩
        rw [← HE.out]; show _ = if f j = lD j then lexN f lD j else _
        rw [if_pos HQ.out]
      · have HQ := Aside0.mk hq
        have hd : (f j != lD j) = true := by simp [hq]
        have hd2 : (f j = lD j) = False := eq_false hq
        clear hq
        go_wp2_with fail
        go_region
        all_goals go_wp2_with fail
        go_region
        all_goals go_wp2_with fail
        go_ret
        refine ⟨?_, HB3.out.drew.drew⟩
        rw [← HE.out]; show _ = Ending.returned (Value.bool (if f j = lD j then lexN f lD j else _))
        rw [if_neg HQ.out]; rfl
    · obtain rfl : i = 0 := by omega
      clear hb hr hp he
      go_wp2_with fail
      go_ret
      refine ⟨?_, HB3.out⟩
      rw [← HE.out]; rfl
/-- n bytes as a string. -/
def sN (n : Nat) (z : Nat → Int) : ByteArray := strOfNums ((List.range n).map z)
theorem OwnB.str {w : World} {base n : Nat} {v : Value} {z : Nat → Int} (h : OwnB w base v n z) : (convert 22 9 v).run Tryd.prog w = .ok (.string (sN n z)) w := by
  refine own_string Tryd.underlying22 Tryd.underlying5 Tryd.underlying9 (base := base) (e' := 5) (n := n) ?_
  have e : nums .u8 ((List.range n).map z) = (List.range n).map fun j => Value.int .u8 (z j) := by simp [nums]
  rw [e]; exact h
theorem OwnB.nil (w : World) (base : Nat) (z : Nat → Int) : OwnB w base (.slice none 0 0) 0 z := World.ownsRow_nil w base _ 1
theorem OwnB.congr {w : World} {base n : Nat} {v : Value} {z z' : Nat → Int} (h : OwnB w base v n z) (e : ∀ j, j < n → z j = z' j) : OwnB w base v n z' := by
  have e2 : ((List.range n).map fun j => Value.int .u8 (z j)) = (List.range n).map fun j => Value.int .u8 (z' j) := by
    apply List.map_congr_left; intro j hj; rw [e j (List.mem_range.1 hj)]
  unfold OwnB at *; rw [← e2]; exact h
end Go.Proofs.YtchokhakdnjfmaaDoor.P
