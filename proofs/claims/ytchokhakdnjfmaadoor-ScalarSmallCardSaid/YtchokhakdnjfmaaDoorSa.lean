/- scalar.num's less and minus, by their walks. -/
import Derived.Test.YtchokhakdnjfmaaDoorBas
namespace Go.Proofs.YtchokhakdnjfmaaDoor.P
set_option linter.unusedVariables false
set_option linter.unusedSimpArgs false
open Go.RowKit Go.Proofs.YtchokhakdnjfmaaDoorW.PrintWords Go.Proofs.YtchokhakdnjfmaaDoorW.PrintLast Go.Proofs.YtchokhakdnjfmaaDoorW.PrintMore
attribute [local go_sem] setCell_drewN
theorem infoNum : (Tryd.prog.info? 41).map (·.size) = some 5 := by kernel_rfl
/-- Below, digit by digit, the highest of n first. -/
def lexN (f g : Nat → Int) : Nat → Bool
  | 0 => false
  | j + 1 => if f j = g j then lexN f g j else decide (f j < g j)
theorem lexN_val (B : Int) (hB : 0 < B) (f g : Nat → Int) : ∀ n, (∀ j, j < n → 0 ≤ f j ∧ f j < B) → (∀ j, j < n → 0 ≤ g j ∧ g j < B) → lexN f g n = decide (val B f n < val B g n)
  | 0, _, _ => by simp [lexN, val]
  | n + 1, hf, hg => by
    have ih := lexN_val B hB f g n (fun j hj => hf j (by omega)) (fun j hj => hg j (by omega))
    have b1 := val_b B hB f n (fun j hj => hf j (by omega))
    have b2 := val_b B hB g n (fun j hj => hg j (by omega))
    have hp := pow_pos' B hB n
    rw [lexN, val, val]
    by_cases he : f n = g n
    · rw [if_pos he, ih, he]
      congr 1
      apply propext
      omega
    · rw [if_neg he]
      congr 1
      apply propext
      constructor
      · intro hl
        have : (f n + 1) * B ^ n ≤ g n * B ^ n := Int.mul_le_mul_of_nonneg_right (by omega) (by omega)
        have e : (f n + 1) * B ^ n = f n * B ^ n + B ^ n := by rw [Int.add_mul, Int.one_mul]
        omega
      · intro hl
        rcases Int.lt_or_gt_of_ne he with hlt | hgt
        · exact hlt
        · exfalso
          have : (g n + 1) * B ^ n ≤ f n * B ^ n := Int.mul_le_mul_of_nonneg_right (by omega) (by omega)
          have e : (g n + 1) * B ^ n = g n * B ^ n + B ^ n := by rw [Int.add_mul, Int.one_mul]
          omega
def LessRel (f g : Nat → Int) (w : World) (v5 : Value) (wr : World) : Prop :=
  ∃ (i : Nat), i ≤ 5 ∧ v5 = .int .i64 ((i : Int) - 1) ∧ lexN f g i = lexN f g 5 ∧ Below w.heap.size w wr ∧ Row wr w.heap.size .u64 5 f 41 ∧ Row wr (w.heap.size + 1) .u64 5 g 41
theorem less_calls (f g : Nat → Int) (w : World) :
    Calls Tryd.prog 25 #[.agg (FR .u64 5 f), .agg (FR .u64 5 g)] w fun e w' => e = .returned (.bool (lexN f g 5)) ∧ Below w.heap.size w w' := by
  go_enter Tryd.func25, Tryd.ntmps25
  go_wp2_with fail
  have HB0 := Aside0.mk (bel_two w (.cells (FR .u64 5 f) 41) (.cells (FR .u64 5 g) 41))
  have HF0 := Aside0.mk ((Row.new w .u64 5 f 41).alloc (.cells (FR .u64 5 g) 41))
  have HG0 := Aside0.mk (Row.new (w.alloc (.cells (FR .u64 5 f) 41)) .u64 5 g 41)
  have hz : (w.alloc (.cells (FR .u64 5 f) 41)).heap.size = w.heap.size + 1 := by simp
  go_loopw [5, 4] (fun v5 v4 wr => v4 = .bool false ∧ LessRel f g w v5 wr) (fun v _ _ => ((intOf v) + 1).toNat)
  case atStart => exact ⟨rfl, 5, by omega, rfl, rfl, HB0.out, HF0.out, by rw [← hz]; exact HG0.out⟩
  case round =>
    obtain ⟨rfl, i, hi, rfl, he, hb, hr, hp⟩ := hrel
    have HB3 := Aside0.mk hb
    have HE := Aside0.mk he
    have HR3 := Aside0.mk hr
    have HP3 := Aside0.mk hp
    clear hz HB0 HF0 HG0
    rcases Nat.lt_or_ge 0 i with h15 | h15
    · obtain ⟨j, rfl⟩ : ∃ j, i = j + 1 := ⟨i - 1, by omega⟩
      have e1 : ((j + 1 : Nat) : Int) - 1 = (j : Int) := by omega
      rw [e1]
      have hge : ((j : Int) ≥ 0) = True := eq_true (by omega)
      have hlt : ((j : Int) < 5) = True := eq_true (by omega)
      have k0 := hr.cell j (by omega)
      have k1 := hp.cell j (by omega)
      clear hb hr hp he
      by_cases hq : f j = g j
      · have HQ := Aside0.mk hq
        have hd : (f j != g j) = false := by simp [hq]
        have hd2 : (f j = g j) = True := eq_true hq
        clear hq
        go_wp2_with fail
        go_region
        all_goals go_wp2_with fail
        refine ⟨⟨rfl, j, by omega, rfl, ?_, HB3.out.drew, HR3.out, HP3.out⟩, by simp only [intOf]; omega⟩
        rw [← HE.out]; show _ = if f j = g j then lexN f g j else _
        rw [if_pos HQ.out]
      · have HQ := Aside0.mk hq
        have hd : (f j != g j) = true := by simp [hq]
        have hd2 : (f j = g j) = False := eq_false hq
        clear hq
        go_wp2_with fail
        go_region
        all_goals go_wp2_with fail
        go_region
        all_goals go_wp2_with fail
        go_ret
        refine ⟨?_, HB3.out.drew.drew⟩
        rw [← HE.out]; show _ = Ending.returned (Value.bool (if f j = g j then lexN f g j else _))
        rw [if_neg HQ.out]; rfl
    · obtain rfl : i = 0 := by omega
      clear hb hr hp he
      go_wp2_with fail
      go_ret
      refine ⟨?_, HB3.out⟩
      rw [← HE.out]; rfl
end Go.Proofs.YtchokhakdnjfmaaDoor.P
