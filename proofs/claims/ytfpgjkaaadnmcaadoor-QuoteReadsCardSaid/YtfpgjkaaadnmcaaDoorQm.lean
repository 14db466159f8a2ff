/- The law QuoteTakes, by its walk; the law's alive. -/
import Derived.Test.YtfpgjkaaadnmcaaDoorQl
namespace Go.Proofs.YtfpgjkaaadnmcaaDoor.P
set_option linter.unusedVariables false
set_option linter.unusedSimpArgs false
open Go.RowKit Go.Proofs.YtfpgjkaaadnmcaaDoorW.PrintWords Go.Proofs.YtfpgjkaaadnmcaaDoorW.PrintLast Go.Proofs.YtfpgjkaaadnmcaaDoorW.PrintMore
attribute [local go_sem] setCell_drewN
theorem i64b {x : Int} (h : (Lit.int .i64 x).wf = true) : -9223372036854775808 ≤ x ∧ x ≤ 9223372036854775807 := by
  have e1 : IntKind.i64.min = -9223372036854775808 := by decide
  have e2 : IntKind.i64.max = 9223372036854775807 := by decide
  simp [Lit.wf] at h; omega
theorem beq_same (s : ByteArray) : (s.toList == s.toList) = true := by simp
theorem take_at (s : ByteArray) (i : Int) (a : ByteArray) (b : Int) (c : Bool) (w : World) (hT : QT w) (hs : s.size ≤ 1099511627776) (hi : -9223372036854775808 ≤ i ∧ i ≤ 9223372036854775807) (h : takeA s i = (a, b, c)) :
    Calls Tryd.prog 7 #[.string s, .int .i64 i] w fun e w' => e = .returned (.tuple #[.string a, .int .i64 b, .bool c]) ∧ Below w.heap.size w w' := by
  by_cases h1 : 0 ≤ i ∧ i < s.size ∧ bt s i = 34
  · obtain ⟨n, rfl⟩ : ∃ n : Nat, i = (n : Int) := ⟨i.toNat, by omega⟩
    have hc := take_yes s n w hT hs (by omega) h1.2.2
    unfold TakePost at hc
    rw [h] at hc
    exact hc
  · have hc := take_no s i w (by omega) hi h1
    unfold TakePost at hc
    rw [h] at hc
    exact hc
theorem reftake_at (s : ByteArray) (i : Int) (a : ByteArray) (b : Int) (c : Bool) (w : World) (hs : s.size ≤ 1099511627776) (hi : -9223372036854775808 ≤ i ∧ i ≤ 9223372036854775807) (h : takeA s i = (a, b, c)) :
    Calls Tryd.prog 8 #[.string s, .int .i64 i] w fun e w' => e = .returned (.tuple #[.string a, .int .i64 b, .bool c]) ∧ Below w.heap.size w w' := by
  by_cases h1 : 0 ≤ i ∧ i < s.size ∧ bt s i = 34
  · obtain ⟨n, rfl⟩ : ∃ n : Nat, i = (n : Int) := ⟨i.toNat, by omega⟩
    have hc := reftake_yes s n w hs (by omega) h1.2.2
    unfold TakePost at hc
    rw [h] at hc
    exact hc
  · have hc := reftake_no s i w (by omega) hi h1
    unfold TakePost at hc
    rw [h] at hc
    exact hc
theorem put_at (s : ByteArray) (a : ByteArray) (c : Bool) (w : World) (hs : s.size ≤ 16777216) (h : putS s = (a, c)) :
    Calls Tryd.prog 10 #[.string s] w fun e w' => e = .returned (.tuple #[.string a, .bool c]) ∧ Below w.heap.size w w' := by
  have hc := put_walk s w hs
  unfold PutPost at hc
  rw [h] at hc
  exact hc
set_option maxRecDepth 100000 in
theorem take_lit : takeA ⟨#[34, 97, 34]⟩ 0 = (⟨#[97]⟩, 3, true) := by decide +kernel
set_option maxRecDepth 100000 in
theorem put_lit : putS ⟨#[97, 34, 98, 1, 195, 169]⟩ = (⟨#[34, 97, 92, 34, 98, 92, 117, 48, 48, 48, 49, 195, 169, 34]⟩, true) := by decide +kernel
set_option maxRecDepth 100000 in
theorem take_lit2 : takeA ⟨#[34, 92, 117, 100, 56, 51, 100, 92, 117, 100, 101, 48, 48, 34]⟩ 0 = (⟨#[240, 159, 152, 128]⟩, 14, true) := by decide +kernel
theorem alive_calls (w : World) (hT : QT w) : Calls Tryd.prog 9 #[] w fun e w' => e = .returned (.bool true) ∧ Below w.heap.size w w' := by
  have HQ := Aside0.mk hT
  clear hT
  go_enter Tryd.func9, Tryd.ntmps9
  go_wp2_with fail
  refine (put_at _ _ _ _ (by decide) put_lit).mono ?_
  rintro e w1 ⟨rfl, hb⟩
  have HB1 := Aside0.mk hb
  have HQ1 := Aside0.mk (HQ.out.below hb)
  clear hb
  go_wp2_with fail
  refine (take_at _ _ _ _ _ _ HQ1.out (by decide) (by omega) take_lit2).mono ?_
  rintro e w2 ⟨rfl, hb⟩
  have HB2 := Aside0.mk (HB1.out.trans (hb.mono HB1.out.size))
  clear hb
  go_wp2_with fail
  go_ret
  exact ⟨rfl, HB2.out⟩
set_option maxRecDepth 100000 in
theorem QuoteTakes_walk (a0 : ByteArray) (a1 : Int) (w : World) (hT : QT w) (w0 : a0.size ≤ 140737488351232) (w1 : (Lit.int .i64 a1).wf = true) :
    Calls Tryd.prog 3 #[.string a0, .int .i64 a1] w fun e w' => e = .returned (.bool true) ∧ Below w.heap.size w w' := by
  have HQ := Aside0.mk hT
  have hb1 : -9223372036854775808 ≤ a1 ∧ a1 ≤ 9223372036854775807 := by
    exact i64b w1
  clear hT w1
  by_cases hlong : 16384 < a0.size
  · have k1 : ((a0.size : Int) > 16384) = True := eq_true (by omega)
    have k2 : ((16384 : Int) < (a0.size : Int)) = True := eq_true (by omega)
    go_enter Tryd.func3, Tryd.ntmps3
    go_wp2_with fail
    refine (take_at _ _ _ _ _ _ HQ.out (by decide) (by omega) take_lit).mono ?_
    rintro e w2 ⟨rfl, hb⟩
    have HB2 := Aside0.mk hb
    clear hb
    go_wp2_with fail
    go_ret
    exact ⟨rfl, HB2.out⟩
  · have k1 : ((a0.size : Int) > 16384) = False := eq_false (by omega)
    have k2 : ((16384 : Int) < (a0.size : Int)) = False := eq_false (by omega)
    obtain ⟨a, b, c, h⟩ : ∃ a b c, takeA a0 a1 = (a, b, c) := ⟨_, _, _, rfl⟩
    have H := Aside0.mk h
    have HS : Aside0 (a0.size ≤ 1099511627776) := ⟨by omega⟩
    have hbs := beq_same a
    clear h
    go_enter Tryd.func3, Tryd.ntmps3
    go_wp2_with fail
    refine (take_at _ _ _ _ _ _ HQ.out (by decide) (by omega) take_lit).mono ?_
    rintro e w2 ⟨rfl, hb⟩
    have HB2 := Aside0.mk hb
    have HQ2 := Aside0.mk (HQ.out.below hb)
    clear hb
    go_wp2_with fail
    refine (take_at _ _ _ _ _ _ HQ2.out HS.out hb1 H.out).mono ?_
    rintro e w3 ⟨rfl, hb⟩
    have HB3 := Aside0.mk (HB2.out.trans (hb.mono HB2.out.size))
    clear hb
    go_wp2_with fail
    refine (reftake_at _ _ _ _ _ _ HS.out hb1 H.out).mono ?_
    rintro e w4 ⟨rfl, hb⟩
    have HB4 := Aside0.mk (HB3.out.trans (hb.mono HB3.out.size))
    clear hb
    go_wp2_with fail
    go_ret
    exact ⟨rfl, HB4.out⟩
end Go.Proofs.YtfpgjkaaadnmcaaDoor.P
