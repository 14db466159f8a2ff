/- Merged of the texts: G11, Xb, Xc, Wp, Xd, Wh, Wk, G12, Xe, Xg, Xh, Xi, Xj, Wq, Wj, Xm, Xo, G22, Xp, Xl (trim.py). -/
import Derived.Shelf.Abstract
import Derived.ChangeArms
import Derived.ChangeShapes
import Derived.Lib.SmallJoins
import Derived.DataReads
import Derived.Deep.Slices
import Derived.SizedLaws
import Derived.Test.YtdleomeiojlooaaYd2
section
namespace Go.Proofs.Ytdleomeiojlooaa.P
open Go.RowKit Go.Proofs.YtdleomeiojlooaaW.PrintWords Go.Proofs.YtdleomeiojlooaaW.PrintLast Go.Proofs.YtdleomeiojlooaaW.PrintMore
set_option linter.unusedVariables false
set_option linter.unusedSimpArgs false
def hustingsref19_Records.l0 : Nat → ByteArray → List ByteArray → Int → Int → Option (List ByteArray × Int × Bool)
  | 0, _, _, _, _ => none
  | k + 1, x0, x5, x6, x7 => if x7 < (x0.size : Int) then (if 0 ≤ x7 then (if (bt x0 x7) = 10 then (if 0 ≤ x6 then (if x6 ≤ x7 then (if x7 ≤ (x0.size : Int) then ((hustingsref01_Decode.f k (x0.extract (x6 : Int).toNat (x7 : Int).toNat) true).bind fun bt11001 => (if bt11001.2 = true then (if x5.length < 8796093022208 then (hustingsref19_Records.l0 k x0 (x5 ++ [strOfNums bt11001.1]) (wrap64 (x7 + 1)) (wrap64 (x7 + 1))) else (none)) else (some (([] : List ByteArray), 0, false)))) else (none)) else (none)) else (none)) else (hustingsref19_Records.l0 k x0 x5 x6 (wrap64 (x7 + 1)))) else (none)) else (some (x5, x6, true))
def hustingsref19_Records.f (k : Nat) (a0 : ByteArray) : Option (List ByteArray × Int × Bool) := hustingsref19_Records.l0 k a0 ([] : List ByteArray) 0 0
theorem hustingsref19_Records.mono_l : ∀ k, (∀ y0 y1 y2 y3, LeO (hustingsref19_Records.l0 k y0 y1 y2 y3) (hustingsref19_Records.l0 (k + 1) y0 y1 y2 y3))
  | 0 => fun _ _ _ _ r h => by simp [hustingsref19_Records.l0] at h
  | k + 1 => by
    have ih0 := hustingsref19_Records.mono_l k
    · intro y0 y1 y2 y3
      unfold hustingsref19_Records.l0
      repeat' first
      | (with_reducible exact ih0 _ _ _ _)
      | (with_reducible exact hustingsref01_Decode.mono _ _ _)
      | (with_reducible exact LeO.refl _)
      | (with_reducible exact LeO.none _)
      | (with_reducible refine LeO.ite ?_ ?_)
      | (with_reducible refine LeO.bind ?_ (fun _ => ?_))
      | exact ih0 _ _ _ _
      | exact hustingsref01_Decode.mono _ _ _
      | exact LeO.none _
      | refine LeO.ite ?_ ?_
      | refine LeO.bind ?_ (fun _ => ?_)
theorem hustingsref19_Records.mono : ∀ a0 k, LeO (hustingsref19_Records.f k a0) (hustingsref19_Records.f (k + 1) a0) := by
  intro a0 k
  have ih0 := hustingsref19_Records.mono_l k
  unfold hustingsref19_Records.f
  repeat' first
      | (with_reducible exact ih0 _ _ _ _)
      | (with_reducible exact hustingsref01_Decode.mono _ _ _)
      | (with_reducible exact LeO.refl _)
      | (with_reducible exact LeO.none _)
      | (with_reducible refine LeO.ite ?_ ?_)
      | (with_reducible refine LeO.bind ?_ (fun _ => ?_))
      | exact ih0 _ _ _ _
      | exact hustingsref01_Decode.mono _ _ _
      | exact LeO.none _
      | refine LeO.ite ?_ ?_
      | refine LeO.bind ?_ (fun _ => ?_)
set_option maxHeartbeats 8000000 in
set_option maxRecDepth 100000 in
theorem hustingsref19_Records.calls (k : Nat) (a0 : ByteArray) (r1 : List ByteArray) (r2 : Int) (r3 : Bool) (w : World) (h : hustingsref19_Records.f k a0 = some (r1, r2, r3)) :
    Calls Try.prog 11 #[.string a0] w fun e w' => ∃ v0_ : Value, e = .returned (.tuple #[v0_, .int .i64 r2, .bool r3]) ∧ Kd.R Kd.string 9 w' w.heap.size (fun _ => True) v0_ r1 ∧ Below w.heap.size w w' := by
  have HB := Aside0.mk (Below.refl w.heap.size w)
  have H : (hustingsref19_Records.l0 k a0 ([] : List ByteArray) 0 0) = some (r1, r2, r3) := h
  clear h
  have H' := Aside0.mk H
  clear H
  go_enter Try.func11, Try.ntmps11
  go_wp2
  go_loopg [5, 6, 7] k (fun kq v5 v6 v7 w' => ∃ (x5_1 : List ByteArray) (x6_1 : Int) (x7_1 : Int), v6 = .int .i64 x6_1 ∧ v7 = .int .i64 x7_1 ∧ Aside0 (hustingsref19_Records.l0 kq a0 x5_1 x6_1 x7_1 = some (r1, r2, r3)) ∧ Aside0 (kq ≤ k) ∧ Aside0 (Kd.R Kd.string 9 w' w.heap.size (fun _ => True) v5 x5_1) ∧ Aside0 (Below w.heap.size w w'))
  case atStart => exact ⟨(([] : List ByteArray)), (0), (0), (by first | rfl | (simp; done) | (simp [*]; done)), (by first | rfl | (simp; done) | (simp [*]; done)), H', ⟨Nat.le_refl _⟩, ⟨by first | exact Kd.R_nil _ _ _ _ _ | exact Kd.N_nil _ _ _ _ _ | exact Kd.V_nil _ _ _ _ _ | exact Kd.Q_nil _ _ _ _ _ | exact Kd.S_nil _ _ _ _ _⟩, ⟨by repeat (first | (with_reducible first | exact HB.out | apply below_alloc | apply pw_below_drewN | apply below_drew1) | exact HB.out)⟩⟩
  case round =>
    clear H'
    try clear c1
    obtain ⟨x5_1, x6_1, x7_1, rfl, rfl, HA, HK1, HO_5, HB⟩ := hrel
    cases gk with
    | zero => exact absurd HA.out (by simp [hustingsref19_Records.l0])
    | succ k1 =>
      have H := HA.out
      clear HA
      simp only [hustingsref19_Records.l0] at H
      by_cases c2 : x7_1 < (a0.size : Int)
      · rw [if_pos c2] at H
        have c2b0 : decide (x7_1 < (a0.size : Int)) = true := decide_eq_true c2
        clear c2
        by_cases c3 : 0 ≤ x7_1
        · rw [if_pos c3] at H
          have c3b0 : decide (0 ≤ x7_1) = true := decide_eq_true c3
          clear c3
          by_cases c5 : (bt a0 x7_1) = 10
          · rw [if_pos c5] at H
            have c5b0 : ((bt a0 x7_1) == 10) = true := beq_iff_eq.mpr c5
            have c5b1 : ((bt a0 x7_1) != 10) = false := bne_eq_false_iff_eq.mpr c5
            clear c5
            by_cases c6 : 0 ≤ x6_1
            · rw [if_pos c6] at H
              have c6b0 := eq_true c6
              have c6b1 : decide (0 ≤ x6_1) = true := decide_eq_true c6
              clear c6
              by_cases c7 : x6_1 ≤ x7_1
              · rw [if_pos c7] at H
                have c7b0 := eq_true c7
                have c7b1 : decide (x6_1 ≤ x7_1) = true := decide_eq_true c7
                clear c7
                by_cases c8 : x7_1 ≤ (a0.size : Int)
                · rw [if_pos c8] at H
                  have c8b0 := eq_true c8
                  have c8b1 : decide (x7_1 ≤ (a0.size : Int)) = true := decide_eq_true c8
                  clear c8
                  replace H := Option.bind_eq_some_iff.mp H
                  obtain ⟨⟨t11001, t11002⟩, A90, H⟩ := H
                  replace H : (if t11002 = true then (if x5_1.length < 8796093022208 then (hustingsref19_Records.l0 k1 a0 (x5_1 ++ [strOfNums t11001]) (wrap64 (x7_1 + 1)) (wrap64 (x7_1 + 1))) else (none)) else (some (([] : List ByteArray), 0, false))) = some (r1, r2, r3) := H
                  have A9 := Aside0.mk A90
                  clear A90
                  by_cases c10 : t11002 = true
                  · subst c10
                    have H1 : (if x5_1.length < 8796093022208 then (hustingsref19_Records.l0 k1 a0 (x5_1 ++ [strOfNums t11001]) (wrap64 (x7_1 + 1)) (wrap64 (x7_1 + 1))) else (none)) = some (r1, r2, r3) := by rw [if_pos rfl] at H; exact H
                    clear H
                    have H := H1
                    clear H1
                    by_cases c11 : x5_1.length < 8796093022208
                    · rw [if_pos c11] at H
                      have LMc11 := Aside0.mk c11
                      clear c11
                      obtain ⟨y11005, hy11005⟩ : ∃ y_ : List ByteArray, y_ = (x5_1 ++ [strOfNums t11001]) := ⟨_, rfl⟩
                      replace H : (hustingsref19_Records.l0 k1 a0 y11005 (wrap64 (x7_1 + 1)) (wrap64 (x7_1 + 1))) = some (r1, r2, r3) := by first | (rw [hy11005]; with_reducible exact H) | (have H2_ := (Option.bind_some _ _).symm.trans H; rw [hy11005]; with_reducible exact H2_) | (have H2_ := (Option.bind_some _ _).symm.trans H; with_reducible exact H2_) | with_reducible exact H | (rw [hy11005]; exact H) | exact H
                      have Ny11005 := Aside0.mk hy11005
                      clear hy11005
                      have H' := Aside0.mk H
                      clear H
                      have p4 : 0 ≤ (x7_1 : Int) := of_decide_eq_true (by first | (with_reducible assumption) | assumption)
                      have q4 : x7_1 < (a0.size : Int) := of_decide_eq_true (by first | (with_reducible assumption) | assumption)
                      have hx4 := bt_at a0 x7_1
                      replace p4 := eq_true p4
                      replace q4 := eq_true q4
                      go_wp2_with (first | ((with_reducible refine gate_callee (f := 34) rfl ?_); refine goesL_ (some 25) rfl rfl Try.func34 (by kernel_rfl) rfl #[.string (a0.extract (x6_1 : Int).toNat (x7_1 : Int).toNat), .bool true] rfl (by (try simp only [List.map_toArray, List.map_cons, List.map_nil]); first | done | rfl | (simp only [List.length_drop, List.length_take]; rfl)) ?_; (with_reducible refine (hustingsref01_Decode.calls k1 (a0.extract (x6_1 : Int).toNat (x7_1 : Int).toNat) true t11001 true _ A9.out).mono ?_); rintro e w12 ⟨v11003, rfl, ho0, hb⟩; refine ⟨_, rfl, ?_⟩; have n0_ := Aside0.mk (Kd.R_below (by (with_reducible repeat (first | apply Kd.R_alloc | apply Kd.R_drewN | apply Kd.R_drew)); exact HO_5.out) hb); have n1_ := Aside0.mk (Kd.R_lower ho0 (below_size (by repeat (first | (with_reducible first | exact HB.out | apply below_alloc | apply pw_below_drewN | apply below_drew1) | exact HB.out)))); have n2_ := Aside0.mk (below_step (by repeat (first | (with_reducible first | exact HB.out | apply below_alloc | apply pw_below_drewN | apply below_drew1) | exact HB.out)) hb); clear HO_5; clear HB; have HO_5 := n0_; have HO11004 := n1_; have HB := n2_; clear n0_ n1_ n2_; (try clear hb); (try clear hb2); (try clear hk); (try clear hi); (try clear ho0); have hcv13 := own_string (P := Try.prog) Try.underlying58 Try.underlying5 Try.underlying9 (Kd.own_of_R HO11004.out)) | ((with_reducible refine gate_builtin (b := .append) (xs := #[.tmp 30, .tmp 33]) rfl ?_); at_builtin; refine Kd.R_append Kd.string (w0 := w) w.heap.size rfl (.tmp 30) (.tmp 33) 25 9 (.string ⟨#[]⟩) 16 rfl Try.underlying25 info9 rfl (by decide) (by omega) u5 x5_1 (strOfNums t11001) [.string (strOfNums t11001)] (fun _ => True) (fun _ => False) rfl rfl ?aP (fun _ hk => hk.elim) ?aF ?aO ?aB ?aS ?aL ?_; (case aP => exact rfl); (case aB => exact (by repeat (first | (with_reducible first | exact HB.out | apply below_alloc | apply pw_below_drewN | apply below_drew1) | exact HB.out))); (case aF => exact (fun _ _ => trivial)); (case aO => exact (by (with_reducible repeat (first | apply Kd.R_alloc | apply Kd.R_drewN | apply Kd.R_drew)); exact HO_5.out)); (case aS => exact (below_size (by repeat (first | (with_reducible first | exact HB.out | apply below_alloc | apply pw_below_drewN | apply below_drew1) | exact HB.out)))); (case aL => have := LMc11.out; omega); intro v11006 w14 ho hb hg hat; rw [← Ny11005.out] at ho; have n0_ := Aside0.mk (Kd.R_over' (by (with_reducible repeat (first | apply Kd.R_alloc | apply Kd.R_drewN | apply Kd.R_drew)); exact HO11004.out) (Kd.R_typed (by (with_reducible repeat (first | apply Kd.R_alloc | apply Kd.R_drewN | apply Kd.R_drew)); exact HO_5.out)) (by decide) hg); have n1_ := Aside0.mk (hb); have n2_ := Aside0.mk (ho); clear HO11004; clear HB; clear HO_5; have HO11004 := n0_; have HB := n1_; have HO11007 := n2_; clear n0_ n1_ n2_; clear ho hb hg hat))
                      go_roundg k1
                      case measure => have := HK1.out; omega
                      case rel => exact ⟨(y11005), (wrap64 (x7_1 + 1)), (wrap64 (x7_1 + 1)), (by first | rfl | (simp; done) | (simp [*]; done)), (by first | rfl | (simp; done) | (simp [*]; done)), H', ⟨by have := HK1.out; omega⟩, ⟨by (with_reducible repeat (first | apply Kd.R_alloc | apply Kd.R_drewN | apply Kd.R_drew)); exact HO11007.out⟩, ⟨by repeat (first | (with_reducible first | exact HB.out | apply below_alloc | apply pw_below_drewN | apply below_drew1) | exact HB.out)⟩⟩
                    · rw [if_neg c11] at H
                      exact absurd H (by simp)
                  · replace c10 := Bool.eq_false_iff.mpr c10
                    subst c10
                    have H1 : (some (([] : List ByteArray), 0, false)) = some (r1, r2, r3) := by rw [if_neg (show ¬ (false = true) by decide)] at H; exact H
                    clear H
                    have H := H1
                    clear H1
                    simp only [Option.some.injEq, Prod.mk.injEq] at H
                    obtain ⟨rfl, rfl, rfl⟩ := H
                    have p4 : 0 ≤ (x7_1 : Int) := of_decide_eq_true (by first | (with_reducible assumption) | assumption)
                    have q4 : x7_1 < (a0.size : Int) := of_decide_eq_true (by first | (with_reducible assumption) | assumption)
                    have hx4 := bt_at a0 x7_1
                    replace p4 := eq_true p4
                    replace q4 := eq_true q4
                    go_wp2_with (first | ((with_reducible refine gate_callee (f := 34) rfl ?_); refine goesL_ (some 25) rfl rfl Try.func34 (by kernel_rfl) rfl #[.string (a0.extract (x6_1 : Int).toNat (x7_1 : Int).toNat), .bool true] rfl (by (try simp only [List.map_toArray, List.map_cons, List.map_nil]); first | done | rfl | (simp only [List.length_drop, List.length_take]; rfl)) ?_; (with_reducible refine (hustingsref01_Decode.calls k1 (a0.extract (x6_1 : Int).toNat (x7_1 : Int).toNat) true t11001 false _ A9.out).mono ?_); rintro e w15 ⟨v11003, rfl, ho0, hb⟩; refine ⟨_, rfl, ?_⟩; have n0_ := Aside0.mk (Kd.R_below (by (with_reducible repeat (first | apply Kd.R_alloc | apply Kd.R_drewN | apply Kd.R_drew)); exact HO_5.out) hb); have n1_ := Aside0.mk (Kd.R_lower ho0 (below_size (by repeat (first | (with_reducible first | exact HB.out | apply below_alloc | apply pw_below_drewN | apply below_drew1) | exact HB.out)))); have n2_ := Aside0.mk (below_step (by repeat (first | (with_reducible first | exact HB.out | apply below_alloc | apply pw_below_drewN | apply below_drew1) | exact HB.out)) hb); clear HO_5; clear HB; have HO_5 := n0_; have HO11004 := n1_; have HB := n2_; clear n0_ n1_ n2_; (try clear hb); (try clear hb2); (try clear hk); (try clear hi); (try clear ho0)))
                    go_ret3
                    exact ⟨_, by first | rfl | (simp [errW_none, errW_some] <;> rfl) | (simp [*, errW_none, errW_some] <;> rfl), by first | exact Kd.R_nil _ _ _ _ _ | exact Kd.N_nil _ _ _ _ _ | exact Kd.V_nil _ _ _ _ _ | exact Kd.Q_nil _ _ _ _ _ | exact Kd.S_nil _ _ _ _ _, by repeat (first | (with_reducible first | exact HB.out | apply below_alloc | apply pw_below_drewN | apply below_drew1) | exact HB.out)⟩
                · rw [if_neg c8] at H
                  exact absurd H (by simp)
              · rw [if_neg c7] at H
                exact absurd H (by simp)
            · rw [if_neg c6] at H
              exact absurd H (by simp)
          · rw [if_neg c5] at H
            have c5b0 : ((bt a0 x7_1) == 10) = false := beq_eq_false_iff_ne.mpr c5
            have c5b1 : ((bt a0 x7_1) != 10) = true := bne_iff_ne.mpr c5
            have H' := Aside0.mk H
            clear H
            have p4 : 0 ≤ (x7_1 : Int) := of_decide_eq_true (by first | (with_reducible assumption) | assumption)
            have q4 : x7_1 < (a0.size : Int) := of_decide_eq_true (by first | (with_reducible assumption) | assumption)
            have hx4 := bt_at a0 x7_1
            replace p4 := eq_true p4
            replace q4 := eq_true q4
            go_wp2
            go_roundg k1
            case measure => have := HK1.out; omega
            case rel => exact ⟨(x5_1), (x6_1), (wrap64 (x7_1 + 1)), (by first | rfl | (simp; done) | (simp [*]; done)), (by first | rfl | (simp; done) | (simp [*]; done)), H', ⟨by have := HK1.out; omega⟩, ⟨by (with_reducible repeat (first | apply Kd.R_alloc | apply Kd.R_drewN | apply Kd.R_drew)); exact HO_5.out⟩, ⟨by repeat (first | (with_reducible first | exact HB.out | apply below_alloc | apply pw_below_drewN | apply below_drew1) | exact HB.out)⟩⟩
        · rw [if_neg c3] at H
          exact absurd H (by simp)
      · rw [if_neg c2] at H
        have c2b0 : decide (x7_1 < (a0.size : Int)) = false := decide_eq_false c2
        clear c2
        simp only [Option.some.injEq, Prod.mk.injEq] at H
        obtain ⟨rfl, rfl, rfl⟩ := H
        go_wp2
        go_ret3
        exact ⟨_, by first | rfl | (simp [errW_none, errW_some] <;> rfl) | (simp [*, errW_none, errW_some] <;> rfl), by (with_reducible repeat (first | apply Kd.R_alloc | apply Kd.R_drewN | apply Kd.R_drew)); exact HO_5.out, by repeat (first | (with_reducible first | exact HB.out | apply below_alloc | apply pw_below_drewN | apply below_drew1) | exact HB.out)⟩
end Go.Proofs.Ytdleomeiojlooaa.P
end

section
namespace Go.Proofs.Ytdleomeiojlooaa.P
set_option linter.unusedVariables false
set_option linter.unusedSimpArgs false
open Go.RowKit Go.ChangeShapes Go.WideShapes Go.Proofs.YtdleomeiojlooaaW.PrintWords Go.Proofs.YtdleomeiojlooaaW.PrintLast Go.Proofs.YtdleomeiojlooaaW.PrintMore Go.Proofs.Ytdleomeiojlooaa.L
structure Cuts (al : ByteArray) (ls : List ByteArray) (tl : ByteArray) : Prop where
  eq : al = cat ls ++ tl
  no : ∀ x ∈ ls, NoN x
  tail : NoN tl
theorem bt_bl {s : ByteArray} {i : Nat} {b : UInt8} (h : (bl s)[i]? = some b) : bt s (i : Int) = (b.toNat : Int) := by
  obtain ⟨hi, he⟩ := List.getElem?_eq_some_iff.1 h
  rw [bl_len] at hi
  rw [bt_get s i hi, ← he]
  simp [bl]; rfl
theorem ne10 {b : UInt8} (h : b ≠ 10) : (b.toNat : Int) ≠ 10 := fun e => h (UInt8.toNat_inj.1 (by show b.toNat = 10; omega))
theorem cat_last : ∀ ls : List ByteArray, ls ≠ [] → (bl (cat ls))[(cat ls).size - 1]? = some 10
  | [], h => absurd rfl h
  | [x], _ => by
    rw [bl_cat, cat_size, List.getElem?_append_right (by rw [bl_len]; omega), bl_len]
    show (10 :: bl (cat []))[x.size + 1 + 0 - 1 - x.size]? = some 10
    rw [show x.size + 1 + 0 - 1 - x.size = 0 by omega]; rfl
  | x :: y :: r, _ => by
    have ih := cat_last (y :: r) (by simp)
    have hz := cat_size y r
    rw [bl_cat, cat_size, List.getElem?_append_right (by rw [bl_len]; omega), bl_len, show x.size + 1 + (cat (y :: r)).size - 1 - x.size = ((cat (y :: r)).size - 1) + 1 by omega, List.getElem?_cons_succ]
    exact ih
theorem get_left {a b : ByteArray} {i : Nat} {c : UInt8} (h : (bl a)[i]? = some c) : (bl (a ++ b))[i]? = some c := by
  rw [bl_append, List.getElem?_append_left (List.getElem?_eq_some_iff.1 h).1]; exact h
theorem get_right {a b : ByteArray} {j : Nat} : (bl (a ++ b))[a.size + j]? = (bl b)[j]? := by
  rw [bl_append, List.getElem?_append_right (by rw [bl_len]; omega), bl_len, Nat.add_sub_cancel_left]
theorem get_some {b : ByteArray} {j : Nat} (h : j < b.size) : ∃ c, (bl b)[j]? = some c := ⟨_, List.getElem?_eq_getElem (by rw [bl_len]; exact h)⟩
theorem last_down (ls : List ByteArray) (tl : ByteArray) (hn : NoN tl) (hs : (cat ls ++ tl).size ≤ 1099511627776) : ∀ j, j ≤ tl.size → ∀ k, j + 2 ≤ k → bytealg_LastIndexByteString.l0 k (cat ls ++ tl) 10 ((((cat ls).size + j : Nat) : Int) - 1) = some (((cat ls).size : Int) - 1)
  | 0, _, k + 1, hk => by
    rw [bytealg_LastIndexByteString.l0, Nat.add_zero]
    by_cases h : ls = []
    · subst h
      rw [if_neg (by show ¬ (((0 : Nat) : Int) - 1 ≥ 0); omega)]; rfl
    · have hb := get_left (b := tl) (cat_last ls h)
      have hlt := (List.getElem?_eq_some_iff.1 hb).1
      rw [bl_len, ByteArray.size_append] at hlt
      have hpos : 0 < (cat ls).size := by
        cases ls with
        | nil => exact absurd rfl h
        | cons x r => rw [cat_size]; omega
      have e : (((cat ls).size : Nat) : Int) - 1 = (((cat ls).size - 1 : Nat) : Int) := by omega
      rw [e, if_pos (by omega), if_pos (by omega), if_pos (by rw [ByteArray.size_append]; omega), if_pos (by rw [bt_bl hb]; rfl)]
  | j + 1, hj, k + 1, hk => by
    have ih := last_down ls tl hn hs j (by omega) k (by omega)
    obtain ⟨c, hc⟩ := get_some (b := tl) (j := j) (by omega)
    have hb : (bl (cat ls ++ tl))[(cat ls).size + j]? = some c := get_right.trans hc
    have hne := ne10 (hn c (List.mem_of_getElem? hc))
    have e : (((cat ls).size + (j + 1) : Nat) : Int) - 1 = (((cat ls).size + j : Nat) : Int) := by omega
    rw [bytealg_LastIndexByteString.l0, e, if_pos (by omega), if_pos (by omega), if_pos (by rw [ByteArray.size_append]; omega), if_neg (by rw [bt_bl hb]; exact hne)]
    rw [ByteArray.size_append] at hs
    rw [w64 _ (by omega)]
    exact ih
theorem last_calls {al tl : ByteArray} {ls : List ByteArray} (h : Cuts al ls tl) (hs : al.size ≤ 1099511627776) (w : World) : Calls Try.prog 30 #[.string al, .int .u8 10] w fun e w' => e = .returned (.int .i64 (((cat ls).size : Int) - 1)) ∧ Below w.heap.size w w' := by
  refine (strings_LastIndexByte.calls (tl.size + 2) al 10 _ w ?_).mono fun e w' h => ⟨h.1, h.2.below⟩
  have hz := h.eq
  subst hz
  unfold strings_LastIndexByte.f bytealg_LastIndexByteString.f
  have := last_down ls tl h.tail hs tl.size (Nat.le_refl _) (tl.size + 2) (Nat.le_refl _)
  have e : wrap64 (((cat ls ++ tl).size : Int) - 1) = (((cat ls).size + tl.size : Nat) : Int) - 1 := by
    rw [ByteArray.size_append] at hs ⊢
    rw [w64 _ (by omega)]
  rw [e, this]; rfl
def decS (x : ByteArray) : Option ByteArray := (decL true (bytesOf x)).map strOfNums
def recs : List ByteArray → Option (List ByteArray)
  | [] => some []
  | x :: r => (decS x).bind fun y => (recs r).map (y :: ·)
theorem recs_snoc : ∀ {pre rs : List ByteArray} {x y : ByteArray}, recs pre = some rs → decS x = some y → recs (pre ++ [x]) = some (rs ++ [y])
  | [], rs, x, y, h, hx => by
    cases h
    show (decS x).bind _ = _
    rw [hx]; rfl
  | z :: pre, rs, x, y, h, hx => by
    unfold recs at h
    cases hz : decS z with
    | none => rw [hz] at h; cases h
    | some u =>
      rw [hz, Option.bind_some] at h
      cases hr : recs pre with
      | none => rw [hr] at h; cases h
      | some rs2 =>
        rw [hr] at h
        cases h
        show (decS z).bind (fun y => (recs (pre ++ [x])).map (y :: ·)) = _
        rw [hz, Option.bind_some, recs_snoc hr hx]; rfl
theorem recs_none : ∀ (pre : List ByteArray) {x : ByteArray} (r : List ByteArray), decS x = none → recs (pre ++ x :: r) = none
  | [], x, r, hx => by
    show (decS x).bind _ = _
    rw [hx]; rfl
  | z :: pre, x, r, hx => by
    show (decS z).bind (fun y => (recs (pre ++ x :: r)).map (y :: ·)) = _
    rw [recs_none pre r hx]
    cases decS z <;> rfl
theorem recs_len : ∀ {ls rs : List ByteArray}, recs ls = some rs → rs.length = ls.length
  | [], rs, h => by cases h; rfl
  | x :: r, rs, h => by
    unfold recs at h
    cases hx : decS x with
    | none => rw [hx] at h; cases h
    | some y =>
      rw [hx, Option.bind_some] at h
      cases hr : recs r with
      | none => rw [hr] at h; cases h
      | some q => rw [hr] at h; cases h; simp [recs_len hr]
theorem cat_len (ls : List ByteArray) : ls.length ≤ (cat ls).size := by
  induction ls with
  | nil => exact Nat.zero_le _
  | cons x r ih => rw [cat_size]; simp; omega
theorem Fr.comp {W w1 w2 : World} {X Y : List Nat} (h : Fr ⟨W, X⟩ w1) (k : Fr ⟨w1, Y⟩ w2) : Fr ⟨W, X ++ Y⟩ w2 :=
  ⟨k.os.trans h.os, k.tape.trans h.tape, k.output.trans h.output, Nat.le_trans h.size k.size, fun i hi hx => by
    rw [List.mem_append] at hx
    exact (k.block i (Nat.lt_of_lt_of_le hi h.size) (fun q => hx (.inr q))).trans (h.block i hi (fun q => hx (.inl q)))⟩
theorem Fr.join {e : WX} {W w2 : World} {Z : List Nat} (h : Fr e W) (k : Fr ⟨W, Z⟩ w2) (hZ : ∀ z ∈ Z, e.fresh z) : Fr e w2 :=
  ⟨k.os.trans h.os, k.tape.trans h.tape, k.output.trans h.output, Nat.le_trans h.size k.size, fun i hi hx => (k.block i (Nat.lt_of_lt_of_le hi h.size) (fun q => by
    rcases hZ i q with hf | hf
    · omega
    · exact hx hf)).trans (h.block i hi hx)⟩
theorem Row.fr {W w2 : World} {Z : List Nat} {g n : Nat} {f : Nat → SC} {t : TypeId} (h : Row W g () n f t) (k : Fr ⟨W, Z⟩ w2) (hz : g ∉ Z) : Row w2 g () n f t := (k.block g h.lt hz).trans h
theorem Held.two {w : World} {g1 g2 n1 n2 : Nat} {f1 f2 : Nat → SC} {t1 t2 : TypeId} (h1 : Row w g1 () n1 f1 t1) (h2 : Row w g2 () n2 f2 t2) (hne : g1 ≠ g2) : Held ⟨w, [g1, g2]⟩ w [⟨g1, (), n1, f1, t1⟩, ⟨g2, (), n2, f2, t2⟩] :=
  ⟨Fr.refl _ _, fun r hr => by
    rcases List.mem_cons.1 hr with rfl | hr
    · exact ⟨.inr (by simp), h1⟩
    · rw [List.mem_singleton] at hr; subst hr; exact ⟨.inr (by simp), h2⟩, by simp [hne]⟩
structure Idx (w : World) (g r2 r3 ob b B : Nat) : Prop where
  p_g : g < w.heap.size
  p_r2 : w.heap.size ≤ r2
  p_r3 : w.heap.size ≤ r3
  p_ob : w.heap.size ≤ ob
  p_b : w.heap.size ≤ b
  p_n23 : r2 ≠ r3
  p_n2o : r2 ≠ ob
  p_n3o : r3 ≠ ob
  p_n2b : r2 ≠ b
  p_n3b : r3 ≠ b
  p_nob : ob ≠ b
  p_lt : b < B
abbrev T25 : TypeId := 25
abbrev T26 : TypeId := 26
abbrev TSp : TypeId := 53
structure Lp (w : World) (g r2 r3 ob b : Nat) (sc : Nat → SC) (W : World) (rs : List ByteArray) (oa : Option Addr) (c : Nat) : Prop where
  p_fr : Fr ⟨w, [g]⟩ W
  p_g : Row W g () 6 sc TSp
  p_r2 : Row W r2 () 1 (lsc [.sl none 0 0]) T25
  p_r3 : Row W r3 () 1 (lsc [.i .i64 0]) T26
  p_ob : Row W ob () 1 (lsc [.sl oa rs.length c]) T25
  p_out : OwnR w.heap.size W 9 1 [g, r2, r3, ob, b] (.slice oa rs.length c) rs.length (rs.map Value.string)
  p_b : b < W.heap.size
structure Lx (w : World) (g r2 r3 : Nat) (sc : Nat → SC) (W : World) : Prop where
  p_fr : Fr ⟨w, [g]⟩ W
  p_g : Row W g () 6 sc TSp
  p_r2 : Row W r2 () 1 (lsc [.sl none 0 0]) T25
  p_r3 : Row W r3 () 1 (lsc [.i .i64 4]) T26
def LpI (w : World) (g r2 r3 ob b : Nat) (sc : Nat → SC) (pre : List ByteArray) (W : World) : Prop := ∃ rs oa c, recs pre = some rs ∧ Lp w g r2 r3 ob b sc W rs oa c
def LxI (w : World) (g r2 r3 : Nat) (sc : Nat → SC) (pre : List ByteArray) (W : World) : Prop := (∀ t, recs (pre ++ t) = none) ∧ Lx w g r2 r3 sc W
section
variable {w : World} {g r2 r3 ob b B : Nat} {sc : Nat → SC}
theorem row_turn {A A' : World} {row : Option Nat} {k n : Nat} {f : Nat → SC} {t : TypeId} (h : Row A k () n f t) (hg : A.grownBy A' row) (hr : ∀ r, row = some r → r = b ∨ B ≤ r ∧ ∃ o : Obj, A.heap[r]? = some o ∧ o.isCells = false) (hne : k ≠ b) : Row A' k () n f t :=
  (hg.block k h.lt (fun e => by
    rcases hr k e.symm with q | ⟨_, o, ho, hc⟩
    · exact hne q
    · have h' : A.heap[k]? = some (.cells (FR () n f) t (0, 0)) := h
      rw [h'] at ho
      cases ho
      cases hc)).trans h
theorem own_cells {base n size : Nat} {e : TypeId} {gs : List Nat} {v : Value} {xs : List Value} {A : World} (h : OwnR base A e size gs v n xs) {k : Nat} (hk : v.ownBlock = some k) : ∃ c, A.heap[k]? = some (.cells c e (0, 0)) := own_typed h.own k hk
theorem fr_turn {e : WX} {A A' : World} {row : Option Nat} (h : Fr e A) (hg : A.grownBy A' row) (hr : ∀ r, row = some r → r = b ∨ B ≤ r ∧ ∃ o : Obj, A.heap[r]? = some o ∧ o.isCells = false) (hb : e.w.heap.size ≤ b) (hB : e.w.heap.size ≤ B) : Fr e A' :=
  h.grown hg (fun k hk => .inl (by rcases hr k hk with rfl | ⟨q, _⟩ <;> omega))
theorem lp_own (ix : Idx w g r2 r3 ob b B) : OwnB B b (LpI w g r2 r3 ob b sc) := by
  rintro pre A A' row ⟨rs, oa, c, hrs, h⟩ hg hr
  have hgb : g ≠ b := by have := ix.p_g; have := ix.p_b; omega
  refine ⟨rs, oa, c, hrs, fr_turn h.p_fr hg hr ix.p_b (by show w.heap.size ≤ B; have := ix.p_lt; have := ix.p_b; omega), row_turn h.p_g hg hr hgb, row_turn h.p_r2 hg hr ix.p_n2b, row_turn h.p_r3 hg hr ix.p_n3b, row_turn h.p_ob hg hr ix.p_nob, ⟨h.p_out.own.kept hg ?_, h.p_out.apart⟩, Nat.lt_of_lt_of_le h.p_b hg.size⟩
  cases hk : (Value.slice oa rs.length c).ownBlock with
  | none => exact .inl rfl
  | some k =>
    refine .inr fun e => ?_
    rcases hr k e.symm with rfl | ⟨_, o, ho, hc⟩
    · exact h.p_out.apart k (by simp) hk
    · obtain ⟨cs, hcs⟩ := own_cells h.p_out hk
      rw [hcs] at ho
      cases ho
      cases hc
theorem lx_own (ix : Idx w g r2 r3 ob b B) : OwnB B b (LxI w g r2 r3 sc) := by
  rintro pre A A' row ⟨hn, h⟩ hg hr
  have hgb : g ≠ b := by have := ix.p_g; have := ix.p_b; omega
  exact ⟨hn, fr_turn h.p_fr hg hr ix.p_b (by show w.heap.size ≤ B; have := ix.p_lt; have := ix.p_b; omega), row_turn h.p_g hg hr hgb, row_turn h.p_r2 hg hr ix.p_n2b, row_turn h.p_r3 hg hr ix.p_n3b⟩
theorem round_go {W w2 w3 : World} {pre rs : List ByteArray} {oa oa' : Option Addr} {c c' : Nat} {x y : ByteArray} (ix : Idx w g r2 r3 ob b B) (hrs : recs pre = some rs) (h : Lp w g r2 r3 ob b sc W rs oa c) (hd : decS x = some y)
    (hF : Fr ⟨W, (Value.slice oa rs.length c).ownBlock.toList⟩ w2) (hO : OwnR w.heap.size w2 9 1 [g, r2, r3, ob, b] (.slice oa' (rs.length + 1) c') (rs.length + 1) (rs.map Value.string ++ [.string y])) (hF3 : Fr ⟨w2, [ob]⟩ w3) (hob : Row w3 ob () 1 (lsc [.sl oa' (rs.length + 1) c']) T25) :
    KeepsFrom B W w3 ∧ w3.heap[b]? = W.heap[b]? ∧ LpI w g r2 r3 ob b sc (pre ++ [x]) w3 := by
  have hc := hF.comp hF3
  have hap : ∀ k ∈ [g, r2, r3, ob, b], k ∉ (Value.slice oa rs.length c).ownBlock.toList := fun k hk hm => h.p_out.apart k hk (by simpa using hm)
  have hgo : g ≠ ob := by have := ix.p_g; have := ix.p_ob; omega
  have nz : ∀ k ∈ [g, r2, r3, ob, b], k ≠ ob → k ∉ (Value.slice oa rs.length c).ownBlock.toList ++ [ob] := fun k hk hne hm => by
    rw [List.mem_append, List.mem_singleton] at hm
    exact hm.elim (hap k hk) hne
  have hfresh : ∀ z ∈ (Value.slice oa rs.length c).ownBlock.toList ++ [ob], (⟨w, [g]⟩ : WX).fresh z := fun z hz => by
    rw [List.mem_append, List.mem_singleton] at hz
    rcases hz with hz | rfl
    · exact .inl (h.p_out.own.lt z (by simpa using hz)).1
    · exact .inl ix.p_ob
  refine ⟨keeps_fr hc fun k hk => ?_, hc.block b h.p_b (nz b (by simp) (fun e => ix.p_nob e.symm)), rs ++ [y], oa', c', recs_snoc hrs hd, h.p_fr.join hc hfresh, h.p_g.fr hc (nz g (by simp) hgo), h.p_r2.fr hc (nz r2 (by simp) ix.p_n2o), h.p_r3.fr hc (nz r3 (by simp) ix.p_n3o), by rw [List.length_append]; exact hob, ?_, Nat.lt_of_lt_of_le h.p_b hc.size⟩
  · rw [List.mem_append, List.mem_singleton] at hk
    rcases hk with hk | rfl
    · obtain ⟨cs, hcs⟩ := own_cells h.p_out (k := k) (by simpa using hk)
      exact ⟨_, _, _, hcs⟩
    · exact ⟨_, _, _, h.p_ob⟩
  · rw [List.length_append, List.map_append]
    refine ⟨hO.own.kept (fr_grown hF3) ?_, hO.apart⟩
    cases hk : (Value.slice oa' (rs.length + 1) c').ownBlock with
    | none => exact .inl rfl
    | some k => exact .inr fun e => hO.apart ob (by simp) (hk.trans e)
theorem round_stop {W w1 w2 : World} {pre rs : List ByteArray} {oa : Option Addr} {c : Nat} {x : ByteArray} (ix : Idx w g r2 r3 ob b B) (h : Lp w g r2 r3 ob b sc W rs oa c) (hd : decS x = none)
    (hF : Fr ⟨W, []⟩ w1) (hF2 : Fr ⟨w1, [r2, r3]⟩ w2) (h2 : Row w2 r2 () 1 (lsc [.sl none 0 0]) T25) (h3 : Row w2 r3 () 1 (lsc [.i .i64 4]) T26) :
    KeepsFrom B W w2 ∧ w2.heap[b]? = W.heap[b]? ∧ LxI w g r2 r3 sc (pre ++ [x]) w2 := by
  have hc := hF.comp hF2
  rw [List.nil_append] at hc
  have hg := ix.p_g
  have hr2 := ix.p_r2
  have hr3 := ix.p_r3
  refine ⟨keeps_fr hc fun k hk => ?_, hc.block b h.p_b ?_, fun t => by rw [List.append_assoc]; exact recs_none pre t hd, h.p_fr.join hc ?_, h.p_g.fr hc ?_, h2, h3⟩
  · rcases List.mem_cons.1 hk with rfl | hk
    · exact ⟨_, _, _, h.p_r2⟩
    · rw [List.mem_singleton] at hk; subst hk; exact ⟨_, _, _, h.p_r3⟩
  · simp [ix.p_n2b.symm, ix.p_n3b.symm]
  · intro z hz
    rcases List.mem_cons.1 hz with rfl | hz
    · exact .inl ix.p_r2
    · rw [List.mem_singleton] at hz; subst hz; exact .inl ix.p_r3
  · simp; omega
end
theorem src_row1 {P : Program} {w : World} {t e u : TypeId} {g : Nat} {z : ByteArray} (ht : P.underlying t = some (.slice e)) (h : Row w g () 1 (lsc [.s z]) u) : Src P 1 t (.slice (some ⟨g, 0, none⟩) 1 1) 1 [.string z] w := by
  refine src_of ht rfl (fun u hu => by rw [List.mem_singleton] at hu; subst hu; rfl) (fun x hx j u hj => ?_) (fun h => by cases h)
  cases hx
  cases j with
  | zero => cases hj; exact row_at h 0 (by omega)
  | succ j => cases hj
end Go.Proofs.Ytdleomeiojlooaa.P
end

section
namespace Go.Proofs.Ytdleomeiojlooaa.P
set_option linter.unusedVariables false
set_option linter.unusedSimpArgs false
open Go.RowKit Go.ChangeShapes Go.WideShapes Go.Proofs.YtdleomeiojlooaaW.PrintWords Go.Proofs.YtdleomeiojlooaaW.PrintLast Go.Proofs.YtdleomeiojlooaaW.PrintMore
theorem act_goes {w : World} {g : Nat} {al : ByteArray} {sy : Nat} {acts : Nat} {keep : Int} (hr : Row w g () 6 (spC ⟨al, sy, false, acts, 1, keep⟩) 53) (hsy : sy ≤ al.size) (hal : al.size ≤ 4194304) (hac : acts ≤ 1000000) : Calls Try.prog 38 #[.pointer (some ⟨g, 0, none⟩)] w fun e w' => e = .returned (.bool false) ∧ Row w' g () 6 (spC ⟨al.extract 0 (sy + kp keep (al.size - sy)), sy + kp keep (al.size - sy), true, acts + 1, 0, keep⟩) 53 ∧ Fr ⟨w, [g]⟩ w' := by
  refine enter_ 41 Try.func38 rfl rfl (fun a0 hS => ?_)
  have HS0 : Sl a0 41 [(0, .pointer (some ⟨g, 0, none⟩))] := hS
  have HH0 : Held ⟨w, [g]⟩ w [⟨g, (), 6, spC ⟨al, sy, false, acts, 1, keep⟩, 53⟩] := Held.one hr
  clear hS
  refine wp_seq ?_
  have hLo : LOk [(0, 2, .val (.bool false))] := lok (by rfl) (by rfl)
  refine plain_ (wE := ⟨w, [g]⟩) (sz := 41) (n := 1) [0] [(0, .val (.pointer (some ⟨g, 0, none⟩))), (2, .val (.bool false))] [(0, 2, .val (.bool false))] [⟨g, none, none, (), 6, spC ⟨al, sy, false, acts, 1, keep⟩, spC ⟨al, sy, false, acts, 1, keep⟩, 53⟩] rfl (by rfl) HH0 rfl rfl hLo rfl HS0 (slS 0 rfl rfl (slL 0 (d := 0) rfl (trivial))) ?_ ?_
  · show ∀ i ∈ [0], _
    refine steps_cons (st_run 0 _ rfl rfl hLo rfl rfl (fun _ _ _ _ => rfl) (fun b G w hb ho => exec_move (.inr rfl) (rfl))) ?_
    exact steps_nil
  clear hLo
  intro G a1 w1 hS hH
  have HS1 : Sl a1 41 [(0, .pointer (some ⟨g, 0, none⟩)), (2, .bool false)] := hS
  have HH1 : Held ⟨w, [g]⟩ w1 [⟨g, (), 6, spC ⟨al, sy, false, acts, 1, keep⟩, 53⟩] := hH
  clear hS hH HS0 HH0
  refine then_ ?_
  refine wp_seq ?_
  have hLo : LOk [(0, 3, .val (.pointer (some ⟨g, 0, none⟩))), (1, 4, .val (.pointer (some ⟨g, 0, none⟩))), (2, 5, .val (.pointer (some ⟨g, 3, none⟩))), (3, 6, .val (.int .i64 (((acts : Nat) : Int)))), (4, 7, .val (.int .i64 (((acts + 1 : Nat) : Int)))), (5, 8, .val (.pointer (some ⟨g, 0, none⟩))), (6, 9, .val (.pointer (some ⟨g, 3, none⟩)))] := lok (by rfl) (by rfl)
  refine plain_ (wE := ⟨w, [g]⟩) (sz := 41) (n := 8) [0, 1, 3, 7, 15, 31, 63, 127] [(0, .val (.pointer (some ⟨g, 0, none⟩))), (2, .val (.bool false))] [(0, 3, .val (.pointer (some ⟨g, 0, none⟩))), (1, 4, .val (.pointer (some ⟨g, 0, none⟩))), (2, 5, .val (.pointer (some ⟨g, 3, none⟩))), (3, 6, .val (.int .i64 (((acts : Nat) : Int)))), (4, 7, .val (.int .i64 (((acts + 1 : Nat) : Int)))), (5, 8, .val (.pointer (some ⟨g, 0, none⟩))), (6, 9, .val (.pointer (some ⟨g, 3, none⟩)))] [⟨g, none, some 7, (), 6, spC ⟨al, sy, false, acts, 1, keep⟩, upd (spC ⟨al, sy, false, acts, 1, keep⟩) 3 (.i .i64 (((acts + 1 : Nat) : Int))), 53⟩] rfl (by rfl) HH1 rfl rfl hLo rfl HS1 (slS 0 rfl rfl (slS 1 rfl rfl (trivial))) ?_ ?_
  · show ∀ i ∈ [0, 1, 2, 3, 4, 5, 6, 7], _
    refine steps_cons (st_run 0 _ rfl rfl hLo rfl rfl (fun _ _ _ _ => rfl) (fun b G w hb ho => exec_move (.inl rfl) (ev_off rfl (HS1.get 0 rfl)))) ?_
    refine steps_cons (st_run 1 _ rfl rfl hLo rfl rfl (fun _ _ _ _ => rfl) (fun b G w hb ho => exec_nil rfl (ev_on hLo 0 rfl HS1.1 rfl (hb 0 (by rfl))))) ?_
    refine steps_cons (st_run 2 _ rfl rfl hLo rfl rfl (fun _ _ _ _ => rfl) (fun b G w hb ho => exec_field rfl (ev_on hLo 1 rfl HS1.1 rfl (hb 1 (by rfl))) (by kernel_rfl))) ?_
    refine steps_cons (st_read 3 0 _ _ rfl rfl rfl hLo rfl rfl (fun _ _ _ _ => rfl) (by rfl) (by rfl) (fun b G w hb ho hr => exec_cell hr (Nat.le_of_ble_eq_true rfl) Try.underlying3 rfl rfl (ev_on hLo 2 rfl HS1.1 rfl (hb 2 (by rfl))))) ?_
    refine steps_cons (st_run 4 _ rfl rfl hLo rfl rfl (fun _ _ _ _ => rfl) (fun b G w hb ho => exec_bin rfl (ev_on hLo 3 rfl HS1.1 rfl (hb 3 (by rfl))) (rfl) (rb_add (w_nat (by omega) (by omega)) _ _ _))) ?_
    refine steps_cons (st_run 5 _ rfl rfl hLo rfl rfl (fun _ _ _ _ => rfl) (fun b G w hb ho => exec_nil rfl (ev_on hLo 0 rfl HS1.1 rfl (hb 0 (by rfl))))) ?_
    refine steps_cons (st_run 6 _ rfl rfl hLo rfl rfl (fun _ _ _ _ => rfl) (fun b G w hb ho => exec_field rfl (ev_on hLo 5 rfl HS1.1 rfl (hb 5 (by rfl))) (by kernel_rfl))) ?_
    refine steps_cons (st_put 0 _ rfl rfl rfl rfl (fun _ _ _ _ => rfl) rfl rfl rfl (by rfl) (fun b G w hb ho hr => exec_put1 hr (Nat.le_of_ble_eq_true rfl) (by kernel_rfl) rfl (ev_on hLo 6 rfl HS1.1 rfl (hb 6 (by rfl))) (ev_on hLo 4 rfl HS1.1 rfl (hb 4 (by rfl))))) ?_
    exact steps_nil
  clear hLo
  intro G a2 w2 hS hH
  have HS2 : Sl a2 41 [(0, .pointer (some ⟨g, 0, none⟩)), (2, .bool false)] := hS
  have HH2 : Held ⟨w, [g]⟩ w2 [⟨g, (), 6, upd (spC ⟨al, sy, false, acts, 1, keep⟩) 3 (.i .i64 (((acts + 1 : Nat) : Int))), 53⟩] := hH
  clear hS hH HS1 HH1
  refine then_ ?_
  refine wp_seq ?_
  refine wp_seq ?_
  have hLo : LOk [(0, 10, .val (.pointer (some ⟨g, 0, none⟩))), (1, 11, .val (.pointer (some ⟨g, 0, none⟩))), (2, 12, .val (.pointer (some ⟨g, 4, none⟩))), (3, 13, .val (.int .i64 (((1 : Nat) : Int)))), (4, 14, .val (.int .i64 (0))), (5, 15, .val (.pointer (some ⟨g, 0, none⟩))), (6, 16, .val (.pointer (some ⟨g, 4, none⟩)))] := lok (by rfl) (by rfl)
  refine plain_ (wE := ⟨w, [g]⟩) (sz := 41) (n := 8) [0, 1, 3, 7, 15, 31, 63, 127] [(0, .val (.pointer (some ⟨g, 0, none⟩))), (2, .val (.bool false))] [(0, 10, .val (.pointer (some ⟨g, 0, none⟩))), (1, 11, .val (.pointer (some ⟨g, 0, none⟩))), (2, 12, .val (.pointer (some ⟨g, 4, none⟩))), (3, 13, .val (.int .i64 (((1 : Nat) : Int)))), (4, 14, .val (.int .i64 (0))), (5, 15, .val (.pointer (some ⟨g, 0, none⟩))), (6, 16, .val (.pointer (some ⟨g, 4, none⟩)))] [⟨g, none, some 7, (), 6, upd (spC ⟨al, sy, false, acts, 1, keep⟩) 3 (.i .i64 (((acts + 1 : Nat) : Int))), upd (upd (spC ⟨al, sy, false, acts, 1, keep⟩) 3 (.i .i64 (((acts + 1 : Nat) : Int)))) 4 (.i .i64 (0)), 53⟩] rfl (by rfl) HH2 rfl rfl hLo rfl HS2 (slS 0 rfl rfl (slS 1 rfl rfl (trivial))) ?_ ?_
  · show ∀ i ∈ [0, 1, 2, 3, 4, 5, 6, 7], _
    refine steps_cons (st_run 0 _ rfl rfl hLo rfl rfl (fun _ _ _ _ => rfl) (fun b G w hb ho => exec_move (.inl rfl) (ev_off rfl (HS2.get 0 rfl)))) ?_
    refine steps_cons (st_run 1 _ rfl rfl hLo rfl rfl (fun _ _ _ _ => rfl) (fun b G w hb ho => exec_nil rfl (ev_on hLo 0 rfl HS2.1 rfl (hb 0 (by rfl))))) ?_
    refine steps_cons (st_run 2 _ rfl rfl hLo rfl rfl (fun _ _ _ _ => rfl) (fun b G w hb ho => exec_field rfl (ev_on hLo 1 rfl HS2.1 rfl (hb 1 (by rfl))) (by kernel_rfl))) ?_
    refine steps_cons (st_read 3 0 _ _ rfl rfl rfl hLo rfl rfl (fun _ _ _ _ => rfl) (by rfl) (by rfl) (fun b G w hb ho hr => exec_cell hr (Nat.le_of_ble_eq_true rfl) Try.underlying3 rfl rfl (ev_on hLo 2 rfl HS2.1 rfl (hb 2 (by rfl))))) ?_
    refine steps_cons (st_run 4 _ rfl rfl hLo rfl rfl (fun _ _ _ _ => rfl) (fun b G w hb ho => exec_bin rfl (ev_on hLo 3 rfl HS2.1 rfl (hb 3 (by rfl))) (rfl) (rb_sub (by decide) _ _ _))) ?_
    refine steps_cons (st_run 5 _ rfl rfl hLo rfl rfl (fun _ _ _ _ => rfl) (fun b G w hb ho => exec_nil rfl (ev_on hLo 0 rfl HS2.1 rfl (hb 0 (by rfl))))) ?_
    refine steps_cons (st_run 6 _ rfl rfl hLo rfl rfl (fun _ _ _ _ => rfl) (fun b G w hb ho => exec_field rfl (ev_on hLo 5 rfl HS2.1 rfl (hb 5 (by rfl))) (by kernel_rfl))) ?_
    refine steps_cons (st_put 0 _ rfl rfl rfl rfl (fun _ _ _ _ => rfl) rfl rfl rfl (by rfl) (fun b G w hb ho hr => exec_put1 hr (Nat.le_of_ble_eq_true rfl) (by kernel_rfl) rfl (ev_on hLo 6 rfl HS2.1 rfl (hb 6 (by rfl))) (ev_on hLo 4 rfl HS2.1 rfl (hb 4 (by rfl))))) ?_
    exact steps_nil
  clear hLo
  intro G a3 w3 hS hH
  have HS3 : Sl a3 41 [(0, .pointer (some ⟨g, 0, none⟩)), (2, .bool false)] := hS
  have HH3 : Held ⟨w, [g]⟩ w3 [⟨g, (), 6, upd (upd (spC ⟨al, sy, false, acts, 1, keep⟩) 3 (.i .i64 (((acts + 1 : Nat) : Int)))) 4 (.i .i64 (0)), 53⟩] := hH
  clear hS hH HS2 HH2
  refine then_ ?_
  refine wp_seq ?_
  have hLo : LOk [(0, 17, .val (.pointer (some ⟨g, 0, none⟩))), (1, 18, .val (.pointer (some ⟨g, 0, none⟩))), (2, 19, .val (.pointer (some ⟨g, 4, none⟩))), (3, 20, .val (.int .i64 (0))), (4, 21, .val (.bool true))] := lok (by rfl) (by rfl)
  refine plain_ (wE := ⟨w, [g]⟩) (sz := 41) (n := 5) [0, 1, 3, 7, 15] [(0, .val (.pointer (some ⟨g, 0, none⟩))), (2, .val (.bool false)), (21, .val (.bool true))] [(0, 17, .val (.pointer (some ⟨g, 0, none⟩))), (1, 18, .val (.pointer (some ⟨g, 0, none⟩))), (2, 19, .val (.pointer (some ⟨g, 4, none⟩))), (3, 20, .val (.int .i64 (0))), (4, 21, .val (.bool true))] [⟨g, none, none, (), 6, upd (upd (spC ⟨al, sy, false, acts, 1, keep⟩) 3 (.i .i64 (((acts + 1 : Nat) : Int)))) 4 (.i .i64 (0)), upd (upd (spC ⟨al, sy, false, acts, 1, keep⟩) 3 (.i .i64 (((acts + 1 : Nat) : Int)))) 4 (.i .i64 (0)), 53⟩] rfl (by rfl) HH3 rfl rfl hLo rfl HS3 (slS 0 rfl rfl (slS 1 rfl rfl (slL 4 (d := 4) rfl (trivial)))) ?_ ?_
  · show ∀ i ∈ [0, 1, 2, 3, 4], _
    refine steps_cons (st_run 0 _ rfl rfl hLo rfl rfl (fun _ _ _ _ => rfl) (fun b G w hb ho => exec_move (.inl rfl) (ev_off rfl (HS3.get 0 rfl)))) ?_
    refine steps_cons (st_run 1 _ rfl rfl hLo rfl rfl (fun _ _ _ _ => rfl) (fun b G w hb ho => exec_nil rfl (ev_on hLo 0 rfl HS3.1 rfl (hb 0 (by rfl))))) ?_
    refine steps_cons (st_run 2 _ rfl rfl hLo rfl rfl (fun _ _ _ _ => rfl) (fun b G w hb ho => exec_field rfl (ev_on hLo 1 rfl HS3.1 rfl (hb 1 (by rfl))) (by kernel_rfl))) ?_
    refine steps_cons (st_read 3 0 _ _ rfl rfl rfl hLo rfl rfl (fun _ _ _ _ => rfl) (by rfl) (by rfl) (fun b G w hb ho hr => exec_cell hr (Nat.le_of_ble_eq_true rfl) Try.underlying3 rfl rfl (ev_on hLo 2 rfl HS3.1 rfl (hb 2 (by rfl))))) ?_
    refine steps_cons (st_run 4 _ rfl rfl hLo rfl rfl (fun _ _ _ _ => rfl) (fun b G w hb ho => exec_bin rfl (ev_on hLo 3 rfl HS3.1 rfl (hb 3 (by rfl))) (rfl) (rb_eql (rfl) _ _ _))) ?_
    exact steps_nil
  clear hLo
  intro G a4 w4 hS hH
  have HS4 : Sl a4 41 [(0, .pointer (some ⟨g, 0, none⟩)), (2, .bool false), (21, .bool true)] := hS
  have HH4 : Held ⟨w, [g]⟩ w4 [⟨g, (), 6, upd (upd (spC ⟨al, sy, false, acts, 1, keep⟩) 3 (.i .i64 (((acts + 1 : Nat) : Int)))) 4 (.i .i64 (0)), 53⟩] := hH
  clear hS hH HS3 HH3
  refine then_ ?_
  refine wp_cond_true (HS4.get 2 rfl) ?_
  have hLo : LOk [(0, 22, .val (.pointer (some ⟨g, 0, none⟩))), (1, 23, .val (.pointer (some ⟨g, 0, none⟩))), (2, 24, .val (.pointer (some ⟨g, 0, none⟩))), (3, 25, .val (.pointer (some ⟨g, 5, none⟩))), (4, 26, .val (.int .i64 (keep))), (5, 27, .val (.tuple #[]))] := lok (by rfl) (by rfl)
  refine plain_ (wE := ⟨w, [g]⟩) (sz := 41) (n := 6) [0, 1, 3, 7, 15, 31] [(0, .val (.pointer (some ⟨g, 0, none⟩))), (2, .val (.bool false)), (21, .val (.bool true))] [(0, 22, .val (.pointer (some ⟨g, 0, none⟩))), (1, 23, .val (.pointer (some ⟨g, 0, none⟩))), (2, 24, .val (.pointer (some ⟨g, 0, none⟩))), (3, 25, .val (.pointer (some ⟨g, 5, none⟩))), (4, 26, .val (.int .i64 (keep))), (5, 27, .val (.tuple #[]))] [⟨g, none, some 5, (), 6, upd (upd (spC ⟨al, sy, false, acts, 1, keep⟩) 3 (.i .i64 (((acts + 1 : Nat) : Int)))) 4 (.i .i64 (0)), spC ⟨al.extract 0 (sy + kp keep (al.size - sy)), sy + kp keep (al.size - sy), true, acts + 1, 0, keep⟩, 53⟩] rfl (by rfl) HH4 rfl rfl hLo rfl HS4 (slS 0 rfl rfl (slS 1 rfl rfl (slS 2 rfl rfl (trivial)))) ?_ ?_
  · show ∀ i ∈ [0, 1, 2, 3, 4, 5], _
    refine steps_cons (st_run 0 _ rfl rfl hLo rfl rfl (fun _ _ _ _ => rfl) (fun b G w hb ho => exec_move (.inl rfl) (ev_off rfl (HS4.get 0 rfl)))) ?_
    refine steps_cons (st_run 1 _ rfl rfl hLo rfl rfl (fun _ _ _ _ => rfl) (fun b G w hb ho => exec_move (.inl rfl) (ev_off rfl (HS4.get 0 rfl)))) ?_
    refine steps_cons (st_run 2 _ rfl rfl hLo rfl rfl (fun _ _ _ _ => rfl) (fun b G w hb ho => exec_nil rfl (ev_on hLo 1 rfl HS4.1 rfl (hb 1 (by rfl))))) ?_
    refine steps_cons (st_run 3 _ rfl rfl hLo rfl rfl (fun _ _ _ _ => rfl) (fun b G w hb ho => exec_field rfl (ev_on hLo 2 rfl HS4.1 rfl (hb 2 (by rfl))) (by kernel_rfl))) ?_
    refine steps_cons (st_read 4 0 _ _ rfl rfl rfl hLo rfl rfl (fun _ _ _ _ => rfl) (by rfl) (by rfl) (fun b G w hb ho hr => exec_cell hr (Nat.le_of_ble_eq_true rfl) Try.underlying3 rfl rfl (ev_on hLo 3 rfl HS4.1 rfl (hb 3 (by rfl))))) ?_
    refine steps_cons (st_callM 5 0 _ _ (fun G => #[.pointer (some ⟨g, 0, none⟩), .int .i64 (keep)]) rfl rfl rfl rfl rfl (fun _ _ _ _ => rfl) hLo rfl (by rfl) (by rfl) (by rfl) Try.func18 rfl rfl (fun b G hb ho => args2 (ev_on hLo 0 rfl HS4.1 rfl (hb 0 (by rfl))) (ev_on hLo 4 rfl HS4.1 rfl (hb 4 (by rfl)))) (fun G w hw hr => off_on (k := keep) (hr.norm (six ⟨rfl, rfl, rfl, rfl, rfl, rfl⟩)) hsy hal)) ?_
    exact steps_nil
  clear hLo
  intro G a5 w5 hS hH
  have HS5 : Sl a5 41 [(0, .pointer (some ⟨g, 0, none⟩)), (2, .bool false), (21, .bool true)] := hS
  have HH5 : Held ⟨w, [g]⟩ w5 [⟨g, (), 6, spC ⟨al.extract 0 (sy + kp keep (al.size - sy)), sy + kp keep (al.size - sy), true, acts + 1, 0, keep⟩, 53⟩] := hH
  clear hS hH HS4 HH4
  refine then_ ?_
  refine wp_seq ?_
  have hLo : LOk [(0, 28, .val (.pointer (some ⟨g, 0, none⟩))), (1, 29, .val (.pointer (some ⟨g, 0, none⟩))), (2, 30, .val (.pointer (some ⟨g, 0, none⟩))), (3, 31, .val (.pointer (some ⟨g, 4, none⟩))), (4, 32, .val (.int .i64 (((0 : Nat) : Int)))), (5, 33, .val (.int .i64 (0))), (6, 34, .val (.pointer (some ⟨g, 0, none⟩))), (7, 35, .val (.pointer (some ⟨g, 4, none⟩)))] := lok (by rfl) (by rfl)
  refine plain_ (wE := ⟨w, [g]⟩) (sz := 41) (n := 9) [0, 1, 3, 7, 15, 31, 63, 127, 255] [(0, .val (.pointer (some ⟨g, 0, none⟩))), (2, .val (.bool false)), (21, .val (.bool true))] [(0, 28, .val (.pointer (some ⟨g, 0, none⟩))), (1, 29, .val (.pointer (some ⟨g, 0, none⟩))), (2, 30, .val (.pointer (some ⟨g, 0, none⟩))), (3, 31, .val (.pointer (some ⟨g, 4, none⟩))), (4, 32, .val (.int .i64 (((0 : Nat) : Int)))), (5, 33, .val (.int .i64 (0))), (6, 34, .val (.pointer (some ⟨g, 0, none⟩))), (7, 35, .val (.pointer (some ⟨g, 4, none⟩)))] [⟨g, none, some 8, (), 6, spC ⟨al.extract 0 (sy + kp keep (al.size - sy)), sy + kp keep (al.size - sy), true, acts + 1, 0, keep⟩, upd (spC ⟨al.extract 0 (sy + kp keep (al.size - sy)), sy + kp keep (al.size - sy), true, acts + 1, 0, keep⟩) 4 (.i .i64 (0)), 53⟩] rfl (by rfl) HH5 rfl rfl hLo rfl HS5 (slS 0 rfl rfl (slS 1 rfl rfl (slS 2 rfl rfl (trivial)))) ?_ ?_
  · show ∀ i ∈ [0, 1, 2, 3, 4, 5, 6, 7, 8], _
    refine steps_cons (st_run 0 _ rfl rfl hLo rfl rfl (fun _ _ _ _ => rfl) (fun b G w hb ho => exec_move (.inl rfl) (ev_off rfl (HS5.get 0 rfl)))) ?_
    refine steps_cons (st_run 1 _ rfl rfl hLo rfl rfl (fun _ _ _ _ => rfl) (fun b G w hb ho => exec_move (.inl rfl) (ev_off rfl (HS5.get 0 rfl)))) ?_
    refine steps_cons (st_run 2 _ rfl rfl hLo rfl rfl (fun _ _ _ _ => rfl) (fun b G w hb ho => exec_nil rfl (ev_on hLo 1 rfl HS5.1 rfl (hb 1 (by rfl))))) ?_
    refine steps_cons (st_run 3 _ rfl rfl hLo rfl rfl (fun _ _ _ _ => rfl) (fun b G w hb ho => exec_field rfl (ev_on hLo 2 rfl HS5.1 rfl (hb 2 (by rfl))) (by kernel_rfl))) ?_
    refine steps_cons (st_read 4 0 _ _ rfl rfl rfl hLo rfl rfl (fun _ _ _ _ => rfl) (by rfl) (by rfl) (fun b G w hb ho hr => exec_cell hr (Nat.le_of_ble_eq_true rfl) Try.underlying3 rfl rfl (ev_on hLo 3 rfl HS5.1 rfl (hb 3 (by rfl))))) ?_
    refine steps_cons (st_run 5 _ rfl rfl hLo rfl rfl (fun _ _ _ _ => rfl) (fun b G w hb ho => exec_max (by decide) rfl (ev_on hLo 4 rfl HS5.1 rfl (hb 4 (by rfl))) (rfl))) ?_
    refine steps_cons (st_run 6 _ rfl rfl hLo rfl rfl (fun _ _ _ _ => rfl) (fun b G w hb ho => exec_nil rfl (ev_on hLo 0 rfl HS5.1 rfl (hb 0 (by rfl))))) ?_
    refine steps_cons (st_run 7 _ rfl rfl hLo rfl rfl (fun _ _ _ _ => rfl) (fun b G w hb ho => exec_field rfl (ev_on hLo 6 rfl HS5.1 rfl (hb 6 (by rfl))) (by kernel_rfl))) ?_
    refine steps_cons (st_put 0 _ rfl rfl rfl rfl (fun _ _ _ _ => rfl) rfl rfl rfl (by rfl) (fun b G w hb ho hr => exec_put1 hr (Nat.le_of_ble_eq_true rfl) (by kernel_rfl) rfl (ev_on hLo 7 rfl HS5.1 rfl (hb 7 (by rfl))) (ev_on hLo 5 rfl HS5.1 rfl (hb 5 (by rfl))))) ?_
    exact steps_nil
  clear hLo
  intro G a6 w6 hS hH
  have HS6 : Sl a6 41 [(0, .pointer (some ⟨g, 0, none⟩)), (2, .bool false), (21, .bool true)] := hS
  have HH6 : Held ⟨w, [g]⟩ w6 [⟨g, (), 6, upd (spC ⟨al.extract 0 (sy + kp keep (al.size - sy)), sy + kp keep (al.size - sy), true, acts + 1, 0, keep⟩) 4 (.i .i64 (0)), 53⟩] := hH
  clear hS hH HS5 HH5
  refine then_ ?_
  refine wp_seq ?_
  have hLo : LOk [(0, 36, .val (.pointer (some ⟨g, 0, none⟩))), (1, 37, .val (.pointer (some ⟨g, 0, none⟩))), (2, 38, .val (.pointer (some ⟨g, 2, none⟩))), (3, 39, .val (.bool true)), (4, 40, .val (.bool false)), (5, 2, .val (.bool false))] := lok (by rfl) (by rfl)
  refine plain_ (wE := ⟨w, [g]⟩) (sz := 41) (n := 6) [0, 1, 3, 7, 15, 31] [(0, .val (.pointer (some ⟨g, 0, none⟩))), (21, .val (.bool true)), (2, .val (.bool false))] [(0, 36, .val (.pointer (some ⟨g, 0, none⟩))), (1, 37, .val (.pointer (some ⟨g, 0, none⟩))), (2, 38, .val (.pointer (some ⟨g, 2, none⟩))), (3, 39, .val (.bool true)), (4, 40, .val (.bool false)), (5, 2, .val (.bool false))] [⟨g, none, none, (), 6, upd (spC ⟨al.extract 0 (sy + kp keep (al.size - sy)), sy + kp keep (al.size - sy), true, acts + 1, 0, keep⟩) 4 (.i .i64 (0)), upd (spC ⟨al.extract 0 (sy + kp keep (al.size - sy)), sy + kp keep (al.size - sy), true, acts + 1, 0, keep⟩) 4 (.i .i64 (0)), 53⟩] rfl (by rfl) HH6 rfl rfl hLo rfl HS6 (slS 0 rfl rfl (slS 2 rfl rfl (slL 5 (d := 5) rfl (trivial)))) ?_ ?_
  · show ∀ i ∈ [0, 1, 2, 3, 4, 5], _
    refine steps_cons (st_run 0 _ rfl rfl hLo rfl rfl (fun _ _ _ _ => rfl) (fun b G w hb ho => exec_move (.inl rfl) (ev_off rfl (HS6.get 0 rfl)))) ?_
    refine steps_cons (st_run 1 _ rfl rfl hLo rfl rfl (fun _ _ _ _ => rfl) (fun b G w hb ho => exec_nil rfl (ev_on hLo 0 rfl HS6.1 rfl (hb 0 (by rfl))))) ?_
    refine steps_cons (st_run 2 _ rfl rfl hLo rfl rfl (fun _ _ _ _ => rfl) (fun b G w hb ho => exec_field rfl (ev_on hLo 1 rfl HS6.1 rfl (hb 1 (by rfl))) (by kernel_rfl))) ?_
    refine steps_cons (st_read 3 0 _ _ rfl rfl rfl hLo rfl rfl (fun _ _ _ _ => rfl) (by rfl) (by rfl) (fun b G w hb ho hr => exec_cell hr (Nat.le_of_ble_eq_true rfl) Try.underlying4 rfl rfl (ev_on hLo 2 rfl HS6.1 rfl (hb 2 (by rfl))))) ?_
    refine steps_cons (st_run 4 _ rfl rfl hLo rfl rfl (fun _ _ _ _ => rfl) (fun b G w hb ho => exec_un rfl (ev_on hLo 3 rfl HS6.1 rfl (hb 3 (by rfl))) (ru_not _))) ?_
    refine steps_cons (st_run 5 _ rfl rfl hLo rfl rfl (fun _ _ _ _ => rfl) (fun b G w hb ho => exec_move (.inr rfl) (ev_on hLo 4 rfl HS6.1 rfl (hb 4 (by rfl))))) ?_
    exact steps_nil
  clear hLo
  intro G a7 w7 hS hH
  have HS7 : Sl a7 41 [(0, .pointer (some ⟨g, 0, none⟩)), (21, .bool true), (2, .bool false)] := hS
  have HH7 : Held ⟨w, [g]⟩ w7 [⟨g, (), 6, upd (spC ⟨al.extract 0 (sy + kp keep (al.size - sy)), sy + kp keep (al.size - sy), true, acts + 1, 0, keep⟩) 4 (.i .i64 (0)), 53⟩] := hH
  clear hS hH HS6 HH6
  refine then_ ?_
  refine wp_ret ?_
  repeat (first | refine then_ret ?_ | refine inBlock_ret' ?_)
  exact b_tmp rfl HS7.2.1 (HS7.get 2 rfl) ⟨rfl, Row.norm (HH7.row 0 rfl) (six ⟨rfl, rfl, rfl, rfl, rfl, rfl⟩), HH7.1⟩
theorem act_stays {w : World} {g : Nat} {al : ByteArray} {sy : Nat} {acts inn : Nat} {keep : Int} (hr : Row w g () 6 (spC ⟨al, sy, false, acts, inn, keep⟩) 53) (hac : acts ≤ 1000000) (hin : inn < 9223372036854775808) (hi1 : inn ≠ 1) : Calls Try.prog 38 #[.pointer (some ⟨g, 0, none⟩)] w fun e w' => e = .returned (.bool true) ∧ Row w' g () 6 (spC ⟨al, sy, false, acts + 1, inn - 1, keep⟩) 53 ∧ Fr ⟨w, [g]⟩ w' := by
  refine enter_ 41 Try.func38 rfl rfl (fun a0 hS => ?_)
  have HS0 : Sl a0 41 [(0, .pointer (some ⟨g, 0, none⟩))] := hS
  have HH0 : Held ⟨w, [g]⟩ w [⟨g, (), 6, spC ⟨al, sy, false, acts, inn, keep⟩, 53⟩] := Held.one hr
  clear hS
  refine wp_seq ?_
  have hLo : LOk [(0, 2, .val (.bool false))] := lok (by rfl) (by rfl)
  refine plain_ (wE := ⟨w, [g]⟩) (sz := 41) (n := 1) [0] [(0, .val (.pointer (some ⟨g, 0, none⟩))), (2, .val (.bool false))] [(0, 2, .val (.bool false))] [⟨g, none, none, (), 6, spC ⟨al, sy, false, acts, inn, keep⟩, spC ⟨al, sy, false, acts, inn, keep⟩, 53⟩] rfl (by rfl) HH0 rfl rfl hLo rfl HS0 (slS 0 rfl rfl (slL 0 (d := 0) rfl (trivial))) ?_ ?_
  · show ∀ i ∈ [0], _
    refine steps_cons (st_run 0 _ rfl rfl hLo rfl rfl (fun _ _ _ _ => rfl) (fun b G w hb ho => exec_move (.inr rfl) (rfl))) ?_
    exact steps_nil
  clear hLo
  intro G a1 w1 hS hH
  have HS1 : Sl a1 41 [(0, .pointer (some ⟨g, 0, none⟩)), (2, .bool false)] := hS
  have HH1 : Held ⟨w, [g]⟩ w1 [⟨g, (), 6, spC ⟨al, sy, false, acts, inn, keep⟩, 53⟩] := hH
  clear hS hH HS0 HH0
  refine then_ ?_
  refine wp_seq ?_
  have hLo : LOk [(0, 3, .val (.pointer (some ⟨g, 0, none⟩))), (1, 4, .val (.pointer (some ⟨g, 0, none⟩))), (2, 5, .val (.pointer (some ⟨g, 3, none⟩))), (3, 6, .val (.int .i64 (((acts : Nat) : Int)))), (4, 7, .val (.int .i64 (((acts + 1 : Nat) : Int)))), (5, 8, .val (.pointer (some ⟨g, 0, none⟩))), (6, 9, .val (.pointer (some ⟨g, 3, none⟩)))] := lok (by rfl) (by rfl)
  refine plain_ (wE := ⟨w, [g]⟩) (sz := 41) (n := 8) [0, 1, 3, 7, 15, 31, 63, 127] [(0, .val (.pointer (some ⟨g, 0, none⟩))), (2, .val (.bool false))] [(0, 3, .val (.pointer (some ⟨g, 0, none⟩))), (1, 4, .val (.pointer (some ⟨g, 0, none⟩))), (2, 5, .val (.pointer (some ⟨g, 3, none⟩))), (3, 6, .val (.int .i64 (((acts : Nat) : Int)))), (4, 7, .val (.int .i64 (((acts + 1 : Nat) : Int)))), (5, 8, .val (.pointer (some ⟨g, 0, none⟩))), (6, 9, .val (.pointer (some ⟨g, 3, none⟩)))] [⟨g, none, some 7, (), 6, spC ⟨al, sy, false, acts, inn, keep⟩, upd (spC ⟨al, sy, false, acts, inn, keep⟩) 3 (.i .i64 (((acts + 1 : Nat) : Int))), 53⟩] rfl (by rfl) HH1 rfl rfl hLo rfl HS1 (slS 0 rfl rfl (slS 1 rfl rfl (trivial))) ?_ ?_
  · show ∀ i ∈ [0, 1, 2, 3, 4, 5, 6, 7], _
    refine steps_cons (st_run 0 _ rfl rfl hLo rfl rfl (fun _ _ _ _ => rfl) (fun b G w hb ho => exec_move (.inl rfl) (ev_off rfl (HS1.get 0 rfl)))) ?_
    refine steps_cons (st_run 1 _ rfl rfl hLo rfl rfl (fun _ _ _ _ => rfl) (fun b G w hb ho => exec_nil rfl (ev_on hLo 0 rfl HS1.1 rfl (hb 0 (by rfl))))) ?_
    refine steps_cons (st_run 2 _ rfl rfl hLo rfl rfl (fun _ _ _ _ => rfl) (fun b G w hb ho => exec_field rfl (ev_on hLo 1 rfl HS1.1 rfl (hb 1 (by rfl))) (by kernel_rfl))) ?_
    refine steps_cons (st_read 3 0 _ _ rfl rfl rfl hLo rfl rfl (fun _ _ _ _ => rfl) (by rfl) (by rfl) (fun b G w hb ho hr => exec_cell hr (Nat.le_of_ble_eq_true rfl) Try.underlying3 rfl rfl (ev_on hLo 2 rfl HS1.1 rfl (hb 2 (by rfl))))) ?_
    refine steps_cons (st_run 4 _ rfl rfl hLo rfl rfl (fun _ _ _ _ => rfl) (fun b G w hb ho => exec_bin rfl (ev_on hLo 3 rfl HS1.1 rfl (hb 3 (by rfl))) (rfl) (rb_add (w_nat (by omega) (by omega)) _ _ _))) ?_
    refine steps_cons (st_run 5 _ rfl rfl hLo rfl rfl (fun _ _ _ _ => rfl) (fun b G w hb ho => exec_nil rfl (ev_on hLo 0 rfl HS1.1 rfl (hb 0 (by rfl))))) ?_
    refine steps_cons (st_run 6 _ rfl rfl hLo rfl rfl (fun _ _ _ _ => rfl) (fun b G w hb ho => exec_field rfl (ev_on hLo 5 rfl HS1.1 rfl (hb 5 (by rfl))) (by kernel_rfl))) ?_
    refine steps_cons (st_put 0 _ rfl rfl rfl rfl (fun _ _ _ _ => rfl) rfl rfl rfl (by rfl) (fun b G w hb ho hr => exec_put1 hr (Nat.le_of_ble_eq_true rfl) (by kernel_rfl) rfl (ev_on hLo 6 rfl HS1.1 rfl (hb 6 (by rfl))) (ev_on hLo 4 rfl HS1.1 rfl (hb 4 (by rfl))))) ?_
    exact steps_nil
  clear hLo
  intro G a2 w2 hS hH
  have HS2 : Sl a2 41 [(0, .pointer (some ⟨g, 0, none⟩)), (2, .bool false)] := hS
  have HH2 : Held ⟨w, [g]⟩ w2 [⟨g, (), 6, upd (spC ⟨al, sy, false, acts, inn, keep⟩) 3 (.i .i64 (((acts + 1 : Nat) : Int))), 53⟩] := hH
  clear hS hH HS1 HH1
  refine then_ ?_
  refine wp_seq ?_
  refine wp_seq ?_
  have hLo : LOk [(0, 10, .val (.pointer (some ⟨g, 0, none⟩))), (1, 11, .val (.pointer (some ⟨g, 0, none⟩))), (2, 12, .val (.pointer (some ⟨g, 4, none⟩))), (3, 13, .val (.int .i64 (((inn : Nat) : Int)))), (4, 14, .val (.int .i64 (((inn : Nat) : Int) - 1))), (5, 15, .val (.pointer (some ⟨g, 0, none⟩))), (6, 16, .val (.pointer (some ⟨g, 4, none⟩)))] := lok (by rfl) (by rfl)
  refine plain_ (wE := ⟨w, [g]⟩) (sz := 41) (n := 8) [0, 1, 3, 7, 15, 31, 63, 127] [(0, .val (.pointer (some ⟨g, 0, none⟩))), (2, .val (.bool false))] [(0, 10, .val (.pointer (some ⟨g, 0, none⟩))), (1, 11, .val (.pointer (some ⟨g, 0, none⟩))), (2, 12, .val (.pointer (some ⟨g, 4, none⟩))), (3, 13, .val (.int .i64 (((inn : Nat) : Int)))), (4, 14, .val (.int .i64 (((inn : Nat) : Int) - 1))), (5, 15, .val (.pointer (some ⟨g, 0, none⟩))), (6, 16, .val (.pointer (some ⟨g, 4, none⟩)))] [⟨g, none, some 7, (), 6, upd (spC ⟨al, sy, false, acts, inn, keep⟩) 3 (.i .i64 (((acts + 1 : Nat) : Int))), upd (upd (spC ⟨al, sy, false, acts, inn, keep⟩) 3 (.i .i64 (((acts + 1 : Nat) : Int)))) 4 (.i .i64 (((inn : Nat) : Int) - 1)), 53⟩] rfl (by rfl) HH2 rfl rfl hLo rfl HS2 (slS 0 rfl rfl (slS 1 rfl rfl (trivial))) ?_ ?_
  · show ∀ i ∈ [0, 1, 2, 3, 4, 5, 6, 7], _
    refine steps_cons (st_run 0 _ rfl rfl hLo rfl rfl (fun _ _ _ _ => rfl) (fun b G w hb ho => exec_move (.inl rfl) (ev_off rfl (HS2.get 0 rfl)))) ?_
    refine steps_cons (st_run 1 _ rfl rfl hLo rfl rfl (fun _ _ _ _ => rfl) (fun b G w hb ho => exec_nil rfl (ev_on hLo 0 rfl HS2.1 rfl (hb 0 (by rfl))))) ?_
    refine steps_cons (st_run 2 _ rfl rfl hLo rfl rfl (fun _ _ _ _ => rfl) (fun b G w hb ho => exec_field rfl (ev_on hLo 1 rfl HS2.1 rfl (hb 1 (by rfl))) (by kernel_rfl))) ?_
    refine steps_cons (st_read 3 0 _ _ rfl rfl rfl hLo rfl rfl (fun _ _ _ _ => rfl) (by rfl) (by rfl) (fun b G w hb ho hr => exec_cell hr (Nat.le_of_ble_eq_true rfl) Try.underlying3 rfl rfl (ev_on hLo 2 rfl HS2.1 rfl (hb 2 (by rfl))))) ?_
    refine steps_cons (st_run 4 _ rfl rfl hLo rfl rfl (fun _ _ _ _ => rfl) (fun b G w hb ho => exec_bin rfl (ev_on hLo 3 rfl HS2.1 rfl (hb 3 (by rfl))) (rfl) (rb_sub (w_int (by omega) (by omega)) _ _ _))) ?_
    refine steps_cons (st_run 5 _ rfl rfl hLo rfl rfl (fun _ _ _ _ => rfl) (fun b G w hb ho => exec_nil rfl (ev_on hLo 0 rfl HS2.1 rfl (hb 0 (by rfl))))) ?_
    refine steps_cons (st_run 6 _ rfl rfl hLo rfl rfl (fun _ _ _ _ => rfl) (fun b G w hb ho => exec_field rfl (ev_on hLo 5 rfl HS2.1 rfl (hb 5 (by rfl))) (by kernel_rfl))) ?_
    refine steps_cons (st_put 0 _ rfl rfl rfl rfl (fun _ _ _ _ => rfl) rfl rfl rfl (by rfl) (fun b G w hb ho hr => exec_put1 hr (Nat.le_of_ble_eq_true rfl) (by kernel_rfl) rfl (ev_on hLo 6 rfl HS2.1 rfl (hb 6 (by rfl))) (ev_on hLo 4 rfl HS2.1 rfl (hb 4 (by rfl))))) ?_
    exact steps_nil
  clear hLo
  intro G a3 w3 hS hH
  have HS3 : Sl a3 41 [(0, .pointer (some ⟨g, 0, none⟩)), (2, .bool false)] := hS
  have HH3 : Held ⟨w, [g]⟩ w3 [⟨g, (), 6, upd (upd (spC ⟨al, sy, false, acts, inn, keep⟩) 3 (.i .i64 (((acts + 1 : Nat) : Int)))) 4 (.i .i64 (((inn : Nat) : Int) - 1)), 53⟩] := hH
  clear hS hH HS2 HH2
  refine then_ ?_
  refine wp_seq ?_
  have hLo : LOk [(0, 17, .val (.pointer (some ⟨g, 0, none⟩))), (1, 18, .val (.pointer (some ⟨g, 0, none⟩))), (2, 19, .val (.pointer (some ⟨g, 4, none⟩))), (3, 20, .val (.int .i64 (((inn : Nat) : Int) - 1))), (4, 21, .val (.bool false))] := lok (by rfl) (by rfl)
  refine plain_ (wE := ⟨w, [g]⟩) (sz := 41) (n := 5) [0, 1, 3, 7, 15] [(0, .val (.pointer (some ⟨g, 0, none⟩))), (2, .val (.bool false)), (21, .val (.bool false))] [(0, 17, .val (.pointer (some ⟨g, 0, none⟩))), (1, 18, .val (.pointer (some ⟨g, 0, none⟩))), (2, 19, .val (.pointer (some ⟨g, 4, none⟩))), (3, 20, .val (.int .i64 (((inn : Nat) : Int) - 1))), (4, 21, .val (.bool false))] [⟨g, none, none, (), 6, upd (upd (spC ⟨al, sy, false, acts, inn, keep⟩) 3 (.i .i64 (((acts + 1 : Nat) : Int)))) 4 (.i .i64 (((inn : Nat) : Int) - 1)), upd (upd (spC ⟨al, sy, false, acts, inn, keep⟩) 3 (.i .i64 (((acts + 1 : Nat) : Int)))) 4 (.i .i64 (((inn : Nat) : Int) - 1)), 53⟩] rfl (by rfl) HH3 rfl rfl hLo rfl HS3 (slS 0 rfl rfl (slS 1 rfl rfl (slL 4 (d := 4) rfl (trivial)))) ?_ ?_
  · show ∀ i ∈ [0, 1, 2, 3, 4], _
    refine steps_cons (st_run 0 _ rfl rfl hLo rfl rfl (fun _ _ _ _ => rfl) (fun b G w hb ho => exec_move (.inl rfl) (ev_off rfl (HS3.get 0 rfl)))) ?_
    refine steps_cons (st_run 1 _ rfl rfl hLo rfl rfl (fun _ _ _ _ => rfl) (fun b G w hb ho => exec_nil rfl (ev_on hLo 0 rfl HS3.1 rfl (hb 0 (by rfl))))) ?_
    refine steps_cons (st_run 2 _ rfl rfl hLo rfl rfl (fun _ _ _ _ => rfl) (fun b G w hb ho => exec_field rfl (ev_on hLo 1 rfl HS3.1 rfl (hb 1 (by rfl))) (by kernel_rfl))) ?_
    refine steps_cons (st_read 3 0 _ _ rfl rfl rfl hLo rfl rfl (fun _ _ _ _ => rfl) (by rfl) (by rfl) (fun b G w hb ho hr => exec_cell hr (Nat.le_of_ble_eq_true rfl) Try.underlying3 rfl rfl (ev_on hLo 2 rfl HS3.1 rfl (hb 2 (by rfl))))) ?_
    refine steps_cons (st_run 4 _ rfl rfl hLo rfl rfl (fun _ _ _ _ => rfl) (fun b G w hb ho => exec_bin rfl (ev_on hLo 3 rfl HS3.1 rfl (hb 3 (by rfl))) (rfl) (rb_eql (beq_eq_false_iff_ne.2 (by omega)) _ _ _))) ?_
    exact steps_nil
  clear hLo
  intro G a4 w4 hS hH
  have HS4 : Sl a4 41 [(0, .pointer (some ⟨g, 0, none⟩)), (2, .bool false), (21, .bool false)] := hS
  have HH4 : Held ⟨w, [g]⟩ w4 [⟨g, (), 6, upd (upd (spC ⟨al, sy, false, acts, inn, keep⟩) 3 (.i .i64 (((acts + 1 : Nat) : Int)))) 4 (.i .i64 (((inn : Nat) : Int) - 1)), 53⟩] := hH
  clear hS hH HS3 HH3
  refine then_ ?_
  refine wp_cond_false (HS4.get 2 rfl) ?_
  refine wp_skip ?_
  refine then_ ?_
  refine wp_seq ?_
  have hLo : LOk [(0, 28, .val (.pointer (some ⟨g, 0, none⟩))), (1, 29, .val (.pointer (some ⟨g, 0, none⟩))), (2, 30, .val (.pointer (some ⟨g, 0, none⟩))), (3, 31, .val (.pointer (some ⟨g, 4, none⟩))), (4, 32, .val (.int .i64 (((inn : Nat) : Int) - 1))), (5, 33, .val (.int .i64 (((inn - 1 : Nat) : Int)))), (6, 34, .val (.pointer (some ⟨g, 0, none⟩))), (7, 35, .val (.pointer (some ⟨g, 4, none⟩)))] := lok (by rfl) (by rfl)
  refine plain_ (wE := ⟨w, [g]⟩) (sz := 41) (n := 9) [0, 1, 3, 7, 15, 31, 63, 127, 255] [(0, .val (.pointer (some ⟨g, 0, none⟩))), (2, .val (.bool false)), (21, .val (.bool false))] [(0, 28, .val (.pointer (some ⟨g, 0, none⟩))), (1, 29, .val (.pointer (some ⟨g, 0, none⟩))), (2, 30, .val (.pointer (some ⟨g, 0, none⟩))), (3, 31, .val (.pointer (some ⟨g, 4, none⟩))), (4, 32, .val (.int .i64 (((inn : Nat) : Int) - 1))), (5, 33, .val (.int .i64 (((inn - 1 : Nat) : Int)))), (6, 34, .val (.pointer (some ⟨g, 0, none⟩))), (7, 35, .val (.pointer (some ⟨g, 4, none⟩)))] [⟨g, none, some 8, (), 6, upd (upd (spC ⟨al, sy, false, acts, inn, keep⟩) 3 (.i .i64 (((acts + 1 : Nat) : Int)))) 4 (.i .i64 (((inn : Nat) : Int) - 1)), upd (upd (upd (spC ⟨al, sy, false, acts, inn, keep⟩) 3 (.i .i64 (((acts + 1 : Nat) : Int)))) 4 (.i .i64 (((inn : Nat) : Int) - 1))) 4 (.i .i64 (((inn - 1 : Nat) : Int))), 53⟩] rfl (by rfl) HH4 rfl rfl hLo rfl HS4 (slS 0 rfl rfl (slS 1 rfl rfl (slS 2 rfl rfl (trivial)))) ?_ ?_
  · show ∀ i ∈ [0, 1, 2, 3, 4, 5, 6, 7, 8], _
    refine steps_cons (st_run 0 _ rfl rfl hLo rfl rfl (fun _ _ _ _ => rfl) (fun b G w hb ho => exec_move (.inl rfl) (ev_off rfl (HS4.get 0 rfl)))) ?_
    refine steps_cons (st_run 1 _ rfl rfl hLo rfl rfl (fun _ _ _ _ => rfl) (fun b G w hb ho => exec_move (.inl rfl) (ev_off rfl (HS4.get 0 rfl)))) ?_
    refine steps_cons (st_run 2 _ rfl rfl hLo rfl rfl (fun _ _ _ _ => rfl) (fun b G w hb ho => exec_nil rfl (ev_on hLo 1 rfl HS4.1 rfl (hb 1 (by rfl))))) ?_
    refine steps_cons (st_run 3 _ rfl rfl hLo rfl rfl (fun _ _ _ _ => rfl) (fun b G w hb ho => exec_field rfl (ev_on hLo 2 rfl HS4.1 rfl (hb 2 (by rfl))) (by kernel_rfl))) ?_
    refine steps_cons (st_read 4 0 _ _ rfl rfl rfl hLo rfl rfl (fun _ _ _ _ => rfl) (by rfl) (by rfl) (fun b G w hb ho hr => exec_cell hr (Nat.le_of_ble_eq_true rfl) Try.underlying3 rfl rfl (ev_on hLo 3 rfl HS4.1 rfl (hb 3 (by rfl))))) ?_
    refine steps_cons (st_run 5 _ rfl rfl hLo rfl rfl (fun _ _ _ _ => rfl) (fun b G w hb ho => exec_max (mx_pred _) rfl (ev_on hLo 4 rfl HS4.1 rfl (hb 4 (by rfl))) (rfl))) ?_
    refine steps_cons (st_run 6 _ rfl rfl hLo rfl rfl (fun _ _ _ _ => rfl) (fun b G w hb ho => exec_nil rfl (ev_on hLo 0 rfl HS4.1 rfl (hb 0 (by rfl))))) ?_
    refine steps_cons (st_run 7 _ rfl rfl hLo rfl rfl (fun _ _ _ _ => rfl) (fun b G w hb ho => exec_field rfl (ev_on hLo 6 rfl HS4.1 rfl (hb 6 (by rfl))) (by kernel_rfl))) ?_
    refine steps_cons (st_put 0 _ rfl rfl rfl rfl (fun _ _ _ _ => rfl) rfl rfl rfl (by rfl) (fun b G w hb ho hr => exec_put1 hr (Nat.le_of_ble_eq_true rfl) (by kernel_rfl) rfl (ev_on hLo 7 rfl HS4.1 rfl (hb 7 (by rfl))) (ev_on hLo 5 rfl HS4.1 rfl (hb 5 (by rfl))))) ?_
    exact steps_nil
  clear hLo
  intro G a5 w5 hS hH
  have HS5 : Sl a5 41 [(0, .pointer (some ⟨g, 0, none⟩)), (2, .bool false), (21, .bool false)] := hS
  have HH5 : Held ⟨w, [g]⟩ w5 [⟨g, (), 6, upd (upd (upd (spC ⟨al, sy, false, acts, inn, keep⟩) 3 (.i .i64 (((acts + 1 : Nat) : Int)))) 4 (.i .i64 (((inn : Nat) : Int) - 1))) 4 (.i .i64 (((inn - 1 : Nat) : Int))), 53⟩] := hH
  clear hS hH HS4 HH4
  refine then_ ?_
  refine wp_seq ?_
  have hLo : LOk [(0, 36, .val (.pointer (some ⟨g, 0, none⟩))), (1, 37, .val (.pointer (some ⟨g, 0, none⟩))), (2, 38, .val (.pointer (some ⟨g, 2, none⟩))), (3, 39, .val (.bool false)), (4, 40, .val (.bool true)), (5, 2, .val (.bool true))] := lok (by rfl) (by rfl)
  refine plain_ (wE := ⟨w, [g]⟩) (sz := 41) (n := 6) [0, 1, 3, 7, 15, 31] [(0, .val (.pointer (some ⟨g, 0, none⟩))), (21, .val (.bool false)), (2, .val (.bool true))] [(0, 36, .val (.pointer (some ⟨g, 0, none⟩))), (1, 37, .val (.pointer (some ⟨g, 0, none⟩))), (2, 38, .val (.pointer (some ⟨g, 2, none⟩))), (3, 39, .val (.bool false)), (4, 40, .val (.bool true)), (5, 2, .val (.bool true))] [⟨g, none, none, (), 6, upd (upd (upd (spC ⟨al, sy, false, acts, inn, keep⟩) 3 (.i .i64 (((acts + 1 : Nat) : Int)))) 4 (.i .i64 (((inn : Nat) : Int) - 1))) 4 (.i .i64 (((inn - 1 : Nat) : Int))), upd (upd (upd (spC ⟨al, sy, false, acts, inn, keep⟩) 3 (.i .i64 (((acts + 1 : Nat) : Int)))) 4 (.i .i64 (((inn : Nat) : Int) - 1))) 4 (.i .i64 (((inn - 1 : Nat) : Int))), 53⟩] rfl (by rfl) HH5 rfl rfl hLo rfl HS5 (slS 0 rfl rfl (slS 2 rfl rfl (slL 5 (d := 5) rfl (trivial)))) ?_ ?_
  · show ∀ i ∈ [0, 1, 2, 3, 4, 5], _
    refine steps_cons (st_run 0 _ rfl rfl hLo rfl rfl (fun _ _ _ _ => rfl) (fun b G w hb ho => exec_move (.inl rfl) (ev_off rfl (HS5.get 0 rfl)))) ?_
    refine steps_cons (st_run 1 _ rfl rfl hLo rfl rfl (fun _ _ _ _ => rfl) (fun b G w hb ho => exec_nil rfl (ev_on hLo 0 rfl HS5.1 rfl (hb 0 (by rfl))))) ?_
    refine steps_cons (st_run 2 _ rfl rfl hLo rfl rfl (fun _ _ _ _ => rfl) (fun b G w hb ho => exec_field rfl (ev_on hLo 1 rfl HS5.1 rfl (hb 1 (by rfl))) (by kernel_rfl))) ?_
    refine steps_cons (st_read 3 0 _ _ rfl rfl rfl hLo rfl rfl (fun _ _ _ _ => rfl) (by rfl) (by rfl) (fun b G w hb ho hr => exec_cell hr (Nat.le_of_ble_eq_true rfl) Try.underlying4 rfl rfl (ev_on hLo 2 rfl HS5.1 rfl (hb 2 (by rfl))))) ?_
    refine steps_cons (st_run 4 _ rfl rfl hLo rfl rfl (fun _ _ _ _ => rfl) (fun b G w hb ho => exec_un rfl (ev_on hLo 3 rfl HS5.1 rfl (hb 3 (by rfl))) (ru_not _))) ?_
    refine steps_cons (st_run 5 _ rfl rfl hLo rfl rfl (fun _ _ _ _ => rfl) (fun b G w hb ho => exec_move (.inr rfl) (ev_on hLo 4 rfl HS5.1 rfl (hb 4 (by rfl))))) ?_
    exact steps_nil
  clear hLo
  intro G a6 w6 hS hH
  have HS6 : Sl a6 41 [(0, .pointer (some ⟨g, 0, none⟩)), (21, .bool false), (2, .bool true)] := hS
  have HH6 : Held ⟨w, [g]⟩ w6 [⟨g, (), 6, upd (upd (upd (spC ⟨al, sy, false, acts, inn, keep⟩) 3 (.i .i64 (((acts + 1 : Nat) : Int)))) 4 (.i .i64 (((inn : Nat) : Int) - 1))) 4 (.i .i64 (((inn - 1 : Nat) : Int))), 53⟩] := hH
  clear hS hH HS5 HH5
  refine then_ ?_
  refine wp_ret ?_
  repeat (first | refine then_ret ?_ | refine inBlock_ret' ?_)
  exact b_tmp rfl HS6.2.1 (HS6.get 2 rfl) ⟨rfl, Row.norm (HH6.row 0 rfl) (six ⟨rfl, rfl, rfl, rfl, rfl, rfl⟩), HH6.1⟩
theorem sync_goes {w : World} {g : Nat} {al : ByteArray} {sy : Nat} {acts : Nat} {keep : Int} (hr : Row w g () 6 (spC ⟨al, sy, false, acts, 1, keep⟩) 53) (hsy : sy ≤ al.size) (hal : al.size ≤ 4194304) (hac : acts ≤ 1000000) : Calls Try.prog 17 #[.pointer (some ⟨g, 0, none⟩)] w fun e w' => e = .returned (.int .i64 50) ∧ Row w' g () 6 (spC ⟨al.extract 0 (sy + kp keep (al.size - sy)), sy + kp keep (al.size - sy), true, acts + 1, 0, keep⟩) 53 ∧ Fr ⟨w, [g]⟩ w' := by
  refine enter_ 20 Try.func17 rfl rfl (fun a0 hS => ?_)
  have HS0 : Sl a0 20 [(0, .pointer (some ⟨g, 0, none⟩))] := hS
  have HH0 : Held ⟨w, [g]⟩ w [⟨g, (), 6, spC ⟨al, sy, false, acts, 1, keep⟩, 53⟩] := Held.one hr
  clear hS
  refine wp_seq ?_
  have hLo : LOk [(0, 2, .val (.int .i64 (0)))] := lok (by rfl) (by rfl)
  refine plain_ (wE := ⟨w, [g]⟩) (sz := 20) (n := 1) [0] [(0, .val (.pointer (some ⟨g, 0, none⟩))), (2, .val (.int .i64 (0)))] [(0, 2, .val (.int .i64 (0)))] [⟨g, none, none, (), 6, spC ⟨al, sy, false, acts, 1, keep⟩, spC ⟨al, sy, false, acts, 1, keep⟩, 53⟩] rfl (by rfl) HH0 rfl rfl hLo rfl HS0 (slS 0 rfl rfl (slL 0 (d := 0) rfl (trivial))) ?_ ?_
  · show ∀ i ∈ [0], _
    refine steps_cons (st_run 0 _ rfl rfl hLo rfl rfl (fun _ _ _ _ => rfl) (fun b G w hb ho => exec_move (.inr rfl) (rfl))) ?_
    exact steps_nil
  clear hLo
  intro G a1 w1 hS hH
  have HS1 : Sl a1 20 [(0, .pointer (some ⟨g, 0, none⟩)), (2, .int .i64 (0))] := hS
  have HH1 : Held ⟨w, [g]⟩ w1 [⟨g, (), 6, spC ⟨al, sy, false, acts, 1, keep⟩, 53⟩] := hH
  clear hS hH HS0 HH0
  refine then_ ?_
  refine wp_seq ?_
  refine wp_seq ?_
  have hLo : LOk [(0, 4, .val (.pointer (some ⟨g, 0, none⟩))), (1, 5, .val (.int .i64 (0))), (2, 3, .val (.int .i64 (0)))] := lok (by rfl) (by rfl)
  refine plain_ (wE := ⟨w, [g]⟩) (sz := 20) (n := 3) [0, 1, 3] [(0, .val (.pointer (some ⟨g, 0, none⟩))), (2, .val (.int .i64 (0))), (3, .val (.int .i64 (0)))] [(0, 4, .val (.pointer (some ⟨g, 0, none⟩))), (1, 5, .val (.int .i64 (0))), (2, 3, .val (.int .i64 (0)))] [⟨g, none, none, (), 6, spC ⟨al, sy, false, acts, 1, keep⟩, spC ⟨al, sy, false, acts, 1, keep⟩, 53⟩] rfl (by rfl) HH1 rfl rfl hLo rfl HS1 (slS 0 rfl rfl (slS 1 rfl rfl (slL 2 (d := 2) rfl (trivial)))) ?_ ?_
  · show ∀ i ∈ [0, 1, 2], _
    refine steps_cons (st_run 0 _ rfl rfl hLo rfl rfl (fun _ _ _ _ => rfl) (fun b G w hb ho => exec_move (.inl rfl) (ev_off rfl (HS1.get 0 rfl)))) ?_
    refine steps_cons (st_callRB 1 0 _ _ (fun G => #[.pointer (some ⟨g, 0, none⟩)]) rfl rfl rfl rfl (fun _ _ _ _ => rfl) hLo rfl rfl (by rfl) (by rfl) Try.func29 rfl rfl (fun b G hb ho => args1 (ev_on hLo 0 rfl HS1.1 rfl (hb 0 (by rfl)))) (fun G w hw hr => ready_on hr)) ?_
    refine steps_cons (st_run 2 _ rfl rfl hLo rfl rfl (fun _ _ _ _ => rfl) (fun b G w hb ho => exec_move (.inr rfl) (ev_on hLo 1 rfl HS1.1 rfl (hb 1 (by rfl))))) ?_
    exact steps_nil
  clear hLo
  intro G a2 w2 hS hH
  have HS2 : Sl a2 20 [(0, .pointer (some ⟨g, 0, none⟩)), (2, .int .i64 (0)), (3, .int .i64 (0))] := hS
  have HH2 : Held ⟨w, [g]⟩ w2 [⟨g, (), 6, spC ⟨al, sy, false, acts, 1, keep⟩, 53⟩] := hH
  clear hS hH HS1 HH1
  refine then_ ?_
  refine wp_seq ?_
  have hLo : LOk [(0, 6, .val (.int .i64 (0))), (1, 7, .val (.bool false))] := lok (by rfl) (by rfl)
  refine plain_ (wE := ⟨w, [g]⟩) (sz := 20) (n := 2) [0, 1] [(0, .val (.pointer (some ⟨g, 0, none⟩))), (2, .val (.int .i64 (0))), (3, .val (.int .i64 (0))), (7, .val (.bool false))] [(0, 6, .val (.int .i64 (0))), (1, 7, .val (.bool false))] [⟨g, none, none, (), 6, spC ⟨al, sy, false, acts, 1, keep⟩, spC ⟨al, sy, false, acts, 1, keep⟩, 53⟩] rfl (by rfl) HH2 rfl rfl hLo rfl HS2 (slS 0 rfl rfl (slS 1 rfl rfl (slS 2 rfl rfl (slL 1 (d := 1) rfl (trivial))))) ?_ ?_
  · show ∀ i ∈ [0, 1], _
    refine steps_cons (st_run 0 _ rfl rfl hLo rfl rfl (fun _ _ _ _ => rfl) (fun b G w hb ho => exec_move (.inl rfl) (ev_off rfl (HS2.get 2 rfl)))) ?_
    refine steps_cons (st_run 1 _ rfl rfl hLo rfl rfl (fun _ _ _ _ => rfl) (fun b G w hb ho => exec_bin rfl (ev_on hLo 0 rfl HS2.1 rfl (hb 0 (by rfl))) (rfl) (rb_neq (rfl) _ _ _))) ?_
    exact steps_nil
  clear hLo
  intro G a3 w3 hS hH
  have HS3 : Sl a3 20 [(0, .pointer (some ⟨g, 0, none⟩)), (2, .int .i64 (0)), (3, .int .i64 (0)), (7, .bool false)] := hS
  have HH3 : Held ⟨w, [g]⟩ w3 [⟨g, (), 6, spC ⟨al, sy, false, acts, 1, keep⟩, 53⟩] := hH
  clear hS hH HS2 HH2
  refine then_ ?_
  refine wp_cond_false (HS3.get 3 rfl) ?_
  refine wp_skip ?_
  refine then_ ?_
  refine wp_seq ?_
  refine wp_seq ?_
  have hLo : LOk [(0, 9, .val (.pointer (some ⟨g, 0, none⟩))), (1, 10, .val (.bool false)), (2, 11, .val (.bool true))] := lok (by rfl) (by rfl)
  refine plain_ (wE := ⟨w, [g]⟩) (sz := 20) (n := 3) [0, 1, 3] [(0, .val (.pointer (some ⟨g, 0, none⟩))), (2, .val (.int .i64 (0))), (3, .val (.int .i64 (0))), (7, .val (.bool false)), (11, .val (.bool true))] [(0, 9, .val (.pointer (some ⟨g, 0, none⟩))), (1, 10, .val (.bool false)), (2, 11, .val (.bool true))] [⟨g, none, some 1, (), 6, spC ⟨al, sy, false, acts, 1, keep⟩, spC ⟨al.extract 0 (sy + kp keep (al.size - sy)), sy + kp keep (al.size - sy), true, acts + 1, 0, keep⟩, 53⟩] rfl (by rfl) HH3 rfl rfl hLo rfl HS3 (slS 0 rfl rfl (slS 1 rfl rfl (slS 2 rfl rfl (slS 3 rfl rfl (slL 2 (d := 2) rfl (trivial)))))) ?_ ?_
  · show ∀ i ∈ [0, 1, 2], _
    refine steps_cons (st_run 0 _ rfl rfl hLo rfl rfl (fun _ _ _ _ => rfl) (fun b G w hb ho => exec_move (.inl rfl) (ev_off rfl (HS3.get 0 rfl)))) ?_
    refine steps_cons (st_callM 1 0 _ _ (fun G => #[.pointer (some ⟨g, 0, none⟩)]) rfl rfl rfl rfl rfl (fun _ _ _ _ => rfl) hLo rfl (by rfl) (by rfl) (by rfl) Try.func38 rfl rfl (fun b G hb ho => args1 (ev_on hLo 0 rfl HS3.1 rfl (hb 0 (by rfl)))) (fun G w hw hr => act_goes hr hsy hal hac)) ?_
    refine steps_cons (st_run 2 _ rfl rfl hLo rfl rfl (fun _ _ _ _ => rfl) (fun b G w hb ho => exec_un rfl (ev_on hLo 1 rfl HS3.1 rfl (hb 1 (by rfl))) (ru_not _))) ?_
    exact steps_nil
  clear hLo
  intro G a4 w4 hS hH
  have HS4 : Sl a4 20 [(0, .pointer (some ⟨g, 0, none⟩)), (2, .int .i64 (0)), (3, .int .i64 (0)), (7, .bool false), (11, .bool true)] := hS
  have HH4 : Held ⟨w, [g]⟩ w4 [⟨g, (), 6, spC ⟨al.extract 0 (sy + kp keep (al.size - sy)), sy + kp keep (al.size - sy), true, acts + 1, 0, keep⟩, 53⟩] := hH
  clear hS hH HS3 HH3
  refine then_ ?_
  refine wp_cond_true (HS4.get 4 rfl) ?_
  refine wp_seq ?_
  have hLo : LOk [(0, 2, .val (.int .i64 (50)))] := lok (by rfl) (by rfl)
  refine plain_ (wE := ⟨w, [g]⟩) (sz := 20) (n := 1) [0] [(0, .val (.pointer (some ⟨g, 0, none⟩))), (3, .val (.int .i64 (0))), (7, .val (.bool false)), (11, .val (.bool true)), (2, .val (.int .i64 (50)))] [(0, 2, .val (.int .i64 (50)))] [⟨g, none, none, (), 6, spC ⟨al.extract 0 (sy + kp keep (al.size - sy)), sy + kp keep (al.size - sy), true, acts + 1, 0, keep⟩, spC ⟨al.extract 0 (sy + kp keep (al.size - sy)), sy + kp keep (al.size - sy), true, acts + 1, 0, keep⟩, 53⟩] rfl (by rfl) HH4 rfl rfl hLo rfl HS4 (slS 0 rfl rfl (slS 2 rfl rfl (slS 3 rfl rfl (slS 4 rfl rfl (slL 0 (d := 0) rfl (trivial)))))) ?_ ?_
  · show ∀ i ∈ [0], _
    refine steps_cons (st_run 0 _ rfl rfl hLo rfl rfl (fun _ _ _ _ => rfl) (fun b G w hb ho => exec_move (.inr rfl) (rfl))) ?_
    exact steps_nil
  clear hLo
  intro G a5 w5 hS hH
  have HS5 : Sl a5 20 [(0, .pointer (some ⟨g, 0, none⟩)), (3, .int .i64 (0)), (7, .bool false), (11, .bool true), (2, .int .i64 (50))] := hS
  have HH5 : Held ⟨w, [g]⟩ w5 [⟨g, (), 6, spC ⟨al.extract 0 (sy + kp keep (al.size - sy)), sy + kp keep (al.size - sy), true, acts + 1, 0, keep⟩, 53⟩] := hH
  clear hS hH HS4 HH4
  refine then_ ?_
  refine wp_ret ?_
  repeat (first | refine then_ret ?_ | refine inBlock_ret' ?_)
  exact b_tmp rfl HS5.2.1 (HS5.get 4 rfl) ⟨rfl, Row.norm (HH5.row 0 rfl) (six ⟨rfl, rfl, rfl, rfl, rfl, rfl⟩), HH5.1⟩
theorem sync_stays {w : World} {g : Nat} {al : ByteArray} {sy : Nat} {acts inn : Nat} {keep : Int} (hr : Row w g () 6 (spC ⟨al, sy, false, acts, inn, keep⟩) 53) (hac : acts ≤ 1000000) (hin : inn < 9223372036854775808) (hi1 : inn ≠ 1) : Calls Try.prog 17 #[.pointer (some ⟨g, 0, none⟩)] w fun e w' => e = .returned (.int .i64 0) ∧ Row w' g () 6 (spC ⟨al, al.size, false, acts + 1, inn - 1, keep⟩) 53 ∧ Fr ⟨w, [g]⟩ w' := by
  refine enter_ 20 Try.func17 rfl rfl (fun a0 hS => ?_)
  have HS0 : Sl a0 20 [(0, .pointer (some ⟨g, 0, none⟩))] := hS
  have HH0 : Held ⟨w, [g]⟩ w [⟨g, (), 6, spC ⟨al, sy, false, acts, inn, keep⟩, 53⟩] := Held.one hr
  clear hS
  refine wp_seq ?_
  have hLo : LOk [(0, 2, .val (.int .i64 (0)))] := lok (by rfl) (by rfl)
  refine plain_ (wE := ⟨w, [g]⟩) (sz := 20) (n := 1) [0] [(0, .val (.pointer (some ⟨g, 0, none⟩))), (2, .val (.int .i64 (0)))] [(0, 2, .val (.int .i64 (0)))] [⟨g, none, none, (), 6, spC ⟨al, sy, false, acts, inn, keep⟩, spC ⟨al, sy, false, acts, inn, keep⟩, 53⟩] rfl (by rfl) HH0 rfl rfl hLo rfl HS0 (slS 0 rfl rfl (slL 0 (d := 0) rfl (trivial))) ?_ ?_
  · show ∀ i ∈ [0], _
    refine steps_cons (st_run 0 _ rfl rfl hLo rfl rfl (fun _ _ _ _ => rfl) (fun b G w hb ho => exec_move (.inr rfl) (rfl))) ?_
    exact steps_nil
  clear hLo
  intro G a1 w1 hS hH
  have HS1 : Sl a1 20 [(0, .pointer (some ⟨g, 0, none⟩)), (2, .int .i64 (0))] := hS
  have HH1 : Held ⟨w, [g]⟩ w1 [⟨g, (), 6, spC ⟨al, sy, false, acts, inn, keep⟩, 53⟩] := hH
  clear hS hH HS0 HH0
  refine then_ ?_
  refine wp_seq ?_
  refine wp_seq ?_
  have hLo : LOk [(0, 4, .val (.pointer (some ⟨g, 0, none⟩))), (1, 5, .val (.int .i64 (0))), (2, 3, .val (.int .i64 (0)))] := lok (by rfl) (by rfl)
  refine plain_ (wE := ⟨w, [g]⟩) (sz := 20) (n := 3) [0, 1, 3] [(0, .val (.pointer (some ⟨g, 0, none⟩))), (2, .val (.int .i64 (0))), (3, .val (.int .i64 (0)))] [(0, 4, .val (.pointer (some ⟨g, 0, none⟩))), (1, 5, .val (.int .i64 (0))), (2, 3, .val (.int .i64 (0)))] [⟨g, none, none, (), 6, spC ⟨al, sy, false, acts, inn, keep⟩, spC ⟨al, sy, false, acts, inn, keep⟩, 53⟩] rfl (by rfl) HH1 rfl rfl hLo rfl HS1 (slS 0 rfl rfl (slS 1 rfl rfl (slL 2 (d := 2) rfl (trivial)))) ?_ ?_
  · show ∀ i ∈ [0, 1, 2], _
    refine steps_cons (st_run 0 _ rfl rfl hLo rfl rfl (fun _ _ _ _ => rfl) (fun b G w hb ho => exec_move (.inl rfl) (ev_off rfl (HS1.get 0 rfl)))) ?_
    refine steps_cons (st_callRB 1 0 _ _ (fun G => #[.pointer (some ⟨g, 0, none⟩)]) rfl rfl rfl rfl (fun _ _ _ _ => rfl) hLo rfl rfl (by rfl) (by rfl) Try.func29 rfl rfl (fun b G hb ho => args1 (ev_on hLo 0 rfl HS1.1 rfl (hb 0 (by rfl)))) (fun G w hw hr => ready_on hr)) ?_
    refine steps_cons (st_run 2 _ rfl rfl hLo rfl rfl (fun _ _ _ _ => rfl) (fun b G w hb ho => exec_move (.inr rfl) (ev_on hLo 1 rfl HS1.1 rfl (hb 1 (by rfl))))) ?_
    exact steps_nil
  clear hLo
  intro G a2 w2 hS hH
  have HS2 : Sl a2 20 [(0, .pointer (some ⟨g, 0, none⟩)), (2, .int .i64 (0)), (3, .int .i64 (0))] := hS
  have HH2 : Held ⟨w, [g]⟩ w2 [⟨g, (), 6, spC ⟨al, sy, false, acts, inn, keep⟩, 53⟩] := hH
  clear hS hH HS1 HH1
  refine then_ ?_
  refine wp_seq ?_
  have hLo : LOk [(0, 6, .val (.int .i64 (0))), (1, 7, .val (.bool false))] := lok (by rfl) (by rfl)
  refine plain_ (wE := ⟨w, [g]⟩) (sz := 20) (n := 2) [0, 1] [(0, .val (.pointer (some ⟨g, 0, none⟩))), (2, .val (.int .i64 (0))), (3, .val (.int .i64 (0))), (7, .val (.bool false))] [(0, 6, .val (.int .i64 (0))), (1, 7, .val (.bool false))] [⟨g, none, none, (), 6, spC ⟨al, sy, false, acts, inn, keep⟩, spC ⟨al, sy, false, acts, inn, keep⟩, 53⟩] rfl (by rfl) HH2 rfl rfl hLo rfl HS2 (slS 0 rfl rfl (slS 1 rfl rfl (slS 2 rfl rfl (slL 1 (d := 1) rfl (trivial))))) ?_ ?_
  · show ∀ i ∈ [0, 1], _
    refine steps_cons (st_run 0 _ rfl rfl hLo rfl rfl (fun _ _ _ _ => rfl) (fun b G w hb ho => exec_move (.inl rfl) (ev_off rfl (HS2.get 2 rfl)))) ?_
    refine steps_cons (st_run 1 _ rfl rfl hLo rfl rfl (fun _ _ _ _ => rfl) (fun b G w hb ho => exec_bin rfl (ev_on hLo 0 rfl HS2.1 rfl (hb 0 (by rfl))) (rfl) (rb_neq (rfl) _ _ _))) ?_
    exact steps_nil
  clear hLo
  intro G a3 w3 hS hH
  have HS3 : Sl a3 20 [(0, .pointer (some ⟨g, 0, none⟩)), (2, .int .i64 (0)), (3, .int .i64 (0)), (7, .bool false)] := hS
  have HH3 : Held ⟨w, [g]⟩ w3 [⟨g, (), 6, spC ⟨al, sy, false, acts, inn, keep⟩, 53⟩] := hH
  clear hS hH HS2 HH2
  refine then_ ?_
  refine wp_cond_false (HS3.get 3 rfl) ?_
  refine wp_skip ?_
  refine then_ ?_
  refine wp_seq ?_
  refine wp_seq ?_
  have hLo : LOk [(0, 9, .val (.pointer (some ⟨g, 0, none⟩))), (1, 10, .val (.bool true)), (2, 11, .val (.bool false))] := lok (by rfl) (by rfl)
  refine plain_ (wE := ⟨w, [g]⟩) (sz := 20) (n := 3) [0, 1, 3] [(0, .val (.pointer (some ⟨g, 0, none⟩))), (2, .val (.int .i64 (0))), (3, .val (.int .i64 (0))), (7, .val (.bool false)), (11, .val (.bool false))] [(0, 9, .val (.pointer (some ⟨g, 0, none⟩))), (1, 10, .val (.bool true)), (2, 11, .val (.bool false))] [⟨g, none, some 1, (), 6, spC ⟨al, sy, false, acts, inn, keep⟩, spC ⟨al, sy, false, acts + 1, inn - 1, keep⟩, 53⟩] rfl (by rfl) HH3 rfl rfl hLo rfl HS3 (slS 0 rfl rfl (slS 1 rfl rfl (slS 2 rfl rfl (slS 3 rfl rfl (slL 2 (d := 2) rfl (trivial)))))) ?_ ?_
  · show ∀ i ∈ [0, 1, 2], _
    refine steps_cons (st_run 0 _ rfl rfl hLo rfl rfl (fun _ _ _ _ => rfl) (fun b G w hb ho => exec_move (.inl rfl) (ev_off rfl (HS3.get 0 rfl)))) ?_
    refine steps_cons (st_callM 1 0 _ _ (fun G => #[.pointer (some ⟨g, 0, none⟩)]) rfl rfl rfl rfl rfl (fun _ _ _ _ => rfl) hLo rfl (by rfl) (by rfl) (by rfl) Try.func38 rfl rfl (fun b G hb ho => args1 (ev_on hLo 0 rfl HS3.1 rfl (hb 0 (by rfl)))) (fun G w hw hr => act_stays hr hac hin hi1)) ?_
    refine steps_cons (st_run 2 _ rfl rfl hLo rfl rfl (fun _ _ _ _ => rfl) (fun b G w hb ho => exec_un rfl (ev_on hLo 1 rfl HS3.1 rfl (hb 1 (by rfl))) (ru_not _))) ?_
    exact steps_nil
  clear hLo
  intro G a4 w4 hS hH
  have HS4 : Sl a4 20 [(0, .pointer (some ⟨g, 0, none⟩)), (2, .int .i64 (0)), (3, .int .i64 (0)), (7, .bool false), (11, .bool false)] := hS
  have HH4 : Held ⟨w, [g]⟩ w4 [⟨g, (), 6, spC ⟨al, sy, false, acts + 1, inn - 1, keep⟩, 53⟩] := hH
  clear hS hH HS3 HH3
  refine then_ ?_
  refine wp_cond_false (HS4.get 4 rfl) ?_
  refine wp_skip ?_
  refine then_ ?_
  refine wp_seq ?_
  have hLo : LOk [(0, 12, .val (.pointer (some ⟨g, 0, none⟩))), (1, 13, .val (.pointer (some ⟨g, 0, none⟩))), (2, 14, .val (.pointer (some ⟨g, 0, none⟩))), (3, 15, .val (.pointer (some ⟨g, 0, none⟩))), (4, 16, .val (.string (al))), (5, 17, .val (.int .i64 (((al).size : Int)))), (6, 18, .val (.pointer (some ⟨g, 0, none⟩))), (7, 19, .val (.pointer (some ⟨g, 1, none⟩)))] := lok (by rfl) (by rfl)
  refine plain_ (wE := ⟨w, [g]⟩) (sz := 20) (n := 9) [0, 1, 3, 7, 15, 31, 63, 127, 255] [(0, .val (.pointer (some ⟨g, 0, none⟩))), (2, .val (.int .i64 (0))), (3, .val (.int .i64 (0))), (7, .val (.bool false)), (11, .val (.bool false))] [(0, 12, .val (.pointer (some ⟨g, 0, none⟩))), (1, 13, .val (.pointer (some ⟨g, 0, none⟩))), (2, 14, .val (.pointer (some ⟨g, 0, none⟩))), (3, 15, .val (.pointer (some ⟨g, 0, none⟩))), (4, 16, .val (.string (al))), (5, 17, .val (.int .i64 (((al).size : Int)))), (6, 18, .val (.pointer (some ⟨g, 0, none⟩))), (7, 19, .val (.pointer (some ⟨g, 1, none⟩)))] [⟨g, none, some 8, (), 6, spC ⟨al, sy, false, acts + 1, inn - 1, keep⟩, upd (spC ⟨al, sy, false, acts + 1, inn - 1, keep⟩) 1 (.i .i64 (((al).size : Int))), 53⟩] rfl (by rfl) HH4 rfl rfl hLo rfl HS4 (slS 0 rfl rfl (slS 1 rfl rfl (slS 2 rfl rfl (slS 3 rfl rfl (slS 4 rfl rfl (trivial)))))) ?_ ?_
  · show ∀ i ∈ [0, 1, 2, 3, 4, 5, 6, 7, 8], _
    refine steps_cons (st_run 0 _ rfl rfl hLo rfl rfl (fun _ _ _ _ => rfl) (fun b G w hb ho => exec_move (.inl rfl) (ev_off rfl (HS4.get 0 rfl)))) ?_
    refine steps_cons (st_run 1 _ rfl rfl hLo rfl rfl (fun _ _ _ _ => rfl) (fun b G w hb ho => exec_move (.inl rfl) (ev_off rfl (HS4.get 0 rfl)))) ?_
    refine steps_cons (st_run 2 _ rfl rfl hLo rfl rfl (fun _ _ _ _ => rfl) (fun b G w hb ho => exec_nil rfl (ev_on hLo 1 rfl HS4.1 rfl (hb 1 (by rfl))))) ?_
    refine steps_cons (st_run 3 _ rfl rfl hLo rfl rfl (fun _ _ _ _ => rfl) (fun b G w hb ho => exec_field rfl (ev_on hLo 2 rfl HS4.1 rfl (hb 2 (by rfl))) (by kernel_rfl))) ?_
    refine steps_cons (st_read 4 0 _ _ rfl rfl rfl hLo rfl rfl (fun _ _ _ _ => rfl) (by rfl) (by rfl) (fun b G w hb ho hr => exec_cell hr (Nat.le_of_ble_eq_true rfl) Try.underlying9 rfl rfl (ev_on hLo 3 rfl HS4.1 rfl (hb 3 (by rfl))))) ?_
    refine steps_cons (st_run 5 _ rfl rfl hLo rfl rfl (fun _ _ _ _ => rfl) (fun b G w hb ho => exec_lenS Try.underlying9 rfl (ev_on hLo 4 rfl HS4.1 rfl (hb 4 (by rfl))))) ?_
    refine steps_cons (st_run 6 _ rfl rfl hLo rfl rfl (fun _ _ _ _ => rfl) (fun b G w hb ho => exec_nil rfl (ev_on hLo 0 rfl HS4.1 rfl (hb 0 (by rfl))))) ?_
    refine steps_cons (st_run 7 _ rfl rfl hLo rfl rfl (fun _ _ _ _ => rfl) (fun b G w hb ho => exec_field rfl (ev_on hLo 6 rfl HS4.1 rfl (hb 6 (by rfl))) (by kernel_rfl))) ?_
    refine steps_cons (st_put 0 _ rfl rfl rfl rfl (fun _ _ _ _ => rfl) rfl rfl rfl (by rfl) (fun b G w hb ho hr => exec_put1 hr (Nat.le_of_ble_eq_true rfl) (by kernel_rfl) rfl (ev_on hLo 7 rfl HS4.1 rfl (hb 7 (by rfl))) (ev_on hLo 5 rfl HS4.1 rfl (hb 5 (by rfl))))) ?_
    exact steps_nil
  clear hLo
  intro G a5 w5 hS hH
  have HS5 : Sl a5 20 [(0, .pointer (some ⟨g, 0, none⟩)), (2, .int .i64 (0)), (3, .int .i64 (0)), (7, .bool false), (11, .bool false)] := hS
  have HH5 : Held ⟨w, [g]⟩ w5 [⟨g, (), 6, upd (spC ⟨al, sy, false, acts + 1, inn - 1, keep⟩) 1 (.i .i64 (((al).size : Int))), 53⟩] := hH
  clear hS hH HS4 HH4
  refine then_ ?_
  refine wp_seq ?_
  have hLo : LOk [(0, 2, .val (.int .i64 (0)))] := lok (by rfl) (by rfl)
  refine plain_ (wE := ⟨w, [g]⟩) (sz := 20) (n := 1) [0] [(0, .val (.pointer (some ⟨g, 0, none⟩))), (3, .val (.int .i64 (0))), (7, .val (.bool false)), (11, .val (.bool false)), (2, .val (.int .i64 (0)))] [(0, 2, .val (.int .i64 (0)))] [⟨g, none, none, (), 6, upd (spC ⟨al, sy, false, acts + 1, inn - 1, keep⟩) 1 (.i .i64 (((al).size : Int))), upd (spC ⟨al, sy, false, acts + 1, inn - 1, keep⟩) 1 (.i .i64 (((al).size : Int))), 53⟩] rfl (by rfl) HH5 rfl rfl hLo rfl HS5 (slS 0 rfl rfl (slS 2 rfl rfl (slS 3 rfl rfl (slS 4 rfl rfl (slL 0 (d := 0) rfl (trivial)))))) ?_ ?_
  · show ∀ i ∈ [0], _
    refine steps_cons (st_run 0 _ rfl rfl hLo rfl rfl (fun _ _ _ _ => rfl) (fun b G w hb ho => exec_move (.inr rfl) (rfl))) ?_
    exact steps_nil
  clear hLo
  intro G a6 w6 hS hH
  have HS6 : Sl a6 20 [(0, .pointer (some ⟨g, 0, none⟩)), (3, .int .i64 (0)), (7, .bool false), (11, .bool false), (2, .int .i64 (0))] := hS
  have HH6 : Held ⟨w, [g]⟩ w6 [⟨g, (), 6, upd (spC ⟨al, sy, false, acts + 1, inn - 1, keep⟩) 1 (.i .i64 (((al).size : Int))), 53⟩] := hH
  clear hS hH HS5 HH5
  refine then_ ?_
  refine wp_ret ?_
  repeat (first | refine then_ret ?_ | refine inBlock_ret' ?_)
  exact b_tmp rfl HS6.2.1 (HS6.get 4 rfl) ⟨rfl, Row.norm (HH6.row 0 rfl) (six ⟨rfl, rfl, rfl, rfl, rfl, rfl⟩), HH6.1⟩
theorem new_calls {w : World} {b : ByteArray} (hb : b.size ≤ 4194304) : Calls Try.prog 9 #[.string b] w fun e w' => ∃ g, e = .returned (.pointer (some ⟨g, 0, none⟩)) ∧ w.heap.size ≤ g ∧ Row w' g () 6 (spC ⟨b, b.size, false, 0, 0, 0⟩) 53 ∧ Below w.heap.size w w' := by
  refine enter_ 13 Try.func9 rfl rfl (fun a0 hS => ?_)
  have HS0 : Sl a0 13 [(0, .string (b))] := hS
  have HH0 : Held ⟨w, []⟩ w [] := Held.first w []
  clear hS
  refine wp_seq ?_
  have hLo : LOk [(0, 2, .val (.pointer none))] := lok (by rfl) (by rfl)
  refine plain_ (wE := ⟨w, []⟩) (sz := 13) (n := 1) [0] [(0, .val (.string (b))), (2, .val (.pointer none))] [(0, 2, .val (.pointer none))] [] rfl (by rfl) HH0 rfl rfl hLo rfl HS0 (slS 0 rfl rfl (slL 0 (d := 0) rfl (trivial))) ?_ ?_
  · show ∀ i ∈ [0], _
    refine steps_cons (st_run 0 _ rfl rfl hLo rfl rfl (fun _ _ _ _ => rfl) (fun b G w hb ho => exec_move (.inr rfl) (rfl))) ?_
    exact steps_nil
  clear hLo
  intro G a1 w1 hS hH
  have HS1 : Sl a1 13 [(0, .string (b)), (2, .pointer none)] := hS
  have HH1 : Held ⟨w, []⟩ w1 [] := hH
  clear hS hH HS0 HH0
  refine then_ ?_
  refine wp_seq ?_
  have hLo : LOk [(0, 3, .val (.string (b))), (1, 4, .val (.string (b))), (2, 5, .val (.int .i64 (((b).size : Int)))), (3, 6, .val (.int .i64 (((b.size : Nat) : Int)))), (4, 7, .val (.string ((b).extract 0 (b.size)))), (5, 0, .val (.string ((b).extract 0 (b.size))))] := lok (by rfl) (by rfl)
  refine plain_ (wE := ⟨w, []⟩) (sz := 13) (n := 6) [0, 1, 3, 7, 15, 31] [(2, .val (.pointer none)), (0, .val (.string ((b).extract 0 (b.size))))] [(0, 3, .val (.string (b))), (1, 4, .val (.string (b))), (2, 5, .val (.int .i64 (((b).size : Int)))), (3, 6, .val (.int .i64 (((b.size : Nat) : Int)))), (4, 7, .val (.string ((b).extract 0 (b.size)))), (5, 0, .val (.string ((b).extract 0 (b.size))))] [] rfl (by rfl) HH1 rfl rfl hLo rfl HS1 (slS 1 rfl rfl (slL 5 (d := 5) rfl (trivial))) ?_ ?_
  · show ∀ i ∈ [0, 1, 2, 3, 4, 5], _
    refine steps_cons (st_run 0 _ rfl rfl hLo rfl rfl (fun _ _ _ _ => rfl) (fun b G w hb ho => exec_move (.inl rfl) (ev_pre hLo 5 rfl (ho 5 (by rfl)) (HS1.get 0 rfl)))) ?_
    refine steps_cons (st_run 1 _ rfl rfl hLo rfl rfl (fun _ _ _ _ => rfl) (fun b G w hb ho => exec_move (.inl rfl) (ev_pre hLo 5 rfl (ho 5 (by rfl)) (HS1.get 0 rfl)))) ?_
    refine steps_cons (st_run 2 _ rfl rfl hLo rfl rfl (fun _ _ _ _ => rfl) (fun b G w hb ho => exec_lenS Try.underlying9 rfl (ev_on hLo 1 rfl HS1.1 rfl (hb 1 (by rfl))))) ?_
    refine steps_cons (st_run 3 _ rfl rfl hLo rfl rfl (fun _ _ _ _ => rfl) (fun b G w hb ho => exec_min (mn_big (by omega)) rfl (ev_on hLo 2 rfl HS1.1 rfl (hb 2 (by rfl))) (rfl))) ?_
    refine steps_cons (st_run 4 _ rfl rfl hLo rfl rfl (fun _ _ _ _ => rfl) (fun b G w hb ho => exec_slice rfl (ev_on hLo 0 rfl HS1.1 rfl (hb 0 (by rfl))) rfl (congrArg some (ev_on hLo 3 rfl HS1.1 rfl (hb 3 (by rfl)))) rfl (rs_hi Try.underlying9 ((Nat.le_refl _)) _))) ?_
    refine steps_cons (st_run 5 _ rfl rfl hLo rfl rfl (fun _ _ _ _ => rfl) (fun b G w hb ho => exec_move (.inr rfl) (ev_on hLo 4 rfl HS1.1 rfl (hb 4 (by rfl))))) ?_
    exact steps_nil
  clear hLo
  intro G a2 w2 hS hH
  have HS2 : Sl a2 13 [(2, .pointer none), (0, .string ((b).extract 0 (b.size)))] := hS
  have HH2 : Held ⟨w, []⟩ w2 [] := hH
  clear hS hH HS1 HH1
  refine then_ ?_
  refine wp_seq ?_
  refine whole_ ?_
  have hLo : LOk [(0, 8, .val (.string ((b).extract 0 (b.size)))), (1, 9, .val (.string ((b).extract 0 (b.size)))), (2, 10, .val (.int .i64 ((((b).extract 0 (b.size)).size : Int)))), (3, 11, .val (.agg (FR () 6 (lsc [.s ((b).extract 0 (b.size)), .i .i64 ((((b).extract 0 (b.size)).size : Int)), .b (false), .i .i64 (0), .i .i64 (0), .i .i64 (0)])))), (4, 12, .new 4 (fun g => .pointer (some ⟨g, 0, none⟩)))] := lok (by rfl) (by rfl)
  refine part_ (wE := ⟨w, []⟩) (sz := 13) (n := 6) 0 5 [0, 1, 3, 7, 15, 31] [(2, .val (.pointer none)), (0, .val (.string ((b).extract 0 (b.size)))), (12, .new 4 (fun g => .pointer (some ⟨g, 0, none⟩)))] [(0, 8, .val (.string ((b).extract 0 (b.size)))), (1, 9, .val (.string ((b).extract 0 (b.size)))), (2, 10, .val (.int .i64 ((((b).extract 0 (b.size)).size : Int)))), (3, 11, .val (.agg (FR () 6 (lsc [.s ((b).extract 0 (b.size)), .i .i64 ((((b).extract 0 (b.size)).size : Int)), .b (false), .i .i64 (0), .i .i64 (0), .i .i64 (0)])))), (4, 12, .new 4 (fun g => .pointer (some ⟨g, 0, none⟩)))] [⟨0, some 4, none, (), 6, lsc [.s ((b).extract 0 (b.size)), .i .i64 ((((b).extract 0 (b.size)).size : Int)), .b (false), .i .i64 (0), .i .i64 (0), .i .i64 (0)], lsc [.s ((b).extract 0 (b.size)), .i .i64 ((((b).extract 0 (b.size)).size : Int)), .b (false), .i .i64 (0), .i .i64 (0), .i .i64 (0)], 53⟩] rfl rfl (by rfl) HH2 rfl rfl hLo rfl HS2 (slS 0 rfl rfl (slS 1 rfl rfl (slL 4 (d := 4) rfl (trivial)))) ?_ ?_
  · show ∀ i ∈ [0, 1, 2, 3, 4], _
    refine steps_cons (st_run 0 _ rfl rfl hLo rfl rfl (fun _ _ _ _ => rfl) (fun b G w hb ho => exec_move (.inl rfl) (ev_off rfl (HS2.get 1 rfl)))) ?_
    refine steps_cons (st_run 1 _ rfl rfl hLo rfl rfl (fun _ _ _ _ => rfl) (fun b G w hb ho => exec_move (.inl rfl) (ev_off rfl (HS2.get 1 rfl)))) ?_
    refine steps_cons (st_run 2 _ rfl rfl hLo rfl rfl (fun _ _ _ _ => rfl) (fun b G w hb ho => exec_lenS Try.underlying9 rfl (ev_on hLo 1 rfl HS2.1 rfl (hb 1 (by rfl))))) ?_
    refine steps_cons (st_run 3 _ rfl rfl hLo rfl rfl (fun _ _ _ _ => rfl) (fun b G w hb ho => exec_build rfl (parts2 (ev_on hLo 0 rfl HS2.1 rfl (hb 0 (by rfl))) (ev_on hLo 2 rfl HS2.1 rfl (hb 2 (by rfl)))) (by kernel_rfl))) ?_
    refine steps_cons (st_alloc 4 0 () 6 53 none _ _ rfl rfl (fun _ _ _ _ => rfl) rfl hLo rfl rfl rfl rfl (by rfl) (fun b G w hb ho => exec_box rfl (ev_on hLo 3 rfl HS2.1 rfl (hb 3 (by rfl))) (by kernel_rfl))) ?_
    exact steps_nil
  clear hLo
  intro G a3 w3 hS hH
  have HS3 : Sl a3 13 [(2, .pointer none), (0, .string ((b).extract 0 (b.size))), (12, .pointer (some ⟨(G 4), 0, none⟩))] := hS
  have HH3 : Held ⟨w, []⟩ w3 [⟨(G 4), (), 6, lsc [.s ((b).extract 0 (b.size)), .i .i64 ((((b).extract 0 (b.size)).size : Int)), .b (false), .i .i64 (0), .i .i64 (0), .i .i64 (0)], 53⟩] := hH
  clear hS hH HS2 HH2
  generalize G 4 = g3_4 at HS3 HH3
  have hLo : LOk [(5, 2, .val (.pointer (some ⟨g3_4, 0, none⟩)))] := lok (by rfl) (by rfl)
  refine part_ (wE := ⟨w, []⟩) (sz := 13) (n := 6) 5 6 [0, 1, 3, 7, 15, 31] [(0, .val (.string ((b).extract 0 (b.size)))), (2, .val (.pointer (some ⟨g3_4, 0, none⟩)))] [(5, 2, .val (.pointer (some ⟨g3_4, 0, none⟩)))] [⟨g3_4, none, none, (), 6, lsc [.s ((b).extract 0 (b.size)), .i .i64 ((((b).extract 0 (b.size)).size : Int)), .b (false), .i .i64 (0), .i .i64 (0), .i .i64 (0)], lsc [.s ((b).extract 0 (b.size)), .i .i64 ((((b).extract 0 (b.size)).size : Int)), .b (false), .i .i64 (0), .i .i64 (0), .i .i64 (0)], 53⟩] rfl rfl (by rfl) HH3 rfl rfl hLo rfl HS3 (slS 1 rfl rfl (slL 0 (d := 5) rfl (trivial))) ?_ ?_
  · show ∀ i ∈ [5], _
    refine steps_cons (st_run 0 _ rfl rfl hLo rfl rfl (fun _ _ _ _ => rfl) (fun b G w hb ho => exec_move (.inr rfl) (ev_off rfl (HS3.get 2 rfl)))) ?_
    exact steps_nil
  clear hLo
  intro G a4 w4 hS hH
  have HS4 : Sl a4 13 [(0, .string ((b).extract 0 (b.size))), (2, .pointer (some ⟨g3_4, 0, none⟩))] := hS
  have HH4 : Held ⟨w, []⟩ w4 [⟨g3_4, (), 6, lsc [.s ((b).extract 0 (b.size)), .i .i64 ((((b).extract 0 (b.size)).size : Int)), .b (false), .i .i64 (0), .i .i64 (0), .i .i64 (0)], 53⟩] := hH
  clear hS hH HS3 HH3
  refine end_ rfl ?_
  refine then_ ?_
  refine wp_ret ?_
  repeat (first | refine then_ret ?_ | refine inBlock_ret' ?_)
  exact b_tmp rfl HS4.2.1 (HS4.get 1 rfl) ⟨_, rfl, (Held.newrow HH4 0 rfl).1, Row.norm (Held.newrow HH4 0 rfl).2 (six (by rw [ex_all]; exact ⟨rfl, rfl, rfl, rfl, rfl, rfl⟩)), HH4.1.below⟩
end Go.Proofs.Ytdleomeiojlooaa.P
end

section
namespace Go.Proofs.Ytdleomeiojlooaa.P
set_option linter.unusedVariables false
set_option linter.unusedSimpArgs false
open Go.RowKit Go.ChangeShapes Go.WideShapes Go.Proofs.YtdleomeiojlooaaW.PrintWords Go.Proofs.YtdleomeiojlooaaW.PrintLast Go.Proofs.YtdleomeiojlooaaW.PrintMore Go.Proofs.Ytdleomeiojlooaa.L
theorem lines_make2 (s : ByteArray) (w : World) : Calls Try.prog 31 #[.string s] w fun e w' => (∃ b, e = .returned (.func (.func 41) #[] #[.pointer (some ⟨b, 0, none⟩)]) ∧ Row w' b () 1 (lsc [.s s]) 9 ∧ w.heap.size ≤ b ∧ b < w'.heap.size) ∧ Below w.heap.size w w' :=
  (lines_make s w).mono fun e w' ⟨he, hw⟩ => by
    subst hw
    exact ⟨⟨w.heap.size, he, World.alloc_heap_new w _, Nat.le_refl _, by simp⟩, (Below.refl _ w).alloc (Nat.le_refl _) _⟩
theorem end_sum {n : Nat} (h : n ≤ 1099511627776) : IntKind.i64.wrap ((n : Int) - 1 + 1) = (n : Int) := (congrArg _ (by omega)).trans (w_int (z := (n : Int)) (by omega) (by omega))
theorem cat_mem {x : ByteArray} : ∀ {ls : List ByteArray}, x ∈ ls → x.size < (cat ls).size
  | y :: r, h => by
    rw [cat_size]
    rcases List.mem_cons.1 h with rfl | h
    · omega
    · have := cat_mem h; omega
theorem idx_of {w W6 WL : World} {g r2 r3 ob b : Nat} {f1 f2 f3 f4 : Nat → SC} {n1 n2 n3 n4 : Nat} {t1 t2 t3 t4 : TypeId} (hH : Held ⟨w, [g]⟩ W6 [⟨g, (), n1, f1, t1⟩, ⟨r2, (), n2, f2, t2⟩, ⟨r3, (), n3, f3, t3⟩, ⟨ob, (), n4, f4, t4⟩]) (hg : g < w.heap.size) (hb : W6.heap.size ≤ b) (hl : b < WL.heap.size) : Idx w g r2 r3 ob b WL.heap.size := by
  have hs := hH.1.size
  have nd := hH.2.2
  simp only [List.map_cons, List.map_nil, List.nodup_cons, List.mem_cons, List.mem_nil_iff, or_false, not_or] at nd
  obtain ⟨⟨a1, a2, a3⟩, ⟨b1, b2⟩, c1, _⟩ := nd
  have l2 := (hH.row 1 rfl).lt
  have l3 := (hH.row 2 rfl).lt
  have lo := (hH.row 3 rfl).lt
  have fr : ∀ z, (⟨w, [g]⟩ : WX).fresh z → g ≠ z → w.heap.size ≤ z := fun z hz hne => by
    rcases hz with h | h
    · exact h
    · rw [List.mem_singleton] at h; exact absurd h.symm hne
  have g2 := fr r2 (hH.2.1 ⟨r2, (), n2, f2, t2⟩ (by simp)).1 a1
  have g3 := fr r3 (hH.2.1 ⟨r3, (), n3, f3, t3⟩ (by simp)).1 a2
  have go := fr ob (hH.2.1 ⟨ob, (), n4, f4, t4⟩ (by simp)).1 a3
  have l2' : r2 < W6.heap.size := l2
  have l3' : r3 < W6.heap.size := l3
  have lo' : ob < W6.heap.size := lo
  have hs' : w.heap.size ≤ W6.heap.size := hs
  exact ⟨hg, g2, g3, go, by omega, b1, b2, fun e => c1 e, by omega, by omega, by omega, hl⟩
theorem held4 {W : World} {g r2 r3 ob : Nat} {f1 f2 f3 f4 : Nat → SC} {n1 n2 n3 n4 : Nat} {t1 t2 t3 t4 : TypeId} (h1 : Row W g () n1 f1 t1) (h2 : Row W r2 () n2 f2 t2) (h3 : Row W r3 () n3 f3 t3) (h4 : Row W ob () n4 f4 t4) (nd : [g, r2, r3, ob].Nodup) : Held ⟨W, [g, r2, r3, ob]⟩ W [⟨g, (), n1, f1, t1⟩, ⟨r2, (), n2, f2, t2⟩, ⟨r3, (), n3, f3, t3⟩, ⟨ob, (), n4, f4, t4⟩] :=
  ⟨Fr.refl _ _, fun r hr => by
    simp only [List.mem_cons, List.mem_nil_iff, or_false] at hr
    rcases hr with rfl | rfl | rfl | rfl
    · exact ⟨.inr (by simp), h1⟩
    · exact ⟨.inr (by simp), h2⟩
    · exact ⟨.inr (by simp), h3⟩
    · exact ⟨.inr (by simp), h4⟩, nd⟩
theorem Idx.nd {w : World} {g r2 r3 ob b B : Nat} (ix : Idx w g r2 r3 ob b B) : [g, r2, r3, ob].Nodup := by
  have a1 := ix.p_g; have a2 := ix.p_r2; have a3 := ix.p_r3; have a4 := ix.p_ob; have a5 := ix.p_n23; have a6 := ix.p_n2o; have a7 := ix.p_n3o
  simp only [List.nodup_cons, List.mem_cons, List.mem_nil_iff, or_false, not_or, List.nodup_nil, and_true, not_false_iff]
  omega
theorem min_nat (a b : Nat) : (if (b : Int) < (a : Int) then (b : Int) else (a : Int)) = ((min a b : Nat) : Int) := by split <;> omega
def OpenPost (w : World) (g : Nat) (al : ByteArray) (sy acts inn : Nat) (keep : Int) (ls : List ByteArray) (e : Ending) (w' : World) : Prop := match recs ls with
  | some rs => ∃ v, e = .returned (.tuple #[v, .int .i64 0]) ∧ Kd.R Kd.string 9 w' w.heap.size (fun _ => True) v rs ∧ Row w' g () 6 (spC ⟨cat ls, min sy (cat ls).size, false, acts, inn, keep⟩) TSp ∧ Fr ⟨w, [g]⟩ w'
  | none => e = .returned (.tuple #[.slice none 0 0, .int .i64 4]) ∧ Row w' g () 6 (spC ⟨al, sy, false, acts, inn, keep⟩) TSp ∧ Fr ⟨w, [g]⟩ w'
section
variable {w : World} {g r2 r3 ob b B D : Nat} {al : ByteArray} {sy acts inn : Nat} {keep : Int} {ls : List ByteArray}
theorem fin_put {e : WX} {W : World} (h : Fr e W) (hD : e.w.heap.size ≤ D) (o : Obj) : Fr e (W.putObj D o) := h.grown (grownBy_putObj' W D o) (fun k hk => by cases hk; exact .inl hD)
theorem open_bad (ix : Idx w g r2 r3 ob b B) {W : World} (hX : Lx w g r2 r3 (spC ⟨al, sy, false, acts, inn, keep⟩) W) (hn : recs ls = none) (hD : B ≤ D) (hK : W.heap[D]? = some (.deferred (some []))) : OpenPost w g al sy acts inn keep ls (.returned (.tuple #[.slice none 0 0, .int .i64 4])) (W.putObj D (.deferred none)) := by
  unfold OpenPost
  rw [hn]
  have h1 := ix.p_b
  have h2 := ix.p_lt
  exact ⟨rfl, hX.p_g.put _ hK rfl, fin_put hX.p_fr (by show w.heap.size ≤ D; omega) _⟩
theorem open_good (ix : Idx w g r2 r3 ob b B) {W wN : World} {rs : List ByteArray} {oa : Option Addr} {c : Nat} {sc : Nat → SC} (hL : Lp w g r2 r3 ob b sc W rs oa c) (hn : recs ls = some rs) (hD : B ≤ D) (hK : wN.heap[D]? = some (.deferred (some []))) (hF : Fr ⟨W, [g, r2, r3, ob]⟩ wN)
    (hg : Row wN g () 6 (spC ⟨cat ls, min sy (cat ls).size, false, acts, inn, keep⟩) TSp) : OpenPost w g al sy acts inn keep ls (.returned (.tuple #[.slice oa rs.length c, .int .i64 0])) (wN.putObj D (.deferred none)) := by
  unfold OpenPost
  rw [hn]
  have h1 := ix.p_b
  have h2 := ix.p_lt
  have h3 := ix.p_r2
  have h4 := ix.p_r3
  have h5 := ix.p_ob
  have hF2 : Fr ⟨w, [g]⟩ wN := hL.p_fr.join hF fun z hz => by
    simp only [List.mem_cons, List.mem_nil_iff, or_false] at hz
    rcases hz with rfl | rfl | rfl | rfl
    · exact .inr (by simp)
    · exact .inl h3
    · exact .inl h4
    · exact .inl h5
  refine ⟨_, rfl, Kd.R_of_own ?_ (fun _ _ => trivial), hg.put _ hK rfl, fin_put hF2 (by show w.heap.size ≤ D; omega) _⟩
  have ho := own_move hL.p_out.own (w1 := wN) fun k hk => hF.block k (hL.p_out.own.lt k hk).2 fun hm => hL.p_out.apart k (by
    simp only [List.mem_cons, List.mem_nil_iff, or_false] at hm ⊢
    rcases hm with h | h | h | h <;> simp [h]) hk
  exact ownsRow_putObj ho _ hK rfl
end
theorem nodefer {W : World} {k n D : Nat} {f : Nat → SC} {t : TypeId} {o : List Deferred} (h : Row W k () n f t) (hK : W.heap[D]? = some (.deferred (some o))) : D ≠ k := by
  rintro rfl
  have h' : W.heap[D]? = some (.cells (FR () n f) t (0, 0)) := h
  rw [h'] at hK
  cases hK
theorem infoStr : (Try.prog.info? 9).map (fun i => (i.zero, i.size, i.bytes)) = some (some (.string ByteArray.empty), 1, 16) := by kernel_rfl
set_option maxHeartbeats 4000000 in
theorem open_calls {w : World} {g : Nat} {al : ByteArray} {sy : Nat} {acts inn : Nat} {keep : Int} {ls : List ByteArray} {tl : ByteArray} (hC : Cuts al ls tl) (hal : al.size ≤ 4194304) (hr : Row w g () 6 (spC ⟨al, sy, false, acts, inn, keep⟩) 53) : Calls Try.prog 10 #[.pointer (some ⟨g, 0, none⟩)] w (OpenPost w g al sy acts inn keep ls) := by
  have he : al.extract 0 (cat ls).size = cat ls := by rw [hC.eq]; exact ext_left _ _
  have hle : (cat ls).size ≤ al.size := by rw [hC.eq, ByteArray.size_append]; omega
  refine enterM_ 5 61 Try.func10 rfl rfl (fun a0 hS => ?_)
  have HS0 : Sl a0 61 [(0, .pointer (some ⟨g, 0, none⟩))] := hS
  have HH0 : Held ⟨w, [g]⟩ w [⟨g, (), 6, spC ⟨al, sy, false, acts, inn, keep⟩, 53⟩] := Held.one hr
  clear hS
  refine wp_seq ?_
  have hLo : LOk [(0, 2, .new 0 (fun g => .pointer (some ⟨g, 0, none⟩))), (1, 3, .new 1 (fun g => .pointer (some ⟨g, 0, none⟩)))] := lok (by rfl) (by rfl)
  refine plain_ (wE := ⟨w, [g]⟩) (sz := 61) (n := 2) [0, 1] [(0, .val (.pointer (some ⟨g, 0, none⟩))), (2, .new 0 (fun g => .pointer (some ⟨g, 0, none⟩))), (3, .new 1 (fun g => .pointer (some ⟨g, 0, none⟩)))] [(0, 2, .new 0 (fun g => .pointer (some ⟨g, 0, none⟩))), (1, 3, .new 1 (fun g => .pointer (some ⟨g, 0, none⟩)))] [⟨g, none, none, (), 6, spC ⟨al, sy, false, acts, inn, keep⟩, spC ⟨al, sy, false, acts, inn, keep⟩, 53⟩, ⟨0, some 0, none, (), 1, lsc [.sl (none) (0) (0)], lsc [.sl (none) (0) (0)], 25⟩, ⟨0, some 1, none, (), 1, lsc [.i .i64 (0)], lsc [.i .i64 (0)], 26⟩] rfl (by rfl) HH0 rfl rfl hLo rfl HS0 (slS 0 rfl rfl (slL 0 (d := 0) rfl (slL 1 (d := 1) rfl (trivial)))) ?_ ?_
  · show ∀ i ∈ [0, 1], _
    refine steps_cons (st_alloc 0 1 () 1 25 none _ _ rfl rfl (fun _ _ _ _ => rfl) rfl hLo rfl rfl rfl rfl (by rfl) (fun b G w _ _ => by kernel_rfl)) ?_
    refine steps_cons (st_alloc 1 2 () 1 26 none _ _ rfl rfl (fun _ _ _ _ => rfl) rfl hLo rfl rfl rfl rfl (by rfl) (fun b G w _ _ => by kernel_rfl)) ?_
    exact steps_nil
  clear hLo
  intro G a1 w1 hS hH
  have HS1 : Sl a1 61 [(0, .pointer (some ⟨g, 0, none⟩)), (2, .pointer (some ⟨(G 0), 0, none⟩)), (3, .pointer (some ⟨(G 1), 0, none⟩))] := hS
  have HH1 : Held ⟨w, [g]⟩ w1 [⟨g, (), 6, spC ⟨al, sy, false, acts, inn, keep⟩, 53⟩, ⟨(G 0), (), 1, lsc [.sl (none) (0) (0)], 25⟩, ⟨(G 1), (), 1, lsc [.i .i64 (0)], 26⟩] := hH
  clear hS hH HS0 HH0
  generalize G 0 = g1_0 at HS1 HH1
  generalize G 1 = g1_1 at HS1 HH1
  refine then_ ?_
  refine wp_seq ?_
  refine wp_seq ?_
  have hLo : LOk [(0, 10, .val (.pointer (some ⟨g, 0, none⟩))), (1, 11, .val (.int .i64 (0))), (2, 4, .val (.int .i64 (0)))] := lok (by rfl) (by rfl)
  refine plain_ (wE := ⟨w, [g]⟩) (sz := 61) (n := 3) [0, 1, 3] [(0, .val (.pointer (some ⟨g, 0, none⟩))), (2, .val (.pointer (some ⟨g1_0, 0, none⟩))), (3, .val (.pointer (some ⟨g1_1, 0, none⟩))), (4, .val (.int .i64 (0)))] [(0, 10, .val (.pointer (some ⟨g, 0, none⟩))), (1, 11, .val (.int .i64 (0))), (2, 4, .val (.int .i64 (0)))] [⟨g, none, none, (), 6, spC ⟨al, sy, false, acts, inn, keep⟩, spC ⟨al, sy, false, acts, inn, keep⟩, 53⟩, ⟨g1_0, none, none, (), 1, lsc [.sl (none) (0) (0)], lsc [.sl (none) (0) (0)], 25⟩, ⟨g1_1, none, none, (), 1, lsc [.i .i64 (0)], lsc [.i .i64 (0)], 26⟩] rfl (by rfl) HH1 rfl rfl hLo rfl HS1 (slS 0 rfl rfl (slS 1 rfl rfl (slS 2 rfl rfl (slL 2 (d := 2) rfl (trivial))))) ?_ ?_
  · show ∀ i ∈ [0, 1, 2], _
    refine steps_cons (st_run 0 _ rfl rfl hLo rfl rfl (fun _ _ _ _ => rfl) (fun b G w hb ho => exec_move (.inl rfl) (ev_off rfl (HS1.get 0 rfl)))) ?_
    refine steps_cons (st_callRB 1 0 _ _ (fun G => #[.pointer (some ⟨g, 0, none⟩)]) rfl rfl rfl rfl (fun _ _ _ _ => rfl) hLo rfl rfl (by rfl) (by rfl) Try.func29 rfl rfl (fun b G hb ho => args1 (ev_on hLo 0 rfl HS1.1 rfl (hb 0 (by rfl)))) (fun G w hw hr => ready_on hr)) ?_
    refine steps_cons (st_run 2 _ rfl rfl hLo rfl rfl (fun _ _ _ _ => rfl) (fun b G w hb ho => exec_move (.inr rfl) (ev_on hLo 1 rfl HS1.1 rfl (hb 1 (by rfl))))) ?_
    exact steps_nil
  clear hLo
  intro G a2 w2 hS hH
  have HS2 : Sl a2 61 [(0, .pointer (some ⟨g, 0, none⟩)), (2, .pointer (some ⟨g1_0, 0, none⟩)), (3, .pointer (some ⟨g1_1, 0, none⟩)), (4, .int .i64 (0))] := hS
  have HH2 : Held ⟨w, [g]⟩ w2 [⟨g, (), 6, spC ⟨al, sy, false, acts, inn, keep⟩, 53⟩, ⟨g1_0, (), 1, lsc [.sl (none) (0) (0)], 25⟩, ⟨g1_1, (), 1, lsc [.i .i64 (0)], 26⟩] := hH
  clear hS hH HS1 HH1
  refine then_ ?_
  refine wp_seq ?_
  have hLo : LOk [(0, 12, .val (.int .i64 (0))), (1, 13, .val (.bool false))] := lok (by rfl) (by rfl)
  refine plain_ (wE := ⟨w, [g]⟩) (sz := 61) (n := 2) [0, 1] [(0, .val (.pointer (some ⟨g, 0, none⟩))), (2, .val (.pointer (some ⟨g1_0, 0, none⟩))), (3, .val (.pointer (some ⟨g1_1, 0, none⟩))), (4, .val (.int .i64 (0))), (13, .val (.bool false))] [(0, 12, .val (.int .i64 (0))), (1, 13, .val (.bool false))] [⟨g, none, none, (), 6, spC ⟨al, sy, false, acts, inn, keep⟩, spC ⟨al, sy, false, acts, inn, keep⟩, 53⟩, ⟨g1_0, none, none, (), 1, lsc [.sl (none) (0) (0)], lsc [.sl (none) (0) (0)], 25⟩, ⟨g1_1, none, none, (), 1, lsc [.i .i64 (0)], lsc [.i .i64 (0)], 26⟩] rfl (by rfl) HH2 rfl rfl hLo rfl HS2 (slS 0 rfl rfl (slS 1 rfl rfl (slS 2 rfl rfl (slS 3 rfl rfl (slL 1 (d := 1) rfl (trivial)))))) ?_ ?_
  · show ∀ i ∈ [0, 1], _
    refine steps_cons (st_run 0 _ rfl rfl hLo rfl rfl (fun _ _ _ _ => rfl) (fun b G w hb ho => exec_move (.inl rfl) (ev_off rfl (HS2.get 3 rfl)))) ?_
    refine steps_cons (st_run 1 _ rfl rfl hLo rfl rfl (fun _ _ _ _ => rfl) (fun b G w hb ho => exec_bin rfl (ev_on hLo 0 rfl HS2.1 rfl (hb 0 (by rfl))) (rfl) (rb_neq (rfl) _ _ _))) ?_
    exact steps_nil
  clear hLo
  intro G a3 w3 hS hH
  have HS3 : Sl a3 61 [(0, .pointer (some ⟨g, 0, none⟩)), (2, .pointer (some ⟨g1_0, 0, none⟩)), (3, .pointer (some ⟨g1_1, 0, none⟩)), (4, .int .i64 (0)), (13, .bool false)] := hS
  have HH3 : Held ⟨w, [g]⟩ w3 [⟨g, (), 6, spC ⟨al, sy, false, acts, inn, keep⟩, 53⟩, ⟨g1_0, (), 1, lsc [.sl (none) (0) (0)], 25⟩, ⟨g1_1, (), 1, lsc [.i .i64 (0)], 26⟩] := hH
  clear hS hH HS2 HH2
  refine then_ ?_
  refine wp_cond_false (HS3.get 4 rfl) ?_
  refine wp_skip ?_
  refine then_ ?_
  refine wp_seq ?_
  have hLo : LOk [(0, 15, .val (.pointer (some ⟨g, 0, none⟩))), (1, 16, .val (.pointer (some ⟨g, 0, none⟩))), (2, 17, .val (.pointer (some ⟨g, 0, none⟩))), (3, 18, .val (.string (al))), (4, 19, .val (.int .i64 (((cat ls).size : Int) - 1))), (5, 20, .val (.int .i64 (((cat ls).size : Int)))), (6, 5, .val (.int .i64 (((cat ls).size : Int))))] := lok (by rfl) (by rfl)
  refine plain_ (wE := ⟨w, [g]⟩) (sz := 61) (n := 7) [0, 1, 3, 7, 15, 31, 63] [(0, .val (.pointer (some ⟨g, 0, none⟩))), (2, .val (.pointer (some ⟨g1_0, 0, none⟩))), (3, .val (.pointer (some ⟨g1_1, 0, none⟩))), (4, .val (.int .i64 (0))), (13, .val (.bool false)), (5, .val (.int .i64 (((cat ls).size : Int))))] [(0, 15, .val (.pointer (some ⟨g, 0, none⟩))), (1, 16, .val (.pointer (some ⟨g, 0, none⟩))), (2, 17, .val (.pointer (some ⟨g, 0, none⟩))), (3, 18, .val (.string (al))), (4, 19, .val (.int .i64 (((cat ls).size : Int) - 1))), (5, 20, .val (.int .i64 (((cat ls).size : Int)))), (6, 5, .val (.int .i64 (((cat ls).size : Int))))] [⟨g, none, none, (), 6, spC ⟨al, sy, false, acts, inn, keep⟩, spC ⟨al, sy, false, acts, inn, keep⟩, 53⟩, ⟨g1_0, none, none, (), 1, lsc [.sl (none) (0) (0)], lsc [.sl (none) (0) (0)], 25⟩, ⟨g1_1, none, none, (), 1, lsc [.i .i64 (0)], lsc [.i .i64 (0)], 26⟩] rfl (by rfl) HH3 rfl rfl hLo rfl HS3 (slS 0 rfl rfl (slS 1 rfl rfl (slS 2 rfl rfl (slS 3 rfl rfl (slS 4 rfl rfl (slL 6 (d := 6) rfl (trivial))))))) ?_ ?_
  · show ∀ i ∈ [0, 1, 2, 3, 4, 5, 6], _
    refine steps_cons (st_run 0 _ rfl rfl hLo rfl rfl (fun _ _ _ _ => rfl) (fun b G w hb ho => exec_move (.inl rfl) (ev_off rfl (HS3.get 0 rfl)))) ?_
    refine steps_cons (st_run 1 _ rfl rfl hLo rfl rfl (fun _ _ _ _ => rfl) (fun b G w hb ho => exec_nil rfl (ev_on hLo 0 rfl HS3.1 rfl (hb 0 (by rfl))))) ?_
    refine steps_cons (st_run 2 _ rfl rfl hLo rfl rfl (fun _ _ _ _ => rfl) (fun b G w hb ho => exec_field rfl (ev_on hLo 1 rfl HS3.1 rfl (hb 1 (by rfl))) (by kernel_rfl))) ?_
    refine steps_cons (st_read 3 0 _ _ rfl rfl rfl hLo rfl rfl (fun _ _ _ _ => rfl) (by rfl) (by rfl) (fun b G w hb ho hr => exec_cell hr (Nat.le_of_ble_eq_true rfl) Try.underlying9 rfl rfl (ev_on hLo 2 rfl HS3.1 rfl (hb 2 (by rfl))))) ?_
    refine steps_cons (st_call 4 _ #[.string (al), .int .u8 (10)] rfl rfl rfl (fun _ _ _ _ => rfl) hLo rfl rfl Try.func30 rfl rfl (fun b G hb ho => args2 (ev_on hLo 3 rfl HS3.1 rfl (hb 3 (by rfl))) (rfl)) (fun w hw => last_calls hC (by omega) _)) ?_
    refine steps_cons (st_run 5 _ rfl rfl hLo rfl rfl (fun _ _ _ _ => rfl) (fun b G w hb ho => exec_bin rfl (ev_on hLo 4 rfl HS3.1 rfl (hb 4 (by rfl))) (rfl) (rb_add (end_sum (by omega)) _ _ _))) ?_
    refine steps_cons (st_run 6 _ rfl rfl hLo rfl rfl (fun _ _ _ _ => rfl) (fun b G w hb ho => exec_move (.inr rfl) (ev_on hLo 5 rfl HS3.1 rfl (hb 5 (by rfl))))) ?_
    exact steps_nil
  clear hLo
  intro G a4 w4 hS hH
  have HS4 : Sl a4 61 [(0, .pointer (some ⟨g, 0, none⟩)), (2, .pointer (some ⟨g1_0, 0, none⟩)), (3, .pointer (some ⟨g1_1, 0, none⟩)), (4, .int .i64 (0)), (13, .bool false), (5, .int .i64 (((cat ls).size : Int)))] := hS
  have HH4 : Held ⟨w, [g]⟩ w4 [⟨g, (), 6, spC ⟨al, sy, false, acts, inn, keep⟩, 53⟩, ⟨g1_0, (), 1, lsc [.sl (none) (0) (0)], 25⟩, ⟨g1_1, (), 1, lsc [.i .i64 (0)], 26⟩] := hH
  clear hS hH HS3 HH3
  refine then_ ?_
  refine wp_seq ?_
  have hLo : LOk [(0, 6, .new 0 (fun g => .pointer (some ⟨g, 0, none⟩)))] := lok (by rfl) (by rfl)
  refine plain_ (wE := ⟨w, [g]⟩) (sz := 61) (n := 1) [0] [(0, .val (.pointer (some ⟨g, 0, none⟩))), (2, .val (.pointer (some ⟨g1_0, 0, none⟩))), (3, .val (.pointer (some ⟨g1_1, 0, none⟩))), (4, .val (.int .i64 (0))), (13, .val (.bool false)), (5, .val (.int .i64 (((cat ls).size : Int)))), (6, .new 0 (fun g => .pointer (some ⟨g, 0, none⟩)))] [(0, 6, .new 0 (fun g => .pointer (some ⟨g, 0, none⟩)))] [⟨g, none, none, (), 6, spC ⟨al, sy, false, acts, inn, keep⟩, spC ⟨al, sy, false, acts, inn, keep⟩, 53⟩, ⟨g1_0, none, none, (), 1, lsc [.sl (none) (0) (0)], lsc [.sl (none) (0) (0)], 25⟩, ⟨g1_1, none, none, (), 1, lsc [.i .i64 (0)], lsc [.i .i64 (0)], 26⟩, ⟨0, some 0, none, (), 1, lsc [.sl (none) (0) (0)], lsc [.sl (none) (0) (0)], 25⟩] rfl (by rfl) HH4 rfl rfl hLo rfl HS4 (slS 0 rfl rfl (slS 1 rfl rfl (slS 2 rfl rfl (slS 3 rfl rfl (slS 4 rfl rfl (slS 5 rfl rfl (slL 0 (d := 0) rfl (trivial)))))))) ?_ ?_
  · show ∀ i ∈ [0], _
    refine steps_cons (st_alloc 0 3 () 1 25 none _ _ rfl rfl (fun _ _ _ _ => rfl) rfl hLo rfl rfl rfl rfl (by rfl) (fun b G w _ _ => by kernel_rfl)) ?_
    exact steps_nil
  clear hLo
  intro G a5 w5 hS hH
  have HS5 : Sl a5 61 [(0, .pointer (some ⟨g, 0, none⟩)), (2, .pointer (some ⟨g1_0, 0, none⟩)), (3, .pointer (some ⟨g1_1, 0, none⟩)), (4, .int .i64 (0)), (13, .bool false), (5, .int .i64 (((cat ls).size : Int))), (6, .pointer (some ⟨(G 0), 0, none⟩))] := hS
  have HH5 : Held ⟨w, [g]⟩ w5 [⟨g, (), 6, spC ⟨al, sy, false, acts, inn, keep⟩, 53⟩, ⟨g1_0, (), 1, lsc [.sl (none) (0) (0)], 25⟩, ⟨g1_1, (), 1, lsc [.i .i64 (0)], 26⟩, ⟨(G 0), (), 1, lsc [.sl (none) (0) (0)], 25⟩] := hH
  clear hS hH HS4 HH4
  generalize G 0 = g5_0 at HS5 HH5
  refine then_ ?_
  refine wp_seq ?_
  refine wp_seq ?_
  refine whole_ ?_
  have hLo : LOk [(0, 21, .val (.pointer (some ⟨g, 0, none⟩))), (1, 22, .val (.pointer (some ⟨g, 0, none⟩))), (2, 23, .val (.pointer (some ⟨g, 0, none⟩))), (3, 24, .val (.string (al))), (4, 25, .val (.int .i64 (((cat ls).size : Int)))), (5, 26, .val (.string ((al).extract 0 ((cat ls).size))))] := lok (by rfl) (by rfl)
  refine part_ (wE := ⟨w, [g]⟩) (sz := 61) (n := 7) 0 6 [0, 1, 3, 7, 15, 31, 63] [(0, .val (.pointer (some ⟨g, 0, none⟩))), (2, .val (.pointer (some ⟨g1_0, 0, none⟩))), (3, .val (.pointer (some ⟨g1_1, 0, none⟩))), (4, .val (.int .i64 (0))), (13, .val (.bool false)), (5, .val (.int .i64 (((cat ls).size : Int)))), (6, .val (.pointer (some ⟨g5_0, 0, none⟩))), (25, .val (.int .i64 (((cat ls).size : Int)))), (26, .val (.string ((al).extract 0 ((cat ls).size))))] [(0, 21, .val (.pointer (some ⟨g, 0, none⟩))), (1, 22, .val (.pointer (some ⟨g, 0, none⟩))), (2, 23, .val (.pointer (some ⟨g, 0, none⟩))), (3, 24, .val (.string (al))), (4, 25, .val (.int .i64 (((cat ls).size : Int)))), (5, 26, .val (.string ((al).extract 0 ((cat ls).size))))] [⟨g, none, none, (), 6, spC ⟨al, sy, false, acts, inn, keep⟩, spC ⟨al, sy, false, acts, inn, keep⟩, 53⟩, ⟨g1_0, none, none, (), 1, lsc [.sl (none) (0) (0)], lsc [.sl (none) (0) (0)], 25⟩, ⟨g1_1, none, none, (), 1, lsc [.i .i64 (0)], lsc [.i .i64 (0)], 26⟩, ⟨g5_0, none, none, (), 1, lsc [.sl (none) (0) (0)], lsc [.sl (none) (0) (0)], 25⟩] rfl rfl (by rfl) HH5 rfl rfl hLo rfl HS5 (slS 0 rfl rfl (slS 1 rfl rfl (slS 2 rfl rfl (slS 3 rfl rfl (slS 4 rfl rfl (slS 5 rfl rfl (slS 6 rfl rfl (slL 4 (d := 4) rfl (slL 5 (d := 5) rfl (trivial)))))))))) ?_ ?_
  · show ∀ i ∈ [0, 1, 2, 3, 4, 5], _
    refine steps_cons (st_run 0 _ rfl rfl hLo rfl rfl (fun _ _ _ _ => rfl) (fun b G w hb ho => exec_move (.inl rfl) (ev_off rfl (HS5.get 0 rfl)))) ?_
    refine steps_cons (st_run 1 _ rfl rfl hLo rfl rfl (fun _ _ _ _ => rfl) (fun b G w hb ho => exec_nil rfl (ev_on hLo 0 rfl HS5.1 rfl (hb 0 (by rfl))))) ?_
    refine steps_cons (st_run 2 _ rfl rfl hLo rfl rfl (fun _ _ _ _ => rfl) (fun b G w hb ho => exec_field rfl (ev_on hLo 1 rfl HS5.1 rfl (hb 1 (by rfl))) (by kernel_rfl))) ?_
    refine steps_cons (st_read 3 0 _ _ rfl rfl rfl hLo rfl rfl (fun _ _ _ _ => rfl) (by rfl) (by rfl) (fun b G w hb ho hr => exec_cell hr (Nat.le_of_ble_eq_true rfl) Try.underlying9 rfl rfl (ev_on hLo 2 rfl HS5.1 rfl (hb 2 (by rfl))))) ?_
    refine steps_cons (st_run 4 _ rfl rfl hLo rfl rfl (fun _ _ _ _ => rfl) (fun b G w hb ho => exec_move (.inl rfl) (ev_off rfl (HS5.get 5 rfl)))) ?_
    refine steps_cons (st_run 5 _ rfl rfl hLo rfl rfl (fun _ _ _ _ => rfl) (fun b G w hb ho => exec_slice rfl (ev_on hLo 3 rfl HS5.1 rfl (hb 3 (by rfl))) rfl (congrArg some (ev_on hLo 4 rfl HS5.1 rfl (hb 4 (by rfl)))) rfl (rs_hi Try.underlying9 (hle) _))) ?_
    exact steps_nil
  clear hLo
  intro G a6 w6 hS hH
  have HS6 : Sl a6 61 [(0, .pointer (some ⟨g, 0, none⟩)), (2, .pointer (some ⟨g1_0, 0, none⟩)), (3, .pointer (some ⟨g1_1, 0, none⟩)), (4, .int .i64 (0)), (13, .bool false), (5, .int .i64 (((cat ls).size : Int))), (6, .pointer (some ⟨g5_0, 0, none⟩)), (25, .int .i64 (((cat ls).size : Int))), (26, .string ((al).extract 0 ((cat ls).size)))] := hS
  have HH6 : Held ⟨w, [g]⟩ w6 [⟨g, (), 6, spC ⟨al, sy, false, acts, inn, keep⟩, 53⟩, ⟨g1_0, (), 1, lsc [.sl (none) (0) (0)], 25⟩, ⟨g1_1, (), 1, lsc [.i .i64 (0)], 26⟩, ⟨g5_0, (), 1, lsc [.sl (none) (0) (0)], 25⟩] := hH
  clear hS hH HS5 HH5
  rw [he] at HS6
  have h6 := HH6
  refine cut_call _ rfl rfl rfl rfl Try.func31 rfl rfl (args1 (HS6.get 8 rfl)) (lines_make2 (cat ls) _) HS6 rfl ?_
  rintro e7 w7 ⟨⟨b, rfl, hRL, hbw, hbl⟩, hbL⟩
  refine ⟨_, rfl, fun a7 hS => ?_⟩
  have HS8 : Sl a7 61 [(27, .func (.func 41) #[] #[.pointer (some ⟨b, 0, none⟩)]), (0, .pointer (some ⟨g, 0, none⟩)), (2, .pointer (some ⟨g1_0, 0, none⟩)), (3, .pointer (some ⟨g1_1, 0, none⟩)), (4, .int .i64 (0)), (13, .bool false), (5, .int .i64 (((cat ls).size : Int))), (6, .pointer (some ⟨g5_0, 0, none⟩)), (25, .int .i64 (((cat ls).size : Int))), (26, .string (cat ls))] := hS
  have HH8 : Held ⟨w, [g]⟩ w7 [⟨g, (), 6, spC ⟨al, sy, false, acts, inn, keep⟩, 53⟩, ⟨g1_0, (), 1, lsc [.sl (none) (0) (0)], 25⟩, ⟨g1_1, (), 1, lsc [.i .i64 (0)], 26⟩, ⟨g5_0, (), 1, lsc [.sl (none) (0) (0)], 25⟩] := HH6.call hbL
  clear hS
  refine end_ rfl ?_
  refine then_ ?_
  refine wp_block ?_
  have hGL := HH8.row 0 rfl
  have h2L := HH8.row 1 rfl
  have h3L := HH8.row 2 rfl
  have hoL := HH8.row 3 rfl
  have hFL := HH8.1
  have ix := idx_of (WL := w7) h6 hr.lt hbw hbl
  clear h6 HH8
  generalize g1_0 = r2 at *
  generalize g1_1 = r3 at *
  generalize g5_0 = ob at *
  generalize hB : w7.heap.size = B at ix
  refine (wpIn_wide (n := 5)).1 ?_
  refine range_box (b := b) (encs := fun x => #[.string (x ++ nl)]) (ls := ls) (by omega) (HS8.get 0 rfl) (enters_of Try.func41 (by kernel_rfl) rfl) hbl (lines_seq hC.no (by omega) hRL) (fun _ => rfl) (LpI w g r2 r3 ob b (spC ⟨al, sy, false, acts, inn, keep⟩)) (LxI w g r2 r3 (spC ⟨al, sy, false, acts, inn, keep⟩)) (by rw [hB]; exact lp_own ix) (by rw [hB]; exact lx_own ix) ⟨[], none, 0, rfl, ⟨hFL, hGL, h2L, h3L, hoL, OwnR.nil, hbl⟩⟩ (fun x a => Sl a 61 [(7, .string (x ++ nl)), (0, .pointer (some ⟨g, 0, none⟩)), (2, .pointer (some ⟨r2, 0, none⟩)), (3, .pointer (some ⟨r3, 0, none⟩)), (5, .int .i64 (((cat ls).size : Int))), (6, .pointer (some ⟨ob, 0, none⟩))]) ?assign ?body ?done ?stop
  case assign =>
    intro l x W K hK
    have HSa := HS8.given (N := 28) (v := .string (x ++ nl)) rfl
    refine wholeR_ (by kernel_rfl) (fun _ _ h => h) ?_
    refine cut_run (i := 0) rfl rfl rfl (exec_move (.inr rfl) (HSa.get 0 rfl)) HSa rfl (fun a7 hS7 => ?_)
    refine end_ rfl ?_
    exact hK a7 (sl_keep hS7 [0, 3, 4, 5, 8, 9] (by rfl))
  case body =>
    rintro l pre x a1 W ⟨rs, oa, c, hrs, hL⟩ hpre HSb
    rw [hB]
    have hxm : x ∈ ls := hpre.subset (by simp)
    have hxz := cat_mem hxm
    have hpl := hpre.length_le
    rw [List.length_append] at hpl
    have hrl := recs_len hrs
    have hcl := cat_len ls
    have hgs : ∀ q ∈ [g, r2, r3, ob, b], q < W.heap.size := fun q hq => by
      simp only [List.mem_cons, List.mem_nil_iff, or_false] at hq
      rcases hq with rfl | rfl | rfl | rfl | rfl
      · exact hL.p_g.lt
      · exact hL.p_r2.lt
      · exact hL.p_r3.lt
      · exact hL.p_ob.lt
      · exact hL.p_b
    have HHb : Held ⟨W, []⟩ W [] := Held.first W []
    cases hd : decL true (bytesOf x) with
    | none =>
      have hdS : decS x = none := by unfold decS; rw [hd]; rfl
      refine wpIn_block ?_
      refine wpIn_seq ?_
      refine wholeR_ (by kernel_rfl) (fun _ _ h => h) ?_
      have hLo : LOk [(0, 30, .val (.string (x ++ nl))), (1, 31, .val (.string (x)))] := lok (by rfl) (by rfl)
      refine part_ (wE := ⟨W, []⟩) (sz := 61) (n := 8) 0 2 [0, 1, 3, 7, 15, 31, 63, 127] [(7, .val (.string (x ++ nl))), (0, .val (.pointer (some ⟨g, 0, none⟩))), (2, .val (.pointer (some ((⟨r2, 0, none⟩ : Addr))))), (3, .val (.pointer (some ((⟨r3, 0, none⟩ : Addr))))), (5, .val (.int .i64 (((cat ls).size : Int)))), (6, .val (.pointer (some ((⟨ob, 0, none⟩ : Addr))))), (31, .val (.string (x)))] [(0, 30, .val (.string (x ++ nl))), (1, 31, .val (.string (x)))] [] rfl rfl (by rfl) HHb rfl rfl hLo rfl HSb (slS 0 rfl rfl (slS 1 rfl rfl (slS 2 rfl rfl (slS 3 rfl rfl (slS 4 rfl rfl (slS 5 rfl rfl (slL 1 (d := 1) rfl (trivial)))))))) ?_ ?_
      · show ∀ i ∈ [0, 1], _
        refine steps_cons (st_run 0 _ rfl rfl hLo rfl rfl (fun _ _ _ _ => rfl) (fun b G w hb ho => exec_move (.inl rfl) (ev_off rfl (HSb.get 0 rfl)))) ?_
        refine steps_cons (st_call 1 _ #[.string (x ++ nl), .string (nl)] rfl rfl rfl (fun _ _ _ _ => rfl) hLo rfl rfl Try.func33 rfl rfl (fun b G hb ho => args2 (ev_on hLo 0 rfl HSb.1 rfl (hb 0 (by rfl))) (rfl)) (fun w hw => trim_calls x (by omega) _)) ?_
        exact steps_nil
      clear hLo
      intro G a9 w9 hS hH
      have HS9 : Sl a9 61 [(7, .string (x ++ nl)), (0, .pointer (some ⟨g, 0, none⟩)), (2, .pointer (some ((⟨r2, 0, none⟩ : Addr)))), (3, .pointer (some ((⟨r3, 0, none⟩ : Addr)))), (5, .int .i64 (((cat ls).size : Int))), (6, .pointer (some ((⟨ob, 0, none⟩ : Addr)))), (31, .string (x))] := hS
      have HH9 : Held ⟨W, []⟩ w9 [] := hH
      clear hS hH HSb HHb
      refine cut_call _ rfl rfl rfl rfl Try.func32 rfl rfl (args2 (HS9.get 6 rfl) rfl) (dec_none hd (by omega) _) HS9 rfl ?_
      rintro e10 w10 ⟨⟨A, cA, rfl⟩, hb8⟩
      refine ⟨_, rfl, fun a10 hS => ?_⟩
      have HS11 : Sl a10 61 [(32, .tuple #[.slice (A) (0) (cA), .bool false]), (7, .string (x ++ nl)), (0, .pointer (some ⟨g, 0, none⟩)), (2, .pointer (some ((⟨r2, 0, none⟩ : Addr)))), (3, .pointer (some ((⟨r3, 0, none⟩ : Addr)))), (5, .int .i64 (((cat ls).size : Int))), (6, .pointer (some ((⟨ob, 0, none⟩ : Addr)))), (31, .string (x))] := hS
      have HH11 : Held ⟨W, []⟩ w10 [] := HH9.call hb8
      clear hS
      have H8 := HH11
      have HH12 : Held ⟨w10, []⟩ w10 [] := Held.first w10 []
      have hLo : LOk [(3, 29, .val (.tuple #[.slice (A) (0) (cA), .bool false])), (4, 33, .val (.slice (A) (0) (cA))), (5, 34, .val (.bool false)), (6, 8, .val (.slice (A) (0) (cA))), (7, 9, .val (.bool false))] := lok (by rfl) (by rfl)
      refine part_ (wE := ⟨w10, []⟩) (sz := 61) (n := 8) 3 8 [0, 1, 3, 7, 15, 31, 63, 127] [(7, .val (.string (x ++ nl))), (0, .val (.pointer (some ⟨g, 0, none⟩))), (2, .val (.pointer (some ((⟨r2, 0, none⟩ : Addr))))), (3, .val (.pointer (some ((⟨r3, 0, none⟩ : Addr))))), (5, .val (.int .i64 (((cat ls).size : Int)))), (6, .val (.pointer (some ((⟨ob, 0, none⟩ : Addr))))), (8, .val (.slice (A) (0) (cA))), (9, .val (.bool false))] [(3, 29, .val (.tuple #[.slice (A) (0) (cA), .bool false])), (4, 33, .val (.slice (A) (0) (cA))), (5, 34, .val (.bool false)), (6, 8, .val (.slice (A) (0) (cA))), (7, 9, .val (.bool false))] [] rfl rfl (by rfl) HH12 rfl rfl hLo rfl HS11 (slS 1 rfl rfl (slS 2 rfl rfl (slS 3 rfl rfl (slS 4 rfl rfl (slS 5 rfl rfl (slS 6 rfl rfl (slL 3 (d := 6) rfl (slL 4 (d := 7) rfl (trivial))))))))) ?_ ?_
      · show ∀ i ∈ [3, 4, 5, 6, 7], _
        refine steps_cons (st_run 0 _ rfl rfl hLo rfl rfl (fun _ _ _ _ => rfl) (fun b G w hb ho => exec_move (.inl rfl) (ev_off rfl (HS11.get 0 rfl)))) ?_
        refine steps_cons (st_run 1 _ rfl rfl hLo rfl rfl (fun _ _ _ _ => rfl) (fun b G w hb ho => exec_extract rfl (ev_on hLo 0 rfl HS11.1 rfl (hb 3 (by rfl))) (by rfl))) ?_
        refine steps_cons (st_run 2 _ rfl rfl hLo rfl rfl (fun _ _ _ _ => rfl) (fun b G w hb ho => exec_extract rfl (ev_on hLo 0 rfl HS11.1 rfl (hb 3 (by rfl))) (by rfl))) ?_
        refine steps_cons (st_run 3 _ rfl rfl hLo rfl rfl (fun _ _ _ _ => rfl) (fun b G w hb ho => exec_move (.inr rfl) (ev_on hLo 1 rfl HS11.1 rfl (hb 4 (by rfl))))) ?_
        refine steps_cons (st_run 4 _ rfl rfl hLo rfl rfl (fun _ _ _ _ => rfl) (fun b G w hb ho => exec_move (.inr rfl) (ev_on hLo 2 rfl HS11.1 rfl (hb 5 (by rfl))))) ?_
        exact steps_nil
      clear hLo
      intro G a13 w13 hS hH
      have HS13 : Sl a13 61 [(7, .string (x ++ nl)), (0, .pointer (some ⟨g, 0, none⟩)), (2, .pointer (some ((⟨r2, 0, none⟩ : Addr)))), (3, .pointer (some ((⟨r3, 0, none⟩ : Addr)))), (5, .int .i64 (((cat ls).size : Int))), (6, .pointer (some ((⟨ob, 0, none⟩ : Addr)))), (8, .slice (A) (0) (cA)), (9, .bool false)] := hS
      have HH13 : Held ⟨w10, []⟩ w13 [] := hH
      clear hS hH HS11 HH12
      refine end_ rfl ?_
      refine then_ ?_
      refine wpIn_seq ?_
      refine wpIn_seq ?_
      refine wholeR_ (by kernel_rfl) (fun _ _ h => h) ?_
      have hLo : LOk [(0, 35, .val (.bool false)), (1, 36, .val (.bool true))] := lok (by rfl) (by rfl)
      refine part_ (wE := ⟨w10, []⟩) (sz := 61) (n := 2) 0 2 [0, 1] [(7, .val (.string (x ++ nl))), (0, .val (.pointer (some ⟨g, 0, none⟩))), (2, .val (.pointer (some ((⟨r2, 0, none⟩ : Addr))))), (3, .val (.pointer (some ((⟨r3, 0, none⟩ : Addr))))), (5, .val (.int .i64 (((cat ls).size : Int)))), (6, .val (.pointer (some ((⟨ob, 0, none⟩ : Addr))))), (8, .val (.slice (A) (0) (cA))), (9, .val (.bool false)), (36, .val (.bool true))] [(0, 35, .val (.bool false)), (1, 36, .val (.bool true))] [] rfl rfl (by rfl) HH13 rfl rfl hLo rfl HS13 (slS 0 rfl rfl (slS 1 rfl rfl (slS 2 rfl rfl (slS 3 rfl rfl (slS 4 rfl rfl (slS 5 rfl rfl (slS 6 rfl rfl (slS 7 rfl rfl (slL 1 (d := 1) rfl (trivial)))))))))) ?_ ?_
      · show ∀ i ∈ [0, 1], _
        refine steps_cons (st_run 0 _ rfl rfl hLo rfl rfl (fun _ _ _ _ => rfl) (fun b G w hb ho => exec_move (.inl rfl) (ev_off rfl (HS13.get 7 rfl)))) ?_
        refine steps_cons (st_run 1 _ rfl rfl hLo rfl rfl (fun _ _ _ _ => rfl) (fun b G w hb ho => exec_un rfl (ev_on hLo 0 rfl HS13.1 rfl (hb 0 (by rfl))) (ru_not _))) ?_
        exact steps_nil
      clear hLo
      intro G a14 w14 hS hH
      have HS14 : Sl a14 61 [(7, .string (x ++ nl)), (0, .pointer (some ⟨g, 0, none⟩)), (2, .pointer (some ((⟨r2, 0, none⟩ : Addr)))), (3, .pointer (some ((⟨r3, 0, none⟩ : Addr)))), (5, .int .i64 (((cat ls).size : Int))), (6, .pointer (some ((⟨ob, 0, none⟩ : Addr)))), (8, .slice (A) (0) (cA)), (9, .bool false), (36, .bool true)] := hS
      have HH14 : Held ⟨w10, []⟩ w14 [] := hH
      clear hS hH HS13 HH13
      refine end_ rfl ?_
      refine then_ ?_
      refine wpIn_cond_true (HS14.get 8 rfl) ?_
      refine wpIn_seq ?_
      refine wholeR_ (by kernel_rfl) (fun _ _ h => h) ?_
      have hF9 : Fr ⟨W, []⟩ w14 := H8.1.comp HH14.1
      have HHr := Held.two (hL.p_r2.fr hF9 (by simp)) (hL.p_r3.fr hF9 (by simp)) ix.p_n23
      have hLo : LOk [] := lok (by rfl) (by rfl)
      refine part_ (wE := ⟨w14, [r2, r3]⟩) (sz := 61) (n := 2) 0 2 [0, 1] [(7, .val (.string (x ++ nl))), (0, .val (.pointer (some ⟨g, 0, none⟩))), (2, .val (.pointer (some ⟨r2, 0, none⟩))), (3, .val (.pointer (some ⟨r3, 0, none⟩))), (5, .val (.int .i64 (((cat ls).size : Int)))), (6, .val (.pointer (some ((⟨ob, 0, none⟩ : Addr))))), (8, .val (.slice (A) (0) (cA))), (9, .val (.bool false)), (36, .val (.bool true))] [] [⟨r2, none, some 0, (), 1, lsc [.sl (none) (0) (0)], upd (lsc [.sl (none) (0) (0)]) 0 (.sl (none) (0) (0)), T25⟩, ⟨r3, none, some 1, (), 1, lsc [.i .i64 (0)], upd (lsc [.i .i64 (0)]) 0 (.i .i64 (4)), T26⟩] rfl rfl (by rfl) HHr rfl rfl hLo rfl HS14 (slS 0 rfl rfl (slS 1 rfl rfl (slS 2 rfl rfl (slS 3 rfl rfl (slS 4 rfl rfl (slS 5 rfl rfl (slS 6 rfl rfl (slS 7 rfl rfl (slS 8 rfl rfl (trivial)))))))))) ?_ ?_
      · show ∀ i ∈ [0, 1], _
        refine steps_cons (st_put 0 _ rfl rfl rfl rfl (fun _ _ _ _ => rfl) rfl rfl rfl (by rfl) (fun b G w hb ho hr => exec_put1 hr (Nat.le_of_ble_eq_true rfl) (by kernel_rfl) rfl (ev_off rfl (HS14.get 2 rfl)) (rfl))) ?_
        refine steps_cons (st_put 1 _ rfl rfl rfl rfl (fun _ _ _ _ => rfl) rfl rfl rfl (by rfl) (fun b G w hb ho hr => exec_put1 hr (Nat.le_of_ble_eq_true rfl) (by kernel_rfl) rfl (ev_off rfl (HS14.get 3 rfl)) (rfl))) ?_
        exact steps_nil
      clear hLo
      intro G a15 w15 hS hH
      have HS15 : Sl a15 61 [(7, .string (x ++ nl)), (0, .pointer (some ⟨g, 0, none⟩)), (2, .pointer (some ⟨r2, 0, none⟩)), (3, .pointer (some ⟨r3, 0, none⟩)), (5, .int .i64 (((cat ls).size : Int))), (6, .pointer (some ((⟨ob, 0, none⟩ : Addr)))), (8, .slice (A) (0) (cA)), (9, .bool false), (36, .bool true)] := hS
      have HH15 : Held ⟨w14, [r2, r3]⟩ w15 [⟨r2, (), 1, upd (lsc [.sl (none) (0) (0)]) 0 (.sl (none) (0) (0)), T25⟩, ⟨r3, (), 1, upd (lsc [.i .i64 (0)]) 0 (.i .i64 (4)), T26⟩] := hH
      clear hS hH HS14 HHr
      refine end_ rfl ?_
      refine then_ ?_
      refine wpIn_ret ?_
      repeat (first | refine then_ret ?_ | refine inBlock_ret' ?_)
      exact round_stop ix hL hdS hF9 HH15.1 (HH15.row 0 rfl) (HH15.row 1 rfl)
    | some ys =>
      have hdS : decS x = some (strOfNums ys) := by unfold decS; rw [hd]; rfl
      refine wpIn_block ?_
      refine wpIn_seq ?_
      refine wholeR_ (by kernel_rfl) (fun _ _ h => h) ?_
      have hLo : LOk [(0, 30, .val (.string (x ++ nl))), (1, 31, .val (.string (x)))] := lok (by rfl) (by rfl)
      refine part_ (wE := ⟨W, []⟩) (sz := 61) (n := 8) 0 2 [0, 1, 3, 7, 15, 31, 63, 127] [(7, .val (.string (x ++ nl))), (0, .val (.pointer (some ⟨g, 0, none⟩))), (2, .val (.pointer (some ((⟨r2, 0, none⟩ : Addr))))), (3, .val (.pointer (some ((⟨r3, 0, none⟩ : Addr))))), (5, .val (.int .i64 (((cat ls).size : Int)))), (6, .val (.pointer (some ((⟨ob, 0, none⟩ : Addr))))), (31, .val (.string (x)))] [(0, 30, .val (.string (x ++ nl))), (1, 31, .val (.string (x)))] [] rfl rfl (by rfl) HHb rfl rfl hLo rfl HSb (slS 0 rfl rfl (slS 1 rfl rfl (slS 2 rfl rfl (slS 3 rfl rfl (slS 4 rfl rfl (slS 5 rfl rfl (slL 1 (d := 1) rfl (trivial)))))))) ?_ ?_
      · show ∀ i ∈ [0, 1], _
        refine steps_cons (st_run 0 _ rfl rfl hLo rfl rfl (fun _ _ _ _ => rfl) (fun b G w hb ho => exec_move (.inl rfl) (ev_off rfl (HSb.get 0 rfl)))) ?_
        refine steps_cons (st_call 1 _ #[.string (x ++ nl), .string (nl)] rfl rfl rfl (fun _ _ _ _ => rfl) hLo rfl rfl Try.func33 rfl rfl (fun b G hb ho => args2 (ev_on hLo 0 rfl HSb.1 rfl (hb 0 (by rfl))) (rfl)) (fun w hw => trim_calls x (by omega) _)) ?_
        exact steps_nil
      clear hLo
      intro G a16 w16 hS hH
      have HS16 : Sl a16 61 [(7, .string (x ++ nl)), (0, .pointer (some ⟨g, 0, none⟩)), (2, .pointer (some ((⟨r2, 0, none⟩ : Addr)))), (3, .pointer (some ((⟨r3, 0, none⟩ : Addr)))), (5, .int .i64 (((cat ls).size : Int))), (6, .pointer (some ((⟨ob, 0, none⟩ : Addr)))), (31, .string (x))] := hS
      have HH16 : Held ⟨W, []⟩ w16 [] := hH
      clear hS hH HSb HHb
      refine cut_call _ rfl rfl rfl rfl Try.func32 rfl rfl (args2 (HS16.get 6 rfl) rfl) (dec_some hd (by omega) _) HS16 rfl ?_
      rintro e17 w17 ⟨⟨A, cA, rfl, hC8⟩, hb8⟩
      refine ⟨_, rfl, fun a17 hS => ?_⟩
      have HS18 : Sl a17 61 [(32, .tuple #[.slice (A) (ys.length) (cA), .bool true]), (7, .string (x ++ nl)), (0, .pointer (some ⟨g, 0, none⟩)), (2, .pointer (some ((⟨r2, 0, none⟩ : Addr)))), (3, .pointer (some ((⟨r3, 0, none⟩ : Addr)))), (5, .int .i64 (((cat ls).size : Int))), (6, .pointer (some ((⟨ob, 0, none⟩ : Addr)))), (31, .string (x))] := hS
      have HH18 : Held ⟨W, []⟩ w17 [] := HH16.call hb8
      clear hS
      have H8 := HH18
      have HH19 : Held ⟨w17, []⟩ w17 [] := Held.first w17 []
      have hLo : LOk [(3, 29, .val (.tuple #[.slice (A) (ys.length) (cA), .bool true])), (4, 33, .val (.slice (A) (ys.length) (cA))), (5, 34, .val (.bool true)), (6, 8, .val (.slice (A) (ys.length) (cA))), (7, 9, .val (.bool true))] := lok (by rfl) (by rfl)
      refine part_ (wE := ⟨w17, []⟩) (sz := 61) (n := 8) 3 8 [0, 1, 3, 7, 15, 31, 63, 127] [(7, .val (.string (x ++ nl))), (0, .val (.pointer (some ⟨g, 0, none⟩))), (2, .val (.pointer (some ((⟨r2, 0, none⟩ : Addr))))), (3, .val (.pointer (some ((⟨r3, 0, none⟩ : Addr))))), (5, .val (.int .i64 (((cat ls).size : Int)))), (6, .val (.pointer (some ((⟨ob, 0, none⟩ : Addr))))), (8, .val (.slice (A) (ys.length) (cA))), (9, .val (.bool true))] [(3, 29, .val (.tuple #[.slice (A) (ys.length) (cA), .bool true])), (4, 33, .val (.slice (A) (ys.length) (cA))), (5, 34, .val (.bool true)), (6, 8, .val (.slice (A) (ys.length) (cA))), (7, 9, .val (.bool true))] [] rfl rfl (by rfl) HH19 rfl rfl hLo rfl HS18 (slS 1 rfl rfl (slS 2 rfl rfl (slS 3 rfl rfl (slS 4 rfl rfl (slS 5 rfl rfl (slS 6 rfl rfl (slL 3 (d := 6) rfl (slL 4 (d := 7) rfl (trivial))))))))) ?_ ?_
      · show ∀ i ∈ [3, 4, 5, 6, 7], _
        refine steps_cons (st_run 0 _ rfl rfl hLo rfl rfl (fun _ _ _ _ => rfl) (fun b G w hb ho => exec_move (.inl rfl) (ev_off rfl (HS18.get 0 rfl)))) ?_
        refine steps_cons (st_run 1 _ rfl rfl hLo rfl rfl (fun _ _ _ _ => rfl) (fun b G w hb ho => exec_extract rfl (ev_on hLo 0 rfl HS18.1 rfl (hb 3 (by rfl))) (by rfl))) ?_
        refine steps_cons (st_run 2 _ rfl rfl hLo rfl rfl (fun _ _ _ _ => rfl) (fun b G w hb ho => exec_extract rfl (ev_on hLo 0 rfl HS18.1 rfl (hb 3 (by rfl))) (by rfl))) ?_
        refine steps_cons (st_run 3 _ rfl rfl hLo rfl rfl (fun _ _ _ _ => rfl) (fun b G w hb ho => exec_move (.inr rfl) (ev_on hLo 1 rfl HS18.1 rfl (hb 4 (by rfl))))) ?_
        refine steps_cons (st_run 4 _ rfl rfl hLo rfl rfl (fun _ _ _ _ => rfl) (fun b G w hb ho => exec_move (.inr rfl) (ev_on hLo 2 rfl HS18.1 rfl (hb 5 (by rfl))))) ?_
        exact steps_nil
      clear hLo
      intro G a20 w20 hS hH
      have HS20 : Sl a20 61 [(7, .string (x ++ nl)), (0, .pointer (some ⟨g, 0, none⟩)), (2, .pointer (some ((⟨r2, 0, none⟩ : Addr)))), (3, .pointer (some ((⟨r3, 0, none⟩ : Addr)))), (5, .int .i64 (((cat ls).size : Int))), (6, .pointer (some ((⟨ob, 0, none⟩ : Addr)))), (8, .slice (A) (ys.length) (cA)), (9, .bool true)] := hS
      have HH20 : Held ⟨w17, []⟩ w20 [] := hH
      clear hS hH HS18 HH19
      refine end_ rfl ?_
      refine then_ ?_
      refine wpIn_seq ?_
      refine wpIn_seq ?_
      refine wholeR_ (by kernel_rfl) (fun _ _ h => h) ?_
      have hLo : LOk [(0, 35, .val (.bool true)), (1, 36, .val (.bool false))] := lok (by rfl) (by rfl)
      refine part_ (wE := ⟨w17, []⟩) (sz := 61) (n := 2) 0 2 [0, 1] [(7, .val (.string (x ++ nl))), (0, .val (.pointer (some ⟨g, 0, none⟩))), (2, .val (.pointer (some ((⟨r2, 0, none⟩ : Addr))))), (3, .val (.pointer (some ((⟨r3, 0, none⟩ : Addr))))), (5, .val (.int .i64 (((cat ls).size : Int)))), (6, .val (.pointer (some ((⟨ob, 0, none⟩ : Addr))))), (8, .val (.slice (A) (ys.length) (cA))), (9, .val (.bool true)), (36, .val (.bool false))] [(0, 35, .val (.bool true)), (1, 36, .val (.bool false))] [] rfl rfl (by rfl) HH20 rfl rfl hLo rfl HS20 (slS 0 rfl rfl (slS 1 rfl rfl (slS 2 rfl rfl (slS 3 rfl rfl (slS 4 rfl rfl (slS 5 rfl rfl (slS 6 rfl rfl (slS 7 rfl rfl (slL 1 (d := 1) rfl (trivial)))))))))) ?_ ?_
      · show ∀ i ∈ [0, 1], _
        refine steps_cons (st_run 0 _ rfl rfl hLo rfl rfl (fun _ _ _ _ => rfl) (fun b G w hb ho => exec_move (.inl rfl) (ev_off rfl (HS20.get 7 rfl)))) ?_
        refine steps_cons (st_run 1 _ rfl rfl hLo rfl rfl (fun _ _ _ _ => rfl) (fun b G w hb ho => exec_un rfl (ev_on hLo 0 rfl HS20.1 rfl (hb 0 (by rfl))) (ru_not _))) ?_
        exact steps_nil
      clear hLo
      intro G a21 w21 hS hH
      have HS21 : Sl a21 61 [(7, .string (x ++ nl)), (0, .pointer (some ⟨g, 0, none⟩)), (2, .pointer (some ((⟨r2, 0, none⟩ : Addr)))), (3, .pointer (some ((⟨r3, 0, none⟩ : Addr)))), (5, .int .i64 (((cat ls).size : Int))), (6, .pointer (some ((⟨ob, 0, none⟩ : Addr)))), (8, .slice (A) (ys.length) (cA)), (9, .bool true), (36, .bool false)] := hS
      have HH21 : Held ⟨w17, []⟩ w21 [] := hH
      clear hS hH HS20 HH20
      refine end_ rfl ?_
      refine then_ ?_
      refine wpIn_cond_false (HS21.get 8 rfl) ?_
      refine wpIn_skip ?_
      refine then_ ?_
      refine wholeR_ (by kernel_rfl) (fun _ _ h => h) ?_
      have hLo : LOk [(0, 37, .val (.slice (oa) (rs.length) (c))), (1, 38, .val (.slice (A) (ys.length) (cA)))] := lok (by rfl) (by rfl)
      refine part_ (wE := ⟨w17, []⟩) (sz := 61) (n := 6) 0 2 [0, 1, 3, 7, 15, 31] [(7, .val (.string (x ++ nl))), (0, .val (.pointer (some ⟨g, 0, none⟩))), (2, .val (.pointer (some ((⟨r2, 0, none⟩ : Addr))))), (3, .val (.pointer (some ((⟨r3, 0, none⟩ : Addr))))), (5, .val (.int .i64 (((cat ls).size : Int)))), (6, .val (.pointer (some ((⟨ob, 0, none⟩ : Addr))))), (8, .val (.slice (A) (ys.length) (cA))), (9, .val (.bool true)), (36, .val (.bool false)), (37, .val (.slice (oa) (rs.length) (c))), (38, .val (.slice (A) (ys.length) (cA)))] [(0, 37, .val (.slice (oa) (rs.length) (c))), (1, 38, .val (.slice (A) (ys.length) (cA)))] [] rfl rfl (by rfl) HH21 rfl rfl hLo rfl HS21 (slS 0 rfl rfl (slS 1 rfl rfl (slS 2 rfl rfl (slS 3 rfl rfl (slS 4 rfl rfl (slS 5 rfl rfl (slS 6 rfl rfl (slS 7 rfl rfl (slS 8 rfl rfl (slL 0 (d := 0) rfl (slL 1 (d := 1) rfl (trivial)))))))))))) ?_ ?_
      · show ∀ i ∈ [0, 1], _
        refine steps_cons (st_at1 0 ((⟨ob, 0, none⟩ : Addr)) _ rfl rfl rfl (fun _ _ _ _ => rfl) hLo rfl rfl Try.underlying25 rfl (rowX (hL.p_ob.fr H8.1 (by simp)) 0 (Nat.le_of_ble_eq_true rfl)) (fun b G hb ho => ev_off rfl (HS21.get 5 rfl))) ?_
        refine steps_cons (st_run 1 _ rfl rfl hLo rfl rfl (fun _ _ _ _ => rfl) (fun b G w hb ho => exec_move (.inl rfl) (ev_off rfl (HS21.get 6 rfl)))) ?_
        exact steps_nil
      clear hLo
      intro G a22 w22 hS hH
      have HS22 : Sl a22 61 [(7, .string (x ++ nl)), (0, .pointer (some ⟨g, 0, none⟩)), (2, .pointer (some ((⟨r2, 0, none⟩ : Addr)))), (3, .pointer (some ((⟨r3, 0, none⟩ : Addr)))), (5, .int .i64 (((cat ls).size : Int))), (6, .pointer (some ((⟨ob, 0, none⟩ : Addr)))), (8, .slice (A) (ys.length) (cA)), (9, .bool true), (36, .bool false), (37, .slice (oa) (rs.length) (c)), (38, .slice (A) (ys.length) (cA))] := hS
      have HH22 : Held ⟨w17, []⟩ w22 [] := hH
      clear hS hH HS21 HH21
      refine cut_run (i := 2) rfl rfl rfl (exec_conv rfl (HS22.get 10 rfl) Try.underlying58 Try.underlying5 Try.underlying9 (Kd.C_below hC8 HH22.1.below)) HS22 rfl (fun a23 hS => ?_)
      have HS24 : Sl a23 61 [(39, .string (strOfNums ys)), (7, .string (x ++ nl)), (0, .pointer (some ⟨g, 0, none⟩)), (2, .pointer (some ((⟨r2, 0, none⟩ : Addr)))), (3, .pointer (some ((⟨r3, 0, none⟩ : Addr)))), (5, .int .i64 (((cat ls).size : Int))), (6, .pointer (some ((⟨ob, 0, none⟩ : Addr)))), (8, .slice (A) (ys.length) (cA)), (9, .bool true), (36, .bool false), (37, .slice (oa) (rs.length) (c)), (38, .slice (A) (ys.length) (cA))] := hS
      have HH24 : Held ⟨w17, []⟩ w22 [] := HH22
      clear hS
      have hLo : LOk [(3, 40, .new 3 (fun g => .slice (some ⟨g, 0, none⟩) (1) (1)))] := lok (by rfl) (by rfl)
      refine part_ (wE := ⟨w17, []⟩) (sz := 61) (n := 6) 3 4 [0, 1, 3, 7, 15, 31] [(7, .val (.string (x ++ nl))), (0, .val (.pointer (some ⟨g, 0, none⟩))), (2, .val (.pointer (some ((⟨r2, 0, none⟩ : Addr))))), (3, .val (.pointer (some ((⟨r3, 0, none⟩ : Addr))))), (5, .val (.int .i64 (((cat ls).size : Int)))), (6, .val (.pointer (some ((⟨ob, 0, none⟩ : Addr))))), (8, .val (.slice (A) (ys.length) (cA))), (9, .val (.bool true)), (36, .val (.bool false)), (37, .val (.slice (oa) (rs.length) (c))), (40, .new 3 (fun g => .slice (some ⟨g, 0, none⟩) (1) (1)))] [(3, 40, .new 3 (fun g => .slice (some ⟨g, 0, none⟩) (1) (1)))] [⟨0, some 3, none, (), 1, lsc [.s (strOfNums ys)], lsc [.s (strOfNums ys)], 9⟩] rfl rfl (by rfl) HH24 rfl rfl hLo rfl HS24 (slS 1 rfl rfl (slS 2 rfl rfl (slS 3 rfl rfl (slS 4 rfl rfl (slS 5 rfl rfl (slS 6 rfl rfl (slS 7 rfl rfl (slS 8 rfl rfl (slS 9 rfl rfl (slS 10 rfl rfl (slL 0 (d := 3) rfl (trivial)))))))))))) ?_ ?_
      · show ∀ i ∈ [3], _
        refine steps_cons (st_alloc 0 0 () 1 9 none _ _ rfl rfl (fun _ _ _ _ => rfl) rfl hLo rfl rfl rfl rfl (by rfl) (fun b G w hb ho => exec_buildSlice rfl (parts1 (ev_off rfl (HS24.get 0 rfl))) (by kernel_rfl))) ?_
        exact steps_nil
      clear hLo
      intro G a25 w25 hS hH
      have HS25 : Sl a25 61 [(7, .string (x ++ nl)), (0, .pointer (some ⟨g, 0, none⟩)), (2, .pointer (some ((⟨r2, 0, none⟩ : Addr)))), (3, .pointer (some ((⟨r3, 0, none⟩ : Addr)))), (5, .int .i64 (((cat ls).size : Int))), (6, .pointer (some ((⟨ob, 0, none⟩ : Addr)))), (8, .slice (A) (ys.length) (cA)), (9, .bool true), (36, .bool false), (37, .slice (oa) (rs.length) (c)), (40, .slice (some ⟨(G 3), 0, none⟩) (1) (1))] := hS
      have HH25 : Held ⟨w17, []⟩ w25 [⟨(G 3), (), 1, lsc [.s (strOfNums ys)], 9⟩] := hH
      clear hS hH HS24 HH24
      generalize G 3 = g25_3 at HS25 HH25
      have hSr := src_row1 Try.underlying25 (HH25.row 0 rfl)
      have hF11 : Fr ⟨W, []⟩ w25 := (H8.1.comp HH25.1)
      have hO11 := hL.p_out.below hF11.below
      have hz11 := hF11.size
      have HX : Held ⟨W, (Value.slice oa rs.length c).ownBlock.toList⟩ w25 [] := ⟨⟨hF11.os, hF11.tape, hF11.output, hF11.size, fun k hk _ => hF11.block k hk (by simp)⟩, fun r hr => by simp at hr, by simp⟩
      refine cut_appendX (wE := ⟨W, (Value.slice oa rs.length c).ownBlock.toList⟩) (i := 4) rfl rfl rfl rfl (HS25.get 9 rfl) (HS25.get 10 rfl) Try.underlying25 infoStr (by rfl) hO11 hSr (by unfold maxLen; omega) (by omega) (Nat.le_trans hL.p_fr.size hz11) (fun k hk => .inr (by simp [hk])) HX (by simp) (fun q hq => Nat.lt_of_lt_of_le (hgs q hq) hz11) HS25 rfl ?_
      intro oa2 c2 w12 hO12 HX12 a12 hS
      have hz12 := HX12.1.size
      have hOb12 : Row w12 ob () 1 (lsc [.sl oa rs.length c]) T25 := hL.p_ob.fr HX12.1 (by simpa using hL.p_out.apart ob (by simp))
      have HS27 : Sl a12 61 [(41, .slice (oa2) (rs.length + 1) (c2)), (7, .string (x ++ nl)), (0, .pointer (some ⟨g, 0, none⟩)), (2, .pointer (some ((⟨r2, 0, none⟩ : Addr)))), (3, .pointer (some ((⟨r3, 0, none⟩ : Addr)))), (5, .int .i64 (((cat ls).size : Int))), (6, .pointer (some ⟨ob, 0, none⟩)), (8, .slice (A) (ys.length) (cA)), (9, .bool true), (36, .bool false), (37, .slice (oa) (rs.length) (c)), (40, .slice (some ⟨g25_3, 0, none⟩) (1) (1))] := hS
      have HH27 : Held ⟨w12, [ob]⟩ w12 [⟨ob, (), 1, lsc [.sl (oa) (rs.length) (c)], T25⟩] := Held.one hOb12
      clear hS
      have hLo : LOk [] := lok (by rfl) (by rfl)
      refine part_ (wE := ⟨w12, [ob]⟩) (sz := 61) (n := 6) 5 6 [0, 1, 3, 7, 15, 31] [(7, .val (.string (x ++ nl))), (0, .val (.pointer (some ⟨g, 0, none⟩))), (2, .val (.pointer (some ((⟨r2, 0, none⟩ : Addr))))), (3, .val (.pointer (some ((⟨r3, 0, none⟩ : Addr))))), (5, .val (.int .i64 (((cat ls).size : Int)))), (6, .val (.pointer (some ⟨ob, 0, none⟩))), (8, .val (.slice (A) (ys.length) (cA))), (9, .val (.bool true)), (36, .val (.bool false))] [] [⟨ob, none, some 5, (), 1, lsc [.sl (oa) (rs.length) (c)], upd (lsc [.sl (oa) (rs.length) (c)]) 0 (.sl (oa2) (rs.length + 1) (c2)), T25⟩] rfl rfl (by rfl) HH27 rfl rfl hLo rfl HS27 (slS 1 rfl rfl (slS 2 rfl rfl (slS 3 rfl rfl (slS 4 rfl rfl (slS 5 rfl rfl (slS 6 rfl rfl (slS 7 rfl rfl (slS 8 rfl rfl (slS 9 rfl rfl (trivial)))))))))) ?_ ?_
      · show ∀ i ∈ [5], _
        refine steps_cons (st_put 0 _ rfl rfl rfl rfl (fun _ _ _ _ => rfl) rfl rfl rfl (by rfl) (fun b G w hb ho hr => exec_put1 hr (Nat.le_of_ble_eq_true rfl) (by kernel_rfl) rfl (ev_off rfl (HS27.get 6 rfl)) (ev_off rfl (HS27.get 0 rfl)))) ?_
        exact steps_nil
      clear hLo
      intro G a28 w28 hS hH
      have HS28 : Sl a28 61 [(7, .string (x ++ nl)), (0, .pointer (some ⟨g, 0, none⟩)), (2, .pointer (some ((⟨r2, 0, none⟩ : Addr)))), (3, .pointer (some ((⟨r3, 0, none⟩ : Addr)))), (5, .int .i64 (((cat ls).size : Int))), (6, .pointer (some ⟨ob, 0, none⟩)), (8, .slice (A) (ys.length) (cA)), (9, .bool true), (36, .bool false)] := hS
      have HH28 : Held ⟨w12, [ob]⟩ w28 [⟨ob, (), 1, upd (lsc [.sl (oa) (rs.length) (c)]) 0 (.sl (oa2) (rs.length + 1) (c2)), T25⟩] := hH
      clear hS hH HS27 HH27
      refine end_ rfl ?_
      refine inBlock_normal ?_
      exact round_go ix hrs hL hdS HX12.1 hO12 HH28.1 (HH28.row 0 rfl)
  case done =>
    rintro D W hD ⟨rs, oa, c, hrs, hL⟩ hK
    rw [Ad_eq HS8]
    rw [hB] at hD
    have hHm := held4 hL.p_g hL.p_r2 hL.p_r3 hL.p_ob ix.nd
    refine inBlock_normal ?_
    refine then_ ?_
    refine wp_seq ?_
    refine wholeD_ ?_
    have hLo : LOk [(0, 42, .val (.pointer (some ⟨g, 0, none⟩))), (1, 43, .val (.pointer (some ⟨g, 0, none⟩))), (2, 44, .val (.pointer (some ⟨g, 0, none⟩))), (3, 45, .val (.pointer (some ⟨g, 0, none⟩))), (4, 46, .val (.string (al))), (5, 47, .val (.int .i64 (((cat ls).size : Int)))), (6, 48, .val (.string ((al).extract 0 ((cat ls).size)))), (7, 49, .val (.pointer (some ⟨g, 0, none⟩))), (8, 50, .val (.pointer (some ⟨g, 0, none⟩)))] := lok (by rfl) (by rfl)
    refine part_ (wE := ⟨W, [g, r2, r3, ob]⟩) (sz := 61) (n := 10) 0 10 [0, 1, 3, 7, 15, 31, 63, 127, 255, 511] [(0, .val (.pointer (some ⟨g, 0, none⟩))), (2, .val (.pointer (some ⟨r2, 0, none⟩))), (3, .val (.pointer (some ⟨r3, 0, none⟩))), (4, .val (.int .i64 (0))), (13, .val (.bool false)), (5, .val (.int .i64 (((cat ls).size : Int)))), (6, .val (.pointer (some ⟨ob, 0, none⟩))), (25, .val (.int .i64 (((cat ls).size : Int)))), (26, .val (.string (cat ls)))] [(0, 42, .val (.pointer (some ⟨g, 0, none⟩))), (1, 43, .val (.pointer (some ⟨g, 0, none⟩))), (2, 44, .val (.pointer (some ⟨g, 0, none⟩))), (3, 45, .val (.pointer (some ⟨g, 0, none⟩))), (4, 46, .val (.string (al))), (5, 47, .val (.int .i64 (((cat ls).size : Int)))), (6, 48, .val (.string ((al).extract 0 ((cat ls).size)))), (7, 49, .val (.pointer (some ⟨g, 0, none⟩))), (8, 50, .val (.pointer (some ⟨g, 0, none⟩)))] [⟨g, none, some 9, (), 6, spC ⟨al, sy, false, acts, inn, keep⟩, upd (spC ⟨al, sy, false, acts, inn, keep⟩) 0 (.s ((al).extract 0 ((cat ls).size))), 53⟩, ⟨r2, none, none, (), 1, lsc [.sl (none) (0) (0)], lsc [.sl (none) (0) (0)], 25⟩, ⟨r3, none, none, (), 1, lsc [.i .i64 (0)], lsc [.i .i64 (0)], 26⟩, ⟨ob, none, none, (), 1, lsc [.sl (oa) (rs.length) (c)], lsc [.sl (oa) (rs.length) (c)], T25⟩] rfl rfl (by rfl) hHm rfl rfl hLo rfl HS8 (slS 1 rfl rfl (slS 2 rfl rfl (slS 3 rfl rfl (slS 4 rfl rfl (slS 5 rfl rfl (slS 6 rfl rfl (slS 7 rfl rfl (slS 8 rfl rfl (slS 9 rfl rfl (trivial)))))))))) ?_ ?_
    · show ∀ i ∈ [0, 1, 2, 3, 4, 5, 6, 7, 8, 9], _
      refine steps_cons (st_run 0 _ rfl rfl hLo rfl rfl (fun _ _ _ _ => rfl) (fun b G w hb ho => exec_move (.inl rfl) (ev_off rfl (HS8.get 1 rfl)))) ?_
      refine steps_cons (st_run 1 _ rfl rfl hLo rfl rfl (fun _ _ _ _ => rfl) (fun b G w hb ho => exec_move (.inl rfl) (ev_off rfl (HS8.get 1 rfl)))) ?_
      refine steps_cons (st_run 2 _ rfl rfl hLo rfl rfl (fun _ _ _ _ => rfl) (fun b G w hb ho => exec_nil rfl (ev_on hLo 1 rfl HS8.1 rfl (hb 1 (by rfl))))) ?_
      refine steps_cons (st_run 3 _ rfl rfl hLo rfl rfl (fun _ _ _ _ => rfl) (fun b G w hb ho => exec_field rfl (ev_on hLo 2 rfl HS8.1 rfl (hb 2 (by rfl))) (by kernel_rfl))) ?_
      refine steps_cons (st_read 4 0 _ _ rfl rfl rfl hLo rfl rfl (fun _ _ _ _ => rfl) (by rfl) (by rfl) (fun b G w hb ho hr => exec_cell hr (Nat.le_of_ble_eq_true rfl) Try.underlying9 rfl rfl (ev_on hLo 3 rfl HS8.1 rfl (hb 3 (by rfl))))) ?_
      refine steps_cons (st_run 5 _ rfl rfl hLo rfl rfl (fun _ _ _ _ => rfl) (fun b G w hb ho => exec_move (.inl rfl) (ev_off rfl (HS8.get 6 rfl)))) ?_
      refine steps_cons (st_run 6 _ rfl rfl hLo rfl rfl (fun _ _ _ _ => rfl) (fun b G w hb ho => exec_slice rfl (ev_on hLo 4 rfl HS8.1 rfl (hb 4 (by rfl))) rfl (congrArg some (ev_on hLo 5 rfl HS8.1 rfl (hb 5 (by rfl)))) rfl (rs_hi Try.underlying9 (hle) _))) ?_
      refine steps_cons (st_run 7 _ rfl rfl hLo rfl rfl (fun _ _ _ _ => rfl) (fun b G w hb ho => exec_nil rfl (ev_on hLo 0 rfl HS8.1 rfl (hb 0 (by rfl))))) ?_
      refine steps_cons (st_run 8 _ rfl rfl hLo rfl rfl (fun _ _ _ _ => rfl) (fun b G w hb ho => exec_field rfl (ev_on hLo 7 rfl HS8.1 rfl (hb 7 (by rfl))) (by kernel_rfl))) ?_
      refine steps_cons (st_put 0 _ rfl rfl rfl rfl (fun _ _ _ _ => rfl) rfl rfl rfl (by rfl) (fun b G w hb ho hr => exec_put1 hr (Nat.le_of_ble_eq_true rfl) (by kernel_rfl) rfl (ev_on hLo 8 rfl HS8.1 rfl (hb 8 (by rfl))) (ev_on hLo 6 rfl HS8.1 rfl (hb 6 (by rfl))))) ?_
      exact steps_nil
    clear hLo
    intro G a29 w29 hS hH
    have HS29 : Sl a29 61 [(0, .pointer (some ⟨g, 0, none⟩)), (2, .pointer (some ⟨r2, 0, none⟩)), (3, .pointer (some ⟨r3, 0, none⟩)), (4, .int .i64 (0)), (13, .bool false), (5, .int .i64 (((cat ls).size : Int))), (6, .pointer (some ⟨ob, 0, none⟩)), (25, .int .i64 (((cat ls).size : Int))), (26, .string (cat ls))] := hS
    have HH29 : Held ⟨W, [g, r2, r3, ob]⟩ w29 [⟨g, (), 6, upd (spC ⟨al, sy, false, acts, inn, keep⟩) 0 (.s ((al).extract 0 ((cat ls).size))), 53⟩, ⟨r2, (), 1, lsc [.sl (none) (0) (0)], 25⟩, ⟨r3, (), 1, lsc [.i .i64 (0)], 26⟩, ⟨ob, (), 1, lsc [.sl (oa) (rs.length) (c)], T25⟩] := hH
    clear hS hH HS8 hHm
    refine end_ rfl ?_
    refine then_ ?_
    refine wp_seq ?_
    refine wholeD_ ?_
    have hLo : LOk [(0, 51, .val (.pointer (some ⟨g, 0, none⟩))), (1, 52, .val (.pointer (some ⟨g, 0, none⟩))), (2, 53, .val (.pointer (some ⟨g, 0, none⟩))), (3, 54, .val (.pointer (some ⟨g, 1, none⟩))), (4, 55, .val (.int .i64 (((sy : Nat) : Int)))), (5, 56, .val (.int .i64 (((cat ls).size : Int)))), (6, 57, .val (.int .i64 (((min sy (cat ls).size : Nat) : Int)))), (7, 58, .val (.pointer (some ⟨g, 0, none⟩))), (8, 59, .val (.pointer (some ⟨g, 1, none⟩)))] := lok (by rfl) (by rfl)
    refine part_ (wE := ⟨W, [g, r2, r3, ob]⟩) (sz := 61) (n := 10) 0 10 [0, 1, 3, 7, 15, 31, 63, 127, 255, 511] [(0, .val (.pointer (some ⟨g, 0, none⟩))), (2, .val (.pointer (some ⟨r2, 0, none⟩))), (3, .val (.pointer (some ⟨r3, 0, none⟩))), (4, .val (.int .i64 (0))), (13, .val (.bool false)), (5, .val (.int .i64 (((cat ls).size : Int)))), (6, .val (.pointer (some ⟨ob, 0, none⟩))), (25, .val (.int .i64 (((cat ls).size : Int)))), (26, .val (.string (cat ls)))] [(0, 51, .val (.pointer (some ⟨g, 0, none⟩))), (1, 52, .val (.pointer (some ⟨g, 0, none⟩))), (2, 53, .val (.pointer (some ⟨g, 0, none⟩))), (3, 54, .val (.pointer (some ⟨g, 1, none⟩))), (4, 55, .val (.int .i64 (((sy : Nat) : Int)))), (5, 56, .val (.int .i64 (((cat ls).size : Int)))), (6, 57, .val (.int .i64 (((min sy (cat ls).size : Nat) : Int)))), (7, 58, .val (.pointer (some ⟨g, 0, none⟩))), (8, 59, .val (.pointer (some ⟨g, 1, none⟩)))] [⟨g, none, some 9, (), 6, upd (spC ⟨al, sy, false, acts, inn, keep⟩) 0 (.s ((al).extract 0 ((cat ls).size))), upd (upd (spC ⟨al, sy, false, acts, inn, keep⟩) 0 (.s ((al).extract 0 ((cat ls).size)))) 1 (.i .i64 (((min sy (cat ls).size : Nat) : Int))), 53⟩, ⟨r2, none, none, (), 1, lsc [.sl (none) (0) (0)], lsc [.sl (none) (0) (0)], 25⟩, ⟨r3, none, none, (), 1, lsc [.i .i64 (0)], lsc [.i .i64 (0)], 26⟩, ⟨ob, none, none, (), 1, lsc [.sl (oa) (rs.length) (c)], lsc [.sl (oa) (rs.length) (c)], T25⟩] rfl rfl (by rfl) HH29 rfl rfl hLo rfl HS29 (slS 0 rfl rfl (slS 1 rfl rfl (slS 2 rfl rfl (slS 3 rfl rfl (slS 4 rfl rfl (slS 5 rfl rfl (slS 6 rfl rfl (slS 7 rfl rfl (slS 8 rfl rfl (trivial)))))))))) ?_ ?_
    · show ∀ i ∈ [0, 1, 2, 3, 4, 5, 6, 7, 8, 9], _
      refine steps_cons (st_run 0 _ rfl rfl hLo rfl rfl (fun _ _ _ _ => rfl) (fun b G w hb ho => exec_move (.inl rfl) (ev_off rfl (HS29.get 0 rfl)))) ?_
      refine steps_cons (st_run 1 _ rfl rfl hLo rfl rfl (fun _ _ _ _ => rfl) (fun b G w hb ho => exec_move (.inl rfl) (ev_off rfl (HS29.get 0 rfl)))) ?_
      refine steps_cons (st_run 2 _ rfl rfl hLo rfl rfl (fun _ _ _ _ => rfl) (fun b G w hb ho => exec_nil rfl (ev_on hLo 1 rfl HS29.1 rfl (hb 1 (by rfl))))) ?_
      refine steps_cons (st_run 3 _ rfl rfl hLo rfl rfl (fun _ _ _ _ => rfl) (fun b G w hb ho => exec_field rfl (ev_on hLo 2 rfl HS29.1 rfl (hb 2 (by rfl))) (by kernel_rfl))) ?_
      refine steps_cons (st_read 4 0 _ _ rfl rfl rfl hLo rfl rfl (fun _ _ _ _ => rfl) (by rfl) (by rfl) (fun b G w hb ho hr => exec_cell hr (Nat.le_of_ble_eq_true rfl) Try.underlying3 rfl rfl (ev_on hLo 3 rfl HS29.1 rfl (hb 3 (by rfl))))) ?_
      refine steps_cons (st_run 5 _ rfl rfl hLo rfl rfl (fun _ _ _ _ => rfl) (fun b G w hb ho => exec_move (.inl rfl) (ev_off rfl (HS29.get 5 rfl)))) ?_
      refine steps_cons (st_run 6 _ rfl rfl hLo rfl rfl (fun _ _ _ _ => rfl) (fun b G w hb ho => exec_min (min_nat _ _) rfl (ev_on hLo 4 rfl HS29.1 rfl (hb 4 (by rfl))) (ev_on hLo 5 rfl HS29.1 rfl (hb 5 (by rfl))))) ?_
      refine steps_cons (st_run 7 _ rfl rfl hLo rfl rfl (fun _ _ _ _ => rfl) (fun b G w hb ho => exec_nil rfl (ev_on hLo 0 rfl HS29.1 rfl (hb 0 (by rfl))))) ?_
      refine steps_cons (st_run 8 _ rfl rfl hLo rfl rfl (fun _ _ _ _ => rfl) (fun b G w hb ho => exec_field rfl (ev_on hLo 7 rfl HS29.1 rfl (hb 7 (by rfl))) (by kernel_rfl))) ?_
      refine steps_cons (st_put 0 _ rfl rfl rfl rfl (fun _ _ _ _ => rfl) rfl rfl rfl (by rfl) (fun b G w hb ho hr => exec_put1 hr (Nat.le_of_ble_eq_true rfl) (by kernel_rfl) rfl (ev_on hLo 8 rfl HS29.1 rfl (hb 8 (by rfl))) (ev_on hLo 6 rfl HS29.1 rfl (hb 6 (by rfl))))) ?_
      exact steps_nil
    clear hLo
    intro G a30 w30 hS hH
    have HS30 : Sl a30 61 [(0, .pointer (some ⟨g, 0, none⟩)), (2, .pointer (some ⟨r2, 0, none⟩)), (3, .pointer (some ⟨r3, 0, none⟩)), (4, .int .i64 (0)), (13, .bool false), (5, .int .i64 (((cat ls).size : Int))), (6, .pointer (some ⟨ob, 0, none⟩)), (25, .int .i64 (((cat ls).size : Int))), (26, .string (cat ls))] := hS
    have HH30 : Held ⟨W, [g, r2, r3, ob]⟩ w30 [⟨g, (), 6, upd (upd (spC ⟨al, sy, false, acts, inn, keep⟩) 0 (.s ((al).extract 0 ((cat ls).size)))) 1 (.i .i64 (((min sy (cat ls).size : Nat) : Int))), 53⟩, ⟨r2, (), 1, lsc [.sl (none) (0) (0)], 25⟩, ⟨r3, (), 1, lsc [.i .i64 (0)], 26⟩, ⟨ob, (), 1, lsc [.sl (oa) (rs.length) (c)], T25⟩] := hH
    clear hS hH HS29 HH29
    refine end_ rfl ?_
    refine then_ ?_
    refine wp_seq ?_
    refine wholeD_ ?_
    have hLo : LOk [(0, 60, .val (.slice (oa) (rs.length) (c)))] := lok (by rfl) (by rfl)
    refine part_ (wE := ⟨W, [g, r2, r3, ob]⟩) (sz := 61) (n := 3) 0 3 [0, 1, 3] [(0, .val (.pointer (some ⟨g, 0, none⟩))), (2, .val (.pointer (some ⟨r2, 0, none⟩))), (3, .val (.pointer (some ⟨r3, 0, none⟩))), (4, .val (.int .i64 (0))), (13, .val (.bool false)), (5, .val (.int .i64 (((cat ls).size : Int)))), (6, .val (.pointer (some ⟨ob, 0, none⟩))), (25, .val (.int .i64 (((cat ls).size : Int)))), (26, .val (.string (cat ls)))] [(0, 60, .val (.slice (oa) (rs.length) (c)))] [⟨g, none, none, (), 6, upd (upd (spC ⟨al, sy, false, acts, inn, keep⟩) 0 (.s ((al).extract 0 ((cat ls).size)))) 1 (.i .i64 (((min sy (cat ls).size : Nat) : Int))), upd (upd (spC ⟨al, sy, false, acts, inn, keep⟩) 0 (.s ((al).extract 0 ((cat ls).size)))) 1 (.i .i64 (((min sy (cat ls).size : Nat) : Int))), 53⟩, ⟨r2, none, some 1, (), 1, lsc [.sl (none) (0) (0)], upd (lsc [.sl (none) (0) (0)]) 0 (.sl (oa) (rs.length) (c)), 25⟩, ⟨r3, none, some 2, (), 1, lsc [.i .i64 (0)], upd (lsc [.i .i64 (0)]) 0 (.i .i64 (0)), 26⟩, ⟨ob, none, none, (), 1, lsc [.sl (oa) (rs.length) (c)], lsc [.sl (oa) (rs.length) (c)], T25⟩] rfl rfl (by rfl) HH30 rfl rfl hLo rfl HS30 (slS 0 rfl rfl (slS 1 rfl rfl (slS 2 rfl rfl (slS 3 rfl rfl (slS 4 rfl rfl (slS 5 rfl rfl (slS 6 rfl rfl (slS 7 rfl rfl (slS 8 rfl rfl (trivial)))))))))) ?_ ?_
    · show ∀ i ∈ [0, 1, 2], _
      refine steps_cons (st_read 0 3 _ _ rfl rfl rfl hLo rfl rfl (fun _ _ _ _ => rfl) (by rfl) (by rfl) (fun b G w hb ho hr => exec_cell hr (Nat.le_of_ble_eq_true rfl) Try.underlying25 rfl rfl (ev_off rfl (HS30.get 6 rfl)))) ?_
      refine steps_cons (st_put 1 _ rfl rfl rfl rfl (fun _ _ _ _ => rfl) rfl rfl rfl (by rfl) (fun b G w hb ho hr => exec_put1 hr (Nat.le_of_ble_eq_true rfl) (by kernel_rfl) rfl (ev_off rfl (HS30.get 1 rfl)) (ev_on hLo 0 rfl HS30.1 rfl (hb 0 (by rfl))))) ?_
      refine steps_cons (st_put 2 _ rfl rfl rfl rfl (fun _ _ _ _ => rfl) rfl rfl rfl (by rfl) (fun b G w hb ho hr => exec_put1 hr (Nat.le_of_ble_eq_true rfl) (by kernel_rfl) rfl (ev_off rfl (HS30.get 2 rfl)) (rfl))) ?_
      exact steps_nil
    clear hLo
    intro G a31 w31 hS hH
    have HS31 : Sl a31 61 [(0, .pointer (some ⟨g, 0, none⟩)), (2, .pointer (some ⟨r2, 0, none⟩)), (3, .pointer (some ⟨r3, 0, none⟩)), (4, .int .i64 (0)), (13, .bool false), (5, .int .i64 (((cat ls).size : Int))), (6, .pointer (some ⟨ob, 0, none⟩)), (25, .int .i64 (((cat ls).size : Int))), (26, .string (cat ls))] := hS
    have HH31 : Held ⟨W, [g, r2, r3, ob]⟩ w31 [⟨g, (), 6, upd (upd (spC ⟨al, sy, false, acts, inn, keep⟩) 0 (.s ((al).extract 0 ((cat ls).size)))) 1 (.i .i64 (((min sy (cat ls).size : Nat) : Int))), 53⟩, ⟨r2, (), 1, upd (lsc [.sl (none) (0) (0)]) 0 (.sl (oa) (rs.length) (c)), 25⟩, ⟨r3, (), 1, upd (lsc [.i .i64 (0)]) 0 (.i .i64 (0)), 26⟩, ⟨ob, (), 1, lsc [.sl (oa) (rs.length) (c)], T25⟩] := hH
    clear hS hH HS30 HH30
    refine end_ rfl ?_
    refine then_ ?_
    refine wp_ret ?_
    repeat (first | refine then_ret ?_ | refine inBlock_ret' ?_)
    have hKN := (HH31.1.block D (Array.getElem?_eq_some_iff.1 hK).1 (by have := hL.p_b; have q1 := ix.p_lt; have q2 := nodefer hL.p_g hK; have q3 := nodefer hL.p_r2 hK; have q4 := nodefer hL.p_r3 hK; have q5 := nodefer hL.p_ob hK; simp; omega)).trans hK
    exact b_mark HS31.2.1 hKN (results2 (by rfl) Try.underlying25 rfl Try.underlying26 rfl (HS31.get 1 rfl) (HS31.get 2 rfl) ((HH31.row 1 rfl).put _ hKN rfl) ((HH31.row 2 rfl).put _ hKN rfl)) (open_good ix hL hrs hD hKN HH31.1 ((HH31.row 0 rfl).norm (six ⟨congrArg SC.s he, rfl, rfl, rfl, rfl, rfl⟩)))
  case stop =>
    rintro D pre W hD ⟨t, ht⟩ ⟨hn, hX⟩ hK
    rw [Ad_eq HS8]
    rw [hB] at hD
    refine wpIn_ret ?_
    repeat (first | refine then_ret ?_ | refine inBlock_ret' ?_)
    exact b_mark HS8.2.1 hK (results2 (by rfl) Try.underlying25 rfl Try.underlying26 rfl (HS8.get 2 rfl) (HS8.get 3 rfl) (hX.p_r2.put _ hK rfl) (hX.p_r3.put _ hK rfl)) (open_bad ix hX (by rw [← ht]; exact hn t) hD hK)
theorem tabac4 : rtab .any (opsOf Try.f16 4) = (true, [([], []), ([0], [0]), ([1], [1]), ([], []), ([3], [3]), ([4], [4]), ([5], [5]), ([6], [6]), ([7], [7]), ([2, 8], [2, 8])]) := by kernel_rfl
theorem bitsac4 : waitsOk [([], []), ([0], [0]), ([1], [1]), ([], []), ([3], [3]), ([4], [4]), ([5], [5]), ([6], [6]), ([7], [7]), ([2, 8], [2, 8])] [0, 1, 3, 0, 8, 24, 56, 120, 248, 511] = true := by kernel_rfl
theorem tabac6 : rtab .any (opsOf Try.f16 6) = (true, [([], []), ([0], [0]), ([1], [1]), ([2], [2]), ([], []), ([4], [4]), ([5], [5]), ([6], [6]), ([3, 7], [3, 7]), ([0, 0, 1, 2, 3, 4, 5, 6, 7, 8], [0]), ([9, 0, 1, 2, 3, 4, 5, 6, 7, 8], [9]), ([10, 8, 6, 0, 1, 2, 3, 4, 5, 6, 7, 8], [8, 10])]) := by kernel_rfl
theorem bitsac6 : waitsOk [([], []), ([0], [0]), ([1], [1]), ([2], [2]), ([], []), ([4], [4]), ([5], [5]), ([6], [6]), ([3, 7], [3, 7]), ([0, 0, 1, 2, 3, 4, 5, 6, 7, 8], [0]), ([9, 0, 1, 2, 3, 4, 5, 6, 7, 8], [9]), ([10, 8, 6, 0, 1, 2, 3, 4, 5, 6, 7, 8], [8, 10])] [0, 1, 3, 7, 0, 16, 48, 112, 255, 511, 1023, 2047] = true := by kernel_rfl
theorem tabad4 : rtab .any (opsOf Try.f16 4) = (true, [([], []), ([0], [0]), ([1], [1]), ([], []), ([3], [3]), ([4], [4]), ([5], [5]), ([6], [6]), ([7], [7]), ([2, 8], [2, 8])]) := by kernel_rfl
theorem bitsad4 : waitsOk [([], []), ([0], [0]), ([1], [1]), ([], []), ([3], [3]), ([4], [4]), ([5], [5]), ([6], [6]), ([7], [7]), ([2, 8], [2, 8])] [0, 1, 3, 0, 8, 24, 56, 120, 248, 511] = true := by kernel_rfl
theorem tabad6 : rtab .any (opsOf Try.f16 6) = (true, [([], []), ([0], [0]), ([1], [1]), ([2], [2]), ([], []), ([4], [4]), ([5], [5]), ([6], [6]), ([3, 7], [3, 7]), ([0, 0, 1, 2, 3, 4, 5, 6, 7, 8], [0]), ([9, 0, 1, 2, 3, 4, 5, 6, 7, 8], [9]), ([10, 8, 6, 0, 1, 2, 3, 4, 5, 6, 7, 8], [8, 10])]) := by kernel_rfl
theorem bitsad6 : waitsOk [([], []), ([0], [0]), ([1], [1]), ([2], [2]), ([], []), ([4], [4]), ([5], [5]), ([6], [6]), ([3, 7], [3, 7]), ([0, 0, 1, 2, 3, 4, 5, 6, 7, 8], [0]), ([9, 0, 1, 2, 3, 4, 5, 6, 7, 8], [9]), ([10, 8, 6, 0, 1, 2, 3, 4, 5, 6, 7, 8], [8, 10])] [0, 1, 3, 7, 0, 16, 48, 112, 255, 511, 1023, 2047] = true := by kernel_rfl
theorem app_goes {w : World} {g : Nat} {al : ByteArray} {sy : Nat} {acts : Nat} {keep : Int} {r : ByteArray} (hr : Row w g () 6 (spC ⟨al, sy, false, acts, 1, keep⟩) 53) (hs : r.size ≤ 1073741824) (hf : encLen r.size + al.size < 4194304) (hac : acts ≤ 1000000) (hsy : sy ≤ al.size) : Calls Try.prog 16 #[.pointer (some ⟨g, 0, none⟩), .string (r)] w fun e w' => e = .returned (.int .i64 50) ∧ Row w' g () 6 (spC ⟨(al ++ lineS r).extract 0 (sy + kp keep ((al ++ lineS r).size - sy)), sy + kp keep ((al ++ lineS r).size - sy), true, acts + 1, 0, keep⟩) 53 ∧ Fr ⟨w, [g]⟩ w' := by
  refine enter_ 35 Try.func16 rfl rfl (fun a0 hS => ?_)
  have HS0 : Sl a0 35 [(0, .pointer (some ⟨g, 0, none⟩)), (1, .string (r))] := hS
  have HH0 : Held ⟨w, [g]⟩ w [⟨g, (), 6, spC ⟨al, sy, false, acts, 1, keep⟩, 53⟩] := Held.one hr
  clear hS
  refine wp_seq ?_
  have hLo : LOk [(0, 4, .val (.int .i64 (0)))] := lok (by rfl) (by rfl)
  refine plain_ (wE := ⟨w, [g]⟩) (sz := 35) (n := 1) [0] [(0, .val (.pointer (some ⟨g, 0, none⟩))), (1, .val (.string (r))), (4, .val (.int .i64 (0)))] [(0, 4, .val (.int .i64 (0)))] [⟨g, none, none, (), 6, spC ⟨al, sy, false, acts, 1, keep⟩, spC ⟨al, sy, false, acts, 1, keep⟩, 53⟩] rfl (by rfl) HH0 rfl rfl hLo rfl HS0 (slS 0 rfl rfl (slS 1 rfl rfl (slL 0 (d := 0) rfl (trivial)))) ?_ ?_
  · show ∀ i ∈ [0], _
    refine steps_cons (st_run 0 _ rfl rfl hLo rfl rfl (fun _ _ _ _ => rfl) (fun b G w hb ho => exec_move (.inr rfl) (rfl))) ?_
    exact steps_nil
  clear hLo
  intro G a1 w1 hS hH
  have HS1 : Sl a1 35 [(0, .pointer (some ⟨g, 0, none⟩)), (1, .string (r)), (4, .int .i64 (0))] := hS
  have HH1 : Held ⟨w, [g]⟩ w1 [⟨g, (), 6, spC ⟨al, sy, false, acts, 1, keep⟩, 53⟩] := hH
  clear hS hH HS0 HH0
  refine then_ ?_
  refine wp_seq ?_
  refine wp_seq ?_
  have hLo : LOk [(0, 6, .val (.pointer (some ⟨g, 0, none⟩))), (1, 7, .val (.int .i64 (0))), (2, 5, .val (.int .i64 (0)))] := lok (by rfl) (by rfl)
  refine plain_ (wE := ⟨w, [g]⟩) (sz := 35) (n := 3) [0, 1, 3] [(0, .val (.pointer (some ⟨g, 0, none⟩))), (1, .val (.string (r))), (4, .val (.int .i64 (0))), (5, .val (.int .i64 (0)))] [(0, 6, .val (.pointer (some ⟨g, 0, none⟩))), (1, 7, .val (.int .i64 (0))), (2, 5, .val (.int .i64 (0)))] [⟨g, none, none, (), 6, spC ⟨al, sy, false, acts, 1, keep⟩, spC ⟨al, sy, false, acts, 1, keep⟩, 53⟩] rfl (by rfl) HH1 rfl rfl hLo rfl HS1 (slS 0 rfl rfl (slS 1 rfl rfl (slS 2 rfl rfl (slL 2 (d := 2) rfl (trivial))))) ?_ ?_
  · show ∀ i ∈ [0, 1, 2], _
    refine steps_cons (st_run 0 _ rfl rfl hLo rfl rfl (fun _ _ _ _ => rfl) (fun b G w hb ho => exec_move (.inl rfl) (ev_off rfl (HS1.get 0 rfl)))) ?_
    refine steps_cons (st_callRB 1 0 _ _ (fun G => #[.pointer (some ⟨g, 0, none⟩)]) rfl rfl rfl rfl (fun _ _ _ _ => rfl) hLo rfl rfl (by rfl) (by rfl) Try.func29 rfl rfl (fun b G hb ho => args1 (ev_on hLo 0 rfl HS1.1 rfl (hb 0 (by rfl)))) (fun G w hw hr => ready_on hr)) ?_
    refine steps_cons (st_run 2 _ rfl rfl hLo rfl rfl (fun _ _ _ _ => rfl) (fun b G w hb ho => exec_move (.inr rfl) (ev_on hLo 1 rfl HS1.1 rfl (hb 1 (by rfl))))) ?_
    exact steps_nil
  clear hLo
  intro G a2 w2 hS hH
  have HS2 : Sl a2 35 [(0, .pointer (some ⟨g, 0, none⟩)), (1, .string (r)), (4, .int .i64 (0)), (5, .int .i64 (0))] := hS
  have HH2 : Held ⟨w, [g]⟩ w2 [⟨g, (), 6, spC ⟨al, sy, false, acts, 1, keep⟩, 53⟩] := hH
  clear hS hH HS1 HH1
  refine then_ ?_
  refine wp_seq ?_
  have hLo : LOk [(0, 8, .val (.int .i64 (0))), (1, 9, .val (.bool false))] := lok (by rfl) (by rfl)
  refine plain_ (wE := ⟨w, [g]⟩) (sz := 35) (n := 2) [0, 1] [(0, .val (.pointer (some ⟨g, 0, none⟩))), (1, .val (.string (r))), (4, .val (.int .i64 (0))), (5, .val (.int .i64 (0))), (9, .val (.bool false))] [(0, 8, .val (.int .i64 (0))), (1, 9, .val (.bool false))] [⟨g, none, none, (), 6, spC ⟨al, sy, false, acts, 1, keep⟩, spC ⟨al, sy, false, acts, 1, keep⟩, 53⟩] rfl (by rfl) HH2 rfl rfl hLo rfl HS2 (slS 0 rfl rfl (slS 1 rfl rfl (slS 2 rfl rfl (slS 3 rfl rfl (slL 1 (d := 1) rfl (trivial)))))) ?_ ?_
  · show ∀ i ∈ [0, 1], _
    refine steps_cons (st_run 0 _ rfl rfl hLo rfl rfl (fun _ _ _ _ => rfl) (fun b G w hb ho => exec_move (.inl rfl) (ev_off rfl (HS2.get 3 rfl)))) ?_
    refine steps_cons (st_run 1 _ rfl rfl hLo rfl rfl (fun _ _ _ _ => rfl) (fun b G w hb ho => exec_bin rfl (ev_on hLo 0 rfl HS2.1 rfl (hb 0 (by rfl))) (rfl) (rb_neq (rfl) _ _ _))) ?_
    exact steps_nil
  clear hLo
  intro G a3 w3 hS hH
  have HS3 : Sl a3 35 [(0, .pointer (some ⟨g, 0, none⟩)), (1, .string (r)), (4, .int .i64 (0)), (5, .int .i64 (0)), (9, .bool false)] := hS
  have HH3 : Held ⟨w, [g]⟩ w3 [⟨g, (), 6, spC ⟨al, sy, false, acts, 1, keep⟩, 53⟩] := hH
  clear hS hH HS2 HH2
  refine then_ ?_
  refine wp_cond_false (HS3.get 4 rfl) ?_
  refine wp_skip ?_
  refine then_ ?_
  refine wp_seq ?_
  refine wp_seq ?_
  have hLo : LOk [(0, 11, .val (.string (r))), (1, 12, .val (.int .i64 (((r).size : Int)))), (2, 13, .val (.int .i64 ((encLen r.size : Int)))), (3, 14, .val (.pointer (some ⟨g, 0, none⟩))), (4, 15, .val (.pointer (some ⟨g, 0, none⟩))), (5, 16, .val (.pointer (some ⟨g, 0, none⟩))), (6, 17, .val (.string (al))), (7, 18, .val (.int .i64 (((al).size : Int)))), (8, 19, .val (.int .i64 ((4194304 : Int) - (al.size : Int)))), (9, 20, .val (.bool false))] := lok (by rfl) (by rfl)
  refine region_ (wE := ⟨w, [g]⟩) (sz := 35) (n := 10) (B := [0, 1, 3, 0, 8, 24, 56, 120, 248, 511]) [0, 1, 2, 3, 4, 5, 6, 7, 8, 9] [(0, .val (.pointer (some ⟨g, 0, none⟩))), (1, .val (.string (r))), (4, .val (.int .i64 (0))), (5, .val (.int .i64 (0))), (9, .val (.bool false)), (20, .val (.bool false))] [(0, 11, .val (.string (r))), (1, 12, .val (.int .i64 (((r).size : Int)))), (2, 13, .val (.int .i64 ((encLen r.size : Int)))), (3, 14, .val (.pointer (some ⟨g, 0, none⟩))), (4, 15, .val (.pointer (some ⟨g, 0, none⟩))), (5, 16, .val (.pointer (some ⟨g, 0, none⟩))), (6, 17, .val (.string (al))), (7, 18, .val (.int .i64 (((al).size : Int)))), (8, 19, .val (.int .i64 ((4194304 : Int) - (al.size : Int)))), (9, 20, .val (.bool false))] [⟨g, none, none, (), 6, spC ⟨al, sy, false, acts, 1, keep⟩, spC ⟨al, sy, false, acts, 1, keep⟩, 53⟩] (by rfl) rfl tabac4 bitsac4 (by kernel_rfl) (by kernel_rfl) HH3 rfl rfl hLo rfl HS3 (slS 0 rfl rfl (slS 1 rfl rfl (slS 2 rfl rfl (slS 3 rfl rfl (slS 4 rfl rfl (slL 9 (d := 9) rfl (trivial))))))) ?_ ?_
  · show ∀ i ∈ [0, 1, 2, 3, 4, 5, 6, 7, 8, 9], _
    refine steps_cons (st_run 0 _ rfl rfl hLo rfl rfl (fun _ _ _ _ => rfl) (fun b G w hb ho => exec_move (.inl rfl) (ev_off rfl (HS3.get 1 rfl)))) ?_
    refine steps_cons (st_run 1 _ rfl rfl hLo rfl rfl (fun _ _ _ _ => rfl) (fun b G w hb ho => exec_lenS Try.underlying9 rfl (ev_on hLo 0 rfl HS3.1 rfl (hb 0 (by rfl))))) ?_
    refine steps_cons (st_call 2 _ #[.int .i64 (((r).size : Int))] rfl rfl rfl (fun _ _ _ _ => rfl) hLo rfl rfl Try.func36 rfl rfl (fun b G hb ho => args1 (ev_on hLo 1 rfl HS3.1 rfl (hb 1 (by rfl)))) (fun w hw => len_calls (by omega) _)) ?_
    refine steps_cons (st_run 3 _ rfl rfl hLo rfl rfl (fun _ _ _ _ => rfl) (fun b G w hb ho => exec_move (.inl rfl) (ev_off rfl (HS3.get 0 rfl)))) ?_
    refine steps_cons (st_run 4 _ rfl rfl hLo rfl rfl (fun _ _ _ _ => rfl) (fun b G w hb ho => exec_nil rfl (ev_on hLo 3 rfl HS3.1 rfl (hb 3 (by rfl))))) ?_
    refine steps_cons (st_run 5 _ rfl rfl hLo rfl rfl (fun _ _ _ _ => rfl) (fun b G w hb ho => exec_field rfl (ev_on hLo 4 rfl HS3.1 rfl (hb 4 (by rfl))) (by kernel_rfl))) ?_
    refine steps_cons (st_read 6 0 _ _ rfl rfl rfl hLo rfl rfl (fun _ _ _ _ => rfl) (by rfl) (by rfl) (fun b G w hb ho hr => exec_cell hr (Nat.le_of_ble_eq_true rfl) Try.underlying9 rfl rfl (ev_on hLo 5 rfl HS3.1 rfl (hb 5 (by rfl))))) ?_
    refine steps_cons (st_run 7 _ rfl rfl hLo rfl rfl (fun _ _ _ _ => rfl) (fun b G w hb ho => exec_lenS Try.underlying9 rfl (ev_on hLo 6 rfl HS3.1 rfl (hb 6 (by rfl))))) ?_
    refine steps_cons (st_run 8 _ rfl rfl hLo rfl rfl (fun _ _ _ _ => rfl) (fun b G w hb ho => exec_bin rfl (rfl) (ev_on hLo 7 rfl HS3.1 rfl (hb 7 (by rfl))) (rb_sub (w_int (by omega) (by omega)) _ _ _))) ?_
    refine steps_cons (st_run 9 _ rfl rfl hLo rfl rfl (fun _ _ _ _ => rfl) (fun b G w hb ho => exec_bin rfl (ev_on hLo 2 rfl HS3.1 rfl (hb 2 (by rfl))) (ev_on hLo 8 rfl HS3.1 rfl (hb 8 (by rfl))) (rb_geq (decide_eq_false (by omega)) _ _ _))) ?_
    exact steps_nil
  clear hLo
  intro G a4 w4 hS hH
  have HS4 : Sl a4 35 [(0, .pointer (some ⟨g, 0, none⟩)), (1, .string (r)), (4, .int .i64 (0)), (5, .int .i64 (0)), (9, .bool false), (20, .bool false)] := hS
  have HH4 : Held ⟨w, [g]⟩ w4 [⟨g, (), 6, spC ⟨al, sy, false, acts, 1, keep⟩, 53⟩] := hH
  clear hS hH HS3 HH3
  refine then_ ?_
  refine wp_cond_false (HS4.get 5 rfl) ?_
  refine wp_skip ?_
  refine then_ ?_
  refine wp_seq ?_
  refine regionF_ (sz := 35) (n := 12) (B := [0, 1, 3, 7, 0, 16, 48, 112, 255, 511, 1023, 2047]) [0, 1, 2, 3, 4, 5, 6, 7, 8, 9, 10, 11] [(0, 21), (1, 22), (2, 23), (3, 24), (4, 25), (5, 26), (6, 27), (7, 28), (8, 29), (9, 30), (10, 31)] (FT ⟨w, [g]⟩ [some (.pointer (some ⟨g, 0, none⟩)), some (.pointer (some ⟨g, 0, none⟩)), some (.pointer (some ⟨g, 0, none⟩)), some (.string al), some (.string r), none, some (.string (encS (bytesOf r) true)), some (.string (lineS r)), some (.string (al ++ lineS r)), some (.pointer (some ⟨g, 0, none⟩)), some (.pointer (some ⟨g, 0, none⟩)), none] 5 r g 6 11 (spC ⟨al, sy, false, acts, 1, keep⟩) (upd (spC ⟨al, sy, false, acts, 1, keep⟩) 0 (.s (al ++ lineS r))) 53) (by rfl) rfl tabac6 bitsac6 (by kernel_rfl) (by kernel_rfl) (by rfl) ⟨rfl, rfl⟩ HS4 (fun V => FT.first V HH4) ?_ ?_
  · show ∀ i ∈ [0, 1, 2, 3, 4, 5, 6, 7, 8, 9, 10, 11], _
    refine steps_cons (ft_run 0 _ ⟨rfl, rfl⟩ rfl rfl rfl (fun _ _ => rfl) rfl rfl rfl (fun V b w hF hbi hon hoff => exec_move (.inl rfl) (cf_off rfl (HS4.get 0 rfl)))) ?_
    refine steps_cons (ft_run 1 _ ⟨rfl, rfl⟩ rfl rfl rfl (fun _ _ => rfl) rfl rfl rfl (fun V b w hF hbi hon hoff => exec_nil rfl ((cf_on ⟨rfl, rfl⟩ 0 rfl HS4.1 rfl (hon 0 (by rfl))).trans (hF.vs 0 _ rfl (hon 0 (by rfl)))))) ?_
    refine steps_cons (ft_run 2 _ ⟨rfl, rfl⟩ rfl rfl rfl (fun _ _ => rfl) rfl rfl rfl (fun V b w hF hbi hon hoff => exec_field rfl ((cf_on ⟨rfl, rfl⟩ 1 rfl HS4.1 rfl (hon 1 (by rfl))).trans (hF.vs 1 _ rfl (hon 1 (by rfl)))) (by kernel_rfl))) ?_
    refine steps_cons (ft_run 3 _ ⟨rfl, rfl⟩ rfl rfl rfl (fun _ _ => rfl) rfl rfl rfl (fun V b w hF hbi hon hoff => exec_cell (hF.row0 (hoff 11 (by rfl))) (Nat.le_of_ble_eq_true rfl) Try.underlying9 rfl rfl ((cf_on ⟨rfl, rfl⟩ 2 rfl HS4.1 rfl (hon 2 (by rfl))).trans (hF.vs 2 _ rfl (hon 2 (by rfl)))))) ?_
    refine steps_cons (ft_run 4 _ ⟨rfl, rfl⟩ rfl rfl rfl (fun _ _ => rfl) rfl rfl rfl (fun V b w hF hbi hon hoff => exec_move (.inl rfl) (cf_off rfl (HS4.get 1 rfl)))) ?_
    refine steps_cons (ft_bytes 5 ⟨rfl, rfl⟩ rfl rfl rfl (fun _ _ => rfl) rfl rfl rfl rfl Try.underlying9 Try.underlying58 Try.underlying5 hs (fun V b w hF hbi hon hoff => ((cf_on ⟨rfl, rfl⟩ 4 rfl HS4.1 rfl (hon 4 (by rfl))).trans (hF.vs 4 _ rfl (hon 4 (by rfl)))))) ?_
    refine steps_cons (ft_call 6 _ ⟨rfl, rfl⟩ rfl rfl rfl rfl (fun _ _ => rfl) rfl rfl rfl Try.func37 rfl rfl (fun V b w hF hbi hon hoff => ⟨_, args2 (cf_on ⟨rfl, rfl⟩ 5 rfl HS4.1 rfl (hon 5 (by rfl))) rfl, br_enc (hF.br (hoff 11 (by rfl)) (hon 5 (by rfl))) hs⟩)) ?_
    refine steps_cons (ft_run 7 _ ⟨rfl, rfl⟩ rfl rfl rfl (fun _ _ => rfl) rfl rfl rfl (fun V b w hF hbi hon hoff => exec_bin rfl ((cf_on ⟨rfl, rfl⟩ 6 rfl HS4.1 rfl (hon 6 (by rfl))).trans (hF.vs 6 _ rfl (hon 6 (by rfl)))) rfl (rb_sadd (by rw [enc_size]; show encLen r.size + 1 ≤ _; omega) _ _ _))) ?_
    refine steps_cons (ft_run 8 _ ⟨rfl, rfl⟩ rfl rfl rfl (fun _ _ => rfl) rfl rfl rfl (fun V b w hF hbi hon hoff => exec_bin rfl ((cf_on ⟨rfl, rfl⟩ 3 rfl HS4.1 rfl (hon 3 (by rfl))).trans (hF.vs 3 _ rfl (hon 3 (by rfl)))) ((cf_on ⟨rfl, rfl⟩ 7 rfl HS4.1 rfl (hon 7 (by rfl))).trans (hF.vs 7 _ rfl (hon 7 (by rfl)))) (rb_sadd (by rw [lineS_size]; omega) _ _ _))) ?_
    refine steps_cons (ft_run 9 _ ⟨rfl, rfl⟩ rfl rfl rfl (fun _ _ => rfl) rfl rfl rfl (fun V b w hF hbi hon hoff => exec_nil rfl ((cf_on ⟨rfl, rfl⟩ 0 rfl HS4.1 rfl (hon 0 (by rfl))).trans (hF.vs 0 _ rfl (hon 0 (by rfl)))))) ?_
    refine steps_cons (ft_run 10 _ ⟨rfl, rfl⟩ rfl rfl rfl (fun _ _ => rfl) rfl rfl rfl (fun V b w hF hbi hon hoff => exec_field rfl ((cf_on ⟨rfl, rfl⟩ 9 rfl HS4.1 rfl (hon 9 (by rfl))).trans (hF.vs 9 _ rfl (hon 9 (by rfl)))) (by kernel_rfl))) ?_
    refine steps_cons (ft_put rfl rfl (by rfl) (fun _ _ => rfl) rfl rfl rfl (fun V b w hF hbi hon hoff hrw => exec_put1 hrw (Nat.le_of_ble_eq_true rfl) (by kernel_rfl) rfl ((cf_on ⟨rfl, rfl⟩ 10 rfl HS4.1 rfl (hon 10 (by rfl))).trans (hF.vs 10 _ rfl (hon 10 (by rfl)))) ((cf_on ⟨rfl, rfl⟩ 8 rfl HS4.1 rfl (hon 8 (by rfl))).trans (hF.vs 8 _ rfl (hon 8 (by rfl)))))) ?_
    exact steps_nil
  intro V b5 a5 w5 hall hF hS
  have HS5 : Sl a5 35 [(0, .pointer (some ⟨g, 0, none⟩)), (1, .string (r)), (4, .int .i64 (0)), (5, .int .i64 (0)), (9, .bool false), (20, .bool false)] := sl_keep hS [11, 12, 13, 14, 15, 16] (by rfl)
  have HH5 : Held ⟨w, [g]⟩ w5 [⟨g, (), 6, upd (spC ⟨al, sy, false, acts, 1, keep⟩) 0 (.s (al ++ lineS r)), 53⟩] := hF.held (hall 11 rfl)
  clear hS hF hall
  refine then_ ?_
  refine wp_seq ?_
  refine wp_seq ?_
  have hLo : LOk [(0, 32, .val (.pointer (some ⟨g, 0, none⟩))), (1, 33, .val (.bool false)), (2, 34, .val (.bool true))] := lok (by rfl) (by rfl)
  refine plain_ (wE := ⟨w, [g]⟩) (sz := 35) (n := 3) [0, 1, 3] [(0, .val (.pointer (some ⟨g, 0, none⟩))), (1, .val (.string (r))), (4, .val (.int .i64 (0))), (5, .val (.int .i64 (0))), (9, .val (.bool false)), (20, .val (.bool false)), (34, .val (.bool true))] [(0, 32, .val (.pointer (some ⟨g, 0, none⟩))), (1, 33, .val (.bool false)), (2, 34, .val (.bool true))] [⟨g, none, some 1, (), 6, upd (spC ⟨al, sy, false, acts, 1, keep⟩) 0 (.s (al ++ lineS r)), spC ⟨(al ++ lineS r).extract 0 (sy + kp keep ((al ++ lineS r).size - sy)), sy + kp keep ((al ++ lineS r).size - sy), true, acts + 1, 0, keep⟩, 53⟩] rfl (by rfl) HH5 rfl rfl hLo rfl HS5 (slS 0 rfl rfl (slS 1 rfl rfl (slS 2 rfl rfl (slS 3 rfl rfl (slS 4 rfl rfl (slS 5 rfl rfl (slL 2 (d := 2) rfl (trivial)))))))) ?_ ?_
  · show ∀ i ∈ [0, 1, 2], _
    refine steps_cons (st_run 0 _ rfl rfl hLo rfl rfl (fun _ _ _ _ => rfl) (fun b G w hb ho => exec_move (.inl rfl) (ev_off rfl (HS5.get 0 rfl)))) ?_
    refine steps_cons (st_callM 1 0 _ _ (fun G => #[.pointer (some ⟨g, 0, none⟩)]) rfl rfl rfl rfl rfl (fun _ _ _ _ => rfl) hLo rfl (by rfl) (by rfl) (by rfl) Try.func38 rfl rfl (fun b G hb ho => args1 (ev_on hLo 0 rfl HS5.1 rfl (hb 0 (by rfl)))) (fun G w hw hr => act_goes (hr.norm (six ⟨rfl, rfl, rfl, rfl, rfl, rfl⟩)) (by rw [ByteArray.size_append]; omega) (by rw [ByteArray.size_append, lineS_size]; omega) hac)) ?_
    refine steps_cons (st_run 2 _ rfl rfl hLo rfl rfl (fun _ _ _ _ => rfl) (fun b G w hb ho => exec_un rfl (ev_on hLo 1 rfl HS5.1 rfl (hb 1 (by rfl))) (ru_not _))) ?_
    exact steps_nil
  clear hLo
  intro G a6 w6 hS hH
  have HS6 : Sl a6 35 [(0, .pointer (some ⟨g, 0, none⟩)), (1, .string (r)), (4, .int .i64 (0)), (5, .int .i64 (0)), (9, .bool false), (20, .bool false), (34, .bool true)] := hS
  have HH6 : Held ⟨w, [g]⟩ w6 [⟨g, (), 6, spC ⟨(al ++ lineS r).extract 0 (sy + kp keep ((al ++ lineS r).size - sy)), sy + kp keep ((al ++ lineS r).size - sy), true, acts + 1, 0, keep⟩, 53⟩] := hH
  clear hS hH HS5 HH5
  refine then_ ?_
  refine wp_cond_true (HS6.get 6 rfl) ?_
  refine wp_seq ?_
  have hLo : LOk [(0, 4, .val (.int .i64 (50)))] := lok (by rfl) (by rfl)
  refine plain_ (wE := ⟨w, [g]⟩) (sz := 35) (n := 1) [0] [(0, .val (.pointer (some ⟨g, 0, none⟩))), (1, .val (.string (r))), (5, .val (.int .i64 (0))), (9, .val (.bool false)), (20, .val (.bool false)), (34, .val (.bool true)), (4, .val (.int .i64 (50)))] [(0, 4, .val (.int .i64 (50)))] [⟨g, none, none, (), 6, spC ⟨(al ++ lineS r).extract 0 (sy + kp keep ((al ++ lineS r).size - sy)), sy + kp keep ((al ++ lineS r).size - sy), true, acts + 1, 0, keep⟩, spC ⟨(al ++ lineS r).extract 0 (sy + kp keep ((al ++ lineS r).size - sy)), sy + kp keep ((al ++ lineS r).size - sy), true, acts + 1, 0, keep⟩, 53⟩] rfl (by rfl) HH6 rfl rfl hLo rfl HS6 (slS 0 rfl rfl (slS 1 rfl rfl (slS 3 rfl rfl (slS 4 rfl rfl (slS 5 rfl rfl (slS 6 rfl rfl (slL 0 (d := 0) rfl (trivial)))))))) ?_ ?_
  · show ∀ i ∈ [0], _
    refine steps_cons (st_run 0 _ rfl rfl hLo rfl rfl (fun _ _ _ _ => rfl) (fun b G w hb ho => exec_move (.inr rfl) (rfl))) ?_
    exact steps_nil
  clear hLo
  intro G a7 w7 hS hH
  have HS7 : Sl a7 35 [(0, .pointer (some ⟨g, 0, none⟩)), (1, .string (r)), (5, .int .i64 (0)), (9, .bool false), (20, .bool false), (34, .bool true), (4, .int .i64 (50))] := hS
  have HH7 : Held ⟨w, [g]⟩ w7 [⟨g, (), 6, spC ⟨(al ++ lineS r).extract 0 (sy + kp keep ((al ++ lineS r).size - sy)), sy + kp keep ((al ++ lineS r).size - sy), true, acts + 1, 0, keep⟩, 53⟩] := hH
  clear hS hH HS6 HH6
  refine then_ ?_
  refine wp_ret ?_
  repeat (first | refine then_ret ?_ | refine inBlock_ret' ?_)
  exact b_tmp rfl HS7.2.1 (HS7.get 6 rfl) ⟨rfl, Row.norm (HH7.row 0 rfl) (six ⟨rfl, rfl, rfl, rfl, rfl, rfl⟩), HH7.1⟩
theorem app_stays {w : World} {g : Nat} {al : ByteArray} {sy : Nat} {acts inn : Nat} {keep : Int} {r : ByteArray} (hr : Row w g () 6 (spC ⟨al, sy, false, acts, inn, keep⟩) 53) (hs : r.size ≤ 1073741824) (hf : encLen r.size + al.size < 4194304) (hac : acts ≤ 1000000) (hin : inn < 9223372036854775808) (hi1 : inn ≠ 1) : Calls Try.prog 16 #[.pointer (some ⟨g, 0, none⟩), .string (r)] w fun e w' => e = .returned (.int .i64 0) ∧ Row w' g () 6 (spC ⟨(al ++ lineS r), sy, false, acts + 1, inn - 1, keep⟩) 53 ∧ Fr ⟨w, [g]⟩ w' := by
  refine enter_ 35 Try.func16 rfl rfl (fun a0 hS => ?_)
  have HS0 : Sl a0 35 [(0, .pointer (some ⟨g, 0, none⟩)), (1, .string (r))] := hS
  have HH0 : Held ⟨w, [g]⟩ w [⟨g, (), 6, spC ⟨al, sy, false, acts, inn, keep⟩, 53⟩] := Held.one hr
  clear hS
  refine wp_seq ?_
  have hLo : LOk [(0, 4, .val (.int .i64 (0)))] := lok (by rfl) (by rfl)
  refine plain_ (wE := ⟨w, [g]⟩) (sz := 35) (n := 1) [0] [(0, .val (.pointer (some ⟨g, 0, none⟩))), (1, .val (.string (r))), (4, .val (.int .i64 (0)))] [(0, 4, .val (.int .i64 (0)))] [⟨g, none, none, (), 6, spC ⟨al, sy, false, acts, inn, keep⟩, spC ⟨al, sy, false, acts, inn, keep⟩, 53⟩] rfl (by rfl) HH0 rfl rfl hLo rfl HS0 (slS 0 rfl rfl (slS 1 rfl rfl (slL 0 (d := 0) rfl (trivial)))) ?_ ?_
  · show ∀ i ∈ [0], _
    refine steps_cons (st_run 0 _ rfl rfl hLo rfl rfl (fun _ _ _ _ => rfl) (fun b G w hb ho => exec_move (.inr rfl) (rfl))) ?_
    exact steps_nil
  clear hLo
  intro G a1 w1 hS hH
  have HS1 : Sl a1 35 [(0, .pointer (some ⟨g, 0, none⟩)), (1, .string (r)), (4, .int .i64 (0))] := hS
  have HH1 : Held ⟨w, [g]⟩ w1 [⟨g, (), 6, spC ⟨al, sy, false, acts, inn, keep⟩, 53⟩] := hH
  clear hS hH HS0 HH0
  refine then_ ?_
  refine wp_seq ?_
  refine wp_seq ?_
  have hLo : LOk [(0, 6, .val (.pointer (some ⟨g, 0, none⟩))), (1, 7, .val (.int .i64 (0))), (2, 5, .val (.int .i64 (0)))] := lok (by rfl) (by rfl)
  refine plain_ (wE := ⟨w, [g]⟩) (sz := 35) (n := 3) [0, 1, 3] [(0, .val (.pointer (some ⟨g, 0, none⟩))), (1, .val (.string (r))), (4, .val (.int .i64 (0))), (5, .val (.int .i64 (0)))] [(0, 6, .val (.pointer (some ⟨g, 0, none⟩))), (1, 7, .val (.int .i64 (0))), (2, 5, .val (.int .i64 (0)))] [⟨g, none, none, (), 6, spC ⟨al, sy, false, acts, inn, keep⟩, spC ⟨al, sy, false, acts, inn, keep⟩, 53⟩] rfl (by rfl) HH1 rfl rfl hLo rfl HS1 (slS 0 rfl rfl (slS 1 rfl rfl (slS 2 rfl rfl (slL 2 (d := 2) rfl (trivial))))) ?_ ?_
  · show ∀ i ∈ [0, 1, 2], _
    refine steps_cons (st_run 0 _ rfl rfl hLo rfl rfl (fun _ _ _ _ => rfl) (fun b G w hb ho => exec_move (.inl rfl) (ev_off rfl (HS1.get 0 rfl)))) ?_
    refine steps_cons (st_callRB 1 0 _ _ (fun G => #[.pointer (some ⟨g, 0, none⟩)]) rfl rfl rfl rfl (fun _ _ _ _ => rfl) hLo rfl rfl (by rfl) (by rfl) Try.func29 rfl rfl (fun b G hb ho => args1 (ev_on hLo 0 rfl HS1.1 rfl (hb 0 (by rfl)))) (fun G w hw hr => ready_on hr)) ?_
    refine steps_cons (st_run 2 _ rfl rfl hLo rfl rfl (fun _ _ _ _ => rfl) (fun b G w hb ho => exec_move (.inr rfl) (ev_on hLo 1 rfl HS1.1 rfl (hb 1 (by rfl))))) ?_
    exact steps_nil
  clear hLo
  intro G a2 w2 hS hH
  have HS2 : Sl a2 35 [(0, .pointer (some ⟨g, 0, none⟩)), (1, .string (r)), (4, .int .i64 (0)), (5, .int .i64 (0))] := hS
  have HH2 : Held ⟨w, [g]⟩ w2 [⟨g, (), 6, spC ⟨al, sy, false, acts, inn, keep⟩, 53⟩] := hH
  clear hS hH HS1 HH1
  refine then_ ?_
  refine wp_seq ?_
  have hLo : LOk [(0, 8, .val (.int .i64 (0))), (1, 9, .val (.bool false))] := lok (by rfl) (by rfl)
  refine plain_ (wE := ⟨w, [g]⟩) (sz := 35) (n := 2) [0, 1] [(0, .val (.pointer (some ⟨g, 0, none⟩))), (1, .val (.string (r))), (4, .val (.int .i64 (0))), (5, .val (.int .i64 (0))), (9, .val (.bool false))] [(0, 8, .val (.int .i64 (0))), (1, 9, .val (.bool false))] [⟨g, none, none, (), 6, spC ⟨al, sy, false, acts, inn, keep⟩, spC ⟨al, sy, false, acts, inn, keep⟩, 53⟩] rfl (by rfl) HH2 rfl rfl hLo rfl HS2 (slS 0 rfl rfl (slS 1 rfl rfl (slS 2 rfl rfl (slS 3 rfl rfl (slL 1 (d := 1) rfl (trivial)))))) ?_ ?_
  · show ∀ i ∈ [0, 1], _
    refine steps_cons (st_run 0 _ rfl rfl hLo rfl rfl (fun _ _ _ _ => rfl) (fun b G w hb ho => exec_move (.inl rfl) (ev_off rfl (HS2.get 3 rfl)))) ?_
    refine steps_cons (st_run 1 _ rfl rfl hLo rfl rfl (fun _ _ _ _ => rfl) (fun b G w hb ho => exec_bin rfl (ev_on hLo 0 rfl HS2.1 rfl (hb 0 (by rfl))) (rfl) (rb_neq (rfl) _ _ _))) ?_
    exact steps_nil
  clear hLo
  intro G a3 w3 hS hH
  have HS3 : Sl a3 35 [(0, .pointer (some ⟨g, 0, none⟩)), (1, .string (r)), (4, .int .i64 (0)), (5, .int .i64 (0)), (9, .bool false)] := hS
  have HH3 : Held ⟨w, [g]⟩ w3 [⟨g, (), 6, spC ⟨al, sy, false, acts, inn, keep⟩, 53⟩] := hH
  clear hS hH HS2 HH2
  refine then_ ?_
  refine wp_cond_false (HS3.get 4 rfl) ?_
  refine wp_skip ?_
  refine then_ ?_
  refine wp_seq ?_
  refine wp_seq ?_
  have hLo : LOk [(0, 11, .val (.string (r))), (1, 12, .val (.int .i64 (((r).size : Int)))), (2, 13, .val (.int .i64 ((encLen r.size : Int)))), (3, 14, .val (.pointer (some ⟨g, 0, none⟩))), (4, 15, .val (.pointer (some ⟨g, 0, none⟩))), (5, 16, .val (.pointer (some ⟨g, 0, none⟩))), (6, 17, .val (.string (al))), (7, 18, .val (.int .i64 (((al).size : Int)))), (8, 19, .val (.int .i64 ((4194304 : Int) - (al.size : Int)))), (9, 20, .val (.bool false))] := lok (by rfl) (by rfl)
  refine region_ (wE := ⟨w, [g]⟩) (sz := 35) (n := 10) (B := [0, 1, 3, 0, 8, 24, 56, 120, 248, 511]) [0, 1, 2, 3, 4, 5, 6, 7, 8, 9] [(0, .val (.pointer (some ⟨g, 0, none⟩))), (1, .val (.string (r))), (4, .val (.int .i64 (0))), (5, .val (.int .i64 (0))), (9, .val (.bool false)), (20, .val (.bool false))] [(0, 11, .val (.string (r))), (1, 12, .val (.int .i64 (((r).size : Int)))), (2, 13, .val (.int .i64 ((encLen r.size : Int)))), (3, 14, .val (.pointer (some ⟨g, 0, none⟩))), (4, 15, .val (.pointer (some ⟨g, 0, none⟩))), (5, 16, .val (.pointer (some ⟨g, 0, none⟩))), (6, 17, .val (.string (al))), (7, 18, .val (.int .i64 (((al).size : Int)))), (8, 19, .val (.int .i64 ((4194304 : Int) - (al.size : Int)))), (9, 20, .val (.bool false))] [⟨g, none, none, (), 6, spC ⟨al, sy, false, acts, inn, keep⟩, spC ⟨al, sy, false, acts, inn, keep⟩, 53⟩] (by rfl) rfl tabad4 bitsad4 (by kernel_rfl) (by kernel_rfl) HH3 rfl rfl hLo rfl HS3 (slS 0 rfl rfl (slS 1 rfl rfl (slS 2 rfl rfl (slS 3 rfl rfl (slS 4 rfl rfl (slL 9 (d := 9) rfl (trivial))))))) ?_ ?_
  · show ∀ i ∈ [0, 1, 2, 3, 4, 5, 6, 7, 8, 9], _
    refine steps_cons (st_run 0 _ rfl rfl hLo rfl rfl (fun _ _ _ _ => rfl) (fun b G w hb ho => exec_move (.inl rfl) (ev_off rfl (HS3.get 1 rfl)))) ?_
    refine steps_cons (st_run 1 _ rfl rfl hLo rfl rfl (fun _ _ _ _ => rfl) (fun b G w hb ho => exec_lenS Try.underlying9 rfl (ev_on hLo 0 rfl HS3.1 rfl (hb 0 (by rfl))))) ?_
    refine steps_cons (st_call 2 _ #[.int .i64 (((r).size : Int))] rfl rfl rfl (fun _ _ _ _ => rfl) hLo rfl rfl Try.func36 rfl rfl (fun b G hb ho => args1 (ev_on hLo 1 rfl HS3.1 rfl (hb 1 (by rfl)))) (fun w hw => len_calls (by omega) _)) ?_
    refine steps_cons (st_run 3 _ rfl rfl hLo rfl rfl (fun _ _ _ _ => rfl) (fun b G w hb ho => exec_move (.inl rfl) (ev_off rfl (HS3.get 0 rfl)))) ?_
    refine steps_cons (st_run 4 _ rfl rfl hLo rfl rfl (fun _ _ _ _ => rfl) (fun b G w hb ho => exec_nil rfl (ev_on hLo 3 rfl HS3.1 rfl (hb 3 (by rfl))))) ?_
    refine steps_cons (st_run 5 _ rfl rfl hLo rfl rfl (fun _ _ _ _ => rfl) (fun b G w hb ho => exec_field rfl (ev_on hLo 4 rfl HS3.1 rfl (hb 4 (by rfl))) (by kernel_rfl))) ?_
    refine steps_cons (st_read 6 0 _ _ rfl rfl rfl hLo rfl rfl (fun _ _ _ _ => rfl) (by rfl) (by rfl) (fun b G w hb ho hr => exec_cell hr (Nat.le_of_ble_eq_true rfl) Try.underlying9 rfl rfl (ev_on hLo 5 rfl HS3.1 rfl (hb 5 (by rfl))))) ?_
    refine steps_cons (st_run 7 _ rfl rfl hLo rfl rfl (fun _ _ _ _ => rfl) (fun b G w hb ho => exec_lenS Try.underlying9 rfl (ev_on hLo 6 rfl HS3.1 rfl (hb 6 (by rfl))))) ?_
    refine steps_cons (st_run 8 _ rfl rfl hLo rfl rfl (fun _ _ _ _ => rfl) (fun b G w hb ho => exec_bin rfl (rfl) (ev_on hLo 7 rfl HS3.1 rfl (hb 7 (by rfl))) (rb_sub (w_int (by omega) (by omega)) _ _ _))) ?_
    refine steps_cons (st_run 9 _ rfl rfl hLo rfl rfl (fun _ _ _ _ => rfl) (fun b G w hb ho => exec_bin rfl (ev_on hLo 2 rfl HS3.1 rfl (hb 2 (by rfl))) (ev_on hLo 8 rfl HS3.1 rfl (hb 8 (by rfl))) (rb_geq (decide_eq_false (by omega)) _ _ _))) ?_
    exact steps_nil
  clear hLo
  intro G a4 w4 hS hH
  have HS4 : Sl a4 35 [(0, .pointer (some ⟨g, 0, none⟩)), (1, .string (r)), (4, .int .i64 (0)), (5, .int .i64 (0)), (9, .bool false), (20, .bool false)] := hS
  have HH4 : Held ⟨w, [g]⟩ w4 [⟨g, (), 6, spC ⟨al, sy, false, acts, inn, keep⟩, 53⟩] := hH
  clear hS hH HS3 HH3
  refine then_ ?_
  refine wp_cond_false (HS4.get 5 rfl) ?_
  refine wp_skip ?_
  refine then_ ?_
  refine wp_seq ?_
  refine regionF_ (sz := 35) (n := 12) (B := [0, 1, 3, 7, 0, 16, 48, 112, 255, 511, 1023, 2047]) [0, 1, 2, 3, 4, 5, 6, 7, 8, 9, 10, 11] [(0, 21), (1, 22), (2, 23), (3, 24), (4, 25), (5, 26), (6, 27), (7, 28), (8, 29), (9, 30), (10, 31)] (FT ⟨w, [g]⟩ [some (.pointer (some ⟨g, 0, none⟩)), some (.pointer (some ⟨g, 0, none⟩)), some (.pointer (some ⟨g, 0, none⟩)), some (.string al), some (.string r), none, some (.string (encS (bytesOf r) true)), some (.string (lineS r)), some (.string (al ++ lineS r)), some (.pointer (some ⟨g, 0, none⟩)), some (.pointer (some ⟨g, 0, none⟩)), none] 5 r g 6 11 (spC ⟨al, sy, false, acts, inn, keep⟩) (upd (spC ⟨al, sy, false, acts, inn, keep⟩) 0 (.s (al ++ lineS r))) 53) (by rfl) rfl tabad6 bitsad6 (by kernel_rfl) (by kernel_rfl) (by rfl) ⟨rfl, rfl⟩ HS4 (fun V => FT.first V HH4) ?_ ?_
  · show ∀ i ∈ [0, 1, 2, 3, 4, 5, 6, 7, 8, 9, 10, 11], _
    refine steps_cons (ft_run 0 _ ⟨rfl, rfl⟩ rfl rfl rfl (fun _ _ => rfl) rfl rfl rfl (fun V b w hF hbi hon hoff => exec_move (.inl rfl) (cf_off rfl (HS4.get 0 rfl)))) ?_
    refine steps_cons (ft_run 1 _ ⟨rfl, rfl⟩ rfl rfl rfl (fun _ _ => rfl) rfl rfl rfl (fun V b w hF hbi hon hoff => exec_nil rfl ((cf_on ⟨rfl, rfl⟩ 0 rfl HS4.1 rfl (hon 0 (by rfl))).trans (hF.vs 0 _ rfl (hon 0 (by rfl)))))) ?_
    refine steps_cons (ft_run 2 _ ⟨rfl, rfl⟩ rfl rfl rfl (fun _ _ => rfl) rfl rfl rfl (fun V b w hF hbi hon hoff => exec_field rfl ((cf_on ⟨rfl, rfl⟩ 1 rfl HS4.1 rfl (hon 1 (by rfl))).trans (hF.vs 1 _ rfl (hon 1 (by rfl)))) (by kernel_rfl))) ?_
    refine steps_cons (ft_run 3 _ ⟨rfl, rfl⟩ rfl rfl rfl (fun _ _ => rfl) rfl rfl rfl (fun V b w hF hbi hon hoff => exec_cell (hF.row0 (hoff 11 (by rfl))) (Nat.le_of_ble_eq_true rfl) Try.underlying9 rfl rfl ((cf_on ⟨rfl, rfl⟩ 2 rfl HS4.1 rfl (hon 2 (by rfl))).trans (hF.vs 2 _ rfl (hon 2 (by rfl)))))) ?_
    refine steps_cons (ft_run 4 _ ⟨rfl, rfl⟩ rfl rfl rfl (fun _ _ => rfl) rfl rfl rfl (fun V b w hF hbi hon hoff => exec_move (.inl rfl) (cf_off rfl (HS4.get 1 rfl)))) ?_
    refine steps_cons (ft_bytes 5 ⟨rfl, rfl⟩ rfl rfl rfl (fun _ _ => rfl) rfl rfl rfl rfl Try.underlying9 Try.underlying58 Try.underlying5 hs (fun V b w hF hbi hon hoff => ((cf_on ⟨rfl, rfl⟩ 4 rfl HS4.1 rfl (hon 4 (by rfl))).trans (hF.vs 4 _ rfl (hon 4 (by rfl)))))) ?_
    refine steps_cons (ft_call 6 _ ⟨rfl, rfl⟩ rfl rfl rfl rfl (fun _ _ => rfl) rfl rfl rfl Try.func37 rfl rfl (fun V b w hF hbi hon hoff => ⟨_, args2 (cf_on ⟨rfl, rfl⟩ 5 rfl HS4.1 rfl (hon 5 (by rfl))) rfl, br_enc (hF.br (hoff 11 (by rfl)) (hon 5 (by rfl))) hs⟩)) ?_
    refine steps_cons (ft_run 7 _ ⟨rfl, rfl⟩ rfl rfl rfl (fun _ _ => rfl) rfl rfl rfl (fun V b w hF hbi hon hoff => exec_bin rfl ((cf_on ⟨rfl, rfl⟩ 6 rfl HS4.1 rfl (hon 6 (by rfl))).trans (hF.vs 6 _ rfl (hon 6 (by rfl)))) rfl (rb_sadd (by rw [enc_size]; show encLen r.size + 1 ≤ _; omega) _ _ _))) ?_
    refine steps_cons (ft_run 8 _ ⟨rfl, rfl⟩ rfl rfl rfl (fun _ _ => rfl) rfl rfl rfl (fun V b w hF hbi hon hoff => exec_bin rfl ((cf_on ⟨rfl, rfl⟩ 3 rfl HS4.1 rfl (hon 3 (by rfl))).trans (hF.vs 3 _ rfl (hon 3 (by rfl)))) ((cf_on ⟨rfl, rfl⟩ 7 rfl HS4.1 rfl (hon 7 (by rfl))).trans (hF.vs 7 _ rfl (hon 7 (by rfl)))) (rb_sadd (by rw [lineS_size]; omega) _ _ _))) ?_
    refine steps_cons (ft_run 9 _ ⟨rfl, rfl⟩ rfl rfl rfl (fun _ _ => rfl) rfl rfl rfl (fun V b w hF hbi hon hoff => exec_nil rfl ((cf_on ⟨rfl, rfl⟩ 0 rfl HS4.1 rfl (hon 0 (by rfl))).trans (hF.vs 0 _ rfl (hon 0 (by rfl)))))) ?_
    refine steps_cons (ft_run 10 _ ⟨rfl, rfl⟩ rfl rfl rfl (fun _ _ => rfl) rfl rfl rfl (fun V b w hF hbi hon hoff => exec_field rfl ((cf_on ⟨rfl, rfl⟩ 9 rfl HS4.1 rfl (hon 9 (by rfl))).trans (hF.vs 9 _ rfl (hon 9 (by rfl)))) (by kernel_rfl))) ?_
    refine steps_cons (ft_put rfl rfl (by rfl) (fun _ _ => rfl) rfl rfl rfl (fun V b w hF hbi hon hoff hrw => exec_put1 hrw (Nat.le_of_ble_eq_true rfl) (by kernel_rfl) rfl ((cf_on ⟨rfl, rfl⟩ 10 rfl HS4.1 rfl (hon 10 (by rfl))).trans (hF.vs 10 _ rfl (hon 10 (by rfl)))) ((cf_on ⟨rfl, rfl⟩ 8 rfl HS4.1 rfl (hon 8 (by rfl))).trans (hF.vs 8 _ rfl (hon 8 (by rfl)))))) ?_
    exact steps_nil
  intro V b5 a5 w5 hall hF hS
  have HS5 : Sl a5 35 [(0, .pointer (some ⟨g, 0, none⟩)), (1, .string (r)), (4, .int .i64 (0)), (5, .int .i64 (0)), (9, .bool false), (20, .bool false)] := sl_keep hS [11, 12, 13, 14, 15, 16] (by rfl)
  have HH5 : Held ⟨w, [g]⟩ w5 [⟨g, (), 6, upd (spC ⟨al, sy, false, acts, inn, keep⟩) 0 (.s (al ++ lineS r)), 53⟩] := hF.held (hall 11 rfl)
  clear hS hF hall
  refine then_ ?_
  refine wp_seq ?_
  refine wp_seq ?_
  have hLo : LOk [(0, 32, .val (.pointer (some ⟨g, 0, none⟩))), (1, 33, .val (.bool true)), (2, 34, .val (.bool false))] := lok (by rfl) (by rfl)
  refine plain_ (wE := ⟨w, [g]⟩) (sz := 35) (n := 3) [0, 1, 3] [(0, .val (.pointer (some ⟨g, 0, none⟩))), (1, .val (.string (r))), (4, .val (.int .i64 (0))), (5, .val (.int .i64 (0))), (9, .val (.bool false)), (20, .val (.bool false)), (34, .val (.bool false))] [(0, 32, .val (.pointer (some ⟨g, 0, none⟩))), (1, 33, .val (.bool true)), (2, 34, .val (.bool false))] [⟨g, none, some 1, (), 6, upd (spC ⟨al, sy, false, acts, inn, keep⟩) 0 (.s (al ++ lineS r)), spC ⟨(al ++ lineS r), sy, false, acts + 1, inn - 1, keep⟩, 53⟩] rfl (by rfl) HH5 rfl rfl hLo rfl HS5 (slS 0 rfl rfl (slS 1 rfl rfl (slS 2 rfl rfl (slS 3 rfl rfl (slS 4 rfl rfl (slS 5 rfl rfl (slL 2 (d := 2) rfl (trivial)))))))) ?_ ?_
  · show ∀ i ∈ [0, 1, 2], _
    refine steps_cons (st_run 0 _ rfl rfl hLo rfl rfl (fun _ _ _ _ => rfl) (fun b G w hb ho => exec_move (.inl rfl) (ev_off rfl (HS5.get 0 rfl)))) ?_
    refine steps_cons (st_callM 1 0 _ _ (fun G => #[.pointer (some ⟨g, 0, none⟩)]) rfl rfl rfl rfl rfl (fun _ _ _ _ => rfl) hLo rfl (by rfl) (by rfl) (by rfl) Try.func38 rfl rfl (fun b G hb ho => args1 (ev_on hLo 0 rfl HS5.1 rfl (hb 0 (by rfl)))) (fun G w hw hr => act_stays (hr.norm (six ⟨rfl, rfl, rfl, rfl, rfl, rfl⟩)) hac hin hi1)) ?_
    refine steps_cons (st_run 2 _ rfl rfl hLo rfl rfl (fun _ _ _ _ => rfl) (fun b G w hb ho => exec_un rfl (ev_on hLo 1 rfl HS5.1 rfl (hb 1 (by rfl))) (ru_not _))) ?_
    exact steps_nil
  clear hLo
  intro G a6 w6 hS hH
  have HS6 : Sl a6 35 [(0, .pointer (some ⟨g, 0, none⟩)), (1, .string (r)), (4, .int .i64 (0)), (5, .int .i64 (0)), (9, .bool false), (20, .bool false), (34, .bool false)] := hS
  have HH6 : Held ⟨w, [g]⟩ w6 [⟨g, (), 6, spC ⟨(al ++ lineS r), sy, false, acts + 1, inn - 1, keep⟩, 53⟩] := hH
  clear hS hH HS5 HH5
  refine then_ ?_
  refine wp_cond_false (HS6.get 6 rfl) ?_
  refine wp_skip ?_
  refine then_ ?_
  refine wp_seq ?_
  have hLo : LOk [(0, 4, .val (.int .i64 (0)))] := lok (by rfl) (by rfl)
  refine plain_ (wE := ⟨w, [g]⟩) (sz := 35) (n := 1) [0] [(0, .val (.pointer (some ⟨g, 0, none⟩))), (1, .val (.string (r))), (5, .val (.int .i64 (0))), (9, .val (.bool false)), (20, .val (.bool false)), (34, .val (.bool false)), (4, .val (.int .i64 (0)))] [(0, 4, .val (.int .i64 (0)))] [⟨g, none, none, (), 6, spC ⟨(al ++ lineS r), sy, false, acts + 1, inn - 1, keep⟩, spC ⟨(al ++ lineS r), sy, false, acts + 1, inn - 1, keep⟩, 53⟩] rfl (by rfl) HH6 rfl rfl hLo rfl HS6 (slS 0 rfl rfl (slS 1 rfl rfl (slS 3 rfl rfl (slS 4 rfl rfl (slS 5 rfl rfl (slS 6 rfl rfl (slL 0 (d := 0) rfl (trivial)))))))) ?_ ?_
  · show ∀ i ∈ [0], _
    refine steps_cons (st_run 0 _ rfl rfl hLo rfl rfl (fun _ _ _ _ => rfl) (fun b G w hb ho => exec_move (.inr rfl) (rfl))) ?_
    exact steps_nil
  clear hLo
  intro G a7 w7 hS hH
  have HS7 : Sl a7 35 [(0, .pointer (some ⟨g, 0, none⟩)), (1, .string (r)), (5, .int .i64 (0)), (9, .bool false), (20, .bool false), (34, .bool false), (4, .int .i64 (0))] := hS
  have HH7 : Held ⟨w, [g]⟩ w7 [⟨g, (), 6, spC ⟨(al ++ lineS r), sy, false, acts + 1, inn - 1, keep⟩, 53⟩] := hH
  clear hS hH HS6 HH6
  refine then_ ?_
  refine wp_ret ?_
  repeat (first | refine then_ret ?_ | refine inBlock_ret' ?_)
  exact b_tmp rfl HS7.2.1 (HS7.get 6 rfl) ⟨rfl, Row.norm (HH7.row 0 rfl) (six ⟨rfl, rfl, rfl, rfl, rfl, rfl⟩), HH7.1⟩
end Go.Proofs.Ytdleomeiojlooaa.P
end

section
namespace Go.Proofs.Ytdleomeiojlooaa.P
open Go.RowKit Go.Proofs.YtdleomeiojlooaaW.PrintWords Go.Proofs.YtdleomeiojlooaaW.PrintLast Go.Proofs.YtdleomeiojlooaaW.PrintMore
set_option linter.unusedVariables false
set_option linter.unusedSimpArgs false
def hustingsref19_Same.l0 : Nat → List ByteArray → List ByteArray → Int → Int → Option (Bool)
  | 0, _, _, _, _ => none
  | k + 1, x0, x1, x12, x13 => if x13 < x12 then (if 0 ≤ x13 then (if x13 < (x0.length : Int) then (if x13 < (x1.length : Int) then (if (rdOf ByteArray.empty x0 x13).toList = (rdOf ByteArray.empty x1 x13).toList then (hustingsref19_Same.l0 k x0 x1 x12 (wrap64 (x13 + 1))) else (some false)) else (none)) else (none)) else (none)) else (some true)
def hustingsref19_Same.f (k : Nat) (l0 : List ByteArray) (l1 : List ByteArray) : Option (Bool) := if (l0.length : Int) = (l1.length : Int) then (hustingsref19_Same.l0 k l0 l1 (l0.length : Int) 0) else (some false)
theorem hustingsref19_Same.mono_l : ∀ k, (∀ y0 y1 y2 y3, LeO (hustingsref19_Same.l0 k y0 y1 y2 y3) (hustingsref19_Same.l0 (k + 1) y0 y1 y2 y3))
  | 0 => fun _ _ _ _ r h => by simp [hustingsref19_Same.l0] at h
  | k + 1 => by
    have ih0 := hustingsref19_Same.mono_l k
    · intro y0 y1 y2 y3
      unfold hustingsref19_Same.l0
      repeat' first
      | (with_reducible exact ih0 _ _ _ _)
      | (with_reducible exact LeO.refl _)
      | (with_reducible exact LeO.none _)
      | (with_reducible refine LeO.ite ?_ ?_)
      | (with_reducible refine LeO.bind ?_ (fun _ => ?_))
      | exact ih0 _ _ _ _
      | exact LeO.none _
      | refine LeO.ite ?_ ?_
      | refine LeO.bind ?_ (fun _ => ?_)
theorem hustingsref19_Same.mono : ∀ a0 a1 k, LeO (hustingsref19_Same.f k a0 a1) (hustingsref19_Same.f (k + 1) a0 a1) := by
  intro a0 a1 k
  have ih0 := hustingsref19_Same.mono_l k
  unfold hustingsref19_Same.f
  repeat' first
      | (with_reducible exact ih0 _ _ _ _)
      | (with_reducible exact LeO.refl _)
      | (with_reducible exact LeO.none _)
      | (with_reducible refine LeO.ite ?_ ?_)
      | (with_reducible refine LeO.bind ?_ (fun _ => ?_))
      | exact ih0 _ _ _ _
      | exact LeO.none _
      | refine LeO.ite ?_ ?_
      | refine LeO.bind ?_ (fun _ => ?_)
set_option maxHeartbeats 8000000 in
set_option maxRecDepth 100000 in
theorem hustingsref19_Same.calls (k : Nat) (A0 : Option Addr) (c0 : Nat) (l0 : List ByteArray) (A1 : Option Addr) (c1 : Nat) (l1 : List ByteArray) (r : Bool) (w : World) (hr0 : Kd.C Kd.string w A0 l0.length l0) (hc0 : l0.length ≤ c0) (hr1 : Kd.C Kd.string w A1 l1.length l1) (hc1 : l1.length ≤ c1) (h : hustingsref19_Same.f k l0 l1 = some r) :
    Calls Try.prog 12 #[.slice A0 l0.length c0, .slice A1 l1.length c1] w fun e w' => e = .returned (.bool r) ∧ Drawn0 w w' := by
  have HR0 := Aside0.mk hr0
  have HC0 := Aside0.mk hc0
  clear hr0 hc0
  have HR1 := Aside0.mk hr1
  have HC1 := Aside0.mk hc1
  clear hr1 hc1
  have H : (if (l0.length : Int) = (l1.length : Int) then (hustingsref19_Same.l0 k l0 l1 (l0.length : Int) 0) else (some false)) = some r := h
  clear h
  by_cases c3 : (l0.length : Int) = (l1.length : Int)
  · rw [if_pos c3] at H
    have c3b0 : ((l0.length : Int) == (l1.length : Int)) = true := beq_iff_eq.mpr c3
    have c3b1 : ((l0.length : Int) != (l1.length : Int)) = false := bne_eq_false_iff_eq.mpr c3
    have c3b2 : (l0.length == l1.length) = true := by first | simpa using c3 | (simp at c3 ⊢; omega)
    clear c3
    have H' := Aside0.mk H
    clear H
    go_enter Try.func12, Try.ntmps12
    go_wp2
    repeat (go_quiet (fail); try go_wp2)
    go_loopg [13] k (fun kq v13 w' => ∃ (x13_1 : Int), v13 = .int .i64 x13_1 ∧ Aside0 (hustingsref19_Same.l0 kq l0 l1 (l0.length : Int) x13_1 = some r) ∧ Aside0 (kq ≤ k) ∧ Drawn0 w w')
    case atStart => exact ⟨(0), (by first | rfl | (simp; done) | (simp [*]; done)), H', ⟨Nat.le_refl _⟩, by repeat (first | exact Drawn0.refl _ | apply Drawn0.step)⟩
    case round =>
      clear H'
      try clear c1
      try clear p2
      try clear c3
      try clear c3b0
      try clear c3b1
      try clear c3b2
      obtain ⟨x13_1, rfl, HA, HK1, ⟨m1, rfl⟩⟩ := hrel
      cases gk with
      | zero => exact absurd HA.out (by simp [hustingsref19_Same.l0])
      | succ k1 =>
        have H := HA.out
        clear HA
        simp only [hustingsref19_Same.l0] at H
        by_cases c4 : x13_1 < (l0.length : Int)
        · rw [if_pos c4] at H
          have c4b0 : decide (x13_1 < (l0.length : Int)) = true := decide_eq_true c4
          clear c4
          by_cases c5 : 0 ≤ x13_1
          · rw [if_pos c5] at H
            have c5b0 : decide (0 ≤ x13_1) = true := decide_eq_true c5
            clear c5
            by_cases c6 : x13_1 < (l0.length : Int)
            · rw [if_pos c6] at H
              have c6b0 : decide (x13_1 < (l0.length : Int)) = true := decide_eq_true c6
              clear c6
              by_cases c7 : x13_1 < (l1.length : Int)
              · rw [if_pos c7] at H
                have c7b0 : decide (x13_1 < (l1.length : Int)) = true := decide_eq_true c7
                clear c7
                by_cases c8 : (rdOf ByteArray.empty l0 x13_1).toList = (rdOf ByteArray.empty l1 x13_1).toList
                · rw [if_pos c8] at H
                  have c8b0 : ((rdOf ByteArray.empty l0 x13_1).toList == (rdOf ByteArray.empty l1 x13_1).toList) = true := beq_iff_eq.mpr c8
                  have c8b1 : ((rdOf ByteArray.empty l0 x13_1).toList != (rdOf ByteArray.empty l1 x13_1).toList) = false := bne_eq_false_iff_eq.mpr c8
                  clear c8
                  have H' := Aside0.mk H
                  clear H
                  have p12001 : 0 ≤ (x13_1 : Int) := of_decide_eq_true (by first | (with_reducible assumption) | assumption)
                  have q12001 : x13_1 < (l0.length : Int) := of_decide_eq_true (by first | (with_reducible assumption) | assumption)
                  obtain ⟨ad12001, e12001, hx12001_0⟩ := Kd.at_string HR0.out x13_1 p12001 q12001
                  cases e12001
                  replace p12001 := eq_true p12001
                  replace q12001 := eq_true q12001
                  have p12002 : 0 ≤ (x13_1 : Int) := of_decide_eq_true (by first | (with_reducible assumption) | assumption)
                  have q12002 : x13_1 < (l1.length : Int) := of_decide_eq_true (by first | (with_reducible assumption) | assumption)
                  obtain ⟨ad12002, e12002, hx12002_0⟩ := Kd.at_string HR1.out x13_1 p12002 q12002
                  cases e12002
                  replace p12002 := eq_true p12002
                  replace q12002 := eq_true q12002
                  go_wp2
                  repeat (go_quiet (fail); try go_wp2)
                  go_roundg k1
                  case measure => have := HK1.out; omega
                  case rel => exact ⟨(wrap64 (x13_1 + 1)), (by first | rfl | (simp; done) | (simp [*]; done)), H', ⟨by have := HK1.out; omega⟩, by repeat (first | exact Drawn0.refl _ | apply Drawn0.step)⟩
                · rw [if_neg c8] at H
                  have c8b0 : ((rdOf ByteArray.empty l0 x13_1).toList == (rdOf ByteArray.empty l1 x13_1).toList) = false := beq_eq_false_iff_ne.mpr c8
                  have c8b1 : ((rdOf ByteArray.empty l0 x13_1).toList != (rdOf ByteArray.empty l1 x13_1).toList) = true := bne_iff_ne.mpr c8
                  obtain rfl := Option.some.inj H
                  have p12001 : 0 ≤ (x13_1 : Int) := of_decide_eq_true (by first | (with_reducible assumption) | assumption)
                  have q12001 : x13_1 < (l0.length : Int) := of_decide_eq_true (by first | (with_reducible assumption) | assumption)
                  obtain ⟨ad12001, e12001, hx12001_0⟩ := Kd.at_string HR0.out x13_1 p12001 q12001
                  cases e12001
                  replace p12001 := eq_true p12001
                  replace q12001 := eq_true q12001
                  have p12002 : 0 ≤ (x13_1 : Int) := of_decide_eq_true (by first | (with_reducible assumption) | assumption)
                  have q12002 : x13_1 < (l1.length : Int) := of_decide_eq_true (by first | (with_reducible assumption) | assumption)
                  obtain ⟨ad12002, e12002, hx12002_0⟩ := Kd.at_string HR1.out x13_1 p12002 q12002
                  cases e12002
                  replace p12002 := eq_true p12002
                  replace q12002 := eq_true q12002
                  go_wp2
                  repeat (go_quiet (fail); try go_wp2)
                  go_ret
                  exact ⟨by first | rfl | (simp; done) | (simp [*]; done), by repeat (first | exact Drawn0.refl _ | apply Drawn0.step)⟩
              · rw [if_neg c7] at H
                exact absurd H (by simp)
            · rw [if_neg c6] at H
              exact absurd H (by simp)
          · rw [if_neg c5] at H
            exact absurd H (by simp)
        · rw [if_neg c4] at H
          have c4b0 : decide (x13_1 < (l0.length : Int)) = false := decide_eq_false c4
          clear c4
          obtain rfl := Option.some.inj H
          go_wp2
          repeat (go_quiet (fail); try go_wp2)
          go_ret
          exact ⟨by first | rfl | (simp; done) | (simp [*]; done), by repeat (first | exact Drawn0.refl _ | apply Drawn0.step)⟩
  · rw [if_neg c3] at H
    have c3b0 : ((l0.length : Int) == (l1.length : Int)) = false := beq_eq_false_iff_ne.mpr c3
    have c3b1 : ((l0.length : Int) != (l1.length : Int)) = true := bne_iff_ne.mpr c3
    have c3b2 : (l0.length == l1.length) = false := by first | simpa using c3 | (simp at c3 ⊢; omega)
    obtain rfl := Option.some.inj H
    go_enter Try.func12, Try.ntmps12
    go_wp2
    repeat (go_quiet (fail); try go_wp2)
    go_ret
    exact ⟨by first | rfl | (simp; done) | (simp [*]; done), by repeat (first | exact Drawn0.refl _ | apply Drawn0.step)⟩
end Go.Proofs.Ytdleomeiojlooaa.P
end

section
namespace Go.Proofs.Ytdleomeiojlooaa.P
set_option linter.unusedVariables false
set_option linter.unusedSimpArgs false
open Go.RowKit Go.ChangeShapes Go.WideShapes Go.Proofs.YtdleomeiojlooaaW.PrintWords Go.Proofs.YtdleomeiojlooaaW.PrintLast Go.Proofs.YtdleomeiojlooaaW.PrintMore Go.Proofs.Ytdleomeiojlooaa.L
structure OKs (m : Sp) : Prop where
  k_sy : m.sy ≤ m.al.size
  k_al : m.al.size ≤ 4194304
  k_ac : m.acts ≤ 1000000
  k_in : m.inn < 9223372036854775808
def offS (m : Sp) (k : Int) : Sp := if m.off then m else ⟨m.al.extract 0 (m.sy + kp k (m.al.size - m.sy)), m.sy + kp k (m.al.size - m.sy), true, m.acts, 0, m.keep⟩
section
variable {w : World} {g : Nat} {m : Sp}
theorem off_calls (hv : OKs m) {k : Int} (hr : Row w g () 6 (spC m) 53) : Calls Try.prog 18 #[.pointer (some ⟨g, 0, none⟩), .int .i64 k] w fun e w' => e = .returned (.tuple #[]) ∧ Row w' g () 6 (spC (offS m k)) 53 ∧ Fr ⟨w, [g]⟩ w' := by
  obtain ⟨al, sy, off, acts, inn, keep⟩ := m
  cases off
  · exact off_on hr hv.k_sy hv.k_al
  · exact off_off hr
end
abbrev TX (w : World) (B : Nat) (v : Value) (l : List ByteArray) : Prop := Kd.R Kd.string 9 w B (fun _ => True) v l
theorem TX.over {w w' : World} {B : Nat} {v : Value} {l : List ByteArray} {X : List Nat} (h : TX w B v l) (f : Fr ⟨w, X⟩ w') (hX : ∀ x ∈ X, x < B) : TX w' B v l :=
  Kd.R_mono (Kd.R_step (Kd.R_bound h) fun k hk hlt => f.block k hlt fun hm => by have := hX k hm; have := hk.2.1; omega) fun _ _ => trivial
theorem bel_over {n : Nat} {w w' W : World} {X : List Nat} (h : Below n W w) (f : Fr ⟨w, X⟩ w') (hn : n ≤ w.heap.size) (hX : ∀ x ∈ X, n ≤ x) : Below n W w' :=
  ⟨f.os.trans h.os, f.tape.trans h.tape, f.output.trans h.output, Nat.le_trans h.size f.size, fun k hk => (f.block k (Nat.lt_of_lt_of_le hk hn) fun hm => by have := hX k hm; omega).trans (h.block k hk)⟩
section
variable {w : World} {g : Nat} {al : ByteArray} {sy acts inn : Nat} {keep : Int} {ls rs : List ByteArray} {tl : ByteArray}
theorem open_some (hC : Cuts al ls tl) (hal : al.size ≤ 4194304) (hrec : recs ls = some rs) (hr : Row w g () 6 (spC ⟨al, sy, false, acts, inn, keep⟩) 53) : Calls Try.prog 10 #[.pointer (some ⟨g, 0, none⟩)] w fun e w' =>
    (∃ A c, e = .returned (.tuple #[.slice A rs.length c, .int .i64 0]) ∧ TX w' w.heap.size (.slice A rs.length c) rs) ∧ Row w' g () 6 (spC ⟨cat ls, min sy (cat ls).size, false, acts, inn, keep⟩) 53 ∧ Fr ⟨w, [g]⟩ w' :=
  (open_calls hC hal hr).mono fun e w' h => by
    unfold OpenPost at h
    rw [hrec] at h
    obtain ⟨v, he, hR, hr2, hf⟩ := h
    obtain ⟨A, c, rfl⟩ := Kd.R_slice hR
    exact ⟨⟨A, c, he, hR⟩, hr2, hf⟩
end
theorem cuts_cat {ls : List ByteArray} (h : ∀ x ∈ ls, NoN x) : Cuts (cat ls) ls ByteArray.empty := ⟨ByteArray.append_empty.symm, h, fun b hb => by cases hb⟩
theorem same_go (a : List ByteArray) (hl : a.length ≤ 1073741824) : ∀ (d i : Nat), i + d = a.length → hustingsref19_Same.l0 (d + 1) a a (a.length : Int) (i : Int) = some true
  | 0, i, h => by
    rw [hustingsref19_Same.l0, if_neg (by omega)]
  | d + 1, i, h => by
    have ih := same_go a hl d (i + 1) (by omega)
    rw [hustingsref19_Same.l0, if_pos (by omega), if_pos (by omega), if_pos (by omega), if_pos (by omega), if_pos rfl, w64 _ (by omega)]
    exact ih
theorem Held.add {wE : WX} {w w' : World} {R : List RowD} {g n : Nat} {f : Nat → SC} {t : TypeId} (h : Held wE w R) (hb : Below w.heap.size w w') (hg : w.heap.size ≤ g) (hr : Row w' g () n f t) : Held wE w' (R ++ [⟨g, (), n, f, t⟩]) := by
  have h' := h.call hb
  refine ⟨h'.1, fun r hm => ?_, ?_⟩
  · rcases List.mem_append.1 hm with hm | hm
    · exact h'.2.1 r hm
    · rw [List.mem_singleton] at hm; subst hm
      exact ⟨.inl (Nat.le_trans h.1.size hg), hr⟩
  · rw [List.map_append, List.nodup_append]
    refine ⟨h.2.2, by simp, fun a ha b hb' => ?_⟩
    obtain ⟨r, hr1, rfl⟩ := List.mem_map.1 ha
    simp at hb'
    subst hb'
    have := (h.2.1 r hr1).2.lt
    omega
theorem Held.turn {wE : WX} {w w' : World} {R : List RowD} (h : Held wE w R) (k : Nat) {r : RowD} {n : Nat} {f : Nat → SC} {t : TypeId} (hk : R[k]? = some r) (hf : Fr ⟨w, [r.g]⟩ w') (hr : Row w' r.g () n f t) : Held wE w' (R.set k ⟨r.g, (), n, f, t⟩) := by
  have hrm := h.2.1 r (List.mem_of_getElem? hk)
  have hkl := (List.getElem?_eq_some_iff.1 hk).1
  have hke := (List.getElem?_eq_some_iff.1 hk).2
  refine ⟨h.1.touch hf hrm.1, fun q hq => ?_, ?_⟩
  · obtain ⟨j, hj⟩ := List.getElem?_of_mem hq
    by_cases hjk : k = j
    · subst hjk
      rw [List.getElem?_set_self hkl] at hj
      cases hj
      exact ⟨hrm.1, hr⟩
    · rw [List.getElem?_set_ne hjk] at hj
      have hqm := h.2.1 q (List.mem_of_getElem? hj)
      refine ⟨hqm.1, hqm.2.fr hf ?_⟩
      rw [List.mem_singleton]
      intro e
      obtain ⟨hjl, hje⟩ := List.getElem?_eq_some_iff.1 hj
      have hnd := h.2.2
      have h1 : (R.map RowD.g)[j]'(by rw [List.length_map]; exact hjl) = (R.map RowD.g)[k]'(by rw [List.length_map]; exact hkl) := by
        rw [List.getElem_map, List.getElem_map, hje, hke]; exact e
      have hp := List.pairwise_iff_getElem.1 hnd
      rcases Nat.lt_or_gt_of_ne hjk with hlt | hlt
      · exact hp k j (by rw [List.length_map]; exact hkl) (by rw [List.length_map]; exact hjl) hlt h1.symm
      · exact hp j k (by rw [List.length_map]; exact hjl) (by rw [List.length_map]; exact hkl) hlt h1
  · have e : (R.set k ⟨r.g, (), n, f, t⟩).map RowD.g = R.map RowD.g := by
      apply List.ext_getElem?
      intro j
      rw [List.getElem?_map, List.getElem?_map]
      by_cases hj : k = j
      · subst hj
        rw [List.getElem?_set_self hkl, hk]; rfl
      · rw [List.getElem?_set_ne hj]
    rw [e]; exact h.2.2
theorem Held.anew {wE : WX} {w : World} {R : List RowD} (h : Held wE w R) : Held ⟨w, R.map RowD.g⟩ w R := ⟨Fr.refl _ _, fun r hr => ⟨.inr (List.mem_map_of_mem hr), (h.2.1 r hr).2⟩, h.2.2⟩
theorem same_no (x : ByteArray) : (!decide (x = x)) = false := by simp
theorem allLe1 {n a : Nat} (h : n ≤ a) : ∀ x ∈ [a], n ≤ x := fun x hx => by rw [List.mem_singleton] at hx; subst hx; exact h
theorem allLt1 {n a : Nat} (h : a < n) : ∀ x ∈ [a], x < n := fun x hx => by rw [List.mem_singleton] at hx; subst hx; exact h
def zg : ByteArray := ⟨#[90, 103, 10]⟩
def zh : ByteArray := ⟨#[90, 103]⟩
theorem line_f : lineS ⟨#[102]⟩ = zg := by decide +kernel
section
variable {w : World} {g : Nat}
theorem app_f (hr : Row w g () 6 (spC ⟨ByteArray.empty, 0, false, 0, 0, 0⟩) 53) : Calls Try.prog 16 #[.pointer (some ⟨g, 0, none⟩), .string ⟨#[102]⟩] w fun e w' => e = .returned (.int .i64 0) ∧ Row w' g () 6 (spC ⟨zg, 0, false, 1, 0, 0⟩) 53 ∧ Fr ⟨w, [g]⟩ w' := by
  have h := app_stays (r := ⟨#[102]⟩) hr (by decide) (by decide) (by decide) (by decide) (by decide)
  have e : ByteArray.empty ++ lineS ⟨#[102]⟩ = zg := by rw [line_f]; rfl
  rw [e] at h
  exact h
theorem off_f (hr : Row w g () 6 (spC ⟨zg, 0, false, 1, 0, 0⟩) 53) : Calls Try.prog 18 #[.pointer (some ⟨g, 0, none⟩), .int .i64 2] w fun e w' => e = .returned (.tuple #[]) ∧ Row w' g () 6 (spC ⟨zh, 2, true, 1, 0, 0⟩) 53 ∧ Fr ⟨w, [g]⟩ w' := by
  have h := off_on (k := 2) hr (by decide) (by decide)
  have e : (0 + kp 2 (zg.size - 0)) = 2 := by decide
  have e2 : zg.extract 0 2 = zh := by decide +kernel
  rw [e, e2] at h
  exact h
theorem cuts_zh : Cuts zh [] zh := ⟨(ByteArray.empty_append ..).symm, (fun x hx => by cases hx), by show ∀ b ∈ bl zh, b ≠ 10; decide +kernel⟩
theorem open_f (hr : Row w g () 6 (spC ⟨zh, 2, false, 1, 0, 0⟩) 53) : Calls Try.prog 10 #[.pointer (some ⟨g, 0, none⟩)] w fun e w' => (∃ A c, e = .returned (.tuple #[.slice A 0 c, .int .i64 0])) ∧ Row w' g () 6 (spC ⟨ByteArray.empty, 0, false, 1, 0, 0⟩) 53 ∧ Fr ⟨w, [g]⟩ w' :=
  (open_some cuts_zh (by decide) rfl hr).mono fun e w' ⟨⟨A, c, he, _⟩, h2, h3⟩ => ⟨⟨A, c, he⟩, h2, h3⟩
end
theorem alive_calls (w : World) : Calls Try.prog 8 #[] w fun e w' => e = .returned (.bool true) ∧ Below w.heap.size w w' := by
  have hB := Below.refl w.heap.size w
  refine enter_ 43 Try.func8 rfl rfl (fun a0 hS => ?_)
  have HS0 : Sl a0 43 [] := hS
  have HH0 : Held ⟨w, []⟩ w [] := Held.first w []
  clear hS
  refine wp_seq ?_
  have hLo : LOk [(0, 0, .val (.bool false))] := lok (by rfl) (by rfl)
  refine plain_ (wE := ⟨w, []⟩) (sz := 43) (n := 1) [0] [(0, .val (.bool false))] [(0, 0, .val (.bool false))] [] rfl (by rfl) HH0 rfl rfl hLo rfl HS0 (slL 0 (d := 0) rfl (trivial)) ?_ ?_
  · show ∀ i ∈ [0], _
    refine steps_cons (st_run 0 _ rfl rfl hLo rfl rfl (fun _ _ _ _ => rfl) (fun b G w hb ho => exec_move (.inr rfl) (rfl))) ?_
    exact steps_nil
  clear hLo
  intro G a1 w1 hS hH
  have HS1 : Sl a1 43 [(0, .bool false)] := hS
  have HH1 : Held ⟨w, []⟩ w1 [] := hH
  clear hS hH HS0 HH0
  refine then_ ?_
  refine wp_seq ?_
  refine whole_ ?_
  refine cut_call _ rfl rfl rfl rfl Try.func9 rfl rfl (args1 rfl) (new_calls (by decide)) HS1 rfl ?_
  rintro e2 w2 ⟨g, rfl, hng, hrg, hbg⟩
  refine ⟨_, rfl, fun a2 hS => ?_⟩
  have hwg : w.heap.size ≤ g := Nat.le_trans (Nat.le_trans hB.size HH1.1.size) hng
  have HS3 : Sl a2 43 [(4, .pointer (some ⟨g, 0, none⟩)), (0, .bool false)] := hS
  have HH3 : Held ⟨w, []⟩ w2 [⟨g, (), 6, spC ⟨ByteArray.empty, 0, false, 0, 0, 0⟩, 53⟩] := HH1.add hbg hng hrg
  clear hS
  have hLo : LOk [(1, 1, .val (.pointer (some ⟨g, 0, none⟩)))] := lok (by rfl) (by rfl)
  refine part_ (wE := ⟨w, []⟩) (sz := 43) (n := 2) 1 2 [0, 1] [(0, .val (.bool false)), (1, .val (.pointer (some ⟨g, 0, none⟩)))] [(1, 1, .val (.pointer (some ⟨g, 0, none⟩)))] [⟨g, none, none, (), 6, spC ⟨ByteArray.empty, 0, false, 0, 0, 0⟩, spC ⟨ByteArray.empty, 0, false, 0, 0, 0⟩, 53⟩] rfl rfl (by rfl) HH3 rfl rfl hLo rfl HS3 (slS 1 rfl rfl (slL 0 (d := 1) rfl (trivial))) ?_ ?_
  · show ∀ i ∈ [1], _
    refine steps_cons (st_run 0 _ rfl rfl hLo rfl rfl (fun _ _ _ _ => rfl) (fun b G w hb ho => exec_move (.inr rfl) (ev_off rfl (HS3.get 0 rfl)))) ?_
    exact steps_nil
  clear hLo
  intro G a4 w4 hS hH
  have HS4 : Sl a4 43 [(0, .bool false), (1, .pointer (some ⟨g, 0, none⟩))] := hS
  have HH4 : Held ⟨w, []⟩ w4 [⟨g, (), 6, spC ⟨ByteArray.empty, 0, false, 0, 0, 0⟩, 53⟩] := hH
  clear hS hH HS3 HH3
  refine end_ rfl ?_
  refine then_ ?_
  refine wp_seq ?_
  refine wp_seq ?_
  refine whole_ ?_
  have hLo : LOk [(0, 5, .val (.pointer (some ⟨g, 0, none⟩))), (1, 6, .val (.bool false)), (2, 7, .val (.bool false)), (3, 8, .val (.pointer (some ⟨g, 0, none⟩))), (4, 9, .val (.int .i64 (0)))] := lok (by rfl) (by rfl)
  refine part_ (wE := ⟨w, []⟩) (sz := 43) (n := 12) 0 5 [0, 1, 3, 7, 15, 31, 63, 127, 255, 511, 1023, 2047] [(0, .val (.bool false)), (1, .val (.pointer (some ⟨g, 0, none⟩))), (7, .val (.bool false)), (9, .val (.int .i64 (0)))] [(0, 5, .val (.pointer (some ⟨g, 0, none⟩))), (1, 6, .val (.bool false)), (2, 7, .val (.bool false)), (3, 8, .val (.pointer (some ⟨g, 0, none⟩))), (4, 9, .val (.int .i64 (0)))] [⟨g, none, some 4, (), 6, spC ⟨ByteArray.empty, 0, false, 0, 0, 0⟩, spC ⟨zg, 0, false, 1, 0, 0⟩, 53⟩] rfl rfl (by rfl) HH4 rfl rfl hLo rfl HS4 (slS 0 rfl rfl (slS 1 rfl rfl (slL 2 (d := 2) rfl (slL 4 (d := 4) rfl (trivial))))) ?_ ?_
  · show ∀ i ∈ [0, 1, 2, 3, 4], _
    refine steps_cons (st_run 0 _ rfl rfl hLo rfl rfl (fun _ _ _ _ => rfl) (fun b G w hb ho => exec_move (.inl rfl) (ev_off rfl (HS4.get 1 rfl)))) ?_
    refine steps_cons (st_run 1 _ rfl rfl hLo rfl rfl (fun _ _ _ _ => rfl) (fun b G w hb ho => exec_bin rfl (ev_on hLo 0 rfl HS4.1 rfl (hb 0 (by rfl))) (rfl) (rp_eql ⟨_, Try.underlying23⟩ rfl _ _ _))) ?_
    refine steps_cons (st_run 2 _ rfl rfl hLo rfl rfl (fun _ _ _ _ => rfl) (fun b G w hb ho => exec_move (.inl rfl) (ev_on hLo 1 rfl HS4.1 rfl (hb 1 (by rfl))))) ?_
    refine steps_cons (st_run 3 _ rfl rfl hLo rfl rfl (fun b G hb ho => wanted_is rfl rfl rfl HS4.1 rfl (ev_on hLo 2 rfl HS4.1 rfl (hb 2 (by rfl))) rfl) (fun b G w hb ho => exec_move (.inl rfl) (ev_off rfl (HS4.get 1 rfl)))) ?_
    refine steps_cons (st_callM 4 0 _ _ (fun G => #[.pointer (some ⟨g, 0, none⟩), .string (⟨#[102]⟩)]) rfl rfl rfl rfl rfl (fun b G hb ho => wanted_is rfl rfl rfl HS4.1 rfl (ev_on hLo 2 rfl HS4.1 rfl (hb 2 (by rfl))) rfl) hLo rfl (by rfl) (by rfl) (by rfl) Try.func16 rfl rfl (fun b G hb ho => args2 (ev_on hLo 3 rfl HS4.1 rfl (hb 3 (by rfl))) (rfl)) (fun G w hw hr => app_f hr)) ?_
    exact steps_nil
  clear hLo
  intro G a5 w5 hS hH
  have HS5 : Sl a5 43 [(0, .bool false), (1, .pointer (some ⟨g, 0, none⟩)), (7, .bool false), (9, .int .i64 (0))] := hS
  have HH5 : Held ⟨w, []⟩ w5 [⟨g, (), 6, spC ⟨zg, 0, false, 1, 0, 0⟩, 53⟩] := hH
  clear hS hH HS4 HH4
  have hLo : LOk [(5, 10, .val (.bool false)), (6, 11, .val (.bool false)), (7, 12, .val (.bool false)), (8, 13, .val (.pointer (some ⟨g, 0, none⟩))), (9, 14, .val (.string (zg))), (10, 15, .val (.bool false)), (11, 16, .val (.bool false))] := lok (by rfl) (by rfl)
  refine part_ (wE := ⟨w, []⟩) (sz := 43) (n := 12) 5 12 [0, 1, 3, 7, 15, 31, 63, 127, 255, 511, 1023, 2047] [(0, .val (.bool false)), (1, .val (.pointer (some ⟨g, 0, none⟩))), (16, .val (.bool false))] [(5, 10, .val (.bool false)), (6, 11, .val (.bool false)), (7, 12, .val (.bool false)), (8, 13, .val (.pointer (some ⟨g, 0, none⟩))), (9, 14, .val (.string (zg))), (10, 15, .val (.bool false)), (11, 16, .val (.bool false))] [⟨g, none, none, (), 6, spC ⟨zg, 0, false, 1, 0, 0⟩, spC ⟨zg, 0, false, 1, 0, 0⟩, 53⟩] rfl rfl (by rfl) HH5 rfl rfl hLo rfl HS5 (slS 0 rfl rfl (slS 1 rfl rfl (slL 6 (d := 11) rfl (trivial)))) ?_ ?_
  · show ∀ i ∈ [5, 6, 7, 8, 9, 10, 11], _
    refine steps_cons (st_run 0 _ rfl rfl hLo rfl rfl (fun b G hb ho => wanted_is rfl rfl rfl HS5.1 rfl (ev_off rfl (HS5.get 2 rfl)) rfl) (fun b G w hb ho => exec_bin rfl (ev_off rfl (HS5.get 3 rfl)) (rfl) (rb_neq (rfl) _ _ _))) ?_
    refine steps_cons (st_run 1 _ rfl rfl hLo rfl rfl (fun _ _ _ _ => rfl) (fun b G w hb ho => exec_pick rfl (ev_off rfl (HS5.get 2 rfl)) (ev_on hLo 0 rfl HS5.1 rfl (hb 5 (by rfl))))) ?_
    refine steps_cons (st_run 2 _ rfl rfl hLo rfl rfl (fun _ _ _ _ => rfl) (fun b G w hb ho => exec_move (.inl rfl) (ev_on hLo 1 rfl HS5.1 rfl (hb 6 (by rfl))))) ?_
    refine steps_cons (st_run 3 _ rfl rfl hLo rfl rfl (fun b G hb ho => wanted_is rfl rfl rfl HS5.1 rfl (ev_on hLo 2 rfl HS5.1 rfl (hb 7 (by rfl))) rfl) (fun b G w hb ho => exec_move (.inl rfl) (ev_off rfl (HS5.get 1 rfl)))) ?_
    refine steps_cons (st_callRB 4 0 _ _ (fun G => #[.pointer (some ⟨g, 0, none⟩)]) rfl rfl rfl rfl (fun b G hb ho => wanted_is rfl rfl rfl HS5.1 rfl (ev_on hLo 2 rfl HS5.1 rfl (hb 7 (by rfl))) rfl) hLo rfl rfl (by rfl) (by rfl) Try.func13 rfl rfl (fun b G hb ho => args1 (ev_on hLo 3 rfl HS5.1 rfl (hb 8 (by rfl)))) (fun G w hw hr => bytes_calls hr)) ?_
    refine steps_cons (st_run 5 _ rfl rfl hLo rfl rfl (fun b G hb ho => wanted_is rfl rfl rfl HS5.1 rfl (ev_on hLo 2 rfl HS5.1 rfl (hb 7 (by rfl))) rfl) (fun b G w hb ho => exec_bin rfl (ev_on hLo 4 rfl HS5.1 rfl (hb 9 (by rfl))) (rfl) (rb_sneq (same_no _) _ _ _))) ?_
    refine steps_cons (st_run 6 _ rfl rfl hLo rfl rfl (fun _ _ _ _ => rfl) (fun b G w hb ho => exec_pick rfl (ev_on hLo 2 rfl HS5.1 rfl (hb 7 (by rfl))) (ev_on hLo 5 rfl HS5.1 rfl (hb 10 (by rfl))))) ?_
    exact steps_nil
  clear hLo
  intro G a6 w6 hS hH
  have HS6 : Sl a6 43 [(0, .bool false), (1, .pointer (some ⟨g, 0, none⟩)), (16, .bool false)] := hS
  have HH6 : Held ⟨w, []⟩ w6 [⟨g, (), 6, spC ⟨zg, 0, false, 1, 0, 0⟩, 53⟩] := hH
  clear hS hH HS5 HH5
  refine end_ rfl ?_
  refine then_ ?_
  refine wp_cond_false (HS6.get 2 rfl) ?_
  refine wp_skip ?_
  refine then_ ?_
  refine wp_seq ?_
  have hLo : LOk [(0, 17, .val (.pointer (some ⟨g, 0, none⟩))), (1, 18, .val (.tuple #[]))] := lok (by rfl) (by rfl)
  refine plain_ (wE := ⟨w, []⟩) (sz := 43) (n := 2) [0, 1] [(0, .val (.bool false)), (1, .val (.pointer (some ⟨g, 0, none⟩))), (16, .val (.bool false))] [(0, 17, .val (.pointer (some ⟨g, 0, none⟩))), (1, 18, .val (.tuple #[]))] [⟨g, none, some 1, (), 6, spC ⟨zg, 0, false, 1, 0, 0⟩, spC ⟨zh, 2, true, 1, 0, 0⟩, 53⟩] rfl (by rfl) HH6 rfl rfl hLo rfl HS6 (slS 0 rfl rfl (slS 1 rfl rfl (slS 2 rfl rfl (trivial)))) ?_ ?_
  · show ∀ i ∈ [0, 1], _
    refine steps_cons (st_run 0 _ rfl rfl hLo rfl rfl (fun _ _ _ _ => rfl) (fun b G w hb ho => exec_move (.inl rfl) (ev_off rfl (HS6.get 1 rfl)))) ?_
    refine steps_cons (st_callM 1 0 _ _ (fun G => #[.pointer (some ⟨g, 0, none⟩), .int .i64 (2)]) rfl rfl rfl rfl rfl (fun _ _ _ _ => rfl) hLo rfl (by rfl) (by rfl) (by rfl) Try.func18 rfl rfl (fun b G hb ho => args2 (ev_on hLo 0 rfl HS6.1 rfl (hb 0 (by rfl))) (rfl)) (fun G w hw hr => off_f hr)) ?_
    exact steps_nil
  clear hLo
  intro G a7 w7 hS hH
  have HS7 : Sl a7 43 [(0, .bool false), (1, .pointer (some ⟨g, 0, none⟩)), (16, .bool false)] := hS
  have HH7 : Held ⟨w, []⟩ w7 [⟨g, (), 6, spC ⟨zh, 2, true, 1, 0, 0⟩, 53⟩] := hH
  clear hS hH HS6 HH6
  refine then_ ?_
  refine wp_seq ?_
  have hLo : LOk [(0, 19, .val (.pointer (some ⟨g, 0, none⟩))), (1, 20, .val (.tuple #[]))] := lok (by rfl) (by rfl)
  refine plain_ (wE := ⟨w, []⟩) (sz := 43) (n := 2) [0, 1] [(0, .val (.bool false)), (1, .val (.pointer (some ⟨g, 0, none⟩))), (16, .val (.bool false))] [(0, 19, .val (.pointer (some ⟨g, 0, none⟩))), (1, 20, .val (.tuple #[]))] [⟨g, none, some 1, (), 6, spC ⟨zh, 2, true, 1, 0, 0⟩, spC ⟨zh, 2, false, 1, 0, 0⟩, 53⟩] rfl (by rfl) HH7 rfl rfl hLo rfl HS7 (slS 0 rfl rfl (slS 1 rfl rfl (slS 2 rfl rfl (trivial)))) ?_ ?_
  · show ∀ i ∈ [0, 1], _
    refine steps_cons (st_run 0 _ rfl rfl hLo rfl rfl (fun _ _ _ _ => rfl) (fun b G w hb ho => exec_move (.inl rfl) (ev_off rfl (HS7.get 1 rfl)))) ?_
    refine steps_cons (st_callM 1 0 _ _ (fun G => #[.pointer (some ⟨g, 0, none⟩)]) rfl rfl rfl rfl rfl (fun _ _ _ _ => rfl) hLo rfl (by rfl) (by rfl) (by rfl) Try.func21 rfl rfl (fun b G hb ho => args1 (ev_on hLo 0 rfl HS7.1 rfl (hb 0 (by rfl)))) (fun G w hw hr => on_calls hr)) ?_
    exact steps_nil
  clear hLo
  intro G a8 w8 hS hH
  have HS8 : Sl a8 43 [(0, .bool false), (1, .pointer (some ⟨g, 0, none⟩)), (16, .bool false)] := hS
  have HH8 : Held ⟨w, []⟩ w8 [⟨g, (), 6, spC ⟨zh, 2, false, 1, 0, 0⟩, 53⟩] := hH
  clear hS hH HS7 HH7
  refine then_ ?_
  refine wp_seq ?_
  refine whole_ ?_
  have hLo : LOk [(0, 22, .val (.pointer (some ⟨g, 0, none⟩)))] := lok (by rfl) (by rfl)
  refine part_ (wE := ⟨w, []⟩) (sz := 43) (n := 7) 0 1 [0, 1, 3, 7, 15, 31, 63] [(0, .val (.bool false)), (1, .val (.pointer (some ⟨g, 0, none⟩))), (16, .val (.bool false)), (22, .val (.pointer (some ⟨g, 0, none⟩)))] [(0, 22, .val (.pointer (some ⟨g, 0, none⟩)))] [⟨g, none, none, (), 6, spC ⟨zh, 2, false, 1, 0, 0⟩, spC ⟨zh, 2, false, 1, 0, 0⟩, 53⟩] rfl rfl (by rfl) HH8 rfl rfl hLo rfl HS8 (slS 0 rfl rfl (slS 1 rfl rfl (slS 2 rfl rfl (slL 0 (d := 0) rfl (trivial))))) ?_ ?_
  · show ∀ i ∈ [0], _
    refine steps_cons (st_run 0 _ rfl rfl hLo rfl rfl (fun _ _ _ _ => rfl) (fun b G w hb ho => exec_move (.inl rfl) (ev_off rfl (HS8.get 1 rfl)))) ?_
    exact steps_nil
  clear hLo
  intro G a9 w9 hS hH
  have HS9 : Sl a9 43 [(0, .bool false), (1, .pointer (some ⟨g, 0, none⟩)), (16, .bool false), (22, .pointer (some ⟨g, 0, none⟩))] := hS
  have HH9 : Held ⟨w, []⟩ w9 [⟨g, (), 6, spC ⟨zh, 2, false, 1, 0, 0⟩, 53⟩] := hH
  clear hS hH HS8 HH8
  have hrw := HH9.row 0 rfl
  refine cut_call _ rfl rfl rfl rfl Try.func10 rfl rfl (args1 (HS9.get 3 rfl)) (open_f hrw) HS9 rfl ?_
  rintro e10 w10 ⟨⟨A1, c1, rfl⟩, hr1, hf1⟩
  refine ⟨_, rfl, fun a10 hS => ?_⟩
  have HS11 : Sl a10 43 [(23, .tuple #[.slice (A1) (0) (c1), .int .i64 (0)]), (0, .bool false), (1, .pointer (some ⟨g, 0, none⟩)), (16, .bool false), (22, .pointer (some ⟨g, 0, none⟩))] := hS
  have HH11 : Held ⟨w, []⟩ w10 [⟨g, (), 6, spC ⟨ByteArray.empty, 0, false, 1, 0, 0⟩, 53⟩] := HH9.turn 0 rfl hf1 hr1
  clear hS
  have hLo : LOk [(2, 21, .val (.tuple #[.slice (A1) (0) (c1), .int .i64 (0)])), (3, 24, .val (.slice (A1) (0) (c1))), (4, 25, .val (.int .i64 (0))), (5, 2, .val (.slice (A1) (0) (c1))), (6, 3, .val (.int .i64 (0)))] := lok (by rfl) (by rfl)
  refine part_ (wE := ⟨w, []⟩) (sz := 43) (n := 7) 2 7 [0, 1, 3, 7, 15, 31, 63] [(0, .val (.bool false)), (1, .val (.pointer (some ⟨g, 0, none⟩))), (16, .val (.bool false)), (2, .val (.slice (A1) (0) (c1))), (3, .val (.int .i64 (0)))] [(2, 21, .val (.tuple #[.slice (A1) (0) (c1), .int .i64 (0)])), (3, 24, .val (.slice (A1) (0) (c1))), (4, 25, .val (.int .i64 (0))), (5, 2, .val (.slice (A1) (0) (c1))), (6, 3, .val (.int .i64 (0)))] [⟨g, none, none, (), 6, spC ⟨ByteArray.empty, 0, false, 1, 0, 0⟩, spC ⟨ByteArray.empty, 0, false, 1, 0, 0⟩, 53⟩] rfl rfl (by rfl) HH11 rfl rfl hLo rfl HS11 (slS 1 rfl rfl (slS 2 rfl rfl (slS 3 rfl rfl (slL 3 (d := 5) rfl (slL 4 (d := 6) rfl (trivial)))))) ?_ ?_
  · show ∀ i ∈ [2, 3, 4, 5, 6], _
    refine steps_cons (st_run 0 _ rfl rfl hLo rfl rfl (fun _ _ _ _ => rfl) (fun b G w hb ho => exec_move (.inl rfl) (ev_off rfl (HS11.get 0 rfl)))) ?_
    refine steps_cons (st_run 1 _ rfl rfl hLo rfl rfl (fun _ _ _ _ => rfl) (fun b G w hb ho => exec_extract rfl (ev_on hLo 0 rfl HS11.1 rfl (hb 2 (by rfl))) (by rfl))) ?_
    refine steps_cons (st_run 2 _ rfl rfl hLo rfl rfl (fun _ _ _ _ => rfl) (fun b G w hb ho => exec_extract rfl (ev_on hLo 0 rfl HS11.1 rfl (hb 2 (by rfl))) (by rfl))) ?_
    refine steps_cons (st_run 3 _ rfl rfl hLo rfl rfl (fun _ _ _ _ => rfl) (fun b G w hb ho => exec_move (.inr rfl) (ev_on hLo 1 rfl HS11.1 rfl (hb 3 (by rfl))))) ?_
    refine steps_cons (st_run 4 _ rfl rfl hLo rfl rfl (fun _ _ _ _ => rfl) (fun b G w hb ho => exec_move (.inr rfl) (ev_on hLo 2 rfl HS11.1 rfl (hb 4 (by rfl))))) ?_
    exact steps_nil
  clear hLo
  intro G a12 w12 hS hH
  have HS12 : Sl a12 43 [(0, .bool false), (1, .pointer (some ⟨g, 0, none⟩)), (16, .bool false), (2, .slice (A1) (0) (c1)), (3, .int .i64 (0))] := hS
  have HH12 : Held ⟨w, []⟩ w12 [⟨g, (), 6, spC ⟨ByteArray.empty, 0, false, 1, 0, 0⟩, 53⟩] := hH
  clear hS hH HS11 HH11
  refine end_ rfl ?_
  refine then_ ?_
  refine wp_seq ?_
  have hLo : LOk [(0, 26, .val (.slice (A1) (0) (c1))), (1, 27, .val (.int .i64 (0))), (2, 28, .val (.bool true)), (3, 29, .val (.bool true)), (4, 30, .val (.int .i64 (0))), (5, 31, .val (.bool true)), (6, 32, .val (.bool true)), (7, 33, .val (.bool true)), (8, 34, .val (.pointer (some ⟨g, 0, none⟩))), (9, 35, .val (.string (ByteArray.empty))), (10, 36, .val (.bool true)), (11, 37, .val (.bool true)), (12, 38, .val (.bool true)), (13, 39, .val (.pointer (some ⟨g, 0, none⟩))), (14, 40, .val (.int .i64 (((1 : Nat) : Int)))), (15, 41, .val (.bool true)), (16, 42, .val (.bool true)), (17, 0, .val (.bool true))] := lok (by rfl) (by rfl)
  refine plain_ (wE := ⟨w, []⟩) (sz := 43) (n := 18) [0, 1, 3, 7, 15, 31, 63, 127, 255, 511, 1023, 2047, 4095, 8191, 16383, 32767, 65535, 131071] [(1, .val (.pointer (some ⟨g, 0, none⟩))), (16, .val (.bool false)), (2, .val (.slice (A1) (0) (c1))), (3, .val (.int .i64 (0))), (0, .val (.bool true))] [(0, 26, .val (.slice (A1) (0) (c1))), (1, 27, .val (.int .i64 (0))), (2, 28, .val (.bool true)), (3, 29, .val (.bool true)), (4, 30, .val (.int .i64 (0))), (5, 31, .val (.bool true)), (6, 32, .val (.bool true)), (7, 33, .val (.bool true)), (8, 34, .val (.pointer (some ⟨g, 0, none⟩))), (9, 35, .val (.string (ByteArray.empty))), (10, 36, .val (.bool true)), (11, 37, .val (.bool true)), (12, 38, .val (.bool true)), (13, 39, .val (.pointer (some ⟨g, 0, none⟩))), (14, 40, .val (.int .i64 (((1 : Nat) : Int)))), (15, 41, .val (.bool true)), (16, 42, .val (.bool true)), (17, 0, .val (.bool true))] [⟨g, none, none, (), 6, spC ⟨ByteArray.empty, 0, false, 1, 0, 0⟩, spC ⟨ByteArray.empty, 0, false, 1, 0, 0⟩, 53⟩] rfl (by rfl) HH12 rfl rfl hLo rfl HS12 (slS 1 rfl rfl (slS 2 rfl rfl (slS 3 rfl rfl (slS 4 rfl rfl (slL 17 (d := 17) rfl (trivial)))))) ?_ ?_
  · show ∀ i ∈ [0, 1, 2, 3, 4, 5, 6, 7, 8, 9, 10, 11, 12, 13, 14, 15, 16, 17], _
    refine steps_cons (st_run 0 _ rfl rfl hLo rfl rfl (fun _ _ _ _ => rfl) (fun b G w hb ho => exec_move (.inl rfl) (ev_off rfl (HS12.get 3 rfl)))) ?_
    refine steps_cons (st_run 1 _ rfl rfl hLo rfl rfl (fun _ _ _ _ => rfl) (fun b G w hb ho => exec_lenL Try.underlying25 rfl (ev_on hLo 0 rfl HS12.1 rfl (hb 0 (by rfl))))) ?_
    refine steps_cons (st_run 2 _ rfl rfl hLo rfl rfl (fun _ _ _ _ => rfl) (fun b G w hb ho => exec_bin rfl (ev_on hLo 1 rfl HS12.1 rfl (hb 1 (by rfl))) (rfl) (rb_eql (rfl) _ _ _))) ?_
    refine steps_cons (st_run 3 _ rfl rfl hLo rfl rfl (fun _ _ _ _ => rfl) (fun b G w hb ho => exec_move (.inl rfl) (ev_on hLo 2 rfl HS12.1 rfl (hb 2 (by rfl))))) ?_
    refine steps_cons (st_run 4 _ rfl rfl hLo rfl rfl (fun b G hb ho => wanted_is rfl rfl rfl HS12.1 rfl (ev_on hLo 3 rfl HS12.1 rfl (hb 3 (by rfl))) rfl) (fun b G w hb ho => exec_move (.inl rfl) (ev_off rfl (HS12.get 4 rfl)))) ?_
    refine steps_cons (st_run 5 _ rfl rfl hLo rfl rfl (fun b G hb ho => wanted_is rfl rfl rfl HS12.1 rfl (ev_on hLo 3 rfl HS12.1 rfl (hb 3 (by rfl))) rfl) (fun b G w hb ho => exec_bin rfl (ev_on hLo 4 rfl HS12.1 rfl (hb 4 (by rfl))) (rfl) (rb_eql (rfl) _ _ _))) ?_
    refine steps_cons (st_run 6 _ rfl rfl hLo rfl rfl (fun _ _ _ _ => rfl) (fun b G w hb ho => exec_pick rfl (ev_on hLo 3 rfl HS12.1 rfl (hb 3 (by rfl))) (ev_on hLo 5 rfl HS12.1 rfl (hb 5 (by rfl))))) ?_
    refine steps_cons (st_run 7 _ rfl rfl hLo rfl rfl (fun _ _ _ _ => rfl) (fun b G w hb ho => exec_move (.inl rfl) (ev_on hLo 6 rfl HS12.1 rfl (hb 6 (by rfl))))) ?_
    refine steps_cons (st_run 8 _ rfl rfl hLo rfl rfl (fun b G hb ho => wanted_is rfl rfl rfl HS12.1 rfl (ev_on hLo 7 rfl HS12.1 rfl (hb 7 (by rfl))) rfl) (fun b G w hb ho => exec_move (.inl rfl) (ev_off rfl (HS12.get 1 rfl)))) ?_
    refine steps_cons (st_callRB 9 0 _ _ (fun G => #[.pointer (some ⟨g, 0, none⟩)]) rfl rfl rfl rfl (fun b G hb ho => wanted_is rfl rfl rfl HS12.1 rfl (ev_on hLo 7 rfl HS12.1 rfl (hb 7 (by rfl))) rfl) hLo rfl rfl (by rfl) (by rfl) Try.func13 rfl rfl (fun b G hb ho => args1 (ev_on hLo 8 rfl HS12.1 rfl (hb 8 (by rfl)))) (fun G w hw hr => bytes_calls hr)) ?_
    refine steps_cons (st_run 10 _ rfl rfl hLo rfl rfl (fun b G hb ho => wanted_is rfl rfl rfl HS12.1 rfl (ev_on hLo 7 rfl HS12.1 rfl (hb 7 (by rfl))) rfl) (fun b G w hb ho => exec_bin rfl (ev_on hLo 9 rfl HS12.1 rfl (hb 9 (by rfl))) (rfl) (rb_seql (decide_eq_true rfl) _ _ _))) ?_
    refine steps_cons (st_run 11 _ rfl rfl hLo rfl rfl (fun _ _ _ _ => rfl) (fun b G w hb ho => exec_pick rfl (ev_on hLo 7 rfl HS12.1 rfl (hb 7 (by rfl))) (ev_on hLo 10 rfl HS12.1 rfl (hb 10 (by rfl))))) ?_
    refine steps_cons (st_run 12 _ rfl rfl hLo rfl rfl (fun _ _ _ _ => rfl) (fun b G w hb ho => exec_move (.inl rfl) (ev_on hLo 11 rfl HS12.1 rfl (hb 11 (by rfl))))) ?_
    refine steps_cons (st_run 13 _ rfl rfl hLo rfl rfl (fun b G hb ho => wanted_is rfl rfl rfl HS12.1 rfl (ev_on hLo 12 rfl HS12.1 rfl (hb 12 (by rfl))) rfl) (fun b G w hb ho => exec_move (.inl rfl) (ev_off rfl (HS12.get 1 rfl)))) ?_
    refine steps_cons (st_callRB 14 0 _ _ (fun G => #[.pointer (some ⟨g, 0, none⟩)]) rfl rfl rfl rfl (fun b G hb ho => wanted_is rfl rfl rfl HS12.1 rfl (ev_on hLo 12 rfl HS12.1 rfl (hb 12 (by rfl))) rfl) hLo rfl rfl (by rfl) (by rfl) Try.func14 rfl rfl (fun b G hb ho => args1 (ev_on hLo 13 rfl HS12.1 rfl (hb 13 (by rfl)))) (fun G w hw hr => acts_calls hr)) ?_
    refine steps_cons (st_run 15 _ rfl rfl hLo rfl rfl (fun b G hb ho => wanted_is rfl rfl rfl HS12.1 rfl (ev_on hLo 12 rfl HS12.1 rfl (hb 12 (by rfl))) rfl) (fun b G w hb ho => exec_bin rfl (ev_on hLo 14 rfl HS12.1 rfl (hb 14 (by rfl))) (rfl) (rb_eql (rfl) _ _ _))) ?_
    refine steps_cons (st_run 16 _ rfl rfl hLo rfl rfl (fun _ _ _ _ => rfl) (fun b G w hb ho => exec_pick rfl (ev_on hLo 12 rfl HS12.1 rfl (hb 12 (by rfl))) (ev_on hLo 15 rfl HS12.1 rfl (hb 15 (by rfl))))) ?_
    refine steps_cons (st_run 17 _ rfl rfl hLo rfl rfl (fun _ _ _ _ => rfl) (fun b G w hb ho => exec_move (.inr rfl) (ev_on hLo 16 rfl HS12.1 rfl (hb 16 (by rfl))))) ?_
    exact steps_nil
  clear hLo
  intro G a13 w13 hS hH
  have HS13 : Sl a13 43 [(1, .pointer (some ⟨g, 0, none⟩)), (16, .bool false), (2, .slice (A1) (0) (c1)), (3, .int .i64 (0)), (0, .bool true)] := hS
  have HH13 : Held ⟨w, []⟩ w13 [⟨g, (), 6, spC ⟨ByteArray.empty, 0, false, 1, 0, 0⟩, 53⟩] := hH
  clear hS hH HS12 HH12
  refine then_ ?_
  refine wp_ret ?_
  repeat (first | refine then_ret ?_ | refine inBlock_ret' ?_)
  exact b_tmp rfl HS13.2.1 (HS13.get 4 rfl) ⟨rfl, HH13.1.below⟩
end Go.Proofs.Ytdleomeiojlooaa.P
end

section
namespace Go.Proofs.Ytdleomeiojlooaa.P
set_option linter.unusedVariables false
set_option linter.unusedSimpArgs false
open Go.ChangeShapes Go.WideShapes Go.RowKit Go.Deep Go.Joins Go.Proofs.YtdleomeiojlooaaW.PrintWords Go.Proofs.YtdleomeiojlooaaW.PrintLast Go.Proofs.YtdleomeiojlooaaW.PrintMore
abbrev reach47 : Nat := 140737488351232
section
variable {H : Type} {enc : TypeId × Value → H} {P : Program} {W : World} {held : Bool}
theorem weightsAll_mem {e : TypeId} {x : Nat} {d : DataW H} : ∀ {ds : List (DataW H)}, d ∈ ds → x ∈ d.weights P e → x ∈ DataW.weightsAll P e ds
  | [], h, _ => by cases h
  | a :: r, h, hx => by
    unfold DataW.weightsAll
    rcases List.mem_cons.1 h with rfl | h
    · exact List.mem_append_left _ hx
    · exact List.mem_append_right _ (weightsAll_mem h hx)
theorem weightsEach_mem {t : TypeId} {x : Nat} {d : DataW H} : ∀ {ts : List TypeId} {ds : List (DataW H)} {j : Nat}, ts[j]? = some t → ds[j]? = some d → x ∈ d.weights P t → x ∈ DataW.weightsEach P ts ds
  | [], _, j, h, _, _ => by cases h
  | _ :: _, [], j, _, h, _ => by cases h
  | a :: ts, b :: ds, 0, h1, h2, hx => by
    unfold DataW.weightsEach
    injection h1 with h1; injection h2 with h2; subst h1; subst h2
    exact List.mem_append_left _ hx
  | a :: ts, b :: ds, j + 1, h1, h2, hx => by
    unfold DataW.weightsEach
    exact List.mem_append_right _ (weightsEach_mem (ts := ts) (ds := ds) (j := j) h1 h2 hx)
structure InL {α : Type} (d : Kd α) (ok : α → Prop) (w : World) (a : Option Addr) (len cap : Nat) (l : List α) : Prop where
  z_len : l.length = len
  z_cap : len ≤ cap
  z_C : Kd.C d w a len l
  z_ok : ∀ x ∈ l, ok x
  z_max : len ≤ reach47
theorem choose_list {α : Type} {p : Nat → α → Prop} : ∀ n, (∀ i, i < n → ∃ u, p i u) → ∃ l : List α, l.length = n ∧ ∀ i u, l[i]? = some u → p i u
  | 0, _ => ⟨[], rfl, fun i u h => by cases h⟩
  | n + 1, h => by
    obtain ⟨l, hl, hp⟩ := choose_list n (fun i hi => h i (by omega))
    obtain ⟨u, hu⟩ := h n (by omega)
    refine ⟨l ++ [u], by simp [hl], fun i v hv => ?_⟩
    by_cases hi : i < n
    · rw [List.getElem?_append_left (by omega)] at hv; exact hp i v hv
    · rw [List.getElem?_append_right (by omega)] at hv
      have h2 := (List.getElem?_eq_some_iff.1 hv).1
      simp at h2
      have h3 : i = n := by omega
      subst h3
      rw [hl, Nat.sub_self] at hv
      cases hv
      exact hu
theorem open_list {α : Type} (d : Kd α) (ok : α → Prop) {t e : TypeId} {v : Value} {ts : List TypeId} {ds : List (DataW H)} {j : Nat} {dd : DataW H} {ps : List MemPlace} {r : Reach} {b0 : Nat}
    (hsz : (DataW.weightsEach P ts ds).all (· ≤ reachBytes) = true) (htj : ts[j]? = some t) (hdj : ds[j]? = some dd) (ht : P.underlying t = some (.slice e)) (ce : P.cellsOf e = d.sz) (hbe : 0 < P.bytesOf e) (hv : Value.okWide P W r b0 t v) (h : DataW.Trod enc P W 0 (fun _ => true) held t v dd ps)
    (each : ∀ fuel cs (de : DataW H) pe, DataW.trod enc P W 0 (fun _ => true) held fuel e cs = some (de, pe) → (∀ x ∈ de.weights P e, x ≤ reach47) → ∃ x, d.K W x cs ∧ ok x) : ∃ a len cap l, v = .slice a len cap ∧ InL d ok W a len cap l := by
  obtain ⟨fuel, hf⟩ := h
  have hw : ∀ x ∈ dd.weights P t, x ≤ reach47 := fun x hx => of_decide_eq_true (List.all_eq_true.1 hsz x (weightsEach_mem htj hdj hx))
  obtain ⟨a, len, cap, rfl⟩ := okWide_slice ht hv
  rcases DataW.trod_slice ht hf with ⟨h0, _⟩ | ⟨x, l0, c0, elems, rest, m, rfl, hcs, hy, hb, hl, hm, hle, hel, hsp, _⟩
  · have h0' : [Value.slice a len cap] = [.slice none 0 0] := h0
    injection h0' with h0' _
    injection h0' with h1 h2 h3
    subst h1; subst h2; subst h3
    exact ⟨none, 0, 0, [], rfl, rfl, Nat.le_refl _, ⟨rfl, by omega, fun h => absurd h (by omega)⟩, (fun x hx => by cases hx), by decide⟩
  · have hcs' : [Value.slice a len cap] = [.slice (some x) l0 c0] := hcs
    injection hcs' with hcs' _
    injection hcs' with h1 h2 h3
    subst h1; subst h2; subst h3
    obtain ⟨hy, _⟩ := Prod.mk.inj hy
    rw [hy] at hw
    unfold DataW.weights at hw
    rw [ht] at hw
    have el : ∀ i, i < len → ∃ u : α, (∃ cs, cs.length = d.sz ∧ d.K W u cs ∧ ∀ j v, cs[j]? = some v → W.cell? (x.add (i * d.sz + j)) = some v) ∧ ok u := by
      intro i hi
      have h1 := hel i hi
      have hs : elems[i]? = some (elems[i]'(by omega)) := List.getElem?_eq_getElem (by omega)
      rw [hs, Option.bind_eq_some_iff] at h1
      obtain ⟨cs, h2, h3⟩ := h1
      rw [ce] at h2
      obtain ⟨_, h5, h6⟩ := World.cells?_some h2
      obtain ⟨u, h7, h8⟩ := each m cs (elems[i]'(by omega)).1 (elems[i]'(by omega)).2 h3 (fun y hy2 => hw y (List.mem_cons_of_mem _ (List.mem_append_left _ (weightsAll_mem (List.mem_map.2 ⟨_, List.getElem_mem _, rfl⟩) hy2))))
      refine ⟨u, ⟨cs, h5, h7, fun j v hv => ?_⟩, h8⟩
      have hj : j < d.sz := by rw [← h5]; exact (List.getElem?_eq_some_iff.1 hv).1
      rw [← Go.Deep.add_add, h6 j hj, hv]
    obtain ⟨l, hll, hlp⟩ := choose_list len el
    refine ⟨some x, len, cap, l, rfl, hll, hl, ⟨hll, by have := hm; unfold maxLen at this; omega, fun _ => ⟨x, rfl, fun j p hp => ?_⟩⟩, fun u hu => ?_, ?_⟩
    · obtain ⟨cs, q1, q2, q3⟩ := (hlp j p hp).1
      exact ⟨cs, q1, q2, q3⟩
    · obtain ⟨i, hi⟩ := List.getElem?_of_mem hu
      exact (hlp i u hi).2
    · have h9 := hw _ List.mem_cons_self
      simp only [List.length_map] at h9
      exact Nat.le_trans (by omega : len ≤ elems.length + rest.length) (Nat.le_trans (Nat.le_mul_of_pos_right _ hbe) h9)
theorem str_size {s : ByteArray} {e : TypeId} {d : DataW H} (hd : d = .lit (.string s.data.toList)) (hw : ∀ x ∈ d.weights P e, x ≤ reach47) : s.size ≤ reach47 := by
  subst hd
  have := hw s.data.toList.length (by unfold DataW.weights; exact List.mem_cons_self)
  rw [Array.length_toList] at this
  exact this
theorem each_string {e : TypeId} (he : P.underlying e = some .string) : ∀ fuel cs (de : DataW H) pe, DataW.trod enc P W 0 (fun _ => true) held fuel e cs = some (de, pe) → (∀ x ∈ de.weights P e, x ≤ reach47) → ∃ x, Kd.string.K W x cs ∧ x.size ≤ reach47 := by
  intro fuel cs de pe h hw
  obtain ⟨s, rfl, hx, _⟩ := DataW.trod_string he h
  obtain ⟨hx, _⟩ := Prod.mk.inj hx
  exact ⟨s, rfl, str_size hx hw⟩
theorem each_bool {e : TypeId} (he : P.underlying e = some .bool) : ∀ fuel cs (de : DataW H) pe, DataW.trod enc P W 0 (fun _ => true) held fuel e cs = some (de, pe) → (∀ x ∈ de.weights P e, x ≤ reach47) → ∃ x, (Kd.scalar Value.bool (fun _ => rfl)).K W x cs ∧ True := by
  intro fuel cs de pe h hw
  obtain ⟨s, rfl, hx⟩ := DataW.trod_bool he h
  exact ⟨s, rfl, trivial⟩
end
theorem c_cell {w : World} {a : Option Addr} {n i : Nat} {l : List ByteArray} {x : ByteArray} (h : Kd.C Kd.string w a n l) (hx : l[i]? = some x) : ∃ ad, a = some ad ∧ w.cell? (ad.add (i * 1)) = some (.string x) := by
  have hi := (List.getElem?_eq_some_iff.1 hx).1
  have hn : 0 < n := by have := h.1; omega
  obtain ⟨ad, he, hc⟩ := h.2.2 hn
  obtain ⟨c, h1, h2, h3⟩ := hc i x hx
  have h2 : c = [Value.string x] := h2
  subst h2
  exact ⟨ad, he, by have := h3 0 _ rfl; exact this⟩
theorem same_callsC {w : World} {l : List ByteArray} {A1 A2 : Option Addr} {c1 c2 n1 n2 : Nat} (h1 : Kd.C Kd.string w A1 n1 l) (k1 : n1 ≤ c1) (h2 : Kd.C Kd.string w A2 n2 l) (k2 : n2 ≤ c2) (hl : l.length ≤ 1073741824) : Calls Try.prog 12 #[.slice A1 n1 c1, .slice A2 n2 c2] w fun e w' => e = .returned (.bool true) ∧ Below w.heap.size w w' := by
  have e1 := h1.1
  have e2 := h2.1
  subst e1
  subst e2
  refine (hustingsref19_Same.calls (l.length + 1) A1 c1 l A2 c2 l true w h1 k1 h2 k2 ?_).mono fun e w' h => ⟨h.1, h.2.below⟩
  unfold hustingsref19_Same.f
  rw [if_pos rfl]
  exact same_go l hl l.length 0 (by omega)
theorem TX.C {w : World} {B n c : Nat} {A : Option Addr} {l : List ByteArray} (h : TX w B (.slice A n c) l) : Kd.C Kd.string w A n l ∧ n ≤ c := by
  obtain ⟨rfl, a2, a3⟩ := Kd.R_reads' h
  exact ⟨a3, a2⟩
end Go.Proofs.Ytdleomeiojlooaa.P
end

section
namespace Go.Proofs.Ytdleomeiojlooaa.P
set_option linter.unusedVariables false
set_option linter.unusedSimpArgs false
open Go.RowKit Go.ChangeShapes Go.WideShapes Go.Proofs.YtdleomeiojlooaaW.PrintWords Go.Proofs.YtdleomeiojlooaaW.PrintLast Go.Proofs.YtdleomeiojlooaaW.PrintMore Go.Proofs.Ytdleomeiojlooaa.L
def enR (x : ByteArray) : ByteArray := encS (bytesOf x) true
theorem ltr_no10 : ∀ (u : Bool) (n : Fin 64), ltr u (n.val : Int) ≠ 10 := by decide +kernel
theorem enR_no (x : ByteArray) : NoN (enR x) := by
  intro b hb e
  subst e
  have hm : (10 : Int) ∈ bytesOf (enR x) := List.mem_map.2 ⟨10, hb, rfl⟩
  unfold enR at hm
  rw [bytes_enc (bytesOf x) true (bs_bytes x)] at hm
  obtain ⟨n, hn, he⟩ := List.mem_map.1 hm
  have hr := enc6_range (bytesOf x) (bs_bytes x) n hn
  have := ltr_no10 true ⟨n.toNat, by omega⟩
  simp only [Int.toNat_of_nonneg hr.1] at this
  exact this he
theorem decS_enR (x : ByteArray) : decS (enR x) = some x := by
  unfold decS enR
  rw [decL_enc true (bytesOf x) (bs_bytes x), Option.map_some, str_bytes]
theorem recs_enR : ∀ l : List ByteArray, recs (l.map enR) = some l
  | [] => rfl
  | x :: r => by
    show (decS (enR x)).bind (fun y => (recs (r.map enR)).map (y :: ·)) = _
    rw [decS_enR, Option.bind_some, recs_enR r]; rfl
def catR (l : List ByteArray) : ByteArray := cat (l.map enR)
theorem lineS_eq (x : ByteArray) : lineS x = enR x ++ nl := rfl
theorem catR_snoc (l : List ByteArray) (x : ByteArray) : catR (l ++ [x]) = catR l ++ lineS x := by
  unfold catR
  rw [List.map_append, cat_append, lineS_eq]
  show _ ++ (enR x ++ nl ++ ByteArray.empty) = _
  rw [ByteArray.append_empty]
def sumR : List ByteArray → Nat
  | [] => 0
  | x :: r => x.size + sumR r
theorem sumR_snoc : ∀ (l : List ByteArray) (x : ByteArray), sumR (l ++ [x]) = sumR l + x.size
  | [], x => by simp [sumR]
  | y :: r, x => by
    show y.size + sumR (r ++ [x]) = y.size + sumR r + x.size
    rw [sumR_snoc r x]; omega
theorem catR_le : ∀ l : List ByteArray, (catR l).size ≤ 2 * sumR l + l.length
  | [] => Nat.le_refl _
  | x :: r => by
    have := catR_le r
    have h := encLen_le x.size
    unfold catR at this ⊢
    rw [List.map_cons, cat_size]
    have e : (enR x).size = encLen x.size := enc_size x
    rw [e]
    show _ ≤ 2 * (x.size + sumR r) + (r.length + 1)
    omega
theorem sumR_take_le : ∀ (l : List ByteArray) (i : Nat), sumR (l.take i) ≤ sumR l
  | [], i => by simp
  | x :: r, 0 => by simp [sumR]
  | x :: r, i + 1 => by
    show x.size + sumR (r.take i) ≤ x.size + sumR r
    have := sumR_take_le r i
    omega
theorem take_get {l : List ByteArray} {i : Nat} {x : ByteArray} (h : l[i]? = some x) : l.take (i + 1) = l.take i ++ [x] := by
  rw [List.take_add_one, h]; rfl
theorem wxc {n : Nat} {w W : World} {X : List Nat} {ad : Addr} {v : Value} (h : w.cell? ad = some v) (hn : w.heap.size = n) (hB : Below n w W) (hX : ∀ x ∈ X, n ≤ x) : WX.cell? ⟨W, X⟩ ad = some v := by
  have hl := cell_lt h
  unfold WX.cell?
  rw [if_neg (fun hm => by have := hX _ hm; omega)]
  exact (hB.cell (by omega)).trans h
def nthV (k : Nat) (v : Value) : Value := if k = 3 then v else match v with
  | .tuple xs => xs.getD k undef
  | _ => undef
structure GT (wE : WX) (val : List (Option Value)) (dep : List (Option Nat)) (cv : Nat) (rs : List ByteArray) (nn : Int) (ok : Bool) (g n : Nat) (f0 : Nat → SC) (t : TypeId) (V : Nat → Value) (b : Nat → Bool) (w : World) : Prop where
  fr : Fr wE w
  fresh : wE.fresh g
  row : Row w g () n f0 t
  vs : ∀ i v, val[i]? = some (some v) → b i = true → V i = v
  ds : ∀ i k, dep[i]? = some (some k) → b i = true → V i = nthV k (V cv)
  rc : b cv = true → ∃ A c, V cv = .tuple #[.slice A rs.length c, .int .i64 nn, .bool ok] ∧ TX w wE.w.heap.size (.slice A rs.length c) rs
section
variable {P : Program} {ops : Array Oper} {Q : Exit → Act → World → Prop} {B O : List Nat} {a0 : Act} {i : Nat} {T : List (Nat × Tmp)} {wE : WX} {val : List (Option Value)} {dep : List (Option Nat)} {cv : Nat} {rs : List ByteArray} {nn : Int} {ok : Bool} {g n : Nat} {f0 : Nat → SC} {t : TypeId}
theorem GT.first {w : World} (V : Nat → Value) (h : Held wE w [⟨g, (), n, f0, t⟩]) : GT wE val dep cv rs nn ok g n f0 t V (fun _ => false) w.drew :=
  ⟨h.1.drew, (h.2.1 _ List.mem_cons_self).1, (h.2.1 _ List.mem_cons_self).2, fun _ _ _ q => (by cases q), fun _ _ _ q => (by cases q), fun q => (by cases q)⟩
theorem GT.step {V : Nat → Value} {b : Nat → Bool} {w w' : World} {v : Value} (h : GT wE val dep cv rs nn ok g n f0 t V b w) (hb : Below w.heap.size w w') (hv : ∀ u, val[i]? = some (some u) → v = u) (hd : ∀ k, dep[i]? = some (some k) → v = nthV k (V cv)) (hc : Nat.beq i cv = false) : GT wE val dep cv rs nn ok g n f0 t (setV V i v) (up b i) w' := by
  have hc : cv ≠ i := fun e => by subst e; rw [Nat.beq_refl] at hc; cases hc
  refine ⟨h.fr.call hb, h.fresh, h.row.below hb h.row.lt, fun j u hj q => ?_, fun j k hj q => ?_, fun q => ?_⟩
  · by_cases e : j = i
    · subst e; rw [setV_self]; exact hv u hj
    · rw [setV_other e]; rw [up_other' e] at q; exact h.vs j u hj q
  · rw [setV_other hc]
    by_cases e : j = i
    · subst e; rw [setV_self]; exact hd k hj
    · rw [setV_other e]; rw [up_other' e] at q; exact h.ds j k hj q
  · rw [setV_other hc]; rw [up_other' hc] at q
    obtain ⟨A, c, h1, h2⟩ := h.rc q
    exact ⟨A, c, h1, Kd.R_below h2 hb⟩
end
end Go.Proofs.Ytdleomeiojlooaa.P
end

section
namespace Go.Proofs.Ytdleomeiojlooaa.P
open Go.RowKit Go.Proofs.YtdleomeiojlooaaW.PrintWords Go.Proofs.YtdleomeiojlooaaW.PrintLast Go.Proofs.YtdleomeiojlooaaW.PrintMore
set_option linter.unusedVariables false
set_option linter.unusedSimpArgs false
def hustingslaw19_great.l0 : Nat → List (S49) → Int → List (S49) → Int → Int → Option (Bool)
  | 0, _, _, _, _, _ => none
  | k + 1, x1, x5, x10, x11, x12 => if x12 < x11 then (if 0 ≤ x12 then (if x12 < (x10.length : Int) then (if (wrap64 (x5 + (((rd_T49 x10 x12).f3).size : Int))) > 16384 then (some true) else (hustingslaw19_great.l0 k x1 (wrap64 (x5 + (((rd_T49 x10 x12).f3).size : Int))) x10 x11 (wrap64 (x12 + 1)))) else (none)) else (none)) else (if (x1.length : Int) > 60 then (some true) else (some (decide (x5 > 16384))))
def hustingslaw19_great.f (k : Nat) (a0 : ByteArray) (l1 : List (S49)) : Option (Bool) := hustingslaw19_great.l0 k l1 (a0.size : Int) l1 (l1.length : Int) 0
theorem hustingslaw19_great.mono_l : ∀ k, (∀ y0 y1 y2 y3 y4, LeO (hustingslaw19_great.l0 k y0 y1 y2 y3 y4) (hustingslaw19_great.l0 (k + 1) y0 y1 y2 y3 y4))
  | 0 => fun _ _ _ _ _ r h => by simp [hustingslaw19_great.l0] at h
  | k + 1 => by
    have ih0 := hustingslaw19_great.mono_l k
    · intro y0 y1 y2 y3 y4
      unfold hustingslaw19_great.l0
      repeat' first
      | (with_reducible exact ih0 _ _ _ _ _)
      | (with_reducible exact LeO.refl _)
      | (with_reducible exact LeO.none _)
      | (with_reducible refine LeO.ite ?_ ?_)
      | (with_reducible refine LeO.bind ?_ (fun _ => ?_))
      | exact ih0 _ _ _ _ _
      | exact LeO.none _
      | refine LeO.ite ?_ ?_
      | refine LeO.bind ?_ (fun _ => ?_)
theorem hustingslaw19_great.mono : ∀ a0 a1 k, LeO (hustingslaw19_great.f k a0 a1) (hustingslaw19_great.f (k + 1) a0 a1) := by
  intro a0 a1 k
  have ih0 := hustingslaw19_great.mono_l k
  unfold hustingslaw19_great.f
  repeat' first
      | (with_reducible exact ih0 _ _ _ _ _)
      | (with_reducible exact LeO.refl _)
      | (with_reducible exact LeO.none _)
      | (with_reducible refine LeO.ite ?_ ?_)
      | (with_reducible refine LeO.bind ?_ (fun _ => ?_))
      | exact ih0 _ _ _ _ _
      | exact LeO.none _
      | refine LeO.ite ?_ ?_
      | refine LeO.bind ?_ (fun _ => ?_)
set_option maxHeartbeats 8000000 in
set_option maxRecDepth 100000 in
theorem hustingslaw19_great.calls (k : Nat) (a0 : ByteArray) (A1 : Option Addr) (c1 : Nat) (l1 : List (S49)) (r : Bool) (w : World) (hr1 : Kd.C k49 w A1 l1.length l1) (hc1 : l1.length ≤ c1) (h : hustingslaw19_great.f k a0 l1 = some r) :
    Calls Try.prog 22 #[.string a0, .slice A1 l1.length c1] w fun e w' => e = .returned (.bool r) ∧ Below w.heap.size w w' := by
  have hu49 := Try.underlying49
  have HR1 := Aside0.mk hr1
  have HC1 := Aside0.mk hc1
  clear hr1 hc1
  have HB := Aside0.mk (Below.refl w.heap.size w)
  have H : (hustingslaw19_great.l0 k l1 (a0.size : Int) l1 (l1.length : Int) 0) = some r := h
  clear h
  have H' := Aside0.mk H
  clear H
  go_enter Try.func22, Try.ntmps22
  go_wp2
  go_loopg [5, 12] k (fun kq v5 v12 w' => ∃ (x5_1 : Int) (x12_1 : Int), v5 = .int .i64 x5_1 ∧ v12 = .int .i64 x12_1 ∧ Aside0 (hustingslaw19_great.l0 kq l1 x5_1 l1 (l1.length : Int) x12_1 = some r) ∧ Aside0 (kq ≤ k) ∧ Aside0 (Below w.heap.size w w'))
  case atStart => exact ⟨((a0.size : Int)), (0), (by first | rfl | (simp; done) | (simp [*]; done)), (by first | rfl | (simp; done) | (simp [*]; done)), H', ⟨Nat.le_refl _⟩, ⟨by repeat (first | (with_reducible first | exact HB.out | apply below_alloc | apply pw_below_drewN | apply below_drew1) | exact HB.out)⟩⟩
  case round =>
    clear H'
    try clear c1
    try clear c2
    try clear p2
    obtain ⟨x5_1, x12_1, rfl, rfl, HA, HK1, HB⟩ := hrel
    cases gk with
    | zero => exact absurd HA.out (by simp [hustingslaw19_great.l0])
    | succ k1 =>
      have H := HA.out
      clear HA
      simp only [hustingslaw19_great.l0] at H
      by_cases c3 : x12_1 < (l1.length : Int)
      · rw [if_pos c3] at H
        have c3b0 : decide (x12_1 < (l1.length : Int)) = true := decide_eq_true c3
        clear c3
        by_cases c4 : 0 ≤ x12_1
        · rw [if_pos c4] at H
          have c4b0 : decide (0 ≤ x12_1) = true := decide_eq_true c4
          clear c4
          by_cases c5 : x12_1 < (l1.length : Int)
          · rw [if_pos c5] at H
            have c5b0 : decide (x12_1 < (l1.length : Int)) = true := decide_eq_true c5
            clear c5
            by_cases c6 : (wrap64 (x5_1 + (((rd_T49 l1 x12_1).f3).size : Int))) > 16384
            · rw [if_pos c6] at H
              have c6b0 : decide (16384 < (wrap64 (x5_1 + (((rd_T49 l1 x12_1).f3).size : Int)))) = true := decide_eq_true c6
              clear c6
              obtain rfl := Option.some.inj H
              have p22001 : 0 ≤ (x12_1 : Int) := of_decide_eq_true (by first | (with_reducible assumption) | assumption)
              have q22001 : x12_1 < (l1.length : Int) := of_decide_eq_true (by first | (with_reducible assumption) | assumption)
              obtain ⟨ad22001, e22001, hx22001_0, hx22001_1, hx22001_2, hx22001_3⟩ := at_T49 HR1.out x12_1 p22001 q22001
              cases e22001
              replace hx22001_0 := (HB.out.cell (World.block_lt_of_cell? w _ hx22001_0)).trans hx22001_0
              replace hx22001_1 := (HB.out.cell (World.block_lt_of_cell? w _ hx22001_1)).trans hx22001_1
              replace hx22001_2 := (HB.out.cell (World.block_lt_of_cell? w _ hx22001_2)).trans hx22001_2
              replace hx22001_3 := (HB.out.cell (World.block_lt_of_cell? w _ hx22001_3)).trans hx22001_3
              replace p22001 := eq_true p22001
              replace q22001 := eq_true q22001
              go_wp2_with (first | ((with_reducible refine gate_dst (N := 7) rfl ?_); refine box_event ?hg (N := 7) ?hd (cs := #[.int .i64 0, .int .i64 0, .int .i64 0, .string (⟨#[]⟩ : ByteArray)]) (t := 49) ?hr ?_; (case hd => rfl); (case hg => rfl); (case hr => first | (go_simp; done) | (go_simp; rfl)); intro gb22002 hg w7 hbox hb; have n0_ := Aside0.mk (below_step (by repeat (first | (with_reducible first | exact HB.out | apply below_alloc | apply pw_below_drewN | apply below_drew1) | exact HB.out)) hb); have n1_ := Aside0.mk (hbox); have n2_ := Aside0.mk ((by rw [hg]; exact (below_size (by repeat (first | (with_reducible first | exact HB.out | apply below_alloc | apply pw_below_drewN | apply below_drew1) | exact HB.out))) : w.heap.size ≤ gb22002)); have n3_ := Aside0.mk ((by rw [hg]; exact (below_size (by repeat (first | (with_reducible first | exact HB.out | apply below_alloc | apply pw_below_drewN | apply below_drew1) | exact HB.out))) : w.heap.size ≤ gb22002)); clear HB; have HB := n0_; have BK22002 := n1_; have GW22002 := n2_; have GE22002 := n3_; clear n0_ n1_ n2_ n3_; clear hb hbox hg; have hcz8_0 : w7.cell? ⟨gb22002, 0, none⟩ = some (.int .i64 0) := (blk_cell BK22002.out 0).trans rfl; have hcz8_1 : w7.cell? ⟨gb22002, 1, none⟩ = some (.int .i64 0) := (blk_cell BK22002.out 1).trans rfl; have hcz8_2 : w7.cell? ⟨gb22002, 2, none⟩ = some (.int .i64 0) := (blk_cell BK22002.out 2).trans rfl; have hcz8_3 : w7.cell? ⟨gb22002, 3, none⟩ = some (.string (⟨#[]⟩ : ByteArray)) := (blk_cell BK22002.out 3).trans rfl; have hfz8_0 := blk_frozen BK22002.out 0; have hfz8_1 := blk_frozen BK22002.out 1; have hfz8_2 := blk_frozen BK22002.out 2; have hfz8_3 := blk_frozen BK22002.out 3))
              go_ret
              exact ⟨by first | rfl | (simp [errW_none, errW_some] <;> rfl) | (simp [*, errW_none, errW_some] <;> rfl), by repeat (first | (with_reducible first | exact HB.out | apply below_alloc | apply pw_below_drewN | apply below_drew1 | refine below_set ?_ GE22002.out) | exact HB.out)⟩
            · rw [if_neg c6] at H
              have c6b0 : decide (16384 < (wrap64 (x5_1 + (((rd_T49 l1 x12_1).f3).size : Int)))) = false := decide_eq_false c6
              clear c6
              have H' := Aside0.mk H
              clear H
              have p22001 : 0 ≤ (x12_1 : Int) := of_decide_eq_true (by first | (with_reducible assumption) | assumption)
              have q22001 : x12_1 < (l1.length : Int) := of_decide_eq_true (by first | (with_reducible assumption) | assumption)
              obtain ⟨ad22001, e22001, hx22001_0, hx22001_1, hx22001_2, hx22001_3⟩ := at_T49 HR1.out x12_1 p22001 q22001
              cases e22001
              replace hx22001_0 := (HB.out.cell (World.block_lt_of_cell? w _ hx22001_0)).trans hx22001_0
              replace hx22001_1 := (HB.out.cell (World.block_lt_of_cell? w _ hx22001_1)).trans hx22001_1
              replace hx22001_2 := (HB.out.cell (World.block_lt_of_cell? w _ hx22001_2)).trans hx22001_2
              replace hx22001_3 := (HB.out.cell (World.block_lt_of_cell? w _ hx22001_3)).trans hx22001_3
              replace p22001 := eq_true p22001
              replace q22001 := eq_true q22001
              go_wp2_with (first | ((with_reducible refine gate_dst (N := 7) rfl ?_); refine box_event ?hg (N := 7) ?hd (cs := #[.int .i64 0, .int .i64 0, .int .i64 0, .string (⟨#[]⟩ : ByteArray)]) (t := 49) ?hr ?_; (case hd => rfl); (case hg => rfl); (case hr => first | (go_simp; done) | (go_simp; rfl)); intro gb22002 hg w9 hbox hb; have n0_ := Aside0.mk (below_step (by repeat (first | (with_reducible first | exact HB.out | apply below_alloc | apply pw_below_drewN | apply below_drew1) | exact HB.out)) hb); have n1_ := Aside0.mk (hbox); have n2_ := Aside0.mk ((by rw [hg]; exact (below_size (by repeat (first | (with_reducible first | exact HB.out | apply below_alloc | apply pw_below_drewN | apply below_drew1) | exact HB.out))) : w.heap.size ≤ gb22002)); have n3_ := Aside0.mk ((by rw [hg]; exact (below_size (by repeat (first | (with_reducible first | exact HB.out | apply below_alloc | apply pw_below_drewN | apply below_drew1) | exact HB.out))) : w.heap.size ≤ gb22002)); clear HB; have HB := n0_; have BK22002 := n1_; have GW22002 := n2_; have GE22002 := n3_; clear n0_ n1_ n2_ n3_; clear hb hbox hg; have hcz10_0 : w9.cell? ⟨gb22002, 0, none⟩ = some (.int .i64 0) := (blk_cell BK22002.out 0).trans rfl; have hcz10_1 : w9.cell? ⟨gb22002, 1, none⟩ = some (.int .i64 0) := (blk_cell BK22002.out 1).trans rfl; have hcz10_2 : w9.cell? ⟨gb22002, 2, none⟩ = some (.int .i64 0) := (blk_cell BK22002.out 2).trans rfl; have hcz10_3 : w9.cell? ⟨gb22002, 3, none⟩ = some (.string (⟨#[]⟩ : ByteArray)) := (blk_cell BK22002.out 3).trans rfl; have hfz10_0 := blk_frozen BK22002.out 0; have hfz10_1 := blk_frozen BK22002.out 1; have hfz10_2 := blk_frozen BK22002.out 2; have hfz10_3 := blk_frozen BK22002.out 3))
              go_roundg k1
              case measure => have := HK1.out; omega
              case rel => exact ⟨(wrap64 (x5_1 + (((rd_T49 l1 x12_1).f3).size : Int))), (wrap64 (x12_1 + 1)), (by first | rfl | (simp; done) | (simp [*]; done)), (by first | rfl | (simp; done) | (simp [*]; done)), H', ⟨by have := HK1.out; omega⟩, ⟨by repeat (first | (with_reducible first | exact HB.out | apply below_alloc | apply pw_below_drewN | apply below_drew1 | refine below_set ?_ GE22002.out) | exact HB.out)⟩⟩
          · rw [if_neg c5] at H
            exact absurd H (by simp)
        · rw [if_neg c4] at H
          exact absurd H (by simp)
      · rw [if_neg c3] at H
        have c3b0 : decide (x12_1 < (l1.length : Int)) = false := decide_eq_false c3
        clear c3
        by_cases c11 : (l1.length : Int) > 60
        · rw [if_pos c11] at H
          have c11b0 : decide (60 < (l1.length : Int)) = true := decide_eq_true c11
          have c11b1 : decide (60 < l1.length) = true := decide_eq_true (by omega)
          clear c11
          obtain rfl := Option.some.inj H
          go_wp2
          go_ret
          exact ⟨by first | rfl | (simp [errW_none, errW_some] <;> rfl) | (simp [*, errW_none, errW_some] <;> rfl), by repeat (first | (with_reducible first | exact HB.out | apply below_alloc | apply pw_below_drewN | apply below_drew1) | exact HB.out)⟩
        · rw [if_neg c11] at H
          have c11b0 : decide (60 < (l1.length : Int)) = false := decide_eq_false c11
          have c11b1 : decide (60 < l1.length) = false := decide_eq_false (by omega)
          clear c11
          obtain rfl := Option.some.inj H
          go_wp2
          go_ret
          exact ⟨by first | rfl | (simp [errW_none, errW_some] <;> rfl) | (simp [*, errW_none, errW_some] <;> rfl), by repeat (first | (with_reducible first | exact HB.out | apply below_alloc | apply pw_below_drewN | apply below_drew1) | exact HB.out)⟩
end Go.Proofs.Ytdleomeiojlooaa.P
end

section
namespace Go.Proofs.Ytdleomeiojlooaa.P
set_option linter.unusedVariables false
set_option linter.unusedSimpArgs false
open Go.RowKit Go.ChangeShapes Go.WideShapes Go.Proofs.YtdleomeiojlooaaW.PrintWords Go.Proofs.YtdleomeiojlooaaW.PrintLast Go.Proofs.YtdleomeiojlooaaW.PrintMore Go.Proofs.Ytdleomeiojlooaa.L
structure Sim (m : Sp) (d : Rp) : Prop where
  s_al : m.al = d.safe ++ d.waits
  s_sy : m.sy = d.safe.size
  s_off : m.off = !d.power
  s_acts : m.acts = d.acts
  s_inn : m.inn = d.inn
  s_keep : m.keep = d.keep
structure OKa (n : Nat) (m : Sp) : Prop where
  q_sy : m.sy ≤ m.al.size
  q_al : m.al.size ≤ 4194304
  q_ac : m.acts ≤ n
  q_in : m.inn < 9223372036854775808
theorem OKa.ok {n : Nat} {m : Sp} (h : OKa n m) (hn : n ≤ 1000000) : OKs m := ⟨h.q_sy, h.q_al, Nat.le_trans h.q_ac hn, h.q_in⟩
theorem OKa.up {n : Nat} {m : Sp} (h : OKa n m) : OKa (n + 1) m := ⟨h.q_sy, h.q_al, Nat.le_succ_of_le h.q_ac, h.q_in⟩
def onS (m : Sp) : Sp := { m with off := false }
def openS (m : Sp) (ls : List ByteArray) : Sp := { m with al := cat ls, sy := min m.sy (cat ls).size }
section
variable {m : Sp} {d : Rp} {n : Nat}
theorem ext_mid (a b : ByteArray) (j : Nat) : (a ++ b).extract 0 (a.size + j) = a ++ b.extract 0 j := by
  apply bl_inj
  rw [bl_extract, bl_append, bl_append, bl_extract, List.drop_zero, List.drop_zero, Nat.sub_zero, Nat.sub_zero, List.take_append, List.take_of_length_le (by rw [bl_len]; omega), bl_len, Nat.add_sub_cancel_left]
theorem ext_low (a b : ByteArray) (j : Nat) (h : j ≤ a.size) : (a ++ b).extract 0 j = a.extract 0 j := by
  apply bl_inj
  rw [bl_extract, bl_append, bl_extract, List.drop_zero, List.drop_zero, Nat.sub_zero, List.take_append, bl_len, show j - a.size = 0 by omega, List.take_zero, List.append_nil]
theorem ext_size (a : ByteArray) (j : Nat) (h : j ≤ a.size) : (a.extract 0 j).size = j := by rw [ByteArray.size_extract]; omega
def mOf (d : Rp) : Sp := ⟨d.safe ++ d.waits, d.safe.size, !d.power, d.acts, d.inn, d.keep⟩
theorem Sim.eq (h : Sim m d) : m = mOf d := by
  obtain ⟨al, sy, off, acts, inn, keep⟩ := m
  obtain ⟨h1, h2, h3, h4, h5, h6⟩ := h
  dsimp only at h1 h2 h3 h4 h5 h6
  subst h1; subst h2; subst h3; subst h4; subst h5; subst h6
  rfl
end
section
variable {w : World} {g : Nat} {m : Sp} {d : Rp} {n : Nat}
variable {ls rs : List ByteArray} {tl : ByteArray}
theorem openM_some (h : m.off = false) (ho : OKa n m) (hC : Cuts m.al ls tl) (hrec : recs ls = some rs) (hr : Row w g () 6 (spC m) TSp) : Calls Try.prog 10 #[.pointer (some ⟨g, 0, none⟩)] w fun e w' => (∃ A c, e = .returned (.tuple #[.slice A rs.length c, .int .i64 0]) ∧ TX w' w.heap.size (.slice A rs.length c) rs) ∧ Row w' g () 6 (spC (openS m ls)) TSp ∧ Fr ⟨w, [g]⟩ w' := by
  obtain ⟨al, sy, off, acts, inn, keep⟩ := m
  dsimp only at h
  subst h
  exact open_some hC ho.q_al hrec hr
end
theorem sumR_mem {x : ByteArray} : ∀ {l : List ByteArray}, x ∈ l → x.size ≤ sumR l
  | y :: r, h => by
    show _ ≤ y.size + sumR r
    rcases List.mem_cons.1 h with rfl | h
    · omega
    · have := sumR_mem h; omega
theorem sumR_step {l : List ByteArray} {i : Nat} {x : ByteArray} (h : l[i]? = some x) : sumR (l.take (i + 1)) = sumR (l.take i) + x.size := by rw [take_get h, sumR_snoc]
theorem catR_step {l : List ByteArray} {i : Nat} {x : ByteArray} (h : l[i]? = some x) : catR (l.take (i + 1)) = catR (l.take i) ++ lineS x := by rw [take_get h, catR_snoc]
theorem catR_take (l : List ByteArray) (i : Nat) : (catR (l.take i)).size ≤ 2 * sumR l + l.length := by
  have h1 := catR_le (l.take i)
  have h2 := sumR_take_le l i
  have h3 : (l.take i).length ≤ l.length := by rw [List.length_take]; omega
  omega
abbrev InS := InL Kd.string (fun x : ByteArray => x.size ≤ reach47)
theorem lit_range {z : Int} (h : (Lit.int .i64 z).wf = true) : -9223372036854775808 ≤ z ∧ z < 9223372036854775808 := by
  simp [Lit.wf, IntKind.min, IntKind.max, IntKind.bits, IntKind.signed] at h
  omega
end Go.Proofs.Ytdleomeiojlooaa.P
end
