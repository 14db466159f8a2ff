/- Merged of the texts: Uc, Ud, Ue, Uf, Vc, Ug, Uv, Uh, Ia, Ib, Ic, Id, Ie, If, WFour, WFootNe, WAt, WEqStruct, WInvWords, WGuard, G0 (trim.py). -/
import Derived.Lib.LaidTab
import Derived.LaidMore
import Derived.MakeChecks
import Derived.Test.YtlfplmlehbomlaaDoorRows
import Derived.Laws.OwnMore
import Derived.Deep.AppendSrc
import Derived.Below
import Derived.OwnWalk
import Derived.Tactics
import Derived.Laws.Slices
import Derived.WalkKit
import Derived.KernelRfl
import Derived.Deep.LoopGhost
import Derived.Deep.QuietTactic
import Derived.BigQuiet
import Derived.Deep.CutBlock
import Derived.Laws.BitsLemmas
import Derived.Laws.BitsAllLaws
import Derived.Laws.Rows
import Derived.Laws.NewBlocks
import Derived.RowKit
import Derived.Laws.IdiomCopy
import Derived.Deep.RegionHeld3
import Derived.ChangeKeysEq
import Derived.Laws.BytesArg
import Derived.Laws.StructEq
import Derived.Deep.RegionWith
import Derived.WideKeyArr2
import Derived.Lib.Mul64
import Derived.Laws.Externs
import Derived.ChangeSlices
import Derived.Test.YtlfplmlehbomlaaDoorProg
import Derived.Lib.Strings
import Derived.Outline
import Derived.Lib.OthersKept
import Derived.Lib.Bytealg
import Derived.WalkMore
import Derived.Laws.Runes
import Derived.Laws.RangeAny
import Derived.Deep.Draws
import Derived.Deep.AppendLies
import Derived.Maps.AppendAt
import Derived.Laws.MakeOwn
import Derived.Deep.OwnRows
import Derived.Lib.ConvBytes
import Derived.RowKit3
import Derived.WideLaws
import Derived.Deep.DeepCutAuto
import Derived.Lib.AppendStr
import Derived.ArgAppend
import Derived.OrdersHeld
import Derived.Test.YtlfplmlehbomlaaDoorYa1
section
namespace Go.Proofs.YtlfplmlehbomlaaDoor.P
set_option linter.unusedVariables false
set_option linter.unusedSimpArgs false
open Go.RowKit Go.ChangeShapes Go.WideShapes Go.Proofs.YtlfplmlehbomlaaDoorW.PrintWords Go.Proofs.YtlfplmlehbomlaaDoorW.PrintLast Go.Proofs.YtlfplmlehbomlaaDoorW.PrintMore
theorem at6e {w : World} {a : Addr} {o : Nat} {t : T} (hv : At6 w a o t) : ∀ j, j < 6 → w.cell? ((a.add o).add j) = some (mkc () (t.sc j)) := by
  intro j hj
  rw [Go.Deep.add_add]
  exact hv j hj
theorem iterW_stop {f : Nat → Int → Int} {n k : Nat} {l : Int} (h : ¬ 0 ≤ l) : iterW f n k l = l := by
  cases k with
  | zero => rfl
  | succ k => unfold iterW; rw [if_neg h]
theorem iterW_step {f : Nat → Int → Int} {n i : Nat} {l : Int} (hi : i < n) (h : 0 ≤ l) : iterW f n (n - i) l = iterW f n (n - (i + 1)) (f i l) := by
  have e : n - i = (n - (i + 1)) + 1 := by omega
  rw [e]
  show (if 0 ≤ l then iterW f n (n - (i + 1)) (f (n - (n - (i + 1) + 1)) l) else l) = _
  rw [if_pos h, show n - (n - (i + 1) + 1) = i by omega]
theorem T.rec2 {Q : T → Prop} (h : ∀ t : T, (∀ i, i < t.ml → Q (t.mem i)) → (∀ i, i < t.ll → Q (t.elm i)) → Q t) : ∀ t, Q t := by
  intro t
  induction t with
  | no => exact h .no (fun i hi => absurd hi (Nat.not_lt_zero _)) (fun i hi => absurd hi (Nat.not_lt_zero _))
  | mk k is n s xl ll cl L xm ml cm K M ihL ihM => exact h _ (fun i _ => ihM i) (fun i _ => ihL i)
def pM (t : T) (i : Nat) : Bool := upB t.key i && risesB (t.mem i)
theorem rises_no1 {w : World} {t : T} {i : Nat} (h : In w t) (hi : i < t.ml) (hp : pM t i = false) : Ending.returned (.bool false) = .returned (.bool (risesB t)) := by
  rw [risesB_eq h, allB_no (p := fun i => upB t.key i && risesB (t.mem i)) hi hp]; rfl
theorem rises_no2 {w : World} {t : T} {i : Nat} (h : In w t) (h1 : allB (pM t) t.ml = true) (hi : i < t.ll) (hp : risesB (t.elm i) = false) : Ending.returned (.bool false) = .returned (.bool (risesB t)) := by
  rw [risesB_eq h, allB_no (p := fun i => risesB (t.elm i)) hi hp, Bool.and_false]
theorem rises_yes {w : World} {t : T} (h : In w t) (h1 : allB (pM t) t.ml = true) (h2 : allB (fun i => risesB (t.elm i)) t.ll = true) : Ending.returned (.bool true) = .returned (.bool (risesB t)) := by
  have h1 : allB (fun i => upB t.key i && risesB (t.mem i)) t.ml = true := h1
  rw [risesB_eq h, h1, h2]; rfl
theorem allB_step {p : Nat → Bool} {i : Nat} (h : allB p i = true) (h2 : p i = true) : allB p (i + 1) = true := by
  show (allB p i && p i) = true
  rw [h, h2]; rfl
theorem pM_first {t : T} {i : Nat} {b : Bool} (h : decide ((0 : Int) < (i : Int)) = false) (h2 : risesB (t.mem i) = b) : pM t i = b := by
  have e : i = 0 := by have := of_decide_eq_false h; omega
  subst e
  unfold pM upB; rw [h2]; rfl
theorem pM_next {t : T} {i : Nat} {b : Bool} (h : decide ((0 : Int) < (i : Int)) = true) (hc : (!decide (cmpB (bl ((t).key (i - 1))) (bl ((t).key (i))) < 0)) = false) (h2 : risesB (t.mem i) = b) : pM t i = b := by
  have e : i ≠ 0 := by have := of_decide_eq_true h; omega
  unfold pM upB; rw [h2]
  have hc : decide (cmpB (bl (t.key (i - 1))) (bl (t.key i)) < 0) = true := by simpa using hc
  rw [hc]; simp
theorem pM_bad {t : T} {i : Nat} (h : decide ((0 : Int) < (i : Int)) = true) (hc : (!decide (cmpB (bl ((t).key (i - 1))) (bl ((t).key (i))) < 0)) = true) : pM t i = false := by
  have e : i ≠ 0 := by have := of_decide_eq_true h; omega
  have hc : decide (cmpB (bl (t.key (i - 1))) (bl (t.key i)) < 0) = false := by simpa using hc
  unfold pM upB
  rw [hc]
  simp [e]
theorem tabris_4 : rtab .any (opsOf Tryd.f14 4) = (true, [([], []), ([0], [0]), ([1], [1]), ([2], [2]), ([3, 2], [2, 3]), ([2], [2]), ([5, 2], [2, 5]), ([4, 6, 2], [2, 4, 6]), ([7, 2], [2, 7]), ([8, 2], [2, 8]), ([2], [2]), ([10, 2], [2, 10]), ([9, 11, 2], [2, 9, 11]), ([2, 12], [2, 12]), ([13, 2], [13]), ([14], [14]), ([15, 14], [14, 15]), ([16, 14, 14], [14, 16]), ([17, 14], [14, 17]), ([14, 18], [14, 18])]) := by kernel_rfl
theorem bitsris_4 : waitsOk [([], []), ([0], [0]), ([1], [1]), ([2], [2]), ([3, 2], [2, 3]), ([2], [2]), ([5, 2], [2, 5]), ([4, 6, 2], [2, 4, 6]), ([7, 2], [2, 7]), ([8, 2], [2, 8]), ([2], [2]), ([10, 2], [2, 10]), ([9, 11, 2], [2, 9, 11]), ([2, 12], [2, 12]), ([13, 2], [13]), ([14], [14]), ([15, 14], [14, 15]), ([16, 14, 14], [14, 16]), ([17, 14], [14, 17]), ([14, 18], [14, 18])] [0, 1, 3, 7, 15, 7, 39, 127, 255, 511, 7, 1031, 4095, 8191, 16383, 32767, 65535, 131071, 262143, 524287] = true := by kernel_rfl
theorem rises_step {w : World} {t : T} (hIn : In w t) (ihM : ∀ i, i < t.ml → ∀ w, In w (t.mem i) → Calls Tryd.prog 14 #[(t.mem i).val] w fun e w' => e = .returned (.bool (risesB (t.mem i))) ∧ Below w.heap.size w w') (ihL : ∀ i, i < t.ll → ∀ w, In w (t.elm i) → Calls Tryd.prog 14 #[(t.elm i).val] w fun e w' => e = .returned (.bool (risesB (t.elm i))) ∧ Below w.heap.size w w') : Calls Tryd.prog 14 #[.agg (FR () 6 ((t).sc))] w fun e w' => e = .returned (.bool (risesB t)) ∧ Below w.heap.size w w' := by
  have hb47 := hIn.own.2.2.2.2.1
  have hb48 := hIn.own.2.2.2.1
  unfold reach47 at hb47 hb48
  refine enter_ 47 Tryd.func14 rfl rfl (fun a0 hS => ?_)
  have HS0 : Sl a0 47 [(0, .agg (FR () 6 ((t).sc)))] := hS
  have HH0 : Held w w [] := Held.first w
  clear hS
  refine wp_seq ?_
  have hLo : LOk [(0, 1, .new 0 (fun g => .pointer (some ⟨g, 0, none⟩))), (1, 2, .val (.bool false))] := lok (by rfl) (by rfl)
  refine zK (wE := w) (sz := 47) (n := 2) [0, 1] [(0, .val (.agg (FR () 6 ((t).sc)))), (1, .new 0 (fun g => .pointer (some ⟨g, 0, none⟩))), (2, .val (.bool false))] [(0, 1, .new 0 (fun g => .pointer (some ⟨g, 0, none⟩))), (1, 2, .val (.bool false))] [⟨0, some 0, none, (), 6, (t).sc, (t).sc, 25⟩] rfl (by rfl) HH0 rfl rfl hLo rfl HS0 (slS 0 rfl rfl (slL 0 (d := 0) rfl (slL 1 (d := 1) rfl (trivial)))) ?_ ?_
  · show ∀ i ∈ [0, 1], _
    refine zA (st_alloc 0 0 () 6 25 none _ _ rfl rfl (fun _ _ _ _ => rfl) rfl hLo rfl rfl rfl rfl (by rfl) (fun b G w hb ho => exec_box rfl (zG rfl (HS0.get 0 rfl)) (by kernel_rfl))) ?_
    refine zA (zC 1 _ rfl rfl hLo rfl rfl (fun _ _ _ _ => rfl) (fun b G w hb ho => zD (.inr rfl) (rfl))) ?_
    exact zF
  clear hLo
  intro G a1 w1 hS hH
  have HS1 : Sl a1 47 [(0, .agg (FR () 6 ((t).sc))), (1, .pointer (some ⟨(G 0), 0, none⟩)), (2, .bool false)] := hS
  have HH1 : Held w w1 [⟨(G 0), (), 6, (t).sc, 25⟩] := hH
  clear hS hH HS0 HH0
  generalize G 0 = g1_0 at HS1 HH1
  refine then_ ?_
  refine wp_seq ?_
  refine wp_seq ?_
  have hLo : LOk [(0, 7, .val (.pointer (some ⟨g1_0, 5, none⟩))), (1, 8, .val (.slice ((t).xm) ((t).ml) ((t).cm))), (2, 9, .val (.int .i64 (((t).ml : Int)))), (3, 10, .val (.int .i64 (0)))] := lok (by rfl) (by rfl)
  refine zK (wE := w) (sz := 47) (n := 4) [0, 1, 3, 7] [(0, .val (.agg (FR () 6 ((t).sc)))), (1, .val (.pointer (some ⟨g1_0, 0, none⟩))), (2, .val (.bool false)), (8, .val (.slice ((t).xm) ((t).ml) ((t).cm))), (9, .val (.int .i64 (((t).ml : Int)))), (10, .val (.int .i64 (0)))] [(0, 7, .val (.pointer (some ⟨g1_0, 5, none⟩))), (1, 8, .val (.slice ((t).xm) ((t).ml) ((t).cm))), (2, 9, .val (.int .i64 (((t).ml : Int)))), (3, 10, .val (.int .i64 (0)))] [⟨g1_0, none, none, (), 6, (t).sc, (t).sc, 25⟩] rfl (by rfl) HH1 rfl rfl hLo rfl HS1 (slS 0 rfl rfl (slS 1 rfl rfl (slS 2 rfl rfl (slL 1 (d := 1) rfl (slL 2 (d := 2) rfl (slL 3 (d := 3) rfl (trivial))))))) ?_ ?_
  · show ∀ i ∈ [0, 1, 2, 3], _
    refine zA (zC 0 _ rfl rfl hLo rfl rfl (fun _ _ _ _ => rfl) (fun b G w hb ho => zH rfl (zG rfl (HS1.get 1 rfl)) (by kernel_rfl))) ?_
    refine zA (zW 1 0 _ _ rfl rfl rfl hLo rfl rfl (fun _ _ _ _ => rfl) (by rfl) (by rfl) (fun b G w hb ho hr => zP hr (Nat.le_of_ble_eq_true rfl) Tryd.underlying23 rfl rfl (zB hLo 0 rfl HS1.1 rfl (hb 0 (by rfl))))) ?_
    refine zA (zC 2 _ rfl rfl hLo rfl rfl (fun _ _ _ _ => rfl) (fun b G w hb ho => exec_lenL Tryd.underlying23 rfl (zB hLo 1 rfl HS1.1 rfl (hb 1 (by rfl))))) ?_
    refine zA (zC 3 _ rfl rfl hLo rfl rfl (fun _ _ _ _ => rfl) (fun b G w hb ho => zD (.inl rfl) (rfl))) ?_
    exact zF
  clear hLo
  intro G a2 w2 hS hH
  have HS2 : Sl a2 47 [(0, .agg (FR () 6 ((t).sc))), (1, .pointer (some ⟨g1_0, 0, none⟩)), (2, .bool false), (8, .slice ((t).xm) ((t).ml) ((t).cm)), (9, .int .i64 (((t).ml : Int))), (10, .int .i64 (0))] := hS
  have HH2 : Held w w2 [⟨g1_0, (), 6, (t).sc, 25⟩] := hH
  clear hS hH HS1 HH1
  refine then_ ?_
  refine wp_block ?_
  have hSq0 : Sl _ 47 [(0, .agg (FR () 6 ((t).sc))), (1, .pointer (some ⟨g1_0, 0, none⟩)), (8, .slice ((t).xm) ((t).ml) ((t).cm)), (9, .int .i64 (((t).ml : Int))), (10, .int .i64 (0))] := sl_keep HS2 [0, 1, 3, 4, 5] (by rfl)
  refine wp_loop (fun a w' => ∃ i : Nat, i ≤ t.ml ∧ allB (pM t) i = true ∧ Sl a 47 [(0, .agg (FR () 6 ((t).sc))), (1, .pointer (some ⟨g1_0, 0, none⟩)), (8, .slice ((t).xm) ((t).ml) ((t).cm)), (9, .int .i64 (((t).ml : Int))), (10, .int .i64 ((i : Int)))] ∧ Held w w' [⟨g1_0, (), 6, (t).sc, 25⟩]) (fun a w' => t.ml - (intOf (a.eval (.tmp 10))).toNat) ⟨0, Nat.zero_le _, rfl, hSq0, HH2⟩ ?_
  clear hSq0 HS2 HH2
  rintro aq0 wq0 ⟨i, hlei, hpi, HSq0, HHq0⟩
  have hm : (intOf (aq0.eval (.tmp 10))).toNat = i := by rw [(HSq0.get 4 rfl)]; rfl
  rw [hm]
  clear hm
  obtain ⟨r1, hr1⟩ : ∃ r : Bool, (decide (((i : Int) : Int) < ((t).ml : Int))) = r := ⟨_, rfl⟩
  refine wp_seq ?_
  have hLo : LOk [(0, 11, .val (.bool r1))] := lok (by rfl) (by rfl)
  refine zK (wE := w) (sz := 47) (n := 1) [0] [(0, .val (.agg (FR () 6 ((t).sc)))), (1, .val (.pointer (some ⟨g1_0, 0, none⟩))), (8, .val (.slice ((t).xm) ((t).ml) ((t).cm))), (9, .val (.int .i64 (((t).ml : Int)))), (10, .val (.int .i64 ((i : Int)))), (11, .val (.bool r1))] [(0, 11, .val (.bool r1))] [⟨g1_0, none, none, (), 6, (t).sc, (t).sc, 25⟩] rfl (by rfl) HHq0 rfl rfl hLo rfl HSq0 (slS 0 rfl rfl (slS 1 rfl rfl (slS 2 rfl rfl (slS 3 rfl rfl (slS 4 rfl rfl (slL 0 (d := 0) rfl (trivial))))))) ?_ ?_
  · show ∀ i ∈ [0], _
    refine zA (zC 0 _ rfl rfl hLo rfl rfl (fun _ _ _ _ => rfl) (fun b G w hb ho => zJ rfl (zG rfl (HSq0.get 4 rfl)) (zG rfl (HSq0.get 3 rfl)) (rb_lss hr1 _ _ _))) ?_
    exact zF
  clear hLo
  intro G a3 w3 hS hH
  have HS3 : Sl a3 47 [(0, .agg (FR () 6 ((t).sc))), (1, .pointer (some ⟨g1_0, 0, none⟩)), (8, .slice ((t).xm) ((t).ml) ((t).cm)), (9, .int .i64 (((t).ml : Int))), (10, .int .i64 ((i : Int))), (11, .bool r1)] := hS
  have HH3 : Held w w3 [⟨g1_0, (), 6, (t).sc, 25⟩] := hH
  clear hS hH HSq0 HHq0
  refine then_ ?_
  refine wp_seq ?_
  cases r1
  · skip
    have hpi : allB (pM t) t.ml = true := by have hq := of_decide_eq_false hr1; rw [show t.ml = i by omega]; exact hpi
    refine wp_cond_false (HS3.get 5 rfl) ?_
    refine wp_exit ?_
    refine zV ?_
    refine zV ?_
    refine inBlock_exit ?_
    refine then_ ?_
    refine wp_seq ?_
    refine wp_seq ?_
    have hLo : LOk [(0, 36, .val (.pointer (some ⟨g1_0, 4, none⟩))), (1, 37, .val (.slice ((t).xl) ((t).ll) ((t).cl))), (2, 38, .val (.int .i64 (((t).ll : Int)))), (3, 39, .val (.int .i64 (0)))] := lok (by rfl) (by rfl)
    refine zK (wE := w) (sz := 47) (n := 4) [0, 1, 3, 7] [(0, .val (.agg (FR () 6 ((t).sc)))), (1, .val (.pointer (some ⟨g1_0, 0, none⟩))), (8, .val (.slice ((t).xm) ((t).ml) ((t).cm))), (9, .val (.int .i64 (((t).ml : Int)))), (10, .val (.int .i64 ((i : Int)))), (11, .val (.bool false)), (37, .val (.slice ((t).xl) ((t).ll) ((t).cl))), (38, .val (.int .i64 (((t).ll : Int)))), (39, .val (.int .i64 (0)))] [(0, 36, .val (.pointer (some ⟨g1_0, 4, none⟩))), (1, 37, .val (.slice ((t).xl) ((t).ll) ((t).cl))), (2, 38, .val (.int .i64 (((t).ll : Int)))), (3, 39, .val (.int .i64 (0)))] [⟨g1_0, none, none, (), 6, (t).sc, (t).sc, 25⟩] rfl (by rfl) HH3 rfl rfl hLo rfl HS3 (slS 0 rfl rfl (slS 1 rfl rfl (slS 2 rfl rfl (slS 3 rfl rfl (slS 4 rfl rfl (slS 5 rfl rfl (slL 1 (d := 1) rfl (slL 2 (d := 2) rfl (slL 3 (d := 3) rfl (trivial)))))))))) ?_ ?_
    · show ∀ i ∈ [0, 1, 2, 3], _
      refine zA (zC 0 _ rfl rfl hLo rfl rfl (fun _ _ _ _ => rfl) (fun b G w hb ho => zH rfl (zG rfl (HS3.get 1 rfl)) (by kernel_rfl))) ?_
      refine zA (zW 1 0 _ _ rfl rfl rfl hLo rfl rfl (fun _ _ _ _ => rfl) (by rfl) (by rfl) (fun b G w hb ho hr => zP hr (Nat.le_of_ble_eq_true rfl) Tryd.underlying22 rfl rfl (zB hLo 0 rfl HS3.1 rfl (hb 0 (by rfl))))) ?_
      refine zA (zC 2 _ rfl rfl hLo rfl rfl (fun _ _ _ _ => rfl) (fun b G w hb ho => exec_lenL Tryd.underlying22 rfl (zB hLo 1 rfl HS3.1 rfl (hb 1 (by rfl))))) ?_
      refine zA (zC 3 _ rfl rfl hLo rfl rfl (fun _ _ _ _ => rfl) (fun b G w hb ho => zD (.inl rfl) (rfl))) ?_
      exact zF
    clear hLo
    intro G a4 w4 hS hH
    have HS4 : Sl a4 47 [(0, .agg (FR () 6 ((t).sc))), (1, .pointer (some ⟨g1_0, 0, none⟩)), (8, .slice ((t).xm) ((t).ml) ((t).cm)), (9, .int .i64 (((t).ml : Int))), (10, .int .i64 ((i : Int))), (11, .bool false), (37, .slice ((t).xl) ((t).ll) ((t).cl)), (38, .int .i64 (((t).ll : Int))), (39, .int .i64 (0))] := hS
    have HH4 : Held w w4 [⟨g1_0, (), 6, (t).sc, 25⟩] := hH
    clear hS hH HS3 HH3
    refine then_ ?_
    refine wp_block ?_
    have hSq1 : Sl _ 47 [(0, .agg (FR () 6 ((t).sc))), (1, .pointer (some ⟨g1_0, 0, none⟩)), (8, .slice ((t).xm) ((t).ml) ((t).cm)), (9, .int .i64 (((t).ml : Int))), (10, .int .i64 ((i : Int))), (11, .bool false), (37, .slice ((t).xl) ((t).ll) ((t).cl)), (38, .int .i64 (((t).ll : Int))), (39, .int .i64 (0))] := sl_keep HS4 [0, 1, 2, 3, 4, 5, 6, 7, 8] (by rfl)
    refine wp_loop (fun a w' => ∃ k : Nat, k ≤ t.ll ∧ allB (fun i => risesB (t.elm i)) k = true ∧ Sl a 47 [(0, .agg (FR () 6 ((t).sc))), (1, .pointer (some ⟨g1_0, 0, none⟩)), (8, .slice ((t).xm) ((t).ml) ((t).cm)), (9, .int .i64 (((t).ml : Int))), (10, .int .i64 ((i : Int))), (11, .bool false), (37, .slice ((t).xl) ((t).ll) ((t).cl)), (38, .int .i64 (((t).ll : Int))), (39, .int .i64 ((k : Int)))] ∧ Held w w' [⟨g1_0, (), 6, (t).sc, 25⟩]) (fun a w' => t.ll - (intOf (a.eval (.tmp 39))).toNat) ⟨0, Nat.zero_le _, rfl, hSq1, HH4⟩ ?_
    clear hSq1 HS4 HH4
    rintro aq1 wq1 ⟨k, hlek, hpk, HSq1, HHq1⟩
    have hm : (intOf (aq1.eval (.tmp 39))).toNat = k := by rw [(HSq1.get 8 rfl)]; rfl
    rw [hm]
    clear hm
    obtain ⟨r2, hr2⟩ : ∃ r : Bool, (decide (((k : Int) : Int) < ((t).ll : Int))) = r := ⟨_, rfl⟩
    refine wp_seq ?_
    have hLo : LOk [(0, 40, .val (.bool r2))] := lok (by rfl) (by rfl)
    refine zK (wE := w) (sz := 47) (n := 1) [0] [(0, .val (.agg (FR () 6 ((t).sc)))), (1, .val (.pointer (some ⟨g1_0, 0, none⟩))), (8, .val (.slice ((t).xm) ((t).ml) ((t).cm))), (9, .val (.int .i64 (((t).ml : Int)))), (10, .val (.int .i64 ((i : Int)))), (11, .val (.bool false)), (37, .val (.slice ((t).xl) ((t).ll) ((t).cl))), (38, .val (.int .i64 (((t).ll : Int)))), (39, .val (.int .i64 ((k : Int)))), (40, .val (.bool r2))] [(0, 40, .val (.bool r2))] [⟨g1_0, none, none, (), 6, (t).sc, (t).sc, 25⟩] rfl (by rfl) HHq1 rfl rfl hLo rfl HSq1 (slS 0 rfl rfl (slS 1 rfl rfl (slS 2 rfl rfl (slS 3 rfl rfl (slS 4 rfl rfl (slS 5 rfl rfl (slS 6 rfl rfl (slS 7 rfl rfl (slS 8 rfl rfl (slL 0 (d := 0) rfl (trivial))))))))))) ?_ ?_
    · show ∀ i ∈ [0], _
      refine zA (zC 0 _ rfl rfl hLo rfl rfl (fun _ _ _ _ => rfl) (fun b G w hb ho => zJ rfl (zG rfl (HSq1.get 8 rfl)) (zG rfl (HSq1.get 7 rfl)) (rb_lss hr2 _ _ _))) ?_
      exact zF
    clear hLo
    intro G a5 w5 hS hH
    have HS5 : Sl a5 47 [(0, .agg (FR () 6 ((t).sc))), (1, .pointer (some ⟨g1_0, 0, none⟩)), (8, .slice ((t).xm) ((t).ml) ((t).cm)), (9, .int .i64 (((t).ml : Int))), (10, .int .i64 ((i : Int))), (11, .bool false), (37, .slice ((t).xl) ((t).ll) ((t).cl)), (38, .int .i64 (((t).ll : Int))), (39, .int .i64 ((k : Int))), (40, .bool r2)] := hS
    have HH5 : Held w w5 [⟨g1_0, (), 6, (t).sc, 25⟩] := hH
    clear hS hH HSq1 HHq1
    refine then_ ?_
    refine wp_seq ?_
    cases r2
    · skip
      have hpk : allB (fun i => risesB (t.elm i)) t.ll = true := by have hq := of_decide_eq_false hr2; rw [show t.ll = k by omega]; exact hpk
      refine wp_cond_false (HS5.get 9 rfl) ?_
      refine wp_exit ?_
      refine zV ?_
      refine zV ?_
      refine inBlock_exit ?_
      refine then_ ?_
      refine wp_seq ?_
      have hLo : LOk [(0, 2, .val (.bool true))] := lok (by rfl) (by rfl)
      refine zK (wE := w) (sz := 47) (n := 1) [0] [(0, .val (.agg (FR () 6 ((t).sc)))), (1, .val (.pointer (some ⟨g1_0, 0, none⟩))), (8, .val (.slice ((t).xm) ((t).ml) ((t).cm))), (9, .val (.int .i64 (((t).ml : Int)))), (10, .val (.int .i64 ((i : Int)))), (11, .val (.bool false)), (37, .val (.slice ((t).xl) ((t).ll) ((t).cl))), (38, .val (.int .i64 (((t).ll : Int)))), (39, .val (.int .i64 ((k : Int)))), (40, .val (.bool false)), (2, .val (.bool true))] [(0, 2, .val (.bool true))] [⟨g1_0, none, none, (), 6, (t).sc, (t).sc, 25⟩] rfl (by rfl) HH5 rfl rfl hLo rfl HS5 (slS 0 rfl rfl (slS 1 rfl rfl (slS 2 rfl rfl (slS 3 rfl rfl (slS 4 rfl rfl (slS 5 rfl rfl (slS 6 rfl rfl (slS 7 rfl rfl (slS 8 rfl rfl (slS 9 rfl rfl (slL 0 (d := 0) rfl (trivial)))))))))))) ?_ ?_
      · show ∀ i ∈ [0], _
        refine zA (zC 0 _ rfl rfl hLo rfl rfl (fun _ _ _ _ => rfl) (fun b G w hb ho => zD (.inr rfl) (rfl))) ?_
        exact zF
      clear hLo
      intro G a6 w6 hS hH
      have HS6 : Sl a6 47 [(0, .agg (FR () 6 ((t).sc))), (1, .pointer (some ⟨g1_0, 0, none⟩)), (8, .slice ((t).xm) ((t).ml) ((t).cm)), (9, .int .i64 (((t).ml : Int))), (10, .int .i64 ((i : Int))), (11, .bool false), (37, .slice ((t).xl) ((t).ll) ((t).cl)), (38, .int .i64 (((t).ll : Int))), (39, .int .i64 ((k : Int))), (40, .bool false), (2, .bool true)] := hS
      have HH6 : Held w w6 [⟨g1_0, (), 6, (t).sc, 25⟩] := hH
      clear hS hH HS5 HH5
      refine then_ ?_
      refine wp_ret ?_
      repeat (first | refine zS ?_ | refine zM ?_)
      exact b_tmp rfl HS6.2.1 (HS6.get 10 rfl) ⟨rises_yes hIn hpi hpk, HH6.1⟩
    · skip
      have hltk : k < t.ll := by have := of_decide_eq_true hr2; omega
      refine wp_cond_true (HS5.get 9 rfl) ?_
      refine wp_skip ?_
      refine then_ ?_
      refine wp_seq ?_
      refine wp_block ?_
      obtain ⟨⟨a1, hx1, hv1⟩, hn1⟩ := (hIn).elms (i := k) (by omega)
      refine wp_seq ?_
      have hLo : LOk [(0, 41, .val (.pointer (some (a1.add ((k) * 6))))), (1, 42, .val (.agg (FR () 6 (((t).elm (k)).sc)))), (2, 6, .new 2 (fun g => .pointer (some ⟨g, 0, none⟩)))] := lok (by rfl) (by rfl)
      refine zK (wE := w) (sz := 47) (n := 4) [0, 1, 3, 7] [(0, .val (.agg (FR () 6 ((t).sc)))), (1, .val (.pointer (some ⟨g1_0, 0, none⟩))), (8, .val (.slice ((t).xm) ((t).ml) ((t).cm))), (9, .val (.int .i64 (((t).ml : Int)))), (10, .val (.int .i64 ((i : Int)))), (11, .val (.bool false)), (37, .val (.slice ((t).xl) ((t).ll) ((t).cl))), (38, .val (.int .i64 (((t).ll : Int)))), (39, .val (.int .i64 ((k : Int)))), (40, .val (.bool true)), (6, .new 2 (fun g => .pointer (some ⟨g, 0, none⟩)))] [(0, 41, .val (.pointer (some (a1.add ((k) * 6))))), (1, 42, .val (.agg (FR () 6 (((t).elm (k)).sc)))), (2, 6, .new 2 (fun g => .pointer (some ⟨g, 0, none⟩)))] [⟨g1_0, none, none, (), 6, (t).sc, (t).sc, 25⟩, ⟨0, some 2, some 3, (), 6, lsc [.i .i64 (0), .b (false), .i .i64 (0), .s (ByteArray.empty), .sl (none) (0) (0), .sl (none) (0) (0)], ((t).elm (k)).sc, 25⟩] rfl (by rfl) HH5 rfl rfl hLo rfl HS5 (slS 0 rfl rfl (slS 1 rfl rfl (slS 2 rfl rfl (slS 3 rfl rfl (slS 4 rfl rfl (slS 5 rfl rfl (slS 6 rfl rfl (slS 7 rfl rfl (slS 8 rfl rfl (slS 9 rfl rfl (slL 2 (d := 2) rfl (trivial)))))))))))) ?_ ?_
      · show ∀ i ∈ [0, 1, 2, 3], _
        refine zA (zC 0 _ rfl rfl hLo rfl rfl (fun _ _ _ _ => rfl) (fun b G w hb ho => zU rfl (zG rfl (HS5.get 6 rfl)) (zG rfl (HS5.get 8 rfl)) (index_sl Tryd.underlying22 (by kernel_rfl) hx1 (by omega) _))) ?_
        refine zA (st_at 1 (a1.add ((k) * 6)) rfl rfl rfl (fun _ _ _ _ => rfl) hLo rfl rfl Tryd.underlying25 (by kernel_rfl) rfl (at6e hv1) (fun b G hb ho => zB hLo 0 rfl HS5.1 rfl (hb 0 (by rfl)))) ?_
        refine zA (st_alloc 2 1 () 6 25 (some 3) _ _ rfl rfl (fun _ _ _ _ => rfl) rfl hLo rfl rfl rfl rfl (by rfl) (fun b G w _ _ => by kernel_rfl)) ?_
        refine zA (st_store 1 _ rfl rfl rfl rfl rfl (fun _ _ _ _ => rfl) rfl rfl rfl (by rfl) (by kernel_rfl) (fun b G hb ho => zB hLo 2 rfl HS5.1 rfl (hb 2 (by rfl))) (fun b G hb ho => zB hLo 1 rfl HS5.1 rfl (hb 1 (by rfl)))) ?_
        exact zF
      clear hLo
      intro G a7 w7 hS hH
      have HS7 : Sl a7 47 [(0, .agg (FR () 6 ((t).sc))), (1, .pointer (some ⟨g1_0, 0, none⟩)), (8, .slice ((t).xm) ((t).ml) ((t).cm)), (9, .int .i64 (((t).ml : Int))), (10, .int .i64 ((i : Int))), (11, .bool false), (37, .slice ((t).xl) ((t).ll) ((t).cl)), (38, .int .i64 (((t).ll : Int))), (39, .int .i64 ((k : Int))), (40, .bool true), (6, .pointer (some ⟨(G 2), 0, none⟩))] := hS
      have HH7 : Held w w7 [⟨g1_0, (), 6, (t).sc, 25⟩, ⟨(G 2), (), 6, ((t).elm (k)).sc, 25⟩] := hH
      clear hS hH HS5 HH5
      generalize G 2 = g7_2 at HS7 HH7
      refine then_ ?_
      obtain ⟨r3, hr3⟩ : ∃ r : Bool, (risesB (t.elm k)) = r := ⟨_, rfl⟩
      refine wp_seq ?_
      have hLo : LOk [(0, 43, .val (.agg (FR () 6 (((t).elm (k)).sc)))), (1, 44, .val (.bool r3)), (2, 45, .val (.bool (!r3)))] := lok (by rfl) (by rfl)
      refine zK (wE := w) (sz := 47) (n := 3) [0, 1, 3] [(0, .val (.agg (FR () 6 ((t).sc)))), (1, .val (.pointer (some ⟨g1_0, 0, none⟩))), (8, .val (.slice ((t).xm) ((t).ml) ((t).cm))), (9, .val (.int .i64 (((t).ml : Int)))), (10, .val (.int .i64 ((i : Int)))), (11, .val (.bool false)), (37, .val (.slice ((t).xl) ((t).ll) ((t).cl))), (38, .val (.int .i64 (((t).ll : Int)))), (39, .val (.int .i64 ((k : Int)))), (40, .val (.bool true)), (6, .val (.pointer (some ⟨g7_2, 0, none⟩))), (45, .val (.bool (!r3)))] [(0, 43, .val (.agg (FR () 6 (((t).elm (k)).sc)))), (1, 44, .val (.bool r3)), (2, 45, .val (.bool (!r3)))] [⟨g1_0, none, none, (), 6, (t).sc, (t).sc, 25⟩, ⟨g7_2, none, none, (), 6, ((t).elm (k)).sc, ((t).elm (k)).sc, 25⟩] rfl (by rfl) HH7 rfl rfl hLo rfl HS7 (slS 0 rfl rfl (slS 1 rfl rfl (slS 2 rfl rfl (slS 3 rfl rfl (slS 4 rfl rfl (slS 5 rfl rfl (slS 6 rfl rfl (slS 7 rfl rfl (slS 8 rfl rfl (slS 9 rfl rfl (slS 10 rfl rfl (slL 2 (d := 2) rfl (trivial))))))))))))) ?_ ?_
      · show ∀ i ∈ [0, 1, 2], _
        refine zA (st_row0 0 1 _ rfl rfl rfl rfl (fun _ _ _ _ => rfl) hLo rfl rfl rfl (by rfl) Tryd.underlying25 (by kernel_rfl) rfl (fun b G hb ho => zG rfl (HS7.get 10 rfl))) ?_
        refine zA (st_call 1 _ #[.agg (FR () 6 (((t).elm (k)).sc))] rfl rfl rfl (fun _ _ _ _ => rfl) hLo rfl rfl Tryd.func14 rfl rfl (fun b G hb ho => args1 (zB hLo 0 rfl HS7.1 rfl (hb 0 (by rfl)))) (fun w hw => (by have hq := ihL k (by omega) _ ((hIn.elms (i := k) (by omega)).2.below hw); rw [hr3] at hq; exact hq))) ?_
        refine zA (zC 2 _ rfl rfl hLo rfl rfl (fun _ _ _ _ => rfl) (fun b G w hb ho => exec_un rfl (zB hLo 1 rfl HS7.1 rfl (hb 1 (by rfl))) (ru_not _))) ?_
        exact zF
      clear hLo
      intro G a8 w8 hS hH
      have HS8 : Sl a8 47 [(0, .agg (FR () 6 ((t).sc))), (1, .pointer (some ⟨g1_0, 0, none⟩)), (8, .slice ((t).xm) ((t).ml) ((t).cm)), (9, .int .i64 (((t).ml : Int))), (10, .int .i64 ((i : Int))), (11, .bool false), (37, .slice ((t).xl) ((t).ll) ((t).cl)), (38, .int .i64 (((t).ll : Int))), (39, .int .i64 ((k : Int))), (40, .bool true), (6, .pointer (some ⟨g7_2, 0, none⟩)), (45, .bool (!r3))] := hS
      have HH8 : Held w w8 [⟨g1_0, (), 6, (t).sc, 25⟩, ⟨g7_2, (), 6, ((t).elm (k)).sc, 25⟩] := hH
      clear hS hH HS7 HH7
      refine then_ ?_
      cases r3
      · skip
        refine wp_cond_true (HS8.get 11 rfl) ?_
        refine wp_seq ?_
        have hLo : LOk [(0, 2, .val (.bool false))] := lok (by rfl) (by rfl)
        refine zK (wE := w) (sz := 47) (n := 1) [0] [(0, .val (.agg (FR () 6 ((t).sc)))), (1, .val (.pointer (some ⟨g1_0, 0, none⟩))), (8, .val (.slice ((t).xm) ((t).ml) ((t).cm))), (9, .val (.int .i64 (((t).ml : Int)))), (10, .val (.int .i64 ((i : Int)))), (11, .val (.bool false)), (37, .val (.slice ((t).xl) ((t).ll) ((t).cl))), (38, .val (.int .i64 (((t).ll : Int)))), (39, .val (.int .i64 ((k : Int)))), (40, .val (.bool true)), (6, .val (.pointer (some ⟨g7_2, 0, none⟩))), (45, .val (.bool true)), (2, .val (.bool false))] [(0, 2, .val (.bool false))] [⟨g1_0, none, none, (), 6, (t).sc, (t).sc, 25⟩, ⟨g7_2, none, none, (), 6, ((t).elm (k)).sc, ((t).elm (k)).sc, 25⟩] rfl (by rfl) HH8 rfl rfl hLo rfl HS8 (slS 0 rfl rfl (slS 1 rfl rfl (slS 2 rfl rfl (slS 3 rfl rfl (slS 4 rfl rfl (slS 5 rfl rfl (slS 6 rfl rfl (slS 7 rfl rfl (slS 8 rfl rfl (slS 9 rfl rfl (slS 10 rfl rfl (slS 11 rfl rfl (slL 0 (d := 0) rfl (trivial)))))))))))))) ?_ ?_
        · show ∀ i ∈ [0], _
          refine zA (zC 0 _ rfl rfl hLo rfl rfl (fun _ _ _ _ => rfl) (fun b G w hb ho => zD (.inr rfl) (rfl))) ?_
          exact zF
        clear hLo
        intro G a9 w9 hS hH
        have HS9 : Sl a9 47 [(0, .agg (FR () 6 ((t).sc))), (1, .pointer (some ⟨g1_0, 0, none⟩)), (8, .slice ((t).xm) ((t).ml) ((t).cm)), (9, .int .i64 (((t).ml : Int))), (10, .int .i64 ((i : Int))), (11, .bool false), (37, .slice ((t).xl) ((t).ll) ((t).cl)), (38, .int .i64 (((t).ll : Int))), (39, .int .i64 ((k : Int))), (40, .bool true), (6, .pointer (some ⟨g7_2, 0, none⟩)), (45, .bool true), (2, .bool false)] := hS
        have HH9 : Held w w9 [⟨g1_0, (), 6, (t).sc, 25⟩, ⟨g7_2, (), 6, ((t).elm (k)).sc, 25⟩] := hH
        clear hS hH HS8 HH8
        refine then_ ?_
        refine wp_ret ?_
        repeat (first | refine zS ?_ | refine zM ?_)
        exact b_tmp rfl HS9.2.1 (HS9.get 12 rfl) ⟨rises_no2 hIn hpi hltk hr3, HH9.1⟩
      · skip
        refine wp_cond_false (HS8.get 11 rfl) ?_
        refine wp_skip ?_
        refine zT ?_
        refine then_ ?_
        have hLo : LOk [(0, 46, .val (.int .i64 (((k + 1 : Nat) : Int)))), (1, 39, .val (.int .i64 (((k + 1 : Nat) : Int))))] := lok (by rfl) (by rfl)
        refine zK (wE := w) (sz := 47) (n := 2) [0, 1] [(0, .val (.agg (FR () 6 ((t).sc)))), (1, .val (.pointer (some ⟨g1_0, 0, none⟩))), (8, .val (.slice ((t).xm) ((t).ml) ((t).cm))), (9, .val (.int .i64 (((t).ml : Int)))), (10, .val (.int .i64 ((i : Int)))), (11, .val (.bool false)), (37, .val (.slice ((t).xl) ((t).ll) ((t).cl))), (38, .val (.int .i64 (((t).ll : Int)))), (40, .val (.bool true)), (6, .val (.pointer (some ⟨g7_2, 0, none⟩))), (45, .val (.bool false)), (39, .val (.int .i64 (((k + 1 : Nat) : Int))))] [(0, 46, .val (.int .i64 (((k + 1 : Nat) : Int)))), (1, 39, .val (.int .i64 (((k + 1 : Nat) : Int))))] [⟨g1_0, none, none, (), 6, (t).sc, (t).sc, 25⟩, ⟨g7_2, none, none, (), 6, ((t).elm (k)).sc, ((t).elm (k)).sc, 25⟩] rfl (by rfl) HH8 rfl rfl hLo rfl HS8 (slS 0 rfl rfl (slS 1 rfl rfl (slS 2 rfl rfl (slS 3 rfl rfl (slS 4 rfl rfl (slS 5 rfl rfl (slS 6 rfl rfl (slS 7 rfl rfl (slS 9 rfl rfl (slS 10 rfl rfl (slS 11 rfl rfl (slL 1 (d := 1) rfl (trivial))))))))))))) ?_ ?_
        · show ∀ i ∈ [0, 1], _
          refine zA (zC 0 _ rfl rfl hLo rfl rfl (fun _ _ _ _ => rfl) (fun b G w hb ho => zJ rfl (ev_pre hLo 1 rfl (ho 1 (by rfl)) (HS8.get 8 rfl)) (rfl) (rb_add (w_nat (by omega) (by omega)) _ _ _))) ?_
          refine zA (zC 1 _ rfl rfl hLo rfl rfl (fun _ _ _ _ => rfl) (fun b G w hb ho => zD (.inl rfl) (zB hLo 0 rfl HS8.1 rfl (hb 0 (by rfl))))) ?_
          exact zF
        clear hLo
        intro G a10 w10 hS hH
        have HS10 : Sl a10 47 [(0, .agg (FR () 6 ((t).sc))), (1, .pointer (some ⟨g1_0, 0, none⟩)), (8, .slice ((t).xm) ((t).ml) ((t).cm)), (9, .int .i64 (((t).ml : Int))), (10, .int .i64 ((i : Int))), (11, .bool false), (37, .slice ((t).xl) ((t).ll) ((t).cl)), (38, .int .i64 (((t).ll : Int))), (40, .bool true), (6, .pointer (some ⟨g7_2, 0, none⟩)), (45, .bool false), (39, .int .i64 (((k + 1 : Nat) : Int)))] := hS
        have HH10 : Held w w10 [⟨g1_0, (), 6, (t).sc, 25⟩, ⟨g7_2, (), 6, ((t).elm (k)).sc, 25⟩] := hH
        clear hS hH HS8 HH8
        refine then_ ?_
        have hSq1' : Sl _ 47 [(0, .agg (FR () 6 ((t).sc))), (1, .pointer (some ⟨g1_0, 0, none⟩)), (8, .slice ((t).xm) ((t).ml) ((t).cm)), (9, .int .i64 (((t).ml : Int))), (10, .int .i64 ((i : Int))), (11, .bool false), (37, .slice ((t).xl) ((t).ll) ((t).cl)), (38, .int .i64 (((t).ll : Int))), (39, .int .i64 (((k + 1 : Nat) : Int)))] := sl_keep HS10 [0, 1, 2, 3, 4, 5, 6, 7, 11] (by rfl)
        have hHq1' : Held w _ [⟨g1_0, (), 6, (t).sc, 25⟩] := held_keep HH10 1 rfl
        exact ⟨⟨k + 1, by omega, allB_step hpk (hr3), hSq1', hHq1'⟩, by rw [(hSq1'.get 8 rfl)]; show t.ll - (((k + 1 : Nat) : Int)).toNat < t.ll - k; omega⟩
  · skip
    have hlt : i < t.ml := by have := of_decide_eq_true hr1; omega
    refine wp_cond_true (HS3.get 5 rfl) ?_
    refine wp_skip ?_
    refine then_ ?_
    refine wp_seq ?_
    refine wp_block ?_
    obtain ⟨⟨a1, hx1, hk1, hv1⟩, _, hn1⟩ := (hIn).mems (i := i) (by omega)
    refine wp_seq ?_
    have hLo : LOk [(0, 12, .val (.int .i64 ((i : Int)))), (1, 13, .val (.pointer (some (a1.add ((i) * 7))))), (2, 14, .val (.agg (FR () 7 (msc ((t).key (i)) ((t).mem (i)))))), (3, 4, .new 3 (fun g => .pointer (some ⟨g, 0, none⟩))), (4, 3, .val (.int .i64 ((i : Int))))] := lok (by rfl) (by rfl)
    refine zK (wE := w) (sz := 47) (n := 6) [0, 1, 3, 7, 15, 31] [(0, .val (.agg (FR () 6 ((t).sc)))), (1, .val (.pointer (some ⟨g1_0, 0, none⟩))), (8, .val (.slice ((t).xm) ((t).ml) ((t).cm))), (9, .val (.int .i64 (((t).ml : Int)))), (10, .val (.int .i64 ((i : Int)))), (11, .val (.bool true)), (4, .new 3 (fun g => .pointer (some ⟨g, 0, none⟩))), (3, .val (.int .i64 ((i : Int))))] [(0, 12, .val (.int .i64 ((i : Int)))), (1, 13, .val (.pointer (some (a1.add ((i) * 7))))), (2, 14, .val (.agg (FR () 7 (msc ((t).key (i)) ((t).mem (i)))))), (3, 4, .new 3 (fun g => .pointer (some ⟨g, 0, none⟩))), (4, 3, .val (.int .i64 ((i : Int))))] [⟨g1_0, none, none, (), 6, (t).sc, (t).sc, 25⟩, ⟨0, some 3, some 5, (), 7, lsc [.s (ByteArray.empty), .i .i64 (0), .b (false), .i .i64 (0), .s (ByteArray.empty), .sl (none) (0) (0), .sl (none) (0) (0)], msc ((t).key (i)) ((t).mem (i)), 36⟩] rfl (by rfl) HH3 rfl rfl hLo rfl HS3 (slS 0 rfl rfl (slS 1 rfl rfl (slS 2 rfl rfl (slS 3 rfl rfl (slS 4 rfl rfl (slS 5 rfl rfl (slL 3 (d := 3) rfl (slL 4 (d := 4) rfl (trivial))))))))) ?_ ?_
    · show ∀ i ∈ [0, 1, 2, 3, 4, 5], _
      refine zA (zC 0 _ rfl rfl hLo rfl rfl (fun _ _ _ _ => rfl) (fun b G w hb ho => zD (.inl rfl) (zG rfl (HS3.get 4 rfl)))) ?_
      refine zA (zC 1 _ rfl rfl hLo rfl rfl (fun _ _ _ _ => rfl) (fun b G w hb ho => zU rfl (zG rfl (HS3.get 2 rfl)) (zG rfl (HS3.get 4 rfl)) (index_sl Tryd.underlying23 (by kernel_rfl) hx1 (by omega) _))) ?_
      refine zA (st_at 2 (a1.add ((i) * 7)) rfl rfl rfl (fun _ _ _ _ => rfl) hLo rfl rfl Tryd.underlying36 (by kernel_rfl) rfl (at7 hk1 hv1) (fun b G hb ho => zB hLo 1 rfl HS3.1 rfl (hb 1 (by rfl)))) ?_
      refine zA (st_alloc 3 1 () 7 36 (some 5) _ _ rfl rfl (fun _ _ _ _ => rfl) rfl hLo rfl rfl rfl rfl (by rfl) (fun b G w _ _ => by kernel_rfl)) ?_
      refine zA (zC 4 _ rfl rfl hLo rfl rfl (fun _ _ _ _ => rfl) (fun b G w hb ho => zD (.inr rfl) (zB hLo 0 rfl HS3.1 rfl (hb 0 (by rfl))))) ?_
      refine zA (st_store 1 _ rfl rfl rfl rfl rfl (fun _ _ _ _ => rfl) rfl rfl rfl (by rfl) (by kernel_rfl) (fun b G hb ho => zB hLo 3 rfl HS3.1 rfl (hb 3 (by rfl))) (fun b G hb ho => zB hLo 2 rfl HS3.1 rfl (hb 2 (by rfl)))) ?_
      exact zF
    clear hLo
    intro G a11 w11 hS hH
    have HS11 : Sl a11 47 [(0, .agg (FR () 6 ((t).sc))), (1, .pointer (some ⟨g1_0, 0, none⟩)), (8, .slice ((t).xm) ((t).ml) ((t).cm)), (9, .int .i64 (((t).ml : Int))), (10, .int .i64 ((i : Int))), (11, .bool true), (4, .pointer (some ⟨(G 3), 0, none⟩)), (3, .int .i64 ((i : Int)))] := hS
    have HH11 : Held w w11 [⟨g1_0, (), 6, (t).sc, 25⟩, ⟨(G 3), (), 7, msc ((t).key (i)) ((t).mem (i)), 36⟩] := hH
    clear hS hH HS3 HH3
    generalize G 3 = g11_3 at HS11 HH11
    refine then_ ?_
    obtain ⟨r4, hr4⟩ : ∃ r : Bool, (decide ((0 : Int) < (i : Int))) = r := ⟨_, rfl⟩
    cases r4
    · skip
      obtain ⟨r5, hr5⟩ : ∃ r : Bool, (risesB (t.mem i)) = r := ⟨_, rfl⟩
      refine wp_seq ?_
      have hLo : LOk [(0, 15, .val (.int .i64 ((i : Int)))), (1, 16, .val (.bool false)), (2, 17, .val (.bool false)), (3, 18, .val (undef)), (4, 19, .val (undef)), (5, 20, .val (undef)), (6, 21, .val (undef)), (7, 22, .val (undef)), (8, 23, .val (undef)), (9, 24, .val (undef)), (10, 25, .val (undef)), (11, 26, .val (undef)), (12, 27, .val (undef)), (13, 28, .val (.bool false)), (14, 29, .val (.bool false)), (15, 30, .val (.pointer (some ⟨g11_3, 1, none⟩))), (16, 31, .val (.agg (FR () 6 (((t).mem (i)).sc)))), (17, 32, .val (.bool r5)), (18, 33, .val (.bool (!r5))), (19, 34, .val (.bool (!r5)))] := lok (by rfl) (by rfl)
      refine region_ (wE := w) (sz := 47) (n := 20) (B := [0, 1, 3, 7, 15, 7, 39, 127, 255, 511, 7, 1031, 4095, 8191, 16383, 32767, 65535, 131071, 262143, 524287]) [0, 1, 2, 3, 4, 5, 6, 7, 8, 9, 10, 11, 12, 13, 14, 15, 16, 17, 18, 19] [(0, .val (.agg (FR () 6 ((t).sc)))), (1, .val (.pointer (some ⟨g1_0, 0, none⟩))), (8, .val (.slice ((t).xm) ((t).ml) ((t).cm))), (9, .val (.int .i64 (((t).ml : Int)))), (10, .val (.int .i64 ((i : Int)))), (11, .val (.bool true)), (4, .val (.pointer (some ⟨g11_3, 0, none⟩))), (3, .val (.int .i64 ((i : Int)))), (34, .val (.bool (!r5)))] [(0, 15, .val (.int .i64 ((i : Int)))), (1, 16, .val (.bool false)), (2, 17, .val (.bool false)), (3, 18, .val (undef)), (4, 19, .val (undef)), (5, 20, .val (undef)), (6, 21, .val (undef)), (7, 22, .val (undef)), (8, 23, .val (undef)), (9, 24, .val (undef)), (10, 25, .val (undef)), (11, 26, .val (undef)), (12, 27, .val (undef)), (13, 28, .val (.bool false)), (14, 29, .val (.bool false)), (15, 30, .val (.pointer (some ⟨g11_3, 1, none⟩))), (16, 31, .val (.agg (FR () 6 (((t).mem (i)).sc)))), (17, 32, .val (.bool r5)), (18, 33, .val (.bool (!r5))), (19, 34, .val (.bool (!r5)))] [⟨g1_0, none, none, (), 6, (t).sc, (t).sc, 25⟩, ⟨g11_3, none, none, (), 7, msc ((t).key (i)) ((t).mem (i)), msc ((t).key (i)) ((t).mem (i)), 36⟩] (by rfl) rfl tabris_4 bitsris_4 (by kernel_rfl) (by kernel_rfl) HH11 rfl rfl hLo rfl HS11 (slS 0 rfl rfl (slS 1 rfl rfl (slS 2 rfl rfl (slS 3 rfl rfl (slS 4 rfl rfl (slS 5 rfl rfl (slS 6 rfl rfl (slS 7 rfl rfl (slL 19 (d := 19) rfl (trivial)))))))))) ?_ ?_
      · show ∀ i ∈ [0, 1, 2, 3, 4, 5, 6, 7, 8, 9, 10, 11, 12, 13, 14, 15, 16, 17, 18, 19], _
        refine zA (zC 0 _ rfl rfl hLo rfl rfl (fun _ _ _ _ => rfl) (fun b G w hb ho => zD (.inl rfl) (zG rfl (HS11.get 7 rfl)))) ?_
        refine zA (zC 1 _ rfl rfl hLo rfl rfl (fun _ _ _ _ => rfl) (fun b G w hb ho => zJ rfl (zB hLo 0 rfl HS11.1 rfl (hb 0 (by rfl))) (rfl) (rb_gtr hr4 _ _ _))) ?_
        refine zA (zC 2 _ rfl rfl hLo rfl rfl (fun _ _ _ _ => rfl) (fun b G w hb ho => zD (.inl rfl) (zB hLo 1 rfl HS11.1 rfl (hb 1 (by rfl))))) ?_
        refine zA (zL 3 rfl rfl hLo rfl rfl (fun b G hb ho => zE rfl rfl rfl HS11.1 rfl (zB hLo 2 rfl HS11.1 rfl (hb 2 (by rfl))) rfl)) ?_
        refine zA (zL 4 rfl rfl hLo rfl rfl (fun b G hb ho => zE rfl rfl rfl HS11.1 rfl (zB hLo 2 rfl HS11.1 rfl (hb 2 (by rfl))) rfl)) ?_
        refine zA (zL 5 rfl rfl hLo rfl rfl (fun b G hb ho => zE rfl rfl rfl HS11.1 rfl (zB hLo 2 rfl HS11.1 rfl (hb 2 (by rfl))) rfl)) ?_
        refine zA (zL 6 rfl rfl hLo rfl rfl (fun b G hb ho => zE rfl rfl rfl HS11.1 rfl (zB hLo 2 rfl HS11.1 rfl (hb 2 (by rfl))) rfl)) ?_
        refine zA (zL 7 rfl rfl hLo rfl rfl (fun b G hb ho => zE rfl rfl rfl HS11.1 rfl (zB hLo 2 rfl HS11.1 rfl (hb 2 (by rfl))) rfl)) ?_
        refine zA (zL 8 rfl rfl hLo rfl rfl (fun b G hb ho => zE rfl rfl rfl HS11.1 rfl (zB hLo 2 rfl HS11.1 rfl (hb 2 (by rfl))) rfl)) ?_
        refine zA (zL 9 rfl rfl hLo rfl rfl (fun b G hb ho => zE rfl rfl rfl HS11.1 rfl (zB hLo 2 rfl HS11.1 rfl (hb 2 (by rfl))) rfl)) ?_
        refine zA (zL 10 rfl rfl hLo rfl rfl (fun b G hb ho => zE rfl rfl rfl HS11.1 rfl (zB hLo 2 rfl HS11.1 rfl (hb 2 (by rfl))) rfl)) ?_
        refine zA (zL 11 rfl rfl hLo rfl rfl (fun b G hb ho => zE rfl rfl rfl HS11.1 rfl (zB hLo 2 rfl HS11.1 rfl (hb 2 (by rfl))) rfl)) ?_
        refine zA (zL 12 rfl rfl hLo rfl rfl (fun b G hb ho => zE rfl rfl rfl HS11.1 rfl (zB hLo 2 rfl HS11.1 rfl (hb 2 (by rfl))) rfl)) ?_
        refine zA (zC 13 _ rfl rfl hLo rfl rfl (fun _ _ _ _ => rfl) (fun b G w hb ho => zO rfl (zB hLo 2 rfl HS11.1 rfl (hb 2 (by rfl))) (rfl))) ?_
        refine zA (zC 14 _ rfl rfl hLo rfl rfl (fun _ _ _ _ => rfl) (fun b G w hb ho => zD (.inl rfl) (zB hLo 13 rfl HS11.1 rfl (hb 13 (by rfl))))) ?_
        refine zA (zC 15 _ rfl rfl hLo rfl rfl (fun b G hb ho => zE rfl rfl rfl HS11.1 rfl (zB hLo 14 rfl HS11.1 rfl (hb 14 (by rfl))) rfl) (fun b G w hb ho => zH rfl (zG rfl (HS11.get 6 rfl)) (by kernel_rfl))) ?_
        refine zA (st_load0 16 1 _ 1 6 rfl rfl rfl rfl (fun b G hb ho => zE rfl rfl rfl HS11.1 rfl (zB hLo 14 rfl HS11.1 rfl (hb 14 (by rfl))) rfl) hLo rfl rfl rfl (by rfl) (Nat.le_of_ble_eq_true rfl) Tryd.underlying25 (by kernel_rfl) rfl (fun b G hb ho => zB hLo 15 rfl HS11.1 rfl (hb 15 (by rfl)))) ?_
        refine zA (st_call 17 _ #[.agg (FR () 6 (((t).mem (i)).sc))] rfl rfl rfl (fun b G hb ho => zE rfl rfl rfl HS11.1 rfl (zB hLo 14 rfl HS11.1 rfl (hb 14 (by rfl))) rfl) hLo rfl rfl Tryd.func14 rfl rfl (fun b G hb ho => args1 (zB hLo 16 rfl HS11.1 rfl (hb 16 (by rfl)))) (fun w hw => (by have hq := ihM i (by omega) _ ((hIn.mems (i := i) (by omega)).2.2.below hw); rw [hr5] at hq; exact hq))) ?_
        refine zA (zC 18 _ rfl rfl hLo rfl rfl (fun b G hb ho => zE rfl rfl rfl HS11.1 rfl (zB hLo 14 rfl HS11.1 rfl (hb 14 (by rfl))) rfl) (fun b G w hb ho => exec_un rfl (zB hLo 17 rfl HS11.1 rfl (hb 17 (by rfl))) (ru_not _))) ?_
        refine zA (zC 19 _ rfl rfl hLo rfl rfl (fun _ _ _ _ => rfl) (fun b G w hb ho => zO rfl (zB hLo 14 rfl HS11.1 rfl (hb 14 (by rfl))) (zB hLo 18 rfl HS11.1 rfl (hb 18 (by rfl))))) ?_
        exact zF
      clear hLo
      intro G a12 w12 hS hH
      have HS12 : Sl a12 47 [(0, .agg (FR () 6 ((t).sc))), (1, .pointer (some ⟨g1_0, 0, none⟩)), (8, .slice ((t).xm) ((t).ml) ((t).cm)), (9, .int .i64 (((t).ml : Int))), (10, .int .i64 ((i : Int))), (11, .bool true), (4, .pointer (some ⟨g11_3, 0, none⟩)), (3, .int .i64 ((i : Int))), (34, .bool (!r5))] := hS
      have HH12 : Held w w12 [⟨g1_0, (), 6, (t).sc, 25⟩, ⟨g11_3, (), 7, msc ((t).key (i)) ((t).mem (i)), 36⟩] := hH
      clear hS hH HS11 HH11
      refine then_ ?_
      cases r5
      · skip
        refine wp_cond_true (HS12.get 8 rfl) ?_
        refine wp_seq ?_
        have hLo : LOk [(0, 2, .val (.bool false))] := lok (by rfl) (by rfl)
        refine zK (wE := w) (sz := 47) (n := 1) [0] [(0, .val (.agg (FR () 6 ((t).sc)))), (1, .val (.pointer (some ⟨g1_0, 0, none⟩))), (8, .val (.slice ((t).xm) ((t).ml) ((t).cm))), (9, .val (.int .i64 (((t).ml : Int)))), (10, .val (.int .i64 ((i : Int)))), (11, .val (.bool true)), (4, .val (.pointer (some ⟨g11_3, 0, none⟩))), (3, .val (.int .i64 ((i : Int)))), (34, .val (.bool true)), (2, .val (.bool false))] [(0, 2, .val (.bool false))] [⟨g1_0, none, none, (), 6, (t).sc, (t).sc, 25⟩, ⟨g11_3, none, none, (), 7, msc ((t).key (i)) ((t).mem (i)), msc ((t).key (i)) ((t).mem (i)), 36⟩] rfl (by rfl) HH12 rfl rfl hLo rfl HS12 (slS 0 rfl rfl (slS 1 rfl rfl (slS 2 rfl rfl (slS 3 rfl rfl (slS 4 rfl rfl (slS 5 rfl rfl (slS 6 rfl rfl (slS 7 rfl rfl (slS 8 rfl rfl (slL 0 (d := 0) rfl (trivial))))))))))) ?_ ?_
        · show ∀ i ∈ [0], _
          refine zA (zC 0 _ rfl rfl hLo rfl rfl (fun _ _ _ _ => rfl) (fun b G w hb ho => zD (.inr rfl) (rfl))) ?_
          exact zF
        clear hLo
        intro G a13 w13 hS hH
        have HS13 : Sl a13 47 [(0, .agg (FR () 6 ((t).sc))), (1, .pointer (some ⟨g1_0, 0, none⟩)), (8, .slice ((t).xm) ((t).ml) ((t).cm)), (9, .int .i64 (((t).ml : Int))), (10, .int .i64 ((i : Int))), (11, .bool true), (4, .pointer (some ⟨g11_3, 0, none⟩)), (3, .int .i64 ((i : Int))), (34, .bool true), (2, .bool false)] := hS
        have HH13 : Held w w13 [⟨g1_0, (), 6, (t).sc, 25⟩, ⟨g11_3, (), 7, msc ((t).key (i)) ((t).mem (i)), 36⟩] := hH
        clear hS hH HS12 HH12
        refine then_ ?_
        refine wp_ret ?_
        repeat (first | refine zS ?_ | refine zM ?_)
        exact b_tmp rfl HS13.2.1 (HS13.get 9 rfl) ⟨rises_no1 hIn hlt (pM_first hr4 hr5), HH13.1⟩
      · skip
        refine wp_cond_false (HS12.get 8 rfl) ?_
        refine wp_skip ?_
        refine zT ?_
        refine then_ ?_
        have hLo : LOk [(0, 35, .val (.int .i64 (((i + 1 : Nat) : Int)))), (1, 10, .val (.int .i64 (((i + 1 : Nat) : Int))))] := lok (by rfl) (by rfl)
        refine zK (wE := w) (sz := 47) (n := 2) [0, 1] [(0, .val (.agg (FR () 6 ((t).sc)))), (1, .val (.pointer (some ⟨g1_0, 0, none⟩))), (8, .val (.slice ((t).xm) ((t).ml) ((t).cm))), (9, .val (.int .i64 (((t).ml : Int)))), (11, .val (.bool true)), (4, .val (.pointer (some ⟨g11_3, 0, none⟩))), (3, .val (.int .i64 ((i : Int)))), (34, .val (.bool false)), (10, .val (.int .i64 (((i + 1 : Nat) : Int))))] [(0, 35, .val (.int .i64 (((i + 1 : Nat) : Int)))), (1, 10, .val (.int .i64 (((i + 1 : Nat) : Int))))] [⟨g1_0, none, none, (), 6, (t).sc, (t).sc, 25⟩, ⟨g11_3, none, none, (), 7, msc ((t).key (i)) ((t).mem (i)), msc ((t).key (i)) ((t).mem (i)), 36⟩] rfl (by rfl) HH12 rfl rfl hLo rfl HS12 (slS 0 rfl rfl (slS 1 rfl rfl (slS 2 rfl rfl (slS 3 rfl rfl (slS 5 rfl rfl (slS 6 rfl rfl (slS 7 rfl rfl (slS 8 rfl rfl (slL 1 (d := 1) rfl (trivial)))))))))) ?_ ?_
        · show ∀ i ∈ [0, 1], _
          refine zA (zC 0 _ rfl rfl hLo rfl rfl (fun _ _ _ _ => rfl) (fun b G w hb ho => zJ rfl (ev_pre hLo 1 rfl (ho 1 (by rfl)) (HS12.get 4 rfl)) (rfl) (rb_add (w_nat (by omega) (by omega)) _ _ _))) ?_
          refine zA (zC 1 _ rfl rfl hLo rfl rfl (fun _ _ _ _ => rfl) (fun b G w hb ho => zD (.inl rfl) (zB hLo 0 rfl HS12.1 rfl (hb 0 (by rfl))))) ?_
          exact zF
        clear hLo
        intro G a14 w14 hS hH
        have HS14 : Sl a14 47 [(0, .agg (FR () 6 ((t).sc))), (1, .pointer (some ⟨g1_0, 0, none⟩)), (8, .slice ((t).xm) ((t).ml) ((t).cm)), (9, .int .i64 (((t).ml : Int))), (11, .bool true), (4, .pointer (some ⟨g11_3, 0, none⟩)), (3, .int .i64 ((i : Int))), (34, .bool false), (10, .int .i64 (((i + 1 : Nat) : Int)))] := hS
        have HH14 : Held w w14 [⟨g1_0, (), 6, (t).sc, 25⟩, ⟨g11_3, (), 7, msc ((t).key (i)) ((t).mem (i)), 36⟩] := hH
        clear hS hH HS12 HH12
        refine then_ ?_
        have hSq0' : Sl _ 47 [(0, .agg (FR () 6 ((t).sc))), (1, .pointer (some ⟨g1_0, 0, none⟩)), (8, .slice ((t).xm) ((t).ml) ((t).cm)), (9, .int .i64 (((t).ml : Int))), (10, .int .i64 (((i + 1 : Nat) : Int)))] := sl_keep HS14 [0, 1, 2, 3, 8] (by rfl)
        have hHq0' : Held w _ [⟨g1_0, (), 6, (t).sc, 25⟩] := held_keep HH14 1 rfl
        exact ⟨⟨i + 1, by omega, allB_step hpi (pM_first hr4 hr5), hSq0', hHq0'⟩, by rw [(hSq0'.get 4 rfl)]; show t.ml - (((i + 1 : Nat) : Int)).toNat < t.ml - i; omega⟩
    · skip
      have hpos : 0 < i := by have := of_decide_eq_true hr4; omega
      obtain ⟨⟨a2, hx2, hk2, hv2⟩, _, hn2⟩ := (hIn).mems (i := i - 1) (by omega)
      obtain ⟨r6, hr6⟩ : ∃ r : Bool, (!decide (cmpB (bl ((t).key (i - 1))) (bl ((t).key (i))) < 0)) = r := ⟨_, rfl⟩
      cases r6
      · skip
        obtain ⟨⟨a3, hx3, hk3, hv3⟩, _, hn3⟩ := (hIn).mems (i := i - 1) (by omega)
        obtain ⟨r7, hr7⟩ : ∃ r : Bool, (risesB (t.mem i)) = r := ⟨_, rfl⟩
        refine wp_seq ?_
        have hLo : LOk [(0, 15, .val (.int .i64 ((i : Int)))), (1, 16, .val (.bool true)), (2, 17, .val (.bool true)), (3, 18, .val (.pointer (some ⟨g1_0, 5, none⟩))), (4, 19, .val (.slice ((t).xm) ((t).ml) ((t).cm))), (5, 20, .val (.int .i64 ((i : Int)))), (6, 21, .val (.int .i64 (((i - 1 : Nat) : Int)))), (7, 22, .val (.pointer (some (a3.add ((i - 1) * 7))))), (8, 23, .val (.pointer (some (a3.add ((i - 1) * 7))))), (9, 24, .val (.string ((t).key (i - 1)))), (10, 25, .val (.pointer (some ⟨g11_3, 0, none⟩))), (11, 26, .val (.string ((t).key (i)))), (12, 27, .val (.bool false)), (13, 28, .val (.bool false)), (14, 29, .val (.bool false)), (15, 30, .val (.pointer (some ⟨g11_3, 1, none⟩))), (16, 31, .val (.agg (FR () 6 (((t).mem (i)).sc)))), (17, 32, .val (.bool r7)), (18, 33, .val (.bool (!r7))), (19, 34, .val (.bool (!r7)))] := lok (by rfl) (by rfl)
        refine region_ (wE := w) (sz := 47) (n := 20) (B := [0, 1, 3, 7, 15, 7, 39, 127, 255, 511, 7, 1031, 4095, 8191, 16383, 32767, 65535, 131071, 262143, 524287]) [0, 1, 2, 3, 4, 5, 6, 7, 8, 9, 10, 11, 12, 13, 14, 15, 16, 17, 18, 19] [(0, .val (.agg (FR () 6 ((t).sc)))), (1, .val (.pointer (some ⟨g1_0, 0, none⟩))), (8, .val (.slice ((t).xm) ((t).ml) ((t).cm))), (9, .val (.int .i64 (((t).ml : Int)))), (10, .val (.int .i64 ((i : Int)))), (11, .val (.bool true)), (4, .val (.pointer (some ⟨g11_3, 0, none⟩))), (3, .val (.int .i64 ((i : Int)))), (34, .val (.bool (!r7)))] [(0, 15, .val (.int .i64 ((i : Int)))), (1, 16, .val (.bool true)), (2, 17, .val (.bool true)), (3, 18, .val (.pointer (some ⟨g1_0, 5, none⟩))), (4, 19, .val (.slice ((t).xm) ((t).ml) ((t).cm))), (5, 20, .val (.int .i64 ((i : Int)))), (6, 21, .val (.int .i64 (((i - 1 : Nat) : Int)))), (7, 22, .val (.pointer (some (a3.add ((i - 1) * 7))))), (8, 23, .val (.pointer (some (a3.add ((i - 1) * 7))))), (9, 24, .val (.string ((t).key (i - 1)))), (10, 25, .val (.pointer (some ⟨g11_3, 0, none⟩))), (11, 26, .val (.string ((t).key (i)))), (12, 27, .val (.bool false)), (13, 28, .val (.bool false)), (14, 29, .val (.bool false)), (15, 30, .val (.pointer (some ⟨g11_3, 1, none⟩))), (16, 31, .val (.agg (FR () 6 (((t).mem (i)).sc)))), (17, 32, .val (.bool r7)), (18, 33, .val (.bool (!r7))), (19, 34, .val (.bool (!r7)))] [⟨g1_0, none, none, (), 6, (t).sc, (t).sc, 25⟩, ⟨g11_3, none, none, (), 7, msc ((t).key (i)) ((t).mem (i)), msc ((t).key (i)) ((t).mem (i)), 36⟩] (by rfl) rfl tabris_4 bitsris_4 (by kernel_rfl) (by kernel_rfl) HH11 rfl rfl hLo rfl HS11 (slS 0 rfl rfl (slS 1 rfl rfl (slS 2 rfl rfl (slS 3 rfl rfl (slS 4 rfl rfl (slS 5 rfl rfl (slS 6 rfl rfl (slS 7 rfl rfl (slL 19 (d := 19) rfl (trivial)))))))))) ?_ ?_
        · show ∀ i ∈ [0, 1, 2, 3, 4, 5, 6, 7, 8, 9, 10, 11, 12, 13, 14, 15, 16, 17, 18, 19], _
          refine zA (zC 0 _ rfl rfl hLo rfl rfl (fun _ _ _ _ => rfl) (fun b G w hb ho => zD (.inl rfl) (zG rfl (HS11.get 7 rfl)))) ?_
          refine zA (zC 1 _ rfl rfl hLo rfl rfl (fun _ _ _ _ => rfl) (fun b G w hb ho => zJ rfl (zB hLo 0 rfl HS11.1 rfl (hb 0 (by rfl))) (rfl) (rb_gtr hr4 _ _ _))) ?_
          refine zA (zC 2 _ rfl rfl hLo rfl rfl (fun _ _ _ _ => rfl) (fun b G w hb ho => zD (.inl rfl) (zB hLo 1 rfl HS11.1 rfl (hb 1 (by rfl))))) ?_
          refine zA (zC 3 _ rfl rfl hLo rfl rfl (fun b G hb ho => zE rfl rfl rfl HS11.1 rfl (zB hLo 2 rfl HS11.1 rfl (hb 2 (by rfl))) rfl) (fun b G w hb ho => zH rfl (zG rfl (HS11.get 1 rfl)) (by kernel_rfl))) ?_
          refine zA (zW 4 0 _ _ rfl rfl rfl hLo rfl rfl (fun b G hb ho => zE rfl rfl rfl HS11.1 rfl (zB hLo 2 rfl HS11.1 rfl (hb 2 (by rfl))) rfl) (by rfl) (by rfl) (fun b G w hb ho hr => zP hr (Nat.le_of_ble_eq_true rfl) Tryd.underlying23 rfl rfl (zB hLo 3 rfl HS11.1 rfl (hb 3 (by rfl))))) ?_
          refine zA (zC 5 _ rfl rfl hLo rfl rfl (fun b G hb ho => zE rfl rfl rfl HS11.1 rfl (zB hLo 2 rfl HS11.1 rfl (hb 2 (by rfl))) rfl) (fun b G w hb ho => zD (.inl rfl) (zG rfl (HS11.get 7 rfl)))) ?_
          refine zA (zC 6 _ rfl rfl hLo rfl rfl (fun b G hb ho => zE rfl rfl rfl HS11.1 rfl (zB hLo 2 rfl HS11.1 rfl (hb 2 (by rfl))) rfl) (fun b G w hb ho => zJ rfl (zB hLo 5 rfl HS11.1 rfl (hb 5 (by rfl))) (rfl) (rb_sub (w_nat (by omega) (by omega)) _ _ _))) ?_
          refine zA (zC 7 _ rfl rfl hLo rfl rfl (fun b G hb ho => zE rfl rfl rfl HS11.1 rfl (zB hLo 2 rfl HS11.1 rfl (hb 2 (by rfl))) rfl) (fun b G w hb ho => zU rfl (zB hLo 4 rfl HS11.1 rfl (hb 4 (by rfl))) (zB hLo 6 rfl HS11.1 rfl (hb 6 (by rfl))) (index_sl Tryd.underlying23 (by kernel_rfl) hx3 (by omega) _))) ?_
          refine zA (zC 8 _ rfl rfl hLo rfl rfl (fun b G hb ho => zE rfl rfl rfl HS11.1 rfl (zB hLo 2 rfl HS11.1 rfl (hb 2 (by rfl))) rfl) (fun b G w hb ho => zH rfl (zB hLo 7 rfl HS11.1 rfl (hb 7 (by rfl))) (by kernel_rfl))) ?_
          refine zA (st_at1 9 (a3.add ((i - 1) * 7)) _ rfl rfl rfl (fun b G hb ho => zE rfl rfl rfl HS11.1 rfl (zB hLo 2 rfl HS11.1 rfl (hb 2 (by rfl))) rfl) hLo rfl rfl Tryd.underlying9 rfl (hk3) (fun b G hb ho => zB hLo 8 rfl HS11.1 rfl (hb 8 (by rfl)))) ?_
          refine zA (zC 10 _ rfl rfl hLo rfl rfl (fun b G hb ho => zE rfl rfl rfl HS11.1 rfl (zB hLo 2 rfl HS11.1 rfl (hb 2 (by rfl))) rfl) (fun b G w hb ho => zH rfl (zG rfl (HS11.get 6 rfl)) (by kernel_rfl))) ?_
          refine zA (zW 11 1 _ _ rfl rfl rfl hLo rfl rfl (fun b G hb ho => zE rfl rfl rfl HS11.1 rfl (zB hLo 2 rfl HS11.1 rfl (hb 2 (by rfl))) rfl) (by rfl) (by rfl) (fun b G w hb ho hr => zP hr (Nat.le_of_ble_eq_true rfl) Tryd.underlying9 rfl rfl (zB hLo 10 rfl HS11.1 rfl (hb 10 (by rfl))))) ?_
          refine zA (zC 12 _ rfl rfl hLo rfl rfl (fun b G hb ho => zE rfl rfl rfl HS11.1 rfl (zB hLo 2 rfl HS11.1 rfl (hb 2 (by rfl))) rfl) (fun b G w hb ho => zJ rfl (zB hLo 9 rfl HS11.1 rfl (hb 9 (by rfl))) (zB hLo 11 rfl HS11.1 rfl (hb 11 (by rfl))) (rb_sgeq hr6 _ _ _))) ?_
          refine zA (zC 13 _ rfl rfl hLo rfl rfl (fun _ _ _ _ => rfl) (fun b G w hb ho => zO rfl (zB hLo 2 rfl HS11.1 rfl (hb 2 (by rfl))) (zB hLo 12 rfl HS11.1 rfl (hb 12 (by rfl))))) ?_
          refine zA (zC 14 _ rfl rfl hLo rfl rfl (fun _ _ _ _ => rfl) (fun b G w hb ho => zD (.inl rfl) (zB hLo 13 rfl HS11.1 rfl (hb 13 (by rfl))))) ?_
          refine zA (zC 15 _ rfl rfl hLo rfl rfl (fun b G hb ho => zE rfl rfl rfl HS11.1 rfl (zB hLo 14 rfl HS11.1 rfl (hb 14 (by rfl))) rfl) (fun b G w hb ho => zH rfl (zG rfl (HS11.get 6 rfl)) (by kernel_rfl))) ?_
          refine zA (st_load0 16 1 _ 1 6 rfl rfl rfl rfl (fun b G hb ho => zE rfl rfl rfl HS11.1 rfl (zB hLo 14 rfl HS11.1 rfl (hb 14 (by rfl))) rfl) hLo rfl rfl rfl (by rfl) (Nat.le_of_ble_eq_true rfl) Tryd.underlying25 (by kernel_rfl) rfl (fun b G hb ho => zB hLo 15 rfl HS11.1 rfl (hb 15 (by rfl)))) ?_
          refine zA (st_call 17 _ #[.agg (FR () 6 (((t).mem (i)).sc))] rfl rfl rfl (fun b G hb ho => zE rfl rfl rfl HS11.1 rfl (zB hLo 14 rfl HS11.1 rfl (hb 14 (by rfl))) rfl) hLo rfl rfl Tryd.func14 rfl rfl (fun b G hb ho => args1 (zB hLo 16 rfl HS11.1 rfl (hb 16 (by rfl)))) (fun w hw => (by have hq := ihM i (by omega) _ ((hIn.mems (i := i) (by omega)).2.2.below hw); rw [hr7] at hq; exact hq))) ?_
          refine zA (zC 18 _ rfl rfl hLo rfl rfl (fun b G hb ho => zE rfl rfl rfl HS11.1 rfl (zB hLo 14 rfl HS11.1 rfl (hb 14 (by rfl))) rfl) (fun b G w hb ho => exec_un rfl (zB hLo 17 rfl HS11.1 rfl (hb 17 (by rfl))) (ru_not _))) ?_
          refine zA (zC 19 _ rfl rfl hLo rfl rfl (fun _ _ _ _ => rfl) (fun b G w hb ho => zO rfl (zB hLo 14 rfl HS11.1 rfl (hb 14 (by rfl))) (zB hLo 18 rfl HS11.1 rfl (hb 18 (by rfl))))) ?_
          exact zF
        clear hLo
        intro G a15 w15 hS hH
        have HS15 : Sl a15 47 [(0, .agg (FR () 6 ((t).sc))), (1, .pointer (some ⟨g1_0, 0, none⟩)), (8, .slice ((t).xm) ((t).ml) ((t).cm)), (9, .int .i64 (((t).ml : Int))), (10, .int .i64 ((i : Int))), (11, .bool true), (4, .pointer (some ⟨g11_3, 0, none⟩)), (3, .int .i64 ((i : Int))), (34, .bool (!r7))] := hS
        have HH15 : Held w w15 [⟨g1_0, (), 6, (t).sc, 25⟩, ⟨g11_3, (), 7, msc ((t).key (i)) ((t).mem (i)), 36⟩] := hH
        clear hS hH HS11 HH11
        refine then_ ?_
        cases r7
        · skip
          refine wp_cond_true (HS15.get 8 rfl) ?_
          refine wp_seq ?_
          have hLo : LOk [(0, 2, .val (.bool false))] := lok (by rfl) (by rfl)
          refine zK (wE := w) (sz := 47) (n := 1) [0] [(0, .val (.agg (FR () 6 ((t).sc)))), (1, .val (.pointer (some ⟨g1_0, 0, none⟩))), (8, .val (.slice ((t).xm) ((t).ml) ((t).cm))), (9, .val (.int .i64 (((t).ml : Int)))), (10, .val (.int .i64 ((i : Int)))), (11, .val (.bool true)), (4, .val (.pointer (some ⟨g11_3, 0, none⟩))), (3, .val (.int .i64 ((i : Int)))), (34, .val (.bool true)), (2, .val (.bool false))] [(0, 2, .val (.bool false))] [⟨g1_0, none, none, (), 6, (t).sc, (t).sc, 25⟩, ⟨g11_3, none, none, (), 7, msc ((t).key (i)) ((t).mem (i)), msc ((t).key (i)) ((t).mem (i)), 36⟩] rfl (by rfl) HH15 rfl rfl hLo rfl HS15 (slS 0 rfl rfl (slS 1 rfl rfl (slS 2 rfl rfl (slS 3 rfl rfl (slS 4 rfl rfl (slS 5 rfl rfl (slS 6 rfl rfl (slS 7 rfl rfl (slS 8 rfl rfl (slL 0 (d := 0) rfl (trivial))))))))))) ?_ ?_
          · show ∀ i ∈ [0], _
            refine zA (zC 0 _ rfl rfl hLo rfl rfl (fun _ _ _ _ => rfl) (fun b G w hb ho => zD (.inr rfl) (rfl))) ?_
            exact zF
          clear hLo
          intro G a16 w16 hS hH
          have HS16 : Sl a16 47 [(0, .agg (FR () 6 ((t).sc))), (1, .pointer (some ⟨g1_0, 0, none⟩)), (8, .slice ((t).xm) ((t).ml) ((t).cm)), (9, .int .i64 (((t).ml : Int))), (10, .int .i64 ((i : Int))), (11, .bool true), (4, .pointer (some ⟨g11_3, 0, none⟩)), (3, .int .i64 ((i : Int))), (34, .bool true), (2, .bool false)] := hS
          have HH16 : Held w w16 [⟨g1_0, (), 6, (t).sc, 25⟩, ⟨g11_3, (), 7, msc ((t).key (i)) ((t).mem (i)), 36⟩] := hH
          clear hS hH HS15 HH15
          refine then_ ?_
          refine wp_ret ?_
          repeat (first | refine zS ?_ | refine zM ?_)
          exact b_tmp rfl HS16.2.1 (HS16.get 9 rfl) ⟨rises_no1 hIn hlt (pM_next hr4 hr6 hr7), HH16.1⟩
        · skip
          refine wp_cond_false (HS15.get 8 rfl) ?_
          refine wp_skip ?_
          refine zT ?_
          refine then_ ?_
          have hLo : LOk [(0, 35, .val (.int .i64 (((i + 1 : Nat) : Int)))), (1, 10, .val (.int .i64 (((i + 1 : Nat) : Int))))] := lok (by rfl) (by rfl)
          refine zK (wE := w) (sz := 47) (n := 2) [0, 1] [(0, .val (.agg (FR () 6 ((t).sc)))), (1, .val (.pointer (some ⟨g1_0, 0, none⟩))), (8, .val (.slice ((t).xm) ((t).ml) ((t).cm))), (9, .val (.int .i64 (((t).ml : Int)))), (11, .val (.bool true)), (4, .val (.pointer (some ⟨g11_3, 0, none⟩))), (3, .val (.int .i64 ((i : Int)))), (34, .val (.bool false)), (10, .val (.int .i64 (((i + 1 : Nat) : Int))))] [(0, 35, .val (.int .i64 (((i + 1 : Nat) : Int)))), (1, 10, .val (.int .i64 (((i + 1 : Nat) : Int))))] [⟨g1_0, none, none, (), 6, (t).sc, (t).sc, 25⟩, ⟨g11_3, none, none, (), 7, msc ((t).key (i)) ((t).mem (i)), msc ((t).key (i)) ((t).mem (i)), 36⟩] rfl (by rfl) HH15 rfl rfl hLo rfl HS15 (slS 0 rfl rfl (slS 1 rfl rfl (slS 2 rfl rfl (slS 3 rfl rfl (slS 5 rfl rfl (slS 6 rfl rfl (slS 7 rfl rfl (slS 8 rfl rfl (slL 1 (d := 1) rfl (trivial)))))))))) ?_ ?_
          · show ∀ i ∈ [0, 1], _
            refine zA (zC 0 _ rfl rfl hLo rfl rfl (fun _ _ _ _ => rfl) (fun b G w hb ho => zJ rfl (ev_pre hLo 1 rfl (ho 1 (by rfl)) (HS15.get 4 rfl)) (rfl) (rb_add (w_nat (by omega) (by omega)) _ _ _))) ?_
            refine zA (zC 1 _ rfl rfl hLo rfl rfl (fun _ _ _ _ => rfl) (fun b G w hb ho => zD (.inl rfl) (zB hLo 0 rfl HS15.1 rfl (hb 0 (by rfl))))) ?_
            exact zF
          clear hLo
          intro G a17 w17 hS hH
          have HS17 : Sl a17 47 [(0, .agg (FR () 6 ((t).sc))), (1, .pointer (some ⟨g1_0, 0, none⟩)), (8, .slice ((t).xm) ((t).ml) ((t).cm)), (9, .int .i64 (((t).ml : Int))), (11, .bool true), (4, .pointer (some ⟨g11_3, 0, none⟩)), (3, .int .i64 ((i : Int))), (34, .bool false), (10, .int .i64 (((i + 1 : Nat) : Int)))] := hS
          have HH17 : Held w w17 [⟨g1_0, (), 6, (t).sc, 25⟩, ⟨g11_3, (), 7, msc ((t).key (i)) ((t).mem (i)), 36⟩] := hH
          clear hS hH HS15 HH15
          refine then_ ?_
          have hSq0' : Sl _ 47 [(0, .agg (FR () 6 ((t).sc))), (1, .pointer (some ⟨g1_0, 0, none⟩)), (8, .slice ((t).xm) ((t).ml) ((t).cm)), (9, .int .i64 (((t).ml : Int))), (10, .int .i64 (((i + 1 : Nat) : Int)))] := sl_keep HS17 [0, 1, 2, 3, 8] (by rfl)
          have hHq0' : Held w _ [⟨g1_0, (), 6, (t).sc, 25⟩] := held_keep HH17 1 rfl
          exact ⟨⟨i + 1, by omega, allB_step hpi (pM_next hr4 hr6 hr7), hSq0', hHq0'⟩, by rw [(hSq0'.get 4 rfl)]; show t.ml - (((i + 1 : Nat) : Int)).toNat < t.ml - i; omega⟩
      · skip
        obtain ⟨⟨a4, hx4, hk4, hv4⟩, _, hn4⟩ := (hIn).mems (i := i - 1) (by omega)
        refine wp_seq ?_
        have hLo : LOk [(0, 15, .val (.int .i64 ((i : Int)))), (1, 16, .val (.bool true)), (2, 17, .val (.bool true)), (3, 18, .val (.pointer (some ⟨g1_0, 5, none⟩))), (4, 19, .val (.slice ((t).xm) ((t).ml) ((t).cm))), (5, 20, .val (.int .i64 ((i : Int)))), (6, 21, .val (.int .i64 (((i - 1 : Nat) : Int)))), (7, 22, .val (.pointer (some (a4.add ((i - 1) * 7))))), (8, 23, .val (.pointer (some (a4.add ((i - 1) * 7))))), (9, 24, .val (.string ((t).key (i - 1)))), (10, 25, .val (.pointer (some ⟨g11_3, 0, none⟩))), (11, 26, .val (.string ((t).key (i)))), (12, 27, .val (.bool true)), (13, 28, .val (.bool true)), (14, 29, .val (.bool true)), (15, 30, .val (undef)), (16, 31, .val (undef)), (17, 32, .val (undef)), (18, 33, .val (undef)), (19, 34, .val (.bool true))] := lok (by rfl) (by rfl)
        refine region_ (wE := w) (sz := 47) (n := 20) (B := [0, 1, 3, 7, 15, 7, 39, 127, 255, 511, 7, 1031, 4095, 8191, 16383, 32767, 65535, 131071, 262143, 524287]) [0, 1, 2, 3, 4, 5, 6, 7, 8, 9, 10, 11, 12, 13, 14, 15, 16, 17, 18, 19] [(0, .val (.agg (FR () 6 ((t).sc)))), (1, .val (.pointer (some ⟨g1_0, 0, none⟩))), (8, .val (.slice ((t).xm) ((t).ml) ((t).cm))), (9, .val (.int .i64 (((t).ml : Int)))), (10, .val (.int .i64 ((i : Int)))), (11, .val (.bool true)), (4, .val (.pointer (some ⟨g11_3, 0, none⟩))), (3, .val (.int .i64 ((i : Int)))), (34, .val (.bool true))] [(0, 15, .val (.int .i64 ((i : Int)))), (1, 16, .val (.bool true)), (2, 17, .val (.bool true)), (3, 18, .val (.pointer (some ⟨g1_0, 5, none⟩))), (4, 19, .val (.slice ((t).xm) ((t).ml) ((t).cm))), (5, 20, .val (.int .i64 ((i : Int)))), (6, 21, .val (.int .i64 (((i - 1 : Nat) : Int)))), (7, 22, .val (.pointer (some (a4.add ((i - 1) * 7))))), (8, 23, .val (.pointer (some (a4.add ((i - 1) * 7))))), (9, 24, .val (.string ((t).key (i - 1)))), (10, 25, .val (.pointer (some ⟨g11_3, 0, none⟩))), (11, 26, .val (.string ((t).key (i)))), (12, 27, .val (.bool true)), (13, 28, .val (.bool true)), (14, 29, .val (.bool true)), (15, 30, .val (undef)), (16, 31, .val (undef)), (17, 32, .val (undef)), (18, 33, .val (undef)), (19, 34, .val (.bool true))] [⟨g1_0, none, none, (), 6, (t).sc, (t).sc, 25⟩, ⟨g11_3, none, none, (), 7, msc ((t).key (i)) ((t).mem (i)), msc ((t).key (i)) ((t).mem (i)), 36⟩] (by rfl) rfl tabris_4 bitsris_4 (by kernel_rfl) (by kernel_rfl) HH11 rfl rfl hLo rfl HS11 (slS 0 rfl rfl (slS 1 rfl rfl (slS 2 rfl rfl (slS 3 rfl rfl (slS 4 rfl rfl (slS 5 rfl rfl (slS 6 rfl rfl (slS 7 rfl rfl (slL 19 (d := 19) rfl (trivial)))))))))) ?_ ?_
        · show ∀ i ∈ [0, 1, 2, 3, 4, 5, 6, 7, 8, 9, 10, 11, 12, 13, 14, 15, 16, 17, 18, 19], _
          refine zA (zC 0 _ rfl rfl hLo rfl rfl (fun _ _ _ _ => rfl) (fun b G w hb ho => zD (.inl rfl) (zG rfl (HS11.get 7 rfl)))) ?_
          refine zA (zC 1 _ rfl rfl hLo rfl rfl (fun _ _ _ _ => rfl) (fun b G w hb ho => zJ rfl (zB hLo 0 rfl HS11.1 rfl (hb 0 (by rfl))) (rfl) (rb_gtr hr4 _ _ _))) ?_
          refine zA (zC 2 _ rfl rfl hLo rfl rfl (fun _ _ _ _ => rfl) (fun b G w hb ho => zD (.inl rfl) (zB hLo 1 rfl HS11.1 rfl (hb 1 (by rfl))))) ?_
          refine zA (zC 3 _ rfl rfl hLo rfl rfl (fun b G hb ho => zE rfl rfl rfl HS11.1 rfl (zB hLo 2 rfl HS11.1 rfl (hb 2 (by rfl))) rfl) (fun b G w hb ho => zH rfl (zG rfl (HS11.get 1 rfl)) (by kernel_rfl))) ?_
          refine zA (zW 4 0 _ _ rfl rfl rfl hLo rfl rfl (fun b G hb ho => zE rfl rfl rfl HS11.1 rfl (zB hLo 2 rfl HS11.1 rfl (hb 2 (by rfl))) rfl) (by rfl) (by rfl) (fun b G w hb ho hr => zP hr (Nat.le_of_ble_eq_true rfl) Tryd.underlying23 rfl rfl (zB hLo 3 rfl HS11.1 rfl (hb 3 (by rfl))))) ?_
          refine zA (zC 5 _ rfl rfl hLo rfl rfl (fun b G hb ho => zE rfl rfl rfl HS11.1 rfl (zB hLo 2 rfl HS11.1 rfl (hb 2 (by rfl))) rfl) (fun b G w hb ho => zD (.inl rfl) (zG rfl (HS11.get 7 rfl)))) ?_
          refine zA (zC 6 _ rfl rfl hLo rfl rfl (fun b G hb ho => zE rfl rfl rfl HS11.1 rfl (zB hLo 2 rfl HS11.1 rfl (hb 2 (by rfl))) rfl) (fun b G w hb ho => zJ rfl (zB hLo 5 rfl HS11.1 rfl (hb 5 (by rfl))) (rfl) (rb_sub (w_nat (by omega) (by omega)) _ _ _))) ?_
          refine zA (zC 7 _ rfl rfl hLo rfl rfl (fun b G hb ho => zE rfl rfl rfl HS11.1 rfl (zB hLo 2 rfl HS11.1 rfl (hb 2 (by rfl))) rfl) (fun b G w hb ho => zU rfl (zB hLo 4 rfl HS11.1 rfl (hb 4 (by rfl))) (zB hLo 6 rfl HS11.1 rfl (hb 6 (by rfl))) (index_sl Tryd.underlying23 (by kernel_rfl) hx4 (by omega) _))) ?_
          refine zA (zC 8 _ rfl rfl hLo rfl rfl (fun b G hb ho => zE rfl rfl rfl HS11.1 rfl (zB hLo 2 rfl HS11.1 rfl (hb 2 (by rfl))) rfl) (fun b G w hb ho => zH rfl (zB hLo 7 rfl HS11.1 rfl (hb 7 (by rfl))) (by kernel_rfl))) ?_
          refine zA (st_at1 9 (a4.add ((i - 1) * 7)) _ rfl rfl rfl (fun b G hb ho => zE rfl rfl rfl HS11.1 rfl (zB hLo 2 rfl HS11.1 rfl (hb 2 (by rfl))) rfl) hLo rfl rfl Tryd.underlying9 rfl (hk4) (fun b G hb ho => zB hLo 8 rfl HS11.1 rfl (hb 8 (by rfl)))) ?_
          refine zA (zC 10 _ rfl rfl hLo rfl rfl (fun b G hb ho => zE rfl rfl rfl HS11.1 rfl (zB hLo 2 rfl HS11.1 rfl (hb 2 (by rfl))) rfl) (fun b G w hb ho => zH rfl (zG rfl (HS11.get 6 rfl)) (by kernel_rfl))) ?_
          refine zA (zW 11 1 _ _ rfl rfl rfl hLo rfl rfl (fun b G hb ho => zE rfl rfl rfl HS11.1 rfl (zB hLo 2 rfl HS11.1 rfl (hb 2 (by rfl))) rfl) (by rfl) (by rfl) (fun b G w hb ho hr => zP hr (Nat.le_of_ble_eq_true rfl) Tryd.underlying9 rfl rfl (zB hLo 10 rfl HS11.1 rfl (hb 10 (by rfl))))) ?_
          refine zA (zC 12 _ rfl rfl hLo rfl rfl (fun b G hb ho => zE rfl rfl rfl HS11.1 rfl (zB hLo 2 rfl HS11.1 rfl (hb 2 (by rfl))) rfl) (fun b G w hb ho => zJ rfl (zB hLo 9 rfl HS11.1 rfl (hb 9 (by rfl))) (zB hLo 11 rfl HS11.1 rfl (hb 11 (by rfl))) (rb_sgeq hr6 _ _ _))) ?_
          refine zA (zC 13 _ rfl rfl hLo rfl rfl (fun _ _ _ _ => rfl) (fun b G w hb ho => zO rfl (zB hLo 2 rfl HS11.1 rfl (hb 2 (by rfl))) (zB hLo 12 rfl HS11.1 rfl (hb 12 (by rfl))))) ?_
          refine zA (zC 14 _ rfl rfl hLo rfl rfl (fun _ _ _ _ => rfl) (fun b G w hb ho => zD (.inl rfl) (zB hLo 13 rfl HS11.1 rfl (hb 13 (by rfl))))) ?_
          refine zA (zL 15 rfl rfl hLo rfl rfl (fun b G hb ho => zE rfl rfl rfl HS11.1 rfl (zB hLo 14 rfl HS11.1 rfl (hb 14 (by rfl))) rfl)) ?_
          refine zA (zL 16 rfl rfl hLo rfl rfl (fun b G hb ho => zE rfl rfl rfl HS11.1 rfl (zB hLo 14 rfl HS11.1 rfl (hb 14 (by rfl))) rfl)) ?_
          refine zA (zL 17 rfl rfl hLo rfl rfl (fun b G hb ho => zE rfl rfl rfl HS11.1 rfl (zB hLo 14 rfl HS11.1 rfl (hb 14 (by rfl))) rfl)) ?_
          refine zA (zL 18 rfl rfl hLo rfl rfl (fun b G hb ho => zE rfl rfl rfl HS11.1 rfl (zB hLo 14 rfl HS11.1 rfl (hb 14 (by rfl))) rfl)) ?_
          refine zA (zC 19 _ rfl rfl hLo rfl rfl (fun _ _ _ _ => rfl) (fun b G w hb ho => zO rfl (zB hLo 14 rfl HS11.1 rfl (hb 14 (by rfl))) (rfl))) ?_
          exact zF
        clear hLo
        intro G a18 w18 hS hH
        have HS18 : Sl a18 47 [(0, .agg (FR () 6 ((t).sc))), (1, .pointer (some ⟨g1_0, 0, none⟩)), (8, .slice ((t).xm) ((t).ml) ((t).cm)), (9, .int .i64 (((t).ml : Int))), (10, .int .i64 ((i : Int))), (11, .bool true), (4, .pointer (some ⟨g11_3, 0, none⟩)), (3, .int .i64 ((i : Int))), (34, .bool true)] := hS
        have HH18 : Held w w18 [⟨g1_0, (), 6, (t).sc, 25⟩, ⟨g11_3, (), 7, msc ((t).key (i)) ((t).mem (i)), 36⟩] := hH
        clear hS hH HS11 HH11
        refine then_ ?_
        refine wp_cond_true (HS18.get 8 rfl) ?_
        refine wp_seq ?_
        have hLo : LOk [(0, 2, .val (.bool false))] := lok (by rfl) (by rfl)
        refine zK (wE := w) (sz := 47) (n := 1) [0] [(0, .val (.agg (FR () 6 ((t).sc)))), (1, .val (.pointer (some ⟨g1_0, 0, none⟩))), (8, .val (.slice ((t).xm) ((t).ml) ((t).cm))), (9, .val (.int .i64 (((t).ml : Int)))), (10, .val (.int .i64 ((i : Int)))), (11, .val (.bool true)), (4, .val (.pointer (some ⟨g11_3, 0, none⟩))), (3, .val (.int .i64 ((i : Int)))), (34, .val (.bool true)), (2, .val (.bool false))] [(0, 2, .val (.bool false))] [⟨g1_0, none, none, (), 6, (t).sc, (t).sc, 25⟩, ⟨g11_3, none, none, (), 7, msc ((t).key (i)) ((t).mem (i)), msc ((t).key (i)) ((t).mem (i)), 36⟩] rfl (by rfl) HH18 rfl rfl hLo rfl HS18 (slS 0 rfl rfl (slS 1 rfl rfl (slS 2 rfl rfl (slS 3 rfl rfl (slS 4 rfl rfl (slS 5 rfl rfl (slS 6 rfl rfl (slS 7 rfl rfl (slS 8 rfl rfl (slL 0 (d := 0) rfl (trivial))))))))))) ?_ ?_
        · show ∀ i ∈ [0], _
          refine zA (zC 0 _ rfl rfl hLo rfl rfl (fun _ _ _ _ => rfl) (fun b G w hb ho => zD (.inr rfl) (rfl))) ?_
          exact zF
        clear hLo
        intro G a19 w19 hS hH
        have HS19 : Sl a19 47 [(0, .agg (FR () 6 ((t).sc))), (1, .pointer (some ⟨g1_0, 0, none⟩)), (8, .slice ((t).xm) ((t).ml) ((t).cm)), (9, .int .i64 (((t).ml : Int))), (10, .int .i64 ((i : Int))), (11, .bool true), (4, .pointer (some ⟨g11_3, 0, none⟩)), (3, .int .i64 ((i : Int))), (34, .bool true), (2, .bool false)] := hS
        have HH19 : Held w w19 [⟨g1_0, (), 6, (t).sc, 25⟩, ⟨g11_3, (), 7, msc ((t).key (i)) ((t).mem (i)), 36⟩] := hH
        clear hS hH HS18 HH18
        refine then_ ?_
        refine wp_ret ?_
        repeat (first | refine zS ?_ | refine zM ?_)
        exact b_tmp rfl HS19.2.1 (HS19.get 9 rfl) ⟨rises_no1 hIn hlt (pM_bad hr4 hr6), HH19.1⟩
theorem rises_calls : ∀ (t : T) (w : World), In w t → Calls Tryd.prog 14 #[t.val] w fun e w' => e = .returned (.bool (risesB t)) ∧ Below w.heap.size w w' :=
  T.rec2 (Q := fun t => ∀ w : World, In w t → Calls Tryd.prog 14 #[t.val] w fun e w' => e = .returned (.bool (risesB t)) ∧ Below w.heap.size w w') fun t ihM ihL w hIn => rises_step hIn ihM ihL
def stepL (t : T) (d : Int) (i : Nat) (x : Int) : Int := weigh (t.elm i) x (IntKind.i64.wrap (d - 1))
def stepM (t : T) (d : Int) (i : Nat) (x : Int) : Int := weigh (t.mem i) (IntKind.i64.wrap (x - (t.key i).size)) (IntKind.i64.wrap (d - 1))
def leftS (t : T) (left : Int) : Int := IntKind.i64.wrap (IntKind.i64.wrap (left - 1) - ((t).txt).size)
def leftL (t : T) (left d : Int) : Int := iterW (stepL t d) t.ll t.ll (leftS t left)
theorem weigh_ret {w : World} {t : T} (h : In w t) (left d : Int) (hd : ((d : Int) == 0) = false) {x : Int} (hx : x = iterW (stepM t d) t.ml t.ml (leftL t left d)) : Ending.returned (.int .i64 x) = .returned (.int .i64 (weigh t left d)) := by
  rw [weigh_eq h, if_neg (by simpa using hd), hx]; rfl
theorem weigh_ret0 {w : World} {t : T} (h : In w t) (left d : Int) (hd : ((d : Int) == 0) = true) : Ending.returned (.int .i64 (-1)) = .returned (.int .i64 (weigh t left d)) := by
  rw [weigh_eq h, if_pos (by simpa using hd)]
theorem it_end1 {f : Nat → Int → Int} {n i : Nat} {l r : Int} (h : iterW f n (n - i) l = r) (hi : ¬ i < n) : l = r := by
  rw [show n - i = 0 by omega] at h; exact h
theorem it_end2 {f : Nat → Int → Int} {n i : Nat} {l r : Int} (h : iterW f n (n - i) l = r) (hl : ¬ 0 ≤ l) : l = r := by
  rw [iterW_stop hl] at h; exact h
theorem it_next {f : Nat → Int → Int} {n i : Nat} {l r : Int} (h : iterW f n (n - i) l = r) (hi : i < n) (hl : 0 ≤ l) : iterW f n (n - (i + 1)) (f i l) = r := by
  rw [iterW_step hi hl] at h; exact h
theorem tabwgh_11 : rtab .any (opsOf Tryd.f13 11) = (true, [([], []), ([0], [0]), ([], []), ([1, 2], [1, 2]), ([3], [3]), ([4], [4]), ([], []), ([], []), ([7], [7]), ([], []), ([8, 9], [8, 9]), ([10], [10]), ([11], [11]), ([12], [12]), ([6, 13], [6, 13]), ([], []), ([15], [15]), ([5, 14, 16], [5, 14, 16]), ([17, 17, 0, 1, 2, 3, 4, 5, 6, 7, 8, 9, 10, 11, 12, 13, 14, 15, 16, 17], [6, 17])]) := by kernel_rfl
theorem bitswgh_11 : waitsOk [([], []), ([0], [0]), ([], []), ([1, 2], [1, 2]), ([3], [3]), ([4], [4]), ([], []), ([], []), ([7], [7]), ([], []), ([8, 9], [8, 9]), ([10], [10]), ([11], [11]), ([12], [12]), ([6, 13], [6, 13]), ([], []), ([15], [15]), ([5, 14, 16], [5, 14, 16]), ([17, 17, 0, 1, 2, 3, 4, 5, 6, 7, 8, 9, 10, 11, 12, 13, 14, 15, 16, 17], [6, 17])] [0, 1, 0, 7, 15, 31, 0, 0, 128, 0, 896, 1920, 3968, 8064, 16320, 0, 32768, 131071, 262143] = true := by kernel_rfl
theorem weigh_step {w : World} {t : T} (left d : Int) (hIn : In w t) (ihM : ∀ i, i < t.ml → ∀ w, In w (t.mem i) → ∀ left d, Calls Tryd.prog 13 #[(t.mem i).val, .int .i64 left, .int .i64 d] w fun e w' => e = .returned (.int .i64 (weigh (t.mem i) left d)) ∧ Below w.heap.size w w') (ihL : ∀ i, i < t.ll → ∀ w, In w (t.elm i) → ∀ left d, Calls Tryd.prog 13 #[(t.elm i).val, .int .i64 left, .int .i64 d] w fun e w' => e = .returned (.int .i64 (weigh (t.elm i) left d)) ∧ Below w.heap.size w w') : Calls Tryd.prog 13 #[.agg (FR () 6 ((t).sc)), .int .i64 (left), .int .i64 (d)] w fun e w' => e = .returned (.int .i64 (weigh t left d)) ∧ Below w.heap.size w w' := by
  have hb47 := hIn.own.2.2.2.2.1
  have hb48 := hIn.own.2.2.2.1
  unfold reach47 at hb47 hb48
  refine enter_ 67 Tryd.func13 rfl rfl (fun a0 hS => ?_)
  have HS0 : Sl a0 67 [(0, .agg (FR () 6 ((t).sc))), (1, .int .i64 (left)), (2, .int .i64 (d))] := hS
  have HH0 : Held w w [] := Held.first w
  clear hS
  refine wp_seq ?_
  have hLo : LOk [(0, 3, .new 0 (fun g => .pointer (some ⟨g, 0, none⟩))), (1, 6, .val (.int .i64 (0)))] := lok (by rfl) (by rfl)
  refine zK (wE := w) (sz := 67) (n := 2) [0, 1] [(0, .val (.agg (FR () 6 ((t).sc)))), (1, .val (.int .i64 (left))), (2, .val (.int .i64 (d))), (3, .new 0 (fun g => .pointer (some ⟨g, 0, none⟩))), (6, .val (.int .i64 (0)))] [(0, 3, .new 0 (fun g => .pointer (some ⟨g, 0, none⟩))), (1, 6, .val (.int .i64 (0)))] [⟨0, some 0, none, (), 6, (t).sc, (t).sc, 25⟩] rfl (by rfl) HH0 rfl rfl hLo rfl HS0 (slS 0 rfl rfl (slS 1 rfl rfl (slS 2 rfl rfl (slL 0 (d := 0) rfl (slL 1 (d := 1) rfl (trivial)))))) ?_ ?_
  · show ∀ i ∈ [0, 1], _
    refine zA (st_alloc 0 0 () 6 25 none _ _ rfl rfl (fun _ _ _ _ => rfl) rfl hLo rfl rfl rfl rfl (by rfl) (fun b G w hb ho => exec_box rfl (zG rfl (HS0.get 0 rfl)) (by kernel_rfl))) ?_
    refine zA (zC 1 _ rfl rfl hLo rfl rfl (fun _ _ _ _ => rfl) (fun b G w hb ho => zD (.inr rfl) (rfl))) ?_
    exact zF
  clear hLo
  intro G a1 w1 hS hH
  have HS1 : Sl a1 67 [(0, .agg (FR () 6 ((t).sc))), (1, .int .i64 (left)), (2, .int .i64 (d)), (3, .pointer (some ⟨(G 0), 0, none⟩)), (6, .int .i64 (0))] := hS
  have HH1 : Held w w1 [⟨(G 0), (), 6, (t).sc, 25⟩] := hH
  clear hS hH HS0 HH0
  generalize G 0 = g1_0 at HS1 HH1
  refine then_ ?_
  refine wp_seq ?_
  have hLo : LOk [(0, 9, .val (.int .i64 (left))), (1, 10, .val (.int .i64 (IntKind.i64.wrap (left - 1)))), (2, 11, .val (.pointer (some ⟨g1_0, 3, none⟩))), (3, 12, .val (.string ((t).txt))), (4, 13, .val (.int .i64 ((((t).txt).size : Int)))), (5, 14, .val (.int .i64 (IntKind.i64.wrap (IntKind.i64.wrap (left - 1) - (((t).txt).size : Int))))), (6, 1, .val (.int .i64 (IntKind.i64.wrap (IntKind.i64.wrap (left - 1) - (((t).txt).size : Int)))))] := lok (by rfl) (by rfl)
  refine zK (wE := w) (sz := 67) (n := 7) [0, 1, 3, 7, 15, 31, 63] [(0, .val (.agg (FR () 6 ((t).sc)))), (2, .val (.int .i64 (d))), (3, .val (.pointer (some ⟨g1_0, 0, none⟩))), (6, .val (.int .i64 (0))), (1, .val (.int .i64 (IntKind.i64.wrap (IntKind.i64.wrap (left - 1) - (((t).txt).size : Int)))))] [(0, 9, .val (.int .i64 (left))), (1, 10, .val (.int .i64 (IntKind.i64.wrap (left - 1)))), (2, 11, .val (.pointer (some ⟨g1_0, 3, none⟩))), (3, 12, .val (.string ((t).txt))), (4, 13, .val (.int .i64 ((((t).txt).size : Int)))), (5, 14, .val (.int .i64 (IntKind.i64.wrap (IntKind.i64.wrap (left - 1) - (((t).txt).size : Int))))), (6, 1, .val (.int .i64 (IntKind.i64.wrap (IntKind.i64.wrap (left - 1) - (((t).txt).size : Int)))))] [⟨g1_0, none, none, (), 6, (t).sc, (t).sc, 25⟩] rfl (by rfl) HH1 rfl rfl hLo rfl HS1 (slS 0 rfl rfl (slS 2 rfl rfl (slS 3 rfl rfl (slS 4 rfl rfl (slL 6 (d := 6) rfl (trivial)))))) ?_ ?_
  · show ∀ i ∈ [0, 1, 2, 3, 4, 5, 6], _
    refine zA (zC 0 _ rfl rfl hLo rfl rfl (fun _ _ _ _ => rfl) (fun b G w hb ho => zD (.inl rfl) (ev_pre hLo 6 rfl (ho 6 (by rfl)) (HS1.get 1 rfl)))) ?_
    refine zA (zC 1 _ rfl rfl hLo rfl rfl (fun _ _ _ _ => rfl) (fun b G w hb ho => zJ rfl (zB hLo 0 rfl HS1.1 rfl (hb 0 (by rfl))) (rfl) (rb_sub (rfl) _ _ _))) ?_
    refine zA (zC 2 _ rfl rfl hLo rfl rfl (fun _ _ _ _ => rfl) (fun b G w hb ho => zH rfl (zG rfl (HS1.get 3 rfl)) (by kernel_rfl))) ?_
    refine zA (zW 3 0 _ _ rfl rfl rfl hLo rfl rfl (fun _ _ _ _ => rfl) (by rfl) (by rfl) (fun b G w hb ho hr => zP hr (Nat.le_of_ble_eq_true rfl) Tryd.underlying9 rfl rfl (zB hLo 2 rfl HS1.1 rfl (hb 2 (by rfl))))) ?_
    refine zA (zC 4 _ rfl rfl hLo rfl rfl (fun _ _ _ _ => rfl) (fun b G w hb ho => exec_lenS Tryd.underlying9 rfl (zB hLo 3 rfl HS1.1 rfl (hb 3 (by rfl))))) ?_
    refine zA (zC 5 _ rfl rfl hLo rfl rfl (fun _ _ _ _ => rfl) (fun b G w hb ho => zJ rfl (zB hLo 1 rfl HS1.1 rfl (hb 1 (by rfl))) (zB hLo 4 rfl HS1.1 rfl (hb 4 (by rfl))) (rb_sub (rfl) _ _ _))) ?_
    refine zA (zC 6 _ rfl rfl hLo rfl rfl (fun _ _ _ _ => rfl) (fun b G w hb ho => zD (.inr rfl) (zB hLo 5 rfl HS1.1 rfl (hb 5 (by rfl))))) ?_
    exact zF
  clear hLo
  intro G a2 w2 hS hH
  have HS2 : Sl a2 67 [(0, .agg (FR () 6 ((t).sc))), (2, .int .i64 (d)), (3, .pointer (some ⟨g1_0, 0, none⟩)), (6, .int .i64 (0)), (1, .int .i64 (IntKind.i64.wrap (IntKind.i64.wrap (left - 1) - (((t).txt).size : Int))))] := hS
  have HH2 : Held w w2 [⟨g1_0, (), 6, (t).sc, 25⟩] := hH
  clear hS hH HS1 HH1
  refine then_ ?_
  refine wp_seq ?_
  obtain ⟨r1, hr1⟩ : ∃ r : Bool, (((d : Int) == 0)) = r := ⟨_, rfl⟩
  refine wp_seq ?_
  have hLo : LOk [(0, 15, .val (.int .i64 (d))), (1, 16, .val (.bool r1))] := lok (by rfl) (by rfl)
  refine zK (wE := w) (sz := 67) (n := 2) [0, 1] [(0, .val (.agg (FR () 6 ((t).sc)))), (2, .val (.int .i64 (d))), (3, .val (.pointer (some ⟨g1_0, 0, none⟩))), (6, .val (.int .i64 (0))), (1, .val (.int .i64 (IntKind.i64.wrap (IntKind.i64.wrap (left - 1) - (((t).txt).size : Int))))), (16, .val (.bool r1))] [(0, 15, .val (.int .i64 (d))), (1, 16, .val (.bool r1))] [⟨g1_0, none, none, (), 6, (t).sc, (t).sc, 25⟩] rfl (by rfl) HH2 rfl rfl hLo rfl HS2 (slS 0 rfl rfl (slS 1 rfl rfl (slS 2 rfl rfl (slS 3 rfl rfl (slS 4 rfl rfl (slL 1 (d := 1) rfl (trivial))))))) ?_ ?_
  · show ∀ i ∈ [0, 1], _
    refine zA (zC 0 _ rfl rfl hLo rfl rfl (fun _ _ _ _ => rfl) (fun b G w hb ho => zD (.inl rfl) (zG rfl (HS2.get 1 rfl)))) ?_
    refine zA (zC 1 _ rfl rfl hLo rfl rfl (fun _ _ _ _ => rfl) (fun b G w hb ho => zJ rfl (zB hLo 0 rfl HS2.1 rfl (hb 0 (by rfl))) (rfl) (rb_eql hr1 _ _ _))) ?_
    exact zF
  clear hLo
  intro G a3 w3 hS hH
  have HS3 : Sl a3 67 [(0, .agg (FR () 6 ((t).sc))), (2, .int .i64 (d)), (3, .pointer (some ⟨g1_0, 0, none⟩)), (6, .int .i64 (0)), (1, .int .i64 (IntKind.i64.wrap (IntKind.i64.wrap (left - 1) - (((t).txt).size : Int)))), (16, .bool r1)] := hS
  have HH3 : Held w w3 [⟨g1_0, (), 6, (t).sc, 25⟩] := hH
  clear hS hH HS2 HH2
  refine then_ ?_
  cases r1
  · skip
    refine wp_cond_false (HS3.get 5 rfl) ?_
    refine wp_skip ?_
    refine then_ ?_
    refine wp_seq ?_
    refine wp_seq ?_
    have hLo : LOk [(0, 7, .val (.int .i64 (0)))] := lok (by rfl) (by rfl)
    refine zK (wE := w) (sz := 67) (n := 1) [0] [(0, .val (.agg (FR () 6 ((t).sc)))), (2, .val (.int .i64 (d))), (3, .val (.pointer (some ⟨g1_0, 0, none⟩))), (6, .val (.int .i64 (0))), (1, .val (.int .i64 (IntKind.i64.wrap (IntKind.i64.wrap (left - 1) - (((t).txt).size : Int))))), (16, .val (.bool false)), (7, .val (.int .i64 (0)))] [(0, 7, .val (.int .i64 (0)))] [⟨g1_0, none, none, (), 6, (t).sc, (t).sc, 25⟩] rfl (by rfl) HH3 rfl rfl hLo rfl HS3 (slS 0 rfl rfl (slS 1 rfl rfl (slS 2 rfl rfl (slS 3 rfl rfl (slS 4 rfl rfl (slS 5 rfl rfl (slL 0 (d := 0) rfl (trivial)))))))) ?_ ?_
    · show ∀ i ∈ [0], _
      refine zA (zC 0 _ rfl rfl hLo rfl rfl (fun _ _ _ _ => rfl) (fun b G w hb ho => zD (.inr rfl) (rfl))) ?_
      exact zF
    clear hLo
    intro G a4 w4 hS hH
    have HS4 : Sl a4 67 [(0, .agg (FR () 6 ((t).sc))), (2, .int .i64 (d)), (3, .pointer (some ⟨g1_0, 0, none⟩)), (6, .int .i64 (0)), (1, .int .i64 (IntKind.i64.wrap (IntKind.i64.wrap (left - 1) - (((t).txt).size : Int)))), (16, .bool false), (7, .int .i64 (0))] := hS
    have HH4 : Held w w4 [⟨g1_0, (), 6, (t).sc, 25⟩] := hH
    clear hS hH HS3 HH3
    refine then_ ?_
    refine wp_block ?_
    have hSq0 : Sl _ 67 [(0, .agg (FR () 6 ((t).sc))), (2, .int .i64 (d)), (3, .pointer (some ⟨g1_0, 0, none⟩)), (6, .int .i64 (0)), (16, .bool false), (7, .int .i64 (0)), (1, .int .i64 (IntKind.i64.wrap (IntKind.i64.wrap (left - 1) - (((t).txt).size : Int))))] := sl_keep HS4 [0, 1, 2, 3, 5, 6, 4] (by rfl)
    refine wp_loop (fun a w' => ∃ i : Nat, ∃ l : Int, i ≤ t.ll ∧ iterW (stepL t d) t.ll (t.ll - i) l = leftL t left d ∧ Sl a 67 [(0, .agg (FR () 6 ((t).sc))), (2, .int .i64 (d)), (3, .pointer (some ⟨g1_0, 0, none⟩)), (6, .int .i64 (0)), (16, .bool false), (7, .int .i64 ((i : Int))), (1, .int .i64 (l))] ∧ Held w w' [⟨g1_0, (), 6, (t).sc, 25⟩]) (fun a w' => t.ll - (intOf (a.eval (.tmp 7))).toNat) ⟨0, leftS t left, Nat.zero_le _, rfl, hSq0, HH4⟩ ?_
    clear hSq0 HS4 HH4
    rintro aq0 wq0 ⟨i, l, hlei, hWi, HSq0, HHq0⟩
    have hm : (intOf (aq0.eval (.tmp 7))).toNat = i := by rw [(HSq0.get 5 rfl)]; rfl
    rw [hm]
    clear hm
    refine wp_seq ?_
    obtain ⟨r2, hr2⟩ : ∃ r : Bool, (decide (((i : Int) : Int) < ((t).ll : Int))) = r := ⟨_, rfl⟩
    cases r2
    · skip
      have hl := it_end1 hWi (by have hq := of_decide_eq_false hr2; omega)
      refine wp_seq ?_
      have hLo : LOk [(0, 17, .val (.int .i64 ((i : Int)))), (1, 18, .val (.pointer (some ⟨g1_0, 4, none⟩))), (2, 19, .val (.slice ((t).xl) ((t).ll) ((t).cl))), (3, 20, .val (.int .i64 (((t).ll : Int)))), (4, 21, .val (.bool false)), (5, 22, .val (.bool false)), (6, 23, .val (undef)), (7, 24, .val (undef)), (8, 25, .val (.bool false))] := lok (by rfl) (by rfl)
      refine zK (wE := w) (sz := 67) (n := 9) [0, 1, 3, 7, 15, 31, 63, 127, 255] [(0, .val (.agg (FR () 6 ((t).sc)))), (2, .val (.int .i64 (d))), (3, .val (.pointer (some ⟨g1_0, 0, none⟩))), (6, .val (.int .i64 (0))), (16, .val (.bool false)), (7, .val (.int .i64 ((i : Int)))), (1, .val (.int .i64 (l))), (25, .val (.bool false))] [(0, 17, .val (.int .i64 ((i : Int)))), (1, 18, .val (.pointer (some ⟨g1_0, 4, none⟩))), (2, 19, .val (.slice ((t).xl) ((t).ll) ((t).cl))), (3, 20, .val (.int .i64 (((t).ll : Int)))), (4, 21, .val (.bool false)), (5, 22, .val (.bool false)), (6, 23, .val (undef)), (7, 24, .val (undef)), (8, 25, .val (.bool false))] [⟨g1_0, none, none, (), 6, (t).sc, (t).sc, 25⟩] rfl (by rfl) HHq0 rfl rfl hLo rfl HSq0 (slS 0 rfl rfl (slS 1 rfl rfl (slS 2 rfl rfl (slS 3 rfl rfl (slS 4 rfl rfl (slS 5 rfl rfl (slS 6 rfl rfl (slL 8 (d := 8) rfl (trivial))))))))) ?_ ?_
      · show ∀ i ∈ [0, 1, 2, 3, 4, 5, 6, 7, 8], _
        refine zA (zC 0 _ rfl rfl hLo rfl rfl (fun _ _ _ _ => rfl) (fun b G w hb ho => zD (.inl rfl) (zG rfl (HSq0.get 5 rfl)))) ?_
        refine zA (zC 1 _ rfl rfl hLo rfl rfl (fun _ _ _ _ => rfl) (fun b G w hb ho => zH rfl (zG rfl (HSq0.get 2 rfl)) (by kernel_rfl))) ?_
        refine zA (zW 2 0 _ _ rfl rfl rfl hLo rfl rfl (fun _ _ _ _ => rfl) (by rfl) (by rfl) (fun b G w hb ho hr => zP hr (Nat.le_of_ble_eq_true rfl) Tryd.underlying22 rfl rfl (zB hLo 1 rfl HSq0.1 rfl (hb 1 (by rfl))))) ?_
        refine zA (zC 3 _ rfl rfl hLo rfl rfl (fun _ _ _ _ => rfl) (fun b G w hb ho => exec_lenL Tryd.underlying22 rfl (zB hLo 2 rfl HSq0.1 rfl (hb 2 (by rfl))))) ?_
        refine zA (zC 4 _ rfl rfl hLo rfl rfl (fun _ _ _ _ => rfl) (fun b G w hb ho => zJ rfl (zB hLo 0 rfl HSq0.1 rfl (hb 0 (by rfl))) (zB hLo 3 rfl HSq0.1 rfl (hb 3 (by rfl))) (rb_lss hr2 _ _ _))) ?_
        refine zA (zC 5 _ rfl rfl hLo rfl rfl (fun _ _ _ _ => rfl) (fun b G w hb ho => zD (.inl rfl) (zB hLo 4 rfl HSq0.1 rfl (hb 4 (by rfl))))) ?_
        refine zA (zL 6 rfl rfl hLo rfl rfl (fun b G hb ho => zE rfl rfl rfl HSq0.1 rfl (zB hLo 5 rfl HSq0.1 rfl (hb 5 (by rfl))) rfl)) ?_
        refine zA (zL 7 rfl rfl hLo rfl rfl (fun b G hb ho => zE rfl rfl rfl HSq0.1 rfl (zB hLo 5 rfl HSq0.1 rfl (hb 5 (by rfl))) rfl)) ?_
        refine zA (zC 8 _ rfl rfl hLo rfl rfl (fun _ _ _ _ => rfl) (fun b G w hb ho => zO rfl (zB hLo 5 rfl HSq0.1 rfl (hb 5 (by rfl))) (rfl))) ?_
        exact zF
      clear hLo
      intro G a5 w5 hS hH
      have HS5 : Sl a5 67 [(0, .agg (FR () 6 ((t).sc))), (2, .int .i64 (d)), (3, .pointer (some ⟨g1_0, 0, none⟩)), (6, .int .i64 (0)), (16, .bool false), (7, .int .i64 ((i : Int))), (1, .int .i64 (l)), (25, .bool false)] := hS
      have HH5 : Held w w5 [⟨g1_0, (), 6, (t).sc, 25⟩] := hH
      clear hS hH HSq0 HHq0
      refine then_ ?_
      refine wp_cond_false (HS5.get 7 rfl) ?_
      refine wp_exit ?_
      refine zV ?_
      refine zV ?_
      refine inBlock_exit ?_
      refine then_ ?_
      refine wp_seq ?_
      refine wp_seq ?_
      have hLo : LOk [(0, 8, .val (.int .i64 (0)))] := lok (by rfl) (by rfl)
      refine zK (wE := w) (sz := 67) (n := 1) [0] [(0, .val (.agg (FR () 6 ((t).sc)))), (2, .val (.int .i64 (d))), (3, .val (.pointer (some ⟨g1_0, 0, none⟩))), (6, .val (.int .i64 (0))), (16, .val (.bool false)), (7, .val (.int .i64 ((i : Int)))), (1, .val (.int .i64 (l))), (25, .val (.bool false)), (8, .val (.int .i64 (0)))] [(0, 8, .val (.int .i64 (0)))] [⟨g1_0, none, none, (), 6, (t).sc, (t).sc, 25⟩] rfl (by rfl) HH5 rfl rfl hLo rfl HS5 (slS 0 rfl rfl (slS 1 rfl rfl (slS 2 rfl rfl (slS 3 rfl rfl (slS 4 rfl rfl (slS 5 rfl rfl (slS 6 rfl rfl (slS 7 rfl rfl (slL 0 (d := 0) rfl (trivial)))))))))) ?_ ?_
      · show ∀ i ∈ [0], _
        refine zA (zC 0 _ rfl rfl hLo rfl rfl (fun _ _ _ _ => rfl) (fun b G w hb ho => zD (.inr rfl) (rfl))) ?_
        exact zF
      clear hLo
      intro G a6 w6 hS hH
      have HS6 : Sl a6 67 [(0, .agg (FR () 6 ((t).sc))), (2, .int .i64 (d)), (3, .pointer (some ⟨g1_0, 0, none⟩)), (6, .int .i64 (0)), (16, .bool false), (7, .int .i64 ((i : Int))), (1, .int .i64 (l)), (25, .bool false), (8, .int .i64 (0))] := hS
      have HH6 : Held w w6 [⟨g1_0, (), 6, (t).sc, 25⟩] := hH
      clear hS hH HS5 HH5
      refine then_ ?_
      refine wp_block ?_
      have hSq1 : Sl _ 67 [(0, .agg (FR () 6 ((t).sc))), (2, .int .i64 (d)), (3, .pointer (some ⟨g1_0, 0, none⟩)), (6, .int .i64 (0)), (16, .bool false), (7, .int .i64 ((i : Int))), (25, .bool false), (8, .int .i64 (0)), (1, .int .i64 (l))] := sl_keep HS6 [0, 1, 2, 3, 4, 5, 7, 8, 6] (by rfl)
      refine wp_loop (fun a w' => ∃ k : Nat, ∃ m : Int, k ≤ t.ml ∧ iterW (stepM t d) t.ml (t.ml - k) m = iterW (stepM t d) t.ml t.ml (leftL t left d) ∧ Sl a 67 [(0, .agg (FR () 6 ((t).sc))), (2, .int .i64 (d)), (3, .pointer (some ⟨g1_0, 0, none⟩)), (6, .int .i64 (0)), (16, .bool false), (7, .int .i64 ((i : Int))), (25, .bool false), (8, .int .i64 ((k : Int))), (1, .int .i64 (m))] ∧ Held w w' [⟨g1_0, (), 6, (t).sc, 25⟩]) (fun a w' => t.ml - (intOf (a.eval (.tmp 8))).toNat) ⟨0, l, Nat.zero_le _, by rw [hl]; rfl, hSq1, HH6⟩ ?_
      clear hSq1 HS6 HH6
      rintro aq1 wq1 ⟨k, m, hlek, hWk, HSq1, HHq1⟩
      have hm : (intOf (aq1.eval (.tmp 8))).toNat = k := by rw [(HSq1.get 7 rfl)]; rfl
      rw [hm]
      clear hm
      refine wp_seq ?_
      obtain ⟨r3, hr3⟩ : ∃ r : Bool, (decide (((k : Int) : Int) < ((t).ml : Int))) = r := ⟨_, rfl⟩
      cases r3
      · skip
        have hm := it_end1 hWk (by have hq := of_decide_eq_false hr3; omega)
        refine wp_seq ?_
        have hLo : LOk [(0, 37, .val (.int .i64 ((k : Int)))), (1, 38, .val (.pointer (some ⟨g1_0, 5, none⟩))), (2, 39, .val (.slice ((t).xm) ((t).ml) ((t).cm))), (3, 40, .val (.int .i64 (((t).ml : Int)))), (4, 41, .val (.bool false)), (5, 42, .val (.bool false)), (6, 43, .val (undef)), (7, 44, .val (undef)), (8, 45, .val (.bool false))] := lok (by rfl) (by rfl)
        refine zK (wE := w) (sz := 67) (n := 9) [0, 1, 3, 7, 15, 31, 63, 127, 255] [(0, .val (.agg (FR () 6 ((t).sc)))), (2, .val (.int .i64 (d))), (3, .val (.pointer (some ⟨g1_0, 0, none⟩))), (6, .val (.int .i64 (0))), (16, .val (.bool false)), (7, .val (.int .i64 ((i : Int)))), (25, .val (.bool false)), (8, .val (.int .i64 ((k : Int)))), (1, .val (.int .i64 (m))), (45, .val (.bool false))] [(0, 37, .val (.int .i64 ((k : Int)))), (1, 38, .val (.pointer (some ⟨g1_0, 5, none⟩))), (2, 39, .val (.slice ((t).xm) ((t).ml) ((t).cm))), (3, 40, .val (.int .i64 (((t).ml : Int)))), (4, 41, .val (.bool false)), (5, 42, .val (.bool false)), (6, 43, .val (undef)), (7, 44, .val (undef)), (8, 45, .val (.bool false))] [⟨g1_0, none, none, (), 6, (t).sc, (t).sc, 25⟩] rfl (by rfl) HHq1 rfl rfl hLo rfl HSq1 (slS 0 rfl rfl (slS 1 rfl rfl (slS 2 rfl rfl (slS 3 rfl rfl (slS 4 rfl rfl (slS 5 rfl rfl (slS 6 rfl rfl (slS 7 rfl rfl (slS 8 rfl rfl (slL 8 (d := 8) rfl (trivial))))))))))) ?_ ?_
        · show ∀ i ∈ [0, 1, 2, 3, 4, 5, 6, 7, 8], _
          refine zA (zC 0 _ rfl rfl hLo rfl rfl (fun _ _ _ _ => rfl) (fun b G w hb ho => zD (.inl rfl) (zG rfl (HSq1.get 7 rfl)))) ?_
          refine zA (zC 1 _ rfl rfl hLo rfl rfl (fun _ _ _ _ => rfl) (fun b G w hb ho => zH rfl (zG rfl (HSq1.get 2 rfl)) (by kernel_rfl))) ?_
          refine zA (zW 2 0 _ _ rfl rfl rfl hLo rfl rfl (fun _ _ _ _ => rfl) (by rfl) (by rfl) (fun b G w hb ho hr => zP hr (Nat.le_of_ble_eq_true rfl) Tryd.underlying23 rfl rfl (zB hLo 1 rfl HSq1.1 rfl (hb 1 (by rfl))))) ?_
          refine zA (zC 3 _ rfl rfl hLo rfl rfl (fun _ _ _ _ => rfl) (fun b G w hb ho => exec_lenL Tryd.underlying23 rfl (zB hLo 2 rfl HSq1.1 rfl (hb 2 (by rfl))))) ?_
          refine zA (zC 4 _ rfl rfl hLo rfl rfl (fun _ _ _ _ => rfl) (fun b G w hb ho => zJ rfl (zB hLo 0 rfl HSq1.1 rfl (hb 0 (by rfl))) (zB hLo 3 rfl HSq1.1 rfl (hb 3 (by rfl))) (rb_lss hr3 _ _ _))) ?_
          refine zA (zC 5 _ rfl rfl hLo rfl rfl (fun _ _ _ _ => rfl) (fun b G w hb ho => zD (.inl rfl) (zB hLo 4 rfl HSq1.1 rfl (hb 4 (by rfl))))) ?_
          refine zA (zL 6 rfl rfl hLo rfl rfl (fun b G hb ho => zE rfl rfl rfl HSq1.1 rfl (zB hLo 5 rfl HSq1.1 rfl (hb 5 (by rfl))) rfl)) ?_
          refine zA (zL 7 rfl rfl hLo rfl rfl (fun b G hb ho => zE rfl rfl rfl HSq1.1 rfl (zB hLo 5 rfl HSq1.1 rfl (hb 5 (by rfl))) rfl)) ?_
          refine zA (zC 8 _ rfl rfl hLo rfl rfl (fun _ _ _ _ => rfl) (fun b G w hb ho => zO rfl (zB hLo 5 rfl HSq1.1 rfl (hb 5 (by rfl))) (rfl))) ?_
          exact zF
        clear hLo
        intro G a7 w7 hS hH
        have HS7 : Sl a7 67 [(0, .agg (FR () 6 ((t).sc))), (2, .int .i64 (d)), (3, .pointer (some ⟨g1_0, 0, none⟩)), (6, .int .i64 (0)), (16, .bool false), (7, .int .i64 ((i : Int))), (25, .bool false), (8, .int .i64 ((k : Int))), (1, .int .i64 (m)), (45, .bool false)] := hS
        have HH7 : Held w w7 [⟨g1_0, (), 6, (t).sc, 25⟩] := hH
        clear hS hH HSq1 HHq1
        refine then_ ?_
        refine wp_cond_false (HS7.get 9 rfl) ?_
        refine wp_exit ?_
        refine zV ?_
        refine zV ?_
        refine inBlock_exit ?_
        refine then_ ?_
        refine wp_seq ?_
        have hLo : LOk [(0, 66, .val (.int .i64 (m))), (1, 6, .val (.int .i64 (m)))] := lok (by rfl) (by rfl)
        refine zK (wE := w) (sz := 67) (n := 2) [0, 1] [(0, .val (.agg (FR () 6 ((t).sc)))), (2, .val (.int .i64 (d))), (3, .val (.pointer (some ⟨g1_0, 0, none⟩))), (16, .val (.bool false)), (7, .val (.int .i64 ((i : Int)))), (25, .val (.bool false)), (8, .val (.int .i64 ((k : Int)))), (1, .val (.int .i64 (m))), (45, .val (.bool false)), (6, .val (.int .i64 (m)))] [(0, 66, .val (.int .i64 (m))), (1, 6, .val (.int .i64 (m)))] [⟨g1_0, none, none, (), 6, (t).sc, (t).sc, 25⟩] rfl (by rfl) HH7 rfl rfl hLo rfl HS7 (slS 0 rfl rfl (slS 1 rfl rfl (slS 2 rfl rfl (slS 4 rfl rfl (slS 5 rfl rfl (slS 6 rfl rfl (slS 7 rfl rfl (slS 8 rfl rfl (slS 9 rfl rfl (slL 1 (d := 1) rfl (trivial))))))))))) ?_ ?_
        · show ∀ i ∈ [0, 1], _
          refine zA (zC 0 _ rfl rfl hLo rfl rfl (fun _ _ _ _ => rfl) (fun b G w hb ho => zD (.inl rfl) (zG rfl (HS7.get 8 rfl)))) ?_
          refine zA (zC 1 _ rfl rfl hLo rfl rfl (fun _ _ _ _ => rfl) (fun b G w hb ho => zD (.inr rfl) (zB hLo 0 rfl HS7.1 rfl (hb 0 (by rfl))))) ?_
          exact zF
        clear hLo
        intro G a8 w8 hS hH
        have HS8 : Sl a8 67 [(0, .agg (FR () 6 ((t).sc))), (2, .int .i64 (d)), (3, .pointer (some ⟨g1_0, 0, none⟩)), (16, .bool false), (7, .int .i64 ((i : Int))), (25, .bool false), (8, .int .i64 ((k : Int))), (1, .int .i64 (m)), (45, .bool false), (6, .int .i64 (m))] := hS
        have HH8 : Held w w8 [⟨g1_0, (), 6, (t).sc, 25⟩] := hH
        clear hS hH HS7 HH7
        refine then_ ?_
        refine wp_ret ?_
        repeat (first | refine zS ?_ | refine zM ?_)
        exact b_tmp rfl HS8.2.1 (HS8.get 9 rfl) ⟨weigh_ret hIn left d hr1 hm, HH8.1⟩
      · skip
        have hltk : k < t.ml := by have := of_decide_eq_true hr3; omega
        obtain ⟨r4, hr4⟩ : ∃ r : Bool, (decide ((0 : Int) ≤ m)) = r := ⟨_, rfl⟩
        refine wp_seq ?_
        have hLo : LOk [(0, 37, .val (.int .i64 ((k : Int)))), (1, 38, .val (.pointer (some ⟨g1_0, 5, none⟩))), (2, 39, .val (.slice ((t).xm) ((t).ml) ((t).cm))), (3, 40, .val (.int .i64 (((t).ml : Int)))), (4, 41, .val (.bool true)), (5, 42, .val (.bool true)), (6, 43, .val (.int .i64 (m))), (7, 44, .val (.bool r4)), (8, 45, .val (.bool r4))] := lok (by rfl) (by rfl)
        refine zK (wE := w) (sz := 67) (n := 9) [0, 1, 3, 7, 15, 31, 63, 127, 255] [(0, .val (.agg (FR () 6 ((t).sc)))), (2, .val (.int .i64 (d))), (3, .val (.pointer (some ⟨g1_0, 0, none⟩))), (6, .val (.int .i64 (0))), (16, .val (.bool false)), (7, .val (.int .i64 ((i : Int)))), (25, .val (.bool false)), (8, .val (.int .i64 ((k : Int)))), (1, .val (.int .i64 (m))), (45, .val (.bool r4))] [(0, 37, .val (.int .i64 ((k : Int)))), (1, 38, .val (.pointer (some ⟨g1_0, 5, none⟩))), (2, 39, .val (.slice ((t).xm) ((t).ml) ((t).cm))), (3, 40, .val (.int .i64 (((t).ml : Int)))), (4, 41, .val (.bool true)), (5, 42, .val (.bool true)), (6, 43, .val (.int .i64 (m))), (7, 44, .val (.bool r4)), (8, 45, .val (.bool r4))] [⟨g1_0, none, none, (), 6, (t).sc, (t).sc, 25⟩] rfl (by rfl) HHq1 rfl rfl hLo rfl HSq1 (slS 0 rfl rfl (slS 1 rfl rfl (slS 2 rfl rfl (slS 3 rfl rfl (slS 4 rfl rfl (slS 5 rfl rfl (slS 6 rfl rfl (slS 7 rfl rfl (slS 8 rfl rfl (slL 8 (d := 8) rfl (trivial))))))))))) ?_ ?_
        · show ∀ i ∈ [0, 1, 2, 3, 4, 5, 6, 7, 8], _
          refine zA (zC 0 _ rfl rfl hLo rfl rfl (fun _ _ _ _ => rfl) (fun b G w hb ho => zD (.inl rfl) (zG rfl (HSq1.get 7 rfl)))) ?_
          refine zA (zC 1 _ rfl rfl hLo rfl rfl (fun _ _ _ _ => rfl) (fun b G w hb ho => zH rfl (zG rfl (HSq1.get 2 rfl)) (by kernel_rfl))) ?_
          refine zA (zW 2 0 _ _ rfl rfl rfl hLo rfl rfl (fun _ _ _ _ => rfl) (by rfl) (by rfl) (fun b G w hb ho hr => zP hr (Nat.le_of_ble_eq_true rfl) Tryd.underlying23 rfl rfl (zB hLo 1 rfl HSq1.1 rfl (hb 1 (by rfl))))) ?_
          refine zA (zC 3 _ rfl rfl hLo rfl rfl (fun _ _ _ _ => rfl) (fun b G w hb ho => exec_lenL Tryd.underlying23 rfl (zB hLo 2 rfl HSq1.1 rfl (hb 2 (by rfl))))) ?_
          refine zA (zC 4 _ rfl rfl hLo rfl rfl (fun _ _ _ _ => rfl) (fun b G w hb ho => zJ rfl (zB hLo 0 rfl HSq1.1 rfl (hb 0 (by rfl))) (zB hLo 3 rfl HSq1.1 rfl (hb 3 (by rfl))) (rb_lss hr3 _ _ _))) ?_
          refine zA (zC 5 _ rfl rfl hLo rfl rfl (fun _ _ _ _ => rfl) (fun b G w hb ho => zD (.inl rfl) (zB hLo 4 rfl HSq1.1 rfl (hb 4 (by rfl))))) ?_
          refine zA (zC 6 _ rfl rfl hLo rfl rfl (fun b G hb ho => zE rfl rfl rfl HSq1.1 rfl (zB hLo 5 rfl HSq1.1 rfl (hb 5 (by rfl))) rfl) (fun b G w hb ho => zD (.inl rfl) (zG rfl (HSq1.get 8 rfl)))) ?_
          refine zA (zC 7 _ rfl rfl hLo rfl rfl (fun b G hb ho => zE rfl rfl rfl HSq1.1 rfl (zB hLo 5 rfl HSq1.1 rfl (hb 5 (by rfl))) rfl) (fun b G w hb ho => zJ rfl (zB hLo 6 rfl HSq1.1 rfl (hb 6 (by rfl))) (rfl) (rb_geq hr4 _ _ _))) ?_
          refine zA (zC 8 _ rfl rfl hLo rfl rfl (fun _ _ _ _ => rfl) (fun b G w hb ho => zO rfl (zB hLo 5 rfl HSq1.1 rfl (hb 5 (by rfl))) (zB hLo 7 rfl HSq1.1 rfl (hb 7 (by rfl))))) ?_
          exact zF
        clear hLo
        intro G a9 w9 hS hH
        have HS9 : Sl a9 67 [(0, .agg (FR () 6 ((t).sc))), (2, .int .i64 (d)), (3, .pointer (some ⟨g1_0, 0, none⟩)), (6, .int .i64 (0)), (16, .bool false), (7, .int .i64 ((i : Int))), (25, .bool false), (8, .int .i64 ((k : Int))), (1, .int .i64 (m)), (45, .bool r4)] := hS
        have HH9 : Held w w9 [⟨g1_0, (), 6, (t).sc, 25⟩] := hH
        clear hS hH HSq1 HHq1
        refine then_ ?_
        cases r4
        · skip
          have hm := it_end2 hWk (of_decide_eq_false hr4)
          refine wp_cond_false (HS9.get 9 rfl) ?_
          refine wp_exit ?_
          refine zV ?_
          refine zV ?_
          refine inBlock_exit ?_
          refine then_ ?_
          refine wp_seq ?_
          have hLo : LOk [(0, 66, .val (.int .i64 (m))), (1, 6, .val (.int .i64 (m)))] := lok (by rfl) (by rfl)
          refine zK (wE := w) (sz := 67) (n := 2) [0, 1] [(0, .val (.agg (FR () 6 ((t).sc)))), (2, .val (.int .i64 (d))), (3, .val (.pointer (some ⟨g1_0, 0, none⟩))), (16, .val (.bool false)), (7, .val (.int .i64 ((i : Int)))), (25, .val (.bool false)), (8, .val (.int .i64 ((k : Int)))), (1, .val (.int .i64 (m))), (45, .val (.bool false)), (6, .val (.int .i64 (m)))] [(0, 66, .val (.int .i64 (m))), (1, 6, .val (.int .i64 (m)))] [⟨g1_0, none, none, (), 6, (t).sc, (t).sc, 25⟩] rfl (by rfl) HH9 rfl rfl hLo rfl HS9 (slS 0 rfl rfl (slS 1 rfl rfl (slS 2 rfl rfl (slS 4 rfl rfl (slS 5 rfl rfl (slS 6 rfl rfl (slS 7 rfl rfl (slS 8 rfl rfl (slS 9 rfl rfl (slL 1 (d := 1) rfl (trivial))))))))))) ?_ ?_
          · show ∀ i ∈ [0, 1], _
            refine zA (zC 0 _ rfl rfl hLo rfl rfl (fun _ _ _ _ => rfl) (fun b G w hb ho => zD (.inl rfl) (zG rfl (HS9.get 8 rfl)))) ?_
            refine zA (zC 1 _ rfl rfl hLo rfl rfl (fun _ _ _ _ => rfl) (fun b G w hb ho => zD (.inr rfl) (zB hLo 0 rfl HS9.1 rfl (hb 0 (by rfl))))) ?_
            exact zF
          clear hLo
          intro G a10 w10 hS hH
          have HS10 : Sl a10 67 [(0, .agg (FR () 6 ((t).sc))), (2, .int .i64 (d)), (3, .pointer (some ⟨g1_0, 0, none⟩)), (16, .bool false), (7, .int .i64 ((i : Int))), (25, .bool false), (8, .int .i64 ((k : Int))), (1, .int .i64 (m)), (45, .bool false), (6, .int .i64 (m))] := hS
          have HH10 : Held w w10 [⟨g1_0, (), 6, (t).sc, 25⟩] := hH
          clear hS hH HS9 HH9
          refine then_ ?_
          refine wp_ret ?_
          repeat (first | refine zS ?_ | refine zM ?_)
          exact b_tmp rfl HS10.2.1 (HS10.get 9 rfl) ⟨weigh_ret hIn left d hr1 hm, HH10.1⟩
        · skip
          refine wp_cond_true (HS9.get 9 rfl) ?_
          refine wp_skip ?_
          refine then_ ?_
          refine wp_seq ?_
          refine wp_block ?_
          obtain ⟨⟨a1, hx1, hk1, hv1⟩, _, hn1⟩ := (hIn).mems (i := k) (by omega)
          obtain ⟨⟨a2, hx2, hk2, hv2⟩, _, hn2⟩ := (hIn).mems (i := k) (by omega)
          have hLo : LOk [(0, 48, .val (.pointer (some ⟨g1_0, 5, none⟩))), (1, 49, .val (.slice ((t).xm) ((t).ml) ((t).cm))), (2, 50, .val (.int .i64 ((k : Int)))), (3, 51, .val (.pointer (some (a1.add ((k) * 7))))), (4, 52, .val (.pointer (some ((a1.add ((k) * 7)).add 1)))), (5, 53, .val (.agg (FR () 6 (((t).mem (k)).sc)))), (6, 54, .val (.int .i64 (m))), (7, 55, .val (.pointer (some ⟨g1_0, 5, none⟩))), (8, 56, .val (.slice ((t).xm) ((t).ml) ((t).cm))), (9, 57, .val (.int .i64 ((k : Int)))), (10, 58, .val (.pointer (some (a2.add ((k) * 7))))), (11, 59, .val (.pointer (some (a2.add ((k) * 7))))), (12, 60, .val (.string ((t).key (k)))), (13, 61, .val (.int .i64 ((((t).key (k)).size : Int)))), (14, 62, .val (.int .i64 (IntKind.i64.wrap (m - (((t).key (k)).size : Int))))), (15, 63, .val (.int .i64 (d))), (16, 64, .val (.int .i64 (IntKind.i64.wrap (d - 1)))), (17, 65, .val (.int .i64 (stepM t d k m))), (18, 1, .val (.int .i64 (stepM t d k m)))] := lok (by rfl) (by rfl)
          refine region_ (wE := w) (sz := 67) (n := 19) (B := [0, 1, 0, 7, 15, 31, 0, 0, 128, 0, 896, 1920, 3968, 8064, 16320, 0, 32768, 131071, 262143]) [0, 1, 2, 3, 4, 5, 6, 7, 8, 9, 10, 11, 12, 13, 14, 15, 16, 17, 18] [(0, .val (.agg (FR () 6 ((t).sc)))), (2, .val (.int .i64 (d))), (3, .val (.pointer (some ⟨g1_0, 0, none⟩))), (6, .val (.int .i64 (0))), (16, .val (.bool false)), (7, .val (.int .i64 ((i : Int)))), (25, .val (.bool false)), (8, .val (.int .i64 ((k : Int)))), (45, .val (.bool true)), (1, .val (.int .i64 (stepM t d k m)))] [(0, 48, .val (.pointer (some ⟨g1_0, 5, none⟩))), (1, 49, .val (.slice ((t).xm) ((t).ml) ((t).cm))), (2, 50, .val (.int .i64 ((k : Int)))), (3, 51, .val (.pointer (some (a1.add ((k) * 7))))), (4, 52, .val (.pointer (some ((a1.add ((k) * 7)).add 1)))), (5, 53, .val (.agg (FR () 6 (((t).mem (k)).sc)))), (6, 54, .val (.int .i64 (m))), (7, 55, .val (.pointer (some ⟨g1_0, 5, none⟩))), (8, 56, .val (.slice ((t).xm) ((t).ml) ((t).cm))), (9, 57, .val (.int .i64 ((k : Int)))), (10, 58, .val (.pointer (some (a2.add ((k) * 7))))), (11, 59, .val (.pointer (some (a2.add ((k) * 7))))), (12, 60, .val (.string ((t).key (k)))), (13, 61, .val (.int .i64 ((((t).key (k)).size : Int)))), (14, 62, .val (.int .i64 (IntKind.i64.wrap (m - (((t).key (k)).size : Int))))), (15, 63, .val (.int .i64 (d))), (16, 64, .val (.int .i64 (IntKind.i64.wrap (d - 1)))), (17, 65, .val (.int .i64 (stepM t d k m))), (18, 1, .val (.int .i64 (stepM t d k m)))] [⟨g1_0, none, none, (), 6, (t).sc, (t).sc, 25⟩] (by rfl) rfl tabwgh_11 bitswgh_11 (by kernel_rfl) (by kernel_rfl) HH9 rfl rfl hLo rfl HS9 (slS 0 rfl rfl (slS 1 rfl rfl (slS 2 rfl rfl (slS 3 rfl rfl (slS 4 rfl rfl (slS 5 rfl rfl (slS 6 rfl rfl (slS 7 rfl rfl (slS 9 rfl rfl (slL 18 (d := 18) rfl (trivial))))))))))) ?_ ?_
          · show ∀ i ∈ [0, 1, 2, 3, 4, 5, 6, 7, 8, 9, 10, 11, 12, 13, 14, 15, 16, 17, 18], _
            refine zA (zC 0 _ rfl rfl hLo rfl rfl (fun _ _ _ _ => rfl) (fun b G w hb ho => zH rfl (zG rfl (HS9.get 2 rfl)) (by kernel_rfl))) ?_
            refine zA (zW 1 0 _ _ rfl rfl rfl hLo rfl rfl (fun _ _ _ _ => rfl) (by rfl) (by rfl) (fun b G w hb ho hr => zP hr (Nat.le_of_ble_eq_true rfl) Tryd.underlying23 rfl rfl (zB hLo 0 rfl HS9.1 rfl (hb 0 (by rfl))))) ?_
            refine zA (zC 2 _ rfl rfl hLo rfl rfl (fun _ _ _ _ => rfl) (fun b G w hb ho => zD (.inl rfl) (zG rfl (HS9.get 7 rfl)))) ?_
            refine zA (zC 3 _ rfl rfl hLo rfl rfl (fun _ _ _ _ => rfl) (fun b G w hb ho => zU rfl (zB hLo 1 rfl HS9.1 rfl (hb 1 (by rfl))) (zB hLo 2 rfl HS9.1 rfl (hb 2 (by rfl))) (index_sl Tryd.underlying23 (by kernel_rfl) hx1 (by omega) _))) ?_
            refine zA (zC 4 _ rfl rfl hLo rfl rfl (fun _ _ _ _ => rfl) (fun b G w hb ho => zH rfl (zB hLo 3 rfl HS9.1 rfl (hb 3 (by rfl))) (by kernel_rfl))) ?_
            refine zA (st_at 5 ((a1.add ((k) * 7)).add 1) rfl rfl rfl (fun _ _ _ _ => rfl) hLo rfl rfl Tryd.underlying25 (by kernel_rfl) rfl (at7v hv1) (fun b G hb ho => zB hLo 4 rfl HS9.1 rfl (hb 4 (by rfl)))) ?_
            refine zA (zC 6 _ rfl rfl hLo rfl rfl (fun _ _ _ _ => rfl) (fun b G w hb ho => zD (.inl rfl) (ev_pre hLo 18 rfl (ho 18 (by rfl)) (HS9.get 8 rfl)))) ?_
            refine zA (zC 7 _ rfl rfl hLo rfl rfl (fun _ _ _ _ => rfl) (fun b G w hb ho => zH rfl (zG rfl (HS9.get 2 rfl)) (by kernel_rfl))) ?_
            refine zA (zW 8 0 _ _ rfl rfl rfl hLo rfl rfl (fun _ _ _ _ => rfl) (by rfl) (by rfl) (fun b G w hb ho hr => zP hr (Nat.le_of_ble_eq_true rfl) Tryd.underlying23 rfl rfl (zB hLo 7 rfl HS9.1 rfl (hb 7 (by rfl))))) ?_
            refine zA (zC 9 _ rfl rfl hLo rfl rfl (fun _ _ _ _ => rfl) (fun b G w hb ho => zD (.inl rfl) (zG rfl (HS9.get 7 rfl)))) ?_
            refine zA (zC 10 _ rfl rfl hLo rfl rfl (fun _ _ _ _ => rfl) (fun b G w hb ho => zU rfl (zB hLo 8 rfl HS9.1 rfl (hb 8 (by rfl))) (zB hLo 9 rfl HS9.1 rfl (hb 9 (by rfl))) (index_sl Tryd.underlying23 (by kernel_rfl) hx2 (by omega) _))) ?_
            refine zA (zC 11 _ rfl rfl hLo rfl rfl (fun _ _ _ _ => rfl) (fun b G w hb ho => zH rfl (zB hLo 10 rfl HS9.1 rfl (hb 10 (by rfl))) (by kernel_rfl))) ?_
            refine zA (st_at1 12 (a2.add ((k) * 7)) _ rfl rfl rfl (fun _ _ _ _ => rfl) hLo rfl rfl Tryd.underlying9 rfl (hk2) (fun b G hb ho => zB hLo 11 rfl HS9.1 rfl (hb 11 (by rfl)))) ?_
            refine zA (zC 13 _ rfl rfl hLo rfl rfl (fun _ _ _ _ => rfl) (fun b G w hb ho => exec_lenS Tryd.underlying9 rfl (zB hLo 12 rfl HS9.1 rfl (hb 12 (by rfl))))) ?_
            refine zA (zC 14 _ rfl rfl hLo rfl rfl (fun _ _ _ _ => rfl) (fun b G w hb ho => zJ rfl (zB hLo 6 rfl HS9.1 rfl (hb 6 (by rfl))) (zB hLo 13 rfl HS9.1 rfl (hb 13 (by rfl))) (rb_sub (rfl) _ _ _))) ?_
            refine zA (zC 15 _ rfl rfl hLo rfl rfl (fun _ _ _ _ => rfl) (fun b G w hb ho => zD (.inl rfl) (zG rfl (HS9.get 1 rfl)))) ?_
            refine zA (zC 16 _ rfl rfl hLo rfl rfl (fun _ _ _ _ => rfl) (fun b G w hb ho => zJ rfl (zB hLo 15 rfl HS9.1 rfl (hb 15 (by rfl))) (rfl) (rb_sub (rfl) _ _ _))) ?_
            refine zA (st_call 17 _ #[.agg (FR () 6 (((t).mem (k)).sc)), .int .i64 (IntKind.i64.wrap (m - (((t).key (k)).size : Int))), .int .i64 (IntKind.i64.wrap (d - 1))] rfl rfl rfl (fun _ _ _ _ => rfl) hLo rfl rfl Tryd.func13 rfl rfl (fun b G hb ho => args3 (zB hLo 5 rfl HS9.1 rfl (hb 5 (by rfl))) (zB hLo 14 rfl HS9.1 rfl (hb 14 (by rfl))) (zB hLo 16 rfl HS9.1 rfl (hb 16 (by rfl)))) (fun w hw => ihM k (by omega) _ ((hIn.mems (i := k) (by omega)).2.2.below hw) _ _)) ?_
            refine zA (zC 18 _ rfl rfl hLo rfl rfl (fun _ _ _ _ => rfl) (fun b G w hb ho => zD (.inr rfl) (zB hLo 17 rfl HS9.1 rfl (hb 17 (by rfl))))) ?_
            exact zF
          clear hLo
          intro G a11 w11 hS hH
          have HS11 : Sl a11 67 [(0, .agg (FR () 6 ((t).sc))), (2, .int .i64 (d)), (3, .pointer (some ⟨g1_0, 0, none⟩)), (6, .int .i64 (0)), (16, .bool false), (7, .int .i64 ((i : Int))), (25, .bool false), (8, .int .i64 ((k : Int))), (45, .bool true), (1, .int .i64 (stepM t d k m))] := hS
          have HH11 : Held w w11 [⟨g1_0, (), 6, (t).sc, 25⟩] := hH
          clear hS hH HS9 HH9
          refine zT ?_
          refine then_ ?_
          have hLo : LOk [(0, 46, .val (.int .i64 ((k : Int)))), (1, 47, .val (.int .i64 (((k + 1 : Nat) : Int)))), (2, 8, .val (.int .i64 (((k + 1 : Nat) : Int))))] := lok (by rfl) (by rfl)
          refine zK (wE := w) (sz := 67) (n := 3) [0, 1, 3] [(0, .val (.agg (FR () 6 ((t).sc)))), (2, .val (.int .i64 (d))), (3, .val (.pointer (some ⟨g1_0, 0, none⟩))), (6, .val (.int .i64 (0))), (16, .val (.bool false)), (7, .val (.int .i64 ((i : Int)))), (25, .val (.bool false)), (45, .val (.bool true)), (1, .val (.int .i64 (stepM t d k m))), (8, .val (.int .i64 (((k + 1 : Nat) : Int))))] [(0, 46, .val (.int .i64 ((k : Int)))), (1, 47, .val (.int .i64 (((k + 1 : Nat) : Int)))), (2, 8, .val (.int .i64 (((k + 1 : Nat) : Int))))] [⟨g1_0, none, none, (), 6, (t).sc, (t).sc, 25⟩] rfl (by rfl) HH11 rfl rfl hLo rfl HS11 (slS 0 rfl rfl (slS 1 rfl rfl (slS 2 rfl rfl (slS 3 rfl rfl (slS 4 rfl rfl (slS 5 rfl rfl (slS 6 rfl rfl (slS 8 rfl rfl (slS 9 rfl rfl (slL 2 (d := 2) rfl (trivial))))))))))) ?_ ?_
          · show ∀ i ∈ [0, 1, 2], _
            refine zA (zC 0 _ rfl rfl hLo rfl rfl (fun _ _ _ _ => rfl) (fun b G w hb ho => zD (.inl rfl) (ev_pre hLo 2 rfl (ho 2 (by rfl)) (HS11.get 7 rfl)))) ?_
            refine zA (zC 1 _ rfl rfl hLo rfl rfl (fun _ _ _ _ => rfl) (fun b G w hb ho => zJ rfl (zB hLo 0 rfl HS11.1 rfl (hb 0 (by rfl))) (rfl) (rb_add (w_nat (by omega) (by omega)) _ _ _))) ?_
            refine zA (zC 2 _ rfl rfl hLo rfl rfl (fun _ _ _ _ => rfl) (fun b G w hb ho => zD (.inr rfl) (zB hLo 1 rfl HS11.1 rfl (hb 1 (by rfl))))) ?_
            exact zF
          clear hLo
          intro G a12 w12 hS hH
          have HS12 : Sl a12 67 [(0, .agg (FR () 6 ((t).sc))), (2, .int .i64 (d)), (3, .pointer (some ⟨g1_0, 0, none⟩)), (6, .int .i64 (0)), (16, .bool false), (7, .int .i64 ((i : Int))), (25, .bool false), (45, .bool true), (1, .int .i64 (stepM t d k m)), (8, .int .i64 (((k + 1 : Nat) : Int)))] := hS
          have HH12 : Held w w12 [⟨g1_0, (), 6, (t).sc, 25⟩] := hH
          clear hS hH HS11 HH11
          refine then_ ?_
          have hSq1' : Sl _ 67 [(0, .agg (FR () 6 ((t).sc))), (2, .int .i64 (d)), (3, .pointer (some ⟨g1_0, 0, none⟩)), (6, .int .i64 (0)), (16, .bool false), (7, .int .i64 ((i : Int))), (25, .bool false), (8, .int .i64 (((k + 1 : Nat) : Int))), (1, .int .i64 (stepM t d k m))] := sl_keep HS12 [0, 1, 2, 3, 4, 5, 6, 9, 8] (by rfl)
          have hHq1' : Held w _ [⟨g1_0, (), 6, (t).sc, 25⟩] := held_keep HH12 1 rfl
          exact ⟨⟨k + 1, _, by omega, it_next hWk (by omega) (of_decide_eq_true hr4), hSq1', hHq1'⟩, by rw [(hSq1'.get 7 rfl)]; show t.ml - (((k + 1 : Nat) : Int)).toNat < t.ml - k; omega⟩
    · skip
      have hlti : i < t.ll := by have := of_decide_eq_true hr2; omega
      obtain ⟨r5, hr5⟩ : ∃ r : Bool, (decide ((0 : Int) ≤ l)) = r := ⟨_, rfl⟩
      refine wp_seq ?_
      have hLo : LOk [(0, 17, .val (.int .i64 ((i : Int)))), (1, 18, .val (.pointer (some ⟨g1_0, 4, none⟩))), (2, 19, .val (.slice ((t).xl) ((t).ll) ((t).cl))), (3, 20, .val (.int .i64 (((t).ll : Int)))), (4, 21, .val (.bool true)), (5, 22, .val (.bool true)), (6, 23, .val (.int .i64 (l))), (7, 24, .val (.bool r5)), (8, 25, .val (.bool r5))] := lok (by rfl) (by rfl)
      refine zK (wE := w) (sz := 67) (n := 9) [0, 1, 3, 7, 15, 31, 63, 127, 255] [(0, .val (.agg (FR () 6 ((t).sc)))), (2, .val (.int .i64 (d))), (3, .val (.pointer (some ⟨g1_0, 0, none⟩))), (6, .val (.int .i64 (0))), (16, .val (.bool false)), (7, .val (.int .i64 ((i : Int)))), (1, .val (.int .i64 (l))), (25, .val (.bool r5))] [(0, 17, .val (.int .i64 ((i : Int)))), (1, 18, .val (.pointer (some ⟨g1_0, 4, none⟩))), (2, 19, .val (.slice ((t).xl) ((t).ll) ((t).cl))), (3, 20, .val (.int .i64 (((t).ll : Int)))), (4, 21, .val (.bool true)), (5, 22, .val (.bool true)), (6, 23, .val (.int .i64 (l))), (7, 24, .val (.bool r5)), (8, 25, .val (.bool r5))] [⟨g1_0, none, none, (), 6, (t).sc, (t).sc, 25⟩] rfl (by rfl) HHq0 rfl rfl hLo rfl HSq0 (slS 0 rfl rfl (slS 1 rfl rfl (slS 2 rfl rfl (slS 3 rfl rfl (slS 4 rfl rfl (slS 5 rfl rfl (slS 6 rfl rfl (slL 8 (d := 8) rfl (trivial))))))))) ?_ ?_
      · show ∀ i ∈ [0, 1, 2, 3, 4, 5, 6, 7, 8], _
        refine zA (zC 0 _ rfl rfl hLo rfl rfl (fun _ _ _ _ => rfl) (fun b G w hb ho => zD (.inl rfl) (zG rfl (HSq0.get 5 rfl)))) ?_
        refine zA (zC 1 _ rfl rfl hLo rfl rfl (fun _ _ _ _ => rfl) (fun b G w hb ho => zH rfl (zG rfl (HSq0.get 2 rfl)) (by kernel_rfl))) ?_
        refine zA (zW 2 0 _ _ rfl rfl rfl hLo rfl rfl (fun _ _ _ _ => rfl) (by rfl) (by rfl) (fun b G w hb ho hr => zP hr (Nat.le_of_ble_eq_true rfl) Tryd.underlying22 rfl rfl (zB hLo 1 rfl HSq0.1 rfl (hb 1 (by rfl))))) ?_
        refine zA (zC 3 _ rfl rfl hLo rfl rfl (fun _ _ _ _ => rfl) (fun b G w hb ho => exec_lenL Tryd.underlying22 rfl (zB hLo 2 rfl HSq0.1 rfl (hb 2 (by rfl))))) ?_
        refine zA (zC 4 _ rfl rfl hLo rfl rfl (fun _ _ _ _ => rfl) (fun b G w hb ho => zJ rfl (zB hLo 0 rfl HSq0.1 rfl (hb 0 (by rfl))) (zB hLo 3 rfl HSq0.1 rfl (hb 3 (by rfl))) (rb_lss hr2 _ _ _))) ?_
        refine zA (zC 5 _ rfl rfl hLo rfl rfl (fun _ _ _ _ => rfl) (fun b G w hb ho => zD (.inl rfl) (zB hLo 4 rfl HSq0.1 rfl (hb 4 (by rfl))))) ?_
        refine zA (zC 6 _ rfl rfl hLo rfl rfl (fun b G hb ho => zE rfl rfl rfl HSq0.1 rfl (zB hLo 5 rfl HSq0.1 rfl (hb 5 (by rfl))) rfl) (fun b G w hb ho => zD (.inl rfl) (zG rfl (HSq0.get 6 rfl)))) ?_
        refine zA (zC 7 _ rfl rfl hLo rfl rfl (fun b G hb ho => zE rfl rfl rfl HSq0.1 rfl (zB hLo 5 rfl HSq0.1 rfl (hb 5 (by rfl))) rfl) (fun b G w hb ho => zJ rfl (zB hLo 6 rfl HSq0.1 rfl (hb 6 (by rfl))) (rfl) (rb_geq hr5 _ _ _))) ?_
        refine zA (zC 8 _ rfl rfl hLo rfl rfl (fun _ _ _ _ => rfl) (fun b G w hb ho => zO rfl (zB hLo 5 rfl HSq0.1 rfl (hb 5 (by rfl))) (zB hLo 7 rfl HSq0.1 rfl (hb 7 (by rfl))))) ?_
        exact zF
      clear hLo
      intro G a13 w13 hS hH
      have HS13 : Sl a13 67 [(0, .agg (FR () 6 ((t).sc))), (2, .int .i64 (d)), (3, .pointer (some ⟨g1_0, 0, none⟩)), (6, .int .i64 (0)), (16, .bool false), (7, .int .i64 ((i : Int))), (1, .int .i64 (l)), (25, .bool r5)] := hS
      have HH13 : Held w w13 [⟨g1_0, (), 6, (t).sc, 25⟩] := hH
      clear hS hH HSq0 HHq0
      refine then_ ?_
      cases r5
      · skip
        have hl := it_end2 hWi (of_decide_eq_false hr5)
        refine wp_cond_false (HS13.get 7 rfl) ?_
        refine wp_exit ?_
        refine zV ?_
        refine zV ?_
        refine inBlock_exit ?_
        refine then_ ?_
        refine wp_seq ?_
        refine wp_seq ?_
        have hLo : LOk [(0, 8, .val (.int .i64 (0)))] := lok (by rfl) (by rfl)
        refine zK (wE := w) (sz := 67) (n := 1) [0] [(0, .val (.agg (FR () 6 ((t).sc)))), (2, .val (.int .i64 (d))), (3, .val (.pointer (some ⟨g1_0, 0, none⟩))), (6, .val (.int .i64 (0))), (16, .val (.bool false)), (7, .val (.int .i64 ((i : Int)))), (1, .val (.int .i64 (l))), (25, .val (.bool false)), (8, .val (.int .i64 (0)))] [(0, 8, .val (.int .i64 (0)))] [⟨g1_0, none, none, (), 6, (t).sc, (t).sc, 25⟩] rfl (by rfl) HH13 rfl rfl hLo rfl HS13 (slS 0 rfl rfl (slS 1 rfl rfl (slS 2 rfl rfl (slS 3 rfl rfl (slS 4 rfl rfl (slS 5 rfl rfl (slS 6 rfl rfl (slS 7 rfl rfl (slL 0 (d := 0) rfl (trivial)))))))))) ?_ ?_
        · show ∀ i ∈ [0], _
          refine zA (zC 0 _ rfl rfl hLo rfl rfl (fun _ _ _ _ => rfl) (fun b G w hb ho => zD (.inr rfl) (rfl))) ?_
          exact zF
        clear hLo
        intro G a14 w14 hS hH
        have HS14 : Sl a14 67 [(0, .agg (FR () 6 ((t).sc))), (2, .int .i64 (d)), (3, .pointer (some ⟨g1_0, 0, none⟩)), (6, .int .i64 (0)), (16, .bool false), (7, .int .i64 ((i : Int))), (1, .int .i64 (l)), (25, .bool false), (8, .int .i64 (0))] := hS
        have HH14 : Held w w14 [⟨g1_0, (), 6, (t).sc, 25⟩] := hH
        clear hS hH HS13 HH13
        refine then_ ?_
        refine wp_block ?_
        have hSq2 : Sl _ 67 [(0, .agg (FR () 6 ((t).sc))), (2, .int .i64 (d)), (3, .pointer (some ⟨g1_0, 0, none⟩)), (6, .int .i64 (0)), (16, .bool false), (7, .int .i64 ((i : Int))), (25, .bool false), (8, .int .i64 (0)), (1, .int .i64 (l))] := sl_keep HS14 [0, 1, 2, 3, 4, 5, 7, 8, 6] (by rfl)
        refine wp_loop (fun a w' => ∃ k : Nat, ∃ m : Int, k ≤ t.ml ∧ iterW (stepM t d) t.ml (t.ml - k) m = iterW (stepM t d) t.ml t.ml (leftL t left d) ∧ Sl a 67 [(0, .agg (FR () 6 ((t).sc))), (2, .int .i64 (d)), (3, .pointer (some ⟨g1_0, 0, none⟩)), (6, .int .i64 (0)), (16, .bool false), (7, .int .i64 ((i : Int))), (25, .bool false), (8, .int .i64 ((k : Int))), (1, .int .i64 (m))] ∧ Held w w' [⟨g1_0, (), 6, (t).sc, 25⟩]) (fun a w' => t.ml - (intOf (a.eval (.tmp 8))).toNat) ⟨0, l, Nat.zero_le _, by rw [hl]; rfl, hSq2, HH14⟩ ?_
        clear hSq2 HS14 HH14
        rintro aq2 wq2 ⟨k, m, hlek, hWk, HSq2, HHq2⟩
        have hm : (intOf (aq2.eval (.tmp 8))).toNat = k := by rw [(HSq2.get 7 rfl)]; rfl
        rw [hm]
        clear hm
        refine wp_seq ?_
        obtain ⟨r6, hr6⟩ : ∃ r : Bool, (decide (((k : Int) : Int) < ((t).ml : Int))) = r := ⟨_, rfl⟩
        cases r6
        · skip
          have hm := it_end1 hWk (by have hq := of_decide_eq_false hr6; omega)
          refine wp_seq ?_
          have hLo : LOk [(0, 37, .val (.int .i64 ((k : Int)))), (1, 38, .val (.pointer (some ⟨g1_0, 5, none⟩))), (2, 39, .val (.slice ((t).xm) ((t).ml) ((t).cm))), (3, 40, .val (.int .i64 (((t).ml : Int)))), (4, 41, .val (.bool false)), (5, 42, .val (.bool false)), (6, 43, .val (undef)), (7, 44, .val (undef)), (8, 45, .val (.bool false))] := lok (by rfl) (by rfl)
          refine zK (wE := w) (sz := 67) (n := 9) [0, 1, 3, 7, 15, 31, 63, 127, 255] [(0, .val (.agg (FR () 6 ((t).sc)))), (2, .val (.int .i64 (d))), (3, .val (.pointer (some ⟨g1_0, 0, none⟩))), (6, .val (.int .i64 (0))), (16, .val (.bool false)), (7, .val (.int .i64 ((i : Int)))), (25, .val (.bool false)), (8, .val (.int .i64 ((k : Int)))), (1, .val (.int .i64 (m))), (45, .val (.bool false))] [(0, 37, .val (.int .i64 ((k : Int)))), (1, 38, .val (.pointer (some ⟨g1_0, 5, none⟩))), (2, 39, .val (.slice ((t).xm) ((t).ml) ((t).cm))), (3, 40, .val (.int .i64 (((t).ml : Int)))), (4, 41, .val (.bool false)), (5, 42, .val (.bool false)), (6, 43, .val (undef)), (7, 44, .val (undef)), (8, 45, .val (.bool false))] [⟨g1_0, none, none, (), 6, (t).sc, (t).sc, 25⟩] rfl (by rfl) HHq2 rfl rfl hLo rfl HSq2 (slS 0 rfl rfl (slS 1 rfl rfl (slS 2 rfl rfl (slS 3 rfl rfl (slS 4 rfl rfl (slS 5 rfl rfl (slS 6 rfl rfl (slS 7 rfl rfl (slS 8 rfl rfl (slL 8 (d := 8) rfl (trivial))))))))))) ?_ ?_
          · show ∀ i ∈ [0, 1, 2, 3, 4, 5, 6, 7, 8], _
            refine zA (zC 0 _ rfl rfl hLo rfl rfl (fun _ _ _ _ => rfl) (fun b G w hb ho => zD (.inl rfl) (zG rfl (HSq2.get 7 rfl)))) ?_
            refine zA (zC 1 _ rfl rfl hLo rfl rfl (fun _ _ _ _ => rfl) (fun b G w hb ho => zH rfl (zG rfl (HSq2.get 2 rfl)) (by kernel_rfl))) ?_
            refine zA (zW 2 0 _ _ rfl rfl rfl hLo rfl rfl (fun _ _ _ _ => rfl) (by rfl) (by rfl) (fun b G w hb ho hr => zP hr (Nat.le_of_ble_eq_true rfl) Tryd.underlying23 rfl rfl (zB hLo 1 rfl HSq2.1 rfl (hb 1 (by rfl))))) ?_
            refine zA (zC 3 _ rfl rfl hLo rfl rfl (fun _ _ _ _ => rfl) (fun b G w hb ho => exec_lenL Tryd.underlying23 rfl (zB hLo 2 rfl HSq2.1 rfl (hb 2 (by rfl))))) ?_
            refine zA (zC 4 _ rfl rfl hLo rfl rfl (fun _ _ _ _ => rfl) (fun b G w hb ho => zJ rfl (zB hLo 0 rfl HSq2.1 rfl (hb 0 (by rfl))) (zB hLo 3 rfl HSq2.1 rfl (hb 3 (by rfl))) (rb_lss hr6 _ _ _))) ?_
            refine zA (zC 5 _ rfl rfl hLo rfl rfl (fun _ _ _ _ => rfl) (fun b G w hb ho => zD (.inl rfl) (zB hLo 4 rfl HSq2.1 rfl (hb 4 (by rfl))))) ?_
            refine zA (zL 6 rfl rfl hLo rfl rfl (fun b G hb ho => zE rfl rfl rfl HSq2.1 rfl (zB hLo 5 rfl HSq2.1 rfl (hb 5 (by rfl))) rfl)) ?_
            refine zA (zL 7 rfl rfl hLo rfl rfl (fun b G hb ho => zE rfl rfl rfl HSq2.1 rfl (zB hLo 5 rfl HSq2.1 rfl (hb 5 (by rfl))) rfl)) ?_
            refine zA (zC 8 _ rfl rfl hLo rfl rfl (fun _ _ _ _ => rfl) (fun b G w hb ho => zO rfl (zB hLo 5 rfl HSq2.1 rfl (hb 5 (by rfl))) (rfl))) ?_
            exact zF
          clear hLo
          intro G a15 w15 hS hH
          have HS15 : Sl a15 67 [(0, .agg (FR () 6 ((t).sc))), (2, .int .i64 (d)), (3, .pointer (some ⟨g1_0, 0, none⟩)), (6, .int .i64 (0)), (16, .bool false), (7, .int .i64 ((i : Int))), (25, .bool false), (8, .int .i64 ((k : Int))), (1, .int .i64 (m)), (45, .bool false)] := hS
          have HH15 : Held w w15 [⟨g1_0, (), 6, (t).sc, 25⟩] := hH
          clear hS hH HSq2 HHq2
          refine then_ ?_
          refine wp_cond_false (HS15.get 9 rfl) ?_
          refine wp_exit ?_
          refine zV ?_
          refine zV ?_
          refine inBlock_exit ?_
          refine then_ ?_
          refine wp_seq ?_
          have hLo : LOk [(0, 66, .val (.int .i64 (m))), (1, 6, .val (.int .i64 (m)))] := lok (by rfl) (by rfl)
          refine zK (wE := w) (sz := 67) (n := 2) [0, 1] [(0, .val (.agg (FR () 6 ((t).sc)))), (2, .val (.int .i64 (d))), (3, .val (.pointer (some ⟨g1_0, 0, none⟩))), (16, .val (.bool false)), (7, .val (.int .i64 ((i : Int)))), (25, .val (.bool false)), (8, .val (.int .i64 ((k : Int)))), (1, .val (.int .i64 (m))), (45, .val (.bool false)), (6, .val (.int .i64 (m)))] [(0, 66, .val (.int .i64 (m))), (1, 6, .val (.int .i64 (m)))] [⟨g1_0, none, none, (), 6, (t).sc, (t).sc, 25⟩] rfl (by rfl) HH15 rfl rfl hLo rfl HS15 (slS 0 rfl rfl (slS 1 rfl rfl (slS 2 rfl rfl (slS 4 rfl rfl (slS 5 rfl rfl (slS 6 rfl rfl (slS 7 rfl rfl (slS 8 rfl rfl (slS 9 rfl rfl (slL 1 (d := 1) rfl (trivial))))))))))) ?_ ?_
          · show ∀ i ∈ [0, 1], _
            refine zA (zC 0 _ rfl rfl hLo rfl rfl (fun _ _ _ _ => rfl) (fun b G w hb ho => zD (.inl rfl) (zG rfl (HS15.get 8 rfl)))) ?_
            refine zA (zC 1 _ rfl rfl hLo rfl rfl (fun _ _ _ _ => rfl) (fun b G w hb ho => zD (.inr rfl) (zB hLo 0 rfl HS15.1 rfl (hb 0 (by rfl))))) ?_
            exact zF
          clear hLo
          intro G a16 w16 hS hH
          have HS16 : Sl a16 67 [(0, .agg (FR () 6 ((t).sc))), (2, .int .i64 (d)), (3, .pointer (some ⟨g1_0, 0, none⟩)), (16, .bool false), (7, .int .i64 ((i : Int))), (25, .bool false), (8, .int .i64 ((k : Int))), (1, .int .i64 (m)), (45, .bool false), (6, .int .i64 (m))] := hS
          have HH16 : Held w w16 [⟨g1_0, (), 6, (t).sc, 25⟩] := hH
          clear hS hH HS15 HH15
          refine then_ ?_
          refine wp_ret ?_
          repeat (first | refine zS ?_ | refine zM ?_)
          exact b_tmp rfl HS16.2.1 (HS16.get 9 rfl) ⟨weigh_ret hIn left d hr1 hm, HH16.1⟩
        · skip
          have hltk : k < t.ml := by have := of_decide_eq_true hr6; omega
          obtain ⟨r7, hr7⟩ : ∃ r : Bool, (decide ((0 : Int) ≤ m)) = r := ⟨_, rfl⟩
          refine wp_seq ?_
          have hLo : LOk [(0, 37, .val (.int .i64 ((k : Int)))), (1, 38, .val (.pointer (some ⟨g1_0, 5, none⟩))), (2, 39, .val (.slice ((t).xm) ((t).ml) ((t).cm))), (3, 40, .val (.int .i64 (((t).ml : Int)))), (4, 41, .val (.bool true)), (5, 42, .val (.bool true)), (6, 43, .val (.int .i64 (m))), (7, 44, .val (.bool r7)), (8, 45, .val (.bool r7))] := lok (by rfl) (by rfl)
          refine zK (wE := w) (sz := 67) (n := 9) [0, 1, 3, 7, 15, 31, 63, 127, 255] [(0, .val (.agg (FR () 6 ((t).sc)))), (2, .val (.int .i64 (d))), (3, .val (.pointer (some ⟨g1_0, 0, none⟩))), (6, .val (.int .i64 (0))), (16, .val (.bool false)), (7, .val (.int .i64 ((i : Int)))), (25, .val (.bool false)), (8, .val (.int .i64 ((k : Int)))), (1, .val (.int .i64 (m))), (45, .val (.bool r7))] [(0, 37, .val (.int .i64 ((k : Int)))), (1, 38, .val (.pointer (some ⟨g1_0, 5, none⟩))), (2, 39, .val (.slice ((t).xm) ((t).ml) ((t).cm))), (3, 40, .val (.int .i64 (((t).ml : Int)))), (4, 41, .val (.bool true)), (5, 42, .val (.bool true)), (6, 43, .val (.int .i64 (m))), (7, 44, .val (.bool r7)), (8, 45, .val (.bool r7))] [⟨g1_0, none, none, (), 6, (t).sc, (t).sc, 25⟩] rfl (by rfl) HHq2 rfl rfl hLo rfl HSq2 (slS 0 rfl rfl (slS 1 rfl rfl (slS 2 rfl rfl (slS 3 rfl rfl (slS 4 rfl rfl (slS 5 rfl rfl (slS 6 rfl rfl (slS 7 rfl rfl (slS 8 rfl rfl (slL 8 (d := 8) rfl (trivial))))))))))) ?_ ?_
          · show ∀ i ∈ [0, 1, 2, 3, 4, 5, 6, 7, 8], _
            refine zA (zC 0 _ rfl rfl hLo rfl rfl (fun _ _ _ _ => rfl) (fun b G w hb ho => zD (.inl rfl) (zG rfl (HSq2.get 7 rfl)))) ?_
            refine zA (zC 1 _ rfl rfl hLo rfl rfl (fun _ _ _ _ => rfl) (fun b G w hb ho => zH rfl (zG rfl (HSq2.get 2 rfl)) (by kernel_rfl))) ?_
            refine zA (zW 2 0 _ _ rfl rfl rfl hLo rfl rfl (fun _ _ _ _ => rfl) (by rfl) (by rfl) (fun b G w hb ho hr => zP hr (Nat.le_of_ble_eq_true rfl) Tryd.underlying23 rfl rfl (zB hLo 1 rfl HSq2.1 rfl (hb 1 (by rfl))))) ?_
            refine zA (zC 3 _ rfl rfl hLo rfl rfl (fun _ _ _ _ => rfl) (fun b G w hb ho => exec_lenL Tryd.underlying23 rfl (zB hLo 2 rfl HSq2.1 rfl (hb 2 (by rfl))))) ?_
            refine zA (zC 4 _ rfl rfl hLo rfl rfl (fun _ _ _ _ => rfl) (fun b G w hb ho => zJ rfl (zB hLo 0 rfl HSq2.1 rfl (hb 0 (by rfl))) (zB hLo 3 rfl HSq2.1 rfl (hb 3 (by rfl))) (rb_lss hr6 _ _ _))) ?_
            refine zA (zC 5 _ rfl rfl hLo rfl rfl (fun _ _ _ _ => rfl) (fun b G w hb ho => zD (.inl rfl) (zB hLo 4 rfl HSq2.1 rfl (hb 4 (by rfl))))) ?_
            refine zA (zC 6 _ rfl rfl hLo rfl rfl (fun b G hb ho => zE rfl rfl rfl HSq2.1 rfl (zB hLo 5 rfl HSq2.1 rfl (hb 5 (by rfl))) rfl) (fun b G w hb ho => zD (.inl rfl) (zG rfl (HSq2.get 8 rfl)))) ?_
            refine zA (zC 7 _ rfl rfl hLo rfl rfl (fun b G hb ho => zE rfl rfl rfl HSq2.1 rfl (zB hLo 5 rfl HSq2.1 rfl (hb 5 (by rfl))) rfl) (fun b G w hb ho => zJ rfl (zB hLo 6 rfl HSq2.1 rfl (hb 6 (by rfl))) (rfl) (rb_geq hr7 _ _ _))) ?_
            refine zA (zC 8 _ rfl rfl hLo rfl rfl (fun _ _ _ _ => rfl) (fun b G w hb ho => zO rfl (zB hLo 5 rfl HSq2.1 rfl (hb 5 (by rfl))) (zB hLo 7 rfl HSq2.1 rfl (hb 7 (by rfl))))) ?_
            exact zF
          clear hLo
          intro G a17 w17 hS hH
          have HS17 : Sl a17 67 [(0, .agg (FR () 6 ((t).sc))), (2, .int .i64 (d)), (3, .pointer (some ⟨g1_0, 0, none⟩)), (6, .int .i64 (0)), (16, .bool false), (7, .int .i64 ((i : Int))), (25, .bool false), (8, .int .i64 ((k : Int))), (1, .int .i64 (m)), (45, .bool r7)] := hS
          have HH17 : Held w w17 [⟨g1_0, (), 6, (t).sc, 25⟩] := hH
          clear hS hH HSq2 HHq2
          refine then_ ?_
          cases r7
          · skip
            have hm := it_end2 hWk (of_decide_eq_false hr7)
            refine wp_cond_false (HS17.get 9 rfl) ?_
            refine wp_exit ?_
            refine zV ?_
            refine zV ?_
            refine inBlock_exit ?_
            refine then_ ?_
            refine wp_seq ?_
            have hLo : LOk [(0, 66, .val (.int .i64 (m))), (1, 6, .val (.int .i64 (m)))] := lok (by rfl) (by rfl)
            refine zK (wE := w) (sz := 67) (n := 2) [0, 1] [(0, .val (.agg (FR () 6 ((t).sc)))), (2, .val (.int .i64 (d))), (3, .val (.pointer (some ⟨g1_0, 0, none⟩))), (16, .val (.bool false)), (7, .val (.int .i64 ((i : Int)))), (25, .val (.bool false)), (8, .val (.int .i64 ((k : Int)))), (1, .val (.int .i64 (m))), (45, .val (.bool false)), (6, .val (.int .i64 (m)))] [(0, 66, .val (.int .i64 (m))), (1, 6, .val (.int .i64 (m)))] [⟨g1_0, none, none, (), 6, (t).sc, (t).sc, 25⟩] rfl (by rfl) HH17 rfl rfl hLo rfl HS17 (slS 0 rfl rfl (slS 1 rfl rfl (slS 2 rfl rfl (slS 4 rfl rfl (slS 5 rfl rfl (slS 6 rfl rfl (slS 7 rfl rfl (slS 8 rfl rfl (slS 9 rfl rfl (slL 1 (d := 1) rfl (trivial))))))))))) ?_ ?_
            · show ∀ i ∈ [0, 1], _
              refine zA (zC 0 _ rfl rfl hLo rfl rfl (fun _ _ _ _ => rfl) (fun b G w hb ho => zD (.inl rfl) (zG rfl (HS17.get 8 rfl)))) ?_
              refine zA (zC 1 _ rfl rfl hLo rfl rfl (fun _ _ _ _ => rfl) (fun b G w hb ho => zD (.inr rfl) (zB hLo 0 rfl HS17.1 rfl (hb 0 (by rfl))))) ?_
              exact zF
            clear hLo
            intro G a18 w18 hS hH
            have HS18 : Sl a18 67 [(0, .agg (FR () 6 ((t).sc))), (2, .int .i64 (d)), (3, .pointer (some ⟨g1_0, 0, none⟩)), (16, .bool false), (7, .int .i64 ((i : Int))), (25, .bool false), (8, .int .i64 ((k : Int))), (1, .int .i64 (m)), (45, .bool false), (6, .int .i64 (m))] := hS
            have HH18 : Held w w18 [⟨g1_0, (), 6, (t).sc, 25⟩] := hH
            clear hS hH HS17 HH17
            refine then_ ?_
            refine wp_ret ?_
            repeat (first | refine zS ?_ | refine zM ?_)
            exact b_tmp rfl HS18.2.1 (HS18.get 9 rfl) ⟨weigh_ret hIn left d hr1 hm, HH18.1⟩
          · skip
            refine wp_cond_true (HS17.get 9 rfl) ?_
            refine wp_skip ?_
            refine then_ ?_
            refine wp_seq ?_
            refine wp_block ?_
            obtain ⟨⟨a1, hx1, hk1, hv1⟩, _, hn1⟩ := (hIn).mems (i := k) (by omega)
            obtain ⟨⟨a2, hx2, hk2, hv2⟩, _, hn2⟩ := (hIn).mems (i := k) (by omega)
            have hLo : LOk [(0, 48, .val (.pointer (some ⟨g1_0, 5, none⟩))), (1, 49, .val (.slice ((t).xm) ((t).ml) ((t).cm))), (2, 50, .val (.int .i64 ((k : Int)))), (3, 51, .val (.pointer (some (a1.add ((k) * 7))))), (4, 52, .val (.pointer (some ((a1.add ((k) * 7)).add 1)))), (5, 53, .val (.agg (FR () 6 (((t).mem (k)).sc)))), (6, 54, .val (.int .i64 (m))), (7, 55, .val (.pointer (some ⟨g1_0, 5, none⟩))), (8, 56, .val (.slice ((t).xm) ((t).ml) ((t).cm))), (9, 57, .val (.int .i64 ((k : Int)))), (10, 58, .val (.pointer (some (a2.add ((k) * 7))))), (11, 59, .val (.pointer (some (a2.add ((k) * 7))))), (12, 60, .val (.string ((t).key (k)))), (13, 61, .val (.int .i64 ((((t).key (k)).size : Int)))), (14, 62, .val (.int .i64 (IntKind.i64.wrap (m - (((t).key (k)).size : Int))))), (15, 63, .val (.int .i64 (d))), (16, 64, .val (.int .i64 (IntKind.i64.wrap (d - 1)))), (17, 65, .val (.int .i64 (stepM t d k m))), (18, 1, .val (.int .i64 (stepM t d k m)))] := lok (by rfl) (by rfl)
            refine region_ (wE := w) (sz := 67) (n := 19) (B := [0, 1, 0, 7, 15, 31, 0, 0, 128, 0, 896, 1920, 3968, 8064, 16320, 0, 32768, 131071, 262143]) [0, 1, 2, 3, 4, 5, 6, 7, 8, 9, 10, 11, 12, 13, 14, 15, 16, 17, 18] [(0, .val (.agg (FR () 6 ((t).sc)))), (2, .val (.int .i64 (d))), (3, .val (.pointer (some ⟨g1_0, 0, none⟩))), (6, .val (.int .i64 (0))), (16, .val (.bool false)), (7, .val (.int .i64 ((i : Int)))), (25, .val (.bool false)), (8, .val (.int .i64 ((k : Int)))), (45, .val (.bool true)), (1, .val (.int .i64 (stepM t d k m)))] [(0, 48, .val (.pointer (some ⟨g1_0, 5, none⟩))), (1, 49, .val (.slice ((t).xm) ((t).ml) ((t).cm))), (2, 50, .val (.int .i64 ((k : Int)))), (3, 51, .val (.pointer (some (a1.add ((k) * 7))))), (4, 52, .val (.pointer (some ((a1.add ((k) * 7)).add 1)))), (5, 53, .val (.agg (FR () 6 (((t).mem (k)).sc)))), (6, 54, .val (.int .i64 (m))), (7, 55, .val (.pointer (some ⟨g1_0, 5, none⟩))), (8, 56, .val (.slice ((t).xm) ((t).ml) ((t).cm))), (9, 57, .val (.int .i64 ((k : Int)))), (10, 58, .val (.pointer (some (a2.add ((k) * 7))))), (11, 59, .val (.pointer (some (a2.add ((k) * 7))))), (12, 60, .val (.string ((t).key (k)))), (13, 61, .val (.int .i64 ((((t).key (k)).size : Int)))), (14, 62, .val (.int .i64 (IntKind.i64.wrap (m - (((t).key (k)).size : Int))))), (15, 63, .val (.int .i64 (d))), (16, 64, .val (.int .i64 (IntKind.i64.wrap (d - 1)))), (17, 65, .val (.int .i64 (stepM t d k m))), (18, 1, .val (.int .i64 (stepM t d k m)))] [⟨g1_0, none, none, (), 6, (t).sc, (t).sc, 25⟩] (by rfl) rfl tabwgh_11 bitswgh_11 (by kernel_rfl) (by kernel_rfl) HH17 rfl rfl hLo rfl HS17 (slS 0 rfl rfl (slS 1 rfl rfl (slS 2 rfl rfl (slS 3 rfl rfl (slS 4 rfl rfl (slS 5 rfl rfl (slS 6 rfl rfl (slS 7 rfl rfl (slS 9 rfl rfl (slL 18 (d := 18) rfl (trivial))))))))))) ?_ ?_
            · show ∀ i ∈ [0, 1, 2, 3, 4, 5, 6, 7, 8, 9, 10, 11, 12, 13, 14, 15, 16, 17, 18], _
              refine zA (zC 0 _ rfl rfl hLo rfl rfl (fun _ _ _ _ => rfl) (fun b G w hb ho => zH rfl (zG rfl (HS17.get 2 rfl)) (by kernel_rfl))) ?_
              refine zA (zW 1 0 _ _ rfl rfl rfl hLo rfl rfl (fun _ _ _ _ => rfl) (by rfl) (by rfl) (fun b G w hb ho hr => zP hr (Nat.le_of_ble_eq_true rfl) Tryd.underlying23 rfl rfl (zB hLo 0 rfl HS17.1 rfl (hb 0 (by rfl))))) ?_
              refine zA (zC 2 _ rfl rfl hLo rfl rfl (fun _ _ _ _ => rfl) (fun b G w hb ho => zD (.inl rfl) (zG rfl (HS17.get 7 rfl)))) ?_
              refine zA (zC 3 _ rfl rfl hLo rfl rfl (fun _ _ _ _ => rfl) (fun b G w hb ho => zU rfl (zB hLo 1 rfl HS17.1 rfl (hb 1 (by rfl))) (zB hLo 2 rfl HS17.1 rfl (hb 2 (by rfl))) (index_sl Tryd.underlying23 (by kernel_rfl) hx1 (by omega) _))) ?_
              refine zA (zC 4 _ rfl rfl hLo rfl rfl (fun _ _ _ _ => rfl) (fun b G w hb ho => zH rfl (zB hLo 3 rfl HS17.1 rfl (hb 3 (by rfl))) (by kernel_rfl))) ?_
              refine zA (st_at 5 ((a1.add ((k) * 7)).add 1) rfl rfl rfl (fun _ _ _ _ => rfl) hLo rfl rfl Tryd.underlying25 (by kernel_rfl) rfl (at7v hv1) (fun b G hb ho => zB hLo 4 rfl HS17.1 rfl (hb 4 (by rfl)))) ?_
              refine zA (zC 6 _ rfl rfl hLo rfl rfl (fun _ _ _ _ => rfl) (fun b G w hb ho => zD (.inl rfl) (ev_pre hLo 18 rfl (ho 18 (by rfl)) (HS17.get 8 rfl)))) ?_
              refine zA (zC 7 _ rfl rfl hLo rfl rfl (fun _ _ _ _ => rfl) (fun b G w hb ho => zH rfl (zG rfl (HS17.get 2 rfl)) (by kernel_rfl))) ?_
              refine zA (zW 8 0 _ _ rfl rfl rfl hLo rfl rfl (fun _ _ _ _ => rfl) (by rfl) (by rfl) (fun b G w hb ho hr => zP hr (Nat.le_of_ble_eq_true rfl) Tryd.underlying23 rfl rfl (zB hLo 7 rfl HS17.1 rfl (hb 7 (by rfl))))) ?_
              refine zA (zC 9 _ rfl rfl hLo rfl rfl (fun _ _ _ _ => rfl) (fun b G w hb ho => zD (.inl rfl) (zG rfl (HS17.get 7 rfl)))) ?_
              refine zA (zC 10 _ rfl rfl hLo rfl rfl (fun _ _ _ _ => rfl) (fun b G w hb ho => zU rfl (zB hLo 8 rfl HS17.1 rfl (hb 8 (by rfl))) (zB hLo 9 rfl HS17.1 rfl (hb 9 (by rfl))) (index_sl Tryd.underlying23 (by kernel_rfl) hx2 (by omega) _))) ?_
              refine zA (zC 11 _ rfl rfl hLo rfl rfl (fun _ _ _ _ => rfl) (fun b G w hb ho => zH rfl (zB hLo 10 rfl HS17.1 rfl (hb 10 (by rfl))) (by kernel_rfl))) ?_
              refine zA (st_at1 12 (a2.add ((k) * 7)) _ rfl rfl rfl (fun _ _ _ _ => rfl) hLo rfl rfl Tryd.underlying9 rfl (hk2) (fun b G hb ho => zB hLo 11 rfl HS17.1 rfl (hb 11 (by rfl)))) ?_
              refine zA (zC 13 _ rfl rfl hLo rfl rfl (fun _ _ _ _ => rfl) (fun b G w hb ho => exec_lenS Tryd.underlying9 rfl (zB hLo 12 rfl HS17.1 rfl (hb 12 (by rfl))))) ?_
              refine zA (zC 14 _ rfl rfl hLo rfl rfl (fun _ _ _ _ => rfl) (fun b G w hb ho => zJ rfl (zB hLo 6 rfl HS17.1 rfl (hb 6 (by rfl))) (zB hLo 13 rfl HS17.1 rfl (hb 13 (by rfl))) (rb_sub (rfl) _ _ _))) ?_
              refine zA (zC 15 _ rfl rfl hLo rfl rfl (fun _ _ _ _ => rfl) (fun b G w hb ho => zD (.inl rfl) (zG rfl (HS17.get 1 rfl)))) ?_
              refine zA (zC 16 _ rfl rfl hLo rfl rfl (fun _ _ _ _ => rfl) (fun b G w hb ho => zJ rfl (zB hLo 15 rfl HS17.1 rfl (hb 15 (by rfl))) (rfl) (rb_sub (rfl) _ _ _))) ?_
              refine zA (st_call 17 _ #[.agg (FR () 6 (((t).mem (k)).sc)), .int .i64 (IntKind.i64.wrap (m - (((t).key (k)).size : Int))), .int .i64 (IntKind.i64.wrap (d - 1))] rfl rfl rfl (fun _ _ _ _ => rfl) hLo rfl rfl Tryd.func13 rfl rfl (fun b G hb ho => args3 (zB hLo 5 rfl HS17.1 rfl (hb 5 (by rfl))) (zB hLo 14 rfl HS17.1 rfl (hb 14 (by rfl))) (zB hLo 16 rfl HS17.1 rfl (hb 16 (by rfl)))) (fun w hw => ihM k (by omega) _ ((hIn.mems (i := k) (by omega)).2.2.below hw) _ _)) ?_
              refine zA (zC 18 _ rfl rfl hLo rfl rfl (fun _ _ _ _ => rfl) (fun b G w hb ho => zD (.inr rfl) (zB hLo 17 rfl HS17.1 rfl (hb 17 (by rfl))))) ?_
              exact zF
            clear hLo
            intro G a19 w19 hS hH
            have HS19 : Sl a19 67 [(0, .agg (FR () 6 ((t).sc))), (2, .int .i64 (d)), (3, .pointer (some ⟨g1_0, 0, none⟩)), (6, .int .i64 (0)), (16, .bool false), (7, .int .i64 ((i : Int))), (25, .bool false), (8, .int .i64 ((k : Int))), (45, .bool true), (1, .int .i64 (stepM t d k m))] := hS
            have HH19 : Held w w19 [⟨g1_0, (), 6, (t).sc, 25⟩] := hH
            clear hS hH HS17 HH17
            refine zT ?_
            refine then_ ?_
            have hLo : LOk [(0, 46, .val (.int .i64 ((k : Int)))), (1, 47, .val (.int .i64 (((k + 1 : Nat) : Int)))), (2, 8, .val (.int .i64 (((k + 1 : Nat) : Int))))] := lok (by rfl) (by rfl)
            refine zK (wE := w) (sz := 67) (n := 3) [0, 1, 3] [(0, .val (.agg (FR () 6 ((t).sc)))), (2, .val (.int .i64 (d))), (3, .val (.pointer (some ⟨g1_0, 0, none⟩))), (6, .val (.int .i64 (0))), (16, .val (.bool false)), (7, .val (.int .i64 ((i : Int)))), (25, .val (.bool false)), (45, .val (.bool true)), (1, .val (.int .i64 (stepM t d k m))), (8, .val (.int .i64 (((k + 1 : Nat) : Int))))] [(0, 46, .val (.int .i64 ((k : Int)))), (1, 47, .val (.int .i64 (((k + 1 : Nat) : Int)))), (2, 8, .val (.int .i64 (((k + 1 : Nat) : Int))))] [⟨g1_0, none, none, (), 6, (t).sc, (t).sc, 25⟩] rfl (by rfl) HH19 rfl rfl hLo rfl HS19 (slS 0 rfl rfl (slS 1 rfl rfl (slS 2 rfl rfl (slS 3 rfl rfl (slS 4 rfl rfl (slS 5 rfl rfl (slS 6 rfl rfl (slS 8 rfl rfl (slS 9 rfl rfl (slL 2 (d := 2) rfl (trivial))))))))))) ?_ ?_
            · show ∀ i ∈ [0, 1, 2], _
              refine zA (zC 0 _ rfl rfl hLo rfl rfl (fun _ _ _ _ => rfl) (fun b G w hb ho => zD (.inl rfl) (ev_pre hLo 2 rfl (ho 2 (by rfl)) (HS19.get 7 rfl)))) ?_
              refine zA (zC 1 _ rfl rfl hLo rfl rfl (fun _ _ _ _ => rfl) (fun b G w hb ho => zJ rfl (zB hLo 0 rfl HS19.1 rfl (hb 0 (by rfl))) (rfl) (rb_add (w_nat (by omega) (by omega)) _ _ _))) ?_
              refine zA (zC 2 _ rfl rfl hLo rfl rfl (fun _ _ _ _ => rfl) (fun b G w hb ho => zD (.inr rfl) (zB hLo 1 rfl HS19.1 rfl (hb 1 (by rfl))))) ?_
              exact zF
            clear hLo
            intro G a20 w20 hS hH
            have HS20 : Sl a20 67 [(0, .agg (FR () 6 ((t).sc))), (2, .int .i64 (d)), (3, .pointer (some ⟨g1_0, 0, none⟩)), (6, .int .i64 (0)), (16, .bool false), (7, .int .i64 ((i : Int))), (25, .bool false), (45, .bool true), (1, .int .i64 (stepM t d k m)), (8, .int .i64 (((k + 1 : Nat) : Int)))] := hS
            have HH20 : Held w w20 [⟨g1_0, (), 6, (t).sc, 25⟩] := hH
            clear hS hH HS19 HH19
            refine then_ ?_
            have hSq2' : Sl _ 67 [(0, .agg (FR () 6 ((t).sc))), (2, .int .i64 (d)), (3, .pointer (some ⟨g1_0, 0, none⟩)), (6, .int .i64 (0)), (16, .bool false), (7, .int .i64 ((i : Int))), (25, .bool false), (8, .int .i64 (((k + 1 : Nat) : Int))), (1, .int .i64 (stepM t d k m))] := sl_keep HS20 [0, 1, 2, 3, 4, 5, 6, 9, 8] (by rfl)
            have hHq2' : Held w _ [⟨g1_0, (), 6, (t).sc, 25⟩] := held_keep HH20 1 rfl
            exact ⟨⟨k + 1, _, by omega, it_next hWk (by omega) (of_decide_eq_true hr7), hSq2', hHq2'⟩, by rw [(hSq2'.get 7 rfl)]; show t.ml - (((k + 1 : Nat) : Int)).toNat < t.ml - k; omega⟩
      · skip
        refine wp_cond_true (HS13.get 7 rfl) ?_
        refine wp_skip ?_
        refine then_ ?_
        refine wp_seq ?_
        refine wp_block ?_
        obtain ⟨⟨a1, hx1, hv1⟩, hn1⟩ := (hIn).elms (i := i) (by omega)
        have hLo : LOk [(0, 28, .val (.pointer (some ⟨g1_0, 4, none⟩))), (1, 29, .val (.slice ((t).xl) ((t).ll) ((t).cl))), (2, 30, .val (.int .i64 ((i : Int)))), (3, 31, .val (.pointer (some (a1.add ((i) * 6))))), (4, 32, .val (.agg (FR () 6 (((t).elm (i)).sc)))), (5, 33, .val (.int .i64 (l))), (6, 34, .val (.int .i64 (d))), (7, 35, .val (.int .i64 (IntKind.i64.wrap (d - 1)))), (8, 36, .val (.int .i64 (stepL t d i l))), (9, 1, .val (.int .i64 (stepL t d i l)))] := lok (by rfl) (by rfl)
        refine zK (wE := w) (sz := 67) (n := 10) [0, 1, 3, 7, 15, 31, 63, 127, 255, 511] [(0, .val (.agg (FR () 6 ((t).sc)))), (2, .val (.int .i64 (d))), (3, .val (.pointer (some ⟨g1_0, 0, none⟩))), (6, .val (.int .i64 (0))), (16, .val (.bool false)), (7, .val (.int .i64 ((i : Int)))), (25, .val (.bool true)), (1, .val (.int .i64 (stepL t d i l)))] [(0, 28, .val (.pointer (some ⟨g1_0, 4, none⟩))), (1, 29, .val (.slice ((t).xl) ((t).ll) ((t).cl))), (2, 30, .val (.int .i64 ((i : Int)))), (3, 31, .val (.pointer (some (a1.add ((i) * 6))))), (4, 32, .val (.agg (FR () 6 (((t).elm (i)).sc)))), (5, 33, .val (.int .i64 (l))), (6, 34, .val (.int .i64 (d))), (7, 35, .val (.int .i64 (IntKind.i64.wrap (d - 1)))), (8, 36, .val (.int .i64 (stepL t d i l))), (9, 1, .val (.int .i64 (stepL t d i l)))] [⟨g1_0, none, none, (), 6, (t).sc, (t).sc, 25⟩] rfl (by rfl) HH13 rfl rfl hLo rfl HS13 (slS 0 rfl rfl (slS 1 rfl rfl (slS 2 rfl rfl (slS 3 rfl rfl (slS 4 rfl rfl (slS 5 rfl rfl (slS 7 rfl rfl (slL 9 (d := 9) rfl (trivial))))))))) ?_ ?_
        · show ∀ i ∈ [0, 1, 2, 3, 4, 5, 6, 7, 8, 9], _
          refine zA (zC 0 _ rfl rfl hLo rfl rfl (fun _ _ _ _ => rfl) (fun b G w hb ho => zH rfl (zG rfl (HS13.get 2 rfl)) (by kernel_rfl))) ?_
          refine zA (zW 1 0 _ _ rfl rfl rfl hLo rfl rfl (fun _ _ _ _ => rfl) (by rfl) (by rfl) (fun b G w hb ho hr => zP hr (Nat.le_of_ble_eq_true rfl) Tryd.underlying22 rfl rfl (zB hLo 0 rfl HS13.1 rfl (hb 0 (by rfl))))) ?_
          refine zA (zC 2 _ rfl rfl hLo rfl rfl (fun _ _ _ _ => rfl) (fun b G w hb ho => zD (.inl rfl) (zG rfl (HS13.get 5 rfl)))) ?_
          refine zA (zC 3 _ rfl rfl hLo rfl rfl (fun _ _ _ _ => rfl) (fun b G w hb ho => zU rfl (zB hLo 1 rfl HS13.1 rfl (hb 1 (by rfl))) (zB hLo 2 rfl HS13.1 rfl (hb 2 (by rfl))) (index_sl Tryd.underlying22 (by kernel_rfl) hx1 (by omega) _))) ?_
          refine zA (st_at 4 (a1.add ((i) * 6)) rfl rfl rfl (fun _ _ _ _ => rfl) hLo rfl rfl Tryd.underlying25 (by kernel_rfl) rfl (at6e hv1) (fun b G hb ho => zB hLo 3 rfl HS13.1 rfl (hb 3 (by rfl)))) ?_
          refine zA (zC 5 _ rfl rfl hLo rfl rfl (fun _ _ _ _ => rfl) (fun b G w hb ho => zD (.inl rfl) (ev_pre hLo 9 rfl (ho 9 (by rfl)) (HS13.get 6 rfl)))) ?_
          refine zA (zC 6 _ rfl rfl hLo rfl rfl (fun _ _ _ _ => rfl) (fun b G w hb ho => zD (.inl rfl) (zG rfl (HS13.get 1 rfl)))) ?_
          refine zA (zC 7 _ rfl rfl hLo rfl rfl (fun _ _ _ _ => rfl) (fun b G w hb ho => zJ rfl (zB hLo 6 rfl HS13.1 rfl (hb 6 (by rfl))) (rfl) (rb_sub (rfl) _ _ _))) ?_
          refine zA (st_call 8 _ #[.agg (FR () 6 (((t).elm (i)).sc)), .int .i64 (l), .int .i64 (IntKind.i64.wrap (d - 1))] rfl rfl rfl (fun _ _ _ _ => rfl) hLo rfl rfl Tryd.func13 rfl rfl (fun b G hb ho => args3 (zB hLo 4 rfl HS13.1 rfl (hb 4 (by rfl))) (zB hLo 5 rfl HS13.1 rfl (hb 5 (by rfl))) (zB hLo 7 rfl HS13.1 rfl (hb 7 (by rfl)))) (fun w hw => ihL i (by omega) _ ((hIn.elms (i := i) (by omega)).2.below hw) _ _)) ?_
          refine zA (zC 9 _ rfl rfl hLo rfl rfl (fun _ _ _ _ => rfl) (fun b G w hb ho => zD (.inr rfl) (zB hLo 8 rfl HS13.1 rfl (hb 8 (by rfl))))) ?_
          exact zF
        clear hLo
        intro G a21 w21 hS hH
        have HS21 : Sl a21 67 [(0, .agg (FR () 6 ((t).sc))), (2, .int .i64 (d)), (3, .pointer (some ⟨g1_0, 0, none⟩)), (6, .int .i64 (0)), (16, .bool false), (7, .int .i64 ((i : Int))), (25, .bool true), (1, .int .i64 (stepL t d i l))] := hS
        have HH21 : Held w w21 [⟨g1_0, (), 6, (t).sc, 25⟩] := hH
        clear hS hH HS13 HH13
        refine zT ?_
        refine then_ ?_
        have hLo : LOk [(0, 26, .val (.int .i64 ((i : Int)))), (1, 27, .val (.int .i64 (((i + 1 : Nat) : Int)))), (2, 7, .val (.int .i64 (((i + 1 : Nat) : Int))))] := lok (by rfl) (by rfl)
        refine zK (wE := w) (sz := 67) (n := 3) [0, 1, 3] [(0, .val (.agg (FR () 6 ((t).sc)))), (2, .val (.int .i64 (d))), (3, .val (.pointer (some ⟨g1_0, 0, none⟩))), (6, .val (.int .i64 (0))), (16, .val (.bool false)), (25, .val (.bool true)), (1, .val (.int .i64 (stepL t d i l))), (7, .val (.int .i64 (((i + 1 : Nat) : Int))))] [(0, 26, .val (.int .i64 ((i : Int)))), (1, 27, .val (.int .i64 (((i + 1 : Nat) : Int)))), (2, 7, .val (.int .i64 (((i + 1 : Nat) : Int))))] [⟨g1_0, none, none, (), 6, (t).sc, (t).sc, 25⟩] rfl (by rfl) HH21 rfl rfl hLo rfl HS21 (slS 0 rfl rfl (slS 1 rfl rfl (slS 2 rfl rfl (slS 3 rfl rfl (slS 4 rfl rfl (slS 6 rfl rfl (slS 7 rfl rfl (slL 2 (d := 2) rfl (trivial))))))))) ?_ ?_
        · show ∀ i ∈ [0, 1, 2], _
          refine zA (zC 0 _ rfl rfl hLo rfl rfl (fun _ _ _ _ => rfl) (fun b G w hb ho => zD (.inl rfl) (ev_pre hLo 2 rfl (ho 2 (by rfl)) (HS21.get 5 rfl)))) ?_
          refine zA (zC 1 _ rfl rfl hLo rfl rfl (fun _ _ _ _ => rfl) (fun b G w hb ho => zJ rfl (zB hLo 0 rfl HS21.1 rfl (hb 0 (by rfl))) (rfl) (rb_add (w_nat (by omega) (by omega)) _ _ _))) ?_
          refine zA (zC 2 _ rfl rfl hLo rfl rfl (fun _ _ _ _ => rfl) (fun b G w hb ho => zD (.inr rfl) (zB hLo 1 rfl HS21.1 rfl (hb 1 (by rfl))))) ?_
          exact zF
        clear hLo
        intro G a22 w22 hS hH
        have HS22 : Sl a22 67 [(0, .agg (FR () 6 ((t).sc))), (2, .int .i64 (d)), (3, .pointer (some ⟨g1_0, 0, none⟩)), (6, .int .i64 (0)), (16, .bool false), (25, .bool true), (1, .int .i64 (stepL t d i l)), (7, .int .i64 (((i + 1 : Nat) : Int)))] := hS
        have HH22 : Held w w22 [⟨g1_0, (), 6, (t).sc, 25⟩] := hH
        clear hS hH HS21 HH21
        refine then_ ?_
        have hSq0' : Sl _ 67 [(0, .agg (FR () 6 ((t).sc))), (2, .int .i64 (d)), (3, .pointer (some ⟨g1_0, 0, none⟩)), (6, .int .i64 (0)), (16, .bool false), (7, .int .i64 (((i + 1 : Nat) : Int))), (1, .int .i64 (stepL t d i l))] := sl_keep HS22 [0, 1, 2, 3, 4, 7, 6] (by rfl)
        have hHq0' : Held w _ [⟨g1_0, (), 6, (t).sc, 25⟩] := held_keep HH22 1 rfl
        exact ⟨⟨i + 1, _, by omega, it_next hWi (by omega) (of_decide_eq_true hr5), hSq0', hHq0'⟩, by rw [(hSq0'.get 5 rfl)]; show t.ll - (((i + 1 : Nat) : Int)).toNat < t.ll - i; omega⟩
  · skip
    refine wp_cond_true (HS3.get 5 rfl) ?_
    refine wp_seq ?_
    have hLo : LOk [(0, 6, .val (.int .i64 (-1)))] := lok (by rfl) (by rfl)
    refine zK (wE := w) (sz := 67) (n := 1) [0] [(0, .val (.agg (FR () 6 ((t).sc)))), (2, .val (.int .i64 (d))), (3, .val (.pointer (some ⟨g1_0, 0, none⟩))), (1, .val (.int .i64 (IntKind.i64.wrap (IntKind.i64.wrap (left - 1) - (((t).txt).size : Int))))), (16, .val (.bool true)), (6, .val (.int .i64 (-1)))] [(0, 6, .val (.int .i64 (-1)))] [⟨g1_0, none, none, (), 6, (t).sc, (t).sc, 25⟩] rfl (by rfl) HH3 rfl rfl hLo rfl HS3 (slS 0 rfl rfl (slS 1 rfl rfl (slS 2 rfl rfl (slS 4 rfl rfl (slS 5 rfl rfl (slL 0 (d := 0) rfl (trivial))))))) ?_ ?_
    · show ∀ i ∈ [0], _
      refine zA (zC 0 _ rfl rfl hLo rfl rfl (fun _ _ _ _ => rfl) (fun b G w hb ho => zD (.inr rfl) (rfl))) ?_
      exact zF
    clear hLo
    intro G a23 w23 hS hH
    have HS23 : Sl a23 67 [(0, .agg (FR () 6 ((t).sc))), (2, .int .i64 (d)), (3, .pointer (some ⟨g1_0, 0, none⟩)), (1, .int .i64 (IntKind.i64.wrap (IntKind.i64.wrap (left - 1) - (((t).txt).size : Int)))), (16, .bool true), (6, .int .i64 (-1))] := hS
    have HH23 : Held w w23 [⟨g1_0, (), 6, (t).sc, 25⟩] := hH
    clear hS hH HS3 HH3
    refine then_ ?_
    refine wp_ret ?_
    repeat (first | refine zS ?_ | refine zM ?_)
    exact b_tmp rfl HS23.2.1 (HS23.get 5 rfl) ⟨weigh_ret0 hIn left d hr1, HH23.1⟩
theorem weigh_calls : ∀ (t : T) (w : World), In w t → ∀ left d, Calls Tryd.prog 13 #[t.val, .int .i64 left, .int .i64 d] w fun e w' => e = .returned (.int .i64 (weigh t left d)) ∧ Below w.heap.size w w' :=
  T.rec2 (Q := fun t => ∀ w : World, In w t → ∀ left d, Calls Tryd.prog 13 #[t.val, .int .i64 left, .int .i64 d] w fun e w' => e = .returned (.int .i64 (weigh t left d)) ∧ Below w.heap.size w w') fun t ihM ihL w hIn left d => weigh_step left d hIn ihM ihL
theorem great_ret1 {t : T} (h : decide ((weigh t 4096 60 : Int) < 0) = true) : Ending.returned (.bool true) = .returned (.bool (greatB t)) := by unfold greatB; rw [h]; rfl
theorem great_ret2 {t : T} {r : Bool} (h : decide ((weigh t 4096 60 : Int) < 0) = false) (h2 : risesB t = r) : Ending.returned (.bool (!r)) = .returned (.bool (greatB t)) := by unfold greatB; rw [h, h2]; rfl
theorem great_calls {w : World} {t : T} (hIn : In w t) : Calls Tryd.prog 6 #[.agg (FR () 6 ((t).sc))] w fun e w' => e = .returned (.bool (greatB t)) ∧ Below w.heap.size w w' := by
  refine enter_ 11 Tryd.func6 rfl rfl (fun a0 hS => ?_)
  have HS0 : Sl a0 11 [(0, .agg (FR () 6 ((t).sc)))] := hS
  have HH0 : Held w w [] := Held.first w
  clear hS
  refine wp_seq ?_
  have hLo : LOk [(0, 1, .new 0 (fun g => .pointer (some ⟨g, 0, none⟩))), (1, 2, .val (.bool false))] := lok (by rfl) (by rfl)
  refine zK (wE := w) (sz := 11) (n := 2) [0, 1] [(0, .val (.agg (FR () 6 ((t).sc)))), (1, .new 0 (fun g => .pointer (some ⟨g, 0, none⟩))), (2, .val (.bool false))] [(0, 1, .new 0 (fun g => .pointer (some ⟨g, 0, none⟩))), (1, 2, .val (.bool false))] [⟨0, some 0, none, (), 6, (t).sc, (t).sc, 25⟩] rfl (by rfl) HH0 rfl rfl hLo rfl HS0 (slS 0 rfl rfl (slL 0 (d := 0) rfl (slL 1 (d := 1) rfl (trivial)))) ?_ ?_
  · show ∀ i ∈ [0, 1], _
    refine zA (st_alloc 0 0 () 6 25 none _ _ rfl rfl (fun _ _ _ _ => rfl) rfl hLo rfl rfl rfl rfl (by rfl) (fun b G w hb ho => exec_box rfl (zG rfl (HS0.get 0 rfl)) (by kernel_rfl))) ?_
    refine zA (zC 1 _ rfl rfl hLo rfl rfl (fun _ _ _ _ => rfl) (fun b G w hb ho => zD (.inr rfl) (rfl))) ?_
    exact zF
  clear hLo
  intro G a1 w1 hS hH
  have HS1 : Sl a1 11 [(0, .agg (FR () 6 ((t).sc))), (1, .pointer (some ⟨(G 0), 0, none⟩)), (2, .bool false)] := hS
  have HH1 : Held w w1 [⟨(G 0), (), 6, (t).sc, 25⟩] := hH
  clear hS hH HS0 HH0
  generalize G 0 = g1_0 at HS1 HH1
  refine then_ ?_
  obtain ⟨r1, hr1⟩ : ∃ r : Bool, (decide ((weigh t 4096 60 : Int) < 0)) = r := ⟨_, rfl⟩
  cases r1
  · skip
    obtain ⟨r2, hr2⟩ : ∃ r : Bool, (risesB t) = r := ⟨_, rfl⟩
    refine wp_seq ?_
    have hLo : LOk [(0, 3, .val (.agg (FR () 6 ((t).sc)))), (1, 4, .val (.int .i64 (weigh t 4096 60))), (2, 5, .val (.bool false)), (3, 6, .val (.bool false)), (4, 7, .val (.agg (FR () 6 ((t).sc)))), (5, 8, .val (.bool r2)), (6, 9, .val (.bool (!r2))), (7, 10, .val (.bool (!r2))), (8, 2, .val (.bool (!r2)))] := lok (by rfl) (by rfl)
    refine zK (wE := w) (sz := 11) (n := 9) [0, 1, 3, 7, 15, 31, 63, 127, 255] [(0, .val (.agg (FR () 6 ((t).sc)))), (1, .val (.pointer (some ⟨g1_0, 0, none⟩))), (2, .val (.bool (!r2)))] [(0, 3, .val (.agg (FR () 6 ((t).sc)))), (1, 4, .val (.int .i64 (weigh t 4096 60))), (2, 5, .val (.bool false)), (3, 6, .val (.bool false)), (4, 7, .val (.agg (FR () 6 ((t).sc)))), (5, 8, .val (.bool r2)), (6, 9, .val (.bool (!r2))), (7, 10, .val (.bool (!r2))), (8, 2, .val (.bool (!r2)))] [⟨g1_0, none, none, (), 6, (t).sc, (t).sc, 25⟩] rfl (by rfl) HH1 rfl rfl hLo rfl HS1 (slS 0 rfl rfl (slS 1 rfl rfl (slL 8 (d := 8) rfl (trivial)))) ?_ ?_
    · show ∀ i ∈ [0, 1, 2, 3, 4, 5, 6, 7, 8], _
      refine zA (st_row0 0 0 _ rfl rfl rfl rfl (fun _ _ _ _ => rfl) hLo rfl rfl rfl (by rfl) Tryd.underlying25 (by kernel_rfl) rfl (fun b G hb ho => zG rfl (HS1.get 1 rfl))) ?_
      refine zA (st_call 1 _ #[.agg (FR () 6 ((t).sc)), .int .i64 (4096), .int .i64 (60)] rfl rfl rfl (fun _ _ _ _ => rfl) hLo rfl rfl Tryd.func13 rfl rfl (fun b G hb ho => args3 (zB hLo 0 rfl HS1.1 rfl (hb 0 (by rfl))) (rfl) (rfl)) (fun w hw => weigh_calls t _ (hIn.below hw) _ _)) ?_
      refine zA (zC 2 _ rfl rfl hLo rfl rfl (fun _ _ _ _ => rfl) (fun b G w hb ho => zJ rfl (zB hLo 1 rfl HS1.1 rfl (hb 1 (by rfl))) (rfl) (rb_lss hr1 _ _ _))) ?_
      refine zA (zC 3 _ rfl rfl hLo rfl rfl (fun _ _ _ _ => rfl) (fun b G w hb ho => zD (.inl rfl) (zB hLo 2 rfl HS1.1 rfl (hb 2 (by rfl))))) ?_
      refine zA (st_row0 4 0 _ rfl rfl rfl rfl (fun b G hb ho => zE rfl rfl rfl HS1.1 rfl (zB hLo 3 rfl HS1.1 rfl (hb 3 (by rfl))) rfl) hLo rfl rfl rfl (by rfl) Tryd.underlying25 (by kernel_rfl) rfl (fun b G hb ho => zG rfl (HS1.get 1 rfl))) ?_
      refine zA (st_call 5 _ #[.agg (FR () 6 ((t).sc))] rfl rfl rfl (fun b G hb ho => zE rfl rfl rfl HS1.1 rfl (zB hLo 3 rfl HS1.1 rfl (hb 3 (by rfl))) rfl) hLo rfl rfl Tryd.func14 rfl rfl (fun b G hb ho => args1 (zB hLo 4 rfl HS1.1 rfl (hb 4 (by rfl)))) (fun w hw => (by have hq := rises_calls t _ (hIn.below hw); rw [hr2] at hq; exact hq))) ?_
      refine zA (zC 6 _ rfl rfl hLo rfl rfl (fun b G hb ho => zE rfl rfl rfl HS1.1 rfl (zB hLo 3 rfl HS1.1 rfl (hb 3 (by rfl))) rfl) (fun b G w hb ho => exec_un rfl (zB hLo 5 rfl HS1.1 rfl (hb 5 (by rfl))) (ru_not _))) ?_
      refine zA (zC 7 _ rfl rfl hLo rfl rfl (fun _ _ _ _ => rfl) (fun b G w hb ho => zO rfl (zB hLo 3 rfl HS1.1 rfl (hb 3 (by rfl))) (zB hLo 6 rfl HS1.1 rfl (hb 6 (by rfl))))) ?_
      refine zA (zC 8 _ rfl rfl hLo rfl rfl (fun _ _ _ _ => rfl) (fun b G w hb ho => zD (.inr rfl) (zB hLo 7 rfl HS1.1 rfl (hb 7 (by rfl))))) ?_
      exact zF
    clear hLo
    intro G a2 w2 hS hH
    have HS2 : Sl a2 11 [(0, .agg (FR () 6 ((t).sc))), (1, .pointer (some ⟨g1_0, 0, none⟩)), (2, .bool (!r2))] := hS
    have HH2 : Held w w2 [⟨g1_0, (), 6, (t).sc, 25⟩] := hH
    clear hS hH HS1 HH1
    refine then_ ?_
    refine wp_ret ?_
    repeat (first | refine zS ?_ | refine zM ?_)
    exact b_tmp rfl HS2.2.1 (HS2.get 2 rfl) ⟨great_ret2 hr1 hr2, HH2.1⟩
  · skip
    refine wp_seq ?_
    have hLo : LOk [(0, 3, .val (.agg (FR () 6 ((t).sc)))), (1, 4, .val (.int .i64 (weigh t 4096 60))), (2, 5, .val (.bool true)), (3, 6, .val (.bool true)), (4, 7, .val (undef)), (5, 8, .val (undef)), (6, 9, .val (undef)), (7, 10, .val (.bool true)), (8, 2, .val (.bool true))] := lok (by rfl) (by rfl)
    refine zK (wE := w) (sz := 11) (n := 9) [0, 1, 3, 7, 15, 31, 63, 127, 255] [(0, .val (.agg (FR () 6 ((t).sc)))), (1, .val (.pointer (some ⟨g1_0, 0, none⟩))), (2, .val (.bool true))] [(0, 3, .val (.agg (FR () 6 ((t).sc)))), (1, 4, .val (.int .i64 (weigh t 4096 60))), (2, 5, .val (.bool true)), (3, 6, .val (.bool true)), (4, 7, .val (undef)), (5, 8, .val (undef)), (6, 9, .val (undef)), (7, 10, .val (.bool true)), (8, 2, .val (.bool true))] [⟨g1_0, none, none, (), 6, (t).sc, (t).sc, 25⟩] rfl (by rfl) HH1 rfl rfl hLo rfl HS1 (slS 0 rfl rfl (slS 1 rfl rfl (slL 8 (d := 8) rfl (trivial)))) ?_ ?_
    · show ∀ i ∈ [0, 1, 2, 3, 4, 5, 6, 7, 8], _
      refine zA (st_row0 0 0 _ rfl rfl rfl rfl (fun _ _ _ _ => rfl) hLo rfl rfl rfl (by rfl) Tryd.underlying25 (by kernel_rfl) rfl (fun b G hb ho => zG rfl (HS1.get 1 rfl))) ?_
      refine zA (st_call 1 _ #[.agg (FR () 6 ((t).sc)), .int .i64 (4096), .int .i64 (60)] rfl rfl rfl (fun _ _ _ _ => rfl) hLo rfl rfl Tryd.func13 rfl rfl (fun b G hb ho => args3 (zB hLo 0 rfl HS1.1 rfl (hb 0 (by rfl))) (rfl) (rfl)) (fun w hw => weigh_calls t _ (hIn.below hw) _ _)) ?_
      refine zA (zC 2 _ rfl rfl hLo rfl rfl (fun _ _ _ _ => rfl) (fun b G w hb ho => zJ rfl (zB hLo 1 rfl HS1.1 rfl (hb 1 (by rfl))) (rfl) (rb_lss hr1 _ _ _))) ?_
      refine zA (zC 3 _ rfl rfl hLo rfl rfl (fun _ _ _ _ => rfl) (fun b G w hb ho => zD (.inl rfl) (zB hLo 2 rfl HS1.1 rfl (hb 2 (by rfl))))) ?_
      refine zA (zL 4 rfl rfl hLo rfl rfl (fun b G hb ho => zE rfl rfl rfl HS1.1 rfl (zB hLo 3 rfl HS1.1 rfl (hb 3 (by rfl))) rfl)) ?_
      refine zA (zL 5 rfl rfl hLo rfl rfl (fun b G hb ho => zE rfl rfl rfl HS1.1 rfl (zB hLo 3 rfl HS1.1 rfl (hb 3 (by rfl))) rfl)) ?_
      refine zA (zL 6 rfl rfl hLo rfl rfl (fun b G hb ho => zE rfl rfl rfl HS1.1 rfl (zB hLo 3 rfl HS1.1 rfl (hb 3 (by rfl))) rfl)) ?_
      refine zA (zC 7 _ rfl rfl hLo rfl rfl (fun _ _ _ _ => rfl) (fun b G w hb ho => zO rfl (zB hLo 3 rfl HS1.1 rfl (hb 3 (by rfl))) (rfl))) ?_
      refine zA (zC 8 _ rfl rfl hLo rfl rfl (fun _ _ _ _ => rfl) (fun b G w hb ho => zD (.inr rfl) (zB hLo 7 rfl HS1.1 rfl (hb 7 (by rfl))))) ?_
      exact zF
    clear hLo
    intro G a3 w3 hS hH
    have HS3 : Sl a3 11 [(0, .agg (FR () 6 ((t).sc))), (1, .pointer (some ⟨g1_0, 0, none⟩)), (2, .bool true)] := hS
    have HH3 : Held w w3 [⟨g1_0, (), 6, (t).sc, 25⟩] := hH
    clear hS hH HS1 HH1
    refine then_ ?_
    refine wp_ret ?_
    repeat (first | refine zS ?_ | refine zM ?_)
    exact b_tmp rfl HS3.2.1 (HS3.get 2 rfl) ⟨great_ret1 hr1, HH3.1⟩
end Go.Proofs.YtlfplmlehbomlaaDoor.P
end

section
namespace Go.Proofs.YtlfplmlehbomlaaDoor.P
set_option linter.unusedVariables false
set_option linter.unusedSimpArgs false
open Go.ChangeShapes Go.WideShapes
def NM (i : Nat) : ByteArray := [k_ban, k_events_default, k_invite, k_kick, k_redact, k_state_default, k_users_default].getD i ByteArray.empty
def LV (i : Nat) : Int := [50, 0, 0, 50, 50, 50, 0].getD i 0
def Tab (W : World) : Prop := ∃ (a : Addr) (c : Nat), W.cell? ⟨0, 0, none⟩ = some (.slice (some a) 7 c) ∧ ∀ i, i < 7 → W.cell? (a.add (i * 2)) = some (.string (NM i)) ∧ W.cell? (a.add (i * 2 + 1)) = some (.int .i64 (LV i))
theorem gNames : Tryd.prog.globalNamed "hustings/power.names" = some 0 := by kernel_rfl
theorem tNames : (Tryd.prog.globals[(0 : Nat)]?).map (·.type) = some 28 := by kernel_rfl
theorem tab_of {W : World} (h : laidMetH Tryd.prog [("hustings/power.names", Rows.laid_hustings_power_names)] W) : Tab W := by
  rw [MakeChecks.laidMetH_plain _ _ _ (by kernel_rfl)] at h
  obtain ⟨ps, hL, _, _⟩ := h
  obtain ⟨g, t, cs, fuel, p, q, hg, ht, hv, htr, _, _⟩ := hL
  obtain rfl : 0 = g := Option.some.inj (gNames.symm.trans hg)
  obtain rfl : 28 = t := Option.some.inj (tNames.symm.trans ht)
  rcases DataW.trod_slice Tryd.underlying28 htr with ⟨_, hx⟩ | ⟨a, len, cap, elems, rest, m, rfl, hcs, hx, hb, hl, hm, hle, hel, _⟩
  · exact absurd (Prod.mk.inj hx).1 (by unfold Rows.laid_hustings_power_names; intro c; cases c)
  · obtain ⟨hd, _⟩ := Prod.mk.inj hx
    unfold Rows.laid_hustings_power_names at hd
    injection hd with hd1 hd2
    have hlen : elems.length = 7 := by have := congrArg List.length hd1; simpa using this.symm
    obtain rfl : len = 7 := by omega
    refine ⟨a, cap, ?_, fun i hi => ?_⟩
    · unfold World.var? at hv
      rw [gNames] at hv
      simp only [Option.bind_some] at hv
      split at hv
      · rename_i c0 x1 x2 hh
        obtain rfl := Option.some.inj hv
        unfold World.cell?
        simp only [hh]
        have : c0[0]? = some (.slice (some a) 7 cap) := by rw [← Array.getElem?_toList, hcs]; rfl
        simp [this]
      · cases hv
    · have h1 := hel i hi
      rw [show Tryd.prog.cellsOf 29 = 2 by kernel_rfl] at h1
      obtain ⟨⟨e, pe⟩, h2⟩ : ∃ e, elems[i]? = some e := ⟨_, List.getElem?_eq_getElem (by omega)⟩
      rw [h2, Option.bind_eq_some_iff] at h1
      obtain ⟨c2, h3, h4⟩ := h1
      obtain ⟨_, h5, h6⟩ := World.cells?_some h3
      have h7 := congrArg (fun l => l[i]?) hd1
      simp only [List.getElem?_map, h2, Option.map_some] at h7
      obtain ⟨us, n2, rfl, hu, hl2, hul, hf2⟩ := DataW.trod_struct Tryd.underlying29 h4
      rw [show Tryd.prog.cellsOf 29 = 2 by kernel_rfl] at hl2
      match c2, hl2, h6, hf2 with
      | [u, v], _, h6, hf2 =>
        have f0 : DataW.trod (fun _ => ()) Tryd.prog W 0 (fun _ => true) false n2 9 (([u, v].drop 0).take (Tryd.prog.cellsOf 9)) = us[0]? := hf2 0 _ rfl
        have f1 : DataW.trod (fun _ => ()) Tryd.prog W 0 (fun _ => true) false n2 3 (([u, v].drop 1).take (Tryd.prog.cellsOf 3)) = us[1]? := hf2 1 _ rfl
        have i0 : us[0]? = some (us[0]'(by rw [hul]; decide)) := List.getElem?_eq_getElem _
        have i1 : us[1]? = some (us[1]'(by rw [hul]; decide)) := List.getElem?_eq_getElem _
        rw [i0] at f0
        rw [i1] at f1
        rw [show Tryd.prog.cellsOf 9 = 1 by kernel_rfl] at f0
        rw [show Tryd.prog.cellsOf 3 = 1 by kernel_rfl] at f1
        obtain ⟨s, e0, y0, _⟩ := DataW.trod_string Tryd.underlying9 f0
        obtain ⟨z, e1, y1, _⟩ := DataW.trod_int Tryd.underlying3 f1
        obtain ⟨rfl⟩ := List.cons.inj e0 |>.1
        obtain ⟨rfl⟩ := List.cons.inj e1 |>.1
        have hu2 : us = [us[0]'(by rw [hul]; decide), us[1]'(by rw [hul]; decide)] := by
          match us, hul with
          | [p, q], _ => rfl
        have g0 := h6 0 (by omega)
        have g1 := h6 1 (by omega)
        rw [Go.Deep.add_add] at g0 g1
        obtain ⟨hu, _⟩ := Prod.mk.inj hu
        rw [hu2] at hu
        simp only [List.map_cons, List.map_nil, y0, y1] at hu
        subst hu
        have h8 : (s = NM i ∧ z = LV i) := by
          have fin : ∀ {b : List UInt8} {n : Int} {k : ByteArray}, k.data.toList = b → some (DataW.agg [DataW.lit (Lit.string b), DataW.lit (Lit.int .i64 n)] : DataW Unit) = some (.agg [.lit (.string s.data.toList), .lit (.int .i64 z)]) → s = k ∧ z = n := by
            intro b n k hk h
            injection h with h; injection h with h; injection h with ha hb; injection ha with ha; injection ha with ha; injection hb with hb; injection hb with hb; injection hb with _ hb
            exact ⟨bl_inj (by show s.data.toList = k.data.toList; rw [hk, ha]), hb.symm⟩
          have hi2 : i = 0 ∨ i = 1 ∨ i = 2 ∨ i = 3 ∨ i = 4 ∨ i = 5 ∨ i = 6 := by omega
          rcases hi2 with rfl | rfl | rfl | rfl | rfl | rfl | rfl <;> exact fin rfl h7
        rw [h8.1] at g0
        rw [h8.2] at g1
        exact ⟨g0, g1⟩
end Go.Proofs.YtlfplmlehbomlaaDoor.P
end

section
namespace Go.Proofs.YtlfplmlehbomlaaDoor.P
set_option linter.unusedVariables false
set_option linter.unusedSimpArgs false
open Go.RowKit Go.ChangeShapes Go.WideShapes Go.Proofs.YtlfplmlehbomlaaDoorW.PrintWords Go.Proofs.YtlfplmlehbomlaaDoorW.PrintLast Go.Proofs.YtlfplmlehbomlaaDoorW.PrintMore
section
variable {P : Program} {ops : Array Oper} {Q : Exit → Act → World → Prop} {B : List Nat} {wE : World} {a0 : Act} {L : List (Nat × Tmp × SV)} {A : List Ent} {i : Nat}
def partI (p k : Nat) : Nat → Bool := fun j => decide (p ≤ j) && decide (j < k)
theorem part_list (B : List Nat) (I : (Nat → Bool) → Act → World → Prop) (p q : Nat) (hs : ∀ i ∈ List.range' p (q - p), StepAt P ops Q B (List.range' p (q - p)) I i)
    (hB : ∀ i j, (B.getD i 0).testBit j = true → j < i) (hend : ∀ a w, I (partI p q) a w → wpList P ops Q (ops.toList.drop q) a w) :
    ∀ (m k : Nat) (a : Act) (w : World), k + m = q → p ≤ k → q ≤ ops.size → I (partI p k) a w → wpList P ops Q (ops.toList.drop k) a w
  | 0, k, a, w, hk, _, _, hI => by
    have e2 : k = q := by omega
    subst e2
    exact hend a w hI
  | m + 1, k, a, w, hk, hp, hq, hI => by
    have hlt : k < ops.toList.length := by simp; omega
    rw [List.drop_eq_getElem_cons hlt]
    obtain ⟨oi, hoi, h⟩ := hs k (List.mem_range'_1.2 ⟨hp, by omega⟩) _ a w hI (by simp [partI]) (fun j hj => by
      rw [Bool.and_eq_true] at hj
      have h1 := hB k j hj.2
      have h2 := List.mem_range'_1.1 (by simpa using hj.1)
      simp [partI]; omega) (fun d hd => by
      rw [Bool.and_eq_true] at hd
      have := hB d k hd.2
      simp [partI]; omega)
    have e : ops.toList[k] = oi := by
      have h1 := List.getElem?_eq_getElem hlt
      rw [Array.getElem?_toList, hoi] at h1
      exact (Option.some.inj h1).symm
    rw [e]
    refine wpList_step (fun K hK => h K (fun a' w' hI' => hK a' w' (part_list B I p q hs hB hend m (k + 1) a' w' (by omega) (by omega) hq ?_)))
    have e2 : partI p (k + 1) = up (partI p k) k := by
      funext j
      unfold up partI
      split
      · subst j; simp [hp]
      · rename_i hne
        have : (j < k + 1) = (j < k) := by apply propext; omega
        simp only [this]
    rw [e2]
    exact hI'
theorem part_ {w : World} {R : List RowD} {n sz : Nat} {S : List (Tmp × Value)} (p q : Nat) (B : List Nat) (S' : List (Tmp × SV)) (L : List (Nat × Tmp × SV)) (A : List Ent) (hn : ops.size = n) (hpq : (Nat.ble p q && Nat.ble q n) = true) (hB : lowB B n = true)
    (hH : Held wE w R) (hR : (A.filter fun x => x.born == none).map Ent.row0 = R) (hA : (A.all fun x => (match x.born with | none => true | some j => (List.range' p (q - p)).contains j) && (match x.stored with | none => true | some j => (List.range' p (q - p)).contains j)) = true) (hLo : LOk L) (hL : (L.all fun e => (List.range' p (q - p)).contains e.1 && Nat.ble (e.2.1 + 1) sz) = true) (hS : Sl a0 sz S) (hS' : SlOk L S S')
    (hs : ∀ i ∈ List.range' p (q - p), StepAt P ops Q B (List.range' p (q - p)) (RI wE a0 L A) i) (hend : ∀ G a' w', Sl a' sz (S'.map fun e => (e.1, e.2.at G)) → Held wE w' (A.map fun x => x.row G) → wpList P ops Q (ops.toList.drop q) a' w') : wpList P ops Q (ops.toList.drop p) a0 w := by
  subst hn
  rw [Bool.and_eq_true, Nat.ble_eq, Nat.ble_eq] at hpq
  refine part_list (P := P) (Q := Q) (ops := ops) B (RI wE a0 L A) p q hs (fun i j hj => lowB_is hB i j hj) (fun a w hI => by
    obtain ⟨G, h1, h2⟩ := hI.fin (O := List.range' p (q - p)) (fun j hj => by
      have := List.mem_range'_1.1 (by simpa using hj)
      simp [partI]; omega) hA hLo hL hS hS'
    exact hend G a w h1 h2) (q - p) p a0 w (by omega) (Nat.le_refl _) hpq.2 (by
      have e : partI p p = fun _ => false := by
        funext j
        unfold partI
        by_cases h : p ≤ j
        · simp; try (intro _; exact h)
        · simp; try (intro q; exact absurd q h)
      rw [e]
      exact RI.start hH hR)
theorem whole_ {id : Nat} {a : Act} {w : World} (h : wpList P ops Q (ops.toList.drop 0) a w) : (Code.region id ops false).wp P Q a w := wp_region_list h
theorem end_ {n : Nat} {a : Act} {w : World} (hn : ops.size = n) (h : Q .normal a w) : wpList P ops Q (ops.toList.drop n) a w := by
  subst hn
  rw [List.drop_eq_nil_iff.2 (by simp)]
  exact h
theorem Sl.put {a : Act} {sz : Nat} {S S' : List (Tmp × Value)} {N : Tmp} {v : Value} (h : Sl a sz S) (hN : Nat.ble (N + 1) sz = true) (he : S' = (N, v) :: S.filter fun e => !(e.1 == N)) : Sl (a.put (some N) v) sz S' := by
  subst he
  have hN := Nat.le_of_ble_eq_true hN
  have hx : N < a.tmps.size := Nat.lt_of_lt_of_le (Nat.lt_succ_self N) (Nat.le_trans hN (Nat.le_of_eq h.1.symm))
  refine ⟨by show (a.tmps.setIfInBounds N v).size = sz; rw [Array.size_setIfInBounds]; exact h.1, h.2.1, fun e he => ?_⟩
  rcases List.mem_cons.1 he with rfl | he
  · show (a.tmps.setIfInBounds N v).getD N undef = v
    rw [Array.getD_eq_getD_getElem?, Array.getElem?_setIfInBounds_self_of_lt hx]; rfl
  · obtain ⟨h1, h2⟩ := List.mem_filter.1 he
    have hne : e.1 ≠ N := by simpa using h2
    have h3 := h.2.2 e h1
    show (a.tmps.setIfInBounds N v).getD e.1 undef = e.2
    rw [Array.getD_eq_getD_getElem?, Array.getElem?_setIfInBounds_ne (fun q => hne q.symm), ← Array.getD_eq_getD_getElem?]
    exact h3
theorem drop_at {i : Nat} {oi : Oper} (h : ops[i]? = some oi) : ops.toList.drop i = oi :: ops.toList.drop (i + 1) := by
  have hlt : i < ops.toList.length := by
    rw [Array.length_toList]; exact (Array.getElem?_eq_some_iff.1 h).1
  rw [List.drop_eq_getElem_cons hlt]
  congr 1
  have h1 := List.getElem?_eq_getElem hlt
  rw [Array.getElem?_toList, h] at h1
  exact (Option.some.inj h1).symm
theorem cut_call {N : Tmp} {sz : Nat} {S : List (Tmp × Value)} {a : Act} {w : World} {oi : Oper} {f : FuncId} {fn : Func} {asx : Array Operand} {ts : Array TypeId} {args : Array Value} (R0 : Ending → World → Prop) (hoi : ops[i]? = some oi) (hN : oi.dst = some N) (hop : oi.op = .call { callee := .value (.func f), args := asx, argTypes := ts })
    (hw : Region.wanted oi (yielded ops a.tmps) = true) (hf : P.funcs[f]? = some fn) (hname : (fn.name == "runtime.NumGoroutine") = false) (hbd : fn.body.isSome = true) (hargs : asx.map a.eval = args) (hc : Calls P f args w R0) (hS : Sl a sz S) (hNs : Nat.ble (N + 1) sz = true)
    (h : ∀ e w', R0 e w' → ∃ v, e = .returned v ∧ ∀ a', Sl a' sz ((N, v) :: S.filter fun e => !(e.1 == N)) → wpList P ops Q (ops.toList.drop (i + 1)) a' w') : wpList P ops Q (ops.toList.drop i) a w := by
  rw [drop_at hoi]
  refine wpList_step (fun K hK => ?_)
  rw [hN]
  refine goes_ hf hname hbd args hw hN hop hargs (hc.mono fun e w' he => ?_)
  obtain ⟨v, h1, h2⟩ := h e w' he
  exact ⟨v, h1, hK _ _ (h2 _ (hS.put hNs rfl))⟩
end
theorem Held.call {wE w w' : World} {R : List RowD} (h : Held wE w R) (hb : Below w.heap.size w w') : Held wE w' R :=
  ⟨h.1.trans (hb.mono h.1.size), fun r hr => ⟨(h.2.1 r hr).1, (h.2.1 r hr).2.below hb (h.2.1 r hr).2.lt⟩, h.2.2⟩
theorem Held.back {wE w1 w2 : World} {R R2 : List RowD} (h : Held wE w1 R) (h2 : Held w1 w2 R2) : Held wE w2 R := h.call h2.1
theorem row_at {w : World} {g n : Nat} {f : Nat → SC} {t : TypeId} (h : Row w g () n f t) : ∀ j, j < n → w.cell? ((⟨g, 0, none⟩ : Addr).add j) = some (mkc () (f j)) := fun j hj => by
  rw [add_at, Nat.zero_add]; exact h.cell j hj
theorem parts3 {ev : Operand → Value} {i j k : Nat} {x y z : Operand} {u v t : Value} (h : ev x = u) (h2 : ev y = v) (h3 : ev z = t) : ((#[(i, x), (j, y), (k, z)] : Array (Nat × Operand)).map fun (i, x) => (i, ev x)) = #[(i, u), (j, v), (k, t)] := by simp [h, h2, h3]
theorem parts7 {ev : Operand → Value} {i1 i2 i3 i4 i5 i6 i7 : Nat} {x1 x2 x3 x4 x5 x6 x7 : Operand} {u1 u2 u3 u4 u5 u6 u7 : Value} (h1 : ev x1 = u1) (h2 : ev x2 = u2) (h3 : ev x3 = u3) (h4 : ev x4 = u4) (h5 : ev x5 = u5) (h6 : ev x6 = u6) (h7 : ev x7 = u7) : ((#[(i1, x1), (i2, x2), (i3, x3), (i4, x4), (i5, x5), (i6, x6), (i7, x7)] : Array (Nat × Operand)).map fun (i, x) => (i, ev x)) = #[(i1, u1), (i2, u2), (i3, u3), (i4, u4), (i5, u5), (i6, u6), (i7, u7)] := by simp [h1, h2, h3, h4, h5, h6, h7]
structure OwnR (base : Nat) (w : World) (e : TypeId) (size : Nat) (gs : List Nat) (v : Value) (n : Nat) (xs : List Value) : Prop where
  own : w.ownsRow base e size v n xs
  apart : ∀ g ∈ gs, v.ownBlock ≠ some g
theorem grown_of_below {w w' : World} (h : Below w.heap.size w w') : w.grownBy w' none := ⟨h.os, h.tape, h.output, h.size, fun k hk _ => h.block k hk⟩
section
variable {base : Nat} {w w' : World} {e : TypeId} {size : Nat} {gs : List Nat} {v : Value} {n : Nat} {xs : List Value}
theorem OwnR.nil : OwnR base w e size gs (.slice none 0 0) 0 [] := ⟨World.ownsRow_nil w base e size, fun g _ h => by cases h⟩
theorem OwnR.below (h : OwnR base w e size gs v n xs) (hb : Below w.heap.size w w') : OwnR base w' e size gs v n xs :=
  ⟨h.own.kept (grown_of_below hb) (by cases v.ownBlock with | none => exact .inl rfl | some b => exact .inr (by simp)), h.apart⟩
theorem OwnR.slice (h : OwnR base w e size gs v n xs) : ∃ oa c, v = .slice oa n c ∧ (oa = none → n = 0) ∧ ∀ x, oa = some x → ∀ j u, xs[j]? = some u → w.cell? (x.add j) = some u := by
  have hc := fun g hg => h.own.cells (g := g) hg
  rcases h.own.2 with ⟨rfl, rfl⟩ | ⟨g, cap, cur, rfl, _⟩
  · exact ⟨none, 0, rfl, (fun _ => rfl), (fun x hx => by cases hx)⟩
  · exact ⟨some ⟨g, 0, none⟩, cap, rfl, (fun hx => by cases hx), (fun x hx => by injection hx with hx; subst hx; exact hc g rfl)⟩
end
def StrsAt (w : World) (oa : Option Addr) (n : Nat) (K : Nat → ByteArray) : Prop := ∀ i, i < n → ∃ x, oa = some x ∧ w.cell? (x.add (i * 1)) = some (.string (K i))
theorem StrsAt.below {w w' : World} {oa : Option Addr} {n : Nat} {K : Nat → ByteArray} (h : StrsAt w oa n K) (hb : Below w.heap.size w w') : StrsAt w' oa n K := fun i hi => by
  obtain ⟨x, hx, hc⟩ := h i hi
  exact ⟨x, hx, bel_kept hb _ _ hc⟩
theorem StrsAt.row {w : World} {g n : Nat} {f : Nat → SC} {t : TypeId} {K : Nat → ByteArray} (h : Row w g () n f t) (hk : ∀ i, i < n → f i = .s (K i)) : StrsAt w (some ⟨g, 0, none⟩) n K := fun i hi => ⟨_, rfl, by
  have := row_at h i hi
  rw [hk i hi] at this
  rw [Nat.mul_one]; exact this⟩
theorem StrsAt.own {base : Nat} {w : World} {e : TypeId} {gs : List Nat} {oa : Option Addr} {c n : Nat} {l : List ByteArray} (h : OwnR base w e 1 gs (.slice oa n c) n (l.map Value.string)) : StrsAt w oa n fun i => l.getD i ByteArray.empty := fun i hi => by
  obtain ⟨oa', c', he, h0, hc⟩ := h.slice
  injection he with h1 h2 h3; subst h1
  cases oa with
  | none => have := h0 rfl; omega
  | some x =>
    refine ⟨x, rfl, ?_⟩
    have hl : l.length = n := by have := h.own.1; rw [List.length_map] at this; omega
    refine (hc x rfl (i * 1) (.string (l.getD i ByteArray.empty)) ?_)
    rw [Nat.mul_one, List.getElem?_map, List.getElem?_eq_getElem (by omega), Option.map_some, List.getD_eq_getElem?_getD, List.getElem?_eq_getElem (by omega)]; rfl
def MemsAt (w : World) (oa : Option Addr) (n : Nat) (K : Nat → ByteArray) (M : Nat → T) : Prop := ∀ i, i < n → ∃ x, oa = some x ∧ w.cell? (x.add (i * 7)) = some (.string (K i)) ∧ At6 w x (i * 7 + 1) (M i)
theorem MemsAt.below {w w' : World} {oa : Option Addr} {n : Nat} {K : Nat → ByteArray} {M : Nat → T} (h : MemsAt w oa n K M) (hb : Below w.heap.size w w') : MemsAt w' oa n K M := fun i hi => by
  obtain ⟨x, hx, hc, ha⟩ := h i hi
  exact ⟨x, hx, bel_kept hb _ _ hc, ha.mono (bel_kept hb)⟩
def mcells (K : Nat → ByteArray) (M : Nat → T) (n : Nat) : List Value := (List.range (n * 7)).map fun j => mkc () (msc (K (j / 7)) (M (j / 7)) (j % 7))
theorem mcells_len {K : Nat → ByteArray} {M : Nat → T} {n : Nat} : (mcells K M n).length = n * 7 := by unfold mcells; simp
theorem mcells_at {K : Nat → ByteArray} {M : Nat → T} {n j : Nat} (h : j < n * 7) : (mcells K M n)[j]? = some (mkc () (msc (K (j / 7)) (M (j / 7)) (j % 7))) := by
  unfold mcells; rw [List.getElem?_map, List.getElem?_range h]; rfl
theorem mcells_out {K : Nat → ByteArray} {M : Nat → T} {n j : Nat} (h : ¬ j < n * 7) : (mcells K M n)[j]? = none := List.getElem?_eq_none (by rw [mcells_len]; omega)
theorem MemsAt.cells {w : World} {x : Addr} {n : Nat} {K : Nat → ByteArray} {M : Nat → T} (h : MemsAt w (some x) n K M) : ∀ j u, (mcells K M n)[j]? = some u → w.cell? (x.add j) = some u := by
  intro j u hu
  by_cases hj : j < n * 7
  · rw [mcells_at hj] at hu
    injection hu with hu; subst hu
    obtain ⟨y, hy, hc, ha⟩ := h (j / 7) (by omega)
    injection hy with hy; subst hy
    by_cases h0 : j % 7 = 0
    · rw [h0, show j = j / 7 * 7 by omega]
      rw [show j / 7 * 7 / 7 = j / 7 by omega]
      exact hc
    · obtain ⟨s, hs⟩ : ∃ s, j % 7 = s + 1 := ⟨j % 7 - 1, by omega⟩
      have := ha s (by omega)
      rw [show j / 7 * 7 + 1 + s = j by omega] at this
      rw [hs]; exact this
  · rw [mcells_out hj] at hu; cases hu
theorem MemsAt.own {base : Nat} {w : World} {e : TypeId} {gs : List Nat} {oa : Option Addr} {c n : Nat} {K : Nat → ByteArray} {M : Nat → T} (h : OwnR base w e 7 gs (.slice oa n c) n (mcells K M n)) : MemsAt w oa n K M := fun i hi => by
  obtain ⟨oa', c', he, h0, hc⟩ := h.slice
  injection he with h1 h2 h3; subst h1
  cases oa with
  | none => have := h0 rfl; omega
  | some x =>
    refine ⟨x, rfl, hc x rfl (i * 7) _ ?_, fun j hj => hc x rfl (i * 7 + 1 + j) _ ?_⟩
    · rw [mcells_at (by omega), show i * 7 / 7 = i by omega, show i * 7 % 7 = 0 by omega]; rfl
    · rw [mcells_at (by omega), show (i * 7 + 1 + j) / 7 = i by omega, show (i * 7 + 1 + j) % 7 = j + 1 by omega]; rfl
theorem MemsAt.none {w : World} {n : Nat} {K : Nat → ByteArray} {M : Nat → T} (h : MemsAt w none n K M) : n = 0 := by
  cases n with
  | zero => rfl
  | succ n => obtain ⟨x, hx, _⟩ := h 0 (Nat.zero_lt_succ _); cases hx
def k_ax : ByteArray := ⟨#[64, 97, 58, 120]⟩
def lvN : T := .mk 2 false 100 ByteArray.empty none 0 0 (fun _ => .no) none 0 0 (fun _ => ByteArray.empty) (fun _ => .no)
def one (g : Nat) (k : ByteArray) (t : T) : T := .mk 5 false 0 ByteArray.empty none 0 0 (fun _ => .no) (some ⟨g, 0, none⟩) 1 1 (fun _ => k) (fun _ => t)
def lvT (g h : Nat) : T := one h k_users (one g k_ax lvN)
theorem In.lvN (w : World) : In w lvN := by
  refine ⟨⟨by decide, by decide, by decide, by decide, by decide, by decide, by decide, by decide, by decide⟩, fun i h => ?_, fun i h => ?_⟩
  · exact absurd h (Nat.not_lt_zero _)
  · exact absurd h (Nat.not_lt_zero _)
theorem In.one {w : World} {g : Nat} {k : ByteArray} {t : T} {ty : TypeId} (hr : Row w g () 7 (msc k t) ty) (hk : k.size ≤ reach47) (ht : In w t) : In w (one g k t) := by
  refine ⟨⟨by decide, by decide, by decide, by decide, by decide, by decide, by decide, by decide, by decide⟩, fun i h => absurd h (Nat.not_lt_zero _), fun i h => ?_⟩
  obtain rfl : i = 0 := by omega
  refine ⟨⟨⟨g, 0, none⟩, rfl, row_at hr 0 (by decide), fun j hj => ?_⟩, hk, ht⟩
  have := row_at hr (j + 1) (by omega)
  rw [show 0 * 7 + 1 + j = j + 1 by omega]
  exact this
theorem Rises.lvN : Rises lvN := ⟨fun i h => absurd h (Nat.not_lt_zero _), fun i h => absurd h (Nat.not_lt_zero _), fun i h => absurd h (Nat.not_lt_zero _)⟩
theorem Rises.one {g : Nat} {k : ByteArray} {t : T} (h : Rises t) : Rises (one g k t) :=
  ⟨fun i h => by omega, fun i h => absurd h (Nat.not_lt_zero _), fun _ _ => h⟩
theorem Rises.lvT (g h : Nat) : Rises (lvT g h) := Rises.one (Rises.one Rises.lvN)
theorem ret_in {w : World} {g h : Nat} {t1 t2 : TypeId} (h1 : Row w g () 7 (msc k_ax lvN) t1) (h2 : Row w h () 7 (msc k_users (one g k_ax lvN)) t2) : In w (lvT g h) := In.one h2 (by decide) (In.one h1 (by decide) (In.lvN w))
theorem one_get (g : Nat) (k key : ByteArray) (t : T) : (one g k t).get key = if k = key then some t else none := by
  show (look (fun _ => k) key 1).map (fun _ => t) = _
  unfold look look
  by_cases h : k = key
  · rw [if_pos h]; simp [h]
  · rw [if_neg h]; simp [h]
theorem levels_calls (w : World) : Calls Tryd.prog 5 #[] w fun e w' => (∃ g h, e = .returned (lvT g h).val ∧ In w' (lvT g h)) ∧ Below w.heap.size w w' := by
  refine enter_ 10 Tryd.func5 rfl rfl (fun a0 hS => ?_)
  have HS0 : Sl a0 10 [] := hS
  have HH0 : Held w w [] := Held.first w
  clear hS
  refine wp_seq ?_
  have hLo : LOk [(0, 0, .new 0 (fun g => .pointer (some ⟨g, 0, none⟩)))] := lok (by rfl) (by rfl)
  refine zK (wE := w) (sz := 10) (n := 1) [0] [(0, .new 0 (fun g => .pointer (some ⟨g, 0, none⟩)))] [(0, 0, .new 0 (fun g => .pointer (some ⟨g, 0, none⟩)))] [⟨0, some 0, none, (), 6, lsc [.i .i64 (0), .b (false), .i .i64 (0), .s (ByteArray.empty), .sl (none) (0) (0), .sl (none) (0) (0)], lsc [.i .i64 (0), .b (false), .i .i64 (0), .s (ByteArray.empty), .sl (none) (0) (0), .sl (none) (0) (0)], 25⟩] rfl (by rfl) HH0 rfl rfl hLo rfl HS0 (slL 0 (d := 0) rfl (trivial)) ?_ ?_
  · show ∀ i ∈ [0], _
    refine zA (st_alloc 0 0 () 6 25 none _ _ rfl rfl (fun _ _ _ _ => rfl) rfl hLo rfl rfl rfl rfl (by rfl) (fun b G w _ _ => by kernel_rfl)) ?_
    exact zF
  clear hLo
  intro G a1 w1 hS hH
  have HS1 : Sl a1 10 [(0, .pointer (some ⟨(G 0), 0, none⟩))] := hS
  have HH1 : Held w w1 [⟨(G 0), (), 6, lsc [.i .i64 (0), .b (false), .i .i64 (0), .s (ByteArray.empty), .sl (none) (0) (0), .sl (none) (0) (0)], 25⟩] := hH
  clear hS hH HS0 HH0
  generalize G 0 = g1_0 at HS1 HH1
  refine then_ ?_
  refine wp_seq ?_
  refine whole_ ?_
  have hLo : LOk [(0, 2, .val (.agg (FR () 6 ((lvN).sc)))), (1, 3, .val (.agg (FR () 7 (msc (k_ax) (lvN))))), (2, 4, .new 2 (fun g => .slice (some ⟨g, 0, none⟩) (1) (1)))] := lok (by rfl) (by rfl)
  refine part_ (wE := w) (sz := 10) (n := 6) 0 3 [0, 1, 3, 7, 15, 31] [(0, .val (.pointer (some ⟨g1_0, 0, none⟩))), (4, .new 2 (fun g => .slice (some ⟨g, 0, none⟩) (1) (1)))] [(0, 2, .val (.agg (FR () 6 ((lvN).sc)))), (1, 3, .val (.agg (FR () 7 (msc (k_ax) (lvN))))), (2, 4, .new 2 (fun g => .slice (some ⟨g, 0, none⟩) (1) (1)))] [⟨g1_0, none, none, (), 6, lsc [.i .i64 (0), .b (false), .i .i64 (0), .s (ByteArray.empty), .sl (none) (0) (0), .sl (none) (0) (0)], lsc [.i .i64 (0), .b (false), .i .i64 (0), .s (ByteArray.empty), .sl (none) (0) (0), .sl (none) (0) (0)], 25⟩, ⟨0, some 2, none, (), 7, msc (k_ax) (lvN), msc (k_ax) (lvN), 36⟩] rfl rfl (by rfl) HH1 rfl rfl hLo rfl HS1 (slS 0 rfl rfl (slL 2 (d := 2) rfl (trivial))) ?_ ?_
  · show ∀ i ∈ [0, 1, 2], _
    refine zA (zC 0 _ rfl rfl hLo rfl rfl (fun _ _ _ _ => rfl) (fun b G w hb ho => exec_build rfl (parts2 (rfl) (rfl)) (by kernel_rfl))) ?_
    refine zA (zC 1 _ rfl rfl hLo rfl rfl (fun _ _ _ _ => rfl) (fun b G w hb ho => exec_build rfl (parts2 (rfl) (zB hLo 0 rfl HS1.1 rfl (hb 0 (by rfl)))) (by kernel_rfl))) ?_
    refine zA (st_alloc 2 1 () 7 36 none _ _ rfl rfl (fun _ _ _ _ => rfl) rfl hLo rfl rfl rfl rfl (by rfl) (fun b G w hb ho => exec_buildSlice rfl (parts1 (zB hLo 1 rfl HS1.1 rfl (hb 1 (by rfl)))) (by kernel_rfl))) ?_
    exact zF
  clear hLo
  intro G a2 w2 hS hH
  have HS2 : Sl a2 10 [(0, .pointer (some ⟨g1_0, 0, none⟩)), (4, .slice (some ⟨(G 2), 0, none⟩) (1) (1))] := hS
  have HH2 : Held w w2 [⟨g1_0, (), 6, lsc [.i .i64 (0), .b (false), .i .i64 (0), .s (ByteArray.empty), .sl (none) (0) (0), .sl (none) (0) (0)], 25⟩, ⟨(G 2), (), 7, msc (k_ax) (lvN), 36⟩] := hH
  clear hS hH HS1 HH1
  generalize G 2 = g2_2 at HS2 HH2
  have hLo : LOk [(3, 5, .val (.agg (FR () 6 ((one g2_2 k_ax lvN).sc)))), (4, 1, .new 4 (fun g => .pointer (some ⟨g, 0, none⟩)))] := lok (by rfl) (by rfl)
  refine part_ (wE := w) (sz := 10) (n := 6) 3 6 [0, 1, 3, 7, 15, 31] [(0, .val (.pointer (some ⟨g1_0, 0, none⟩))), (1, .new 4 (fun g => .pointer (some ⟨g, 0, none⟩)))] [(3, 5, .val (.agg (FR () 6 ((one g2_2 k_ax lvN).sc)))), (4, 1, .new 4 (fun g => .pointer (some ⟨g, 0, none⟩)))] [⟨g1_0, none, none, (), 6, lsc [.i .i64 (0), .b (false), .i .i64 (0), .s (ByteArray.empty), .sl (none) (0) (0), .sl (none) (0) (0)], lsc [.i .i64 (0), .b (false), .i .i64 (0), .s (ByteArray.empty), .sl (none) (0) (0), .sl (none) (0) (0)], 25⟩, ⟨g2_2, none, none, (), 7, msc (k_ax) (lvN), msc (k_ax) (lvN), 36⟩, ⟨0, some 4, some 5, (), 6, lsc [.i .i64 (0), .b (false), .i .i64 (0), .s (ByteArray.empty), .sl (none) (0) (0), .sl (none) (0) (0)], (one g2_2 k_ax lvN).sc, 25⟩] rfl rfl (by rfl) HH2 rfl rfl hLo rfl HS2 (slS 0 rfl rfl (slL 1 (d := 4) rfl (trivial))) ?_ ?_
  · show ∀ i ∈ [3, 4, 5], _
    refine zA (zC 0 _ rfl rfl hLo rfl rfl (fun _ _ _ _ => rfl) (fun b G w hb ho => exec_build rfl (parts2 (rfl) (zG rfl (HS2.get 1 rfl))) (by kernel_rfl))) ?_
    refine zA (st_alloc 1 2 () 6 25 (some 5) _ _ rfl rfl (fun _ _ _ _ => rfl) rfl hLo rfl rfl rfl rfl (by rfl) (fun b G w _ _ => by kernel_rfl)) ?_
    refine zA (st_store 2 _ rfl rfl rfl rfl rfl (fun _ _ _ _ => rfl) rfl rfl rfl (by rfl) (by kernel_rfl) (fun b G hb ho => zB hLo 1 rfl HS2.1 rfl (hb 4 (by rfl))) (fun b G hb ho => zB hLo 0 rfl HS2.1 rfl (hb 3 (by rfl)))) ?_
    exact zF
  clear hLo
  intro G a3 w3 hS hH
  have HS3 : Sl a3 10 [(0, .pointer (some ⟨g1_0, 0, none⟩)), (1, .pointer (some ⟨(G 4), 0, none⟩))] := hS
  have HH3 : Held w w3 [⟨g1_0, (), 6, lsc [.i .i64 (0), .b (false), .i .i64 (0), .s (ByteArray.empty), .sl (none) (0) (0), .sl (none) (0) (0)], 25⟩, ⟨g2_2, (), 7, msc (k_ax) (lvN), 36⟩, ⟨(G 4), (), 6, (one g2_2 k_ax lvN).sc, 25⟩] := hH
  clear hS hH HS2 HH2
  generalize G 4 = g3_4 at HS3 HH3
  refine end_ rfl ?_
  refine then_ ?_
  refine wp_seq ?_
  refine whole_ ?_
  have hLo : LOk [(0, 6, .val (.agg (FR () 6 ((one g2_2 k_ax lvN).sc)))), (1, 7, .val (.agg (FR () 7 (msc (k_users) (one g2_2 k_ax lvN))))), (2, 8, .new 2 (fun g => .slice (some ⟨g, 0, none⟩) (1) (1)))] := lok (by rfl) (by rfl)
  refine part_ (wE := w) (sz := 10) (n := 5) 0 3 [0, 1, 3, 7, 15] [(0, .val (.pointer (some ⟨g1_0, 0, none⟩))), (1, .val (.pointer (some ⟨g3_4, 0, none⟩))), (8, .new 2 (fun g => .slice (some ⟨g, 0, none⟩) (1) (1)))] [(0, 6, .val (.agg (FR () 6 ((one g2_2 k_ax lvN).sc)))), (1, 7, .val (.agg (FR () 7 (msc (k_users) (one g2_2 k_ax lvN))))), (2, 8, .new 2 (fun g => .slice (some ⟨g, 0, none⟩) (1) (1)))] [⟨g1_0, none, none, (), 6, lsc [.i .i64 (0), .b (false), .i .i64 (0), .s (ByteArray.empty), .sl (none) (0) (0), .sl (none) (0) (0)], lsc [.i .i64 (0), .b (false), .i .i64 (0), .s (ByteArray.empty), .sl (none) (0) (0), .sl (none) (0) (0)], 25⟩, ⟨g2_2, none, none, (), 7, msc (k_ax) (lvN), msc (k_ax) (lvN), 36⟩, ⟨g3_4, none, none, (), 6, (one g2_2 k_ax lvN).sc, (one g2_2 k_ax lvN).sc, 25⟩, ⟨0, some 2, none, (), 7, msc (k_users) (one g2_2 k_ax lvN), msc (k_users) (one g2_2 k_ax lvN), 36⟩] rfl rfl (by rfl) HH3 rfl rfl hLo rfl HS3 (slS 0 rfl rfl (slS 1 rfl rfl (slL 2 (d := 2) rfl (trivial)))) ?_ ?_
  · show ∀ i ∈ [0, 1, 2], _
    refine zA (st_row0 0 2 _ rfl rfl rfl rfl (fun _ _ _ _ => rfl) hLo rfl rfl rfl (by rfl) Tryd.underlying25 (by kernel_rfl) rfl (fun b G hb ho => zG rfl (HS3.get 1 rfl))) ?_
    refine zA (zC 1 _ rfl rfl hLo rfl rfl (fun _ _ _ _ => rfl) (fun b G w hb ho => exec_build rfl (parts2 (rfl) (zB hLo 0 rfl HS3.1 rfl (hb 0 (by rfl)))) (by kernel_rfl))) ?_
    refine zA (st_alloc 2 3 () 7 36 none _ _ rfl rfl (fun _ _ _ _ => rfl) rfl hLo rfl rfl rfl rfl (by rfl) (fun b G w hb ho => exec_buildSlice rfl (parts1 (zB hLo 1 rfl HS3.1 rfl (hb 1 (by rfl)))) (by kernel_rfl))) ?_
    exact zF
  clear hLo
  intro G a4 w4 hS hH
  have HS4 : Sl a4 10 [(0, .pointer (some ⟨g1_0, 0, none⟩)), (1, .pointer (some ⟨g3_4, 0, none⟩)), (8, .slice (some ⟨(G 2), 0, none⟩) (1) (1))] := hS
  have HH4 : Held w w4 [⟨g1_0, (), 6, lsc [.i .i64 (0), .b (false), .i .i64 (0), .s (ByteArray.empty), .sl (none) (0) (0), .sl (none) (0) (0)], 25⟩, ⟨g2_2, (), 7, msc (k_ax) (lvN), 36⟩, ⟨g3_4, (), 6, (one g2_2 k_ax lvN).sc, 25⟩, ⟨(G 2), (), 7, msc (k_users) (one g2_2 k_ax lvN), 36⟩] := hH
  clear hS hH HS3 HH3
  generalize G 2 = g4_2 at HS4 HH4
  have hLo : LOk [(3, 9, .val (.agg (FR () 6 ((lvT g2_2 g4_2).sc))))] := lok (by rfl) (by rfl)
  refine part_ (wE := w) (sz := 10) (n := 5) 3 5 [0, 1, 3, 7, 15] [(0, .val (.pointer (some ⟨g1_0, 0, none⟩))), (1, .val (.pointer (some ⟨g3_4, 0, none⟩)))] [(3, 9, .val (.agg (FR () 6 ((lvT g2_2 g4_2).sc))))] [⟨g1_0, none, some 4, (), 6, lsc [.i .i64 (0), .b (false), .i .i64 (0), .s (ByteArray.empty), .sl (none) (0) (0), .sl (none) (0) (0)], (lvT g2_2 g4_2).sc, 25⟩, ⟨g2_2, none, none, (), 7, msc (k_ax) (lvN), msc (k_ax) (lvN), 36⟩, ⟨g3_4, none, none, (), 6, (one g2_2 k_ax lvN).sc, (one g2_2 k_ax lvN).sc, 25⟩, ⟨g4_2, none, none, (), 7, msc (k_users) (one g2_2 k_ax lvN), msc (k_users) (one g2_2 k_ax lvN), 36⟩] rfl rfl (by rfl) HH4 rfl rfl hLo rfl HS4 (slS 0 rfl rfl (slS 1 rfl rfl (trivial))) ?_ ?_
  · show ∀ i ∈ [3, 4], _
    refine zA (zC 0 _ rfl rfl hLo rfl rfl (fun _ _ _ _ => rfl) (fun b G w hb ho => exec_build rfl (parts2 (rfl) (zG rfl (HS4.get 2 rfl))) (by kernel_rfl))) ?_
    refine zA (st_store 0 _ rfl rfl rfl rfl rfl (fun _ _ _ _ => rfl) rfl rfl rfl (by rfl) (by kernel_rfl) (fun b G hb ho => zG rfl (HS4.get 0 rfl)) (fun b G hb ho => zB hLo 0 rfl HS4.1 rfl (hb 3 (by rfl)))) ?_
    exact zF
  clear hLo
  intro G a5 w5 hS hH
  have HS5 : Sl a5 10 [(0, .pointer (some ⟨g1_0, 0, none⟩)), (1, .pointer (some ⟨g3_4, 0, none⟩))] := hS
  have HH5 : Held w w5 [⟨g1_0, (), 6, (lvT g2_2 g4_2).sc, 25⟩, ⟨g2_2, (), 7, msc (k_ax) (lvN), 36⟩, ⟨g3_4, (), 6, (one g2_2 k_ax lvN).sc, 25⟩, ⟨g4_2, (), 7, msc (k_users) (one g2_2 k_ax lvN), 36⟩] := hH
  clear hS hH HS4 HH4
  refine end_ rfl ?_
  refine then_ ?_
  refine wp_ret ?_
  repeat (first | refine zS ?_ | refine zM ?_)
  exact b_row rfl HS5.2.1 (HS5.get 0 rfl) (HH5.row 0 rfl) Tryd.underlying25 rfl (by kernel_rfl) ⟨⟨g2_2, g4_2, rfl, ret_in (HH5.row 1 rfl) (HH5.row 3 rfl)⟩, HH5.1⟩
end Go.Proofs.YtlfplmlehbomlaaDoor.P
end

section
namespace Go.Proofs.YtlfplmlehbomlaaDoor.P
set_option linter.unusedVariables false
set_option linter.unusedSimpArgs false
def TN (i : Nat) : ByteArray := [k_events, k_notifications, k_users].getD i ByteArray.empty
def memV (U : ByteArray → Bool) (key : ByteArray) (x : T) (k : Nat) : Bool := !(((x.mem k).kind != 2) || (decide (key = k_users) && !U (x.key k)))
def nameV (t : T) (i : Nat) : Bool := match t.get (NM i) with
  | none => true
  | some x => !(x.kind != 2)
def tabV (U : ByteArray → Bool) (t : T) (j : Nat) : Bool := match t.get (TN j) with
  | none => true
  | some x => !(x.kind != 5) && allB (memV U (TN j) x) x.ml
def validB (U : ByteArray → Bool) (t : T) : Bool := !(t.kind != 5) && (allB (nameV t) 7 && allB (tabV U t) 3)
def isTab (key : ByteArray) : Bool := decide (key = k_users) || (decide (key = k_events) || decide (key = k_notifications))
def nameR (t : T) (i n : Nat) : Bool := !(decide (t.key i = NM n) && ((t.mem i).kind != 2))
def tabR (U : ByteArray → Bool) (t : T) (i : Nat) : Bool := !isTab (t.key i) || (!((t.mem i).kind != 5) && allB (memV U (t.key i) (t.mem i)) (t.mem i).ml)
def memR (U : ByteArray → Bool) (t : T) (i : Nat) : Bool := allB (nameR t i) 7 && tabR U t i
def rvalidB (U : ByteArray → Bool) (t : T) : Bool := !(t.kind != 5) && allB (memR U t) t.ml
theorem bool_iff {a b : Bool} (h : a = true ↔ b = true) : a = b := by cases a <;> cases b <;> simp_all
theorem get_at {t : T} (hk : t.kind = 5) (hr : Rise t.ml fun k => bl (t.key k)) {i : Nat} (hi : i < t.ml) : t.get (t.key i) = some (t.mem i) := by
  unfold T.get
  rw [if_pos hk, look_is hi rfl fun j hj e => ?_]; rfl
  have hlt := hr.lt i j hj hi
  have e2 : bl (t.key j) = bl (t.key i) := by rw [e]
  simp only [e2] at hlt
  rw [cmpB_zero.2 rfl] at hlt
  omega
theorem get_some {t x : T} {key : ByteArray} (h : t.get key = some x) : ∃ i, i < t.ml ∧ t.key i = key ∧ x = t.mem i := by
  unfold T.get at h
  split at h
  · cases e : look t.key key t.ml with
    | none => rw [e] at h; cases h
    | some k =>
      rw [e] at h
      injection h with h
      obtain ⟨h1, h2, _⟩ := look_some e
      exact ⟨k, h1, h2, h.symm⟩
  · cases h
theorem isTab_is {key : ByteArray} : isTab key = true ↔ ∃ j, j < 3 ∧ TN j = key := by
  unfold isTab
  rw [Bool.or_eq_true, Bool.or_eq_true, decide_eq_true_iff, decide_eq_true_iff, decide_eq_true_iff]
  constructor
  · rintro (h | h | h)
    · exact ⟨2, by decide, h.symm⟩
    · exact ⟨0, by decide, h.symm⟩
    · exact ⟨1, by decide, h.symm⟩
  · rintro ⟨j, hj, rfl⟩
    have e : j = 0 ∨ j = 1 ∨ j = 2 := by omega
    rcases e with rfl | rfl | rfl
    · exact .inr (.inl rfl)
    · exact .inr (.inr rfl)
    · exact .inl rfl
theorem valid_eq (U : ByteArray → Bool) {t : T} (hr : Rise t.ml fun k => bl (t.key k)) : validB U t = rvalidB U t := by
  apply bool_iff
  unfold validB rvalidB
  rw [Bool.and_eq_true, Bool.and_eq_true, Bool.and_eq_true, allB_is, allB_is, allB_is]
  have hk5 : (!(t.kind != 5)) = true → t.kind = 5 := fun h => by simpa using h
  constructor
  · rintro ⟨h1, h2, h3⟩
    refine ⟨h1, fun i hi => ?_⟩
    have hg := get_at (hk5 h1) hr hi
    unfold memR
    rw [Bool.and_eq_true, allB_is]
    refine ⟨fun n hn => ?_, ?_⟩
    · unfold nameR
      by_cases e : t.key i = NM n
      · have := h2 n hn
        unfold nameV at this
        rw [← e, hg] at this
        rw [decide_eq_true e, Bool.true_and]; exact this
      · rw [decide_eq_false e]; rfl
    · unfold tabR
      cases e : isTab (t.key i) with
      | false => rfl
      | true =>
        obtain ⟨j, hj, hje⟩ := isTab_is.1 e
        have := h3 j hj
        unfold tabV at this
        rw [hje, hg] at this
        rw [Bool.not_true, Bool.false_or]; exact this
  · rintro ⟨h1, h2⟩
    refine ⟨h1, fun n hn => ?_, fun j hj => ?_⟩
    · unfold nameV
      cases e : t.get (NM n) with
      | none => rfl
      | some x =>
        obtain ⟨i, hi, hke, rfl⟩ := get_some e
        have := h2 i hi
        unfold memR at this
        rw [Bool.and_eq_true, allB_is] at this
        have := this.1 n hn
        unfold nameR at this
        rw [decide_eq_true hke, Bool.true_and] at this
        exact this
    · unfold tabV
      cases e : t.get (TN j) with
      | none => rfl
      | some x =>
        obtain ⟨i, hi, hke, rfl⟩ := get_some e
        have := h2 i hi
        unfold memR at this
        rw [Bool.and_eq_true] at this
        have := this.2
        unfold tabR at this
        rw [isTab_is.2 ⟨j, hj, hke.symm⟩, Bool.not_true, Bool.false_or, hke] at this
        exact this
end Go.Proofs.YtlfplmlehbomlaaDoor.P
end

section
namespace Go.Proofs.YtlfplmlehbomlaaDoor.P
set_option linter.unusedVariables false
set_option linter.unusedSimpArgs false
open Go.RowKit Go.ChangeShapes Go.WideShapes Go.Proofs.YtlfplmlehbomlaaDoorW.PrintWords Go.Proofs.YtlfplmlehbomlaaDoorW.PrintLast Go.Proofs.YtlfplmlehbomlaaDoorW.PrintMore
theorem tn_row : ∀ i, i < 3 → lsc [.s k_events, .s k_notifications, .s k_users] i = .s (TN i) := by
  intro i hi
  have h : i = 0 ∨ i = 1 ∨ i = 2 := by omega
  rcases h with rfl | rfl | rfl <;> rfl
theorem nm_row : ∀ i, i < 7 → lsc [.s k_ban, .s k_events_default, .s k_invite, .s k_kick, .s k_redact, .s k_state_default, .s k_users_default] i = .s (NM i) := by
  intro i hi
  have h : i = 0 ∨ i = 1 ∨ i = 2 ∨ i = 3 ∨ i = 4 ∨ i = 5 ∨ i = 6 := by omega
  rcases h with rfl | rfl | rfl | rfl | rfl | rfl | rfl <;> rfl
theorem tables_calls (w : World) : Calls Tryd.prog 9 #[] w fun e w' => (∃ g, e = .returned (.slice (some ⟨g, 0, none⟩) 3 3) ∧ StrsAt w' (some ⟨g, 0, none⟩) 3 TN) ∧ Below w.heap.size w w' := by
  refine enter_ 2 Tryd.func9 rfl rfl (fun a0 hS => ?_)
  have HS0 : Sl a0 2 [] := hS
  have HH0 : Held w w [] := Held.first w
  clear hS
  refine wp_seq ?_
  have hLo : LOk [(0, 0, .val (.slice (none) (0) (0)))] := lok (by rfl) (by rfl)
  refine zK (wE := w) (sz := 2) (n := 1) [0] [(0, .val (.slice (none) (0) (0)))] [(0, 0, .val (.slice (none) (0) (0)))] [] rfl (by rfl) HH0 rfl rfl hLo rfl HS0 (slL 0 (d := 0) rfl (trivial)) ?_ ?_
  · show ∀ i ∈ [0], _
    refine zA (zC 0 _ rfl rfl hLo rfl rfl (fun _ _ _ _ => rfl) (fun b G w hb ho => zD (.inr rfl) (rfl))) ?_
    exact zF
  clear hLo
  intro G a1 w1 hS hH
  have HS1 : Sl a1 2 [(0, .slice (none) (0) (0))] := hS
  have HH1 : Held w w1 [] := hH
  clear hS hH HS0 HH0
  refine then_ ?_
  refine wp_seq ?_
  refine whole_ ?_
  have hLo : LOk [(0, 1, .new 0 (fun g => .slice (some ⟨g, 0, none⟩) (3) (3)))] := lok (by rfl) (by rfl)
  refine part_ (wE := w) (sz := 2) (n := 2) 0 1 [0, 1] [(0, .val (.slice (none) (0) (0))), (1, .new 0 (fun g => .slice (some ⟨g, 0, none⟩) (3) (3)))] [(0, 1, .new 0 (fun g => .slice (some ⟨g, 0, none⟩) (3) (3)))] [⟨0, some 0, none, (), 3, lsc [.s (k_events), .s (k_notifications), .s (k_users)], lsc [.s (k_events), .s (k_notifications), .s (k_users)], 9⟩] rfl rfl (by rfl) HH1 rfl rfl hLo rfl HS1 (slS 0 rfl rfl (slL 0 (d := 0) rfl (trivial))) ?_ ?_
  · show ∀ i ∈ [0], _
    refine zA (st_alloc 0 0 () 3 9 none _ _ rfl rfl (fun _ _ _ _ => rfl) rfl hLo rfl rfl rfl rfl (by rfl) (fun b G w hb ho => exec_buildSlice rfl (parts3 (rfl) (rfl) (rfl)) (by kernel_rfl))) ?_
    exact zF
  clear hLo
  intro G a2 w2 hS hH
  have HS2 : Sl a2 2 [(0, .slice (none) (0) (0)), (1, .slice (some ⟨(G 0), 0, none⟩) (3) (3))] := hS
  have HH2 : Held w w2 [⟨(G 0), (), 3, lsc [.s (k_events), .s (k_notifications), .s (k_users)], 9⟩] := hH
  clear hS hH HS1 HH1
  generalize G 0 = g2_0 at HS2 HH2
  have hLo : LOk [(1, 0, .val (.slice (some ⟨g2_0, 0, none⟩) (3) (3)))] := lok (by rfl) (by rfl)
  refine part_ (wE := w) (sz := 2) (n := 2) 1 2 [0, 1] [(0, .val (.slice (some ⟨g2_0, 0, none⟩) (3) (3)))] [(1, 0, .val (.slice (some ⟨g2_0, 0, none⟩) (3) (3)))] [⟨g2_0, none, none, (), 3, lsc [.s (k_events), .s (k_notifications), .s (k_users)], lsc [.s (k_events), .s (k_notifications), .s (k_users)], 9⟩] rfl rfl (by rfl) HH2 rfl rfl hLo rfl HS2 (slL 0 (d := 1) rfl (trivial)) ?_ ?_
  · show ∀ i ∈ [1], _
    refine zA (zC 0 _ rfl rfl hLo rfl rfl (fun _ _ _ _ => rfl) (fun b G w hb ho => zD (.inr rfl) (zG rfl (HS2.get 1 rfl)))) ?_
    exact zF
  clear hLo
  intro G a3 w3 hS hH
  have HS3 : Sl a3 2 [(0, .slice (some ⟨g2_0, 0, none⟩) (3) (3))] := hS
  have HH3 : Held w w3 [⟨g2_0, (), 3, lsc [.s (k_events), .s (k_notifications), .s (k_users)], 9⟩] := hH
  clear hS hH HS2 HH2
  refine end_ rfl ?_
  refine then_ ?_
  refine wp_ret ?_
  repeat (first | refine zS ?_ | refine zM ?_)
  exact b_tmp rfl HS3.2.1 (HS3.get 0 rfl) ⟨⟨g2_0, rfl, .row (HH3.row 0 rfl) tn_row⟩, HH3.1⟩
theorem names_calls (w : World) : Calls Tryd.prog 15 #[] w fun e w' => (∃ g, e = .returned (.slice (some ⟨g, 0, none⟩) 7 7) ∧ StrsAt w' (some ⟨g, 0, none⟩) 7 NM) ∧ Below w.heap.size w w' := by
  refine enter_ 2 Tryd.func15 rfl rfl (fun a0 hS => ?_)
  have HS0 : Sl a0 2 [] := hS
  have HH0 : Held w w [] := Held.first w
  clear hS
  refine wp_seq ?_
  have hLo : LOk [(0, 0, .val (.slice (none) (0) (0)))] := lok (by rfl) (by rfl)
  refine zK (wE := w) (sz := 2) (n := 1) [0] [(0, .val (.slice (none) (0) (0)))] [(0, 0, .val (.slice (none) (0) (0)))] [] rfl (by rfl) HH0 rfl rfl hLo rfl HS0 (slL 0 (d := 0) rfl (trivial)) ?_ ?_
  · show ∀ i ∈ [0], _
    refine zA (zC 0 _ rfl rfl hLo rfl rfl (fun _ _ _ _ => rfl) (fun b G w hb ho => zD (.inr rfl) (rfl))) ?_
    exact zF
  clear hLo
  intro G a1 w1 hS hH
  have HS1 : Sl a1 2 [(0, .slice (none) (0) (0))] := hS
  have HH1 : Held w w1 [] := hH
  clear hS hH HS0 HH0
  refine then_ ?_
  refine wp_seq ?_
  refine whole_ ?_
  have hLo : LOk [(0, 1, .new 0 (fun g => .slice (some ⟨g, 0, none⟩) (7) (7)))] := lok (by rfl) (by rfl)
  refine part_ (wE := w) (sz := 2) (n := 2) 0 1 [0, 1] [(0, .val (.slice (none) (0) (0))), (1, .new 0 (fun g => .slice (some ⟨g, 0, none⟩) (7) (7)))] [(0, 1, .new 0 (fun g => .slice (some ⟨g, 0, none⟩) (7) (7)))] [⟨0, some 0, none, (), 7, lsc [.s (k_ban), .s (k_events_default), .s (k_invite), .s (k_kick), .s (k_redact), .s (k_state_default), .s (k_users_default)], lsc [.s (k_ban), .s (k_events_default), .s (k_invite), .s (k_kick), .s (k_redact), .s (k_state_default), .s (k_users_default)], 9⟩] rfl rfl (by rfl) HH1 rfl rfl hLo rfl HS1 (slS 0 rfl rfl (slL 0 (d := 0) rfl (trivial))) ?_ ?_
  · show ∀ i ∈ [0], _
    refine zA (st_alloc 0 0 () 7 9 none _ _ rfl rfl (fun _ _ _ _ => rfl) rfl hLo rfl rfl rfl rfl (by rfl) (fun b G w hb ho => exec_buildSlice rfl (parts7 (rfl) (rfl) (rfl) (rfl) (rfl) (rfl) (rfl)) (by kernel_rfl))) ?_
    exact zF
  clear hLo
  intro G a2 w2 hS hH
  have HS2 : Sl a2 2 [(0, .slice (none) (0) (0)), (1, .slice (some ⟨(G 0), 0, none⟩) (7) (7))] := hS
  have HH2 : Held w w2 [⟨(G 0), (), 7, lsc [.s (k_ban), .s (k_events_default), .s (k_invite), .s (k_kick), .s (k_redact), .s (k_state_default), .s (k_users_default)], 9⟩] := hH
  clear hS hH HS1 HH1
  generalize G 0 = g2_0 at HS2 HH2
  have hLo : LOk [(1, 0, .val (.slice (some ⟨g2_0, 0, none⟩) (7) (7)))] := lok (by rfl) (by rfl)
  refine part_ (wE := w) (sz := 2) (n := 2) 1 2 [0, 1] [(0, .val (.slice (some ⟨g2_0, 0, none⟩) (7) (7)))] [(1, 0, .val (.slice (some ⟨g2_0, 0, none⟩) (7) (7)))] [⟨g2_0, none, none, (), 7, lsc [.s (k_ban), .s (k_events_default), .s (k_invite), .s (k_kick), .s (k_redact), .s (k_state_default), .s (k_users_default)], lsc [.s (k_ban), .s (k_events_default), .s (k_invite), .s (k_kick), .s (k_redact), .s (k_state_default), .s (k_users_default)], 9⟩] rfl rfl (by rfl) HH2 rfl rfl hLo rfl HS2 (slL 0 (d := 1) rfl (trivial)) ?_ ?_
  · show ∀ i ∈ [1], _
    refine zA (zC 0 _ rfl rfl hLo rfl rfl (fun _ _ _ _ => rfl) (fun b G w hb ho => zD (.inr rfl) (zG rfl (HS2.get 1 rfl)))) ?_
    exact zF
  clear hLo
  intro G a3 w3 hS hH
  have HS3 : Sl a3 2 [(0, .slice (some ⟨g2_0, 0, none⟩) (7) (7))] := hS
  have HH3 : Held w w3 [⟨g2_0, (), 7, lsc [.s (k_ban), .s (k_events_default), .s (k_invite), .s (k_kick), .s (k_redact), .s (k_state_default), .s (k_users_default)], 9⟩] := hH
  clear hS hH HS2 HH2
  refine end_ rfl ?_
  refine then_ ?_
  refine wp_ret ?_
  repeat (first | refine zS ?_ | refine zM ?_)
  exact b_tmp rfl HS3.2.1 (HS3.get 0 rfl) ⟨⟨g2_0, rfl, .row (HH3.row 0 rfl) nm_row⟩, HH3.1⟩
end Go.Proofs.YtlfplmlehbomlaaDoor.P
end

section
namespace Go.Proofs.YtlfplmlehbomlaaDoor.I
set_option linter.unusedVariables false
set_option linter.unusedSimpArgs false
open Go.RowKit Go.ChangeShapes Go.WideShapes Go.Proofs.YtlfplmlehbomlaaDoorW.PrintWords Go.Proofs.YtlfplmlehbomlaaDoorW.PrintLast Go.Proofs.YtlfplmlehbomlaaDoorW.PrintMore
@[local go_sem] theorem setCell_drewN (w : World) (n : Nat) (a : Addr) (v : Value) : (w.drewN n).setCell a v = (w.setCell a v).drewN n := rfl
structure Aside0 (p : Prop) : Prop where
  out : p
theorem u64w (x : Int) (h0 : 0 ≤ x) (h1 : x < 18446744073709551616) : IntKind.u64.wrap x = x := by
  have : x % 18446744073709551616 = x := by omega
  exact this
def putA : Array Value → Nat → List Value → Array Value
  | cs, _, [] => cs
  | cs, o, v :: r => putA (cs.setIfInBounds o v) (o + 1) r
theorem setCells_row {g : Nat} {t : TypeId} : ∀ (vs : List Value) (o : Nat) (w : World) (cs : Array Value), w.heap[g]? = some (.cells cs t (0, 0)) → (w.setCells g o vs).heap[g]? = some (.cells (putA cs o vs) t (0, 0))
  | [], _, _, _, h => h
  | v :: r, o, w, cs, h => setCells_row r (o + 1) _ _ (heap_setCell_same w g o cs t v h)
theorem putA_get : ∀ (vs : List Value) (o : Nat) (cs : Array Value) (j : Nat), o + vs.length ≤ cs.size → (putA cs o vs)[j]? = if o ≤ j ∧ j < o + vs.length then vs[j - o]? else cs[j]?
  | [], o, cs, j, h => by
    have : ¬ (o ≤ j ∧ j < o + ([] : List Value).length) := by simp only [List.length_nil]; omega
    rw [if_neg this]; rfl
  | v :: r, o, cs, j, h => by
    simp only [List.length_cons] at h
    rw [putA, putA_get r (o + 1) _ j (by simp; omega)]
    simp only [List.length_cons]
    by_cases h1 : j = o
    · subst h1
      rw [if_neg (by omega), if_pos (by omega)]
      simp only [Nat.sub_self, List.getElem?_cons_zero]
      rw [Array.getElem?_setIfInBounds_self_of_lt (by omega)]
    · rw [Array.getElem?_setIfInBounds_ne (by omega)]
      by_cases h2 : o ≤ j ∧ j < o + (r.length + 1)
      · rw [if_pos (by omega), if_pos h2]
        have e : j - o = (j - (o + 1)) + 1 := by omega
        rw [e, List.getElem?_cons_succ]
      · rw [if_neg (by omega), if_neg h2]
theorem putA_full (vs : List Value) (cs : Array Value) (h : vs.length = cs.size) : putA cs 0 vs = vs.toArray := by
  apply Array.ext_getElem?
  intro j
  rw [putA_get vs 0 cs j (by omega)]
  simp only [Nat.zero_le, true_and, Nat.zero_add, Nat.sub_zero, List.getElem?_toArray]
  by_cases hj : j < vs.length
  · rw [if_pos hj]
  · rw [if_neg hj, Array.getElem?_eq_none (by omega), List.getElem?_eq_none (by omega)]
theorem row_set_all {w : World} {g : Nat} {t : TypeId} {cs vs : Array Value} (hg : w.heap[g]? = some (.cells cs t (0, 0))) (hs : vs.size = cs.size) : (w.setCells g 0 vs.toList).heap[g]? = some (.cells vs t (0, 0)) := by
  have h := setCells_row vs.toList 0 w cs hg
  rw [putA_full _ _ (by simpa using hs)] at h
  simpa using h
theorem bel_setCells {B g : Nat} {w : World} (hg : B ≤ g) : ∀ (vs : List Value) (o : Nat) (W : World), Below B w W → Below B w (W.setCells g o vs)
  | [], _, _, h => h
  | v :: r, o, W, h => bel_setCells hg r (o + 1) _ (h.setCell hg v)
theorem setCells_size (g : Nat) : ∀ (vs : List Value) (o : Nat) (W : World), (W.setCells g o vs).heap.size = W.heap.size
  | [], _, _ => rfl
  | v :: r, o, W => by rw [World.setCells, setCells_size g r]; simp [World.setCell]
theorem setCells_other {g k : Nat} (h : k ≠ g) : ∀ (vs : List Value) (o : Nat) (W : World), (W.setCells g o vs).heap[k]? = W.heap[k]?
  | [], _, _ => rfl
  | v :: r, o, W => by rw [World.setCells, setCells_other h r]; exact heap_setCell_other _ _ _ _ h
theorem run_storeVar_row {P : Program} (ty : TypeId) (ie : TypeInfo) (hie : P.info? ty = some ie) (g : Nat) (t : TypeId) (cs vs : Array Value) (w : World) (hg : w.heap[g]? = some (.cells cs t (0, 0))) (hs : vs.size = cs.size) (hi : cs.size = ie.size)
    (h1 : ∀ v ∈ vs.toList, v.oneCell' = true) : (storeVar ty ⟨g, 0, none⟩ (.agg vs)).run P w = .ok () (w.setCells g 0 vs.toList) := by
  have h := run_storeCells_cells (P := P) g 0 vs.toList 0 w
    (fun k hk => by
      rw [Nat.add_zero, Nat.zero_add, cell_of_row w g k cs t _ hg, Array.getElem?_eq_getElem (by simp at hk; omega)]; rfl)
    (fun k hk => frozen_of_row w g _ cs t hg) h1
  have hti : (typeInfo ty).run P w = .ok ie w := by simp [typeInfo, hie]
  simp [storeVar, Value.cells, sizeOf, hti, hs, hi, h, Result.andThen]
def FR (k : IntKind) (n : Nat) (f : Nat → Int) : Array Value := ((List.range n).map fun i => Value.int k (f i)).toArray
theorem FR_size (k : IntKind) (n : Nat) (f : Nat → Int) : (FR k n f).size = n := by simp [FR]
theorem FR_at (k : IntKind) (n : Nat) (f : Nat → Int) (i : Nat) (h : i < n) : (FR k n f)[i]? = some (.int k (f i)) := by simp [FR, h]
theorem FR_out (k : IntKind) (n : Nat) (f : Nat → Int) (i : Nat) (h : ¬ i < n) : (FR k n f)[i]? = none := by
  apply Array.getElem?_eq_none; rw [FR_size]; omega
theorem FR_one (k : IntKind) (n : Nat) (f : Nat → Int) : ∀ v ∈ (FR k n f).toList, v.oneCell' = true := by
  intro v hv
  simp only [FR, List.mem_map] at hv
  obtain ⟨i, _, rfl⟩ := hv
  rfl
def upd (f : Nat → Int) (i : Nat) (x : Int) : Nat → Int := fun j => if j = i then x else f j
theorem upd_same (f : Nat → Int) (i : Nat) (x : Int) : upd f i x i = x := if_pos rfl
theorem upd_other (f : Nat → Int) (i j : Nat) (x : Int) (h : j ≠ i) : upd f i x j = f j := if_neg h
theorem FR_set (k : IntKind) (n : Nat) (f : Nat → Int) (i : Nat) (x : Int) (h : i < n) : (FR k n f).setIfInBounds i (.int k x) = FR k n (upd f i x) := by
  apply Array.ext_getElem?
  intro j
  by_cases hj : j = i
  · subst hj
    rw [Array.getElem?_setIfInBounds_self_of_lt (by rw [FR_size]; exact h), FR_at _ _ _ _ h, upd_same]
  · rw [Array.getElem?_setIfInBounds_ne (fun e => hj e.symm)]
    by_cases hn : j < n
    · rw [FR_at _ _ _ _ hn, FR_at _ _ _ _ hn, upd_other _ _ _ _ hj]
    · rw [FR_out _ _ _ _ hn, FR_out _ _ _ _ hn]
def Row (w : World) (g : Nat) (k : IntKind) (n : Nat) (f : Nat → Int) (t : TypeId) : Prop := w.heap[g]? = some (.cells (FR k n f) t (0, 0))
theorem Row.cell {w : World} {g : Nat} {k : IntKind} {n : Nat} {f : Nat → Int} {t : TypeId} (h : Row w g k n f t) (i : Nat) (hi : i < n) : w.cell? ⟨g, i, none⟩ = some (.int k (f i)) := by
  rw [cell_of_row w g i _ t _ h, FR_at _ _ _ _ hi]
theorem Row.fro {w : World} {g : Nat} {k : IntKind} {n : Nat} {f : Nat → Int} {t : TypeId} (h : Row w g k n f t) (i : Nat) : w.frozen? ⟨g, i, none⟩ = false := frozen_of_row w g i _ t h
theorem Row.set {w : World} {g : Nat} {k : IntKind} {n : Nat} {f : Nat → Int} {t : TypeId} (h : Row w g k n f t) (i : Nat) (x : Int) (hi : i < n) : Row (w.setCell ⟨g, i, none⟩ (.int k x)) g k n (upd f i x) t := by
  have := heap_setCell_same w g i _ t (.int k x) h
  rwa [FR_set _ _ _ _ _ hi] at this
theorem Row.other {w : World} {g : Nat} {k : IntKind} {n : Nat} {f : Nat → Int} {t : TypeId} (h : Row w g k n f t) (a : Addr) (v : Value) (ha : g ≠ a.block) : Row (w.setCell a v) g k n f t :=
  (heap_setCell_other w a g v ha).trans h
theorem Row.lt {w : World} {g : Nat} {k : IntKind} {n : Nat} {f : Nat → Int} {t : TypeId} (h : Row w g k n f t) : g < w.heap.size := (Array.getElem?_eq_some_iff.1 h).1
theorem Row.alloc {w : World} {g : Nat} {k : IntKind} {n : Nat} {f : Nat → Int} {t : TypeId} (h : Row w g k n f t) (o : Obj) : Row (w.alloc o) g k n f t := by
  have hlt := h.lt
  have e : (w.alloc o).heap[g]? = w.heap[g]? := Below.heap_alloc w o g hlt
  exact e.trans h
theorem Row.new (w : World) (k : IntKind) (n : Nat) (f : Nat → Int) (t : TypeId) : Row (w.alloc (.cells (FR k n f) t)) w.heap.size k n f t := heap_alloc_new w _
theorem Row.below {w w' : World} {B g : Nat} {k : IntKind} {n : Nat} {f : Nat → Int} {t : TypeId} (h : Row w g k n f t) (hb : Below B w w') (hg : g < B) : Row w' g k n f t := (hb.block g hg).trans h
theorem Row.drewN {w : World} {g : Nat} {k : IntKind} {n : Nat} {f : Nat → Int} {t : TypeId} (h : Row w g k n f t) (m : Nat) : Row (w.drewN m) g k n f t := h
theorem Row.all {w : World} {g : Nat} {k : IntKind} {n : Nat} {f f' : Nat → Int} {t : TypeId} (h : Row w g k n f t) : Row (w.setCells g 0 (FR k n f').toList) g k n f' t := row_set_all h (by rw [FR_size, FR_size])
structure Stored (w w' : World) (g : Nat) : Prop where
  other : ∀ k, k ≠ g → w'.heap[k]? = w.heap[k]?
  size : w'.heap.size = w.heap.size
  bel : ∀ B W, B ≤ g → Below B W w → Below B W w'
theorem Row.stored {w w' : World} {g g' : Nat} {k : IntKind} {n : Nat} {f : Nat → Int} {t : TypeId} (h : Row w g k n f t) (hs : Stored w w' g') (hg : g ≠ g') : Row w' g k n f t := (hs.other g hg).trans h
theorem row_results {P : Program} {fn : Func} {p : Tmp} {ty : TypeId} (h : fn.results = #[.cell p ty]) {tmps : Array Value} {w : World} {g : Nat} {k : IntKind} {n : Nat} {f : Nat → Int} {t : TypeId} {d : TypeDesc}
    (hr : Row w g k n f t) (hp : tmps.getD p undef = .pointer (some ⟨g, 0, none⟩)) (hu : P.underlying ty = some d) (hd : (match d with | .struct _ | .array _ _ => true | _ => false) = true) (hi : (P.info? ty).map (·.size) = some n) :
    (results fn tmps).run P w = .ok (.agg (FR k n f)) w :=
  results_cell_row h tmps w g t (FR k n f) (0, 0) d hp hr hu hd (by rw [FR_size]; exact hi)
theorem w64 (n : Int) (h : -9223372036854775808 ≤ n ∧ n ≤ 9223372036854775807) : wrap64 n = n := by unfold wrap64; omega
def val (B : Int) (f : Nat → Int) : Nat → Int
  | 0 => 0
  | n + 1 => val B f n + f n * B ^ n
theorem exec_load {P : Program} {o : Oper} {ev : Operand → Value} {w : World} {ty : TypeId} {x : Operand} {g : Nat} {k : IntKind} {n : Nat} {f : Nat → Int} {t : TypeId} {d : TypeDesc} (hr : Row w g k n f t)
    (hu : P.underlying ty = some d) (hi : (P.info? ty).map (·.size) = some n) (hd : (match d with | .struct _ | .array _ _ => true | _ => false) = true) (ho : o.op = .load ty x) (hx : ev x = .pointer (some ⟨g, 0, none⟩)) : (execOp ev o).run P w = .ok (.value (.agg (FR k n f))) w := by
  unfold execOp
  simp only [ho, hx, Instr.loadAt, Instr.sureAddr, Sem.run_bind, Sem.run_pure, Result.andThen_ok, run_loadVar_row w g t ty _ _ d hr hu hd (by rw [FR_size]; exact hi)]
theorem oper_storeG {P : Program} {o : Oper} {ops : Array Oper} {a : Act} {w : World} {K : Act → World → Prop} {Q : Exit → Act → World → Prop} {k : IntKind} {n : Nat} {f : Nat → Int} {t ty : TypeId} {x y : Operand} {g : Nat}
    (f' : Nat → Int) (hr : Row w g k n f t) (hi : (P.info? ty).map (·.size) = some n) (hw : Region.wanted o (yielded ops a.tmps) = true) (hdst : o.dst = none) (ho : o.op = .store ty x y) (hx : a.eval x = .pointer (some ⟨g, 0, none⟩)) (hy : a.eval y = .agg (FR k n f'))
    (h : ∀ w', Stored w w' g → Row w' g k n f' t → K a w') : if Region.wanted o (yielded ops a.tmps) = true then Oper.wp P o a w K Q else K (a.put none undef) w := by
  rw [if_pos hw]
  obtain ⟨ie, hie, hs⟩ : ∃ ie, P.info? ty = some ie ∧ ie.size = n := by
    cases he : P.info? ty with
    | none => rw [he] at hi; cases hi
    | some ie => rw [he] at hi; exact ⟨ie, rfl, Option.some.inj hi⟩
  unfold Oper.wp execOp
  simp only [ho, hx, hy, Instr.storeAt, Instr.sureAddr, Sem.run_bind, Sem.run_pure, Result.andThen_ok, run_storeVar_row ty ie hie g t (FR k n f) (FR k n f') w hr (by rw [FR_size, FR_size]) (by rw [FR_size, hs]) (FR_one k n f')]
  have := h _ ⟨fun k hk => setCells_other hk _ _ _, setCells_size g _ _ _, fun B W hB hb => bel_setCells hB _ _ _ hb⟩ (Row.all hr)
  show K (a.put o.dst undef) _
  rw [hdst]
  exact this
end Go.Proofs.YtlfplmlehbomlaaDoor.I
end

section
namespace Go.Proofs.YtlfplmlehbomlaaDoor.I
set_option linter.unusedVariables false
set_option linter.unusedSimpArgs false
open Go.RowKit Go.Proofs.YtlfplmlehbomlaaDoorW.PrintWords Go.Proofs.YtlfplmlehbomlaaDoorW.PrintLast Go.Proofs.YtlfplmlehbomlaaDoorW.PrintMore
def Bs (l : List Int) : Prop := ∀ x ∈ l, 0 ≤ x ∧ x ≤ 255
theorem Bs.tail {a : Int} {l : List Int} (h : Bs (a :: l)) : Bs l := fun x hx => h x (List.mem_cons_of_mem _ hx)
theorem Bs.head {a : Int} {l : List Int} (h : Bs (a :: l)) : 0 ≤ a ∧ a ≤ 255 := h a List.mem_cons_self
theorem drop_cons {l : List Int} {i : Nat} {a : Int} {t : List Int} (h : l.drop i = a :: t) : i < l.length ∧ rd l i = a ∧ l.drop (i + 1) = t := by
  have hlt : i < l.length := by
    rcases Nat.lt_or_ge i l.length with h' | h'
    · exact h'
    · rw [List.drop_eq_nil_of_le h'] at h; cases h
  rw [List.drop_eq_getElem_cons hlt] at h
  injection h with h1 h2
  refine ⟨hlt, ?_, h2⟩
  simp [rd, hlt, h1]
theorem drop_nil {l : List Int} {i : Nat} (h : l.drop i = []) : l.length ≤ i := by simpa using h
theorem bs_bytes (s : ByteArray) : Bs (bytesOf s) := by
  intro x hx
  unfold bytesOf at hx
  simp at hx
  obtain ⟨a, _, rfl⟩ := hx
  have := a.toNat_lt
  omega
theorem bt_get (s : ByteArray) (pos : Nat) (hp : pos < s.size) : bt s pos = ((s[pos]'hp).toNat : Int) := by
  simp [bt, hp]
theorem iterPos_of {w : World} {B p : Nat} {s : ByteArray} (h : w.heap[B]? = some (.stringIter s p)) : w.iterPos B = p := by simp [World.iterPos, h]
def isC (x : Int) : Prop := 128 ≤ x ∧ x < 192
instance (x : Int) : Decidable (isC x) := by unfold isC; infer_instance
def validR (v : Int) : Prop := 0 ≤ v ∧ v ≤ 1114111 ∧ ¬ (55296 ≤ v ∧ v ≤ 57343)
instance (x : Int) : Decidable (validR x) := by unfold validR; infer_instance
def rune : List Int → Option (Int × Nat)
  | [] => none
  | c :: t =>
    if c < 128 then some (c, 1)
    else if 192 ≤ c ∧ c < 224 then
      match t with
      | a :: _ => if isC a ∧ 128 ≤ c % 32 * 64 + a % 64 then some (c % 32 * 64 + a % 64, 2) else none
      | _ => none
    else if 224 ≤ c ∧ c < 240 then
      match t with
      | a :: b :: _ => if isC a ∧ isC b ∧ 2048 ≤ c % 16 * 4096 + a % 64 * 64 + b % 64 ∧ validR (c % 16 * 4096 + a % 64 * 64 + b % 64) then some (c % 16 * 4096 + a % 64 * 64 + b % 64, 3) else none
      | _ => none
    else if 240 ≤ c ∧ c < 248 then
      match t with
      | a :: b :: d :: _ => if isC a ∧ isC b ∧ isC d ∧ 65536 ≤ c % 8 * 262144 + a % 64 * 4096 + b % 64 * 64 + d % 64 ∧ validR (c % 8 * 262144 + a % 64 * 4096 + b % 64 * 64 + d % 64) then some (c % 8 * 262144 + a % 64 * 4096 + b % 64 * 64 + d % 64, 4) else none
      | _ => none
    else none
def encR (v : Int) : List Int :=
  if v < 128 then [v] else if v < 2048 then [192 + v / 64, 128 + v % 64] else if v < 65536 then [224 + v / 4096, 128 + v / 64 % 64, 128 + v % 64]
  else [240 + v / 262144, 128 + v / 4096 % 64, 128 + v / 64 % 64, 128 + v % 64]
theorem encR_len (v : Int) : 1 ≤ (encR v).length ∧ (encR v).length ≤ 4 := by
  unfold encR
  split
  · simp
  · split
    · simp
    · split <;> simp
theorem rune_some : ∀ {l : List Int} {v : Int} {n : Nat}, Bs l → rune l = some (v, n) → validR v ∧ l = encR v ++ l.drop n ∧ n = (encR v).length
  | [], v, n, _, h => by simp [rune] at h
  | c :: t, v, n, hB, h => by
    have hc := hB.head
    simp only [rune] at h
    split at h
    · injection h with h
      injection h with h1 h2
      subst h1; subst h2
      refine ⟨by unfold validR; omega, ?_, ?_⟩ <;> unfold encR <;> rw [if_pos (by omega)] <;> simp
    · split at h
      · split at h
        · rename_i a t'
          have ha := hB.tail.head
          split at h
          · rename_i hh
            obtain ⟨g1, g2⟩ := hh
            unfold isC at g1
            injection h with h
            injection h with h1 h2
            subst h2
            refine ⟨by unfold validR; omega, ?_, ?_⟩
            · unfold encR
              rw [if_neg (by omega), if_pos (by omega)]
              simp
              omega
            · unfold encR
              rw [if_neg (by omega), if_pos (by omega)]
              rfl
          · cases h
        · cases h
      · split at h
        · split at h
          · rename_i a b t'
            have ha := hB.tail.head
            have hb := hB.tail.tail.head
            split at h
            · rename_i hh
              obtain ⟨g1, g2, g3, g4⟩ := hh
              unfold isC at g1 g2
              injection h with h
              injection h with h1 h2
              subst h2
              rw [h1] at g3 g4
              refine ⟨g4, ?_, ?_⟩
              · unfold encR
                rw [if_neg (by omega), if_neg (by omega), if_pos (by omega)]
                simp
                omega
              · unfold encR
                rw [if_neg (by omega), if_neg (by omega), if_pos (by omega)]
                rfl
            · cases h
          · cases h
        · split at h
          · split at h
            · rename_i a b d t'
              have ha := hB.tail.head
              have hb := hB.tail.tail.head
              have hd := hB.tail.tail.tail.head
              split at h
              · rename_i hh
                obtain ⟨g1, g2, g3, g4, g5⟩ := hh
                unfold isC at g1 g2 g3
                injection h with h
                injection h with h1 h2
                subst h2
                rw [h1] at g4 g5
                have g6 := g5
                unfold validR at g6
                refine ⟨g5, ?_, ?_⟩
                · unfold encR
                  rw [if_neg (by omega), if_neg (by omega), if_neg (by omega)]
                  simp
                  omega
                · unfold encR
                  rw [if_neg (by omega), if_neg (by omega), if_neg (by omega)]
                  rfl
              · cases h
            · cases h
          · cases h
theorem rune_len {l : List Int} {v : Int} {n : Nat} (hB : Bs l) (h : rune l = some (v, n)) : 1 ≤ n ∧ n ≤ l.length := by
  obtain ⟨_, h2, h3⟩ := rune_some hB h
  have := encR_len v
  have hl := congrArg List.length h2
  simp at hl
  omega
theorem get_at2 (s : ByteArray) (pos k : Nat) (c : Int) (t : List Int) (h : (bytesOf s).drop (pos + k) = c :: t) : pos + k < s.size ∧ ((s.get! (pos + k)).toNat : Int) = c ∧ (bytesOf s).drop (pos + k + 1) = t := by
  obtain ⟨hlt, hr, hd⟩ := drop_cons h
  rw [zN] at hlt
  refine ⟨hlt, ?_, hd⟩
  rw [rd_bytesOf, bt_get s _ hlt] at hr
  rw [← hr]
  simp [ByteArray.get!, getElem!_pos, hlt]
  rfl
def runeR (o : Option (Int × Nat)) : Nat × Nat := match o with | some (v, n) => (v.toNat, n) | none => (65533, 1)
def decN (m x0 x1 x2 x3 : Nat) : Nat × Nat :=
  if x0 < 128 then (x0, 1)
  else if x0 / 32 = 6 ∧ 1 < m ∧ x1 / 64 = 2 then (if 128 ≤ (x0 % 32) * 64 + x1 % 64 then ((x0 % 32) * 64 + x1 % 64, 2) else (65533, 1))
  else if x0 / 16 = 14 ∧ (1 < m ∧ x1 / 64 = 2) ∧ (2 < m ∧ x2 / 64 = 2) then
    (if 2048 ≤ (x0 % 16) * 4096 + (x1 % 64) * 64 + x2 % 64 ∧ validR (((x0 % 16) * 4096 + (x1 % 64) * 64 + x2 % 64 : Nat) : Int) then ((x0 % 16) * 4096 + (x1 % 64) * 64 + x2 % 64, 3) else (65533, 1))
  else if x0 / 8 = 30 ∧ (1 < m ∧ x1 / 64 = 2) ∧ (2 < m ∧ x2 / 64 = 2) ∧ (3 < m ∧ x3 / 64 = 2) then
    (if 65536 ≤ (x0 % 8) * 262144 + (x1 % 64) * 4096 + (x2 % 64) * 64 + x3 % 64 ∧ validR (((x0 % 8) * 262144 + (x1 % 64) * 4096 + (x2 % 64) * 64 + x3 % 64 : Nat) : Int) then ((x0 % 8) * 262144 + (x1 % 64) * 4096 + (x2 % 64) * 64 + x3 % 64, 4) else (65533, 1))
  else (65533, 1)
theorem valid_iff (n : Nat) : (Utf8.valid (n : Int) = true) ↔ validR (n : Int) := by
  unfold Utf8.valid validR
  simp
  omega
theorem decode_decN (s : ByteArray) (pos : Nat) (hp : pos < s.size) : Utf8.decode s pos = decN (s.size - pos) (s.get! (pos + 0)).toNat (s.get! (pos + 1)).toNat (s.get! (pos + 2)).toNat (s.get! (pos + 3)).toNat := by
  have h1 : (pos + 1 < s.size) = (1 < s.size - pos) := by apply propext; omega
  have h2 : (pos + 2 < s.size) = (2 < s.size - pos) := by apply propext; omega
  have h3 : (pos + 3 < s.size) = (3 < s.size - pos) := by apply propext; omega
  unfold Utf8.decode decN
  simp only [h1, h2, h3, Bool.and_eq_true, decide_eq_true_eq, beq_iff_eq, ge_iff_le, valid_iff, and_assoc, Utf8.runeError]
theorem rune_cons (c : Int) (t : List Int) (x0 : Nat) (h : (x0 : Int) = c) (m x1 x2 x3 : Nat) (hx : x0 < 256)
    (h1 : 1 < m → ∃ a t1, t = a :: t1 ∧ (x1 : Int) = a ∧ x1 < 256 ∧ (2 < m → ∃ b t2, t1 = b :: t2 ∧ (x2 : Int) = b ∧ x2 < 256 ∧ (3 < m → ∃ d t3, t2 = d :: t3 ∧ (x3 : Int) = d ∧ x3 < 256) ∧ (¬ 3 < m → t2 = [])) ∧ (¬ 2 < m → t1 = []))
    (h1' : ¬ 1 < m → t = []) : decN m x0 x1 x2 x3 = runeR (rune (c :: t)) := by
  subst h
  unfold decN
  simp only [rune]
  by_cases k0 : x0 < 128
  · rw [if_pos k0, if_pos (by omega)]
    simp [runeR]
  · rw [if_neg k0, if_neg (show ¬ (x0 : Int) < 128 by omega)]
    by_cases k1 : x0 / 32 = 6
    · rw [if_pos (show 192 ≤ (x0 : Int) ∧ (x0 : Int) < 224 by omega)]
      by_cases m1 : 1 < m
      · obtain ⟨a, t1, rfl, rfl, hx1, _⟩ := h1 m1
        simp only
        by_cases g : x1 / 64 = 2
        · rw [if_pos ⟨k1, m1, g⟩]
          by_cases g2 : 128 ≤ (x0 % 32) * 64 + x1 % 64
          · rw [if_pos g2, if_pos ⟨by unfold isC; omega, by omega⟩]
            simp only [runeR]
            congr 1
          · rw [if_neg g2, if_neg (fun hh => by omega)]
            rfl
        · rw [if_neg (fun hh => g hh.2.2), if_neg (fun hh => by omega), if_neg (fun hh => by omega), if_neg (fun hh => by unfold isC at hh; omega)]
          rfl
      · rw [h1' m1]
        rw [if_neg (fun hh => m1 hh.2.1), if_neg (fun hh => by omega), if_neg (fun hh => by omega)]
        rfl
    · rw [if_neg (fun hh => k1 hh.1), if_neg (show ¬ (192 ≤ (x0 : Int) ∧ (x0 : Int) < 224) by omega)]
      by_cases k2 : x0 / 16 = 14
      · rw [if_pos (show 224 ≤ (x0 : Int) ∧ (x0 : Int) < 240 by omega)]
        by_cases m1 : 1 < m
        · obtain ⟨a, t1, rfl, rfl, hx1, h2, h2'⟩ := h1 m1
          by_cases m2 : 2 < m
          · obtain ⟨b, t2, rfl, rfl, hx2, _⟩ := h2 m2
            simp only
            by_cases g : x1 / 64 = 2 ∧ x2 / 64 = 2
            · rw [if_pos ⟨k2, ⟨m1, g.1⟩, m2, g.2⟩]
              have e : (((x0 % 16) * 4096 + (x1 % 64) * 64 + x2 % 64 : Nat) : Int) = (x0 : Int) % 16 * 4096 + (x1 : Int) % 64 * 64 + (x2 : Int) % 64 := by omega
              rw [e]
              by_cases g2 : 2048 ≤ (x0 % 16) * 4096 + (x1 % 64) * 64 + x2 % 64 ∧ validR ((x0 : Int) % 16 * 4096 + (x1 : Int) % 64 * 64 + (x2 : Int) % 64)
              · rw [if_pos g2, if_pos ⟨by unfold isC; omega, by unfold isC; omega, by omega, g2.2⟩]
                simp only [runeR]
                congr 1
              · rw [if_neg g2, if_neg (fun hh => g2 ⟨by omega, hh.2.2.2⟩)]
                rfl
            · rw [if_neg (fun hh => g ⟨hh.2.1.2, hh.2.2.2⟩), if_neg (fun hh => by omega), if_neg (fun hh => by unfold isC at hh; omega)]
              rfl
          · rw [h2' m2]
            rw [if_neg (fun hh => m2 hh.2.2.1), if_neg (fun hh => by omega)]
            rfl
        · rw [h1' m1]
          rw [if_neg (fun hh => m1 hh.2.1.1), if_neg (fun hh => by omega)]
          rfl
      · rw [if_neg (fun hh => k2 hh.1), if_neg (show ¬ (224 ≤ (x0 : Int) ∧ (x0 : Int) < 240) by omega)]
        by_cases k3 : x0 / 8 = 30
        · rw [if_pos (show 240 ≤ (x0 : Int) ∧ (x0 : Int) < 248 by omega)]
          by_cases m1 : 1 < m
          · obtain ⟨a, t1, rfl, rfl, hx1, h2, h2'⟩ := h1 m1
            by_cases m2 : 2 < m
            · obtain ⟨b, t2, rfl, rfl, hx2, h3, h3'⟩ := h2 m2
              by_cases m3 : 3 < m
              · obtain ⟨d, t3, rfl, rfl, hx3⟩ := h3 m3
                simp only
                by_cases g : x1 / 64 = 2 ∧ x2 / 64 = 2 ∧ x3 / 64 = 2
                · rw [if_pos ⟨k3, ⟨m1, g.1⟩, ⟨m2, g.2.1⟩, m3, g.2.2⟩]
                  have e : (((x0 % 8) * 262144 + (x1 % 64) * 4096 + (x2 % 64) * 64 + x3 % 64 : Nat) : Int) = (x0 : Int) % 8 * 262144 + (x1 : Int) % 64 * 4096 + (x2 : Int) % 64 * 64 + (x3 : Int) % 64 := by omega
                  rw [e]
                  by_cases g2 : 65536 ≤ (x0 % 8) * 262144 + (x1 % 64) * 4096 + (x2 % 64) * 64 + x3 % 64 ∧ validR ((x0 : Int) % 8 * 262144 + (x1 : Int) % 64 * 4096 + (x2 : Int) % 64 * 64 + (x3 : Int) % 64)
                  · rw [if_pos g2, if_pos ⟨by unfold isC; omega, by unfold isC; omega, by unfold isC; omega, by omega, g2.2⟩]
                    simp only [runeR]
                    congr 1
                  · rw [if_neg g2, if_neg (fun hh => g2 ⟨by omega, hh.2.2.2.2⟩)]
                    rfl
                · rw [if_neg (fun hh => g ⟨hh.2.1.2, hh.2.2.1.2, hh.2.2.2.2⟩), if_neg (fun hh => by unfold isC at hh; omega)]
                  rfl
              · rw [h3' m3]
                rw [if_neg (fun hh => m3 hh.2.2.2.1)]
                rfl
            · rw [h2' m2]
              rw [if_neg (fun hh => m2 hh.2.2.1.1)]
              rfl
          · rw [h1' m1]
            rw [if_neg (fun hh => m1 hh.2.1.1)]
            rfl
        · rw [if_neg (fun hh => k3 hh.1), if_neg (show ¬ (240 ≤ (x0 : Int) ∧ (x0 : Int) < 248) by omega)]
          rfl
theorem drop_shape (s : ByteArray) (p : Nat) : (p < s.size ∧ ∃ t, (bytesOf s).drop p = ((s.get! p).toNat : Int) :: t ∧ (bytesOf s).drop (p + 1) = t) ∨ (¬ p < s.size ∧ (bytesOf s).drop p = []) := by
  rcases h : (bytesOf s).drop p with _ | ⟨c, t⟩
  · right
    have := drop_nil h
    rw [zN] at this
    exact ⟨by omega, rfl⟩
  · left
    obtain ⟨h1, h2, h3⟩ := get_at2 s p 0 c t h
    rw [Nat.add_zero] at h1 h2
    exact ⟨h1, t, by rw [h2], h3⟩
theorem decode_rune (s : ByteArray) (pos : Nat) (hp : pos < s.size) : Utf8.decode s pos = runeR (rune ((bytesOf s).drop pos)) := by
  rw [decode_decN s pos hp]
  have lt : ∀ k, (s.get! k).toNat < 256 := fun k => (s.get! k).toNat_lt
  rcases drop_shape s pos with ⟨_, t, e0, e0'⟩ | ⟨hn, _⟩
  · rw [e0]
    refine rune_cons _ t _ rfl _ _ _ _ (lt _) (fun m1 => ?_) (fun m1 => ?_)
    · rcases drop_shape s (pos + 1) with ⟨_, t1, e1, e1'⟩ | ⟨hn, _⟩
      · refine ⟨_, t1, by rw [← e0', e1], rfl, lt _, fun m2 => ?_, fun m2 => ?_⟩
        · rcases drop_shape s (pos + 2) with ⟨_, t2, e2, e2'⟩ | ⟨hn, _⟩
          · refine ⟨_, t2, by rw [← e1', e2], rfl, lt _, fun m3 => ?_, fun m3 => ?_⟩
            · rcases drop_shape s (pos + 3) with ⟨_, t3, e3, e3'⟩ | ⟨hn, _⟩
              · exact ⟨_, t3, by rw [← e2', e3], rfl, lt _⟩
              · omega
            · rw [← e2']; exact List.drop_eq_nil_of_le (by rw [zN]; omega)
          · omega
        · rw [← e1']; exact List.drop_eq_nil_of_le (by rw [zN]; omega)
      · omega
    · rw [← e0']; exact List.drop_eq_nil_of_le (by rw [zN]; omega)
  · omega
theorem bt_drop (s : ByteArray) (k : Nat) (c : Int) (t : List Int) (h : (bytesOf s).drop k = c :: t) : k < s.size ∧ bt s k = c ∧ (bytesOf s).drop (k + 1) = t := by
  obtain ⟨hlt, hr, hd⟩ := drop_cons h
  rw [zN] at hlt
  rw [rd_bytesOf] at hr
  exact ⟨hlt, hr, hd⟩
theorem Bs.drop {l : List Int} (h : Bs l) (n : Nat) : Bs (l.drop n) := fun x hx => h x (List.mem_of_mem_drop hx)
theorem bytes_extract (s : ByteArray) (p : Nat) : bytesOf (s.extract p s.size) = (bytesOf s).drop p := by
  unfold bytesOf
  rw [← List.map_drop]
  congr 1
  rw [ByteArray.data_extract, Array.toList_extract, List.extract_eq_take_drop]
  exact List.take_of_length_le (by rw [List.length_drop, Array.length_toList]; exact Nat.le_refl _)
theorem bytes_take (s : ByteArray) (n : Nat) : bytesOf (s.extract 0 n) = (bytesOf s).take n := by
  unfold bytesOf
  rw [← List.map_take]
  congr 1
  rw [ByteArray.data_extract, Array.toList_extract, List.extract_eq_take_drop]
  rfl
def kSmall (r : Int) : Bool := decide (97 ≤ r) && decide (r ≤ 122)
def kGreat (r : Int) : Bool := decide (65 ≤ r) && decide (r ≤ 90)
def kDigit (r : Int) : Bool := decide (48 ≤ r) && decide (r ≤ 57)
theorem kSmall_calls (r : Int) (w : World) : Calls Tryd.prog 23 #[.int .i32 r] w fun e w' => e = .returned (.bool (kSmall r)) ∧ zI w w' := by
  unfold kSmall
  cases h1 : decide (97 ≤ r) <;> cases h2 : decide (r ≤ 122) <;> (
    go_enter Tryd.func23, Tryd.ntmps23
    go_wp2
    go_ret
    exact ⟨by first | rfl | (simp; done) | (simp [*]; done), by repeat (first | exact zI.refl _ | apply zI.step)⟩)
theorem kDigit_calls (r : Int) (w : World) : Calls Tryd.prog 24 #[.int .i32 r] w fun e w' => e = .returned (.bool (kDigit r)) ∧ zI w w' := by
  unfold kDigit
  cases h1 : decide (48 ≤ r) <;> cases h2 : decide (r ≤ 57) <;> (
    go_enter Tryd.func24, Tryd.ntmps24
    go_wp2
    go_ret
    exact ⟨by first | rfl | (simp; done) | (simp [*]; done), by repeat (first | exact zI.refl _ | apply zI.step)⟩)
def kHost (r : Int) : Bool := kSmall r || kDigit r || (r == 46) || (r == 45)
theorem kHost_calls (r : Int) (w : World) : Calls Tryd.prog 30 #[.int .i32 r] w fun e w' => e = .returned (.bool (kHost r)) ∧ zI w w' := by
  unfold kHost
  cases h0 : kSmall r <;> cases h1 : kDigit r <;> cases g0 : (r == 46) <;> cases g1 : (r == 45) <;> (
    go_enter Tryd.func30, Tryd.ntmps30
    go_wp2_with (first | (go_at_call 23; refine (kSmall_calls r _).mono ?_; rintro e w1 ⟨rfl, ⟨m1, rfl⟩⟩; rw [h0]) | (go_at_call 24; refine (kDigit_calls r _).mono ?_; rintro e w1 ⟨rfl, ⟨m1, rfl⟩⟩; rw [h1]))
    go_ret
    exact ⟨by first | rfl | (simp; done) | (simp [*]; done), by repeat (first | exact zI.refl _ | apply zI.step)⟩)
def allL (p : Int → Bool) (l : List Int) : Bool := l.all p && !l.isEmpty
def AllPost (p : Int → Bool) (s : ByteArray) (w : World) (e : Ending) (w' : World) : Prop := e = .returned (.bool (allL p (bytesOf s))) ∧ Below w.heap.size w w'
def AllRel (p : Int → Bool) (s : ByteArray) (w wr : World) : Prop := ∃ pos : Nat, pos ≤ s.size ∧ (bytesOf s).all p = ((bytesOf s).drop pos).all p ∧ wr.heap[w.heap.size]? = some (.stringIter s pos) ∧ Below w.heap.size w wr
theorem rune_low {c : Int} {t : List Int} (h : c < 128) : rune (c :: t) = some (c, 1) := by
  simp only [rune]; rw [if_pos h]
theorem rune_high {l : List Int} {v : Int} {n : Nat} (hB : Bs l) (h : rune l = some (v, n)) (hv : 128 ≤ v) : ∃ c t, l = c :: t ∧ 128 ≤ c := by
  cases l with
  | nil => simp [rune] at h
  | cons c t =>
    refine ⟨c, t, rfl, ?_⟩
    by_cases hc : c < 128
    · rw [rune_low hc] at h
      injection h with h
      injection h with h1 h2
      omega
    · omega
theorem all_false {p : Int → Bool} (hp : ∀ r, 128 ≤ r → p r = false) {l : List Int} {c : Int} {t : List Int} (e : l = c :: t) (hc : 128 ≤ c) : l.all p = false := by
  rw [e, List.all_cons, hp c hc]; rfl
theorem none_high {l : List Int} (h0 : l ≠ []) (h : rune l = none) : ∃ c t, l = c :: t ∧ 128 ≤ c := by
  cases l with
  | nil => exact absurd rfl h0
  | cons c t =>
    refine ⟨c, t, rfl, ?_⟩
    by_cases hc : c < 128
    · rw [rune_low hc] at h; cases h
    · omega
theorem low_head {l : List Int} {v : Int} {n : Nat} (hB : Bs l) (h : rune l = some (v, n)) (hv : v < 128) : l = v :: l.drop 1 ∧ n = 1 := by
  obtain ⟨hv1, hl, hn⟩ := rune_some hB h
  have e : encR v = [v] := by unfold encR; rw [if_pos hv]
  rw [e] at hl hn
  simp at hn
  subst hn
  exact ⟨hl, rfl⟩
theorem size_isEmpty (s : ByteArray) : (bytesOf s).isEmpty = decide (s.size = 0) := by
  rw [← zN]
  cases bytesOf s <;> simp
theorem toList_isEmpty (s : ByteArray) : s.toList.isEmpty = decide (s.size = 0) := by
  rw [Lib.toList_data]
  have : s.size = s.data.toList.length := Array.length_toList.symm
  rw [this]
  cases s.data.toList <;> simp
set_option maxRecDepth 100000 in
theorem all75_walk (hp : ∀ r, 128 ≤ r → kDigit r = false) (s : ByteArray) (w : World) (hs : s.size ≤ 140737488351232) : Calls Tryd.prog 21 #[.string s, .func (.func 24) #[] #[]] w (AllPost kDigit s w) := by
  go_enter Tryd.func21, Tryd.ntmps21
  go_wp2
  go_loopw [6] (fun v6 wr => AllRel kDigit s w wr) (fun _ w' => s.size - w'.iterPos w.heap.size)
  case atStart => exact ⟨0, by omega, rfl, heap_alloc_new w _, (Below.refl _ _).alloc (Nat.le_refl _) _⟩
  case round =>
    obtain ⟨pos, hpos, hd, hit, hbel⟩ := hrel
    have HD := Aside0.mk hd
    have HI := Aside0.mk hit
    have HB := Aside0.mk hbel
    have HP := Aside0.mk hp
    clear hd hit hbel hp
    by_cases hlt : pos < s.size
    · have hnx := fun ty => Lib.run_next_any_at (P := Tryd.prog) wr w.heap.size s pos ty HI.out hlt
      have HBs := Aside0.mk ((bs_bytes s).drop pos)
      have hne : (bytesOf s).drop pos ≠ [] := fun e => by have := drop_nil e; rw [zN] at this; omega
      have HNE := Aside0.mk hne
      have hdr := decode_rune s pos hlt
      clear hne
      rcases hr : rune ((bytesOf s).drop pos) with _ | ⟨v, n⟩
      · rw [hr] at hdr
        change Utf8.decode s pos = (65533, 1) at hdr
        rw [hdr] at hnx
        have HR := Aside0.mk hr
        clear hr hdr
        go_wp2_with fail
        refine (kDigit_calls _ _).mono ?_
        rintro e w1 ⟨rfl, ⟨m, rfl⟩⟩
        have hk : kDigit (65533 : Int) = false := HP.out _ (by omega)
        go_wp2_with fail
        go_ret
        refine ⟨?_, zX (Lib.below_iterAt HB.out (Nat.le_refl _) _ _) _⟩
        obtain ⟨c, t, e1, e2⟩ := none_high HNE.out HR.out
        unfold allL
        rw [HD.out, all_false HP.out e1 e2]
        rfl
      · rw [hr] at hdr
        have hn := rune_len HBs.out hr
        have hv := (rune_some HBs.out hr).1
        rw [List.length_drop, zN] at hn
        obtain ⟨vn, rfl⟩ : ∃ vn : Nat, v = (vn : Int) := ⟨v.toNat, by unfold validR at hv; omega⟩
        change Utf8.decode s pos = ((vn : Int).toNat, n) at hdr
        rw [Int.toNat_natCast] at hdr
        rw [hdr] at hnx
        have HR := Aside0.mk hr
        have hn1 := hn.1
        have hn2 := hn.2
        clear hr hdr hn
        cases hk : kDigit (vn : Int)
        · go_wp2_with fail
          refine (kDigit_calls _ _).mono ?_
          rintro e w1 ⟨rfl, ⟨m, rfl⟩⟩
          go_wp2_with fail
          go_ret
          refine ⟨?_, zX (Lib.below_iterAt HB.out (Nat.le_refl _) _ _) _⟩
          unfold allL
          rw [HD.out]
          by_cases hv2 : (vn : Int) < 128
          · rw [(low_head HBs.out HR.out hv2).1, List.all_cons, hk]; rfl
          · obtain ⟨c, t, e1, e2⟩ := rune_high HBs.out HR.out (by omega)
            rw [all_false HP.out e1 e2]; rfl
        · have hv2 : (vn : Int) < 128 := by
            by_cases h : (vn : Int) < 128
            · exact h
            · rw [HP.out _ (by omega)] at hk; cases hk
          have HL := Aside0.mk (low_head HBs.out HR.out hv2)
          clear hv2
          go_wp2_with fail
          refine (kDigit_calls _ _).mono ?_
          rintro e w1 ⟨rfl, ⟨m, rfl⟩⟩
          go_wp2_with fail
          have hit1 : ((wr.iterAt w.heap.size s (pos + n)).drewN m).heap[w.heap.size]? = some (.stringIter s (pos + n)) := Lib.iterAt_heap _ _ _ _ _ HI.out
          refine ⟨⟨pos + n, by omega, ?_, hit1, zX (Lib.below_iterAt HB.out (Nat.le_refl _) _ _) _⟩, ?_⟩
          · rw [HD.out, HL.out.1, List.all_cons, hk, HL.out.2, List.drop_drop, Bool.true_and]
          · rw [iterPos_of hit1, iterPos_of HI.out]; omega
    · have hnx := fun ty => Lib.run_next_end_at (P := Tryd.prog) wr w.heap.size s pos ty HI.out hlt
      have h0 : (bytesOf s).all kDigit = true := by
        rw [HD.out, List.drop_eq_nil_of_le (by rw [zN]; omega)]; rfl
      have H0 := Aside0.mk h0
      clear h0
      go_wp2_with fail
      go_ret
      refine ⟨?_, HB.out⟩
      unfold allL
      rw [H0.out, size_isEmpty]
      have : (true && !decide (s.size = 0)) = !s.toList.isEmpty := by rw [toList_isEmpty]; rfl
      rw [this]
      rfl
theorem all75_calls (s : ByteArray) (w : World) (hs : s.size ≤ 140737488351232) : Calls Tryd.prog 21 #[.string s, .func (.func 24) #[] #[]] w (fun e w' => e = .returned (.bool (allL kDigit (bytesOf s))) ∧ Below w.heap.size w w') :=
  all75_walk (by intro r hr; unfold kDigit; simp [kSmall, kGreat, kDigit]; omega) s w hs
set_option maxRecDepth 100000 in
theorem all81_walk (hp : ∀ r, 128 ≤ r → kHost r = false) (s : ByteArray) (w : World) (hs : s.size ≤ 140737488351232) : Calls Tryd.prog 21 #[.string s, .func (.func 30) #[] #[]] w (AllPost kHost s w) := by
  go_enter Tryd.func21, Tryd.ntmps21
  go_wp2
  go_loopw [6] (fun v6 wr => AllRel kHost s w wr) (fun _ w' => s.size - w'.iterPos w.heap.size)
  case atStart => exact ⟨0, by omega, rfl, heap_alloc_new w _, (Below.refl _ _).alloc (Nat.le_refl _) _⟩
  case round =>
    obtain ⟨pos, hpos, hd, hit, hbel⟩ := hrel
    have HD := Aside0.mk hd
    have HI := Aside0.mk hit
    have HB := Aside0.mk hbel
    have HP := Aside0.mk hp
    clear hd hit hbel hp
    by_cases hlt : pos < s.size
    · have hnx := fun ty => Lib.run_next_any_at (P := Tryd.prog) wr w.heap.size s pos ty HI.out hlt
      have HBs := Aside0.mk ((bs_bytes s).drop pos)
      have hne : (bytesOf s).drop pos ≠ [] := fun e => by have := drop_nil e; rw [zN] at this; omega
      have HNE := Aside0.mk hne
      have hdr := decode_rune s pos hlt
      clear hne
      rcases hr : rune ((bytesOf s).drop pos) with _ | ⟨v, n⟩
      · rw [hr] at hdr
        change Utf8.decode s pos = (65533, 1) at hdr
        rw [hdr] at hnx
        have HR := Aside0.mk hr
        clear hr hdr
        go_wp2_with fail
        refine (kHost_calls _ _).mono ?_
        rintro e w1 ⟨rfl, ⟨m, rfl⟩⟩
        have hk : kHost (65533 : Int) = false := HP.out _ (by omega)
        go_wp2_with fail
        go_ret
        refine ⟨?_, zX (Lib.below_iterAt HB.out (Nat.le_refl _) _ _) _⟩
        obtain ⟨c, t, e1, e2⟩ := none_high HNE.out HR.out
        unfold allL
        rw [HD.out, all_false HP.out e1 e2]
        rfl
      · rw [hr] at hdr
        have hn := rune_len HBs.out hr
        have hv := (rune_some HBs.out hr).1
        rw [List.length_drop, zN] at hn
        obtain ⟨vn, rfl⟩ : ∃ vn : Nat, v = (vn : Int) := ⟨v.toNat, by unfold validR at hv; omega⟩
        change Utf8.decode s pos = ((vn : Int).toNat, n) at hdr
        rw [Int.toNat_natCast] at hdr
        rw [hdr] at hnx
        have HR := Aside0.mk hr
        have hn1 := hn.1
        have hn2 := hn.2
        clear hr hdr hn
        cases hk : kHost (vn : Int)
        · go_wp2_with fail
          refine (kHost_calls _ _).mono ?_
          rintro e w1 ⟨rfl, ⟨m, rfl⟩⟩
          go_wp2_with fail
          go_ret
          refine ⟨?_, zX (Lib.below_iterAt HB.out (Nat.le_refl _) _ _) _⟩
          unfold allL
          rw [HD.out]
          by_cases hv2 : (vn : Int) < 128
          · rw [(low_head HBs.out HR.out hv2).1, List.all_cons, hk]; rfl
          · obtain ⟨c, t, e1, e2⟩ := rune_high HBs.out HR.out (by omega)
            rw [all_false HP.out e1 e2]; rfl
        · have hv2 : (vn : Int) < 128 := by
            by_cases h : (vn : Int) < 128
            · exact h
            · rw [HP.out _ (by omega)] at hk; cases hk
          have HL := Aside0.mk (low_head HBs.out HR.out hv2)
          clear hv2
          go_wp2_with fail
          refine (kHost_calls _ _).mono ?_
          rintro e w1 ⟨rfl, ⟨m, rfl⟩⟩
          go_wp2_with fail
          have hit1 : ((wr.iterAt w.heap.size s (pos + n)).drewN m).heap[w.heap.size]? = some (.stringIter s (pos + n)) := Lib.iterAt_heap _ _ _ _ _ HI.out
          refine ⟨⟨pos + n, by omega, ?_, hit1, zX (Lib.below_iterAt HB.out (Nat.le_refl _) _ _) _⟩, ?_⟩
          · rw [HD.out, HL.out.1, List.all_cons, hk, HL.out.2, List.drop_drop, Bool.true_and]
          · rw [iterPos_of hit1, iterPos_of HI.out]; omega
    · have hnx := fun ty => Lib.run_next_end_at (P := Tryd.prog) wr w.heap.size s pos ty HI.out hlt
      have h0 : (bytesOf s).all kHost = true := by
        rw [HD.out, List.drop_eq_nil_of_le (by rw [zN]; omega)]; rfl
      have H0 := Aside0.mk h0
      clear h0
      go_wp2_with fail
      go_ret
      refine ⟨?_, HB.out⟩
      unfold allL
      rw [H0.out, size_isEmpty]
      have : (true && !decide (s.size = 0)) = !s.toList.isEmpty := by rw [toList_isEmpty]; rfl
      rw [this]
      rfl
theorem all81_calls (s : ByteArray) (w : World) (hs : s.size ≤ 140737488351232) : Calls Tryd.prog 21 #[.string s, .func (.func 30) #[] #[]] w (fun e w' => e = .returned (.bool (allL kHost (bytesOf s))) ∧ Below w.heap.size w w') :=
  all81_walk (by intro r hr; unfold kHost; simp [kSmall, kGreat, kDigit]; omega) s w hs
def colonN : List Int → Nat | [] => 0 | c :: t => if c = 58 then 0 else colonN t + 1
theorem colonN_le : ∀ l, colonN l ≤ l.length
  | [] => Nat.le_refl _
  | c :: t => by
    have := colonN_le t
    simp only [colonN, List.length_cons]
    split <;> omega
theorem index_colon : ∀ l : List UInt8, Lib.indexByte l 58 = if colonN (l.map fun b => (b.toNat : Int)) < l.length then (colonN (l.map fun b => (b.toNat : Int)) : Int) else -1
  | [] => rfl
  | b :: l => by
    have ih := index_colon l
    simp only [Lib.indexByte, List.map_cons, colonN, List.length_cons]
    by_cases hb : b = 58
    · subst hb
      simp
    · have h1 : (b == 58) = false := by simpa using hb
      have h2 : ¬ (b.toNat : Int) = 58 := by
        intro h
        apply hb
        have : b.toNat = (58 : UInt8).toNat := by simp; omega
        exact UInt8.toNat_inj.mp this
      rw [h1, if_neg h2]
      simp only [Bool.false_eq_true, if_false]
      rw [ih]
      by_cases hc : colonN (l.map fun b => (b.toNat : Int)) < l.length
      · have e : ((colonN (l.map fun b => (b.toNat : Int)) : Int) == -1) = false := beq_eq_false_iff_ne.mpr (by omega)
        have hc' : colonN (l.map fun b => (b.toNat : Int)) + 1 < l.length + 1 := by omega
        rw [if_pos hc, if_pos hc', e]
        simp
      · have hc' : ¬ colonN (l.map fun b => (b.toNat : Int)) + 1 < l.length + 1 := by omega
        rw [if_neg hc, if_neg hc']
        rfl
def colonI (s : ByteArray) : Int := if colonN (bytesOf s) < s.size then (colonN (bytesOf s) : Int) else -1
theorem index_byte_colon (s : ByteArray) : Lib.indexByte s.data.toList 58 = colonI s := by
  rw [index_colon]
  rfl
set_option maxRecDepth 100000 in
theorem indexByte_calls (s : ByteArray) (w : World) :
    Calls Tryd.prog 43 #[.string s, .int .u8 58] w fun e w' => e = .returned (.int .i64 (colonI s)) ∧ w' = w := by
  go_enter Tryd.func43, Tryd.ntmps43
  go_wp2
  rw [run_callFunc_extern Tryd.func46 (by kernel_rfl) (by kernel_rfl) (by kernel_rfl) (e := Extern.BytealgIndexByte.indexByte) (by kernel_rfl), Lib.run_indexByteString]
  simp only [Result.andThen]
  rw [Oper.upon_value]
  have : Lib.indexByte s.data.toList (58 : Int).toNat.toUInt8 = colonI s := index_byte_colon s
  rw [this]
  go_wp2
  go_ret
  exact ⟨rfl, rfl⟩
set_option maxRecDepth 100000 in
theorem index_calls (s : ByteArray) (w : World) :
    Calls Tryd.prog 42 #[.string s, .string ⟨#[58]⟩] w fun e w' => e = .returned (.int .i64 (colonI s)) ∧ zI w w' := by
  go_enter Tryd.func42, Tryd.ntmps42
  go_wp2_with (go_at_call 43; refine (indexByte_calls s _).mono ?_; rintro e w1 ⟨rfl, rfl⟩)
  · have h : ([58] == s.toList) = true := by assumption
    go_ret
    refine ⟨?_, zI.refl _⟩
    have e : s.data.toList = [58] := by rw [← Lib.toList_data]; exact (beq_iff_eq.1 h).symm
    have : colonI s = 0 := by rw [← index_byte_colon, e]; rfl
    rw [this]
    rfl
  · go_ret
    exact ⟨rfl, zI.refl _⟩
theorem index_at (s : ByteArray) (c : Int) (w : World) (h : colonI s = c) :
    Calls Tryd.prog 42 #[.string s, .string ⟨#[58]⟩] w fun e w' => e = .returned (.int .i64 c) ∧ zI w w' := by
  rw [← h]; exact index_calls s w
def cutS (s : ByteArray) : ByteArray × ByteArray × Bool :=
  if colonN (bytesOf s) < s.size then (s.extract 0 (colonN (bytesOf s)), s.extract (colonN (bytesOf s) + 1) s.size, true) else (s, ⟨#[]⟩, false)
set_option maxRecDepth 100000 in
theorem cut97_calls (s : ByteArray) (w : World) (hs : s.size ≤ 140737488351232) :
    Calls Tryd.prog 36 #[.string s, .string ⟨#[58]⟩] w fun e w' => e = .returned (.tuple #[.string (cutS s).1, .string (cutS s).2.1, .bool (cutS s).2.2]) ∧ zI w w' := by
  unfold cutS
  by_cases hc : colonN (bytesOf s) < s.size
  · have hi : colonI s = (colonN (bytesOf s) : Int) := if_pos hc
    rw [if_pos hc]
    generalize colonN (bytesOf s) = n at hc hi
    have HI := Aside0.mk hi
    clear hi
    have h0 : decide ((0 : Int) ≤ (n : Int)) = true := decide_eq_true (by omega)
    have h1 : (n : Int) ≤ (s.size : Int) := by omega
    have h2 : (0 : Int) ≤ (n : Int) := by omega
    have h3 : (0 : Int) ≤ (n : Int) + 1 := by omega
    have h4 : (n : Int) + 1 ≤ (s.size : Int) := by omega
    go_enter Tryd.func36, Tryd.ntmps36
    go_wp2_with (go_at_call 42; refine (index_at s _ _ HI.out).mono ?_; rintro e w1 ⟨rfl, ⟨m, rfl⟩⟩)
    go_region
    go_wp2
    go_ret3
    exact ⟨rfl, m + 1, rfl⟩
  · have hi : colonI s = -1 := if_neg hc
    rw [if_neg hc]
    have HI := Aside0.mk hi
    clear hi
    go_enter Tryd.func36, Tryd.ntmps36
    go_wp2_with (go_at_call 42; refine (index_at s _ _ HI.out).mono ?_; rintro e w1 ⟨rfl, ⟨m, rfl⟩⟩)
    go_ret3
    exact ⟨rfl, _, rfl⟩
theorem cut_calls (s : ByteArray) (w : World) (hs : s.size ≤ 140737488351232) :
    Calls Tryd.prog 29 #[.string s, .string ⟨#[58]⟩] w fun e w' => e = .returned (.tuple #[.string (cutS s).1, .string (cutS s).2.1, .bool (cutS s).2.2]) ∧ zI w w' := by
  go_enter Tryd.func29, Tryd.ntmps29
  go_wp2_with (go_at_call 36; refine (cut97_calls s _ hs).mono ?_; rintro e w1 ⟨rfl, ⟨m, rfl⟩⟩)
  go_ret3
  exact ⟨rfl, _, rfl⟩
theorem bel_d {w w1 : World} {m : Nat} (hb : Below (w.drewN m).heap.size (w.drewN m) w1) : Below w.heap.size w w1 := (zX (Below.refl _ _) m).trans hb
set_option maxRecDepth 100000 in
theorem ib104_calls (s : ByteArray) (c : Int) (w : World) :
    Calls Tryd.prog 43 #[.string s, .int .u8 c] w fun e w' => e = .returned (.int .i64 (Lib.indexByte s.data.toList c.toNat.toUInt8)) ∧ w' = w := by
  go_enter Tryd.func43, Tryd.ntmps43
  go_wp2
  rw [run_callFunc_extern Tryd.func46 (by kernel_rfl) (by kernel_rfl) (by kernel_rfl) (e := Extern.BytealgIndexByte.indexByte) (by kernel_rfl), Lib.run_indexByteString]
  simp only [Result.andThen]
  rw [Oper.upon_value]
  go_wp2
  go_ret
  exact ⟨rfl, rfl⟩
theorem ib_calls (s : ByteArray) (c : Int) (r : Int) (w : World) (h : Lib.indexByte s.data.toList c.toNat.toUInt8 = r) :
    Calls Tryd.prog 37 #[.string s, .int .u8 c] w fun e w' => e = .returned (.int .i64 r) ∧ w' = w := by
  subst h
  go_enter Tryd.func37, Tryd.ntmps37
  go_wp2_with (go_at_call 43; refine (ib104_calls s c _).mono ?_; rintro e w1 ⟨rfl, rfl⟩)
  go_ret
  exact ⟨rfl, rfl⟩
theorem ib_none : ∀ (l : List UInt8) (c : UInt8), (∀ x ∈ l, x ≠ c) → Lib.indexByte l c = -1
  | [], c, _ => rfl
  | b :: l, c, h => by
    have h1 : (b == c) = false := beq_eq_false_iff_ne.mpr (h b (List.mem_cons_self ..))
    have h2 := ib_none l c (fun x hx => h x (List.mem_cons_of_mem _ hx))
    simp only [Lib.indexByte, h1, h2]
    rfl
def kSign (r : Int) : Bool := (r == 46) || (r == 95) || (r == 61) || (r == 45) || (r == 47) || (r == 43)
set_option maxRecDepth 100000 in
theorem sign_index : ∀ n : Fin 128, decide ((0 : Int) ≤ Lib.indexByte [46, 95, 61, 45, 47, 43] ((n.val : Int)).toNat.toUInt8) = kSign (n.val : Int) := by decide
set_option maxRecDepth 100000 in
theorem contains_low (r : Int) (w : World) (h0 : 0 ≤ r) (h1 : r < 128) :
    Calls Tryd.prog 25 #[.string ⟨#[46, 95, 61, 45, 47, 43]⟩, .int .i32 r] w fun e w' => e = .returned (.bool (kSign r)) ∧ zI w w' := by
  obtain ⟨n, rfl⟩ : ∃ n : Fin 128, r = (n.val : Int) := ⟨⟨r.toNat, by omega⟩, by simp; omega⟩
  have hs := sign_index n
  generalize hi : Lib.indexByte [46, 95, 61, 45, 47, 43] ((n.val : Int)).toNat.toUInt8 = i at hs
  have HI := Aside0.mk hi
  clear hi
  have a1 : decide ((0 : Int) ≤ (n.val : Int)) = true := decide_eq_true h0
  have a2 : decide ((n.val : Int) < 128) = true := decide_eq_true h1
  have hw : IntKind.u8.wrap (n.val : Int) = (n.val : Int) := by
    have : (n.val : Int) % 256 = (n.val : Int) := by omega
    exact this
  have HX : Aside0 (∀ w, Calls Tryd.prog 31 #[.string ⟨#[46, 95, 61, 45, 47, 43]⟩, .int .i32 (n.val : Int)] w fun e w' => e = .returned (.int .i64 i) ∧ zI w w') := by
    refine ⟨fun w => ?_⟩
    go_enter Tryd.func31, Tryd.ntmps31
    go_wp2_with (go_at_call 37; refine (ib_calls _ _ _ _ HI.out).mono ?_; rintro e w1 ⟨rfl, rfl⟩)
    go_ret
    exact ⟨rfl, zI.refl _⟩
  rw [← hs]
  clear a1 a2 hw hs
  go_enter Tryd.func25, Tryd.ntmps25
  go_wp2_with (go_at_call 31; refine (HX.out _).mono ?_; rintro e w1 ⟨rfl, ⟨m, rfl⟩⟩)
  go_ret
  exact ⟨rfl, _, rfl⟩
theorem ib_high (s : ByteArray) (c : Int) (w : World) (hl : ∀ x ∈ s.data.toList, x.toNat < 128) (h0 : 128 ≤ c) (h1 : c < 256) :
    Calls Tryd.prog 37 #[.string s, .int .u8 c] w fun e w' => e = .returned (.int .i64 (-1)) ∧ w' = w := by
  refine ib_calls s c (-1) w (ib_none _ _ fun x hx hc => ?_)
  have h2 := hl x hx
  have h3 : c.toNat.toUInt8.toNat = c.toNat := by simp [Nat.toUInt8]; omega
  rw [hc] at h2
  omega
theorem extract_low (z : ByteArray) (hz : ∀ x ∈ z.data.toList, x.toNat < 128) (n m : Nat) : ∀ x ∈ (z.extract n m).data.toList, x.toNat < 128 := by
  intro x hx
  apply hz
  rw [ByteArray.data_extract, Array.toList_extract, List.extract_eq_take_drop] at hx
  exact List.mem_of_mem_drop (List.mem_of_mem_take hx)
theorem encode_len (v : Int) (h : validR v) (h1 : 128 ≤ v) : Utf8.valid v = true := by
  obtain ⟨n, rfl⟩ : ∃ n : Nat, v = (n : Int) := ⟨v.toNat, by unfold validR at h; omega⟩
  exact (valid_iff n).mpr h
theorem valid106_calls (r : Int) (w : World) (hv : validR r) (h1 : 128 ≤ r) :
    Calls Tryd.prog 38 #[.int .i32 r] w fun e w' => e = .returned (.bool true) ∧ zI w w' := by
  unfold validR at hv
  have a1 : decide ((0 : Int) ≤ r) = true := decide_eq_true (by omega)
  have a4 : decide (r ≤ 1114111) = true := decide_eq_true (by omega)
  by_cases hl : r < 55296
  · have a2 : decide (r < 55296) = true := decide_eq_true hl
    clear hl hv
    go_enter Tryd.func38, Tryd.ntmps38
    go_wp2
    go_ret
    exact ⟨rfl, zI.refl _⟩
  · have a2 : decide (r < 55296) = false := decide_eq_false hl
    have a3 : decide (57343 < r) = true := decide_eq_true (by omega)
    clear hl hv
    go_enter Tryd.func38, Tryd.ntmps38
    go_wp2
    go_ret
    exact ⟨rfl, zI.refl _⟩
theorem last_facts (rs : ByteArray) (k : Nat) (hk : rs.size = k + 1) (he : ∀ h : rs.size - 1 < rs.size, 128 ≤ (rs[rs.size - 1]'h).toNat) (h : k < rs.size) :
    128 ≤ ((rs[k]'h).toNat : Int) ∧ ((rs[k]'h).toNat : Int) < 256 := by
  have h2 : rs.size - 1 = k := by omega
  have h1 : 128 ≤ (rs[k]'h).toNat := by
    have := he (by omega)
    simp only [h2] at this
    exact this
  have := (rs[k]'h).toNat_lt
  omega
set_option maxRecDepth 100000 in
theorem index_high1 (r : Int) (rs : ByteArray) (w : World) (hv : validR r) (h1 : 128 ≤ r) (hne : r ≠ 65533) (hrs : Utf8.encode r = rs) (hsz : rs.size = 1 + 1)
    (he : ∀ h : rs.size - 1 < rs.size, 128 ≤ (rs[rs.size - 1]'h).toNat) :
    Calls Tryd.prog 31 #[.string ⟨#[46, 95, 61, 45, 47, 43]⟩, .int .i32 r] w fun e w' => e = .returned (.int .i64 (-1)) ∧ zI w w' := by
  have hlt : 1 < rs.size := by omega
  obtain ⟨b1, b2⟩ := last_facts rs 1 hsz he hlt
  have a1 : decide ((0 : Int) ≤ r) = true := decide_eq_true (by omega)
  have a2 : decide (r < 128) = false := decide_eq_false (by omega)
  have a3 : (r == 65533) = false := beq_eq_false_iff_ne.mpr hne
  generalize hb : ((rs[1]'hlt).toNat : Int) = b at b1 b2
  have B1 := Aside0.mk b1
  have B2 := Aside0.mk b2
  have HV := Aside0.mk hv
  have H1 := Aside0.mk h1
  have c1 : (95 : Int) ≠ b := by omega
  have c2 : ((((⟨#[46, 95, 61, 45, 47, 43]⟩ : ByteArray)[1]'(by decide)).toNat : Int) != b) = true := bne_iff_ne.mpr c1
  have hsz2 : (rs.size : Int) = 1 + 1 := by omega
  clear he b1 b2 hv h1 hne c1 hsz
  go_enter Tryd.func31, Tryd.ntmps31
  go_wp2_with (go_at_call 38; refine (valid106_calls r _ HV.out H1.out).mono ?_; rintro e w1 ⟨rfl, ⟨m1, rfl⟩⟩)
  go_step3
  go_wp2_with fail
  go_loopw [9] (fun v9 wr => v9 = .int .i64 1 ∧ wr = w.drewN m1) (fun _ _ => 0)
  case atStart => exact ⟨rfl, rfl⟩
  case round =>
    obtain ⟨rfl, rfl⟩ := hrel
    go_wp2_with fail
    go_step3
    go_wp2_with fail
    go_region
    go_wp2_with fail
    go_region_with (go_at_call 37; refine (ib_high _ _ _ (extract_low _ (by decide) _ _) B1.out B2.out).mono ?_; rintro e w1 ⟨rfl, rfl⟩)
    all_goals go_wp2_with fail
    all_goals repeat (first | rw [Exit.noGoto_ret] | rw [Exit.inBlock_ret])
    all_goals go_wp2_with fail
    all_goals repeat (first | rw [Exit.noGoto_ret] | rw [Exit.inBlock_ret])
    all_goals go_ret
    all_goals exact ⟨rfl, _, rfl⟩
set_option maxRecDepth 100000 in
theorem index_high2 (r : Int) (rs : ByteArray) (w : World) (hv : validR r) (h1 : 128 ≤ r) (hne : r ≠ 65533) (hrs : Utf8.encode r = rs) (hsz : rs.size = 2 + 1)
    (he : ∀ h : rs.size - 1 < rs.size, 128 ≤ (rs[rs.size - 1]'h).toNat) :
    Calls Tryd.prog 31 #[.string ⟨#[46, 95, 61, 45, 47, 43]⟩, .int .i32 r] w fun e w' => e = .returned (.int .i64 (-1)) ∧ zI w w' := by
  have hlt : 2 < rs.size := by omega
  obtain ⟨b1, b2⟩ := last_facts rs 2 hsz he hlt
  have a1 : decide ((0 : Int) ≤ r) = true := decide_eq_true (by omega)
  have a2 : decide (r < 128) = false := decide_eq_false (by omega)
  have a3 : (r == 65533) = false := beq_eq_false_iff_ne.mpr hne
  generalize hb : ((rs[2]'hlt).toNat : Int) = b at b1 b2
  have B1 := Aside0.mk b1
  have B2 := Aside0.mk b2
  have HV := Aside0.mk hv
  have H1 := Aside0.mk h1
  have c1 : (61 : Int) ≠ b := by omega
  have c2 : ((((⟨#[46, 95, 61, 45, 47, 43]⟩ : ByteArray)[2]'(by decide)).toNat : Int) != b) = true := bne_iff_ne.mpr c1
  have hsz2 : (rs.size : Int) = 2 + 1 := by omega
  clear he b1 b2 hv h1 hne c1 hsz
  go_enter Tryd.func31, Tryd.ntmps31
  go_wp2_with (go_at_call 38; refine (valid106_calls r _ HV.out H1.out).mono ?_; rintro e w1 ⟨rfl, ⟨m1, rfl⟩⟩)
  go_step3
  go_wp2_with fail
  go_loopw [9] (fun v9 wr => v9 = .int .i64 2 ∧ wr = w.drewN m1) (fun _ _ => 0)
  case atStart => exact ⟨rfl, rfl⟩
  case round =>
    obtain ⟨rfl, rfl⟩ := hrel
    go_wp2_with fail
    go_step3
    go_wp2_with fail
    go_region
    go_wp2_with fail
    go_region_with (go_at_call 37; refine (ib_high _ _ _ (extract_low _ (by decide) _ _) B1.out B2.out).mono ?_; rintro e w1 ⟨rfl, rfl⟩)
    all_goals go_wp2_with fail
    all_goals repeat (first | rw [Exit.noGoto_ret] | rw [Exit.inBlock_ret])
    all_goals go_wp2_with fail
    all_goals repeat (first | rw [Exit.noGoto_ret] | rw [Exit.inBlock_ret])
    all_goals go_ret
    all_goals exact ⟨rfl, _, rfl⟩
set_option maxRecDepth 100000 in
theorem index_high3 (r : Int) (rs : ByteArray) (w : World) (hv : validR r) (h1 : 128 ≤ r) (hne : r ≠ 65533) (hrs : Utf8.encode r = rs) (hsz : rs.size = 3 + 1)
    (he : ∀ h : rs.size - 1 < rs.size, 128 ≤ (rs[rs.size - 1]'h).toNat) :
    Calls Tryd.prog 31 #[.string ⟨#[46, 95, 61, 45, 47, 43]⟩, .int .i32 r] w fun e w' => e = .returned (.int .i64 (-1)) ∧ zI w w' := by
  have hlt : 3 < rs.size := by omega
  obtain ⟨b1, b2⟩ := last_facts rs 3 hsz he hlt
  have a1 : decide ((0 : Int) ≤ r) = true := decide_eq_true (by omega)
  have a2 : decide (r < 128) = false := decide_eq_false (by omega)
  have a3 : (r == 65533) = false := beq_eq_false_iff_ne.mpr hne
  generalize hb : ((rs[3]'hlt).toNat : Int) = b at b1 b2
  have B1 := Aside0.mk b1
  have B2 := Aside0.mk b2
  have HV := Aside0.mk hv
  have H1 := Aside0.mk h1
  have c1 : (45 : Int) ≠ b := by omega
  have c2 : ((((⟨#[46, 95, 61, 45, 47, 43]⟩ : ByteArray)[3]'(by decide)).toNat : Int) != b) = true := bne_iff_ne.mpr c1
  have hsz2 : (rs.size : Int) = 3 + 1 := by omega
  clear he b1 b2 hv h1 hne c1 hsz
  go_enter Tryd.func31, Tryd.ntmps31
  go_wp2_with (go_at_call 38; refine (valid106_calls r _ HV.out H1.out).mono ?_; rintro e w1 ⟨rfl, ⟨m1, rfl⟩⟩)
  go_step3
  go_wp2_with fail
  go_loopw [9] (fun v9 wr => v9 = .int .i64 3 ∧ wr = w.drewN m1) (fun _ _ => 0)
  case atStart => exact ⟨rfl, rfl⟩
  case round =>
    obtain ⟨rfl, rfl⟩ := hrel
    go_wp2_with fail
    go_step3
    go_wp2_with fail
    go_region
    go_wp2_with fail
    go_region_with (go_at_call 37; refine (ib_high _ _ _ (extract_low _ (by decide) _ _) B1.out B2.out).mono ?_; rintro e w1 ⟨rfl, rfl⟩)
    all_goals go_wp2_with fail
    all_goals repeat (first | rw [Exit.noGoto_ret] | rw [Exit.inBlock_ret])
    all_goals go_wp2_with fail
    all_goals repeat (first | rw [Exit.noGoto_ret] | rw [Exit.inBlock_ret])
    all_goals go_ret
    all_goals exact ⟨rfl, _, rfl⟩
def ErrRel (w wr : World) : Prop := ∃ pos : Nat, pos ≤ 6 ∧ wr.heap[w.heap.size]? = some (.stringIter ⟨#[46, 95, 61, 45, 47, 43]⟩ pos) ∧ Below w.heap.size w wr
theorem sign_dec : ∀ p : Fin 6, (Utf8.decode ⟨#[46, 95, 61, 45, 47, 43]⟩ p.val).1 < 128 ∧ (Utf8.decode ⟨#[46, 95, 61, 45, 47, 43]⟩ p.val).2 = 1 := by decide
set_option maxRecDepth 100000 in
theorem index_err (w : World) :
    Calls Tryd.prog 31 #[.string ⟨#[46, 95, 61, 45, 47, 43]⟩, .int .i32 65533] w fun e w' => e = .returned (.int .i64 (-1)) ∧ Below w.heap.size w w' := by
  go_enter Tryd.func31, Tryd.ntmps31
  go_wp2_with fail
  go_loopw [5, 6] (fun v5 v6 wr => ErrRel w wr) (fun _ _ w' => 6 - w'.iterPos w.heap.size)
  case atStart => exact ⟨0, by omega, heap_alloc_new w _, (Below.refl _ _).alloc (Nat.le_refl _) _⟩
  case round =>
    obtain ⟨pos, hpos, hit, hbel⟩ := hrel
    have HI := Aside0.mk hit
    have HB := Aside0.mk hbel
    clear hit hbel
    by_cases hlt : pos < 6
    · have hnx := fun ty => Lib.run_next_any_at (P := Tryd.prog) wr w.heap.size ⟨#[46, 95, 61, 45, 47, 43]⟩ pos ty HI.out hlt
      have hd := sign_dec ⟨pos, hlt⟩
      simp only at hd
      generalize Utf8.decode ⟨#[46, 95, 61, 45, 47, 43]⟩ pos = d at hd hnx
      obtain ⟨v, n⟩ := d
      obtain ⟨d1, d2⟩ := hd
      simp only at d1 d2
      subst d2
      have d3 : ((v : Int) == 65533) = false := beq_eq_false_iff_ne.mpr (by omega)
      clear d1
      go_wp2_with fail
      have hit1 : (wr.iterAt w.heap.size ⟨#[46, 95, 61, 45, 47, 43]⟩ (pos + 1)).heap[w.heap.size]? = some (.stringIter ⟨#[46, 95, 61, 45, 47, 43]⟩ (pos + 1)) := Lib.iterAt_heap _ _ _ _ _ HI.out
      refine ⟨⟨pos + 1, by omega, hit1, Lib.below_iterAt HB.out (Nat.le_refl _) _ _⟩, ?_⟩
      rw [iterPos_of hit1, iterPos_of HI.out]; omega
    · have hnx := fun ty => Lib.run_next_end_at (P := Tryd.prog) wr w.heap.size ⟨#[46, 95, 61, 45, 47, 43]⟩ pos ty HI.out hlt
      go_wp2_with fail
      go_ret
      exact ⟨rfl, HB.out⟩
theorem index_high (r : Int) (w : World) (hv : validR r) (h1 : 128 ≤ r) :
    Calls Tryd.prog 31 #[.string ⟨#[46, 95, 61, 45, 47, 43]⟩, .int .i32 r] w fun e w' => e = .returned (.int .i64 (-1)) ∧ Below w.heap.size w w' := by
  by_cases hne : r = 65533
  · subst hne
    exact index_err w
  · obtain ⟨e1, e2, e3⟩ := encode_facts r (encode_len r hv h1) h1
    have hcase : (Utf8.encode r).size = 1 + 1 ∨ (Utf8.encode r).size = 2 + 1 ∨ (Utf8.encode r).size = 3 + 1 := by omega
    rcases hcase with h | h | h
    · exact (index_high1 r _ w hv h1 hne rfl h e3).mono (by rintro e w' ⟨rfl, ⟨m, rfl⟩⟩; exact ⟨rfl, zX (Below.refl _ _) _⟩)
    · exact (index_high2 r _ w hv h1 hne rfl h e3).mono (by rintro e w' ⟨rfl, ⟨m, rfl⟩⟩; exact ⟨rfl, zX (Below.refl _ _) _⟩)
    · exact (index_high3 r _ w hv h1 hne rfl h e3).mono (by rintro e w' ⟨rfl, ⟨m, rfl⟩⟩; exact ⟨rfl, zX (Below.refl _ _) _⟩)
theorem contains_calls (r : Int) (w : World) (hv : validR r) :
    Calls Tryd.prog 25 #[.string ⟨#[46, 95, 61, 45, 47, 43]⟩, .int .i32 r] w fun e w' => e = .returned (.bool (kSign r)) ∧ Below w.heap.size w w' := by
  by_cases h1 : r < 128
  · exact (contains_low r w hv.1 h1).mono (by rintro e w' ⟨rfl, ⟨m, rfl⟩⟩; exact ⟨rfl, zX (Below.refl _ _) _⟩)
  · have hk : kSign r = false := by
      unfold kSign
      simp
      omega
    rw [hk]
    have HX := Aside0.mk (fun w => index_high r w hv (by omega))
    clear hk h1 hv
    go_enter Tryd.func25, Tryd.ntmps25
    go_wp2_with (go_at_call 31; refine (HX.out _).mono ?_; rintro e w1 ⟨rfl, hb⟩)
    go_ret
    exact ⟨rfl, hb⟩
def kUser (r : Int) : Bool := kSmall r || kDigit r || kSign r
theorem kUser_calls (r : Int) (w : World) (hv : validR r) : Calls Tryd.prog 22 #[.int .i32 r] w fun e w' => e = .returned (.bool (kUser r)) ∧ Below w.heap.size w w' := by
  unfold kUser
  have HX := Aside0.mk (fun w => contains_calls r w hv)
  clear hv
  cases h0 : kSmall r <;> cases h1 : kDigit r
  all_goals simp only [Bool.false_or, Bool.true_or]
  all_goals go_enter Tryd.func22, Tryd.ntmps22
  all_goals go_wp2_with (first | (go_at_call 23; refine (kSmall_calls r _).mono ?_; rintro e w1 ⟨rfl, ⟨m1, rfl⟩⟩; rw [h0]) | (go_at_call 24; refine (kDigit_calls r _).mono ?_; rintro e w1 ⟨rfl, ⟨m2, rfl⟩⟩; rw [h1]) | (go_at_call 25; refine (HX.out _).mono ?_; rintro e w1 ⟨rfl, hb⟩))
  all_goals go_ret
  · exact ⟨rfl, bel_d hb⟩
  · exact ⟨rfl, zX (Below.refl _ _) _⟩
  · exact ⟨rfl, zX (Below.refl _ _) _⟩
  · exact ⟨rfl, zX (Below.refl _ _) _⟩
def serverS (s : ByteArray) : Bool := allL kHost (bytesOf (cutS s).1) && decide ((s.size : Int) ≤ 255) && (!(cutS s).2.2 || decide (((cutS s).2.1.size : Int) ≤ 5) && allL kDigit (bytesOf (cutS s).2.1))
theorem cutS_size (s : ByteArray) : (cutS s).1.size ≤ s.size ∧ (cutS s).2.1.size ≤ s.size := by
  unfold cutS
  split
  · simp only [ByteArray.size_extract]; omega
  · exact ⟨Nat.le_refl _, Nat.zero_le _⟩
theorem server_calls (s : ByteArray) (w : World) (hs : s.size ≤ 140737488351232) :
    Calls Tryd.prog 20 #[.string s] w fun e w' => e = .returned (.bool (serverS s)) ∧ Below w.heap.size w w' := by
  have hcs := cutS_size s
  have CUT := fun w => cut_calls s w hs
  unfold serverS
  generalize cutS s = c at hcs CUT
  obtain ⟨h, p, has⟩ := c
  have hh : h.size ≤ 140737488351232 := by have := hcs.1; simp only at this; omega
  have hp : p.size ≤ 140737488351232 := by have := hcs.2; simp only at this; omega
  have HC := Aside0.mk CUT
  clear CUT hcs
  cases hal : allL kHost (bytesOf h) <;> cases hlen : decide ((s.size : Int) ≤ 255) <;> cases has <;> cases hpl : decide ((p.size : Int) ≤ 5)
  all_goals simp only [Bool.false_and, Bool.true_and, Bool.not_true, Bool.not_false, Bool.true_or, Bool.false_or]
  all_goals go_enter Tryd.func20, Tryd.ntmps20
  all_goals go_wp2_with (go_at_call 29; refine (HC.out _).mono ?_; rintro e w1 ⟨rfl, ⟨m1, rfl⟩⟩)
  all_goals refine (all81_calls _ _ hh).mono ?_
  all_goals rintro e w1 ⟨rfl, hb⟩
  all_goals rw [hal]
  all_goals go_wp2_with fail
  all_goals first
    | (go_ret; exact ⟨rfl, bel_d hb⟩)
    | (refine (all75_calls _ _ hp).mono ?_
       rintro e w2 ⟨rfl, hb2⟩
       go_wp2_with fail
       go_ret
       exact ⟨rfl, (bel_d hb).trans (hb2.mono (bel_d hb).size)⟩)
def partsS (s : ByteArray) (sign : Int) : ByteArray × ByteArray × Bool :=
  if 0 < s.size ∧ bt s 0 = sign ∧ s.size ≤ 255 then cutS (s.extract 1 s.size) else (⟨#[]⟩, ⟨#[]⟩, false)
theorem partsS_size (s : ByteArray) (sign : Int) : (partsS s sign).1.size ≤ s.size ∧ (partsS s sign).2.1.size ≤ s.size := by
  unfold partsS
  split
  · have := cutS_size (s.extract 1 s.size)
    simp only [ByteArray.size_extract] at this
    omega
  · exact ⟨Nat.zero_le _, Nat.zero_le _⟩
theorem parts_calls (s : ByteArray) (sign : Int) (w : World) (hs : s.size ≤ 140737488351232) :
    Calls Tryd.prog 19 #[.string s, .int .u8 sign] w fun e w' => e = .returned (.tuple #[.string (partsS s sign).1, .string (partsS s sign).2.1, .bool (partsS s sign).2.2]) ∧ zI w w' := by
  by_cases h0 : s.size = 0
  · have e : partsS s sign = (⟨#[]⟩, ⟨#[]⟩, false) := if_neg (by omega)
    have es : s = ⟨#[]⟩ := by
      obtain ⟨⟨l⟩⟩ := s
      cases l with
      | nil => rfl
      | cons a t => cases h0
    rw [e, es]
    go_enter Tryd.func19, Tryd.ntmps19
    go_wp2_with fail
    go_ret3
    exact ⟨rfl, by repeat (first | exact zI.refl _ | apply zI.step)⟩
  · have hne : (s.toList == ([] : List UInt8)) = false := by
      have h := toList_isEmpty s
      cases e : s.toList with
      | nil => rw [e] at h; exact absurd (of_decide_eq_true h.symm) h0
      | cons a t => rfl
    have hne2 : s.toList.isEmpty = false := by rw [toList_isEmpty]; exact decide_eq_false h0
    have h1 : (0 : Int) < (s.size : Int) := by omega
    have h1b : 0 < s.size := by omega
    have HS := Aside0.mk hs
    have hb0 : ((s[0]'h1b).toNat : Int) = bt s 0 := zR s 0 h1b
    by_cases hb : bt s 0 = sign
    · have hbb : (((s[0]'h1b).toNat : Int) != sign) = false := by rw [bne_eq_false_iff_eq, ← hb]; exact hb0
      by_cases hl : s.size ≤ 255
      · have e : partsS s sign = cutS (s.extract 1 s.size) := if_pos ⟨by omega, hb, hl⟩
        have hx : (s.extract 1 s.size).size ≤ 140737488351232 := by simp only [ByteArray.size_extract]; omega
        rw [e]
        have hlen : decide ((255 : Int) < (s.size : Int)) = false := decide_eq_false (by omega)
        have h2 : (1 : Int) ≤ (s.size : Int) := by omega
        clear hb0 hb hl e
        go_enter Tryd.func19, Tryd.ntmps19
        go_wp2_with (go_at_call 29; refine (cut_calls _ _ hx).mono ?_; rintro e w1 ⟨rfl, ⟨m1, rfl⟩⟩)
        go_ret3
        exact ⟨rfl, by repeat (first | exact zI.refl _ | apply zI.step)⟩
      · have e : partsS s sign = (⟨#[]⟩, ⟨#[]⟩, false) := if_neg (by omega)
        rw [e]
        have hlen : decide ((255 : Int) < (s.size : Int)) = true := decide_eq_true (by omega)
        clear hb0 hb hl e
        go_enter Tryd.func19, Tryd.ntmps19
        go_wp2_with fail
        go_ret3
        exact ⟨rfl, by repeat (first | exact zI.refl _ | apply zI.step)⟩
    · have e : partsS s sign = (⟨#[]⟩, ⟨#[]⟩, false) := if_neg (fun h => hb h.2.1)
      rw [e]
      have hbb : (((s[0]'h1b).toNat : Int) != sign) = true := by rw [bne_iff_ne, hb0]; exact hb
      clear hb0 hb e
      go_enter Tryd.func19, Tryd.ntmps19
      go_wp2_with fail
      go_ret3
      exact ⟨rfl, by repeat (first | exact zI.refl _ | apply zI.step)⟩
def namedS (k : Int → Bool) (s : ByteArray) (sign : Int) : Bool := (partsS s sign).2.2 && serverS (partsS s sign).2.1 && allL k (bytesOf (partsS s sign).1)
set_option maxRecDepth 100000 in
theorem all92_walk (hp : ∀ r, 128 ≤ r → kUser r = false) (s : ByteArray) (w : World) (hs : s.size ≤ 140737488351232) : Calls Tryd.prog 21 #[.string s, .func (.func 22) #[] #[]] w (AllPost kUser s w) := by
  go_enter Tryd.func21, Tryd.ntmps21
  go_wp2
  go_loopw [6] (fun v6 wr => AllRel kUser s w wr) (fun _ w' => s.size - w'.iterPos w.heap.size)
  case atStart => exact ⟨0, by omega, rfl, heap_alloc_new w _, (Below.refl _ _).alloc (Nat.le_refl _) _⟩
  case round =>
    obtain ⟨pos, hpos, hd, hit, hbel⟩ := hrel
    have HD := Aside0.mk hd
    have HI := Aside0.mk hit
    have HB := Aside0.mk hbel
    have HP := Aside0.mk hp
    clear hd hit hbel hp
    by_cases hlt : pos < s.size
    · have hnx := fun ty => Lib.run_next_any_at (P := Tryd.prog) wr w.heap.size s pos ty HI.out hlt
      have HBs := Aside0.mk ((bs_bytes s).drop pos)
      have hne : (bytesOf s).drop pos ≠ [] := fun e => by have := drop_nil e; rw [zN] at this; omega
      have HNE := Aside0.mk hne
      have hdr := decode_rune s pos hlt
      clear hne
      rcases hr : rune ((bytesOf s).drop pos) with _ | ⟨v, n⟩
      · rw [hr] at hdr
        change Utf8.decode s pos = (65533, 1) at hdr
        rw [hdr] at hnx
        have HR := Aside0.mk hr
        clear hr hdr
        go_wp2_with fail
        refine (kUser_calls _ _ (by unfold validR; omega)).mono ?_
        rintro e w1 ⟨rfl, hb⟩
        have hk : kUser (65533 : Int) = false := HP.out _ (by omega)
        go_wp2_with fail
        go_ret
        refine ⟨?_, (Lib.below_iterAt HB.out (Nat.le_refl _) _ _).trans (hb.mono (Lib.below_iterAt HB.out (Nat.le_refl _) _ _).size)⟩
        obtain ⟨c, t, e1, e2⟩ := none_high HNE.out HR.out
        unfold allL
        rw [HD.out, all_false HP.out e1 e2]
        rfl
      · rw [hr] at hdr
        have hn := rune_len HBs.out hr
        have hv := (rune_some HBs.out hr).1
        rw [List.length_drop, zN] at hn
        obtain ⟨vn, rfl⟩ : ∃ vn : Nat, v = (vn : Int) := ⟨v.toNat, by unfold validR at hv; omega⟩
        change Utf8.decode s pos = ((vn : Int).toNat, n) at hdr
        rw [Int.toNat_natCast] at hdr
        rw [hdr] at hnx
        have HVR := Aside0.mk hv
        have HR := Aside0.mk hr
        have hn1 := hn.1
        have hn2 := hn.2
        clear hr hdr hn
        cases hk : kUser (vn : Int)
        · go_wp2_with fail
          refine (kUser_calls _ _ HVR.out).mono ?_
          rintro e w1 ⟨rfl, hb⟩
          go_wp2_with fail
          go_ret
          refine ⟨?_, (Lib.below_iterAt HB.out (Nat.le_refl _) _ _).trans (hb.mono (Lib.below_iterAt HB.out (Nat.le_refl _) _ _).size)⟩
          unfold allL
          rw [HD.out]
          by_cases hv2 : (vn : Int) < 128
          · rw [(low_head HBs.out HR.out hv2).1, List.all_cons, hk]; rfl
          · obtain ⟨c, t, e1, e2⟩ := rune_high HBs.out HR.out (by omega)
            rw [all_false HP.out e1 e2]; rfl
        · have hv2 : (vn : Int) < 128 := by
            by_cases h : (vn : Int) < 128
            · exact h
            · rw [HP.out _ (by omega)] at hk; cases hk
          have HL := Aside0.mk (low_head HBs.out HR.out hv2)
          clear hv2
          go_wp2_with fail
          refine (kUser_calls _ _ HVR.out).mono ?_
          rintro e w1 ⟨rfl, hb⟩
          go_wp2_with fail
          have hit0 : (wr.iterAt w.heap.size s (pos + n)).heap[w.heap.size]? = some (.stringIter s (pos + n)) := Lib.iterAt_heap _ _ _ _ _ HI.out
          have hlt0 : w.heap.size < (wr.iterAt w.heap.size s (pos + n)).heap.size := (Array.getElem?_eq_some_iff.mp hit0).1
          have hit1 : w1.heap[w.heap.size]? = some (.stringIter s (pos + n)) := by rw [hb.block _ hlt0]; exact hit0
          refine ⟨⟨pos + n, by omega, ?_, hit1, (Lib.below_iterAt HB.out (Nat.le_refl _) _ _).trans (hb.mono (Lib.below_iterAt HB.out (Nat.le_refl _) _ _).size)⟩, ?_⟩
          · rw [HD.out, HL.out.1, List.all_cons, hk, HL.out.2, List.drop_drop, Bool.true_and]
          · rw [iterPos_of hit1, iterPos_of HI.out]; omega
    · have hnx := fun ty => Lib.run_next_end_at (P := Tryd.prog) wr w.heap.size s pos ty HI.out hlt
      have h0 : (bytesOf s).all kUser = true := by
        rw [HD.out, List.drop_eq_nil_of_le (by rw [zN]; omega)]; rfl
      have H0 := Aside0.mk h0
      clear h0
      go_wp2_with fail
      go_ret
      refine ⟨?_, HB.out⟩
      unfold allL
      rw [H0.out, size_isEmpty]
      have : (true && !decide (s.size = 0)) = !s.toList.isEmpty := by rw [toList_isEmpty]; rfl
      rw [this]
      rfl
theorem all92_calls (s : ByteArray) (w : World) (hs : s.size ≤ 140737488351232) : Calls Tryd.prog 21 #[.string s, .func (.func 22) #[] #[]] w (fun e w' => e = .returned (.bool (allL kUser (bytesOf s))) ∧ Below w.heap.size w w') :=
  all92_walk (by intro r hr; unfold kUser; simp [kSmall, kDigit, kSign]; omega) s w hs
theorem user_calls (s : ByteArray) (w : World) (hs : s.size ≤ 140737488351232) :
    Calls Tryd.prog 12 #[.string s] w fun e w' => e = .returned (.bool (namedS kUser s 64)) ∧ Below w.heap.size w w' := by
  have hcs := partsS_size s 64
  have CUT := fun w => parts_calls s 64 w hs
  unfold namedS
  generalize partsS s 64 = c at hcs CUT
  obtain ⟨h, p, ok⟩ := c
  have hh : h.size ≤ 140737488351232 := by have := hcs.1; simp only at this; omega
  have hp : p.size ≤ 140737488351232 := by have := hcs.2; simp only at this; omega
  have HC := Aside0.mk CUT
  clear CUT hcs
  cases ok <;> cases hsv : serverS p
  all_goals simp only [Bool.false_and, Bool.true_and]
  all_goals go_enter Tryd.func12, Tryd.ntmps12
  all_goals go_wp2_with (go_at_call 19; refine (HC.out _).mono ?_; rintro e w1 ⟨rfl, ⟨m1, rfl⟩⟩)
  · go_ret; exact ⟨rfl, zX (Below.refl _ _) _⟩
  · go_ret; exact ⟨rfl, zX (Below.refl _ _) _⟩
  · refine (server_calls p _ hp).mono ?_
    rintro e w1 ⟨rfl, hb⟩
    rw [hsv]
    go_wp2_with fail
    go_ret
    exact ⟨rfl, bel_d hb⟩
  · refine (server_calls p _ hp).mono ?_
    rintro e w1 ⟨rfl, hb⟩
    rw [hsv]
    go_wp2_with fail
    refine (all92_calls _ _ hh).mono ?_
    rintro e w2 ⟨rfl, hb2⟩
    go_wp2_with fail
    go_ret
    exact ⟨rfl, (bel_d hb).trans (hb2.mono (bel_d hb).size)⟩
end Go.Proofs.YtlfplmlehbomlaaDoor.I
end
