/- Merged of the texts: Ci, Cj, Ck, Ec, Ed, Ee, Ef, Eg, Eh, Ei, Ej, Ek, La, Sa, Sb, Sc, Rf, Sd, St, Sf, Sg, Eq (trim.py). -/
import Derived.Lib.Strings
import Derived.Shelf.Spec.BitsCarry
import Derived.RangeFuncNested
import Derived.RangeFuncBound
import Derived.RangeFuncCalls
import Derived.RangeFuncLeaves
import Derived.RangeFuncBox
import Derived.Shelf.Abstract
import Derived.Shelf.RegionOpen
import Derived.OwnWalkIn
import Derived.TacticsInMore
import Derived.LoopNIn
import Derived.LoopIn
import Derived.Laws.AppendOwn
import Derived.Lib.LaidTab
import Derived.LaidMore
import Derived.Stop.LaidErr
import Derived.Test.YtaaipbhfikefaaaDoorRows
import Derived.Test.YtaaipbhfikefaaaDoorQ3
section
namespace Go.Proofs.YtaaipbhfikefaaaDoor.P
set_option linter.unusedVariables false
set_option linter.unusedSimpArgs false
open Go.RowKit Go.ChangeShapes Go.WideShapes Go.Proofs.YtaaipbhfikefaaaDoorW.PrintWords Go.Proofs.YtaaipbhfikefaaaDoorW.PrintLast Go.Proofs.YtaaipbhfikefaaaDoorW.PrintMore
open Go.Proofs.YtaaipbhfikefaaaDoor.P.Fd
theorem lss_run {x c : Int} {k : IntKind} {t : TypeId} {r : Bool} (h : decide (x < c) = r) (w : World) (p q : Operand) : (do eqGuard .lss t p q (.int k x) (.int k c); binOp .lss t (.int k x) (.int k c) : Sem Value).run Tryd.prog w = .ok (.bool r) w := by subst h; go_simp
theorem add1_run {i : Nat} (hi : i < 1000000) (w : World) (p q : Operand) : (do eqGuard .add 3 p q (.int .i64 (i : Int)) (.int .i64 1); binOp .add 3 (.int .i64 (i : Int)) (.int .i64 1) : Sem Value).run Tryd.prog w = .ok (.int .i64 ((i + 1 : Nat) : Int)) w := by
  have e : IntKind.i64.wrap ((i : Int) + 1) = (i : Int) + 1 := (i64_w _).trans (w64 _ (by omega))
  go_simp
  try exact e
theorem index_run {i : Nat} (hi : i < 32) (g : Nat) (w : World) : (Instr.indexAt 22 (.pointer (some ⟨g, 0, none⟩)) (.int .i64 (i : Int))).run Tryd.prog w = .ok (.pointer (some ⟨g, i, none⟩)) w := by
  have h1 : (0 : Int) ≤ (i : Int) := by omega
  have h2 : (i : Int) < 32 := by omega
  have h3 : (i : Int).toNat = i := by omega
  go_simp
def bBf (i j : Nat) : Int := if j = 0 then 88 else if j < max i 2 then 102 else 0
theorem bBf_step {i : Nat} (h : 1 ≤ i) : upd (bBf i) i 102 = bBf (i + 1) := by
  funext j
  unfold upd bBf
  by_cases hj : j = i
  · rw [if_pos hj, if_neg (by omega), if_pos (by omega)]
  · rw [if_neg hj]
    by_cases h0 : j = 0
    · rw [if_pos h0, if_pos h0]
    · rw [if_neg h0, if_neg h0]
      by_cases h1 : j < max i 2
      · rw [if_pos h1, if_pos (by omega)]
      · rw [if_neg h1, if_neg (by omega)]
theorem bBf_By (i : Nat) : By (bBf i) := fun j _ => by unfold bBf; repeat' split
                                                       all_goals omega
theorem build_b (w : World) : (Instr.build 22 #[(0, .int .u8 88), (1, .int .u8 102)]).run Tryd.prog w = .ok (.agg (FR .u8 32 (bBf 1))) w := by kernel_rfl
def baseP : Nat → Int := decP (bBf 32)
theorem base_pt (w : World) (hT : TabD w) : Calls Tryd.prog 24 #[] w fun e w' => e = .returned (.agg (FR .u64 20 baseP)) ∧ Below w.heap.size w w' := by
  obtain ⟨X, hX⟩ : ∃ X, decP (bBf 32) = X := ⟨_, rfl⟩
  obtain ⟨Z, hZ⟩ : ∃ Z, decOk (bBf 32) = Z := ⟨_, rfl⟩
  have hD : ∀ w', Below w.heap.size w w' → Calls Tryd.prog 12 #[.agg (FR .u8 32 (bBf 32))] w' fun e w'' => e = .returned (.tuple #[.agg (FR .u64 20 X), .bool Z]) ∧ Below w'.heap.size w' w'' := fun w' hw => by rw [← hX, ← hZ]; exact decode_pt _ w' (hT.below hw hT.lt) (bBf_By 32)
  refine enter_ 18 Tryd.func24 rfl rfl (fun a0 hS => ?_)
  have HS0 : Sl a0 18 [] := hS
  have HH0 : Held w w [] := Held.first w
  clear hS
  refine wp_seq ?_
  have hLo : LOk [(0, 0, .ptr 0 0)] := ⟨show ([0] : List Nat).Nodup by decide, show ([0] : List Nat).Nodup by decide⟩
  refine plain_ (wE := w) (sz := 18) (n := 1) [0] [(0, .ptr 0 0)] [(0, 0, .ptr 0 0)] [⟨0, some 0, none, .u64, 20, fun _ => 0, fun _ => 0, 28⟩] rfl (by rfl) HH0 rfl rfl hLo rfl HS0 (slL 0 (d := 0) rfl (trivial)) ?_ ?_
  · show ∀ i ∈ [0], _
    refine steps_cons (st_alloc 0 0 .u64 20 28 none _ _ rfl rfl (fun _ _ _ _ => rfl) rfl hLo rfl rfl rfl rfl (by rfl) (fun b G w _ _ => by kernel_rfl)) ?_
    exact steps_nil
  clear hLo
  intro G a1 w1 hS hH
  have HS1 : Sl a1 18 [(0, .pointer (some ⟨(G 0), 0, none⟩))] := hS
  have HH1 : Held w w1 [⟨(G 0), .u64, 20, fun _ => 0, 28⟩] := hH
  clear hS hH HS0 HH0
  generalize G 0 = g1_0 at HS1 HH1
  refine then_ ?_
  refine wp_seq ?_
  have hLo : LOk [(0, 5, .val (.agg (FR .u8 32 (bBf 1)))), (1, 1, .ptr 1 0)] := ⟨show ([0, 1] : List Nat).Nodup by decide, show ([5, 1] : List Nat).Nodup by decide⟩
  refine plain_ (wE := w) (sz := 18) (n := 3) [0, 1, 3] [(0, .val (.pointer (some ⟨g1_0, 0, none⟩))), (1, .ptr 1 0)] [(0, 5, .val (.agg (FR .u8 32 (bBf 1)))), (1, 1, .ptr 1 0)] [⟨g1_0, none, none, .u64, 20, fun _ => 0, fun _ => 0, 28⟩, ⟨0, some 1, some 2, .u8, 32, fun _ => 0, bBf 1, 22⟩] rfl (by rfl) HH1 rfl rfl hLo rfl HS1 (slS 0 rfl rfl (slL 1 (d := 1) rfl (trivial))) ?_ ?_
  · show ∀ i ∈ [0, 1, 2], _
    refine steps_cons (st_run 0 _ rfl rfl hLo rfl rfl (fun _ _ _ _ => rfl) (fun b G w hb ho => exec_build rfl (parts2 (rfl) (rfl)) (build_b _))) ?_
    refine steps_cons (st_alloc 1 1 .u8 32 22 (some 2) _ _ rfl rfl (fun _ _ _ _ => rfl) rfl hLo rfl rfl rfl rfl (by rfl) (fun b G w _ _ => by kernel_rfl)) ?_
    refine steps_cons (st_store 1 _ rfl rfl rfl rfl rfl (fun _ _ _ _ => rfl) rfl rfl rfl (by rfl) infoB3 (fun b G hb ho => ev_on hLo 1 rfl HS1.1 rfl (hb 1 (by rfl))) (fun b G hb ho => ev_on hLo 0 rfl HS1.1 rfl (hb 0 (by rfl)))) ?_
    exact steps_nil
  clear hLo
  intro G a2 w2 hS hH
  have HS2 : Sl a2 18 [(0, .pointer (some ⟨g1_0, 0, none⟩)), (1, .pointer (some ⟨(G 1), 0, none⟩))] := hS
  have HH2 : Held w w2 [⟨g1_0, .u64, 20, fun _ => 0, 28⟩, ⟨(G 1), .u8, 32, bBf 1, 22⟩] := hH
  clear hS hH HS1 HH1
  generalize G 1 = g2_1 at HS2 HH2
  refine then_ ?_
  refine wp_seq ?_
  refine wp_seq ?_
  have hLo : LOk [(0, 2, .val (.int .i64 1))] := ⟨show ([0] : List Nat).Nodup by decide, show ([2] : List Nat).Nodup by decide⟩
  refine plain_ (wE := w) (sz := 18) (n := 1) [0] [(0, .val (.pointer (some ⟨g1_0, 0, none⟩))), (1, .val (.pointer (some ⟨g2_1, 0, none⟩))), (2, .val (.int .i64 1))] [(0, 2, .val (.int .i64 1))] [⟨g1_0, none, none, .u64, 20, fun _ => 0, fun _ => 0, 28⟩, ⟨g2_1, none, none, .u8, 32, bBf 1, bBf 1, 22⟩] rfl (by rfl) HH2 rfl rfl hLo rfl HS2 (slS 0 rfl rfl (slS 1 rfl rfl (slL 0 (d := 0) rfl (trivial)))) ?_ ?_
  · show ∀ i ∈ [0], _
    refine steps_cons (st_run 0 _ rfl rfl hLo rfl rfl (fun _ _ _ _ => rfl) (fun b G w hb ho => exec_move (.inr rfl) (rfl))) ?_
    exact steps_nil
  clear hLo
  intro G a3 w3 hS hH
  have HS3 : Sl a3 18 [(0, .pointer (some ⟨g1_0, 0, none⟩)), (1, .pointer (some ⟨g2_1, 0, none⟩)), (2, .int .i64 1)] := hS
  have HH3 : Held w w3 [⟨g1_0, .u64, 20, fun _ => 0, 28⟩, ⟨g2_1, .u8, 32, bBf 1, 22⟩] := hH
  clear hS hH HS2 HH2
  refine then_ ?_
  refine wp_block ?_
  refine wp_loop (fun a w' => ∃ i : Nat, 1 ≤ i ∧ i ≤ 32 ∧ Sl a 18 [(0, .pointer (some ⟨g1_0, 0, none⟩)), (1, .pointer (some ⟨g2_1, 0, none⟩)), (2, .int .i64 ((i : Nat) : Int))] ∧ Held w w' [⟨g1_0, .u64, 20, fun _ => 0, 28⟩, ⟨g2_1, .u8, 32, bBf i, 22⟩]) (fun a _ => 32 - (intOf (a.eval (.tmp 2))).toNat) ⟨1, by omega, by omega, HS3, HH3⟩ ?_
  clear HS3 HH3
  rintro a w1 ⟨i, h1, hi, HSl, HHl⟩
  have hm : (intOf (a.eval (.tmp 2))).toNat = i := by rw [HSl.get 2 rfl]; exact Int.toNat_natCast i
  rw [hm]
  clear hm
  obtain ⟨r, hr⟩ : ∃ r, decide ((i : Int) < 32) = r := ⟨_, rfl⟩
  refine wp_seq ?_
  refine wp_seq ?_
  have hLo : LOk [(0, 6, .val (.int .i64 ((i : Nat) : Int))), (1, 7, .val (.bool r))] := ⟨show ([0, 1] : List Nat).Nodup by decide, show ([6, 7] : List Nat).Nodup by decide⟩
  refine plain_ (wE := w) (sz := 18) (n := 2) [0, 1] [(0, .val (.pointer (some ⟨g1_0, 0, none⟩))), (1, .val (.pointer (some ⟨g2_1, 0, none⟩))), (2, .val (.int .i64 ((i : Nat) : Int))), (7, .val (.bool r))] [(0, 6, .val (.int .i64 ((i : Nat) : Int))), (1, 7, .val (.bool r))] [⟨g1_0, none, none, .u64, 20, fun _ => 0, fun _ => 0, 28⟩, ⟨g2_1, none, none, .u8, 32, bBf i, bBf i, 22⟩] rfl (by rfl) HHl rfl rfl hLo rfl HSl (slS 0 rfl rfl (slS 1 rfl rfl (slS 2 rfl rfl (slL 1 (d := 1) rfl (trivial))))) ?_ ?_
  · show ∀ i ∈ [0, 1], _
    refine steps_cons (st_run 0 _ rfl rfl hLo rfl rfl (fun _ _ _ _ => rfl) (fun b G w hb ho => exec_move (.inl rfl) (ev_off rfl (HSl.get 2 rfl)))) ?_
    refine steps_cons (st_run 1 _ rfl rfl hLo rfl rfl (fun _ _ _ _ => rfl) (fun b G w hb ho => exec_bin rfl (ev_on hLo 0 rfl HSl.1 rfl (hb 0 (by rfl))) (rfl) (lss_run hr _ _ _))) ?_
    exact steps_nil
  clear hLo
  intro G a4 w4 hS hH
  have HS4 : Sl a4 18 [(0, .pointer (some ⟨g1_0, 0, none⟩)), (1, .pointer (some ⟨g2_1, 0, none⟩)), (2, .int .i64 ((i : Nat) : Int)), (7, .bool r)] := hS
  have HH4 : Held w w4 [⟨g1_0, .u64, 20, fun _ => 0, 28⟩, ⟨g2_1, .u8, 32, bBf i, 22⟩] := hH
  clear hS hH HSl HHl
  refine then_ ?_
  cases r
  · skip
    refine wp_cond_false (HS4.get 3 rfl) ?_
    refine wp_exit ?_
    repeat refine then_exit ?_
    refine inBlock_exit ?_
    obtain rfl : i = 32 := by have := of_decide_eq_false hr; omega
    refine then_ ?_
    refine wp_seq ?_
    have hLo : LOk [(0, 13, .val (.agg (FR .u8 32 (bBf 32)))), (1, 14, .val (.tuple #[.agg (FR .u64 20 (X)), .bool Z])), (2, 12, .val (.tuple #[.agg (FR .u64 20 (X)), .bool Z])), (3, 15, .val (.agg (FR .u64 20 (X)))), (4, 16, .val (.bool Z)), (5, 3, .ptr 5 0), (7, 4, .val (.bool Z))] := ⟨show ([0, 1, 2, 3, 4, 5, 7] : List Nat).Nodup by decide, show ([13, 14, 12, 15, 16, 3, 4] : List Nat).Nodup by decide⟩
    refine plain_ (wE := w) (sz := 18) (n := 8) [0, 1, 3, 7, 15, 31, 63, 127] [(0, .val (.pointer (some ⟨g1_0, 0, none⟩))), (3, .ptr 5 0)] [(0, 13, .val (.agg (FR .u8 32 (bBf 32)))), (1, 14, .val (.tuple #[.agg (FR .u64 20 (X)), .bool Z])), (2, 12, .val (.tuple #[.agg (FR .u64 20 (X)), .bool Z])), (3, 15, .val (.agg (FR .u64 20 (X)))), (4, 16, .val (.bool Z)), (5, 3, .ptr 5 0), (7, 4, .val (.bool Z))] [⟨g1_0, none, none, .u64, 20, fun _ => 0, fun _ => 0, 28⟩, ⟨g2_1, none, none, .u8, 32, bBf 32, bBf 32, 22⟩, ⟨0, some 5, some 6, .u64, 20, fun _ => 0, X, 28⟩] rfl (by rfl) HH4 rfl rfl hLo rfl HS4 (slS 0 rfl rfl (slL 5 (d := 5) rfl (trivial))) ?_ ?_
    · show ∀ i ∈ [0, 1, 2, 3, 4, 5, 6, 7], _
      refine steps_cons (st_row0 0 1 _ rfl rfl rfl rfl (fun _ _ _ _ => rfl) hLo rfl rfl rfl (by rfl) Tryd.underlying22 infoB3 rfl (fun b G hb ho => ev_off rfl (HS4.get 1 rfl))) ?_
      refine steps_cons (st_call 1 _ #[.agg (FR .u8 32 (bBf 32))] rfl rfl rfl (fun _ _ _ _ => rfl) hLo rfl rfl Tryd.func12 rfl rfl (fun b G hb ho => args1 (ev_on hLo 0 rfl HS4.1 rfl (hb 0 (by rfl)))) (fun w hw => hD w hw)) ?_
      refine steps_cons (st_run 2 _ rfl rfl hLo rfl rfl (fun _ _ _ _ => rfl) (fun b G w hb ho => exec_move (.inl rfl) (ev_on hLo 1 rfl HS4.1 rfl (hb 1 (by rfl))))) ?_
      refine steps_cons (st_run 3 _ rfl rfl hLo rfl rfl (fun _ _ _ _ => rfl) (fun b G w hb ho => exec_extract rfl (ev_on hLo 2 rfl HS4.1 rfl (hb 2 (by rfl))) (by rfl))) ?_
      refine steps_cons (st_run 4 _ rfl rfl hLo rfl rfl (fun _ _ _ _ => rfl) (fun b G w hb ho => exec_extract rfl (ev_on hLo 2 rfl HS4.1 rfl (hb 2 (by rfl))) (by rfl))) ?_
      refine steps_cons (st_alloc 5 2 .u64 20 28 (some 6) _ _ rfl rfl (fun _ _ _ _ => rfl) rfl hLo rfl rfl rfl rfl (by rfl) (fun b G w _ _ => by kernel_rfl)) ?_
      refine steps_cons (st_store 2 _ rfl rfl rfl rfl rfl (fun _ _ _ _ => rfl) rfl rfl rfl (by rfl) infoPt (fun b G hb ho => ev_on hLo 5 rfl HS4.1 rfl (hb 5 (by rfl))) (fun b G hb ho => ev_on hLo 3 rfl HS4.1 rfl (hb 3 (by rfl)))) ?_
      refine steps_cons (st_run 6 _ rfl rfl hLo rfl rfl (fun _ _ _ _ => rfl) (fun b G w hb ho => exec_move (.inr rfl) (ev_on hLo 4 rfl HS4.1 rfl (hb 4 (by rfl))))) ?_
      exact steps_nil
    clear hLo
    intro G a5 w5 hS hH
    have HS5 : Sl a5 18 [(0, .pointer (some ⟨g1_0, 0, none⟩)), (3, .pointer (some ⟨(G 5), 0, none⟩))] := hS
    have HH5 : Held w w5 [⟨g1_0, .u64, 20, fun _ => 0, 28⟩, ⟨g2_1, .u8, 32, bBf 32, 22⟩, ⟨(G 5), .u64, 20, X, 28⟩] := hH
    clear hS hH HS4 HH4
    generalize G 5 = g5_5 at HS5 HH5
    refine then_ ?_
    refine wp_seq ?_
    have hLo : LOk [(0, 17, .val (.agg (FR .u64 20 (X))))] := ⟨show ([0] : List Nat).Nodup by decide, show ([17] : List Nat).Nodup by decide⟩
    refine plain_ (wE := w) (sz := 18) (n := 2) [0, 1] [(0, .val (.pointer (some ⟨g1_0, 0, none⟩)))] [(0, 17, .val (.agg (FR .u64 20 (X))))] [⟨g1_0, none, some 1, .u64, 20, fun _ => 0, X, 28⟩, ⟨g2_1, none, none, .u8, 32, bBf 32, bBf 32, 22⟩, ⟨g5_5, none, none, .u64, 20, X, X, 28⟩] rfl (by rfl) HH5 rfl rfl hLo rfl HS5 (slS 0 rfl rfl (trivial)) ?_ ?_
    · show ∀ i ∈ [0, 1], _
      refine steps_cons (st_row0 0 2 _ rfl rfl rfl rfl (fun _ _ _ _ => rfl) hLo rfl rfl rfl (by rfl) Tryd.underlying28 infoPt rfl (fun b G hb ho => ev_off rfl (HS5.get 1 rfl))) ?_
      refine steps_cons (st_store 0 _ rfl rfl rfl rfl rfl (fun _ _ _ _ => rfl) rfl rfl rfl (by rfl) infoPt (fun b G hb ho => ev_off rfl (HS5.get 0 rfl)) (fun b G hb ho => ev_on hLo 0 rfl HS5.1 rfl (hb 0 (by rfl)))) ?_
      exact steps_nil
    clear hLo
    intro G a6 w6 hS hH
    have HS6 : Sl a6 18 [(0, .pointer (some ⟨g1_0, 0, none⟩))] := hS
    have HH6 : Held w w6 [⟨g1_0, .u64, 20, X, 28⟩, ⟨g2_1, .u8, 32, bBf 32, 22⟩, ⟨g5_5, .u64, 20, X, 28⟩] := hH
    clear hS hH HS5 HH5
    refine then_ ?_
    refine wp_ret ?_
    repeat refine then_ret ?_
    exact b_row rfl HS6.2.1 (HS6.get 0 rfl) (HH6.row 0 rfl) Tryd.underlying28 rfl infoPt ⟨by rw [baseP, hX], HH6.1⟩
  · skip
    refine wp_cond_true (HS4.get 3 rfl) ?_
    refine wp_skip ?_
    refine then_ ?_
    have hi32 : i < 32 := by have := of_decide_eq_true hr; omega
    refine wp_seq ?_
    refine wp_block ?_
    have hLo : LOk [(0, 10, .val (.int .i64 ((i : Nat) : Int))), (1, 11, .val (.pointer (some ⟨g2_1, i, none⟩)))] := ⟨show ([0, 1] : List Nat).Nodup by decide, show ([10, 11] : List Nat).Nodup by decide⟩
    refine plain_ (wE := w) (sz := 18) (n := 3) [0, 1, 3] [(0, .val (.pointer (some ⟨g1_0, 0, none⟩))), (1, .val (.pointer (some ⟨g2_1, 0, none⟩))), (2, .val (.int .i64 ((i : Nat) : Int)))] [(0, 10, .val (.int .i64 ((i : Nat) : Int))), (1, 11, .val (.pointer (some ⟨g2_1, i, none⟩)))] [⟨g1_0, none, none, .u64, 20, fun _ => 0, fun _ => 0, 28⟩, ⟨g2_1, none, some 2, .u8, 32, bBf i, upd (bBf i) i (102), 22⟩] rfl (by rfl) HH4 rfl rfl hLo rfl HS4 (slS 0 rfl rfl (slS 1 rfl rfl (slS 2 rfl rfl (trivial)))) ?_ ?_
    · show ∀ i ∈ [0, 1, 2], _
      refine steps_cons (st_run 0 _ rfl rfl hLo rfl rfl (fun _ _ _ _ => rfl) (fun b G w hb ho => exec_move (.inl rfl) (ev_off rfl (HS4.get 2 rfl)))) ?_
      refine steps_cons (st_run 1 _ rfl rfl hLo rfl rfl (fun _ _ _ _ => rfl) (fun b G w hb ho => exec_indexAddr rfl (ev_off rfl (HS4.get 1 rfl)) (ev_on hLo 0 rfl HS4.1 rfl (hb 0 (by rfl))) (index_run hi32 _ _))) ?_
      refine steps_cons (st_put 1 _ rfl rfl rfl rfl (fun _ _ _ _ => rfl) rfl rfl rfl (by rfl) (fun b G w hb ho hr => exec_put1 hr hi32 Fd.info5s rfl (ev_on hLo 1 rfl HS4.1 rfl (hb 1 (by rfl))) (rfl))) ?_
      exact steps_nil
    clear hLo
    intro G a7 w7 hS hH
    have HS7 : Sl a7 18 [(0, .pointer (some ⟨g1_0, 0, none⟩)), (1, .pointer (some ⟨g2_1, 0, none⟩)), (2, .int .i64 ((i : Nat) : Int))] := hS
    have HH7 : Held w w7 [⟨g1_0, .u64, 20, fun _ => 0, 28⟩, ⟨g2_1, .u8, 32, upd (bBf i) i (102), 22⟩] := hH
    clear hS hH HS4 HH4
    refine inBlock_normal ?_
    refine then_ ?_
    rw [bBf_step h1] at HH7
    have hLo : LOk [(0, 8, .val (.int .i64 ((i : Nat) : Int))), (1, 9, .val (.int .i64 ((i + 1 : Nat) : Int))), (2, 2, .val (.int .i64 ((i + 1 : Nat) : Int)))] := ⟨show ([0, 1, 2] : List Nat).Nodup by decide, show ([8, 9, 2] : List Nat).Nodup by decide⟩
    refine plain_ (wE := w) (sz := 18) (n := 3) [0, 1, 3] [(0, .val (.pointer (some ⟨g1_0, 0, none⟩))), (1, .val (.pointer (some ⟨g2_1, 0, none⟩))), (2, .val (.int .i64 ((i + 1 : Nat) : Int)))] [(0, 8, .val (.int .i64 ((i : Nat) : Int))), (1, 9, .val (.int .i64 ((i + 1 : Nat) : Int))), (2, 2, .val (.int .i64 ((i + 1 : Nat) : Int)))] [⟨g1_0, none, none, .u64, 20, fun _ => 0, fun _ => 0, 28⟩, ⟨g2_1, none, none, .u8, 32, bBf (i + 1), bBf (i + 1), 22⟩] rfl (by rfl) HH7 rfl rfl hLo rfl HS7 (slS 0 rfl rfl (slS 1 rfl rfl (slL 2 (d := 2) rfl (trivial)))) ?_ ?_
    · show ∀ i ∈ [0, 1, 2], _
      refine steps_cons (st_run 0 _ rfl rfl hLo rfl rfl (fun _ _ _ _ => rfl) (fun b G w hb ho => exec_move (.inl rfl) (ev_pre hLo 2 rfl (ho 2 (by rfl)) (HS7.get 2 rfl)))) ?_
      refine steps_cons (st_run 1 _ rfl rfl hLo rfl rfl (fun _ _ _ _ => rfl) (fun b G w hb ho => exec_bin rfl (ev_on hLo 0 rfl HS7.1 rfl (hb 0 (by rfl))) (rfl) (add1_run (by omega) _ _ _))) ?_
      refine steps_cons (st_run 2 _ rfl rfl hLo rfl rfl (fun _ _ _ _ => rfl) (fun b G w hb ho => exec_move (.inr rfl) (ev_on hLo 1 rfl HS7.1 rfl (hb 1 (by rfl))))) ?_
      exact steps_nil
    clear hLo
    intro G a8 w8 hS hH
    have HS8 : Sl a8 18 [(0, .pointer (some ⟨g1_0, 0, none⟩)), (1, .pointer (some ⟨g2_1, 0, none⟩)), (2, .int .i64 ((i + 1 : Nat) : Int))] := hS
    have HH8 : Held w w8 [⟨g1_0, .u64, 20, fun _ => 0, 28⟩, ⟨g2_1, .u8, 32, bBf (i + 1), 22⟩] := hH
    clear hS hH HS7 HH7
    refine then_ ?_
    exact ⟨⟨i + 1, by omega, by omega, HS8, HH8⟩, by rw [HS8.get 2 rfl]; show 32 - (((i + 1 : Nat) : Int)).toNat < 32 - i; omega⟩
end Go.Proofs.YtaaipbhfikefaaaDoor.P
end

section
namespace Go.Proofs.YtaaipbhfikefaaaDoor.P
set_option linter.unusedVariables false
set_option linter.unusedSimpArgs false
open Go.RowKit Go.ChangeShapes Go.WideShapes Go.Proofs.YtaaipbhfikefaaaDoorW.PrintWords Go.Proofs.YtaaipbhfikefaaaDoorW.PrintLast Go.Proofs.YtaaipbhfikefaaaDoorW.PrintMore
open Go.Proofs.YtaaipbhfikefaaaDoor.P.Fd
theorem quo_run {x c : Nat} (hc : 0 < c) (hx : x < 1000000) (w : World) (p q : Operand) : (do eqGuard .quo 3 p q (.int .i64 (x : Int)) (.int .i64 (c : Int)); binOp .quo 3 (.int .i64 (x : Int)) (.int .i64 (c : Int)) : Sem Value).run Tryd.prog w = .ok (.int .i64 ((x / c : Nat) : Int)) w := by
  have hd : x / c ≤ x := Nat.div_le_self x c
  have e : IntKind.i64.wrap ((x : Int).tdiv (c : Int)) = ((x / c : Nat) : Int) := by
    rw [← Int.ofNat_tdiv]
    generalize x / c = y at hd ⊢
    exact (i64_w _).trans (w64 _ (by omega))
  have hc0 : ((c : Int) = 0) = False := eq_false (by omega)
  have e2 : IntKind.i64.wrap ((x : Int) / (c : Int)) = ((x / c : Nat) : Int) := by
    rw [← Int.natCast_ediv]
    generalize x / c = y at hd ⊢
    exact (i64_w _).trans (w64 _ (by omega))
  have hc1 : ¬ c = 0 := by omega
  go_simp
  all_goals first | exact e | exact e2 | (simp_all; done)
theorem rem_run {x c : Nat} (hc : 0 < c) (w : World) (p q : Operand) : (do eqGuard .rem 3 p q (.int .i64 (x : Int)) (.int .i64 (c : Int)); binOp .rem 3 (.int .i64 (x : Int)) (.int .i64 (c : Int)) : Sem Value).run Tryd.prog w = .ok (.int .i64 ((x % c : Nat) : Int)) w := by
  have e : (x : Int).tmod (c : Int) = ((x % c : Nat) : Int) := (Int.ofNat_tmod x c).symm
  have hc0 : ((c : Int) = 0) = False := eq_false (by omega)
  have hc1 : ¬ c = 0 := by omega
  go_simp
  all_goals first | exact e | (simp_all; done)
theorem sub1_run {i : Nat} (hi : i < 1000000) (w : World) (p q : Operand) : (do eqGuard .sub 3 p q (.int .i64 (i : Int)) (.int .i64 1); binOp .sub 3 (.int .i64 (i : Int)) (.int .i64 1) : Sem Value).run Tryd.prog w = .ok (.int .i64 ((i : Int) - 1)) w := by
  have e : IntKind.i64.wrap ((i : Int) - 1) = (i : Int) - 1 := (i64_w _).trans (w64 _ (by omega))
  go_simp
  try exact e
/-- So many steps of the document's Mul. -/
def mulRS (F z : Nat → Int) : Nat → (Nat → Int)
  | 0 => zeroRP
  | s + 1 => if bitB z (255 - s) then addRP (addRP (mulRS F z s) (mulRS F z s)) F else addRP (mulRS F z s) (mulRS F z s)
theorem zeroRP_PR : PR zeroRP := pr_pr Re.zero.1 oneR_Rn oneR_Rn Re.zero.1
def mulRP (F z : Nat → Int) : Nat → Int := mulRS F z 256
end Go.Proofs.YtaaipbhfikefaaaDoor.P
end

section
namespace Go.Proofs.YtaaipbhfikefaaaDoor.P
set_option linter.unusedVariables false
set_option linter.unusedSimpArgs false
open Go.RowKit Go.ChangeShapes Go.WideShapes Go.Proofs.YtaaipbhfikefaaaDoorW.PrintWords Go.Proofs.YtaaipbhfikefaaaDoorW.PrintLast Go.Proofs.YtaaipbhfikefaaaDoorW.PrintMore
open Go.Proofs.YtaaipbhfikefaaaDoor.P.Fd
theorem index74_run {k : IntKind} {i : Nat} (hi : i < 16) (g : Nat) (w : World) : (Instr.indexAt 74 (.pointer (some ⟨g, 0, none⟩)) (.int k (i : Int))).run Tryd.prog w = .ok (.pointer (some ⟨g, i * 20, none⟩)) w := by
  have h1 : (0 : Int) ≤ (i : Int) := by omega
  have h2 : (i : Int) < 16 := by omega
  have h3 : (i : Int).toNat = i := by omega
  have h4 : (⟨g, 0, none⟩ : Addr).add (i * 20) = ⟨g, i * 20, none⟩ := by rw [add_at, Nat.zero_add]
  go_simp
  try exact h4
theorem subk_run {k : Nat} (hi : k < 1000) (w : World) (p q : Operand) : (do eqGuard .sub 3 p q (.int .i64 ((k + 1 : Nat) : Int)) (.int .i64 1); binOp .sub 3 (.int .i64 ((k + 1 : Nat) : Int)) (.int .i64 1) : Sem Value).run Tryd.prog w = .ok (.int .i64 (k : Int)) w := by
  have e1 : ((k + 1 : Nat) : Int) - 1 = (k : Int) := by omega
  have := sub1_run (i := k + 1) (by omega) w p q
  rw [e1] at this
  exact this
theorem mul4_run {x : Nat} (hx : x < 1000) (w : World) (p q : Operand) : (do eqGuard .mul 3 p q (.int .i64 (x : Int)) (.int .i64 4); binOp .mul 3 (.int .i64 (x : Int)) (.int .i64 4) : Sem Value).run Tryd.prog w = .ok (.int .i64 ((x * 4 : Nat) : Int)) w := by
  have e : IntKind.i64.wrap ((x : Int) * 4) = ((x * 4 : Nat) : Int) := by rw [i64_w, w64 _ (by omega)]; omega
  go_simp
  try exact e
theorem shrI_run {x : Int} {s : Nat} (hs : s < 8) (w : World) (p q : Operand) : (do eqGuard .shr 5 p q (.int .u8 x) (.int .i64 (s : Int)); binOp .shr 5 (.int .u8 x) (.int .i64 (s : Int)) : Sem Value).run Tryd.prog w = .ok (.int .u8 (x / 2 ^ s)) w := by
  have e : min s 8 = s := Nat.min_eq_left (by omega)
  have h0 : (0 : Int) ≤ (s : Int) := by omega
  go_simp
  try rw [e]
theorem and15 (x : Int) (h : 0 ≤ x ∧ x < 256) : Go.bits .and .u8 x 15 = x % 16 := by
  have hx : ∀ n : Fin 256, Go.bits .and .u8 (n.val : Int) 15 = (n.val : Int) % 16 := by decide +kernel
  have := hx ⟨x.toNat, by omega⟩
  simp only [Int.toNat_of_nonneg h.1] at this
  exact this
theorem and15_run {x y : Int} (h : Go.bits .and .u8 x 15 = y) (w : World) (p q : Operand) : (do eqGuard .and 5 p q (.int .u8 x) (.int .u8 15); binOp .and 5 (.int .u8 x) (.int .u8 15) : Sem Value).run Tryd.prog w = .ok (.int .u8 y) w := by subst h; go_simp
theorem zeroP_PL : PL zeroP := pl_pt Fe.zero.1 (smL_Lm 1 (by omega)) (smL_Lm 1 (by omega)) Fe.zero.1
/-- The rows of Mul: so many times the point. -/
def rowP (F : Nat → Int) : Nat → (Nat → Int)
  | 0 => zeroP
  | i + 1 => addP (rowP F i) F
theorem rowP_PL {F : Nat → Int} (hF : PL F) : ∀ i, PL (rowP F i)
  | 0 => zeroP_PL
  | i + 1 => addP_PL (rowP_PL hF i) hF
def tabP (F : Nat → Int) (n j : Nat) : Int := if j < 20 * n then rowP F (j / 20) (j % 20) else 0
theorem tabP_step (F : Nat → Int) (n : Nat) : updR (tabP F n) (n * 20) 20 (rowP F n) = tabP F (n + 1) := by
  funext j
  unfold updR tabP
  by_cases h1 : n * 20 ≤ j ∧ j < n * 20 + 20
  · rw [if_pos h1, if_pos (by omega), show j / 20 = n by omega]
    congr 1; omega
  · rw [if_neg h1]
    by_cases h2 : j < 20 * n
    · rw [if_pos h2, if_pos (by omega)]
    · rw [if_neg h2, if_neg (by omega)]
theorem tabP_zero (F : Nat → Int) : (fun _ => 0) = tabP F 0 := by funext j; unfold tabP; rw [if_neg (by omega)]
theorem tabP_at {F : Nat → Int} {n k : Nat} (hk : k < n) (j : Nat) (hj : j < 20) : tabP F n (k * 20 + j) = rowP F k j := by
  unfold tabP
  rw [if_pos (by omega), show (k * 20 + j) / 20 = k by omega, show (k * 20 + j) % 20 = j by omega]
def dblN (q : Nat → Int) : Nat → (Nat → Int)
  | 0 => q
  | j + 1 => addP (dblN q j) (dblN q j)
theorem dblN_PL {q : Nat → Int} (hq : PL q) : ∀ j, PL (dblN q j)
  | 0 => hq
  | j + 1 => addP_PL (dblN_PL hq j) (dblN_PL hq j)
def nib (z : Nat → Int) (k : Nat) : Nat := (z (k / 2) / 2 ^ (k % 2 * 4) % 16).toNat
theorem nib_lt (z : Nat → Int) (k : Nat) : nib z k < 16 := by unfold nib; omega
def mulS (F z : Nat → Int) : Nat → (Nat → Int)
  | 0 => zeroP
  | s + 1 => addP (dblN (mulS F z s) 4) (rowP F (nib z (63 - s)))
theorem mulS_PL {F z : Nat → Int} (hF : PL F) : ∀ s, PL (mulS F z s)
  | 0 => zeroP_PL
  | s + 1 => addP_PL (dblN_PL (mulS_PL hF s) 4) (rowP_PL hF _)
def mulP (F z : Nat → Int) : Nat → Int := mulS F z 64
theorem mulS_step {F z : Nat → Int} {k : Nat} (hk : k < 64) : mulS F z (64 - k) = addP (dblN (mulS F z (64 - (k + 1))) 4) (rowP F (nib z k)) := by
  rw [show 64 - k = (64 - (k + 1)) + 1 by omega]
  show addP _ (rowP F (nib z (63 - (64 - (k + 1))))) = _
  rw [show 63 - (64 - (k + 1)) = k by omega]
theorem tabmul_15 : rtab .any (opsOf Tryd.f22 15) = (true, [([], []), ([], []), ([1], [1]), ([2], [2]), ([3], [3]), ([], []), ([5], [5]), ([6], [6]), ([4, 7], [4, 7]), ([8], [8]), ([9], [9]), ([10], [10]), ([0, 11], [0, 11]), ([12, 12, 0, 1, 2, 3, 4, 5, 6, 7, 8, 9, 10, 11, 12], [12])]) := by kernel_rfl
theorem bitsmul_15 : waitsOk [([], []), ([], []), ([1], [1]), ([2], [2]), ([3], [3]), ([], []), ([5], [5]), ([6], [6]), ([4, 7], [4, 7]), ([8], [8]), ([9], [9]), ([10], [10]), ([0, 11], [0, 11]), ([12, 12, 0, 1, 2, 3, 4, 5, 6, 7, 8, 9, 10, 11, 12], [12])] [0, 0, 2, 6, 14, 0, 32, 96, 254, 510, 1022, 2046, 4095, 8191] = true := by kernel_rfl
theorem tabmul_6 : rtab .any (opsOf Tryd.f22 6) = (true, [([], []), ([], []), ([1], [1]), ([2], [2]), ([3], [3]), ([], []), ([4, 5], [4, 5]), ([0, 0, 1, 2, 3, 4, 5, 6], [0]), ([7, 6, 6, 0, 1, 2, 3, 4, 5, 6], [6, 7])]) := by kernel_rfl
theorem bitsmul_6 : waitsOk [([], []), ([], []), ([1], [1]), ([2], [2]), ([3], [3]), ([], []), ([4, 5], [4, 5]), ([0, 0, 1, 2, 3, 4, 5, 6], [0]), ([7, 6, 6, 0, 1, 2, 3, 4, 5, 6], [6, 7])] [0, 0, 2, 6, 14, 0, 62, 127, 255] = true := by kernel_rfl
theorem mul_pt (F z : Nat → Int) (w : World) (hT : TabD w) (hF : PL F) (hz : By z) : Calls Tryd.prog 22 #[.agg (FR .u64 20 F), .agg (FR .u8 32 z)] w fun e w' => e = .returned (.agg (FR .u64 20 (mulP F z))) ∧ Below w.heap.size w w' := by
  obtain ⟨M, hM⟩ : ∃ M, mulP F z = M := ⟨_, rfl⟩
  rw [hM]
  refine enter_ 48 Tryd.func22 rfl rfl (fun a0 hS => ?_)
  have HS0 : Sl a0 48 [(0, .agg (FR .u64 20 F)), (1, .agg (FR .u8 32 z))] := hS
  have HH0 : Held w w [] := Held.first w
  clear hS
  refine wp_seq ?_
  have hLo : LOk [(0, 2, .ptr 0 0), (1, 3, .ptr 1 0), (2, 4, .ptr 2 0)] := ⟨show ([0, 1, 2] : List Nat).Nodup by decide, show ([2, 3, 4] : List Nat).Nodup by decide⟩
  refine plain_ (wE := w) (sz := 48) (n := 3) [0, 1, 3] [(2, .ptr 0 0), (3, .ptr 1 0), (4, .ptr 2 0)] [(0, 2, .ptr 0 0), (1, 3, .ptr 1 0), (2, 4, .ptr 2 0)] [⟨0, some 0, none, .u64, 20, F, F, 28⟩, ⟨0, some 1, none, .u8, 32, z, z, 22⟩, ⟨0, some 2, none, .u64, 20, fun _ => 0, fun _ => 0, 28⟩] rfl (by rfl) HH0 rfl rfl hLo rfl HS0 (slL 0 (d := 0) rfl (slL 1 (d := 1) rfl (slL 2 (d := 2) rfl (trivial)))) ?_ ?_
  · show ∀ i ∈ [0, 1, 2], _
    refine steps_cons (st_alloc 0 0 .u64 20 28 none _ _ rfl rfl (fun _ _ _ _ => rfl) rfl hLo rfl rfl rfl rfl (by rfl) (fun b G w hb ho => exec_box rfl (ev_off rfl (HS0.get 0 rfl)) (by kernel_rfl))) ?_
    refine steps_cons (st_alloc 1 1 .u8 32 22 none _ _ rfl rfl (fun _ _ _ _ => rfl) rfl hLo rfl rfl rfl rfl (by rfl) (fun b G w hb ho => exec_box rfl (ev_off rfl (HS0.get 1 rfl)) (by kernel_rfl))) ?_
    refine steps_cons (st_alloc 2 2 .u64 20 28 none _ _ rfl rfl (fun _ _ _ _ => rfl) rfl hLo rfl rfl rfl rfl (by rfl) (fun b G w _ _ => by kernel_rfl)) ?_
    exact steps_nil
  clear hLo
  intro G a1 w1 hS hH
  have HS1 : Sl a1 48 [(2, .pointer (some ⟨(G 0), 0, none⟩)), (3, .pointer (some ⟨(G 1), 0, none⟩)), (4, .pointer (some ⟨(G 2), 0, none⟩))] := hS
  have HH1 : Held w w1 [⟨(G 0), .u64, 20, F, 28⟩, ⟨(G 1), .u8, 32, z, 22⟩, ⟨(G 2), .u64, 20, fun _ => 0, 28⟩] := hH
  clear hS hH HS0 HH0
  generalize G 0 = g1_0 at HS1 HH1
  generalize G 1 = g1_1 at HS1 HH1
  generalize G 2 = g1_2 at HS1 HH1
  refine then_ ?_
  refine wp_seq ?_
  have hLo : LOk [(0, 5, .ptr 0 0)] := ⟨show ([0] : List Nat).Nodup by decide, show ([5] : List Nat).Nodup by decide⟩
  refine plain_ (wE := w) (sz := 48) (n := 1) [0] [(2, .val (.pointer (some ⟨g1_0, 0, none⟩))), (3, .val (.pointer (some ⟨g1_1, 0, none⟩))), (4, .val (.pointer (some ⟨g1_2, 0, none⟩))), (5, .ptr 0 0)] [(0, 5, .ptr 0 0)] [⟨g1_0, none, none, .u64, 20, F, F, 28⟩, ⟨g1_1, none, none, .u8, 32, z, z, 22⟩, ⟨g1_2, none, none, .u64, 20, fun _ => 0, fun _ => 0, 28⟩, ⟨0, some 0, none, .u64, 320, fun _ => 0, fun _ => 0, 74⟩] rfl (by rfl) HH1 rfl rfl hLo rfl HS1 (slS 0 rfl rfl (slS 1 rfl rfl (slS 2 rfl rfl (slL 0 (d := 0) rfl (trivial))))) ?_ ?_
  · show ∀ i ∈ [0], _
    refine steps_cons (st_alloc 0 3 .u64 320 74 none _ _ rfl rfl (fun _ _ _ _ => rfl) rfl hLo rfl rfl rfl rfl (by rfl) (fun b G w _ _ => by kernel_rfl)) ?_
    exact steps_nil
  clear hLo
  intro G a2 w2 hS hH
  have HS2 : Sl a2 48 [(2, .pointer (some ⟨g1_0, 0, none⟩)), (3, .pointer (some ⟨g1_1, 0, none⟩)), (4, .pointer (some ⟨g1_2, 0, none⟩)), (5, .pointer (some ⟨(G 0), 0, none⟩))] := hS
  have HH2 : Held w w2 [⟨g1_0, .u64, 20, F, 28⟩, ⟨g1_1, .u8, 32, z, 22⟩, ⟨g1_2, .u64, 20, fun _ => 0, 28⟩, ⟨(G 0), .u64, 320, fun _ => 0, 74⟩] := hH
  clear hS hH HS1 HH1
  generalize G 0 = g2_0 at HS2 HH2
  refine then_ ?_
  refine wp_seq ?_
  have hLo : LOk [(0, 9, .val (.agg (FR .u64 20 (zeroP)))), (1, 10, .val (.pointer (some ⟨g2_0, 0, none⟩)))] := ⟨show ([0, 1] : List Nat).Nodup by decide, show ([9, 10] : List Nat).Nodup by decide⟩
  refine plain_ (wE := w) (sz := 48) (n := 3) [0, 1, 3] [(2, .val (.pointer (some ⟨g1_0, 0, none⟩))), (3, .val (.pointer (some ⟨g1_1, 0, none⟩))), (4, .val (.pointer (some ⟨g1_2, 0, none⟩))), (5, .val (.pointer (some ⟨g2_0, 0, none⟩)))] [(0, 9, .val (.agg (FR .u64 20 (zeroP)))), (1, 10, .val (.pointer (some ⟨g2_0, 0, none⟩)))] [⟨g1_0, none, none, .u64, 20, F, F, 28⟩, ⟨g1_1, none, none, .u8, 32, z, z, 22⟩, ⟨g1_2, none, none, .u64, 20, fun _ => 0, fun _ => 0, 28⟩, ⟨g2_0, none, some 2, .u64, 320, fun _ => 0, updR (fun _ => 0) (0) 20 (zeroP), 74⟩] rfl (by rfl) HH2 rfl rfl hLo rfl HS2 (slS 0 rfl rfl (slS 1 rfl rfl (slS 2 rfl rfl (slS 3 rfl rfl (trivial))))) ?_ ?_
  · show ∀ i ∈ [0, 1, 2], _
    refine steps_cons (st_call 0 _ #[] rfl rfl rfl (fun _ _ _ _ => rfl) hLo rfl rfl Tryd.func10 rfl rfl (fun b G hb ho => args0 ) (fun w hw => zero_pt w)) ?_
    refine steps_cons (st_run 1 _ rfl rfl hLo rfl rfl (fun _ _ _ _ => rfl) (fun b G w hb ho => exec_indexAddr rfl (ev_off rfl (HS2.get 3 rfl)) (rfl) (by kernel_rfl))) ?_
    refine steps_cons (st_put 3 _ rfl rfl rfl rfl (fun _ _ _ _ => rfl) rfl rfl rfl (by rfl) (fun b G w hb ho hr => exec_part hr (Nat.le_of_ble_eq_true rfl) infoPt rfl (ev_on hLo 1 rfl HS2.1 rfl (hb 1 (by rfl))) (ev_on hLo 0 rfl HS2.1 rfl (hb 0 (by rfl))))) ?_
    exact steps_nil
  clear hLo
  intro G a3 w3 hS hH
  have HS3 : Sl a3 48 [(2, .pointer (some ⟨g1_0, 0, none⟩)), (3, .pointer (some ⟨g1_1, 0, none⟩)), (4, .pointer (some ⟨g1_2, 0, none⟩)), (5, .pointer (some ⟨g2_0, 0, none⟩))] := hS
  have HH3 : Held w w3 [⟨g1_0, .u64, 20, F, 28⟩, ⟨g1_1, .u8, 32, z, 22⟩, ⟨g1_2, .u64, 20, fun _ => 0, 28⟩, ⟨g2_0, .u64, 320, updR (fun _ => 0) (0) 20 (zeroP), 74⟩] := hH
  clear hS hH HS2 HH2
  refine then_ ?_
  rw [show updR (fun _ => 0) 0 20 zeroP = tabP F 1 by rw [tabP_zero F]; exact tabP_step F 0] at HH3
  refine wp_seq ?_
  refine wp_seq ?_
  have hLo : LOk [(0, 6, .val (.int .i64 1))] := ⟨show ([0] : List Nat).Nodup by decide, show ([6] : List Nat).Nodup by decide⟩
  refine plain_ (wE := w) (sz := 48) (n := 1) [0] [(2, .val (.pointer (some ⟨g1_0, 0, none⟩))), (3, .val (.pointer (some ⟨g1_1, 0, none⟩))), (4, .val (.pointer (some ⟨g1_2, 0, none⟩))), (5, .val (.pointer (some ⟨g2_0, 0, none⟩))), (6, .val (.int .i64 1))] [(0, 6, .val (.int .i64 1))] [⟨g1_0, none, none, .u64, 20, F, F, 28⟩, ⟨g1_1, none, none, .u8, 32, z, z, 22⟩, ⟨g1_2, none, none, .u64, 20, fun _ => 0, fun _ => 0, 28⟩, ⟨g2_0, none, none, .u64, 320, tabP F 1, tabP F 1, 74⟩] rfl (by rfl) HH3 rfl rfl hLo rfl HS3 (slS 0 rfl rfl (slS 1 rfl rfl (slS 2 rfl rfl (slS 3 rfl rfl (slL 0 (d := 0) rfl (trivial)))))) ?_ ?_
  · show ∀ i ∈ [0], _
    refine steps_cons (st_run 0 _ rfl rfl hLo rfl rfl (fun _ _ _ _ => rfl) (fun b G w hb ho => exec_move (.inr rfl) (rfl))) ?_
    exact steps_nil
  clear hLo
  intro G a4 w4 hS hH
  have HS4 : Sl a4 48 [(2, .pointer (some ⟨g1_0, 0, none⟩)), (3, .pointer (some ⟨g1_1, 0, none⟩)), (4, .pointer (some ⟨g1_2, 0, none⟩)), (5, .pointer (some ⟨g2_0, 0, none⟩)), (6, .int .i64 1)] := hS
  have HH4 : Held w w4 [⟨g1_0, .u64, 20, F, 28⟩, ⟨g1_1, .u8, 32, z, 22⟩, ⟨g1_2, .u64, 20, fun _ => 0, 28⟩, ⟨g2_0, .u64, 320, tabP F 1, 74⟩] := hH
  clear hS hH HS3 HH3
  refine then_ ?_
  refine wp_block ?_
  refine wp_loop (fun a w' => ∃ i : Nat, 1 ≤ i ∧ i ≤ 16 ∧ Sl a 48 [(2, .pointer (some ⟨g1_0, 0, none⟩)), (3, .pointer (some ⟨g1_1, 0, none⟩)), (4, .pointer (some ⟨g1_2, 0, none⟩)), (5, .pointer (some ⟨g2_0, 0, none⟩)), (6, .int .i64 ((i : Nat) : Int))] ∧ Held w w' [⟨g1_0, .u64, 20, F, 28⟩, ⟨g1_1, .u8, 32, z, 22⟩, ⟨g1_2, .u64, 20, fun _ => 0, 28⟩, ⟨g2_0, .u64, 320, tabP F i, 74⟩]) (fun a _ => 16 - (intOf (a.eval (.tmp 6))).toNat) ⟨1, by omega, by omega, HS4, HH4⟩ ?_
  clear HS4 HH4
  rintro a w1 ⟨i, h1, hi, HSl, HHl⟩
  have hm : (intOf (a.eval (.tmp 6))).toNat = i := by rw [HSl.get 4 rfl]; exact Int.toNat_natCast i
  rw [hm]
  clear hm
  obtain ⟨k, rfl⟩ : ∃ k, i = k + 1 := ⟨i - 1, by omega⟩
  obtain ⟨r, hr⟩ : ∃ r, decide (((k + 1 : Nat) : Int) < 16) = r := ⟨_, rfl⟩
  refine wp_seq ?_
  refine wp_seq ?_
  have hLo : LOk [(0, 11, .val (.int .i64 ((k + 1 : Nat) : Int))), (1, 12, .val (.bool r))] := ⟨show ([0, 1] : List Nat).Nodup by decide, show ([11, 12] : List Nat).Nodup by decide⟩
  refine plain_ (wE := w) (sz := 48) (n := 2) [0, 1] [(2, .val (.pointer (some ⟨g1_0, 0, none⟩))), (3, .val (.pointer (some ⟨g1_1, 0, none⟩))), (4, .val (.pointer (some ⟨g1_2, 0, none⟩))), (5, .val (.pointer (some ⟨g2_0, 0, none⟩))), (6, .val (.int .i64 ((k + 1 : Nat) : Int))), (12, .val (.bool r))] [(0, 11, .val (.int .i64 ((k + 1 : Nat) : Int))), (1, 12, .val (.bool r))] [⟨g1_0, none, none, .u64, 20, F, F, 28⟩, ⟨g1_1, none, none, .u8, 32, z, z, 22⟩, ⟨g1_2, none, none, .u64, 20, fun _ => 0, fun _ => 0, 28⟩, ⟨g2_0, none, none, .u64, 320, tabP F (k + 1), tabP F (k + 1), 74⟩] rfl (by rfl) HHl rfl rfl hLo rfl HSl (slS 0 rfl rfl (slS 1 rfl rfl (slS 2 rfl rfl (slS 3 rfl rfl (slS 4 rfl rfl (slL 1 (d := 1) rfl (trivial))))))) ?_ ?_
  · show ∀ i ∈ [0, 1], _
    refine steps_cons (st_run 0 _ rfl rfl hLo rfl rfl (fun _ _ _ _ => rfl) (fun b G w hb ho => exec_move (.inl rfl) (ev_off rfl (HSl.get 4 rfl)))) ?_
    refine steps_cons (st_run 1 _ rfl rfl hLo rfl rfl (fun _ _ _ _ => rfl) (fun b G w hb ho => exec_bin rfl (ev_on hLo 0 rfl HSl.1 rfl (hb 0 (by rfl))) (rfl) (lss_run hr _ _ _))) ?_
    exact steps_nil
  clear hLo
  intro G a5 w5 hS hH
  have HS5 : Sl a5 48 [(2, .pointer (some ⟨g1_0, 0, none⟩)), (3, .pointer (some ⟨g1_1, 0, none⟩)), (4, .pointer (some ⟨g1_2, 0, none⟩)), (5, .pointer (some ⟨g2_0, 0, none⟩)), (6, .int .i64 ((k + 1 : Nat) : Int)), (12, .bool r)] := hS
  have HH5 : Held w w5 [⟨g1_0, .u64, 20, F, 28⟩, ⟨g1_1, .u8, 32, z, 22⟩, ⟨g1_2, .u64, 20, fun _ => 0, 28⟩, ⟨g2_0, .u64, 320, tabP F (k + 1), 74⟩] := hH
  clear hS hH HSl HHl
  refine then_ ?_
  cases r
  · skip
    refine wp_cond_false (HS5.get 5 rfl) ?_
    refine wp_exit ?_
    repeat refine then_exit ?_
    refine inBlock_exit ?_
    refine then_ ?_
    obtain rfl : k = 15 := by have := of_decide_eq_false hr; omega
    clear hr hi h1
    refine wp_seq ?_
    have hLo : LOk [(0, 23, .val (.agg (FR .u64 20 (zeroP)))), (1, 7, .ptr 1 0)] := ⟨show ([0, 1] : List Nat).Nodup by decide, show ([23, 7] : List Nat).Nodup by decide⟩
    refine plain_ (wE := w) (sz := 48) (n := 3) [0, 1, 3] [(2, .val (.pointer (some ⟨g1_0, 0, none⟩))), (3, .val (.pointer (some ⟨g1_1, 0, none⟩))), (4, .val (.pointer (some ⟨g1_2, 0, none⟩))), (5, .val (.pointer (some ⟨g2_0, 0, none⟩))), (7, .ptr 1 0)] [(0, 23, .val (.agg (FR .u64 20 (zeroP)))), (1, 7, .ptr 1 0)] [⟨g1_0, none, none, .u64, 20, F, F, 28⟩, ⟨g1_1, none, none, .u8, 32, z, z, 22⟩, ⟨g1_2, none, none, .u64, 20, fun _ => 0, fun _ => 0, 28⟩, ⟨g2_0, none, none, .u64, 320, tabP F (15 + 1), tabP F (15 + 1), 74⟩, ⟨0, some 1, some 2, .u64, 20, fun _ => 0, zeroP, 28⟩] rfl (by rfl) HH5 rfl rfl hLo rfl HS5 (slS 0 rfl rfl (slS 1 rfl rfl (slS 2 rfl rfl (slS 3 rfl rfl (slL 1 (d := 1) rfl (trivial)))))) ?_ ?_
    · show ∀ i ∈ [0, 1, 2], _
      refine steps_cons (st_call 0 _ #[] rfl rfl rfl (fun _ _ _ _ => rfl) hLo rfl rfl Tryd.func10 rfl rfl (fun b G hb ho => args0 ) (fun w hw => zero_pt w)) ?_
      refine steps_cons (st_alloc 1 4 .u64 20 28 (some 2) _ _ rfl rfl (fun _ _ _ _ => rfl) rfl hLo rfl rfl rfl rfl (by rfl) (fun b G w _ _ => by kernel_rfl)) ?_
      refine steps_cons (st_store 4 _ rfl rfl rfl rfl rfl (fun _ _ _ _ => rfl) rfl rfl rfl (by rfl) infoPt (fun b G hb ho => ev_on hLo 1 rfl HS5.1 rfl (hb 1 (by rfl))) (fun b G hb ho => ev_on hLo 0 rfl HS5.1 rfl (hb 0 (by rfl)))) ?_
      exact steps_nil
    clear hLo
    intro G a6 w6 hS hH
    have HS6 : Sl a6 48 [(2, .pointer (some ⟨g1_0, 0, none⟩)), (3, .pointer (some ⟨g1_1, 0, none⟩)), (4, .pointer (some ⟨g1_2, 0, none⟩)), (5, .pointer (some ⟨g2_0, 0, none⟩)), (7, .pointer (some ⟨(G 1), 0, none⟩))] := hS
    have HH6 : Held w w6 [⟨g1_0, .u64, 20, F, 28⟩, ⟨g1_1, .u8, 32, z, 22⟩, ⟨g1_2, .u64, 20, fun _ => 0, 28⟩, ⟨g2_0, .u64, 320, tabP F (15 + 1), 74⟩, ⟨(G 1), .u64, 20, zeroP, 28⟩] := hH
    clear hS hH HS5 HH5
    generalize G 1 = g6_1 at HS6 HH6
    refine then_ ?_
    refine wp_seq ?_
    refine wp_seq ?_
    have hLo : LOk [(0, 8, .val (.int .i64 63))] := ⟨show ([0] : List Nat).Nodup by decide, show ([8] : List Nat).Nodup by decide⟩
    refine plain_ (wE := w) (sz := 48) (n := 1) [0] [(2, .val (.pointer (some ⟨g1_0, 0, none⟩))), (3, .val (.pointer (some ⟨g1_1, 0, none⟩))), (4, .val (.pointer (some ⟨g1_2, 0, none⟩))), (5, .val (.pointer (some ⟨g2_0, 0, none⟩))), (7, .val (.pointer (some ⟨g6_1, 0, none⟩))), (8, .val (.int .i64 63))] [(0, 8, .val (.int .i64 63))] [⟨g1_0, none, none, .u64, 20, F, F, 28⟩, ⟨g1_1, none, none, .u8, 32, z, z, 22⟩, ⟨g1_2, none, none, .u64, 20, fun _ => 0, fun _ => 0, 28⟩, ⟨g2_0, none, none, .u64, 320, tabP F (15 + 1), tabP F (15 + 1), 74⟩, ⟨g6_1, none, none, .u64, 20, zeroP, zeroP, 28⟩] rfl (by rfl) HH6 rfl rfl hLo rfl HS6 (slS 0 rfl rfl (slS 1 rfl rfl (slS 2 rfl rfl (slS 3 rfl rfl (slS 4 rfl rfl (slL 0 (d := 0) rfl (trivial))))))) ?_ ?_
    · show ∀ i ∈ [0], _
      refine steps_cons (st_run 0 _ rfl rfl hLo rfl rfl (fun _ _ _ _ => rfl) (fun b G w hb ho => exec_move (.inr rfl) (rfl))) ?_
      exact steps_nil
    clear hLo
    intro G a7 w7 hS hH
    have HS7 : Sl a7 48 [(2, .pointer (some ⟨g1_0, 0, none⟩)), (3, .pointer (some ⟨g1_1, 0, none⟩)), (4, .pointer (some ⟨g1_2, 0, none⟩)), (5, .pointer (some ⟨g2_0, 0, none⟩)), (7, .pointer (some ⟨g6_1, 0, none⟩)), (8, .int .i64 63)] := hS
    have HH7 : Held w w7 [⟨g1_0, .u64, 20, F, 28⟩, ⟨g1_1, .u8, 32, z, 22⟩, ⟨g1_2, .u64, 20, fun _ => 0, 28⟩, ⟨g2_0, .u64, 320, tabP F (15 + 1), 74⟩, ⟨g6_1, .u64, 20, zeroP, 28⟩] := hH
    clear hS hH HS6 HH6
    refine then_ ?_
    refine wp_block ?_
    refine wp_loop (fun a w' => ∃ i : Nat, i ≤ 64 ∧ Sl a 48 [(2, .pointer (some ⟨g1_0, 0, none⟩)), (3, .pointer (some ⟨g1_1, 0, none⟩)), (4, .pointer (some ⟨g1_2, 0, none⟩)), (5, .pointer (some ⟨g2_0, 0, none⟩)), (7, .pointer (some ⟨g6_1, 0, none⟩)), (8, .int .i64 (((i : Nat) : Int) - 1))] ∧ Held w w' [⟨g1_0, .u64, 20, F, 28⟩, ⟨g1_1, .u8, 32, z, 22⟩, ⟨g1_2, .u64, 20, fun _ => 0, 28⟩, ⟨g2_0, .u64, 320, tabP F (15 + 1), 74⟩, ⟨g6_1, .u64, 20, mulS F z (64 - i), 28⟩]) (fun a _ => (intOf (a.eval (.tmp 8)) + 1).toNat) ⟨64, by omega, HS7, HH7⟩ ?_
    clear HS7 HH7
    rintro a w1 ⟨i, hi, HSm, HHm⟩
    have hm : (intOf (a.eval (.tmp 8)) + 1).toNat = i := by rw [HSm.get 5 rfl]; show ((i : Int) - 1 + 1).toNat = i; omega
    rw [hm]
    clear hm
    rcases Nat.eq_zero_or_pos i with h0 | h0
    · subst h0
      refine wp_seq ?_
      refine wp_seq ?_
      have hLo : LOk [(0, 24, .val (.int .i64 (((0 : Nat) : Int) - 1))), (1, 25, .val (.bool false))] := ⟨show ([0, 1] : List Nat).Nodup by decide, show ([24, 25] : List Nat).Nodup by decide⟩
      refine plain_ (wE := w) (sz := 48) (n := 2) [0, 1] [(4, .val (.pointer (some ⟨g1_2, 0, none⟩))), (7, .val (.pointer (some ⟨g6_1, 0, none⟩))), (25, .val (.bool false))] [(0, 24, .val (.int .i64 (((0 : Nat) : Int) - 1))), (1, 25, .val (.bool false))] [⟨g1_0, none, none, .u64, 20, F, F, 28⟩, ⟨g1_1, none, none, .u8, 32, z, z, 22⟩, ⟨g1_2, none, none, .u64, 20, fun _ => 0, fun _ => 0, 28⟩, ⟨g2_0, none, none, .u64, 320, tabP F (15 + 1), tabP F (15 + 1), 74⟩, ⟨g6_1, none, none, .u64, 20, mulS F z (64 - 0), mulS F z (64 - 0), 28⟩] rfl (by rfl) HHm rfl rfl hLo rfl HSm (slS 2 rfl rfl (slS 4 rfl rfl (slL 1 (d := 1) rfl (trivial)))) ?_ ?_
      · show ∀ i ∈ [0, 1], _
        refine steps_cons (st_run 0 _ rfl rfl hLo rfl rfl (fun _ _ _ _ => rfl) (fun b G w hb ho => exec_move (.inl rfl) (ev_off rfl (HSm.get 5 rfl)))) ?_
        refine steps_cons (st_run 1 _ rfl rfl hLo rfl rfl (fun _ _ _ _ => rfl) (fun b G w hb ho => exec_bin rfl (ev_on hLo 0 rfl HSm.1 rfl (hb 0 (by rfl))) (rfl) (geq_run (by decide) _ _ _))) ?_
        exact steps_nil
      clear hLo
      intro G a8 w8 hS hH
      have HS8 : Sl a8 48 [(4, .pointer (some ⟨g1_2, 0, none⟩)), (7, .pointer (some ⟨g6_1, 0, none⟩)), (25, .bool false)] := hS
      have HH8 : Held w w8 [⟨g1_0, .u64, 20, F, 28⟩, ⟨g1_1, .u8, 32, z, 22⟩, ⟨g1_2, .u64, 20, fun _ => 0, 28⟩, ⟨g2_0, .u64, 320, tabP F (15 + 1), 74⟩, ⟨g6_1, .u64, 20, mulS F z (64 - 0), 28⟩] := hH
      clear hS hH HSm HHm
      refine then_ ?_
      refine wp_cond_false (HS8.get 2 rfl) ?_
      refine wp_exit ?_
      repeat refine then_exit ?_
      refine inBlock_exit ?_
      refine then_ ?_
      have hMM : mulS F z (64 - 0) = M := hM
      rw [hMM] at HH8
      refine wp_seq ?_
      have hLo : LOk [(0, 47, .val (.agg (FR .u64 20 (M))))] := ⟨show ([0] : List Nat).Nodup by decide, show ([47] : List Nat).Nodup by decide⟩
      refine plain_ (wE := w) (sz := 48) (n := 2) [0, 1] [(4, .val (.pointer (some ⟨g1_2, 0, none⟩)))] [(0, 47, .val (.agg (FR .u64 20 (M))))] [⟨g1_0, none, none, .u64, 20, F, F, 28⟩, ⟨g1_1, none, none, .u8, 32, z, z, 22⟩, ⟨g1_2, none, some 1, .u64, 20, fun _ => 0, M, 28⟩, ⟨g2_0, none, none, .u64, 320, tabP F (15 + 1), tabP F (15 + 1), 74⟩, ⟨g6_1, none, none, .u64, 20, M, M, 28⟩] rfl (by rfl) HH8 rfl rfl hLo rfl HS8 (slS 0 rfl rfl (trivial)) ?_ ?_
      · show ∀ i ∈ [0, 1], _
        refine steps_cons (st_row0 0 4 _ rfl rfl rfl rfl (fun _ _ _ _ => rfl) hLo rfl rfl rfl (by rfl) Tryd.underlying28 infoPt rfl (fun b G hb ho => ev_off rfl (HS8.get 1 rfl))) ?_
        refine steps_cons (st_store 2 _ rfl rfl rfl rfl rfl (fun _ _ _ _ => rfl) rfl rfl rfl (by rfl) infoPt (fun b G hb ho => ev_off rfl (HS8.get 0 rfl)) (fun b G hb ho => ev_on hLo 0 rfl HS8.1 rfl (hb 0 (by rfl)))) ?_
        exact steps_nil
      clear hLo
      intro G a9 w9 hS hH
      have HS9 : Sl a9 48 [(4, .pointer (some ⟨g1_2, 0, none⟩))] := hS
      have HH9 : Held w w9 [⟨g1_0, .u64, 20, F, 28⟩, ⟨g1_1, .u8, 32, z, 22⟩, ⟨g1_2, .u64, 20, M, 28⟩, ⟨g2_0, .u64, 320, tabP F (15 + 1), 74⟩, ⟨g6_1, .u64, 20, M, 28⟩] := hH
      clear hS hH HS8 HH8
      refine then_ ?_
      refine wp_ret ?_
      repeat refine then_ret ?_
      exact b_row rfl HS9.2.1 (HS9.get 0 rfl) (HH9.row 2 rfl) Tryd.underlying28 rfl infoPt ⟨rfl, HH9.1⟩
    · obtain ⟨k, rfl⟩ : ∃ k, i = k + 1 := ⟨i - 1, by omega⟩
      have e1 : ((k + 1 : Nat) : Int) - 1 = (k : Int) := by omega
      rw [e1] at HSm
      have hst := mulS_step (F := F) (z := z) (k := k) (by omega)
      have hQ := mulS_PL (F := F) (z := z) hF (64 - (k + 1))
      generalize mulS F z (64 - (k + 1)) = q at HHm hst hQ
      have hk32 : k / 2 < 32 := by omega
      have hzk := hz (k / 2) hk32
      have hnb : Go.bits .and .u8 (z (k / 2) / 2 ^ (k % 2 * 4)) 15 = ((nib z k : Nat) : Int) := by rw [and15 _ (by rcases Nat.mod_two_eq_zero_or_one k with h | h <;> rw [h] <;> omega)]; unfold nib; omega
      refine wp_seq ?_
      refine wp_seq ?_
      have hLo : LOk [(0, 24, .val (.int .i64 ((k : Nat) : Int))), (1, 25, .val (.bool true))] := ⟨show ([0, 1] : List Nat).Nodup by decide, show ([24, 25] : List Nat).Nodup by decide⟩
      refine plain_ (wE := w) (sz := 48) (n := 2) [0, 1] [(2, .val (.pointer (some ⟨g1_0, 0, none⟩))), (3, .val (.pointer (some ⟨g1_1, 0, none⟩))), (4, .val (.pointer (some ⟨g1_2, 0, none⟩))), (5, .val (.pointer (some ⟨g2_0, 0, none⟩))), (7, .val (.pointer (some ⟨g6_1, 0, none⟩))), (8, .val (.int .i64 ((k : Nat) : Int))), (25, .val (.bool true))] [(0, 24, .val (.int .i64 ((k : Nat) : Int))), (1, 25, .val (.bool true))] [⟨g1_0, none, none, .u64, 20, F, F, 28⟩, ⟨g1_1, none, none, .u8, 32, z, z, 22⟩, ⟨g1_2, none, none, .u64, 20, fun _ => 0, fun _ => 0, 28⟩, ⟨g2_0, none, none, .u64, 320, tabP F (15 + 1), tabP F (15 + 1), 74⟩, ⟨g6_1, none, none, .u64, 20, q, q, 28⟩] rfl (by rfl) HHm rfl rfl hLo rfl HSm (slS 0 rfl rfl (slS 1 rfl rfl (slS 2 rfl rfl (slS 3 rfl rfl (slS 4 rfl rfl (slS 5 rfl rfl (slL 1 (d := 1) rfl (trivial)))))))) ?_ ?_
      · show ∀ i ∈ [0, 1], _
        refine steps_cons (st_run 0 _ rfl rfl hLo rfl rfl (fun _ _ _ _ => rfl) (fun b G w hb ho => exec_move (.inl rfl) (ev_off rfl (HSm.get 5 rfl)))) ?_
        refine steps_cons (st_run 1 _ rfl rfl hLo rfl rfl (fun _ _ _ _ => rfl) (fun b G w hb ho => exec_bin rfl (ev_on hLo 0 rfl HSm.1 rfl (hb 0 (by rfl))) (rfl) (geq_run (decide_eq_true (Int.natCast_nonneg k)) _ _ _))) ?_
        exact steps_nil
      clear hLo
      intro G a10 w10 hS hH
      have HS10 : Sl a10 48 [(2, .pointer (some ⟨g1_0, 0, none⟩)), (3, .pointer (some ⟨g1_1, 0, none⟩)), (4, .pointer (some ⟨g1_2, 0, none⟩)), (5, .pointer (some ⟨g2_0, 0, none⟩)), (7, .pointer (some ⟨g6_1, 0, none⟩)), (8, .int .i64 ((k : Nat) : Int)), (25, .bool true)] := hS
      have HH10 : Held w w10 [⟨g1_0, .u64, 20, F, 28⟩, ⟨g1_1, .u8, 32, z, 22⟩, ⟨g1_2, .u64, 20, fun _ => 0, 28⟩, ⟨g2_0, .u64, 320, tabP F (15 + 1), 74⟩, ⟨g6_1, .u64, 20, q, 28⟩] := hH
      clear hS hH HSm HHm
      refine then_ ?_
      refine wp_cond_true (HS10.get 6 rfl) ?_
      refine wp_skip ?_
      refine then_ ?_
      refine wp_seq ?_
      refine wp_block ?_
      refine wp_seq ?_
      refine wp_seq ?_
      have hLo : LOk [(0, 28, .val (.int .i64 0))] := ⟨show ([0] : List Nat).Nodup by decide, show ([28] : List Nat).Nodup by decide⟩
      refine plain_ (wE := w) (sz := 48) (n := 1) [0] [(2, .val (.pointer (some ⟨g1_0, 0, none⟩))), (3, .val (.pointer (some ⟨g1_1, 0, none⟩))), (4, .val (.pointer (some ⟨g1_2, 0, none⟩))), (5, .val (.pointer (some ⟨g2_0, 0, none⟩))), (7, .val (.pointer (some ⟨g6_1, 0, none⟩))), (8, .val (.int .i64 ((k : Nat) : Int))), (28, .val (.int .i64 0))] [(0, 28, .val (.int .i64 0))] [⟨g1_0, none, none, .u64, 20, F, F, 28⟩, ⟨g1_1, none, none, .u8, 32, z, z, 22⟩, ⟨g1_2, none, none, .u64, 20, fun _ => 0, fun _ => 0, 28⟩, ⟨g2_0, none, none, .u64, 320, tabP F (15 + 1), tabP F (15 + 1), 74⟩, ⟨g6_1, none, none, .u64, 20, q, q, 28⟩] rfl (by rfl) HH10 rfl rfl hLo rfl HS10 (slS 0 rfl rfl (slS 1 rfl rfl (slS 2 rfl rfl (slS 3 rfl rfl (slS 4 rfl rfl (slS 5 rfl rfl (slL 0 (d := 0) rfl (trivial)))))))) ?_ ?_
      · show ∀ i ∈ [0], _
        refine steps_cons (st_run 0 _ rfl rfl hLo rfl rfl (fun _ _ _ _ => rfl) (fun b G w hb ho => exec_move (.inl rfl) (rfl))) ?_
        exact steps_nil
      clear hLo
      intro G a11 w11 hS hH
      have HS11 : Sl a11 48 [(2, .pointer (some ⟨g1_0, 0, none⟩)), (3, .pointer (some ⟨g1_1, 0, none⟩)), (4, .pointer (some ⟨g1_2, 0, none⟩)), (5, .pointer (some ⟨g2_0, 0, none⟩)), (7, .pointer (some ⟨g6_1, 0, none⟩)), (8, .int .i64 ((k : Nat) : Int)), (28, .int .i64 0)] := hS
      have HH11 : Held w w11 [⟨g1_0, .u64, 20, F, 28⟩, ⟨g1_1, .u8, 32, z, 22⟩, ⟨g1_2, .u64, 20, fun _ => 0, 28⟩, ⟨g2_0, .u64, 320, tabP F (15 + 1), 74⟩, ⟨g6_1, .u64, 20, q, 28⟩] := hH
      clear hS hH HS10 HH10
      refine then_ ?_
      refine wp_block ?_
      refine wp_loop (fun a w' => ∃ j : Nat, j ≤ 4 ∧ Sl a 48 [(2, .pointer (some ⟨g1_0, 0, none⟩)), (3, .pointer (some ⟨g1_1, 0, none⟩)), (4, .pointer (some ⟨g1_2, 0, none⟩)), (5, .pointer (some ⟨g2_0, 0, none⟩)), (7, .pointer (some ⟨g6_1, 0, none⟩)), (8, .int .i64 ((k : Nat) : Int)), (28, .int .i64 ((j : Nat) : Int))] ∧ Held w w' [⟨g1_0, .u64, 20, F, 28⟩, ⟨g1_1, .u8, 32, z, 22⟩, ⟨g1_2, .u64, 20, fun _ => 0, 28⟩, ⟨g2_0, .u64, 320, tabP F (15 + 1), 74⟩, ⟨g6_1, .u64, 20, dblN q j, 28⟩]) (fun a _ => 4 - (intOf (a.eval (.tmp 28))).toNat) ⟨0, by omega, HS11, HH11⟩ ?_
      clear HS11 HH11
      rintro a w2 ⟨j, hj, HSn, HHn⟩
      have hm : (intOf (a.eval (.tmp 28))).toNat = j := by rw [HSn.get 6 rfl]; exact Int.toNat_natCast j
      rw [hm]
      clear hm
      obtain ⟨r, hr⟩ : ∃ r, decide ((j : Int) < 4) = r := ⟨_, rfl⟩
      refine wp_seq ?_
      have hLo : LOk [(0, 29, .val (.bool r))] := ⟨show ([0] : List Nat).Nodup by decide, show ([29] : List Nat).Nodup by decide⟩
      refine plain_ (wE := w) (sz := 48) (n := 1) [0] [(2, .val (.pointer (some ⟨g1_0, 0, none⟩))), (3, .val (.pointer (some ⟨g1_1, 0, none⟩))), (4, .val (.pointer (some ⟨g1_2, 0, none⟩))), (5, .val (.pointer (some ⟨g2_0, 0, none⟩))), (7, .val (.pointer (some ⟨g6_1, 0, none⟩))), (8, .val (.int .i64 ((k : Nat) : Int))), (28, .val (.int .i64 ((j : Nat) : Int))), (29, .val (.bool r))] [(0, 29, .val (.bool r))] [⟨g1_0, none, none, .u64, 20, F, F, 28⟩, ⟨g1_1, none, none, .u8, 32, z, z, 22⟩, ⟨g1_2, none, none, .u64, 20, fun _ => 0, fun _ => 0, 28⟩, ⟨g2_0, none, none, .u64, 320, tabP F (15 + 1), tabP F (15 + 1), 74⟩, ⟨g6_1, none, none, .u64, 20, dblN q j, dblN q j, 28⟩] rfl (by rfl) HHn rfl rfl hLo rfl HSn (slS 0 rfl rfl (slS 1 rfl rfl (slS 2 rfl rfl (slS 3 rfl rfl (slS 4 rfl rfl (slS 5 rfl rfl (slS 6 rfl rfl (slL 0 (d := 0) rfl (trivial))))))))) ?_ ?_
      · show ∀ i ∈ [0], _
        refine steps_cons (st_run 0 _ rfl rfl hLo rfl rfl (fun _ _ _ _ => rfl) (fun b G w hb ho => exec_bin rfl (ev_off rfl (HSn.get 6 rfl)) (rfl) (lss_run hr _ _ _))) ?_
        exact steps_nil
      clear hLo
      intro G a12 w12 hS hH
      have HS12 : Sl a12 48 [(2, .pointer (some ⟨g1_0, 0, none⟩)), (3, .pointer (some ⟨g1_1, 0, none⟩)), (4, .pointer (some ⟨g1_2, 0, none⟩)), (5, .pointer (some ⟨g2_0, 0, none⟩)), (7, .pointer (some ⟨g6_1, 0, none⟩)), (8, .int .i64 ((k : Nat) : Int)), (28, .int .i64 ((j : Nat) : Int)), (29, .bool r)] := hS
      have HH12 : Held w w12 [⟨g1_0, .u64, 20, F, 28⟩, ⟨g1_1, .u8, 32, z, 22⟩, ⟨g1_2, .u64, 20, fun _ => 0, 28⟩, ⟨g2_0, .u64, 320, tabP F (15 + 1), 74⟩, ⟨g6_1, .u64, 20, dblN q j, 28⟩] := hH
      clear hS hH HSn HHn
      refine then_ ?_
      cases r
      · skip
        refine wp_seq ?_
        refine wp_cond_false (HS12.get 7 rfl) ?_
        refine wp_exit ?_
        repeat refine then_exit ?_
        refine inBlock_exit ?_
        refine then_ ?_
        obtain rfl : j = 4 := by have := of_decide_eq_false hr; omega
        have hLo : LOk [(0, 34, .val (.agg (FR .u64 20 (dblN q 4)))), (1, 35, .val (.int .i64 ((k : Nat) : Int))), (2, 36, .val (.int .i64 ((k / 2 : Nat) : Int))), (3, 37, .val (.pointer (some ⟨g1_1, k / 2, none⟩))), (4, 38, .val (.int .u8 ((z) (k / 2)))), (5, 39, .val (.int .i64 ((k : Nat) : Int))), (6, 40, .val (.int .i64 ((k % 2 : Nat) : Int))), (7, 41, .val (.int .i64 ((k % 2 * 4 : Nat) : Int))), (8, 42, .val (.int .u8 (z (k / 2) / 2 ^ (k % 2 * 4)))), (9, 43, .val (.int .u8 ((nib z k : Nat) : Int))), (10, 44, .val (.pointer (some ⟨g2_0, nib z k * 20, none⟩))), (11, 45, .val (.agg (FR .u64 20 (rowP F (nib z k))))), (12, 46, .val (.agg (FR .u64 20 (addP (dblN q 4) (rowP F (nib z k))))))] := ⟨show ([0, 1, 2, 3, 4, 5, 6, 7, 8, 9, 10, 11, 12] : List Nat).Nodup by decide, show ([34, 35, 36, 37, 38, 39, 40, 41, 42, 43, 44, 45, 46] : List Nat).Nodup by decide⟩
        refine region_ (wE := w) (sz := 48) (n := 14) (B := [0, 0, 2, 6, 14, 0, 32, 96, 254, 510, 1022, 2046, 4095, 8191]) [0, 1, 2, 3, 4, 5, 6, 7, 8, 9, 10, 11, 12, 13] [(2, .val (.pointer (some ⟨g1_0, 0, none⟩))), (3, .val (.pointer (some ⟨g1_1, 0, none⟩))), (4, .val (.pointer (some ⟨g1_2, 0, none⟩))), (5, .val (.pointer (some ⟨g2_0, 0, none⟩))), (7, .val (.pointer (some ⟨g6_1, 0, none⟩))), (8, .val (.int .i64 ((k : Nat) : Int)))] [(0, 34, .val (.agg (FR .u64 20 (dblN q 4)))), (1, 35, .val (.int .i64 ((k : Nat) : Int))), (2, 36, .val (.int .i64 ((k / 2 : Nat) : Int))), (3, 37, .val (.pointer (some ⟨g1_1, k / 2, none⟩))), (4, 38, .val (.int .u8 ((z) (k / 2)))), (5, 39, .val (.int .i64 ((k : Nat) : Int))), (6, 40, .val (.int .i64 ((k % 2 : Nat) : Int))), (7, 41, .val (.int .i64 ((k % 2 * 4 : Nat) : Int))), (8, 42, .val (.int .u8 (z (k / 2) / 2 ^ (k % 2 * 4)))), (9, 43, .val (.int .u8 ((nib z k : Nat) : Int))), (10, 44, .val (.pointer (some ⟨g2_0, nib z k * 20, none⟩))), (11, 45, .val (.agg (FR .u64 20 (rowP F (nib z k))))), (12, 46, .val (.agg (FR .u64 20 (addP (dblN q 4) (rowP F (nib z k))))))] [⟨g1_0, none, none, .u64, 20, F, F, 28⟩, ⟨g1_1, none, none, .u8, 32, z, z, 22⟩, ⟨g1_2, none, none, .u64, 20, fun _ => 0, fun _ => 0, 28⟩, ⟨g2_0, none, none, .u64, 320, tabP F (15 + 1), tabP F (15 + 1), 74⟩, ⟨g6_1, none, some 13, .u64, 20, dblN q 4, addP (dblN q 4) (rowP F (nib z k)), 28⟩] (by rfl) rfl tabmul_15 bitsmul_15 (by kernel_rfl) (by kernel_rfl) HH12 rfl rfl hLo rfl HS12 (slS 0 rfl rfl (slS 1 rfl rfl (slS 2 rfl rfl (slS 3 rfl rfl (slS 4 rfl rfl (slS 5 rfl rfl (trivial))))))) ?_ ?_
        · show ∀ i ∈ [0, 1, 2, 3, 4, 5, 6, 7, 8, 9, 10, 11, 12, 13], _
          refine steps_cons (st_row0 0 4 _ rfl rfl rfl rfl (fun _ _ _ _ => rfl) hLo rfl rfl rfl (by rfl) Tryd.underlying28 infoPt rfl (fun b G hb ho => ev_off rfl (HS12.get 4 rfl))) ?_
          refine steps_cons (st_run 1 _ rfl rfl hLo rfl rfl (fun _ _ _ _ => rfl) (fun b G w hb ho => exec_move (.inl rfl) (ev_off rfl (HS12.get 5 rfl)))) ?_
          refine steps_cons (st_run 2 _ rfl rfl hLo rfl rfl (fun _ _ _ _ => rfl) (fun b G w hb ho => exec_bin rfl (ev_on hLo 1 rfl HS12.1 rfl (hb 1 (by rfl))) (rfl) (quo_run (c := 2) (by decide) (by omega) _ _ _))) ?_
          refine steps_cons (st_run 3 _ rfl rfl hLo rfl rfl (fun _ _ _ _ => rfl) (fun b G w hb ho => exec_indexAddr rfl (ev_off rfl (HS12.get 1 rfl)) (ev_on hLo 2 rfl HS12.1 rfl (hb 2 (by rfl))) (index_run hk32 _ _))) ?_
          refine steps_cons (st_read 4 1 _ _ rfl rfl rfl hLo rfl rfl (fun _ _ _ _ => rfl) (by rfl) (by rfl) (fun b G w hb ho hr => exec_cell hr hk32 Tryd.underlying5 rfl rfl (ev_on hLo 3 rfl HS12.1 rfl (hb 3 (by rfl))))) ?_
          refine steps_cons (st_run 5 _ rfl rfl hLo rfl rfl (fun _ _ _ _ => rfl) (fun b G w hb ho => exec_move (.inl rfl) (ev_off rfl (HS12.get 5 rfl)))) ?_
          refine steps_cons (st_run 6 _ rfl rfl hLo rfl rfl (fun _ _ _ _ => rfl) (fun b G w hb ho => exec_bin rfl (ev_on hLo 5 rfl HS12.1 rfl (hb 5 (by rfl))) (rfl) (rem_run (c := 2) (by decide) _ _ _))) ?_
          refine steps_cons (st_run 7 _ rfl rfl hLo rfl rfl (fun _ _ _ _ => rfl) (fun b G w hb ho => exec_bin rfl (ev_on hLo 6 rfl HS12.1 rfl (hb 6 (by rfl))) (rfl) (mul4_run (by omega) _ _ _))) ?_
          refine steps_cons (st_run 8 _ rfl rfl hLo rfl rfl (fun _ _ _ _ => rfl) (fun b G w hb ho => exec_bin rfl (ev_on hLo 4 rfl HS12.1 rfl (hb 4 (by rfl))) (ev_on hLo 7 rfl HS12.1 rfl (hb 7 (by rfl))) (shrI_run (by omega) _ _ _))) ?_
          refine steps_cons (st_run 9 _ rfl rfl hLo rfl rfl (fun _ _ _ _ => rfl) (fun b G w hb ho => exec_bin rfl (ev_on hLo 8 rfl HS12.1 rfl (hb 8 (by rfl))) (rfl) (and15_run hnb _ _ _))) ?_
          refine steps_cons (st_run 10 _ rfl rfl hLo rfl rfl (fun _ _ _ _ => rfl) (fun b G w hb ho => exec_indexAddr rfl (ev_off rfl (HS12.get 3 rfl)) (ev_on hLo 9 rfl HS12.1 rfl (hb 9 (by rfl))) (index74_run (nib_lt z k) _ _))) ?_
          refine steps_cons (st_read 11 3 _ _ rfl rfl rfl hLo rfl rfl (fun _ _ _ _ => rfl) (by rfl) (by rfl) (fun b G w hb ho hr => exec_load_at (f := rowP F (nib z k)) (fun j hj => by rw [add_at]; exact (hr.cell ((nib z k) * 20 + j) (by have := nib_lt z k; show (nib z k) * 20 + j < 320; omega)).trans (congrArg (fun y => some (Value.int .u64 y)) (tabP_at (nib_lt z k) j hj))) Tryd.underlying28 infoPt rfl rfl (ev_on hLo 10 rfl HS12.1 rfl (hb 10 (by rfl))))) ?_
          refine steps_cons (st_call 12 _ #[.agg (FR .u64 20 (dblN q 4)), .agg (FR .u64 20 (rowP F (nib z k)))] rfl rfl rfl (fun _ _ _ _ => rfl) hLo rfl rfl Tryd.func18 rfl rfl (fun b G hb ho => args2 (ev_on hLo 0 rfl HS12.1 rfl (hb 0 (by rfl))) (ev_on hLo 11 rfl HS12.1 rfl (hb 11 (by rfl)))) (fun w hw => add_pt _ _ w (hT.below hw hT.lt) (dblN_PL hQ 4) (rowP_PL hF (nib z k)))) ?_
          refine steps_cons (st_store 4 _ rfl rfl rfl rfl rfl (fun _ _ _ _ => rfl) rfl rfl rfl (by rfl) infoPt (fun b G hb ho => ev_off rfl (HS12.get 4 rfl)) (fun b G hb ho => ev_on hLo 12 rfl HS12.1 rfl (hb 12 (by rfl)))) ?_
          exact steps_nil
        clear hLo
        intro G a13 w13 hS hH
        have HS13 : Sl a13 48 [(2, .pointer (some ⟨g1_0, 0, none⟩)), (3, .pointer (some ⟨g1_1, 0, none⟩)), (4, .pointer (some ⟨g1_2, 0, none⟩)), (5, .pointer (some ⟨g2_0, 0, none⟩)), (7, .pointer (some ⟨g6_1, 0, none⟩)), (8, .int .i64 ((k : Nat) : Int))] := hS
        have HH13 : Held w w13 [⟨g1_0, .u64, 20, F, 28⟩, ⟨g1_1, .u8, 32, z, 22⟩, ⟨g1_2, .u64, 20, fun _ => 0, 28⟩, ⟨g2_0, .u64, 320, tabP F (15 + 1), 74⟩, ⟨g6_1, .u64, 20, addP (dblN q 4) (rowP F (nib z k)), 28⟩] := hH
        clear hS hH HS12 HH12
        refine inBlock_normal ?_
        refine then_ ?_
        have hq2 : mulS F z (64 - k) = addP (dblN q 4) (rowP F (nib z k)) := hst
        rw [← hq2] at HH13
        have hLo : LOk [(0, 26, .val (.int .i64 ((k : Nat) : Int))), (1, 27, .val (.int .i64 (((k : Nat) : Int) - 1))), (2, 8, .val (.int .i64 (((k : Nat) : Int) - 1)))] := ⟨show ([0, 1, 2] : List Nat).Nodup by decide, show ([26, 27, 8] : List Nat).Nodup by decide⟩
        refine plain_ (wE := w) (sz := 48) (n := 3) [0, 1, 3] [(2, .val (.pointer (some ⟨g1_0, 0, none⟩))), (3, .val (.pointer (some ⟨g1_1, 0, none⟩))), (4, .val (.pointer (some ⟨g1_2, 0, none⟩))), (5, .val (.pointer (some ⟨g2_0, 0, none⟩))), (7, .val (.pointer (some ⟨g6_1, 0, none⟩))), (8, .val (.int .i64 (((k : Nat) : Int) - 1)))] [(0, 26, .val (.int .i64 ((k : Nat) : Int))), (1, 27, .val (.int .i64 (((k : Nat) : Int) - 1))), (2, 8, .val (.int .i64 (((k : Nat) : Int) - 1)))] [⟨g1_0, none, none, .u64, 20, F, F, 28⟩, ⟨g1_1, none, none, .u8, 32, z, z, 22⟩, ⟨g1_2, none, none, .u64, 20, fun _ => 0, fun _ => 0, 28⟩, ⟨g2_0, none, none, .u64, 320, tabP F (15 + 1), tabP F (15 + 1), 74⟩, ⟨g6_1, none, none, .u64, 20, mulS F z (64 - k), mulS F z (64 - k), 28⟩] rfl (by rfl) HH13 rfl rfl hLo rfl HS13 (slS 0 rfl rfl (slS 1 rfl rfl (slS 2 rfl rfl (slS 3 rfl rfl (slS 4 rfl rfl (slL 2 (d := 2) rfl (trivial))))))) ?_ ?_
        · show ∀ i ∈ [0, 1, 2], _
          refine steps_cons (st_run 0 _ rfl rfl hLo rfl rfl (fun _ _ _ _ => rfl) (fun b G w hb ho => exec_move (.inl rfl) (ev_pre hLo 2 rfl (ho 2 (by rfl)) (HS13.get 5 rfl)))) ?_
          refine steps_cons (st_run 1 _ rfl rfl hLo rfl rfl (fun _ _ _ _ => rfl) (fun b G w hb ho => exec_bin rfl (ev_on hLo 0 rfl HS13.1 rfl (hb 0 (by rfl))) (rfl) (sub1_run (by omega) _ _ _))) ?_
          refine steps_cons (st_run 2 _ rfl rfl hLo rfl rfl (fun _ _ _ _ => rfl) (fun b G w hb ho => exec_move (.inr rfl) (ev_on hLo 1 rfl HS13.1 rfl (hb 1 (by rfl))))) ?_
          exact steps_nil
        clear hLo
        intro G a14 w14 hS hH
        have HS14 : Sl a14 48 [(2, .pointer (some ⟨g1_0, 0, none⟩)), (3, .pointer (some ⟨g1_1, 0, none⟩)), (4, .pointer (some ⟨g1_2, 0, none⟩)), (5, .pointer (some ⟨g2_0, 0, none⟩)), (7, .pointer (some ⟨g6_1, 0, none⟩)), (8, .int .i64 (((k : Nat) : Int) - 1))] := hS
        have HH14 : Held w w14 [⟨g1_0, .u64, 20, F, 28⟩, ⟨g1_1, .u8, 32, z, 22⟩, ⟨g1_2, .u64, 20, fun _ => 0, 28⟩, ⟨g2_0, .u64, 320, tabP F (15 + 1), 74⟩, ⟨g6_1, .u64, 20, mulS F z (64 - k), 28⟩] := hH
        clear hS hH HS13 HH13
        refine then_ ?_
        exact ⟨⟨k, by omega, HS14, HH14⟩, by rw [HS14.get 5 rfl]; show ((k : Int) - 1 + 1).toNat < k + 1; omega⟩
      · skip
        refine wp_seq ?_
        refine wp_cond_true (HS12.get 7 rfl) ?_
        refine wp_skip ?_
        refine then_ ?_
        refine wp_seq ?_
        refine wp_block ?_
        have hLo : LOk [(0, 30, .val (.agg (FR .u64 20 (dblN q j)))), (1, 31, .val (.agg (FR .u64 20 (dblN q j)))), (2, 32, .val (.agg (FR .u64 20 (addP (dblN q j) (dblN q j)))))] := ⟨show ([0, 1, 2] : List Nat).Nodup by decide, show ([30, 31, 32] : List Nat).Nodup by decide⟩
        refine plain_ (wE := w) (sz := 48) (n := 4) [0, 1, 3, 7] [(2, .val (.pointer (some ⟨g1_0, 0, none⟩))), (3, .val (.pointer (some ⟨g1_1, 0, none⟩))), (4, .val (.pointer (some ⟨g1_2, 0, none⟩))), (5, .val (.pointer (some ⟨g2_0, 0, none⟩))), (7, .val (.pointer (some ⟨g6_1, 0, none⟩))), (8, .val (.int .i64 ((k : Nat) : Int))), (28, .val (.int .i64 ((j : Nat) : Int)))] [(0, 30, .val (.agg (FR .u64 20 (dblN q j)))), (1, 31, .val (.agg (FR .u64 20 (dblN q j)))), (2, 32, .val (.agg (FR .u64 20 (addP (dblN q j) (dblN q j)))))] [⟨g1_0, none, none, .u64, 20, F, F, 28⟩, ⟨g1_1, none, none, .u8, 32, z, z, 22⟩, ⟨g1_2, none, none, .u64, 20, fun _ => 0, fun _ => 0, 28⟩, ⟨g2_0, none, none, .u64, 320, tabP F (15 + 1), tabP F (15 + 1), 74⟩, ⟨g6_1, none, some 3, .u64, 20, dblN q j, addP (dblN q j) (dblN q j), 28⟩] rfl (by rfl) HH12 rfl rfl hLo rfl HS12 (slS 0 rfl rfl (slS 1 rfl rfl (slS 2 rfl rfl (slS 3 rfl rfl (slS 4 rfl rfl (slS 5 rfl rfl (slS 6 rfl rfl (trivial)))))))) ?_ ?_
        · show ∀ i ∈ [0, 1, 2, 3], _
          refine steps_cons (st_row0 0 4 _ rfl rfl rfl rfl (fun _ _ _ _ => rfl) hLo rfl rfl rfl (by rfl) Tryd.underlying28 infoPt rfl (fun b G hb ho => ev_off rfl (HS12.get 4 rfl))) ?_
          refine steps_cons (st_row0 1 4 _ rfl rfl rfl rfl (fun _ _ _ _ => rfl) hLo rfl rfl rfl (by rfl) Tryd.underlying28 infoPt rfl (fun b G hb ho => ev_off rfl (HS12.get 4 rfl))) ?_
          refine steps_cons (st_call 2 _ #[.agg (FR .u64 20 (dblN q j)), .agg (FR .u64 20 (dblN q j))] rfl rfl rfl (fun _ _ _ _ => rfl) hLo rfl rfl Tryd.func18 rfl rfl (fun b G hb ho => args2 (ev_on hLo 0 rfl HS12.1 rfl (hb 0 (by rfl))) (ev_on hLo 1 rfl HS12.1 rfl (hb 1 (by rfl)))) (fun w hw => add_pt _ _ w (hT.below hw hT.lt) (dblN_PL hQ j) (dblN_PL hQ j))) ?_
          refine steps_cons (st_store 4 _ rfl rfl rfl rfl rfl (fun _ _ _ _ => rfl) rfl rfl rfl (by rfl) infoPt (fun b G hb ho => ev_off rfl (HS12.get 4 rfl)) (fun b G hb ho => ev_on hLo 2 rfl HS12.1 rfl (hb 2 (by rfl)))) ?_
          exact steps_nil
        clear hLo
        intro G a15 w15 hS hH
        have HS15 : Sl a15 48 [(2, .pointer (some ⟨g1_0, 0, none⟩)), (3, .pointer (some ⟨g1_1, 0, none⟩)), (4, .pointer (some ⟨g1_2, 0, none⟩)), (5, .pointer (some ⟨g2_0, 0, none⟩)), (7, .pointer (some ⟨g6_1, 0, none⟩)), (8, .int .i64 ((k : Nat) : Int)), (28, .int .i64 ((j : Nat) : Int))] := hS
        have HH15 : Held w w15 [⟨g1_0, .u64, 20, F, 28⟩, ⟨g1_1, .u8, 32, z, 22⟩, ⟨g1_2, .u64, 20, fun _ => 0, 28⟩, ⟨g2_0, .u64, 320, tabP F (15 + 1), 74⟩, ⟨g6_1, .u64, 20, addP (dblN q j) (dblN q j), 28⟩] := hH
        clear hS hH HS12 HH12
        refine inBlock_normal ?_
        refine then_ ?_
        have hLo : LOk [(0, 33, .val (.int .i64 ((j + 1 : Nat) : Int))), (1, 28, .val (.int .i64 ((j + 1 : Nat) : Int)))] := ⟨show ([0, 1] : List Nat).Nodup by decide, show ([33, 28] : List Nat).Nodup by decide⟩
        refine plain_ (wE := w) (sz := 48) (n := 2) [0, 1] [(2, .val (.pointer (some ⟨g1_0, 0, none⟩))), (3, .val (.pointer (some ⟨g1_1, 0, none⟩))), (4, .val (.pointer (some ⟨g1_2, 0, none⟩))), (5, .val (.pointer (some ⟨g2_0, 0, none⟩))), (7, .val (.pointer (some ⟨g6_1, 0, none⟩))), (8, .val (.int .i64 ((k : Nat) : Int))), (28, .val (.int .i64 ((j + 1 : Nat) : Int)))] [(0, 33, .val (.int .i64 ((j + 1 : Nat) : Int))), (1, 28, .val (.int .i64 ((j + 1 : Nat) : Int)))] [⟨g1_0, none, none, .u64, 20, F, F, 28⟩, ⟨g1_1, none, none, .u8, 32, z, z, 22⟩, ⟨g1_2, none, none, .u64, 20, fun _ => 0, fun _ => 0, 28⟩, ⟨g2_0, none, none, .u64, 320, tabP F (15 + 1), tabP F (15 + 1), 74⟩, ⟨g6_1, none, none, .u64, 20, dblN q (j + 1), dblN q (j + 1), 28⟩] rfl (by rfl) HH15 rfl rfl hLo rfl HS15 (slS 0 rfl rfl (slS 1 rfl rfl (slS 2 rfl rfl (slS 3 rfl rfl (slS 4 rfl rfl (slS 5 rfl rfl (slL 1 (d := 1) rfl (trivial)))))))) ?_ ?_
        · show ∀ i ∈ [0, 1], _
          refine steps_cons (st_run 0 _ rfl rfl hLo rfl rfl (fun _ _ _ _ => rfl) (fun b G w hb ho => exec_bin rfl (ev_pre hLo 1 rfl (ho 1 (by rfl)) (HS15.get 6 rfl)) (rfl) (add1_run (by omega) _ _ _))) ?_
          refine steps_cons (st_run 1 _ rfl rfl hLo rfl rfl (fun _ _ _ _ => rfl) (fun b G w hb ho => exec_move (.inl rfl) (ev_on hLo 0 rfl HS15.1 rfl (hb 0 (by rfl))))) ?_
          exact steps_nil
        clear hLo
        intro G a16 w16 hS hH
        have HS16 : Sl a16 48 [(2, .pointer (some ⟨g1_0, 0, none⟩)), (3, .pointer (some ⟨g1_1, 0, none⟩)), (4, .pointer (some ⟨g1_2, 0, none⟩)), (5, .pointer (some ⟨g2_0, 0, none⟩)), (7, .pointer (some ⟨g6_1, 0, none⟩)), (8, .int .i64 ((k : Nat) : Int)), (28, .int .i64 ((j + 1 : Nat) : Int))] := hS
        have HH16 : Held w w16 [⟨g1_0, .u64, 20, F, 28⟩, ⟨g1_1, .u8, 32, z, 22⟩, ⟨g1_2, .u64, 20, fun _ => 0, 28⟩, ⟨g2_0, .u64, 320, tabP F (15 + 1), 74⟩, ⟨g6_1, .u64, 20, dblN q (j + 1), 28⟩] := hH
        clear hS hH HS15 HH15
        refine then_ ?_
        have hj4 : j < 4 := by have := of_decide_eq_true hr; omega
        exact ⟨⟨j + 1, by omega, HS16, HH16⟩, by rw [HS16.get 6 rfl]; show 4 - (((j + 1 : Nat) : Int)).toNat < 4 - j; omega⟩
  · skip
    have hi16 : k + 1 < 16 := by have := of_decide_eq_true hr; omega
    refine wp_cond_true (HS5.get 5 rfl) ?_
    refine wp_skip ?_
    refine then_ ?_
    refine wp_seq ?_
    refine wp_block ?_
    have hLo : LOk [(0, 15, .val (.int .i64 ((k + 1 : Nat) : Int))), (1, 16, .val (.int .i64 ((k + 1 : Nat) : Int))), (2, 17, .val (.int .i64 ((k : Nat) : Int))), (3, 18, .val (.pointer (some ⟨g2_0, k * 20, none⟩))), (4, 19, .val (.agg (FR .u64 20 (rowP F k)))), (5, 20, .val (.agg (FR .u64 20 (F)))), (6, 21, .val (.agg (FR .u64 20 (addP (rowP F k) (F))))), (7, 22, .val (.pointer (some ⟨g2_0, (k + 1) * 20, none⟩)))] := ⟨show ([0, 1, 2, 3, 4, 5, 6, 7] : List Nat).Nodup by decide, show ([15, 16, 17, 18, 19, 20, 21, 22] : List Nat).Nodup by decide⟩
    refine region_ (wE := w) (sz := 48) (n := 9) (B := [0, 0, 2, 6, 14, 0, 62, 127, 255]) [0, 1, 2, 3, 4, 5, 6, 7, 8] [(2, .val (.pointer (some ⟨g1_0, 0, none⟩))), (3, .val (.pointer (some ⟨g1_1, 0, none⟩))), (4, .val (.pointer (some ⟨g1_2, 0, none⟩))), (5, .val (.pointer (some ⟨g2_0, 0, none⟩))), (6, .val (.int .i64 ((k + 1 : Nat) : Int)))] [(0, 15, .val (.int .i64 ((k + 1 : Nat) : Int))), (1, 16, .val (.int .i64 ((k + 1 : Nat) : Int))), (2, 17, .val (.int .i64 ((k : Nat) : Int))), (3, 18, .val (.pointer (some ⟨g2_0, k * 20, none⟩))), (4, 19, .val (.agg (FR .u64 20 (rowP F k)))), (5, 20, .val (.agg (FR .u64 20 (F)))), (6, 21, .val (.agg (FR .u64 20 (addP (rowP F k) (F))))), (7, 22, .val (.pointer (some ⟨g2_0, (k + 1) * 20, none⟩)))] [⟨g1_0, none, none, .u64, 20, F, F, 28⟩, ⟨g1_1, none, none, .u8, 32, z, z, 22⟩, ⟨g1_2, none, none, .u64, 20, fun _ => 0, fun _ => 0, 28⟩, ⟨g2_0, none, some 8, .u64, 320, tabP F (k + 1), updR (tabP F (k + 1)) ((k + 1) * 20) 20 (addP (rowP F k) (F)), 74⟩] (by rfl) rfl tabmul_6 bitsmul_6 (by kernel_rfl) (by kernel_rfl) HH5 rfl rfl hLo rfl HS5 (slS 0 rfl rfl (slS 1 rfl rfl (slS 2 rfl rfl (slS 3 rfl rfl (slS 4 rfl rfl (trivial)))))) ?_ ?_
    · show ∀ i ∈ [0, 1, 2, 3, 4, 5, 6, 7, 8], _
      refine steps_cons (st_run 0 _ rfl rfl hLo rfl rfl (fun _ _ _ _ => rfl) (fun b G w hb ho => exec_move (.inl rfl) (ev_off rfl (HS5.get 4 rfl)))) ?_
      refine steps_cons (st_run 1 _ rfl rfl hLo rfl rfl (fun _ _ _ _ => rfl) (fun b G w hb ho => exec_move (.inl rfl) (ev_off rfl (HS5.get 4 rfl)))) ?_
      refine steps_cons (st_run 2 _ rfl rfl hLo rfl rfl (fun _ _ _ _ => rfl) (fun b G w hb ho => exec_bin rfl (ev_on hLo 1 rfl HS5.1 rfl (hb 1 (by rfl))) (rfl) (subk_run (by omega) _ _ _))) ?_
      refine steps_cons (st_run 3 _ rfl rfl hLo rfl rfl (fun _ _ _ _ => rfl) (fun b G w hb ho => exec_indexAddr rfl (ev_off rfl (HS5.get 3 rfl)) (ev_on hLo 2 rfl HS5.1 rfl (hb 2 (by rfl))) (index74_run (by omega) _ _))) ?_
      refine steps_cons (st_read 4 3 _ _ rfl rfl rfl hLo rfl rfl (fun _ _ _ _ => rfl) (by rfl) (by rfl) (fun b G w hb ho hr => exec_load_at (f := rowP F k) (fun j hj => by rw [add_at]; exact (hr.cell (k * 20 + j) (by have := hi16; show k * 20 + j < 320; omega)).trans (congrArg (fun y => some (Value.int .u64 y)) (tabP_at (Nat.lt_succ_self k) j hj))) Tryd.underlying28 infoPt rfl rfl (ev_on hLo 3 rfl HS5.1 rfl (hb 3 (by rfl))))) ?_
      refine steps_cons (st_row0 5 0 _ rfl rfl rfl rfl (fun _ _ _ _ => rfl) hLo rfl rfl rfl (by rfl) Tryd.underlying28 infoPt rfl (fun b G hb ho => ev_off rfl (HS5.get 0 rfl))) ?_
      refine steps_cons (st_call 6 _ #[.agg (FR .u64 20 (rowP F k)), .agg (FR .u64 20 (F))] rfl rfl rfl (fun _ _ _ _ => rfl) hLo rfl rfl Tryd.func18 rfl rfl (fun b G hb ho => args2 (ev_on hLo 4 rfl HS5.1 rfl (hb 4 (by rfl))) (ev_on hLo 5 rfl HS5.1 rfl (hb 5 (by rfl)))) (fun w hw => add_pt _ _ w (hT.below hw hT.lt) (rowP_PL hF k) (hF))) ?_
      refine steps_cons (st_run 7 _ rfl rfl hLo rfl rfl (fun _ _ _ _ => rfl) (fun b G w hb ho => exec_indexAddr rfl (ev_off rfl (HS5.get 3 rfl)) (ev_on hLo 0 rfl HS5.1 rfl (hb 0 (by rfl))) (index74_run (by omega) _ _))) ?_
      refine steps_cons (st_put 3 _ rfl rfl rfl rfl (fun _ _ _ _ => rfl) rfl rfl rfl (by rfl) (fun b G w hb ho hr => exec_part hr (by show (k + 1) * 20 + 20 ≤ 320; omega) infoPt rfl (ev_on hLo 7 rfl HS5.1 rfl (hb 7 (by rfl))) (ev_on hLo 6 rfl HS5.1 rfl (hb 6 (by rfl))))) ?_
      exact steps_nil
    clear hLo
    intro G a67 w67 hS hH
    have HS67 : Sl a67 48 [(2, .pointer (some ⟨g1_0, 0, none⟩)), (3, .pointer (some ⟨g1_1, 0, none⟩)), (4, .pointer (some ⟨g1_2, 0, none⟩)), (5, .pointer (some ⟨g2_0, 0, none⟩)), (6, .int .i64 ((k + 1 : Nat) : Int))] := hS
    have HH67 : Held w w67 [⟨g1_0, .u64, 20, F, 28⟩, ⟨g1_1, .u8, 32, z, 22⟩, ⟨g1_2, .u64, 20, fun _ => 0, 28⟩, ⟨g2_0, .u64, 320, updR (tabP F (k + 1)) ((k + 1) * 20) 20 (addP (rowP F k) (F)), 74⟩] := hH
    clear hS hH HS5 HH5
    refine inBlock_normal ?_
    refine then_ ?_
    rw [show updR (tabP F (k + 1)) ((k + 1) * 20) 20 (addP (rowP F k) F) = tabP F (k + 1 + 1) from tabP_step F (k + 1)] at HH67
    have hLo : LOk [(0, 13, .val (.int .i64 ((k + 1 : Nat) : Int))), (1, 14, .val (.int .i64 ((k + 1 + 1 : Nat) : Int))), (2, 6, .val (.int .i64 ((k + 1 + 1 : Nat) : Int)))] := ⟨show ([0, 1, 2] : List Nat).Nodup by decide, show ([13, 14, 6] : List Nat).Nodup by decide⟩
    refine plain_ (wE := w) (sz := 48) (n := 3) [0, 1, 3] [(2, .val (.pointer (some ⟨g1_0, 0, none⟩))), (3, .val (.pointer (some ⟨g1_1, 0, none⟩))), (4, .val (.pointer (some ⟨g1_2, 0, none⟩))), (5, .val (.pointer (some ⟨g2_0, 0, none⟩))), (6, .val (.int .i64 ((k + 1 + 1 : Nat) : Int)))] [(0, 13, .val (.int .i64 ((k + 1 : Nat) : Int))), (1, 14, .val (.int .i64 ((k + 1 + 1 : Nat) : Int))), (2, 6, .val (.int .i64 ((k + 1 + 1 : Nat) : Int)))] [⟨g1_0, none, none, .u64, 20, F, F, 28⟩, ⟨g1_1, none, none, .u8, 32, z, z, 22⟩, ⟨g1_2, none, none, .u64, 20, fun _ => 0, fun _ => 0, 28⟩, ⟨g2_0, none, none, .u64, 320, tabP F (k + 1 + 1), tabP F (k + 1 + 1), 74⟩] rfl (by rfl) HH67 rfl rfl hLo rfl HS67 (slS 0 rfl rfl (slS 1 rfl rfl (slS 2 rfl rfl (slS 3 rfl rfl (slL 2 (d := 2) rfl (trivial)))))) ?_ ?_
    · show ∀ i ∈ [0, 1, 2], _
      refine steps_cons (st_run 0 _ rfl rfl hLo rfl rfl (fun _ _ _ _ => rfl) (fun b G w hb ho => exec_move (.inl rfl) (ev_pre hLo 2 rfl (ho 2 (by rfl)) (HS67.get 4 rfl)))) ?_
      refine steps_cons (st_run 1 _ rfl rfl hLo rfl rfl (fun _ _ _ _ => rfl) (fun b G w hb ho => exec_bin rfl (ev_on hLo 0 rfl HS67.1 rfl (hb 0 (by rfl))) (rfl) (add1_run (by omega) _ _ _))) ?_
      refine steps_cons (st_run 2 _ rfl rfl hLo rfl rfl (fun _ _ _ _ => rfl) (fun b G w hb ho => exec_move (.inr rfl) (ev_on hLo 1 rfl HS67.1 rfl (hb 1 (by rfl))))) ?_
      exact steps_nil
    clear hLo
    intro G a68 w68 hS hH
    have HS68 : Sl a68 48 [(2, .pointer (some ⟨g1_0, 0, none⟩)), (3, .pointer (some ⟨g1_1, 0, none⟩)), (4, .pointer (some ⟨g1_2, 0, none⟩)), (5, .pointer (some ⟨g2_0, 0, none⟩)), (6, .int .i64 ((k + 1 + 1 : Nat) : Int))] := hS
    have HH68 : Held w w68 [⟨g1_0, .u64, 20, F, 28⟩, ⟨g1_1, .u8, 32, z, 22⟩, ⟨g1_2, .u64, 20, fun _ => 0, 28⟩, ⟨g2_0, .u64, 320, tabP F (k + 1 + 1), 74⟩] := hH
    clear hS hH HS67 HH67
    refine then_ ?_
    exact ⟨⟨k + 1 + 1, by omega, by omega, HS68, HH68⟩, by rw [HS68.get 4 rfl]; show 16 - (((k + 1 + 1 : Nat) : Int)).toNat < 16 - (k + 1); omega⟩
end Go.Proofs.YtaaipbhfikefaaaDoor.P
end

section
namespace Go.Proofs.YtaaipbhfikefaaaDoor.P
set_option linter.unusedVariables false
open Go.Proofs.YtaaipbhfikefaaaDoor.P.Fd
def eF (f : Nat → Int) : Fin PN := toF (V51 f)
def rF (f : Nat → Int) : Fin PN := toF (V16 f)
theorem eF_mul {f g : Nat → Int} (hf : Lm f) (hg : Lm g) : eF (mulE f g) = eF f * eF g := by unfold eF; rw [← toF_mul, toF_eq]; exact (Fe.mul (n := V51 f) (m := V51 g) ⟨hf, rfl⟩ ⟨hg, rfl⟩).2
theorem eF_add {f g : Nat → Int} (hf : Lm f) (hg : Lm g) : eF (addE f g) = eF f + eF g := by unfold eF; rw [← toF_add, toF_eq]; exact (Fe.add (n := V51 f) (m := V51 g) ⟨hf, rfl⟩ ⟨hg, rfl⟩).2
theorem eF_sub {f g : Nat → Int} (hf : Lm f) (hg : Lm g) : eF (subE f g) = eF f - eF g := by unfold eF; rw [← toF_sub, toF_eq]; exact (Fe.sub (n := V51 f) (m := V51 g) ⟨hf, rfl⟩ ⟨hg, rfl⟩).2
theorem eF_neg {g : Nat → Int} (hg : Lm g) : eF (negE g) = - eF g := by
  have h : eF (negE g) = toF (0 - V51 g) := by unfold eF; rw [toF_eq]; exact (Fe.neg (m := V51 g) ⟨hg, rfl⟩).2
  rw [h, toF_sub, toF_zero]; exact zsub _
theorem rF_mul {f g : Nat → Int} (hf : Rn f) (hg : Rn g) : rF (mulR f g) = rF f * rF g := by unfold rF; rw [← toF_mul, toF_eq]; exact (Re.mul (n := V16 f) (m := V16 g) ⟨hf, rfl⟩ ⟨hg, rfl⟩).2
theorem rF_add {f g : Nat → Int} (hf : Rn f) (hg : Rn g) : rF (addR f g) = rF f + rF g := by unfold rF; rw [← toF_add, toF_eq]; exact (Re.add (n := V16 f) (m := V16 g) ⟨hf, rfl⟩ ⟨hg, rfl⟩).2
theorem rF_sub {f g : Nat → Int} (hf : Rn f) (hg : Rn g) : rF (subR f g) = rF f - rF g := by unfold rF; rw [← toF_sub, toF_eq]; exact (Re.sub (n := V16 f) (m := V16 g) ⟨hf, rfl⟩ ⟨hg, rfl⟩).2
theorem eF_same {f g : Nat → Int} (h : ∀ j, j < 5 → f j = g j) : eF f = eF g := by
  unfold eF V51
  rw [h 0 (by omega), h 1 (by omega), h 2 (by omega), h 3 (by omega), h 4 (by omega)]
theorem dN_is : N32 dB % PP = (dN : Int) % PP := by decide
theorem eF_d : eF (carr (ofL dB)) = dF := by unfold eF dF; rw [toF_eq, (Fe.of dB dB_By).2]; exact dN_is
theorem eF_small (n : Int) : eF (smL n) = toF n := by unfold eF; rw [smL_V]
theorem two_is : toF 2 = 2 := by rw [show (2 : Int) = 1 + 1 by decide, toF_add, toF_one]; exact two_F
/-- Four numbers of the program stand for a point. -/
def PRep (F : Nat → Int) (P : Pt dF) : Prop := PL F ∧ Rep dF (eF (co F 0)) (eF (co F 5)) (eF (co F 10)) (eF (co F 15)) P
theorem prep_pt {a b c d : Nat → Int} {P : Pt dF} (h : PL (pt4 a b c d)) (hr : Rep dF (eF a) (eF b) (eF c) (eF d) P) : PRep (pt4 a b c d) P := by
  refine ⟨h, ?_⟩
  rw [← eF_same (co_pt (a := a) (b := b) (c := c) (d := d)).1, ← eF_same (co_pt (a := a) (b := b) (c := c) (d := d)).2.1, ← eF_same (co_pt (a := a) (b := b) (c := c) (d := d)).2.2.1, ← eF_same (co_pt (a := a) (b := b) (c := c) (d := d)).2.2.2]
  exact hr
theorem PRep.add {F H : Nat → Int} {P Q : Pt dF} (hF : PRep F P) (hH : PRep H Q) : PRep (addP F H) (P.add fld Q) := by
  obtain ⟨pf, rf⟩ := hF
  obtain ⟨ph, rh⟩ := hH
  refine prep_pt (addP_PL pf ph) ?_
  rw [eF_mul (fP_Lm pf ph) (gP_Lm pf ph), eF_mul (hP_Lm pf ph) (iP_Lm pf ph), eF_mul (gP_Lm pf ph) (hP_Lm pf ph), eF_mul (fP_Lm pf ph) (iP_Lm pf ph)]
  have hA : eF (aP F H) = (eF (co F 5) - eF (co F 0)) * (eF (co H 5) - eF (co H 0)) := by unfold aP; rw [eF_mul (lsub pf.2.1 pf.1) (lsub ph.2.1 ph.1), eF_sub pf.2.1 pf.1, eF_sub ph.2.1 ph.1]
  have hB : eF (bP F H) = (eF (co F 5) + eF (co F 0)) * (eF (co H 5) + eF (co H 0)) := by unfold bP; rw [eF_mul (ladd pf.2.1 pf.1) (ladd ph.2.1 ph.1), eF_add pf.2.1 pf.1, eF_add ph.2.1 ph.1]
  have hC : eF (cP F H) = eF (co F 15) * eF (co H 15) * dF * 2 := by unfold cP; rw [eF_mul (lmul (lmul pf.2.2.2 ph.2.2.2) (lof dB_By)) (smL_Lm 2 (by omega)), eF_mul (lmul pf.2.2.2 ph.2.2.2) (lof dB_By), eF_mul pf.2.2.2 ph.2.2.2, eF_d, eF_small, two_is]
  have hE : eF (eP F H) = eF (co F 10) * eF (co H 10) * 2 := by unfold eP; rw [eF_mul (lmul pf.2.2.1 ph.2.2.1) (smL_Lm 2 (by omega)), eF_mul pf.2.2.1 ph.2.2.1, eF_small, two_is]
  exact Rep.add fld rf rh _ _ _ _ _ _ _ _ hA hB hC hE (eF_sub (bP_Lm pf ph) (aP_Lm pf ph)) (eF_sub (eP_Lm pf ph) (cP_Lm pf ph)) (eF_add (eP_Lm pf ph) (cP_Lm pf ph)) (eF_add (bP_Lm pf ph) (aP_Lm pf ph))
theorem rF_same {f g : Nat → Int} (h : ∀ j, j < 16 → f j = g j) : rF f = rF g := by
  unfold rF V16
  rw [val_congr 65536 f g 16 h]
theorem rF_d : rF dR = dF := by unfold rF dF; rw [toF_eq, dR_Re.2]; exact dN_is
theorem rF_one : rF oneR = 1 := by unfold rF oneR; rw [← toF_one, toF_eq]; exact (Re.small 1 (by omega)).2
def RRep (F : Nat → Int) (P : Pt dF) : Prop := PR F ∧ Rep dF (rF (co F 0)) (rF (co F 16)) (rF (co F 32)) (rF (co F 48)) P
theorem rrep_pr {a b c d : Nat → Int} {P : Pt dF} (h : PR (pr4 a b c d)) (hr : Rep dF (rF a) (rF b) (rF c) (rF d) P) : RRep (pr4 a b c d) P := by
  refine ⟨h, ?_⟩
  rw [← rF_same (co_pr (a := a) (b := b) (c := c) (d := d)).1, ← rF_same (co_pr (a := a) (b := b) (c := c) (d := d)).2.1, ← rF_same (co_pr (a := a) (b := b) (c := c) (d := d)).2.2.1, ← rF_same (co_pr (a := a) (b := b) (c := c) (d := d)).2.2.2]
  exact hr
theorem RRep.add {F H : Nat → Int} {P Q : Pt dF} (hF : RRep F P) (hH : RRep H Q) : RRep (addRP F H) (P.add fld Q) := by
  obtain ⟨pf, rf⟩ := hF
  obtain ⟨ph, rh⟩ := hH
  refine rrep_pr (addRP_PR pf ph) ?_
  rw [rF_mul (crR_Rn pf ph) (loR_Rn pf ph), rF_mul (hiR_Rn pf ph) (suR_Rn pf ph), rF_mul (loR_Rn pf ph) (hiR_Rn pf ph), rF_mul (crR_Rn pf ph) (suR_Rn pf ph)]
  have hx : rF (xR F H) = rF (co F 0) * rF (co H 0) := rF_mul pf.1 ph.1
  have hy : rF (yR F H) = rF (co F 16) * rF (co H 16) := rF_mul pf.2.1 ph.2.1
  have hz : rF (zR F H) = rF (co F 32) * rF (co H 32) := rF_mul pf.2.2.1 ph.2.2.1
  have ht : rF (tR F H) = rF (co F 48) * rF (co H 48) * dF := by unfold tR; rw [rF_mul (rmul pf.2.2.2 ph.2.2.2) dR_Rn, rF_mul pf.2.2.2 ph.2.2.2, rF_d]
  have hc : rF (crR F H) = (rF (co F 0) + rF (co F 16)) * (rF (co H 0) + rF (co H 16)) - (rF (xR F H) + rF (yR F H)) := by unfold crR; rw [rF_sub (rmul (radd pf.1 pf.2.1) (radd ph.1 ph.2.1)) (radd (xR_Rn pf ph) (yR_Rn pf ph)), rF_mul (radd pf.1 pf.2.1) (radd ph.1 ph.2.1), rF_add pf.1 pf.2.1, rF_add ph.1 ph.2.1, rF_add (xR_Rn pf ph) (yR_Rn pf ph)]
  exact Rep.addR fld rf rh _ _ _ _ _ _ _ _ hx hy hz ht hc (rF_sub (zR_Rn pf ph) (tR_Rn pf ph)) (rF_add (zR_Rn pf ph) (tR_Rn pf ph)) (rF_add (yR_Rn pf ph) (xR_Rn pf ph))
theorem eF_zero : eF (fun _ => 0) = 0 := by unfold eF; rw [← toF_zero, toF_eq]; exact Fe.zero.2
theorem rF_zero : rF (fun _ => 0) = 0 := by unfold rF; rw [← toF_zero, toF_eq]; exact Re.zero.2
theorem PRep.zero : PRep zeroP (Pt.zero dF) := prep_pt zeroP_PL (by
  rw [eF_zero, eF_small, toF_one]
  exact ⟨fld.one, by show (0 : Fin PN) = 0 * 1; grind, by show (1 : Fin PN) = 1 * 1; grind, by show (0 : Fin PN) = 0 * 1 * 1; grind⟩)
theorem RRep.zero : RRep zeroRP (Pt.zero dF) := rrep_pr zeroRP_PR (by
  rw [rF_zero, rF_one]
  exact ⟨fld.one, by show (0 : Fin PN) = 0 * 1; grind, by show (1 : Fin PN) = 1 * 1; grind, by show (0 : Fin PN) = 0 * 1 * 1; grind⟩)
end Go.Proofs.YtaaipbhfikefaaaDoor.P
end

section
namespace Go.Proofs.YtaaipbhfikefaaaDoor.P
set_option linter.unusedVariables false
open Go.Proofs.YtaaipbhfikefaaaDoor.P.Fd
theorem PRep.neg {F : Nat → Int} {P : Pt dF} (h : PRep F P) : PRep (negP F) P.neg := by
  obtain ⟨p, z, x, y, t⟩ := h
  refine prep_pt (pl_pt (lneg p.1) p.2.1 p.2.2.1 (lneg p.2.2.2)) ?_
  rw [eF_neg p.1, eF_neg p.2.2.2]
  refine ⟨z, ?_, y, ?_⟩
  · show - eF (co F 0) = - P.1.1 * _
    rw [x]; grind
  · show - eF (co F 15) = - P.1.1 * P.1.2 * _
    rw [t]; grind
theorem RRep.neg {F : Nat → Int} {P : Pt dF} (h : RRep F P) : RRep (negRP F) P.neg := by
  obtain ⟨p, z, x, y, t⟩ := h
  refine rrep_pr (pr_pr (rsub Re.zero.1 p.1) p.2.1 p.2.2.1 (rsub Re.zero.1 p.2.2.2)) ?_
  rw [rF_sub Re.zero.1 p.1, rF_sub Re.zero.1 p.2.2.2, rF_zero]
  refine ⟨z, ?_, y, ?_⟩
  · show 0 - rF (co F 0) = - P.1.1 * _
    rw [x]; grind
  · show 0 - rF (co F 48) = - P.1.1 * P.1.2 * _
    rw [t]; grind
theorem PRep.row {F : Nat → Int} {P : Pt dF} (h : PRep F P) : ∀ i, PRep (rowP F i) (P.mul fld i)
  | 0 => PRep.zero
  | i + 1 => (PRep.row h i).add h
theorem PRep.dbl {q : Nat → Int} {P : Pt dF} {n : Nat} (h : PRep q (P.mul fld n)) : ∀ j, PRep (dblN q j) (P.mul fld (n * 2 ^ j))
  | 0 => by rw [Nat.pow_zero, Nat.mul_one]; exact h
  | j + 1 => by
    rw [show n * 2 ^ (j + 1) = n * 2 ^ j + n * 2 ^ j by rw [Nat.pow_succ, ← Nat.mul_assoc, Nat.mul_two], Pt.mul_add]
    exact (PRep.dbl h j).add (PRep.dbl h j)
def nval (z : Nat → Int) : Nat → Nat
  | 0 => 0
  | s + 1 => nval z s * 16 + nib z (63 - s)
theorem PRep.muls {F z : Nat → Int} {P : Pt dF} (h : PRep F P) : ∀ s, PRep (mulS F z s) (P.mul fld (nval z s))
  | 0 => PRep.zero
  | s + 1 => by
    show PRep (addP (dblN (mulS F z s) 4) (rowP F (nib z (63 - s)))) (P.mul fld (nval z s * 16 + nib z (63 - s)))
    rw [Pt.mul_add]
    exact (PRep.dbl (PRep.muls h s) 4).add (h.row _)
def bval (z : Nat → Int) : Nat → Nat
  | 0 => 0
  | s + 1 => if bitB z (255 - s) then bval z s + bval z s + 1 else bval z s + bval z s
theorem RRep.muls {F z : Nat → Int} {P : Pt dF} (h : RRep F P) : ∀ s, RRep (mulRS F z s) (P.mul fld (bval z s))
  | 0 => RRep.zero
  | s + 1 => by
    unfold mulRS bval
    split
    · rw [Pt.mul_add, Pt.mul_one, Pt.mul_add]
      exact ((RRep.muls h s).add (RRep.muls h s)).add h
    · rw [Pt.mul_add]
      exact (RRep.muls h s).add (RRep.muls h s)
end Go.Proofs.YtaaipbhfikefaaaDoor.P
end

section
namespace Go.Proofs.YtaaipbhfikefaaaDoor.P
set_option linter.unusedVariables false
open Go.Proofs.YtaaipbhfikefaaaDoor.P.Fd
def NZ (z : Nat → Int) : Nat := (N32 z).toNat
theorem dig_of {z : Nat → Int} (hz : By z) : ∀ n, n ≤ 32 → ∃ m : Nat, val 256 z n = (m : Int) ∧ m < 256 ^ n ∧ ∀ k, k < n → (z k).toNat = m / 256 ^ k % 256
  | 0, _ => ⟨0, rfl, by decide, fun k hk => by omega⟩
  | n + 1, h => by
    obtain ⟨m, h1, h2, h3⟩ := dig_of hz n (by omega)
    have hb := hz n (by omega)
    obtain ⟨d, hd⟩ : ∃ d : Nat, z n = (d : Int) := ⟨(z n).toNat, by omega⟩
    have hd2 : d < 256 := by omega
    refine ⟨m + d * 256 ^ n, ?_, ?_, fun k hk => ?_⟩
    · show val 256 z n + z n * 256 ^ n = _
      rw [h1, hd]; simp
    · rw [Nat.pow_succ]
      have : d * 256 ^ n ≤ 255 * 256 ^ n := Nat.mul_le_mul_right _ (by omega)
      omega
    · by_cases hkn : k = n
      · subst hkn
        rw [Nat.add_mul_div_right _ _ (Nat.pow_pos (by omega)), Nat.div_eq_of_lt h2, hd]
        simp; omega
      · have e : 256 ^ n = 256 ^ k * (256 * 256 ^ (n - k - 1)) := by rw [← Nat.pow_succ', ← Nat.pow_add]; congr 1; omega
        rw [h3 k (by omega), e, show m + d * (256 ^ k * (256 * 256 ^ (n - k - 1))) = m + 256 ^ k * (256 * (d * 256 ^ (n - k - 1))) by rw [Nat.mul_left_comm, Nat.mul_left_comm d]]
        rw [Nat.add_mul_div_left _ _ (Nat.pow_pos (by omega)), Nat.add_mul_mod_self_left]
theorem NZ_of {z : Nat → Int} (hz : By z) : NZ z < 256 ^ 32 ∧ ∀ k, k < 32 → (z k).toNat = NZ z / 256 ^ k % 256 := by
  obtain ⟨m, h1, h2, h3⟩ := dig_of hz 32 (by omega)
  have e : NZ z = m := by unfold NZ N32; rw [h1]; rfl
  rw [e]
  exact ⟨h2, h3⟩
theorem nib_of {z : Nat → Int} (hz : By z) {k : Nat} (hk : k < 64) : nib z k = NZ z / 16 ^ k % 16 := by
  have h := (NZ_of hz).2 (k / 2) (by omega)
  have hb := hz (k / 2) (by omega)
  obtain ⟨d, hd⟩ : ∃ d : Nat, z (k / 2) = (d : Int) := ⟨(z (k / 2)).toNat, by omega⟩
  rw [hd] at h
  have h' : d = NZ z / 256 ^ (k / 2) % 256 := h
  unfold nib
  rw [hd]
  generalize NZ z = N at *
  rcases Nat.mod_two_eq_zero_or_one k with h0 | h0
  · rw [h0]
    have e : 16 ^ k = 256 ^ (k / 2) := by rw [show (256 : Nat) = 16 ^ 2 by decide, ← Nat.pow_mul]; congr 1; omega
    rw [e]
    generalize N / 256 ^ (k / 2) = y at *
    simp
    omega
  · rw [h0]
    have e : 16 ^ k = 256 ^ (k / 2) * 16 := by rw [show (256 : Nat) = 16 ^ 2 by decide, ← Nat.pow_mul, ← Nat.pow_succ]; congr 1; omega
    rw [e, ← Nat.div_div_eq_div_mul]
    generalize N / 256 ^ (k / 2) = y at *
    simp
    omega
theorem nval_of {z : Nat → Int} (hz : By z) : ∀ s, s ≤ 64 → nval z s = NZ z / 16 ^ (64 - s)
  | 0, _ => by
    have h := (NZ_of hz).1
    show 0 = _
    rw [Nat.div_eq_of_lt (by rw [show (16 : Nat) ^ (64 - 0) = 256 ^ 32 by decide]; exact h)]
  | s + 1, h => by
    show nval z s * 16 + nib z (63 - s) = _
    rw [nval_of hz s (by omega), nib_of hz (by omega), show 64 - s = (63 - s) + 1 by omega, Nat.pow_succ, ← Nat.div_div_eq_div_mul, show 64 - (s + 1) = 63 - s by omega]
    omega
theorem nval_is {z : Nat → Int} (hz : By z) : nval z 64 = NZ z := by rw [nval_of hz 64 (by omega)]; simp
theorem bit_of {z : Nat → Int} (hz : By z) {k : Nat} (hk : k < 256) : bitB z k = (NZ z / 2 ^ k % 2 == 1) := by
  have h := (NZ_of hz).2 (k / 8) (by omega)
  have hb := hz (k / 8) (by omega)
  obtain ⟨d, hd⟩ : ∃ d : Nat, z (k / 8) = (d : Int) := ⟨(z (k / 8)).toNat, by omega⟩
  rw [hd] at h
  have h' : d = NZ z / 256 ^ (k / 8) % 256 := h
  unfold bitB
  rw [hd]
  have e : 2 ^ k = 256 ^ (k / 8) * 2 ^ (k % 8) := by rw [show (256 : Nat) = 2 ^ 8 by decide, ← Nat.pow_mul, ← Nat.pow_add]; congr 1; omega
  have e2 : (d : Int) / 2 ^ (k % 8) % 2 = ((d / 2 ^ (k % 8) % 2 : Nat) : Int) := by simp
  have e3 : d / 2 ^ (k % 8) % 2 = NZ z / 2 ^ k % 2 := by
    rw [e, ← Nat.div_div_eq_div_mul, h']
    generalize NZ z / 256 ^ (k / 8) = y
    have h8 : k % 8 < 8 := by omega
    rw [show (256 : Nat) = 2 ^ (k % 8) * 2 ^ (8 - k % 8) by rw [← Nat.pow_add, show k % 8 + (8 - k % 8) = 8 by omega], Nat.mod_mul_right_div_self, Nat.mod_mod_of_dvd _ (by rw [show 8 - k % 8 = (7 - k % 8) + 1 by omega, Nat.pow_succ]; exact Nat.dvd_mul_left 2 _)]
  rw [e2, e3]
  rcases Nat.mod_two_eq_zero_or_one (NZ z / 2 ^ k) with h0 | h0 <;> rw [h0] <;> rfl
theorem bval_of {z : Nat → Int} (hz : By z) : ∀ s, s ≤ 256 → bval z s = NZ z / 2 ^ (256 - s)
  | 0, _ => by
    have h := (NZ_of hz).1
    show 0 = _
    rw [Nat.div_eq_of_lt (by rw [show (2 : Nat) ^ (256 - 0) = 256 ^ 32 by decide]; exact h)]
  | s + 1, h => by
    unfold bval
    rw [bval_of hz s (by omega), bit_of hz (by omega), show 256 - s = (255 - s) + 1 by omega, Nat.pow_succ, ← Nat.div_div_eq_div_mul, show 256 - (s + 1) = 255 - s by omega]
    split
    · rename_i h1
      have h1 := eq_of_beq h1
      omega
    · rename_i h1
      have : ¬ NZ z / 2 ^ (255 - s) % 2 = 1 := fun e => h1 (by rw [e]; rfl)
      omega
theorem bval_is {z : Nat → Int} (hz : By z) : bval z 256 = NZ z := by rw [bval_of hz 256 (by omega)]; simp
/-- Mul of both is so many times the point. -/
theorem PRep.mul {F z : Nat → Int} {P : Pt dF} (h : PRep F P) (hz : By z) : PRep (mulP F z) (P.mul fld (NZ z)) := by rw [← nval_is hz]; exact PRep.muls h 64
theorem RRep.mul {F z : Nat → Int} {P : Pt dF} (h : RRep F P) (hz : By z) : RRep (mulRP F z) (P.mul fld (NZ z)) := by rw [← bval_is hz]; exact RRep.muls h 256
end Go.Proofs.YtaaipbhfikefaaaDoor.P
end

section
namespace Go.Proofs.YtaaipbhfikefaaaDoor.P
set_option linter.unusedVariables false
open Go.Proofs.YtaaipbhfikefaaaDoor.P.Fd
theorem eF_iff {f g : Nat → Int} : eF f = eF g ↔ V51 f % PP = V51 g % PP := toF_eq
theorem cross {a b p q : Fin PN} (hp : p ≠ 0) (hq : q ≠ 0) : a * p * q = b * q * p ↔ a = b := by
  constructor
  · intro h
    refine fld.cancel (fld.mul_ne hp hq) ?_
    grind
  · rintro rfl; grind
theorem isP_iff {F H : Nat → Int} {P Q : Pt dF} (hF : PRep F P) (hH : PRep H Q) : isP F H = true ↔ P = Q := by
  obtain ⟨pf, z1, x1, y1, t1⟩ := hF
  obtain ⟨ph, z2, x2, y2, t2⟩ := hH
  unfold isP is1 is2
  rw [Bool.and_eq_true, decide_eq_true_eq, decide_eq_true_eq, ← eF_iff, ← eF_iff, eF_mul pf.1 ph.2.2.1, eF_mul ph.1 pf.2.2.1, eF_mul pf.2.1 ph.2.2.1, eF_mul ph.2.1 pf.2.2.1, x1, x2, y1, y2, cross z1 z2, cross z1 z2]
  constructor
  · rintro ⟨h1, h2⟩; exact Pt.ext h1 h2
  · rintro rfl; exact ⟨rfl, rfl⟩
theorem eF_inv {f : Nat → Int} (hf : Lm f) (h : eF f ≠ 0) : eF f * eF (invE f) = 1 := by
  have h1 : eF (invE f) = toF (V51 f ^ (PN - 2)) := by unfold eF; rw [toF_eq]; exact (Fe.inv (n := V51 f) ⟨hf, rfl⟩).2
  rw [h1]
  unfold eF at h ⊢
  rw [← toF_mul, ← toF_one, toF_eq]
  have h2 := inv_mul (V51 f)
  rw [decide_eq_false (toF_ne.1 h)] at h2
  exact of_decide_eq_true h2
theorem rF_inv {f : Nat → Int} (hf : Rn f) (h : rF f ≠ 0) : rF f * rF (invR f) = 1 := by
  have h1 : rF (invR f) = toF (V16 f ^ (PN - 2)) := by
    unfold rF; rw [toF_eq]
    have h := Re.pow (n := V16 f) ⟨hf, rfl⟩ (exB 255 21) 256
    rw [exp_inv] at h
    exact h.2
  rw [h1]
  unfold rF at h ⊢
  rw [← toF_mul, ← toF_one, toF_eq]
  have h2 := inv_mul (V16 f)
  rw [decide_eq_false (toF_ne.1 h)] at h2
  exact of_decide_eq_true h2
theorem val_of {f : Nat → Int} {a : Fin PN} (h : eF f = a) : V51 f % PP = (a.val : Int) := by rw [← h]; exact (toF_val _).symm
theorem valR_of {f : Nat → Int} {a : Fin PN} (h : rF f = a) : V16 f % PP = (a.val : Int) := by rw [← h]; exact (toF_val _).symm
theorem PRep.y {F : Nat → Int} {P : Pt dF} (h : PRep F P) : V51 (yE F) % PP = (P.1.2.val : Int) := by
  obtain ⟨p, z, x, y, t⟩ := h
  apply val_of
  have hi := eF_inv p.2.2.1 z
  unfold yE
  rw [eF_mul p.2.1 (linv p.2.2.1), y]
  grind
theorem PRep.x {F : Nat → Int} {P : Pt dF} (h : PRep F P) : V51 (xE F) % PP = (P.1.1.val : Int) := by
  obtain ⟨p, z, x, y, t⟩ := h
  apply val_of
  have hi := eF_inv p.2.2.1 z
  unfold xE
  rw [eF_mul p.1 (linv p.2.2.1), x]
  grind
theorem RRep.y {F : Nat → Int} {P : Pt dF} (h : RRep F P) : V16 (yR' F) % PP = (P.1.2.val : Int) := by
  obtain ⟨p, z, x, y, t⟩ := h
  apply valR_of
  have hi := rF_inv p.2.2.1 z
  unfold yR'
  rw [rF_mul p.2.1 (rinv p.2.2.1), y]
  grind
theorem RRep.x {F : Nat → Int} {P : Pt dF} (h : RRep F P) : V16 (xR' F) % PP = (P.1.1.val : Int) := by
  obtain ⟨p, z, x, y, t⟩ := h
  apply valR_of
  have hi := rF_inv p.2.2.1 z
  unfold xR'
  rw [rF_mul p.1 (rinv p.2.2.1), x]
  grind
/-- A point's bytes. -/
def ptB (P : Pt dF) : Nat → Int := if P.1.1.val % 2 = 1 then upd (dig 256 (P.1.2.val : Int)) 31 (dig 256 (P.1.2.val : Int) 31 + 128) else dig 256 (P.1.2.val : Int)
theorem or128 (x : Int) (h : 0 ≤ x ∧ x < 128) : Go.bits .or .u8 x 128 = x + 128 := by
  have hx : ∀ n : Fin 128, Go.bits .or .u8 (n.val : Int) 128 = (n.val : Int) + 128 := by decide +kernel
  have := hx ⟨x.toNat, by omega⟩
  simp only [Int.toNat_of_nonneg h.1] at this
  exact this
theorem top_lt (a : Fin PN) : 0 ≤ dig 256 (a.val : Int) 31 ∧ dig 256 (a.val : Int) 31 < 128 := by
  have ha := a.2
  unfold PN at ha
  unfold dig
  rw [show (256 : Int) ^ 31 = 452312848583266388373324160190187140051835877600158453279131187530910662656 by decide]
  omega
theorem PRep.bytes {F : Nat → Int} {P : Pt dF} (h : PRep F P) : bytesP F = ptB P := by
  unfold bytesP oddE yB ptB
  rw [h.y, h.x, or128 _ (top_lt _)]
  by_cases hx : P.1.1.val % 2 = 1
  · have : (P.1.1.val : Int) % 2 = 1 := by omega
    simp [hx, this]
  · have : ¬ (P.1.1.val : Int) % 2 = 1 := by omega
    simp [hx, this]
theorem RRep.bytes {F : Nat → Int} {P : Pt dF} (h : RRep F P) : bytesRP F = ptB P := by
  unfold bytesRP oddR yRB ptB
  have ht := top_lt P.1.2
  have e : (dig 256 (P.1.2.val : Int) 31 + 128) % 256 = dig 256 (P.1.2.val : Int) 31 + 128 := by omega
  rw [h.y, h.x, e]
  by_cases hx : P.1.1.val % 2 = 1
  · have : (P.1.1.val : Int) % 2 = 1 := by omega
    simp [hx, this]
  · have : ¬ (P.1.1.val : Int) % 2 = 1 := by omega
    simp [hx, this]
end Go.Proofs.YtaaipbhfikefaaaDoor.P
end

section
namespace Go.Proofs.YtaaipbhfikefaaaDoor.P
set_option linter.unusedVariables false
open Go.Proofs.YtaaipbhfikefaaaDoor.P.Fd
theorem low_eq {b : Nat → Int} (hb : By b) : lowB1 b = lowR b := by unfold lowB1 lowR; rw [and127 _ (hb 31 (by omega))]
theorem x0N_congr {n m : Int} (h : n % PP = m % PP) : x0N n % PP = x0N m % PP := pow_same h _
theorem sq0_congr {n m : Int} (h : n % PP = m % PP) : sq0 n = sq0 m := by
  unfold sq0
  rw [mod_mul (x0N_congr h) (x0N_congr h), h]
theorem x1N_congr {i n m : Int} (h : n % PP = m % PP) : x1N i n % PP = x1N i m % PP := by
  unfold x1N
  rw [sq0_congr h]
  split
  · exact x0N_congr h
  · exact mod_mul (x0N_congr h) rfl
theorem rOk_congr {i n m : Int} (h : n % PP = m % PP) : rOk i n = rOk i m := by
  unfold rOk
  rw [mod_mul (x1N_congr h) (x1N_congr h), h]
theorem x0_val {b : Nat → Int} (hb : By b) : V51 (dx0 b) % PP = rN iZ (V51 (dq b)) % PP := (rtE_Fe (n := V51 (dq b)) ⟨dq_Lm hb, rfl⟩).2
theorem y_val {b : Nat → Int} (hb : By b) : V51 (dy b) % PP = N32 (lowR b) % PP := by unfold dy; rw [low_eq hb]; exact (Fe.of _ (lowR_By hb)).2
end Go.Proofs.YtaaipbhfikefaaaDoor.P
end

section
namespace Go.Proofs.YtaaipbhfikefaaaDoor.P
set_option linter.unusedVariables false
open Go.Proofs.YtaaipbhfikefaaaDoor.P.Fd
theorem z01 {n : Nat} [NeZero n] (d : Fin n) : 0 * 0 * d + 1 = 1 := by grind
theorem den_ne (y : Fin PN) : y * y * dF + 1 ≠ 0 := fun e => by
  obtain ⟨i, hi⟩ := fld.im
  by_cases h : y = 0
  · refine fld.one ?_
    rw [h, z01] at e
    exact e
  · exact fld.no_sq (a := i) (b := y) h (by rw [hi]; grind)
theorem dq_F {b : Nat → Int} (hb : By b) : eF (dq b) * (eF (dy b) * eF (dy b) * dF + 1) = eF (dy b) * eF (dy b) - 1 := by
  have hs : eF (dsq b) = eF (dy b) * eF (dy b) := eF_mul (dy_Lm hb) (dy_Lm hb)
  have h1 : eF (smL 1) = 1 := by rw [eF_small, toF_one]
  have lu := lsub (dsq_Lm hb) (smL_Lm 1 (by omega))
  have ld := ladd (lmul (dsq_Lm hb) (lof dB_By)) (smL_Lm 1 (by omega))
  have hu : eF (subE (dsq b) (smL 1)) = eF (dy b) * eF (dy b) - 1 := by rw [eF_sub (dsq_Lm hb) (smL_Lm 1 (by omega)), hs, h1]
  have hd : eF (addE (mulE (dsq b) (carr (ofL dB))) (smL 1)) = eF (dy b) * eF (dy b) * dF + 1 := by rw [eF_add (lmul (dsq_Lm hb) (lof dB_By)) (smL_Lm 1 (by omega)), eF_mul (dsq_Lm hb) (lof dB_By), hs, h1, eF_d]
  have hi := eF_inv ld (by rw [hd]; exact den_ne _)
  have e : eF (dq b) = eF (subE (dsq b) (smL 1)) * eF (invE (addE (mulE (dsq b) (carr (ofL dB))) (smL 1))) := eF_mul lu (linv ld)
  rw [e, hu]
  rw [hd] at hi
  generalize eF (invE (addE (mulE (dsq b) (carr (ofL dB))) (smL 1))) = v at hi ⊢
  grind
theorem x0_F {b : Nat → Int} (hb : By b) : eF (dx0 b) = toF (rN iZ (V51 (dq b))) := by unfold eF; rw [toF_eq]; exact x0_val hb
theorem x0_sq {b : Nat → Int} (hb : By b) (h : drt b = true) : eF (dx0 b) * eF (dx0 b) = eF (dq b) := by
  rw [x0_F hb, ← toF_mul]
  unfold eF
  rw [toF_eq]
  exact rN_sq h
theorem dec_on {b : Nat → Int} (hb : By b) (h : drt b = true) : OnC dF (eF (dx0 b)) (eF (dy b)) := by
  have h1 := x0_sq hb h
  have h2 := dq_F hb
  unfold OnC
  rw [← h1] at h2
  generalize eF (dx0 b) = x at h2 ⊢
  generalize eF (dy b) = y at h2 ⊢
  grind
theorem dx_F {b : Nat → Int} (hb : By b) : eF (dx b) = if dodd b then - eF (dx0 b) else eF (dx0 b) := by
  unfold dx
  split
  · exact eF_neg (dx0_Lm hb)
  · rfl
theorem dx_on {b : Nat → Int} (hb : By b) (h : drt b = true) : OnC dF (eF (dx b)) (eF (dy b)) := by
  rw [dx_F hb]
  split
  · exact (dec_on hb h).neg
  · exact dec_on hb h
theorem decOk_parts {b : Nat → Int} (h : decOk b = true) : dsame b = true ∧ drt b = true ∧ (dodd b = true → dz b = false) := by
  unfold decOk at h
  revert h
  cases dsame b <;> cases drt b <;> cases dodd b <;> cases dz b <;> simp
theorem neg_mod {v p : Int} (hp : 0 < p) (h : v % p ≠ 0) : (0 - v) % p = p - v % p := by
  have e : 0 - v = (p - v % p) + p * (-(v / p) - 1) := by
    have := Int.mul_ediv_add_emod v p
    rw [Int.mul_sub, Int.mul_neg, Int.mul_one]
    omega
  have h0 := Int.emod_nonneg v (show p ≠ 0 by omega)
  have h1 := Int.emod_lt_of_pos v hp
  rw [e, Int.add_mul_emod_self_left]
  exact Int.emod_eq_of_lt (by omega) (by omega)
theorem PP_odd : PP % 2 = 1 := by decide
theorem PP_pos : 0 < PP := by decide
theorem neg_par (v : Int) (h0 : ¬ v % PP = 0) (he : ¬ v % PP % 2 = 1) : (0 - v) % PP % 2 = 1 := by
  rw [neg_mod PP_pos h0]
  have := PP_odd
  generalize v % PP = r at *
  generalize PP = p at *
  omega
theorem neg_par2 (v : Int) (h1 : 0 < v) (h2 : v < PP) (he : v % 2 = 1) : ¬ (0 - v) % PP % 2 = 1 := by
  have e : v % PP = v := Int.emod_eq_of_lt (Int.le_of_lt h1) h2
  rw [neg_mod PP_pos (by rw [e]; omega), e]
  have := PP_odd
  generalize PP = p at *
  omega
theorem neg_par3 (v : Int) (h1 : 0 < v) (h2 : v < PP) (he : ¬ v % 2 = 1) : (0 - v) % PP % 2 = 1 := by
  have e : v % PP = v := Int.emod_eq_of_lt (Int.le_of_lt h1) h2
  exact neg_par v (by rw [e]; omega) (by rw [e]; exact he)
theorem odd_cast {n : Nat} {x : Int} (h : (n : Int) = x) : (n % 2 = 1) ↔ x % 2 = 1 := by subst h; omega
/-- The parity of x. -/
theorem par {b : Nat → Int} (hb : By b) (h : decOk b = true) : ((eF (dx b)).val % 2 = 1) = (dodd b = true) := by
  obtain ⟨h1, h2, h3⟩ := decOk_parts h
  have he := rN_even iZ (V51 (dq b))
  rw [← x0_val hb] at he
  have he := of_decide_eq_false he
  have hx := dx_F hb
  cases hd : dodd b with
  | false =>
    rw [hd] at hx
    rw [show eF (dx b) = eF (dx0 b) from hx]
    have hv : ((eF (dx0 b)).val : Int) = V51 (dx0 b) % PP := toF_val _
    rw [odd_cast hv]
    exact propext ⟨fun c => absurd c he, fun c => absurd c (by decide)⟩
  | true =>
    rw [hd] at hx
    have hz := h3 hd
    unfold dz at hz
    have hz := of_decide_eq_false hz
    have e : eF (dx b) = toF (0 - V51 (dx0 b)) := by
      rw [toF_sub, toF_zero, zsub]
      exact hx
    rw [e]
    have hv : ((toF (0 - V51 (dx0 b))).val : Int) = (0 - V51 (dx0 b)) % PP := toF_val _
    have h0 : V51 (fun _ => 0) % PP = 0 := by decide
    rw [h0] at hz
    rw [odd_cast hv]
    exact propext ⟨fun _ => rfl, fun _ => neg_par _ hz he⟩
theorem dec_y {b : Nat → Int} (hb : By b) (h : decOk b = true) : ∀ j, j < 32 → dig 256 ((eF (dy b)).val : Int) j = lowB1 b j := by
  obtain ⟨h1, h2, h3⟩ := decOk_parts h
  unfold dsame at h1
  rw [sameRow_iff] at h1
  intro j hj
  rw [show ((eF (dy b)).val : Int) = V51 (dy b) % PP from toF_val _]
  exact h1 j hj
/-- The point of bytes. -/
def decPt (b : Nat → Int) (hb : By b) (h : decOk b = true) : Pt dF := ⟨(eF (dx b), eF (dy b)), dx_on hb (decOk_parts h).2.1⟩
theorem dec_prep {b : Nat → Int} (hb : By b) (h : decOk b = true) : PRep (decP b) (decPt b hb h) := by
  rw [decP_y h]
  have hl := pl_pt (dx_Lm hb) (dy_Lm hb) (smL_Lm 1 (by omega)) (lmul (dx_Lm hb) (dy_Lm hb))
  refine prep_pt hl ?_
  rw [eF_small, toF_one, eF_mul (dx_Lm hb) (dy_Lm hb)]
  refine ⟨fld.one, ?_, ?_, ?_⟩
  · show eF (dx b) = eF (dx b) * 1; grind
  · show eF (dy b) = eF (dy b) * 1; grind
  · show eF (dx b) * eF (dy b) = eF (dx b) * eF (dy b) * 1; grind
theorem dec_bytes {b : Nat → Int} (hb : By b) (h : decOk b = true) : ∀ j, j < 32 → ptB (decPt b hb h) j = b j := by
  intro j hj
  have hp := par hb h
  have hy := dec_y hb h
  have h31 := hb 31 (by omega)
  have hl : lowB1 b 31 = b 31 % 128 := by rw [low_eq hb]; rfl
  have hlj : j ≠ 31 → lowB1 b j = b j := fun e => if_neg e
  unfold ptB decPt
  show (if (eF (dx b)).val % 2 = 1 then upd (dig 256 ((eF (dy b)).val : Int)) 31 (dig 256 ((eF (dy b)).val : Int) 31 + 128) else dig 256 ((eF (dy b)).val : Int)) j = b j
  have hdd : (dodd b = true) ↔ b 31 / 128 = 1 := by unfold dodd; exact beq_iff_eq
  by_cases hd : dodd b = true
  · rw [if_pos (by rw [hp]; exact hd)]
    have := hdd.1 hd
    by_cases e : j = 31
    · subst e
      show (if 31 = 31 then _ else _) = _
      rw [if_pos rfl, hy 31 (by omega), hl]
      omega
    · show (if j = 31 then _ else _) = _
      rw [if_neg e, hy j hj, hlj e]
  · rw [if_neg (by rw [hp]; exact hd), hy j hj]
    by_cases e : j = 31
    · subst e
      have : ¬ b 31 / 128 = 1 := fun e => hd (hdd.2 e)
      rw [hl]; omega
    · exact hlj e
theorem ptB_By (P : Pt dF) : By (ptB P) := fun j hj => by
  have h := dig_By (P.1.2.val : Int)
  have ht := top_lt P.1.2
  unfold ptB
  split
  · show 0 ≤ (if j = 31 then _ else _) ∧ (if j = 31 then _ else _) < 256
    split
    · omega
    · exact h j hj
  · exact h j hj
theorem dig_inj {a b : Fin PN} (h : ∀ j, j < 32 → dig 256 (a.val : Int) j = dig 256 (b.val : Int) j) : a = b := by
  have hv : N32 (dig 256 (a.val : Int)) = N32 (dig 256 (b.val : Int)) := val_congr 256 _ _ 32 h
  have hb : ∀ a : Fin PN, N32 (dig 256 (a.val : Int)) = (a.val : Int) := fun a => N32_dig _ ⟨Int.natCast_nonneg _, by
    have := a.2
    generalize a.val = n at this ⊢
    unfold PN at this
    omega⟩
  rw [hb, hb] at hv
  exact Fin.ext (Int.ofNat.inj hv)
/-- The parity of the opposite. -/
theorem neg_odd {a : Fin PN} (h : a ≠ 0) : ((-a).val % 2 = 1) ↔ ¬ a.val % 2 = 1 := by
  have e : -a = toF (0 - (a.val : Int)) := by rw [toF_sub, toF_zero, toF_surj, zsub]
  have hv : ((-a).val : Int) = (0 - (a.val : Int)) % PP := by rw [e]; exact toF_val _
  have h1 : (0 : Int) < (a.val : Int) := by
    have : a.val ≠ 0 := fun c => h (Fin.ext c)
    generalize a.val = n at this ⊢
    omega
  have h2 : (a.val : Int) < PP := by
    have := a.2
    rw [← PN_PP]
    exact Int.ofNat_lt.2 this
  rw [odd_cast hv, odd_cast (n := a.val) rfl]
  constructor
  · intro c d; exact neg_par2 _ h1 h2 d c
  · intro c; exact neg_par3 _ h1 h2 c
theorem ptB_31 (P : Pt dF) : ptB P 31 = if P.1.1.val % 2 = 1 then dig 256 (P.1.2.val : Int) 31 + 128 else dig 256 (P.1.2.val : Int) 31 := by
  unfold ptB
  split
  · exact if_pos rfl
  · rfl
theorem ptB_lo (P : Pt dF) {j : Nat} (h : j ≠ 31) : ptB P j = dig 256 (P.1.2.val : Int) j := by
  unfold ptB
  split
  · exact if_neg h
  · rfl
theorem sq_eq {P Q : Pt dF} (hy : P.1.2 = Q.1.2) : P.1.1 = Q.1.1 ∨ P.1.1 = -Q.1.1 := by
  have c1 := P.2
  have c2 := Q.2
  unfold OnC at c1 c2
  rw [hy] at c1
  have hsq : P.1.1 * P.1.1 = Q.1.1 * Q.1.1 := by
    refine fld.cancel (den_ne Q.1.2) ?_
    generalize P.1.1 = x at c1 ⊢
    generalize Q.1.1 = u at c2 ⊢
    generalize Q.1.2 = y at c1 c2 ⊢
    grind
  clear c1 c2
  generalize P.1.1 = x at hsq ⊢
  generalize Q.1.1 = u at hsq ⊢
  have h0 : (x - u) * (x + u) = 0 := by grind
  rcases fld.dom h0 with e | e
  · left; grind
  · right; grind
/-- A point's bytes are its own. -/
theorem ptB_inj {P Q : Pt dF} (h : ∀ j, j < 32 → ptB P j = ptB Q j) : P = Q := by
  have hP := top_lt P.1.2
  have hQ := top_lt Q.1.2
  have h31 := h 31 (by decide)
  rw [ptB_31, ptB_31] at h31
  have hx : (P.1.1.val % 2 = 1) ↔ (Q.1.1.val % 2 = 1) := by
    generalize dig 256 (P.1.2.val : Int) 31 = u at *
    generalize dig 256 (Q.1.2.val : Int) 31 = v at *
    by_cases a : P.1.1.val % 2 = 1 <;> by_cases b : Q.1.1.val % 2 = 1
    · exact ⟨fun _ => b, fun _ => a⟩
    · rw [if_pos a, if_neg b] at h31; clear h; omega
    · rw [if_neg a, if_pos b] at h31; clear h; omega
    · exact ⟨fun c => absurd c a, fun c => absurd c b⟩
  have hy : P.1.2 = Q.1.2 := dig_inj (fun j hj => by
    by_cases e : j = 31
    · subst e
      by_cases a : P.1.1.val % 2 = 1
      · rw [if_pos a, if_pos (hx.1 a)] at h31; exact (Int.add_left_inj 128).1 h31
      · rw [if_neg a, if_neg (fun c => a (hx.2 c))] at h31; exact h31
    · rw [← ptB_lo P e, ← ptB_lo Q e]; exact h j hj)
  refine Pt.ext ?_ hy
  rcases sq_eq hy with e | e
  · exact e
  · by_cases z : Q.1.1 = 0
    · rw [z] at e ⊢; rw [e]; exact (by decide : -(0 : Fin PN) = 0)
    · exfalso
      rw [e] at hx
      have := neg_odd z
      by_cases c : Q.1.1.val % 2 = 1
      · exact this.1 (hx.2 c) c
      · exact c (hx.1 (this.2 c))
/-- Bytes that are a point's are read as it. -/
theorem dec_of {b : Nat → Int} (hb : By b) {P : Pt dF} (h : ∀ j, j < 32 → b j = ptB P j) : ∃ ok : decOk b = true, decPt b hb ok = P := by
  have ht := top_lt P.1.2
  have h31 : b 31 = if P.1.1.val % 2 = 1 then dig 256 (P.1.2.val : Int) 31 + 128 else dig 256 (P.1.2.val : Int) 31 := by rw [h 31 (by decide), ptB_31]
  have hlow : ∀ j, j < 32 → lowR b j = dig 256 (P.1.2.val : Int) j := by
    intro j hj
    unfold lowR upd
    by_cases e : j = 31
    · subst e
      rw [if_pos rfl, h31]
      clear h h31
      generalize dig 256 (P.1.2.val : Int) 31 = u at *
      split <;> omega
    · rw [if_neg e, h j hj, ptB_lo P e]
  have hn : N32 (lowR b) = (P.1.2.val : Int) := by
    rw [show N32 (lowR b) = N32 (dig 256 (P.1.2.val : Int)) from val_congr 256 _ _ 32 hlow]
    exact N32_dig _ ⟨Int.natCast_nonneg _, by
      have := P.1.2.2
      generalize P.1.2.val = n at this ⊢
      unfold PN at this
      omega⟩
  have hy : V51 (dy b) % PP = (P.1.2.val : Int) := by
    rw [y_val hb, hn]
    exact Int.emod_eq_of_lt (Int.natCast_nonneg _) (by rw [← PN_PP]; exact Int.ofNat_lt.2 P.1.2.2)
  have hyF : eF (dy b) = P.1.2 := by
    have e : (((eF (dy b)).val : Int)) = V51 (dy b) % PP := toF_val _
    exact Fin.ext (Int.ofNat.inj (e.trans hy))
  have hs : dsame b = true := by
    unfold dsame
    rw [hy, low_eq hb, sameRow_iff]
    intro j hj
    exact (hlow j hj).symm
  have hq : eF (dq b) = P.1.1 * P.1.1 := by
    have hd := dq_F hb
    rw [hyF] at hd
    have c := P.2
    unfold OnC at c
    refine fld.cancel (den_ne P.1.2) (hd.trans ?_)
    generalize P.1.1 = x at c ⊢
    generalize P.1.2 = y at c ⊢
    grind
  have hr : drt b = true := by
    have e := hq
    rw [← toF_surj P.1.1, ← toF_mul] at e
    unfold eF at e
    rw [toF_eq] at e
    unfold drt
    rw [rOk_congr e]
    exact rOk_sq iZ iZ_sq _
  have hdd : (dodd b = true) ↔ b 31 / 128 = 1 := by unfold dodd; exact beq_iff_eq
  have ho : dodd b = true → P.1.1.val % 2 = 1 := by
    intro e
    have e := hdd.1 e
    rw [h31] at e
    by_cases c : P.1.1.val % 2 = 1
    · exact c
    · rw [if_neg c] at e
      clear h h31 hlow
      generalize dig 256 (P.1.2.val : Int) 31 = u at *
      omega
  have hz : dodd b = true → dz b = false := by
    intro e
    have e := ho e
    unfold dz
    refine decide_eq_false (fun c => ?_)
    have c0 : eF (dx0 b) = 0 := by
      have : eF (dx0 b) = eF (fun _ => 0) := by unfold eF; rw [toF_eq]; exact c
      rw [this, eF_zero]
    have hx := x0_sq hb hr
    rw [c0, hq] at hx
    have hx : P.1.1 * P.1.1 = 0 := by rw [← hx]; grind
    have : P.1.1 = 0 := by rcases fld.dom hx with c | c <;> exact c
    rw [this] at e
    exact absurd e (by decide)
  have ok : decOk b = true := by
    unfold decOk
    rw [hs, hr]
    cases hd : dodd b with
    | false => rfl
    | true => rw [hz hd]; rfl
  refine ⟨ok, ptB_inj (fun j hj => ?_)⟩
  rw [dec_bytes hb ok j hj, h j hj]
end Go.Proofs.YtaaipbhfikefaaaDoor.P
end

section
namespace Go.Proofs.YtaaipbhfikefaaaDoor.P
set_option linter.unusedVariables false
open Go.Proofs.YtaaipbhfikefaaaDoor.P.Fd
def bxN : Nat := 15112221349535400772501151409588531511454012693041857206046113283949847762202
def byN : Nat := 46316835694926478169428394003475163141307993866256225615783033603165251855960
theorem base_on : OnC dF (toF (bxN : Int)) (toF (byN : Int)) := by
  have e : ((byN : Int) * byN - (bxN : Int) * bxN) % PP = (1 + (dN : Int) * bxN * bxN * byN * byN) % PP := by decide +kernel
  have e := toF_eq.2 e
  rw [toF_sub, toF_mul, toF_mul, toF_add, toF_mul, toF_mul, toF_mul, toF_mul, toF_one] at e
  exact e
def basePt : Pt dF := ⟨(toF (bxN : Int), toF (byN : Int)), base_on⟩
theorem base_bytes : ∀ j, j < 32 → bBf 32 j = ptB basePt j := by
  have : ∀ k : Fin 32, bBf 32 k.val = ptB basePt k.val := by decide +kernel
  exact fun j hj => this ⟨j, hj⟩
theorem base_prep : PRep baseP basePt := by
  obtain ⟨ok, e⟩ := dec_of (bBf_By 32) base_bytes
  rw [← e]
  exact dec_prep (bBf_By 32) ok
theorem base_xy : basePt.1 = (toF (bxN : Int), toF (byN : Int)) := rfl
/-- A number named, evaluated once. -/
def frc {α : Type} (n : Nat) (k : Nat → α) : α := match n with | 0 => k 0 | m + 1 => k (m + 1)
theorem frc_eq {α : Type} (n : Nat) (k : Nat → α) : frc n k = k n := by cases n <;> rfl
def nsb (a b : Nat) : Nat := a + (PN - b % PN)
theorem toF_nsb (a b : Nat) : toF ((nsb a b : Nat) : Int) = toF (a : Int) - toF (b : Int) := by
  have h : b % PN < PN := Nat.mod_lt _ (by decide)
  have e : ((nsb a b : Nat) : Int) = (a : Int) + ((PN : Int) - ((b : Int) % PN)) := by unfold nsb; omega
  rw [e, PN_PP]
  have e2 : toF ((a : Int) + (PP - (b : Int) % PP)) = toF ((a : Int) - (b : Int)) := by
    rw [toF_eq]
    rw [show (a : Int) + (PP - (b : Int) % PP) = PP + ((a : Int) - (b : Int) % PP) by omega, Int.add_emod_left]
    rw [Int.sub_emod (a : Int) ((b : Int) % PP), Int.emod_emod_of_dvd _ (Int.dvd_refl _), ← Int.sub_emod]
  rw [e2, toF_sub]
theorem toF_nmod (a : Nat) : toF ((a % PN : Nat) : Int) = toF (a : Int) := by
  rw [toF_eq, Int.natCast_emod, PN_PP, Int.emod_emod_of_dvd _ (Int.dvd_refl _)]
theorem toF_nmul (a b : Nat) : toF ((a * b % PN : Nat) : Int) = toF (a : Int) * toF (b : Int) := by rw [toF_nmod, Int.natCast_mul, toF_mul]
theorem toF_nadd (a b : Nat) : toF ((a + b : Nat) : Int) = toF (a : Int) + toF (b : Int) := by rw [Int.natCast_add, toF_add]
/-- The sum in numbers. -/
def nad {α : Type} (x1 y1 z1 t1 x2 y2 z2 t2 : Nat) (k : Nat → Nat → Nat → Nat → α) : α :=
  frc (nsb y1 x1 * nsb y2 x2 % PN) fun A => frc ((y1 + x1) * (y2 + x2) % PN) fun B => frc (t1 * t2 % PN * dN % PN * 2 % PN) fun C => frc (z1 * z2 % PN * 2 % PN) fun E =>
  frc (nsb B A) fun F => frc (nsb E C) fun G => frc (E + C) fun H => frc (B + A) fun I =>
  frc (F * G % PN) fun X => frc (H * I % PN) fun Y => frc (G * H % PN) fun Z => frc (F * I % PN) fun T => k X Y Z T
def RepN (X Y Z T : Nat) (P : Pt dF) : Prop := Rep dF (toF (X : Int)) (toF (Y : Int)) (toF (Z : Int)) (toF (T : Int)) P
theorem nad_rep {α : Type} {x1 y1 z1 t1 x2 y2 z2 t2 : Nat} {P Q : Pt dF} (h1 : RepN x1 y1 z1 t1 P) (h2 : RepN x2 y2 z2 t2 Q) (k : Nat → Nat → Nat → Nat → α) :
    ∃ X Y Z T, nad x1 y1 z1 t1 x2 y2 z2 t2 k = k X Y Z T ∧ RepN X Y Z T (P.add fld Q) := by
  unfold nad
  simp only [frc_eq]
  refine ⟨_, _, _, _, rfl, ?_⟩
  unfold RepN
  simp only [toF_nmul, toF_nsb, toF_nadd]
  refine Rep.add fld h1 h2 _ _ _ _ _ _ _ _ rfl ?_ ?_ ?_ rfl rfl rfl rfl
  · rfl
  · show _ * toF (dN : Int) * toF ((2 : Nat) : Int) = _ * dF * 2
    rw [show ((2 : Nat) : Int) = 2 from rfl, two_is]; rfl
  · show _ * toF ((2 : Nat) : Int) = _ * 2
    rw [show ((2 : Nat) : Int) = 2 from rfl, two_is]
def ngo (n : Nat) (x1 y1 z1 t1 : Nat) : Nat → Nat → Nat → Nat → Nat → Nat × Nat × Nat × Nat
  | 0, x, y, z, t => (x, y, z, t)
  | f + 1, x, y, z, t => nad x y z t x y z t fun x y z t => bif (n / 2 ^ f % 2).beq 1 then nad x y z t x1 y1 z1 t1 fun x y z t => ngo n x1 y1 z1 t1 f x y z t else ngo n x1 y1 z1 t1 f x y z t
theorem ngo_rep {n x1 y1 z1 t1 : Nat} {P : Pt dF} (h1 : RepN x1 y1 z1 t1 P) : ∀ f x y z t m, RepN x y z t (P.mul fld m) →
    RepN (ngo n x1 y1 z1 t1 f x y z t).1 (ngo n x1 y1 z1 t1 f x y z t).2.1 (ngo n x1 y1 z1 t1 f x y z t).2.2.1 (ngo n x1 y1 z1 t1 f x y z t).2.2.2 (P.mul fld (m * 2 ^ f + n % 2 ^ f))
  | 0, x, y, z, t, m, h => by rw [Nat.pow_zero, Nat.mul_one, Nat.mod_one, Nat.add_zero]; exact h
  | f + 1, x, y, z, t, m, h => by
    unfold ngo
    obtain ⟨X, Y, Z, T, e, hr⟩ := nad_rep h h (fun x y z t => bif (n / 2 ^ f % 2).beq 1 then nad x y z t x1 y1 z1 t1 fun x y z t => ngo n x1 y1 z1 t1 f x y z t else ngo n x1 y1 z1 t1 f x y z t)
    rw [e]
    rw [← Pt.mul_add] at hr
    have hm : n % 2 ^ (f + 1) = n / 2 ^ f % 2 * 2 ^ f + n % 2 ^ f := by
      rw [Nat.pow_succ, Nat.mod_mul, Nat.mul_comm (2 ^ f) (n / 2 ^ f % 2), Nat.add_comm]
    cases hb : (n / 2 ^ f % 2).beq 1 with
    | true =>
      have hb1 : n / 2 ^ f % 2 = 1 := Nat.eq_of_beq_eq_true hb
      show RepN (nad X Y Z T x1 y1 z1 t1 fun x y z t => ngo n x1 y1 z1 t1 f x y z t).1 (nad X Y Z T x1 y1 z1 t1 fun x y z t => ngo n x1 y1 z1 t1 f x y z t).2.1 (nad X Y Z T x1 y1 z1 t1 fun x y z t => ngo n x1 y1 z1 t1 f x y z t).2.2.1 (nad X Y Z T x1 y1 z1 t1 fun x y z t => ngo n x1 y1 z1 t1 f x y z t).2.2.2 _
      obtain ⟨X', Y', Z', T', e', hr'⟩ := nad_rep hr h1 (fun x y z t => ngo n x1 y1 z1 t1 f x y z t)
      rw [e']
      have := ngo_rep (n := n) h1 f X' Y' Z' T' (m + m + 1) hr'
      rw [hm, hb1, show m * 2 ^ (f + 1) + (1 * 2 ^ f + n % 2 ^ f) = (m + m + 1) * 2 ^ f + n % 2 ^ f by rw [Nat.pow_succ, ← Nat.mul_assoc, Nat.add_mul, Nat.add_mul]; omega]
      exact this
    | false =>
      have hb0 : n / 2 ^ f % 2 = 0 := by
        have h1 : n / 2 ^ f % 2 ≠ 1 := fun e => by rw [e] at hb; exact absurd hb (by decide)
        omega
      have := ngo_rep (n := n) h1 f X Y Z T (m + m) hr
      rw [hm, hb0, show m * 2 ^ (f + 1) + (0 * 2 ^ f + n % 2 ^ f) = (m + m) * 2 ^ f + n % 2 ^ f by rw [Nat.pow_succ, ← Nat.mul_assoc, Nat.add_mul]; omega]
      exact this
def LN : Nat := 7237005577332262213973186563042994240857116359379907606001950938285454250989
theorem order_num : (ngo LN bxN byN 1 (bxN * byN % PN) 253 0 1 1 0).1 % PN = 0 ∧ (ngo LN bxN byN 1 (bxN * byN % PN) 253 0 1 1 0).2.1 % PN = (ngo LN bxN byN 1 (bxN * byN % PN) 253 0 1 1 0).2.2.1 % PN := by decide +kernel
theorem base_repN : RepN bxN byN 1 (bxN * byN % PN) basePt := by
  unfold RepN Rep
  rw [base_xy, toF_nmul, show ((1 : Nat) : Int) = 1 from rfl, toF_one]
  refine ⟨fld.one, ?_, ?_, ?_⟩
  · show toF (bxN : Int) = toF (bxN : Int) * 1; grind
  · show toF (byN : Int) = toF (byN : Int) * 1; grind
  · show toF (bxN : Int) * toF (byN : Int) = toF (bxN : Int) * toF (byN : Int) * 1; grind
theorem zero_repN : RepN 0 1 1 0 (Pt.zero dF) := by
  unfold RepN Rep
  rw [show ((1 : Nat) : Int) = 1 from rfl, show ((0 : Nat) : Int) = 0 from rfl, toF_one, toF_zero]
  exact ⟨fld.one, by show (0 : Fin PN) = 0 * 1; grind, by show (1 : Fin PN) = 1 * 1; grind, by show (0 : Fin PN) = 0 * 1 * 1; grind⟩
theorem base_order : basePt.mul fld LN = Pt.zero dF := by
  have h := ngo_rep (n := LN) base_repN 253 0 1 1 0 0 zero_repN
  rw [Nat.zero_mul, Nat.zero_add, show LN % 2 ^ 253 = LN by decide] at h
  obtain ⟨hX, hY⟩ := order_num
  obtain ⟨X, hXe⟩ : ∃ X, (ngo LN bxN byN 1 (bxN * byN % PN) 253 0 1 1 0).1 = X := ⟨_, rfl⟩
  obtain ⟨Y, hYe⟩ : ∃ Y, (ngo LN bxN byN 1 (bxN * byN % PN) 253 0 1 1 0).2.1 = Y := ⟨_, rfl⟩
  obtain ⟨Z, hZe⟩ : ∃ Z, (ngo LN bxN byN 1 (bxN * byN % PN) 253 0 1 1 0).2.2.1 = Z := ⟨_, rfl⟩
  obtain ⟨T, hTe⟩ : ∃ T, (ngo LN bxN byN 1 (bxN * byN % PN) 253 0 1 1 0).2.2.2 = T := ⟨_, rfl⟩
  rw [hXe, hYe, hZe, hTe] at h
  rw [hXe] at hX
  rw [hYe, hZe] at hY
  obtain ⟨z, x, y, t⟩ := h
  rw [← toF_nmod X, hX, show ((0 : Nat) : Int) = 0 from rfl, toF_zero] at x
  rw [← toF_nmod Y, hY, toF_nmod] at y
  refine Pt.ext ?_ ?_
  · show _ = (0 : Fin PN)
    rcases fld.dom x.symm with e | e
    · exact e
    · exact absurd e z
  · show _ = (1 : Fin PN)
    refine fld.cancel z ?_
    rw [← y]; grind
end Go.Proofs.YtaaipbhfikefaaaDoor.P
end

section
namespace Go.Proofs.YtaaipbhfikefaaaDoor.P
set_option linter.unusedVariables false
set_option linter.unusedSimpArgs false
open Go.RowKit Go.ChangeShapes Go.WideShapes Go.Proofs.YtaaipbhfikefaaaDoorW.PrintWords Go.Proofs.YtaaipbhfikefaaaDoorW.PrintLast Go.Proofs.YtaaipbhfikefaaaDoorW.PrintMore
open Go.Proofs.YtaaipbhfikefaaaDoor.P.Fd
theorem TabD.to {w w' : World} (h : TabD w) (hb : Below w.heap.size w w') : TabD w' := h.below hb h.lt
theorem add_as {F H S : Nat → Int} (h : addP F H = S) (w : World) (hT : TabD w) (hF : PL F) (hH : PL H) : Calls Tryd.prog 18 #[.agg (FR .u64 20 F), .agg (FR .u64 20 H)] w fun e w' => e = .returned (.agg (FR .u64 20 S)) ∧ Below w.heap.size w w' := by rw [← h]; exact add_pt F H w hT hF hH
theorem mul_as {F z S : Nat → Int} (h : mulP F z = S) (w : World) (hT : TabD w) (hF : PL F) (hz : By z) : Calls Tryd.prog 22 #[.agg (FR .u64 20 F), .agg (FR .u8 32 z)] w fun e w' => e = .returned (.agg (FR .u64 20 S)) ∧ Below w.heap.size w w' := by rw [← h]; exact mul_pt F z w hT hF hz
theorem zero_as {S : Nat → Int} (h : zeroP = S) (w : World) : Calls Tryd.prog 10 #[] w fun e w' => e = .returned (.agg (FR .u64 20 S)) ∧ Below w.heap.size w w' := by rw [← h]; exact zero_pt w
theorem base_as {S : Nat → Int} (h : baseP = S) (w : World) (hT : TabD w) : Calls Tryd.prog 24 #[] w fun e w' => e = .returned (.agg (FR .u64 20 S)) ∧ Below w.heap.size w w' := by rw [← h]; exact base_pt w hT
theorem bytes_as {F S : Nat → Int} (h : bytesP F = S) (w : World) (hF : PL F) : Calls Tryd.prog 11 #[.agg (FR .u64 20 F)] w fun e w' => e = .returned (.agg (FR .u8 32 S)) ∧ Below w.heap.size w w' := by rw [← h]; exact bytes_pt F w hF
theorem is_as {F H : Nat → Int} {r : Bool} (h : isP F H = r) (w : World) (hF : PL F) (hH : PL H) : Calls Tryd.prog 16 #[.agg (FR .u64 20 F), .agg (FR .u64 20 H)] w fun e w' => e = .returned (.bool r) ∧ Below w.heap.size w w' := by rw [← h]; exact is_pt F H w hF hH
/-- The points' words. -/
theorem is_same {F H : Nat → Int} {P Q : Pt dF} (hF : PRep F P) (hH : PRep H Q) (h : P = Q) : isP F H = true := (isP_iff hF hH).2 h
theorem zero_ptB : ∀ j, j < 32 → ptB (Pt.zero dF) j = smL 1 j := by
  intro j hj
  have e : ptB (Pt.zero dF) = dig 256 1 := by
    unfold ptB
    rw [if_neg (by decide)]
    rfl
  rw [e]
  have : ∀ k : Fin 32, dig 256 1 k.val = smL 1 k.val := by decide +kernel
  exact this ⟨j, hj⟩
theorem PRep.By {F : Nat → Int} {P : Pt dF} (h : PRep F P) : Go.Proofs.YtaaipbhfikefaaaDoor.P.Fd.By (bytesP F) := by rw [h.bytes]; exact ptB_By P
theorem zeroE_By : Fd.By (fun _ => 0) := fun j _ => ⟨Int.le_refl 0, (by decide : (0 : Int) < 256)⟩
theorem smE_By {n : Int} (h : 0 ≤ n ∧ n < 256) : Fd.By (smL n) := fun j _ => by unfold smL; split <;> omega
theorem N32_smL (a : Int) : N32 (smL a) = a := by simp [N32, val, smL]
theorem build0_run (w : World) : (Instr.build 22 #[]).run Tryd.prog w = .ok (.agg (FR .u8 32 fun _ => 0)) w := by kernel_rfl
theorem build1_run (a : Int) (w : World) : (Instr.build 22 #[(0, .int .u8 a)]).run Tryd.prog w = .ok (.agg (FR .u8 32 (smL a))) w := by kernel_rfl
theorem idx_run {f : Nat → Int} {k : Nat} {z : Int} (hk : k < 32) (h : f k = z) (w : World) : (Instr.index 22 (.agg (FR .u8 32 f)) (.int .i64 (k : Int))).run Tryd.prog w = .ok (.int .u8 z) w := by
  rw [← h]; exact run_index_FR Tryd.underlying22 Tryd.underlying5 Fd.info5s f k hk w
end Go.Proofs.YtaaipbhfikefaaaDoor.P
end

section
namespace Go.Proofs.YtaaipbhfikefaaaDoor.P
set_option linter.unusedVariables false
set_option linter.unusedSimpArgs false
open Go.RowKit Go.ChangeShapes Go.WideShapes Go.Proofs.YtaaipbhfikefaaaDoorW.PrintWords Go.Proofs.YtaaipbhfikefaaaDoorW.PrintLast Go.Proofs.YtaaipbhfikefaaaDoorW.PrintMore
open Go.Proofs.YtaaipbhfikefaaaDoor.P.Fd
theorem By_wf {f : Nat → Int} (h : ∀ i, i < 32 → (Lit.int .u8 (f i)).wf = true) : By f := fun j hj => u8b (h j hj)
theorem alive_calls (w : World) (hT : TabD w) : Calls Tryd.prog 17 #[] w fun e w' => e = .returned (.bool true) ∧ Below w.heap.size w w' := by
  refine enter_ 17 Tryd.func17 rfl rfl (fun a0 hS => ?_)
  have HS0 : Sl a0 17 [] := hS
  have HH0 : Held w w [] := Held.first w
  clear hS
  refine wp_seq ?_
  have hLo : LOk [(0, 0, .val (.bool false))] := ⟨show ([0] : List Nat).Nodup by decide, show ([0] : List Nat).Nodup by decide⟩
  refine plain_ (wE := w) (sz := 17) (n := 1) [0] [] [(0, 0, .val (.bool false))] [] rfl (by rfl) HH0 rfl rfl hLo rfl HS0 (trivial) ?_ ?_
  · show ∀ i ∈ [0], _
    refine steps_cons (st_run 0 _ rfl rfl hLo rfl rfl (fun _ _ _ _ => rfl) (fun b G w hb ho => exec_move (.inr rfl) (rfl))) ?_
    exact steps_nil
  clear hLo
  intro G a1 w1 hS hH
  have HS1 : Sl a1 17 [] := hS
  have HH1 : Held w w1 [] := hH
  clear hS hH HS0 HH0
  refine then_ ?_
  have hz0 : sameRow 32 (ptB (Pt.zero dF)) (smL 1) = true := (sameRow_iff _ _ _).2 zero_ptB
  have hb1 : ptB basePt 1 = 102 := (base_bytes 1 (by decide)).symm
  have hb0 : ptB basePt 0 = 88 := (base_bytes 0 (by decide)).symm
  obtain ⟨Z1, hZ1, rZ1⟩ : ∃ S, zeroP = S ∧ PRep S (Pt.zero dF) := ⟨_, rfl, PRep.zero⟩
  obtain ⟨B2, hB2, rB2⟩ : ∃ S, baseP = S ∧ PRep S (basePt) := ⟨_, rfl, base_prep⟩
  refine wp_seq ?_
  have hLo : LOk [(0, 1, .val (.agg (FR .u64 20 (Z1)))), (1, 2, .val (.agg (FR .u8 32 (ptB (Pt.zero dF))))), (2, 3, .val (.agg (FR .u8 32 (smL 1)))), (3, 4, .val (.bool true)), (4, 5, .val (.bool true)), (5, 6, .val (.agg (FR .u64 20 (B2)))), (6, 7, .val (.agg (FR .u8 32 (ptB (basePt))))), (7, 8, .val (.int .u8 102)), (8, 9, .val (.bool true)), (9, 10, .val (.bool true)), (10, 11, .val (.bool true)), (11, 12, .val (.agg (FR .u64 20 (B2)))), (12, 13, .val (.agg (FR .u8 32 (ptB (basePt))))), (13, 14, .val (.int .u8 88)), (14, 15, .val (.bool true)), (15, 16, .val (.bool true)), (16, 0, .val (.bool true))] := ⟨show ([0, 1, 2, 3, 4, 5, 6, 7, 8, 9, 10, 11, 12, 13, 14, 15, 16] : List Nat).Nodup by decide, show ([1, 2, 3, 4, 5, 6, 7, 8, 9, 10, 11, 12, 13, 14, 15, 16, 0] : List Nat).Nodup by decide⟩
  refine plain_ (wE := w) (sz := 17) (n := 17) [0, 1, 3, 7, 15, 31, 63, 127, 255, 511, 1023, 2047, 4095, 8191, 16383, 32767, 65535] [(0, .val (.bool true))] [(0, 1, .val (.agg (FR .u64 20 (Z1)))), (1, 2, .val (.agg (FR .u8 32 (ptB (Pt.zero dF))))), (2, 3, .val (.agg (FR .u8 32 (smL 1)))), (3, 4, .val (.bool true)), (4, 5, .val (.bool true)), (5, 6, .val (.agg (FR .u64 20 (B2)))), (6, 7, .val (.agg (FR .u8 32 (ptB (basePt))))), (7, 8, .val (.int .u8 102)), (8, 9, .val (.bool true)), (9, 10, .val (.bool true)), (10, 11, .val (.bool true)), (11, 12, .val (.agg (FR .u64 20 (B2)))), (12, 13, .val (.agg (FR .u8 32 (ptB (basePt))))), (13, 14, .val (.int .u8 88)), (14, 15, .val (.bool true)), (15, 16, .val (.bool true)), (16, 0, .val (.bool true))] [] rfl (by rfl) HH1 rfl rfl hLo rfl HS1 (slL 16 (d := 16) rfl (trivial)) ?_ ?_
  · show ∀ i ∈ [0, 1, 2, 3, 4, 5, 6, 7, 8, 9, 10, 11, 12, 13, 14, 15, 16], _
    refine steps_cons (st_call 0 _ #[] rfl rfl rfl (fun _ _ _ _ => rfl) hLo rfl rfl Tryd.func10 rfl rfl (fun b G hb ho => args0 ) (fun w hw => zero_as hZ1 w)) ?_
    refine steps_cons (st_call 1 _ #[.agg (FR .u64 20 (Z1))] rfl rfl rfl (fun _ _ _ _ => rfl) hLo rfl rfl Tryd.func11 rfl rfl (fun b G hb ho => args1 (ev_on hLo 0 rfl HS1.1 rfl (hb 0 (by rfl)))) (fun w hw => bytes_as rZ1.bytes w rZ1.1)) ?_
    refine steps_cons (st_run 2 _ rfl rfl hLo rfl rfl (fun _ _ _ _ => rfl) (fun b G w hb ho => exec_build rfl (parts1 (rfl)) (build1_run _ _))) ?_
    refine steps_cons (st_run 3 _ rfl rfl hLo rfl rfl (fun _ _ _ _ => rfl) (fun b G w hb ho => exec_bin rfl (ev_on hLo 1 rfl HS1.1 rfl (hb 1 (by rfl))) (ev_on hLo 2 rfl HS1.1 rfl (hb 2 (by rfl))) (eqB_run hz0 _ _ _))) ?_
    refine steps_cons (st_run 4 _ rfl rfl hLo rfl rfl (fun _ _ _ _ => rfl) (fun b G w hb ho => exec_move (.inl rfl) (ev_on hLo 3 rfl HS1.1 rfl (hb 3 (by rfl))))) ?_
    refine steps_cons (st_call 5 _ #[] rfl rfl rfl (fun b G hb ho => wanted_is rfl rfl rfl HS1.1 rfl (ev_on hLo 4 rfl HS1.1 rfl (hb 4 (by rfl))) rfl) hLo rfl rfl Tryd.func24 rfl rfl (fun b G hb ho => args0 ) (fun w hw => base_as hB2 w (hT.to hw))) ?_
    refine steps_cons (st_call 6 _ #[.agg (FR .u64 20 (B2))] rfl rfl rfl (fun b G hb ho => wanted_is rfl rfl rfl HS1.1 rfl (ev_on hLo 4 rfl HS1.1 rfl (hb 4 (by rfl))) rfl) hLo rfl rfl Tryd.func11 rfl rfl (fun b G hb ho => args1 (ev_on hLo 5 rfl HS1.1 rfl (hb 5 (by rfl)))) (fun w hw => bytes_as rB2.bytes w rB2.1)) ?_
    refine steps_cons (st_run 7 _ rfl rfl hLo rfl rfl (fun b G hb ho => wanted_is rfl rfl rfl HS1.1 rfl (ev_on hLo 4 rfl HS1.1 rfl (hb 4 (by rfl))) rfl) (fun b G w hb ho => exec_index rfl (ev_on hLo 6 rfl HS1.1 rfl (hb 6 (by rfl))) rfl (idx_run (k := 1) (by decide) (hb1) _))) ?_
    refine steps_cons (st_run 8 _ rfl rfl hLo rfl rfl (fun b G hb ho => wanted_is rfl rfl rfl HS1.1 rfl (ev_on hLo 4 rfl HS1.1 rfl (hb 4 (by rfl))) rfl) (fun b G w hb ho => exec_bin rfl (ev_on hLo 7 rfl HS1.1 rfl (hb 7 (by rfl))) (rfl) (eq_run (by decide) _ _ _))) ?_
    refine steps_cons (st_run 9 _ rfl rfl hLo rfl rfl (fun _ _ _ _ => rfl) (fun b G w hb ho => exec_pick rfl (ev_on hLo 4 rfl HS1.1 rfl (hb 4 (by rfl))) (ev_on hLo 8 rfl HS1.1 rfl (hb 8 (by rfl))))) ?_
    refine steps_cons (st_run 10 _ rfl rfl hLo rfl rfl (fun _ _ _ _ => rfl) (fun b G w hb ho => exec_move (.inl rfl) (ev_on hLo 9 rfl HS1.1 rfl (hb 9 (by rfl))))) ?_
    refine steps_cons (st_call 11 _ #[] rfl rfl rfl (fun b G hb ho => wanted_is rfl rfl rfl HS1.1 rfl (ev_on hLo 10 rfl HS1.1 rfl (hb 10 (by rfl))) rfl) hLo rfl rfl Tryd.func24 rfl rfl (fun b G hb ho => args0 ) (fun w hw => base_as hB2 w (hT.to hw))) ?_
    refine steps_cons (st_call 12 _ #[.agg (FR .u64 20 (B2))] rfl rfl rfl (fun b G hb ho => wanted_is rfl rfl rfl HS1.1 rfl (ev_on hLo 10 rfl HS1.1 rfl (hb 10 (by rfl))) rfl) hLo rfl rfl Tryd.func11 rfl rfl (fun b G hb ho => args1 (ev_on hLo 11 rfl HS1.1 rfl (hb 11 (by rfl)))) (fun w hw => bytes_as rB2.bytes w rB2.1)) ?_
    refine steps_cons (st_run 13 _ rfl rfl hLo rfl rfl (fun b G hb ho => wanted_is rfl rfl rfl HS1.1 rfl (ev_on hLo 10 rfl HS1.1 rfl (hb 10 (by rfl))) rfl) (fun b G w hb ho => exec_index rfl (ev_on hLo 12 rfl HS1.1 rfl (hb 12 (by rfl))) rfl (idx_run (k := 0) (by decide) (hb0) _))) ?_
    refine steps_cons (st_run 14 _ rfl rfl hLo rfl rfl (fun b G hb ho => wanted_is rfl rfl rfl HS1.1 rfl (ev_on hLo 10 rfl HS1.1 rfl (hb 10 (by rfl))) rfl) (fun b G w hb ho => exec_bin rfl (ev_on hLo 13 rfl HS1.1 rfl (hb 13 (by rfl))) (rfl) (eq_run (by decide) _ _ _))) ?_
    refine steps_cons (st_run 15 _ rfl rfl hLo rfl rfl (fun _ _ _ _ => rfl) (fun b G w hb ho => exec_pick rfl (ev_on hLo 10 rfl HS1.1 rfl (hb 10 (by rfl))) (ev_on hLo 14 rfl HS1.1 rfl (hb 14 (by rfl))))) ?_
    refine steps_cons (st_run 16 _ rfl rfl hLo rfl rfl (fun _ _ _ _ => rfl) (fun b G w hb ho => exec_move (.inr rfl) (ev_on hLo 15 rfl HS1.1 rfl (hb 15 (by rfl))))) ?_
    exact steps_nil
  clear hLo
  intro G a2 w2 hS hH
  have HS2 : Sl a2 17 [(0, .bool true)] := hS
  have HH2 : Held w w2 [] := hH
  clear hS hH HS1 HH1
  refine then_ ?_
  refine wp_ret ?_
  repeat refine then_ret ?_
  exact b_tmp rfl HS2.2.1 (HS2.get 0 rfl) ⟨rfl, HH2.1⟩
end Go.Proofs.YtaaipbhfikefaaaDoor.P
end

section
namespace Go.Proofs.YtaaipbhfikefaaaDoor.P
set_option linter.unusedVariables false
set_option linter.unusedSimpArgs false
open Go.RowKit Go.Proofs.YtaaipbhfikefaaaDoorW.PrintWords Go.Proofs.YtaaipbhfikefaaaDoorW.PrintLast Go.Proofs.YtaaipbhfikefaaaDoorW.PrintMore
attribute [local go_sem] setCell_drewN
theorem infoNum : (Tryd.prog.info? 76).map (·.size) = some 5 := by kernel_rfl
/-- Below, digit by digit, the highest of n first. -/
def lexN (f g : Nat → Int) : Nat → Bool
  | 0 => false
  | j + 1 => if f j = g j then lexN f g j else decide (f j < g j)
theorem lexN_val (B : Int) (hB : 0 < B) (f g : Nat → Int) : ∀ n, (∀ j, j < n → 0 ≤ f j ∧ f j < B) → (∀ j, j < n → 0 ≤ g j ∧ g j < B) → lexN f g n = decide (val B f n < val B g n)
  | 0, _, _ => by simp [lexN, val]
  | n + 1, hf, hg => by
    have ih := lexN_val B hB f g n (fun j hj => hf j (by omega)) (fun j hj => hg j (by omega))
    have b1 := val_b B hB f n (fun j hj => hf j (by omega))
    have b2 := val_b B hB g n (fun j hj => hg j (by omega))
    have hp := pow_pos' B hB n
    rw [lexN, val, val]
    by_cases he : f n = g n
    · rw [if_pos he, ih, he]
      congr 1
      apply propext
      omega
    · rw [if_neg he]
      congr 1
      apply propext
      constructor
      · intro hl
        have : (f n + 1) * B ^ n ≤ g n * B ^ n := Int.mul_le_mul_of_nonneg_right (by omega) (by omega)
        have e : (f n + 1) * B ^ n = f n * B ^ n + B ^ n := by rw [Int.add_mul, Int.one_mul]
        omega
      · intro hl
        rcases Int.lt_or_gt_of_ne he with hlt | hgt
        · exact hlt
        · exfalso
          have : (g n + 1) * B ^ n ≤ f n * B ^ n := Int.mul_le_mul_of_nonneg_right (by omega) (by omega)
          have e : (g n + 1) * B ^ n = g n * B ^ n + B ^ n := by rw [Int.add_mul, Int.one_mul]
          omega
def LessRel (f g : Nat → Int) (w : World) (v5 : Value) (wr : World) : Prop :=
  ∃ (i : Nat), i ≤ 5 ∧ v5 = .int .i64 ((i : Int) - 1) ∧ lexN f g i = lexN f g 5 ∧ Below w.heap.size w wr ∧ Row wr w.heap.size .u64 5 f 76 ∧ Row wr (w.heap.size + 1) .u64 5 g 76
theorem less_calls (f g : Nat → Int) (w : World) :
    Calls Tryd.prog 64 #[.agg (FR .u64 5 f), .agg (FR .u64 5 g)] w fun e w' => e = .returned (.bool (lexN f g 5)) ∧ Below w.heap.size w w' := by
  go_enter Tryd.func64, Tryd.ntmps64
  go_wp2_with fail
  have HB0 := Aside0.mk (bel_two w (.cells (FR .u64 5 f) 76) (.cells (FR .u64 5 g) 76))
  have HF0 := Aside0.mk ((Row.new w .u64 5 f 76).alloc (.cells (FR .u64 5 g) 76))
  have HG0 := Aside0.mk (Row.new (w.alloc (.cells (FR .u64 5 f) 76)) .u64 5 g 76)
  have hz : (w.alloc (.cells (FR .u64 5 f) 76)).heap.size = w.heap.size + 1 := by simp
  go_loopw [5, 4] (fun v5 v4 wr => v4 = .bool false ∧ LessRel f g w v5 wr) (fun v _ _ => ((intOf v) + 1).toNat)
  case atStart => exact ⟨rfl, 5, by omega, rfl, rfl, HB0.out, HF0.out, by rw [← hz]; exact HG0.out⟩
  case round =>
    obtain ⟨rfl, i, hi, rfl, he, hb, hr, hp⟩ := hrel
    have HB3 := Aside0.mk hb
    have HE := Aside0.mk he
    have HR3 := Aside0.mk hr
    have HP3 := Aside0.mk hp
    clear hz HB0 HF0 HG0
    rcases Nat.lt_or_ge 0 i with h15 | h15
    · obtain ⟨j, rfl⟩ : ∃ j, i = j + 1 := ⟨i - 1, by omega⟩
      have e1 : ((j + 1 : Nat) : Int) - 1 = (j : Int) := by omega
      rw [e1]
      have hge : ((j : Int) ≥ 0) = True := eq_true (by omega)
      have hlt : ((j : Int) < 5) = True := eq_true (by omega)
      have k0 := hr.cell j (by omega)
      have k1 := hp.cell j (by omega)
      clear hb hr hp he
      by_cases hq : f j = g j
      · have HQ := Aside0.mk hq
        have hd : (f j != g j) = false := by simp [hq]
        have hd2 : (f j = g j) = True := eq_true hq
        clear hq
        go_wp2_with fail
        go_region
        all_goals go_wp2_with fail
        refine ⟨⟨rfl, j, by omega, rfl, ?_, HB3.out.drew, HR3.out, HP3.out⟩, by simp only [intOf]; omega⟩
        rw [← HE.out]; show _ = if f j = g j then lexN f g j else _
        rw [if_pos HQ.out]
      · have HQ := Aside0.mk hq
        have hd : (f j != g j) = true := by simp [hq]
        have hd2 : (f j = g j) = False := eq_false hq
        clear hq
        go_wp2_with fail
        go_region
        all_goals go_wp2_with fail
        go_region
        all_goals go_wp2_with fail
        go_ret
        refine ⟨?_, HB3.out.drew.drew⟩
        rw [← HE.out]; show _ = Ending.returned (Value.bool (if f j = g j then lexN f g j else _))
        rw [if_neg HQ.out]; rfl
    · obtain rfl : i = 0 := by omega
      clear hb hr hp he
      go_wp2_with fail
      go_ret
      refine ⟨?_, HB3.out⟩
      rw [← HE.out]; rfl
end Go.Proofs.YtaaipbhfikefaaaDoor.P
end

section
namespace Go.Proofs.YtaaipbhfikefaaaDoor.P
set_option linter.unusedVariables false
set_option linter.unusedSimpArgs false
open Go.RowKit Go.Proofs.YtaaipbhfikefaaaDoorW.PrintWords Go.Proofs.YtaaipbhfikefaaaDoorW.PrintLast Go.Proofs.YtaaipbhfikefaaaDoorW.PrintMore
attribute [local go_sem] setCell_drewN
theorem mod32 (z : Int) : Go.bits .and .u64 (z % 18446744073709551616) 4294967295 = z % 18446744073709551616 % 4294967296 := by
  have h := and32 (z % 18446744073709551616).toNat (by omega)
  rw [Int.toNat_of_nonneg (by omega)] at h
  rw [h]; omega
theorem mul64_calls (x y : Nat) (hx : x < 18446744073709551616) (hy : y < 18446744073709551616) (w : World) :
    Calls Tryd.prog 65 #[.int .u64 (x : Int), .int .u64 (y : Int)] w fun e w' => e = .returned (.tuple #[.int .u64 ((x * y / 18446744073709551616 : Nat) : Int), .int .u64 ((x * y % 18446744073709551616 : Nat) : Int)]) ∧ w' = w := by
  obtain ⟨h1, h2, h3, h4⟩ := Lib.mul64_hi x y hx hy
  have a0 := and32 x hx
  have a1 := and32 y hy
  go_enter Tryd.func65, Tryd.ntmps65
  go_wp2_with fail
  go_ret2
  refine ⟨?_, rfl⟩
  show Ending.returned (Value.tuple #[_, _]) = _
  simp only [u64wm]
  have c1 : (x : Int) / 4294967296 * ((y : Int) / 4294967296) = ((x / 4294967296 * (y / 4294967296) : Nat) : Int) := by simp
  have c2 : (x : Int) / 4294967296 * ((y : Int) % 4294967296) = ((x / 4294967296 * (y % 4294967296) : Nat) : Int) := by simp
  have c3 : (x : Int) % 4294967296 * ((y : Int) / 4294967296) = ((x % 4294967296 * (y / 4294967296) : Nat) : Int) := by simp
  have c4 : (x : Int) % 4294967296 * ((y : Int) % 4294967296) = ((x % 4294967296 * (y % 4294967296) : Nat) : Int) := by simp
  have c5 : (x : Int) * (y : Int) = ((x * y : Nat) : Int) := by simp
  have hb : x * y / 18446744073709551616 < 18446744073709551616 := by
    rw [Nat.div_lt_iff_lt_mul (by omega)]
    exact Nat.mul_lt_mul_of_lt_of_lt hx hy
  rw [← h4] at hb
  rw [c1, c2, c3, c4, c5, ← h4]
  clear a0 a1 c1 c2 c3 c4 c5 h4
  generalize x / 4294967296 * (y / 4294967296) = A at *
  generalize x / 4294967296 * (y % 4294967296) = B at *
  generalize x % 4294967296 * (y / 4294967296) = C at *
  generalize x % 4294967296 * (y % 4294967296) = D at *
  rw [mod32]
  simp only [Array.getD_eq_getD_getElem?, List.getElem?_toArray, List.getElem?_cons_succ, List.getElem?_cons_zero, Option.getD_some, Ending.returned.injEq, Value.tuple.injEq, Array.mk.injEq, List.cons.injEq, Value.int.injEq, true_and, and_true]
  constructor
  · omega
  · omega
theorem add64_run (x y c : Int) (hx : 0 ≤ x) (hy : 0 ≤ y) (hc0 : 0 ≤ c) (hc : c ≤ 1) (w : World) :
    (callFunc 55 #[.int .u64 x, .int .u64 y, .int .u64 c]).run Tryd.prog w = .ok (.value (.tuple #[.int .u64 ((x + y + c) % 18446744073709551616), .int .u64 ((x + y + c) / 18446744073709551616)])) w := by
  rw [run_callFunc_extern Tryd.func55 (by kernel_rfl) (by kernel_rfl) (by kernel_rfl) (e := add64Entry) (by kernel_rfl), run_add64 x y c hx hy hc0 hc]
  rfl
theorem sub64_run (x y b : Int) (hx : 0 ≤ x ∧ x < 18446744073709551616) (hy : 0 ≤ y ∧ y < 18446744073709551616) (hb0 : 0 ≤ b) (hb : b ≤ 1) (w : World) :
    (callFunc 68 #[.int .u64 x, .int .u64 y, .int .u64 b]).run Tryd.prog w = .ok (.value (.tuple #[.int .u64 ((x - y - b) % 18446744073709551616), .int .u64 (-((x - y - b) / 18446744073709551616))])) w := by
  obtain ⟨X, rfl⟩ := Int.eq_ofNat_of_zero_le hx.1
  obtain ⟨Y, rfl⟩ := Int.eq_ofNat_of_zero_le hy.1
  obtain ⟨B, rfl⟩ := Int.eq_ofNat_of_zero_le hb0
  have e1 : (((X + 18446744073709551616 - Y - B) % 18446744073709551616 : Nat) : Int) = ((X : Int) - Y - B) % 18446744073709551616 := by omega
  have e2 : ((if X < Y + B then 1 else 0 : Nat) : Int) = -(((X : Int) - Y - B) / 18446744073709551616) := by split <;> omega
  rw [run_callFunc_extern Tryd.func68 (by kernel_rfl) (by kernel_rfl) (by kernel_rfl) (e := sub64Entry) (by kernel_rfl), run_sub64 X Y B (by omega), e1, e2]
  rfl
/-- minus: what is carried, what is borrowed, the digits. -/
def mnC (g : Nat → Int) (k : Int) : Nat → Int
  | 0 => 0
  | i + 1 => (g i * k + mnC g k i) / 18446744073709551616
def mnB (f g : Nat → Int) (k : Int) : Nat → Int
  | 0 => 0
  | i + 1 => -((f i - (g i * k + mnC g k i) % 18446744073709551616 - mnB f g k i) / 18446744073709551616)
def mnD (f g : Nat → Int) (k : Int) (i : Nat) : Int := (f i - (g i * k + mnC g k i) % 18446744073709551616 - mnB f g k i) % 18446744073709551616
/-- n digits of 64 bits. -/
def U64 (f : Nat → Int) (n : Nat) : Prop := ∀ j, j < n → 0 ≤ f j ∧ f j < 18446744073709551616
theorem mul_b (x y : Int) (hx : 0 ≤ x ∧ x < 18446744073709551616) (hy : 0 ≤ y ∧ y < 18446744073709551616) : 0 ≤ x * y ∧ x * y ≤ 18446744073709551615 * 18446744073709551615 :=
  ⟨Int.mul_nonneg hx.1 hy.1, Int.le_trans (Int.mul_le_mul_of_nonneg_right (show x ≤ 18446744073709551615 by omega) hy.1) (Int.mul_le_mul_of_nonneg_left (show y ≤ 18446744073709551615 by omega) (by omega))⟩
theorem mnC_b (g : Nat → Int) (k : Int) (n : Nat) (hg : U64 g n) (hk : 0 ≤ k ∧ k < 18446744073709551616) : ∀ i, i ≤ n → 0 ≤ mnC g k i ∧ mnC g k i < 18446744073709551616
  | 0, _ => by simp [mnC]
  | i + 1, h => by
    have h1 := mnC_b g k n hg hk i (by omega)
    have h2 := mul_b (g i) k (hg i (by omega)) hk
    rw [mnC]
    generalize g i * k = p at *
    omega
theorem mnB_b (f g : Nat → Int) (k : Int) (n : Nat) (hf : U64 f n) : ∀ i, i ≤ n → 0 ≤ mnB f g k i ∧ mnB f g k i ≤ 1
  | 0, _ => by simp [mnB]
  | i + 1, h => by
    have h1 := mnB_b f g k n hf i (by omega)
    have h2 := hf i (by omega)
    rw [mnB]
    generalize (g i * k + mnC g k i) = p at *
    omega
theorem mnD_b (f g : Nat → Int) (k : Int) (i : Nat) : 0 ≤ mnD f g k i ∧ mnD f g k i < 18446744073709551616 := by unfold mnD; omega
theorem mnD_val (f g : Nat → Int) (k : Int) : ∀ n, val 18446744073709551616 (mnD f g k) n = val 18446744073709551616 f n - k * val 18446744073709551616 g n + (mnB f g k n + mnC g k n) * 18446744073709551616 ^ n
  | 0 => by simp [val, mnB, mnC]
  | n + 1 => by
    have ih := mnD_val f g k n
    have e1 : mnD f g k n = f n - (g n * k + mnC g k n - mnC g k (n + 1) * 18446744073709551616) - mnB f g k n + mnB f g k (n + 1) * 18446744073709551616 := by
      rw [mnB, mnC, mnD]
      generalize g n * k + mnC g k n = p
      omega
    simp only [val, ih, e1, Int.pow_succ]
    generalize (18446744073709551616 : Int) ^ n = q
    generalize val 18446744073709551616 f n = F
    generalize val 18446744073709551616 g n = G
    generalize mnB f g k n = b
    generalize mnC g k n = c
    generalize mnB f g k (n + 1) = b'
    generalize mnC g k (n + 1) = c'
    grind
/-- Where the difference isn't below nought, these are its digits. -/
theorem mnD_exact (f g : Nat → Int) (k : Int) (n : Nat) (hf : U64 f n) (hg : U64 g n) (hk : 0 ≤ k ∧ k < 18446744073709551616) (h : k * val 18446744073709551616 g n ≤ val 18446744073709551616 f n) :
    val 18446744073709551616 (mnD f g k) n = val 18446744073709551616 f n - k * val 18446744073709551616 g n := by
  have h1 := mnD_val f g k n
  have h2 := val_b 18446744073709551616 (by omega) (mnD f g k) n (fun j _ => mnD_b f g k j)
  have h3 := mnC_b g k n hg hk n (Nat.le_refl _)
  have h4 := mnB_b f g k n hf n (Nat.le_refl _)
  have h5 : mnB f g k n + mnC g k n = 0 ∨ 1 ≤ mnB f g k n + mnC g k n := by omega
  rcases h5 with h5 | h5
  · rw [h1, h5]; omega
  · exfalso
    have h6 := Int.mul_le_mul_of_nonneg_right h5 (Int.le_of_lt (pow_pos' 18446744073709551616 (by omega) n))
    omega
def MinusRel (f g : Nat → Int) (k : Int) (w : World) (v13 v7 v8 : Value) (wr : World) : Prop :=
  ∃ (i : Nat), i ≤ 5 ∧ v13 = .int .i64 (i : Int) ∧ v7 = .int .u64 (mnB f g k i) ∧ v8 = .int .u64 (mnC g k i) ∧ Below w.heap.size w wr ∧ Row wr w.heap.size .u64 5 (fun j => if j < i then mnD f g k j else f j) 76 ∧ Row wr (w.heap.size + 1) .u64 5 g 76 ∧ Row wr (w.heap.size + 1 + 1) .u64 5 (fun _ => 0) 76
theorem minus_calls (f g : Nat → Int) (k : Int) (w : World) (hf : U64 f 5) (hg : U64 g 5) (hk : 0 ≤ k ∧ k < 18446744073709551616) :
    Calls Tryd.prog 63 #[.agg (FR .u64 5 f), .agg (FR .u64 5 g), .int .u64 k] w fun e w' => e = .returned (.agg (FR .u64 5 (mnD f g k))) ∧ Below w.heap.size w w' := by
  have HF := Aside0.mk hf
  have HG := Aside0.mk hg
  have HK := Aside0.mk hk
  clear hf hg hk
  go_enter Tryd.func63, Tryd.ntmps63
  go_wp2_with fail
  have HB0 := Aside0.mk (bel_three w (.cells (FR .u64 5 f) 76) (.cells (FR .u64 5 g) 76) (.cells (FR .u64 5 fun _ => 0) 76))
  have HF0 := Aside0.mk (((Row.new w .u64 5 f 76).alloc (.cells (FR .u64 5 g) 76)).alloc (.cells (FR .u64 5 fun _ => 0) 76))
  have HG0 := Aside0.mk ((Row.new (w.alloc (.cells (FR .u64 5 f) 76)) .u64 5 g 76).alloc (.cells (FR .u64 5 fun _ => 0) 76))
  have HZ0 := Aside0.mk (Row.new ((w.alloc (.cells (FR .u64 5 f) 76)).alloc (.cells (FR .u64 5 g) 76)) .u64 5 (fun _ => 0) 76)
  have hz : (w.alloc (.cells (FR .u64 5 f) 76)).heap.size = w.heap.size + 1 := by simp
  have hz2 : ((w.alloc (.cells (FR .u64 5 f) 76)).alloc (.cells (FR .u64 5 g) 76)).heap.size = w.heap.size + 1 + 1 := by simp
  rw [hz] at HG0
  rw [hz2] at HZ0
  clear hz hz2
  go_loopw [13, 7, 8] (fun v13 v7 v8 wr => MinusRel f g k w v13 v7 v8 wr) (fun v _ _ _ => 5 - (intOf v).toNat)
  case atStart => exact ⟨0, by omega, rfl, rfl, rfl, HB0.out, HF0.out, HG0.out, HZ0.out⟩
  case round =>
    obtain ⟨i, hi, rfl, rfl, rfl, hb, hr, hp, hq⟩ := hrel
    clear HB0 HF0 HG0 HZ0
    have HB := Aside0.mk hb
    have HR := Aside0.mk hr
    have HP := Aside0.mk hp
    have HQ := Aside0.mk hq
    have hsz := hq.lt
    rcases Nat.lt_or_ge i 5 with h5 | h5
    · have hfi := HF.out i h5
      have hgi := HG.out i h5
      have hc := mnC_b g k 5 HG.out HK.out i hi
      have hbb := mnB_b f g k 5 HF.out i hi
      have k0 := hr.cell i h5
      rw [if_neg (Nat.lt_irrefl i)] at k0
      have k1 := hp.cell i h5
      have f0 := hr.fro i
      have hlt : ((i : Int) < 5) = True := eq_true (by omega)
      have hkk := HK.out
      have HS := Aside0.mk (hr.set i (mnD f g k i) h5)
      have HC1 := Aside0.mk (show mnC g k (i + 1) = (g i * k + mnC g k i) / 18446744073709551616 from rfl)
      have HB1 := Aside0.mk (show mnB f g k (i + 1) = -((f i - (g i * k + mnC g k i) % 18446744073709551616 - mnB f g k i) / 18446744073709551616) from rfl)
      have HD1 := Aside0.mk (show mnD f g k i = (f i - (g i * k + mnC g k i) % 18446744073709551616 - mnB f g k i) % 18446744073709551616 from rfl)
      generalize mnC g k i = c at *
      generalize mnB f g k i = bo at *
      obtain ⟨G, hG⟩ := Int.eq_ofNat_of_zero_le hgi.1
      obtain ⟨K, hK⟩ := Int.eq_ofNat_of_zero_le hkk.1
      have HM := Aside0.mk (fun w => mul64_calls G K (by omega) (by omega) w)
      rw [← hG, ← hK] at HM
      have hpb := mul_b (g i) k hgi hkk
      have hN : ((G * K : Nat) : Int) = g i * k := by rw [hG, hK]; simp
      obtain ⟨pp, hpp⟩ : ∃ p, G * K = p := ⟨_, rfl⟩
      rw [hpp] at HM hN
      rw [← hN] at hpb
      have HN := Aside0.mk hN
      have e1 := add64_run ((pp : Int) % 18446744073709551616) c 0 (by omega) hc.1 (by omega) (by omega)
      have e2 := sub64_run (f i) (((pp : Int) + c) % 18446744073709551616) bo hfi (by omega) hbb.1 hbb.2
      have e3 : (((pp : Int) % 18446744073709551616) + c + 0) % 18446744073709551616 = ((pp : Int) + c) % 18446744073709551616 := by omega
      have e4 : (((pp : Int) / 18446744073709551616) + (((pp : Int) % 18446744073709551616) + c) / 18446744073709551616) = ((pp : Int) + c) / 18446744073709551616 := by omega
      have e5 : IntKind.u64.wrap (((pp : Int) / 18446744073709551616) + (((pp : Int) % 18446744073709551616) + c) / 18446744073709551616) = ((pp : Int) + c) / 18446744073709551616 := by rw [e4]; exact u64w _ (by omega) (by omega)
      rw [e3] at e1
      clear hb hr hp hq hfi hgi hc hbb hkk hG hK hpb hN hpp e3 e4 HF HG HK
      go_wp2_with fail
      refine (HM.out _).mono ?_
      rintro e w1 ⟨rfl, rfl⟩
      go_wp2_with fail
      refine ⟨⟨i + 1, by omega, rfl, ?_, ?_, bel_set HB.out _ _ (Nat.le_refl _), ?_, ?_, ?_⟩, meas_up 5 i h5⟩
      · rw [HB1.out, ← HN.out]
      · rw [HC1.out, ← HN.out]
      · rw [← HN.out] at HD1
        rw [← HD1.out]
        exact row_eq HS.out (fun j hj => by
          unfold upd
          by_cases hji : j = i
          · subst hji; rw [if_pos rfl, if_pos (by omega)]
          · rw [if_neg hji]
            show (if j < i then mnD f g k j else f j) = _
            by_cases hjl : j < i
            · rw [if_pos hjl, if_pos (by omega)]
            · rw [if_neg hjl, if_neg (by omega)])
      · exact HP.out.other _ _ (show w.heap.size + 1 ≠ w.heap.size by omega)
      · exact HQ.out.other _ _ (show w.heap.size + 1 + 1 ≠ w.heap.size by omega)
    · obtain rfl : i = 5 := by omega
      have HM := Aside0.mk (row_eq hr (fun j hj => if_pos hj))
      clear hb hr hp hq
      go_wp2_with (first | refine step_load HM.out Tryd.underlying76 infoNum rfl rfl rfl rfl ?_ | refine step_store (mnD f g k) HQ.out infoNum rfl rfl rfl rfl rfl ?_)
      refine bodyPost_ret (row_results rfl (HQ.out.all) rfl Tryd.underlying76 rfl infoNum) rfl ?_
      exact ⟨rfl, bel_setCells (by omega) _ _ _ HB.out⟩
end Go.Proofs.YtaaipbhfikefaaaDoor.P
end

section
namespace Go.Proofs.YtaaipbhfikefaaaDoor.P
set_option linter.unusedVariables false
set_option linter.unusedSimpArgs false
open Go.RowKit Go.Proofs.YtaaipbhfikefaaaDoorW.PrintWords Go.Proofs.YtaaipbhfikefaaaDoorW.PrintLast Go.Proofs.YtaaipbhfikefaaaDoorW.PrintMore
attribute [local go_sem] setCell_drewN
/-- The group's order. -/
def LL : Int := 7237005577332262213973186563042994240857116359379907606001950938285454250989
def ordL (i : Nat) : Int := if i = 0 then 6346243789798364141 else if i = 1 then 1503914060200516822 else if i = 3 then 1152921504606846976 else 0
def V5 (f : Nat → Int) : Int := val 18446744073709551616 f 5
theorem V5_ord : V5 ordL = LL := by decide
theorem ord_U : U64 ordL 5 := fun j hj => by
  unfold ordL
  split
  · omega
  · split
    · omega
    · split <;> omega
/-- The table of the order lies there. -/
def Ord (w : World) : Prop := ∀ j, j < 5 → w.cell? ((⟨1, 0, none⟩ : Addr).add j) = some (.int .u64 (ordL j))
theorem Ord.lt {w : World} (h : Ord w) : 1 < w.heap.size := block_lt_of_cell (h 0 (by omega))
theorem Ord.below {w w' : World} {B : Nat} (h : Ord w) (hb : Below B w w') (hB : 1 < B) : Ord w' := fun j hj => by
  rw [hb.cell (p := (⟨1, 0, none⟩ : Addr).add j) (by unfold Addr.add; split <;> exact hB)]; exact h j hj
theorem infoTab : (Tryd.prog.info? 24).map (·.size) = some 5 := by kernel_rfl
/-- A number in a block. -/
def rowNatB (B : Int) (n : Nat) (w : World) (g : Nat) : Nat := match w.heap[g]? with
  | some (.cells cs _ _) => (val B (fun i => match cs[i]? with | some v => intOf v | none => 0) n).toNat
  | _ => 0
theorem rowNatB_of (B : Int) {w : World} {g n : Nat} {k : IntKind} {f : Nat → Int} {t : TypeId} (h : Row w g k n f t) : rowNatB B n w g = (val B f n).toNat := by
  unfold rowNatB
  rw [h]
  have e : val B (fun i => match (FR k n f)[i]? with | some v => intOf v | none => 0) n = val B f n := val_congr B _ _ n (fun i hi => by show (match (FR k n f)[i]? with | some v => intOf v | none => 0) = _; rw [FR_at _ _ _ _ hi]; rfl)
  show (val B (fun i => match (FR k n f)[i]? with | some v => intOf v | none => 0) n).toNat = _
  rw [e]
/-- The digits, one byte on. -/
def shF (f : Nat → Int) (c : Int) (j : Nat) : Int := if j = 0 then f 0 % 72057594037927936 * 256 + c else f j % 72057594037927936 * 256 + f (j - 1) / 72057594037927936
theorem shF_b (f : Nat → Int) (c : Int) (n : Nat) (hf : U64 f n) (hc : 0 ≤ c ∧ c < 256) : U64 (shF f c) n := fun j hj => by
  unfold shF
  split
  · omega
  · have := hf (j - 1) (by omega); omega
theorem shF_val (f : Nat → Int) (c : Int) : ∀ n, val 18446744073709551616 (shF f c) (n + 1) = 256 * val 18446744073709551616 f (n + 1) + c - f n / 72057594037927936 * 18446744073709551616 ^ (n + 1)
  | 0 => by simp [val, shF]; omega
  | n + 1 => by
    have ih := shF_val f c n
    rw [val, ih]
    show _ + shF f c (n + 1) * _ = 256 * (val _ f (n + 1) + f (n + 1) * _) + c - _
    have e : shF f c (n + 1) = f (n + 1) * 256 - f (n + 1) / 72057594037927936 * 18446744073709551616 + f n / 72057594037927936 := by
      unfold shF
      rw [if_neg (by omega), Nat.add_sub_cancel]
      omega
    rw [e, Int.pow_succ _ (n + 1)]
    generalize (18446744073709551616 : Int) ^ (n + 1) = q
    generalize f (n + 1) / 72057594037927936 = x
    generalize f n / 72057594037927936 = y
    generalize f (n + 1) = z
    generalize val 18446744073709551616 f (n + 1) = F
    grind
theorem V5_five (f : Nat → Int) : V5 f = f 0 + f 1 * 18446744073709551616 + f 2 * 340282366920938463463374607431768211456 + f 3 * 6277101735386680763835789423207666416102355444464034512896 + f 4 * 115792089237316195423570985008687907853269984665640564039457584007913129639936 := by
  simp [V5, val]
theorem V5_small (f : Nat → Int) (hf : U64 f 5) (hl : V5 f < LL) : f 4 = 0 ∧ f 3 ≤ 1152921504606846976 := by
  have h0 := hf 0 (by omega)
  have h1 := hf 1 (by omega)
  have h2 := hf 2 (by omega)
  have h3 := hf 3 (by omega)
  have h4 := hf 4 (by omega)
  rw [V5_five] at hl
  unfold LL at hl
  omega
theorem shF_V5 (f : Nat → Int) (c : Int) (hf : U64 f 5) (hl : V5 f < LL) : V5 (shF f c) = 256 * V5 f + c := by
  have h : val 18446744073709551616 (shF f c) 5 = 256 * val 18446744073709551616 f 5 + c - f 4 / 72057594037927936 * 18446744073709551616 ^ 5 := shF_val f c 4
  have h4 := (V5_small f hf hl).1
  unfold V5
  rw [h, h4]
  omega
/-- How often the order is taken away at once. -/
def kF (h : Nat → Int) : Int := h 3 / 1152921504606846976 + h 4 * 16
theorem kF_b (f : Nat → Int) (c : Int) (hf : U64 f 5) (hl : V5 f < LL) : 0 ≤ shF f c 4 ∧ shF f c 4 ≤ 16 ∧ 0 ≤ kF (shF f c) ∧ kF (shF f c) ≤ 300 := by
  have h := V5_small f hf hl
  have h3 := hf 3 (by omega)
  have h2 := hf 2 (by omega)
  have e4 : shF f c 4 = f 4 % 72057594037927936 * 256 + f 3 / 72057594037927936 := rfl
  have e3 : shF f c 3 = f 3 % 72057594037927936 * 256 + f 2 / 72057594037927936 := rfl
  unfold kF
  rw [e4, e3]
  omega
theorem kF_fits (h : Nat → Int) (hh : U64 h 5) (k1 : kF h ≤ 300) (k0 : 0 < kF h) : (kF h - 1) * V5 ordL ≤ V5 h := by
  have h0 := hh 0 (by omega)
  have h1 := hh 1 (by omega)
  have h2 := hh 2 (by omega)
  have h3 := hh 3 (by omega)
  have h4 := hh 4 (by omega)
  rw [V5_ord, V5_five]
  unfold kF at *
  unfold LL
  omega
theorem or16 (x y : Int) (h0 : 0 ≤ x ∧ x < 16) (h1 : 0 ≤ y) (h2 : y ≤ 16) : Go.bits .or .u64 x (y * 16) = x + y * 16 := by
  rw [u64_or _ _ (by omega) (by omega) (by omega) (by omega)]
  have e : x.toNat ||| (y * 16).toNat = y.toNat * 2 ^ 4 + x.toNat := by
    have : (y * 16).toNat = y.toNat * 2 ^ 4 := by omega
    rw [this, Nat.or_comm, Nat.mul_comm, ← Nat.two_pow_add_eq_or_of_lt (by omega)]
  rw [e]
  omega
theorem or256 (x y : Int) (h0 : 0 ≤ x ∧ x < 72057594037927936) (h1 : 0 ≤ y) (h2 : y < 256) : Go.bits .or .u64 (x * 256) y = x * 256 + y := by
  rw [u64_or _ _ (by omega) (by omega) (by omega) (by omega)]
  have e : (x * 256).toNat ||| y.toNat = x.toNat * 2 ^ 8 + y.toNat := by
    have : (x * 256).toNat = x.toNat * 2 ^ 8 := by omega
    rw [this, Nat.mul_comm, ← Nat.two_pow_add_eq_or_of_lt (by omega)]
  rw [e]
  omega
theorem wrap256 (x : Int) : IntKind.u64.wrap (x * 256) = x % 72057594037927936 * 256 := by
  show (x * 256) % 18446744073709551616 = _
  omega
def FedRel (f : Nat → Int) (w : World) (v5 : Value) (wr : World) : Prop :=
  ∃ (i : Nat), i ≤ 4 ∧ v5 = .int .i64 (i : Int) ∧ Below w.heap.size w wr ∧ Row wr w.heap.size .u64 5 (fun j => if i < j then shF f 0 j else f j) 76 ∧ Row wr (w.heap.size + 1) .u64 5 (fun _ => 0) 76
def FedRel2 (N : Int) (w : World) (wr : World) : Prop :=
  ∃ h, U64 h 5 ∧ V5 h % LL = N % LL ∧ Below w.heap.size w wr ∧ Row wr w.heap.size .u64 5 h 76 ∧ Row wr (w.heap.size + 1) .u64 5 (fun _ => 0) 76
theorem fed_calls (f : Nat → Int) (c : Int) (w : World) (ho : Ord w) (hf : U64 f 5) (hl : V5 f < LL) (hc : 0 ≤ c ∧ c < 256) :
    Calls Tryd.prog 51 #[.agg (FR .u64 5 f), .int .u8 c] w fun e w' => e = .returned (.agg (FR .u64 5 (dig 18446744073709551616 ((256 * V5 f + c) % LL)))) ∧ Below w.heap.size w w' := by
  have HO := Aside0.mk ho
  have HF := Aside0.mk hf
  have HL := Aside0.mk hl
  have HC := Aside0.mk hc
  clear ho hf hl hc
  go_enter Tryd.func51, Tryd.ntmps51
  go_wp2_with fail
  have HB0 := Aside0.mk (bel_two w (.cells (FR .u64 5 f) 76) (.cells (FR .u64 5 fun _ => 0) 76))
  have HF0 := Aside0.mk ((Row.new w .u64 5 f 76).alloc (.cells (FR .u64 5 fun _ => 0) 76))
  have HZ0 := Aside0.mk (show Row _ _ .u64 5 (fun _ => 0) 76 from heap_alloc2_new w (.cells (FR .u64 5 f) 76) (.cells (FR .u64 5 fun _ => 0) 76))
  go_loopw [5] (fun v5 wr => FedRel f w v5 wr) (fun v _ => (intOf v).toNat)
  case atStart => exact ⟨4, by omega, rfl, HB0.out, row_eq HF0.out (fun j hj => by rw [if_neg (by omega)]), HZ0.out⟩
  case round =>
    obtain ⟨i, hi, rfl, hb, hr, hz⟩ := hrel
    clear HB0 HF0 HZ0
    have HB := Aside0.mk hb
    have HR := Aside0.mk hr
    have HZ := Aside0.mk hz
    have hsz := hz.lt
    rcases Nat.lt_or_ge 0 i with h5 | h5
    · obtain ⟨j, rfl⟩ : ∃ j, i = j + 1 := ⟨i - 1, by omega⟩
      have hfi := HF.out (j + 1) (by omega)
      have hfj := HF.out j (by omega)
      have k0 := hr.cell (j + 1) (by omega)
      have k1 := hr.cell j (by omega)
      rw [if_neg (Nat.lt_irrefl (j + 1))] at k0
      rw [if_neg (show ¬ j + 1 < j by omega)] at k1
      have f0 := hr.fro (j + 1)
      have e1 : ((j + 1 : Nat) : Int) - 1 = (j : Int) := by omega
      have e2 : ((j + 1 : Nat) : Int).toNat = j + 1 := by omega
      have hgt : (((j + 1 : Nat) : Int) > 0) = True := eq_true (by omega)
      have hlt1 : (((j + 1 : Nat) : Int) < 5) = True := eq_true (by omega)
      have hlt2 : ((j : Int) < 5) = True := eq_true (by omega)
      have hge : ((0 : Int) ≤ ((j + 1 : Nat) : Int)) = True := eq_true (by omega)
      have HS := Aside0.mk (hr.set (j + 1) (shF f 0 (j + 1)) (by omega))
      have es : shF f 0 (j + 1) = f (j + 1) % 72057594037927936 * 256 + f j / 72057594037927936 := rfl
      rw [es] at HS
      have hw := wrap256 (f (j + 1))
      have hor := or256 (f (j + 1) % 72057594037927936) (f j / 72057594037927936) (by omega) (by omega) (by omega)
      clear hb hr hz hfi hfj es
      go_wp2_with fail
      go_region
      all_goals go_wp2_with fail
      refine ⟨⟨j, by omega, rfl, (bel_set HB.out _ _ (Nat.le_refl _)).drew, row_eq HS.out (fun x hx => by
        unfold upd
        by_cases hxj : x = j + 1
        · subst hxj; rw [if_pos rfl, if_pos (by omega)]; rfl
        · rw [if_neg hxj]
          show (if j + 1 < x then shF f 0 x else f x) = _
          by_cases hxl : j + 1 < x
          · rw [if_pos hxl, if_pos (by omega)]
          · rw [if_neg hxl, if_neg (by omega)]), HZ.out.other _ _ (show w.heap.size + 1 ≠ w.heap.size by omega)⟩, by simp only [intOf]; omega⟩
    · obtain rfl : i = 0 := by omega
      have es0 : shF f c 0 = f 0 % 72057594037927936 * 256 + c := rfl
      have HU := Aside0.mk (shF_b f c 5 HF.out HC.out)
      have HV := Aside0.mk (shF_V5 f c HF.out HL.out)
      have HK := Aside0.mk (kF_b f c HF.out HL.out)
      have HKf := Aside0.mk (kF_fits (shF f c) HU.out)
      have k0 : wr.cell? ⟨w.heap.size, 0, none⟩ = some (.int .u64 (f 0)) := hr.cell 0 (by omega)
      have k3 : wr.cell? ⟨w.heap.size, 3, none⟩ = some (.int .u64 (shF f c 3)) := hr.cell 3 (by omega)
      have k4 : wr.cell? ⟨w.heap.size, 4, none⟩ = some (.int .u64 (shF f c 4)) := hr.cell 4 (by omega)
      have f0 := hr.fro 0
      have hf0 := HF.out 0 (by omega)
      have hc := HC.out
      have hw := wrap256 (f 0)
      have hwc : IntKind.u64.wrap c = c := u64w _ (by omega) (by omega)
      have hor := or256 (f 0 % 72057594037927936) c (by omega) (by omega) (by omega)
      have HS : Aside0 (Row (wr.setCell ⟨w.heap.size, 0, none⟩ (.int .u64 (f 0 % 72057594037927936 * 256 + c))) w.heap.size .u64 5 (shF f c) 76) := ⟨row_eq (hr.set 0 (shF f c 0) (by omega)) (fun j hj => by
        unfold upd
        by_cases hj0 : j = 0
        · subst hj0; rw [if_pos rfl]
        · rw [if_neg hj0]
          show (if 0 < j then shF f 0 j else f j) = _
          rw [if_pos (by omega)]
          unfold shF
          rw [if_neg hj0, if_neg hj0])⟩
      have HBs := Aside0.mk (bel_set HB.out ⟨w.heap.size, 0, none⟩ (.int .u64 (f 0 % 72057594037927936 * 256 + c)) (Nat.le_refl w.heap.size))
      have HZs := Aside0.mk (HZ.out.other ⟨w.heap.size, 0, none⟩ (.int .u64 (f 0 % 72057594037927936 * 256 + c)) (show w.heap.size + 1 ≠ w.heap.size by omega))
      have HOs := Aside0.mk (HO.out.below HBs.out HO.out.lt)
      have h4 : 0 ≤ shF f c 4 ∧ shF f c 4 ≤ 16 := ⟨HK.out.1, HK.out.2.1⟩
      have h3 := HU.out 3 (by omega)
      have hw4 : IntKind.u64.wrap (shF f c 4 * 16) = shF f c 4 * 16 := u64w _ (by omega) (by omega)
      have hor4 := or16 (shF f c 3 / 1152921504606846976) (shF f c 4) (by omega) h4.1 h4.2
      clear hb hr hz hf0 hc es0 h4 h3
      have hks : 0 ≤ kF (shF f c) ∧ kF (shF f c) ≤ 300 := HK.out.2.2
      have hkd : shF f c 3 / 1152921504606846976 + shF f c 4 * 16 = kF (shF f c) := rfl
      generalize kF (shF f c) = k at *
      by_cases hk : 0 < k
      · have hk1 : (k > 0) = True := eq_true hk
        have HKB : Aside0 (0 ≤ k - 1 ∧ k - 1 < 18446744073709551616) := ⟨by omega⟩
        have hwk : IntKind.u64.wrap (k - 1) = k - 1 := u64w _ (by omega) (by omega)
        have HX := Aside0.mk (mnD_exact (shF f c) ordL (k - 1) 5 HU.out ord_U (by omega) (HKf.out hks.2 hk))
        have HXb : Aside0 (U64 (mnD (shF f c) ordL (k - 1)) 5) := ⟨fun j _ => mnD_b _ _ _ j⟩
        clear hks
        go_wp2_with (first | refine step_load HS.out Tryd.underlying76 infoNum rfl rfl rfl rfl ?_ | refine step_load_at HOs.out Tryd.underlying24 infoTab rfl rfl rfl rfl ?_)
        refine (minus_calls _ _ _ _ HU.out ord_U HKB.out).mono ?_
        rintro e w1 ⟨rfl, hb1⟩
        have HB1 := Aside0.mk (HBs.out.trans (hb1.mono HBs.out.size))
        have HR1 := Aside0.mk (HS.out.below hb1 HS.out.lt)
        have HZ1 := Aside0.mk (HZs.out.below hb1 HZs.out.lt)
        clear hb1 HS HBs HZs HOs
        go_wp2_with (refine step_storeG (mnD (shF f c) ordL (k - 1)) HR1.out infoNum rfl rfl rfl rfl rfl ?_; intro w2 hs hr2; have HR2 := Aside0.mk hr2; have HB2 := Aside0.mk (hs.bel _ _ (Nat.le_refl _) HB1.out); have HZ2 := Aside0.mk (HZ1.out.stored hs (show w.heap.size + 1 ≠ w.heap.size by omega)); clear hs hr2)
        go_loopw [44] (fun _ wr => FedRel2 (256 * V5 f + c) w wr) (fun _ wr => rowNatB 18446744073709551616 5 wr w.heap.size)
        case atStart => exact ⟨_, HXb.out, by have := HX.out; unfold V5 at *; rw [this, ← HV.out]; show (_ - (k - 1) * V5 ordL) % LL = _; rw [V5_ord]; exact Int.sub_mul_emod_self_right .., HB2.out, HR2.out, HZ2.out⟩
        case round =>
          obtain ⟨h, hh, hv, hb, hr, hz⟩ := hrel
          have HH := Aside0.mk hh
          have HVh := Aside0.mk hv
          have HBh := Aside0.mk hb
          have HRh := Aside0.mk hr
          have HZh := Aside0.mk hz
          have HOh := Aside0.mk (HO.out.below hb HO.out.lt)
          have HLx := Aside0.mk (lexN_val 18446744073709551616 (by omega) h ordL 5 hh ord_U)
          have hsz2 := hz.lt
          have HM0 := Aside0.mk (rowNatB_of 18446744073709551616 hr)
          clear hh hv hb hr hz
          go_wp2_with (first | refine step_load HRh.out Tryd.underlying76 infoNum rfl rfl rfl rfl ?_ | refine step_load_at HOh.out Tryd.underlying24 infoTab rfl rfl rfl rfl ?_)
          refine (less_calls h ordL _).mono ?_
          rintro e w2 ⟨rfl, hb2⟩
          have HB2 := Aside0.mk (HBh.out.trans (hb2.mono HBh.out.size))
          have HR2 := Aside0.mk (HRh.out.below hb2 HRh.out.lt)
          have HZ2 := Aside0.mk (HZh.out.below hb2 HZh.out.lt)
          have HO2 := Aside0.mk (HO.out.below HB2.out HO.out.lt)
          have hsz3 := HZ2.out.lt
          clear hb2 HBh HRh HZh HOh
          cases hx : lexN h ordL 5
          · have HX2 := Aside0.mk hx
            have HXV := Aside0.mk (mnD_exact h ordL 1 5 HH.out ord_U (by omega) (by have := HLx.out; rw [hx] at this; have h9 := of_decide_eq_false this.symm; omega))
            clear hx
            have hxf := HX2.out
            go_wp2_with (first | refine step_load HR2.out Tryd.underlying76 infoNum rfl rfl rfl rfl ?_ | refine step_load_at HO2.out Tryd.underlying24 infoTab rfl rfl rfl rfl ?_)
            refine (minus_calls h ordL 1 _ HH.out ord_U (by omega)).mono ?_
            rintro e w3 ⟨rfl, hb3⟩
            have HB3 := Aside0.mk (HB2.out.trans (hb3.mono HB2.out.size))
            have HR3 := Aside0.mk (HR2.out.below hb3 HR2.out.lt)
            have HZ3 := Aside0.mk (HZ2.out.below hb3 HZ2.out.lt)
            clear hb3 hxf
            go_wp2_with (refine step_storeG (mnD h ordL 1) HR3.out infoNum rfl rfl rfl rfl rfl ?_; intro w4 hs hr4; have HS4 := Aside0.mk hs; have HR4 := Aside0.mk hr4; clear hs hr4)
            have HV3 := Aside0.mk (val_b 18446744073709551616 (by omega) (mnD h ordL 1) 5 (fun j _ => mnD_b _ _ _ j)).1
            refine ⟨⟨mnD h ordL 1, fun j _ => mnD_b _ _ _ j, ?_, HS4.out.bel _ _ (Nat.le_refl _) HB3.out, HR4.out, HZ3.out.stored HS4.out (show w.heap.size + 1 ≠ w.heap.size by omega)⟩, ?_⟩
            · rw [← HVh.out]
              have := HXV.out
              unfold V5
              rw [this]
              show (V5 h - 1 * V5 ordL) % LL = V5 h % LL
              rw [V5_ord, Int.one_mul]
              exact Int.sub_emod_right _ _
            · rw [HM0.out, rowNatB_of 18446744073709551616 HR4.out]
              have h1 := HXV.out
              have h2 := HV3.out
              have h3 : val 18446744073709551616 ordL 5 = LL := V5_ord
              rw [h3] at h1
              rw [h1] at h2 ⊢
              unfold LL at *
              omega
          · have HX2 := Aside0.mk hx
            clear hx
            have hxt := HX2.out
            go_wp2_with (first | refine step_load HR2.out Tryd.underlying76 infoNum rfl rfl rfl rfl ?_ | (refine step_storeG h HZ2.out infoNum rfl rfl rfl rfl rfl ?_; intro w4 hs hr4; have HS4 := Aside0.mk hs; have HR4 := Aside0.mk hr4; clear hs hr4))
            refine bodyPost_ret (row_results rfl HR4.out rfl Tryd.underlying76 rfl infoNum) rfl ?_
            refine ⟨?_, HS4.out.bel _ _ (by omega) HB2.out⟩
            have e1 : V5 h < LL := by have h8 := HLx.out; rw [hxt] at h8; have h9 := of_decide_eq_true h8.symm; rw [← V5_ord]; exact h9
            have e2 : 0 ≤ V5 h := (val_b 18446744073709551616 (by omega) h 5 HH.out).1
            have e3 : V5 h = (256 * V5 f + c) % LL := by rw [← HVh.out, Int.emod_eq_of_lt e2 e1]
            rw [FR_congr .u64 5 _ _ (fun j hj => dig_val 18446744073709551616 (by omega) h 5 HH.out j hj)]
            show _ = Ending.returned (Value.agg (FR .u64 5 (dig 18446744073709551616 _)))
            rw [← e3]
            rfl
      · obtain rfl : k = 0 := by omega
        go_wp2_with fail
        go_loopw [44] (fun _ wr => FedRel2 (256 * V5 f + c) w wr) (fun _ wr => rowNatB 18446744073709551616 5 wr w.heap.size)
        case atStart => exact ⟨_, HU.out, by rw [HV.out], HBs.out, HS.out, HZs.out⟩
        case round =>
          obtain ⟨h, hh, hv, hb, hr, hz⟩ := hrel
          have HH := Aside0.mk hh
          have HVh := Aside0.mk hv
          have HBh := Aside0.mk hb
          have HRh := Aside0.mk hr
          have HZh := Aside0.mk hz
          have HOh := Aside0.mk (HO.out.below hb HO.out.lt)
          have HLx := Aside0.mk (lexN_val 18446744073709551616 (by omega) h ordL 5 hh ord_U)
          have hsz2 := hz.lt
          have HM0 := Aside0.mk (rowNatB_of 18446744073709551616 hr)
          clear hh hv hb hr hz
          go_wp2_with (first | refine step_load HRh.out Tryd.underlying76 infoNum rfl rfl rfl rfl ?_ | refine step_load_at HOh.out Tryd.underlying24 infoTab rfl rfl rfl rfl ?_)
          refine (less_calls h ordL _).mono ?_
          rintro e w2 ⟨rfl, hb2⟩
          have HB2 := Aside0.mk (HBh.out.trans (hb2.mono HBh.out.size))
          have HR2 := Aside0.mk (HRh.out.below hb2 HRh.out.lt)
          have HZ2 := Aside0.mk (HZh.out.below hb2 HZh.out.lt)
          have HO2 := Aside0.mk (HO.out.below HB2.out HO.out.lt)
          have hsz3 := HZ2.out.lt
          clear hb2 HBh HRh HZh HOh
          cases hx : lexN h ordL 5
          · have HX2 := Aside0.mk hx
            have HXV := Aside0.mk (mnD_exact h ordL 1 5 HH.out ord_U (by omega) (by have := HLx.out; rw [hx] at this; have h9 := of_decide_eq_false this.symm; omega))
            clear hx
            have hxf := HX2.out
            go_wp2_with (first | refine step_load HR2.out Tryd.underlying76 infoNum rfl rfl rfl rfl ?_ | refine step_load_at HO2.out Tryd.underlying24 infoTab rfl rfl rfl rfl ?_)
            refine (minus_calls h ordL 1 _ HH.out ord_U (by omega)).mono ?_
            rintro e w3 ⟨rfl, hb3⟩
            have HB3 := Aside0.mk (HB2.out.trans (hb3.mono HB2.out.size))
            have HR3 := Aside0.mk (HR2.out.below hb3 HR2.out.lt)
            have HZ3 := Aside0.mk (HZ2.out.below hb3 HZ2.out.lt)
            clear hb3 hxf
            go_wp2_with (refine step_storeG (mnD h ordL 1) HR3.out infoNum rfl rfl rfl rfl rfl ?_; intro w4 hs hr4; have HS4 := Aside0.mk hs; have HR4 := Aside0.mk hr4; clear hs hr4)
            have HV3 := Aside0.mk (val_b 18446744073709551616 (by omega) (mnD h ordL 1) 5 (fun j _ => mnD_b _ _ _ j)).1
            refine ⟨⟨mnD h ordL 1, fun j _ => mnD_b _ _ _ j, ?_, HS4.out.bel _ _ (Nat.le_refl _) HB3.out, HR4.out, HZ3.out.stored HS4.out (show w.heap.size + 1 ≠ w.heap.size by omega)⟩, ?_⟩
            · rw [← HVh.out]
              have := HXV.out
              unfold V5
              rw [this]
              show (V5 h - 1 * V5 ordL) % LL = V5 h % LL
              rw [V5_ord, Int.one_mul]
              exact Int.sub_emod_right _ _
            · rw [HM0.out, rowNatB_of 18446744073709551616 HR4.out]
              have h1 := HXV.out
              have h2 := HV3.out
              have h3 : val 18446744073709551616 ordL 5 = LL := V5_ord
              rw [h3] at h1
              rw [h1] at h2 ⊢
              unfold LL at *
              omega
          · have HX2 := Aside0.mk hx
            clear hx
            have hxt := HX2.out
            go_wp2_with (first | refine step_load HR2.out Tryd.underlying76 infoNum rfl rfl rfl rfl ?_ | (refine step_storeG h HZ2.out infoNum rfl rfl rfl rfl rfl ?_; intro w4 hs hr4; have HS4 := Aside0.mk hs; have HR4 := Aside0.mk hr4; clear hs hr4))
            refine bodyPost_ret (row_results rfl HR4.out rfl Tryd.underlying76 rfl infoNum) rfl ?_
            refine ⟨?_, HS4.out.bel _ _ (by omega) HB2.out⟩
            have e1 : V5 h < LL := by have h8 := HLx.out; rw [hxt] at h8; have h9 := of_decide_eq_true h8.symm; rw [← V5_ord]; exact h9
            have e2 : 0 ≤ V5 h := (val_b 18446744073709551616 (by omega) h 5 HH.out).1
            have e3 : V5 h = (256 * V5 f + c) % LL := by rw [← HVh.out, Int.emod_eq_of_lt e2 e1]
            rw [FR_congr .u64 5 _ _ (fun j hj => dig_val 18446744073709551616 (by omega) h 5 HH.out j hj)]
            show _ = Ending.returned (Value.agg (FR .u64 5 (dig 18446744073709551616 _)))
            rw [← e3]
            rfl
end Go.Proofs.YtaaipbhfikefaaaDoor.P
end

section
namespace Go.Proofs.YtaaipbhfikefaaaDoor.P
set_option linter.unusedVariables false
set_option linter.unusedSimpArgs false
open Go.RowKit Go.Shelf
attribute [local go_sem] Oper.semAt_some setCell_drewN
section
variable {F : Fence} {m : Nat} {P : Program} {ops : Array Oper} {rest : List Oper} {o : Oper} {a : Act} {w : World} {Q : Exit → Act → World → Prop} {k : IntKind} {n : Nat} {f : Nat → Int} {t ty : TypeId} {x y : Operand} {g : Nat} {d : TypeDesc}
/-- A whole row of numbers, read, inside a fence. -/
theorem stepIn_load (hr : Row w g k n f t) (hu : P.underlying ty = some d) (hi : (P.info? ty).map (·.size) = some n) (hd : (match d with | .struct _ | .array _ _ => true | _ => false) = true) (hgd : o.guard = none) (ho : o.op = .load ty x) (hx : a.eval x = .pointer (some ⟨g, 0, none⟩))
    (h : wpListIn F m P ops Q rest (a.put o.dst (.agg (FR k n f))) w) : wpListIn F m P ops Q (o :: rest) a w := by
  refine wpListIn_plain hgd fun K hK => ?_
  unfold Oper.wpIn
  refine ⟨by simp [Oper.about, ho], ?_⟩
  rw [Oper.semAt_plain F _ _ (by rw [ho]; intro c hc; cases hc), exec_load hr hu hi hd ho hx]
  exact hK _ _ h
/-- A whole row of numbers, stored, inside a fence. -/
theorem stepIn_storeG (f' : Nat → Int) (hr : Row w g k n f t) (hi : (P.info? ty).map (·.size) = some n) (hgd : o.guard = none) (hdst : o.dst = none) (ho : o.op = .store ty x y) (hx : a.eval x = .pointer (some ⟨g, 0, none⟩)) (hy : a.eval y = .agg (FR k n f'))
    (h : ∀ w', Stored w w' g → Row w' g k n f' t → wpListIn F m P ops Q rest a w') : wpListIn F m P ops Q (o :: rest) a w := by
  obtain ⟨ie, hie, hs⟩ : ∃ ie, P.info? ty = some ie ∧ ie.size = n := by
    cases he : P.info? ty with
    | none => rw [he] at hi; cases hi
    | some ie => rw [he] at hi; exact ⟨ie, rfl, Option.some.inj hi⟩
  have hrun := run_storeVar_row (P := P) ty ie hie g t (FR k n f) (FR k n f') w hr (by rw [FR_size, FR_size]) (by rw [FR_size, hs]) (FR_one k n f')
  refine wpListIn_plain hgd fun K hK => ?_
  unfold Oper.wpIn
  refine ⟨by simp [Oper.about, ho], ?_⟩
  rw [Oper.semAt_plain F _ _ (by rw [ho]; intro c hc; cases hc)]
  unfold execOp
  simp only [ho, hx, hy, Instr.storeAt, Instr.sureAddr, Sem.run_bind, Sem.run_pure, Result.andThen_ok, hrun]
  refine hK _ _ ?_
  rw [hdst]
  exact h _ ⟨fun k hk => setCells_other hk _ _ _, setCells_size g _ _ _, fun B W hB hb => bel_setCells hB _ _ _ hb⟩ hr.all
end
/-- A row abides whatever turns no cells. -/
theorem Row.kept {W W' : World} {row : Option Nat} {g : Nat} {k : IntKind} {n : Nat} {f : Nat → Int} {t : TypeId} (h : Row W g k n f t) (hg : W.grownBy W' row) (hrow : ∀ r, row = some r → ∃ o : Obj, W.heap[r]? = some o ∧ o.isCells = false) : Row W' g k n f t :=
  (grownBy_keeps_cells hg hrow h rfl).trans h
theorem KeepsFrom.of_below {B : Nat} {W W' : World} (h : Below W.heap.size W W') : KeepsFrom B W W' :=
  ⟨h.size, fun k o hB hk hc => (h.block k (Array.getElem?_eq_some_iff.1 hk).1).trans hk⟩
theorem KeepsFrom.of_stored {B g : Nat} {W W' : World} {k : IntKind} {n : Nat} {f : Nat → Int} {t : TypeId} (hs : Stored W W' g) (hr : Row W g k n f t) : KeepsFrom B W W' :=
  ⟨Nat.le_of_eq hs.size.symm, fun j o _ hj hc => (hs.other j (by rintro rfl; rw [show W.heap[j]? = _ from hr] at hj; cases hj; cases hc)).trans hj⟩
/-- An index and a byte. -/
abbrev IB := Nat × {x : Int // 0 ≤ x ∧ x < 256}
def encIB (x : IB) : Array Value := #[.int .i64 (x.1 : Int), .int .u8 x.2.1]
/-- What has come when k rounds are over, from the last one on. -/
def bkU (z : Nat → {x : Int // 0 ≤ x ∧ x < 256}) (len : Nat) : Nat → List IB
  | 0 => []
  | k + 1 => bkU z len k ++ [(len - 1 - k, z (len - 1 - k))]
theorem bkU_length (z : Nat → {x : Int // 0 ≤ x ∧ x < 256}) (len : Nat) : ∀ k, (bkU z len k).length = k
  | 0 => rfl
  | k + 1 => by simp [bkU, bkU_length z len k]
/-- A slice of bytes, read at its address. -/
def BytesAt (w : World) (a : Option Addr) (len : Nat) (z : Nat → Int) : Prop := (a = none ∧ len = 0) ∨ ∃ x, a = some x ∧ ∀ j, j < len → w.cell? (x.add j) = some (.int .u8 (z j))
theorem add_block (x : Addr) (j : Nat) : (x.add j).block = x.block := by unfold Addr.add; split <;> rfl
theorem BytesAt.below {w w' : World} {B : Nat} {a : Option Addr} {len : Nat} {z : Nat → Int} (h : BytesAt w a len z) (hb : Below B w w') (hB : ∀ x, a = some x → 0 < len → x.block < B) : BytesAt w' a len z := by
  rcases h with h | ⟨x, rfl, h⟩
  · exact .inl h
  · exact .inr ⟨x, rfl, fun j hj => (hb.cell (p := x.add j) (by rw [add_block]; exact hB x rfl (by omega))).trans (h j hj)⟩
theorem BytesAt.lt {w : World} {x : Addr} {len : Nat} {z : Nat → Int} (h : BytesAt w (some x) len z) (hl : 0 < len) : x.block < w.heap.size := by
  rcases h with ⟨h, _⟩ | ⟨y, hy, h⟩
  · cases h
  · cases hy
    have := block_lt_of_cell (h 0 hl)
    rwa [add_block] at this
/-- What a round keeps: what lies below n₀, and the box. -/
def KpB (n₀ Bs : Nat) (A B : World) : Prop := Below n₀ A B ∧ B.heap[Bs]? = A.heap[Bs]?
theorem KpB.refl (n₀ Bs : Nat) (A : World) : KpB n₀ Bs A A := ⟨Below.refl _ _, rfl⟩
theorem KpB.trans {n₀ Bs : Nat} {A B C : World} (h : KpB n₀ Bs A B) (k : KpB n₀ Bs B C) : KpB n₀ Bs A C := ⟨h.1.trans k.1, k.2.trans h.2⟩
theorem KpB.cell {n₀ Bs : Nat} {A B : World} (h : KpB n₀ Bs A B) : B.cell? ⟨Bs, 0, none⟩ = A.cell? ⟨Bs, 0, none⟩ := World.cell?_of_block h.2
theorem KpB.b {n₀ Bs : Nat} {w : World} (hn : n₀ ≤ w.heap.size) (hB : Bs < w.heap.size) : ∀ (W : World) (l : Nat) (o o' : Obj), w.heap.size ≤ l → W.heap[l]? = some o → o.isCells = false → o.isWalk = false → KpB n₀ Bs W (W.putObj l o') :=
  fun W l o o' hl ho hc hw => ⟨belowK_b hn W l o o' hl ho hc hw, World.putObj_heap_other (by omega)⟩
set_option maxRecDepth 100000 in
set_option maxHeartbeats 2000000 in
theorem back1_in (F : Fence) (n : Nat) (h7 : F.fn 62) (hro : F.round = none) (hn : 1 ≤ n) (l Bs n₀ len cap : Nat) (x : Addr) (z : Nat → {x : Int // 0 ≤ x ∧ x < 256}) (hreach : len ≤ 140737488351232) (hb : x.block < n₀) (J Jx : List IB → World → Prop)
    (hY : ∀ pre x W, J pre W → pre.length < len → YieldAt F (n - 1) Tryd.prog l (encIB x) W fun e W' =>
      (e = .returned (.bool true) ∧ J (pre ++ [x]) W' ∧ KpB n₀ Bs W W') ∨ (e = .returned (.bool false) ∧ Jx (pre ++ [x]) W'))
    (W : World) (hBs : W.cell? ⟨Bs, 0, none⟩ = some (.slice (some x) len cap)) (hc : ∀ j, j < len → W.cell? (x.add j) = some (.int .u8 (z j).1)) (h0 : J [] W) :
    CallsIn F n Tryd.prog 62 #[.func (.yield l) #[] #[], .pointer (some ⟨Bs, 0, none⟩)] W fun e W' => (∃ v, e = .returned v) ∧
      ((∃ ys, ys = bkU z len len ∧ J ys W') ∨ (∃ pre, True ∧ Jx pre W')) := by
  refine callsIn_of_wp Tryd.func62 rfl h7 ?_ hro
  simp only [Tryd.ntmps62, List.size_toArray, List.length_cons, List.length_nil, Nat.reduceAdd, Nat.reduceSub, Array.replicate_succ, Array.replicate_zero, List.push_toArray, List.append_toArray, List.nil_append, List.cons_append]
  gi_wp2
  gi_loopw [3] (fun i wr => ∃ k : Nat, k ≤ len ∧ i = .int .i64 (((len - k : Nat) : Int) - 1) ∧ J (bkU z len k) wr ∧ KpB n₀ Bs W wr)
    (fun i _ => ((intOf i) + 1).toNat)
  case atStart => exact ⟨0, Nat.zero_le _, by simp, h0, KpB.refl _ _ _⟩
  case round =>
    obtain ⟨k, hk, rfl, hJs, hnx⟩ := hrel
    have hbs := hnx.cell.trans hBs
    by_cases hlt : k < len
    · obtain ⟨j, hj⟩ : ∃ j, len - k = j + 1 := ⟨len - k - 1, by omega⟩
      rw [hj]
      have e1 : ((j + 1 : Nat) : Int) - 1 = (j : Int) := by omega
      rw [e1]
      have hcx := (hnx.1.cell (p := x.add j) (by rw [add_block]; exact hb)).trans (hc j (by omega))
      obtain ⟨fn, tmps, assign, body, hy, hR⟩ := hY _ (j, z j) wr hJs (by rw [bkU_length]; exact hlt)
      dsimp only [encIB] at hy
      have hlt2 : ((j : Int) < (len : Int)) = True := eq_true (by omega)
      have hge : ((j : Int) ≥ 0) = True := eq_true (by omega)
      have e2 : ((j : Int) - 1) = (((len - (k + 1) : Nat) : Int) - 1) := by omega
      have E2 := Aside0.mk e2
      clear e2
      gi_wp2
      refine hR.mono ?_
      rintro e W3 (⟨rfl, hJ3, hk3⟩ | ⟨rfl, hJx3⟩)
      · gi_wp2
        go_roundw
        case rel => exact ⟨k + 1, by omega, by rw [E2.out], by show J (bkU z len k ++ [(len - 1 - k, z (len - 1 - k))]) W3; rw [show len - 1 - k = j by omega]; exact hJ3, hnx.trans hk3⟩
        case measure => simp [intOf] <;> omega
      · gi_wp2
        refine bodyPost_ret (results_none rfl _ _ _) rfl ?_
        exact ⟨⟨_, rfl⟩, .inr ⟨_, trivial, hJx3⟩⟩
    · obtain rfl : k = len := by omega
      rw [Nat.sub_self]
      gi_wp2
      go_end0
      exact ⟨⟨_, rfl⟩, .inl ⟨_, rfl, hJs⟩⟩
set_option maxHeartbeats 1000000 in
theorem back1_nil_in (F : Fence) (n : Nat) (h7 : F.fn 62) (hro : F.round = none) (l Bs cap : Nat) (a : Option Addr) (J : List IB → World → Prop) (W : World) (hBs : W.cell? ⟨Bs, 0, none⟩ = some (.slice a 0 cap)) (h0 : J [] W) :
    CallsIn F n Tryd.prog 62 #[.func (.yield l) #[] #[], .pointer (some ⟨Bs, 0, none⟩)] W fun e W' => (∃ v, e = .returned v) ∧ J [] W' := by
  refine callsIn_of_wp Tryd.func62 rfl h7 ?_ hro
  simp only [Tryd.ntmps62, List.size_toArray, List.length_cons, List.length_nil, Nat.reduceAdd, Nat.reduceSub, Array.replicate_succ, Array.replicate_zero, List.push_toArray, List.append_toArray, List.nil_append, List.cons_append]
  gi_wp2
  gi_loopw [3] (fun i wr => i = .int .i64 (-1) ∧ J [] wr) (fun _ _ => 0)
  case atStart => exact ⟨rfl, h0⟩
  case round =>
    obtain ⟨rfl, hJs⟩ := hrel
    gi_wp2
    go_end0
    exact ⟨⟨_, rfl⟩, hJs⟩
set_option maxHeartbeats 1000000 in
/-- slices.Backward(b): the slice is boxed, the function captures the box. -/
theorem back_in (F : Fence) (n : Nat) (h5 : F.fn 50) (hro : F.round = none) (a : Option Addr) (len cap : Nat) (w : World) :
    CallsIn F n Tryd.prog 50 #[.slice a len cap] w fun e w' => e = .returned (.func (.func 62) #[] #[.pointer (some ⟨w.heap.size, 0, none⟩)]) ∧ w' = w.alloc (.cells #[.slice a len cap] 39) := by
  refine callsIn_of_wp Tryd.func50 rfl h5 ?_ hro
  simp only [Tryd.ntmps50, List.size_toArray, List.length_cons, List.length_nil, Nat.reduceAdd, Nat.reduceSub, Array.replicate_succ, Array.replicate_zero, List.push_toArray, List.append_toArray, List.nil_append, List.cons_append]
  gi_wp2
  go_ret
  exact ⟨rfl, rfl⟩
/-- slices.Backward's iterator. -/
theorem back_stops (F : Fence) (n : Nat) (h7 : F.fn 62) (hro : F.round = none) (hn : 1 ≤ n) (Bs n₀ len cap : Nat) (a : Option Addr) (z : Nat → {x : Int // 0 ≤ x ∧ x < 256}) (hreach : len ≤ 140737488351232) (w : World) (hBs : Bs < w.heap.size) (hn₀ : n₀ ≤ w.heap.size)
    (hc : w.cell? ⟨Bs, 0, none⟩ = some (.slice a len cap)) (hI : BytesAt w a len (fun j => (z j).1)) (hlo : ∀ x, a = some x → 0 < len → x.block < n₀) :
    SeqStopsK F n Tryd.prog 62 #[.pointer (some ⟨Bs, 0, none⟩)] encIB (KpB n₀ Bs) (fun ys => ys = bkU z len len) (fun _ => True) len w := fun l J Jx W hW _ _ hY h0 => by
  have hc' := (hW.cell (p := ⟨Bs, 0, none⟩) hBs).trans hc
  by_cases h : 0 < len
  · rcases hI with ⟨_, h9⟩ | ⟨x, rfl, hcs⟩
    · omega
    · exact back1_in F n h7 hro hn l Bs n₀ len cap x z hreach (hlo x rfl h) J Jx hY W hc' (fun j hj => (hW.cell (p := x.add j) (by rw [add_block]; have := hlo x rfl h; omega)).trans (hcs j hj)) h0
  · obtain rfl : len = 0 := by omega
    exact (back1_nil_in F n h7 hro l Bs cap a J W hc' h0).mono fun e W' ⟨he, hj⟩ => ⟨he, .inl ⟨_, rfl, hj⟩⟩
end Go.Proofs.YtaaipbhfikefaaaDoor.P
end

section
namespace Go.Proofs.YtaaipbhfikefaaaDoor.P
set_option linter.unusedVariables false
set_option linter.unusedSimpArgs false
open Go.RowKit Go.Shelf
attribute [local go_sem] Oper.semAt_some setCell_drewN
/-- The rest behind some bytes, the highest first. -/
def rN (pre : List IB) : Int := pre.foldl (fun r x => (256 * r + x.2.1) % LL) 0
theorem rN_snoc (pre : List IB) (x : IB) : rN (pre ++ [x]) = (256 * rN pre + x.2.1) % LL := by simp [rN]
theorem rN_b (pre : List IB) : 0 ≤ rN pre ∧ rN pre < LL := by
  rcases List.eq_nil_or_concat pre with rfl | ⟨p, x, rfl⟩
  · unfold rN LL; simp
  · rw [List.concat_eq_append, rN_snoc]
    unfold LL
    omega
theorem val_succ_low (B : Int) (f : Nat → Int) : ∀ n, val B f (n + 1) = f 0 + B * val B (fun j => f (j + 1)) n
  | 0 => by simp [val]
  | n + 1 => by
    rw [val, val_succ_low B f n, val, Int.pow_succ]
    generalize B ^ n = q
    generalize val B (fun j => f (j + 1)) n = v
    grind
theorem rN_bk (z : Nat → {x : Int // 0 ≤ x ∧ x < 256}) (len : Nat) : ∀ k, k ≤ len → rN (bkU z len k) = val 256 (fun j => (z (len - k + j)).1) k % LL
  | 0, _ => by simp [rN, bkU, val]
  | k + 1, h => by
    have ih := rN_bk z len k (by omega)
    rw [bkU, rN_snoc, ih, val_succ_low]
    have e : (fun j => (z (len - (k + 1) + (j + 1))).1) = fun j => (z (len - k + j)).1 := by
      funext j; rw [show len - (k + 1) + (j + 1) = len - k + j by omega]
    rw [e, show len - (k + 1) + 0 = len - 1 - k by omega]
    generalize val 256 (fun j => (z (len - k + j)).1) k = v
    show (256 * (v % LL) + (z (len - 1 - k)).1) % LL = ((z (len - 1 - k)).1 + 256 * v) % LL
    rw [Int.add_comm, Int.add_emod, Int.mul_emod, Int.emod_emod_of_dvd _ (Int.dvd_refl LL), ← Int.mul_emod, ← Int.add_emod]
theorem info32 : (Tryd.prog.info? 22).map (·.size) = some 32 := by kernel_rfl
/-- One byte of a number in limbs. -/
theorem dig_limb (V : Int) (i : Nat) : dig 18446744073709551616 V (i / 8) / 2 ^ (8 * (i % 8)) % 256 = dig 256 V i := by
  have e : i = 8 * (i / 8) + i % 8 := by omega
  have hr : i % 8 < 8 := Nat.mod_lt _ (by omega)
  unfold dig
  have e2 : (256 : Int) ^ i = 18446744073709551616 ^ (i / 8) * 256 ^ (i % 8) := by
    conv => lhs; rw [e]
    rw [Int.pow_add, Int.pow_mul]; rfl
  rw [e2, ← Int.ediv_ediv_of_nonneg (Int.le_of_lt (pow_pos' 18446744073709551616 (by omega) (i / 8)))]
  generalize V / 18446744073709551616 ^ (i / 8) = x
  generalize i % 8 = r at *
  have hc : r = 0 ∨ r = 1 ∨ r = 2 ∨ r = 3 ∨ r = 4 ∨ r = 5 ∨ r = 6 ∨ r = 7 := by omega
  rcases hc with rfl | rfl | rfl | rfl | rfl | rfl | rfl | rfl <;> (simp only [Nat.mul_zero, Nat.reduceMul, Int.reducePow, Int.reducePow]; omega)
def RestRel (w : World) (D g6 : Nat) (V : Int) (v15 : Value) (wr : World) : Prop :=
  ∃ (i : Nat), i ≤ 32 ∧ v15 = .int .i64 (i : Int) ∧ Below w.heap.size w wr ∧ Row wr w.heap.size .u8 32 (fun _ => 0) 22 ∧ Row wr (w.heap.size + 1) .u64 5 (dig 18446744073709551616 V) 76 ∧ Row wr g6 .u8 32 (fun j => if j < i then dig 256 V j else 0) 22 ∧ wr.heap[D]? = some (.deferred (some []))
set_option maxRecDepth 100000 in
set_option maxHeartbeats 4000000 in
theorem rest_calls (z : Nat → Int) (a : Option Addr) (len cap : Nat) (w : World) (ho : Ord w) (hz : ∀ j, 0 ≤ z j ∧ z j < 256) (hreach : len ≤ 140737488351232) (hI : BytesAt w a len z) :
    Calls Tryd.prog 25 #[.slice a len cap] w fun e w' => e = .returned (.agg (FR .u8 32 (dig 256 (val 256 z len % LL)))) ∧ Below w.heap.size w w' := by
  refine (callsIn_wide (n := 5)).1 ?_
  have h1 : 1 ≤ 5 := by omega
  have HO := Aside0.mk ho
  have HIlt : Aside0 (∀ x, a = some x → 0 < len → x.block < w.heap.size) := ⟨fun x hx hl => by subst hx; exact hI.lt hl⟩
  obtain ⟨Z, hZ⟩ : ∃ Z : Nat → {x : Int // 0 ≤ x ∧ x < 256}, ∀ j, (Z j).1 = z j := ⟨fun j => ⟨z j, hz j⟩, fun _ => rfl⟩
  have hZe : (fun j => (Z j).1) = z := funext hZ
  have HI : Aside0 (BytesAt w a len fun j => (Z j).1) := ⟨by rw [hZe]; exact hI⟩
  have HV : Aside0 (rN (bkU Z len len) = val 256 z len % LL) := ⟨by
    rw [rN_bk Z len len (Nat.le_refl _), Nat.sub_self]
    simp only [Nat.zero_add, hZ]⟩
  clear ho hI hZ hZe hz
  refine callsIn_of_wp_marks Tryd.func25 rfl trivial ?_ rfl
  simp only [Tryd.ntmps25, List.size_toArray, List.length_cons, List.length_nil, Nat.reduceAdd, Nat.reduceSub, Array.replicate_succ, Array.replicate_zero, List.push_toArray, List.append_toArray, List.nil_append, List.cons_append]
  gi_wp2_with fail
  refine ⟨trivial, ?_⟩
  refine (back_in Fence.wide 4 trivial rfl _ _ _ _).mono ?_
  rintro e w' ⟨rfl, rfl⟩
  gi_wp2_with fail
  have HB0 := Aside0.mk (bel_three w (.cells (FR .u8 32 fun _ => 0) 22) (.cells (FR .u64 5 fun _ => 0) 76) (.cells #[.slice a len cap] 39))
  have HR0 := Aside0.mk (((Row.new w .u8 32 (fun _ => 0) 22).alloc (.cells (FR .u64 5 fun _ => 0) 76)).alloc (.cells #[.slice a len cap] 39))
  have HA0 := Aside0.mk ((Row.new (w.alloc (.cells (FR .u8 32 fun _ => 0) 22)) .u64 5 (fun _ => 0) 76).alloc (.cells #[.slice a len cap] 39))
  have bN := Boxed.new ((w.alloc (.cells (FR .u8 32 fun _ => 0) 22)).alloc (.cells (FR .u64 5 fun _ => 0) 76)) 39 (.slice a len cap)
  have hz1 : (w.alloc (.cells (FR .u8 32 fun _ => 0) 22)).heap.size = w.heap.size + 1 := by simp
  have hz2 : ((w.alloc (.cells (FR .u8 32 fun _ => 0) 22)).alloc (.cells (FR .u64 5 fun _ => 0) 76)).heap.size = w.heap.size + 1 + 1 := by simp
  rw [hz1] at HA0
  rw [hz2] at bN
  have HBOX := Aside0.mk bN.cell
  have HOs := Aside0.mk (HO.out.below HB0.out HO.out.lt)
  have HIs := Aside0.mk (HI.out.below HB0.out HIlt.out)
  have hsz : (((w.alloc (.cells (FR .u8 32 fun _ => 0) 22)).alloc (.cells (FR .u64 5 fun _ => 0) 76)).alloc (.cells #[.slice a len cap] 39)).heap.size = w.heap.size + 1 + 1 + 1 := by simp
  clear bN hz1 hz2
  show Code.wpIn _ _ _ _ _ _ (((w.alloc (.cells (FR .u8 32 fun _ => 0) 22)).alloc (.cells (FR .u64 5 fun _ => 0) 76)).alloc (.cells #[.slice a len cap] 39))
  generalize ((w.alloc (.cells (FR .u8 32 fun _ => 0) 22)).alloc (.cells (FR .u64 5 fun _ => 0) 76)).alloc (.cells #[.slice a len cap] 39) = w3 at *
  refine wpIn_rangeFunc_ownG rfl h1 (gf := 62) (lb := #[.pointer (some ⟨w.heap.size + 1 + 1, 0, none⟩)]) rfl trivial (enters_of Tryd.func62 (by kernel_rfl) rfl)
    (back_stops Fence.wide 4 trivial rfl (by omega) (w.heap.size + 1 + 1) w.heap.size len cap a Z hreach _ (by rw [hsz]; omega) (by rw [hsz]; omega) HBOX.out HIs.out HIlt.out) KpB.trans (KpB.b (by rw [hsz]; omega) (by rw [hsz]; omega)) (Below.refl _ _) (fun _ => rfl)
    (fun pre W => (Row W w.heap.size .u8 32 (fun _ => 0) 22 ∧ Row W (w.heap.size + 1) .u64 5 (dig 18446744073709551616 (rN pre)) 76 ∧ W.cell? ⟨w.heap.size + 1 + 1, 0, none⟩ = some (.slice a len cap)) ∧ Below w.heap.size w W)
    (fun _ _ _ => False)
    (OwnFrom.and (Own.from (fun s A B row hs hg hr => ⟨hs.1.kept hg hr, hs.2.1.kept hg hr, cell_kept hs.2.2 hg hr⟩) _) (ownFrom_below (Nat.le_refl _) (by rw [hsz]; omega)))
    (fun _ _ _ _ _ hs _ _ => hs)
    ⟨⟨HR0.out, row_eq HA0.out (fun j hj => by simp [rN, dig]), HBOX.out⟩, HB0.out⟩
    (fun x => { tmps := #[.slice a len cap, undef, .pointer (some ⟨w.heap.size, 0, none⟩), .pointer (some ⟨w.heap.size + 1, 0, none⟩), undef, .int .u8 x.2.1, undef, undef, .slice a len cap, .func (.func 62) #[] #[.pointer (some ⟨w.heap.size + 1 + 1, 0, none⟩)], .int .i64 (x.1 : Int), .int .u8 x.2.1, undef, undef, undef, undef, undef, undef, undef, undef, undef, undef, undef, undef, undef, undef, undef, undef, undef, undef, undef], defers := [] }) ?assign ?body ?done ?stop
  case assign =>
    intro l x W K hK
    dsimp only [encIB]
    gi_wp2
    exact hK
  case body =>
    rintro l pre x W ⟨⟨hr, hn, hbox⟩, hB⟩ _
    have hbl := block_lt_of_cell hbox
    have HX9 := Aside0.mk hbox
    have HR := Aside0.mk hr
    have HN := Aside0.mk hn
    have HB := Aside0.mk hB
    have HOw := Aside0.mk (HO.out.below hB HO.out.lt)
    have HX := Aside0.mk x.2.2
    have HD : Aside0 (V5 (dig 18446744073709551616 (rN pre)) = rN pre) := ⟨by
      have := rN_b pre
      unfold V5
      rw [val_dig _ (by omega), Int.emod_eq_of_lt this.1 (by unfold LL at this; omega)]⟩
    clear hr hn hbox hB HR0 HA0 HB0 HBOX HOs HIs
    gi_wp2_with (refine stepIn_load HN.out Tryd.underlying76 infoNum rfl rfl rfl rfl ?_)
    refine ⟨trivial, ?_⟩
    refine (CallsIn.inRound l (callsIn_wide.2 (fed_calls _ _ _ HOw.out (fun j _ => dig_b _ (by omega) _ j) (by rw [HD.out]; exact (rN_b pre).2) HX.out))).mono ?_
    rintro e w1 ⟨rfl, hb⟩
    have HN1 := Aside0.mk (HN.out.below hb HN.out.lt)
    have HB1 := Aside0.mk hb
    have HR1 := Aside0.mk (HR.out.below hb HR.out.lt)
    clear hb
    gi_wp2_with (refine stepIn_storeG _ HN1.out infoNum rfl rfl rfl rfl rfl ?_; intro w2 hs hr2; have HS2 := Aside0.mk hs; have HN2 := Aside0.mk hr2; clear hs hr2)
    have hle := HB.out.size
    refine ⟨(KeepsFrom.of_below HB1.out).trans (KeepsFrom.of_stored HS2.out HN1.out), ⟨HS2.out.bel _ _ (by omega) (HB1.out.mono hle), (HS2.out.other _ (by omega)).trans (HB1.out.block _ hbl)⟩, ⟨HR1.out.stored HS2.out (by omega), ?_, (World.cell?_of_block ((HS2.out.other _ (show w.heap.size + 1 + 1 ≠ w.heap.size + 1 by omega)).trans (HB1.out.block _ hbl))).trans HX9.out⟩, HS2.out.bel _ _ (by omega) (HB.out.trans (HB1.out.mono hle))⟩
    have e : (256 * V5 (fun j => dig 18446744073709551616 (rN pre) j) + x.2.1) % LL = rN (pre ++ [x]) := by
      rw [rN_snoc]
      show (256 * V5 (dig 18446744073709551616 (rN pre)) + x.2.1) % LL = _
      rw [HD.out]
    rw [← e]
    exact HN2.out
  case done =>
    rintro D ys W hD rfl ⟨⟨hr, hn, hbox⟩, hB⟩ hK
    have hVb := rN_b (bkU Z len len)
    generalize rN (bkU Z len len) = V at *
    have hle := hn.lt
    have hDW := (Array.getElem?_eq_some_iff.1 hK).1
    have HRa := Aside0.mk (hr.alloc (.cells (FR .u8 32 fun _ => 0) 22))
    have HNa := Aside0.mk (hn.alloc (.cells (FR .u8 32 fun _ => 0) 22))
    have HGa := Aside0.mk (Row.new W .u8 32 (fun _ => 0) 22)
    have HBa := Aside0.mk (hB.alloc (show w.heap.size ≤ W.heap.size by omega) (.cells (FR .u8 32 fun _ => 0) 22))
    have HKa := Aside0.mk ((Below.heap_alloc W (.cells (FR .u8 32 fun _ => 0) 22) D hDW).trans hK)
    clear hr hn hB hK hbox HR0 HA0 HB0 HBOX HOs HIs
    gi_wp2
    gi_loopw [15] (fun v15 wr => RestRel w D W.heap.size V v15 wr) (fun v _ => 32 - (intOf v).toNat)
    case atStart => exact ⟨0, by omega, rfl, HBa.out, HRa.out, HNa.out, row_eq HGa.out (fun j hj => by rw [if_neg (by omega)]), HKa.out⟩
    case round =>
      obtain ⟨i, hi, rfl, hB, hr, hn, hg, hK⟩ := hrel
      have HB := Aside0.mk hB
      have HR := Aside0.mk hr
      have HN := Aside0.mk hn
      have HG := Aside0.mk hg
      have HK := Aside0.mk hK
      have hgl := hg.lt
      clear HRa HNa HGa HBa HKa
      rcases Nat.lt_or_ge i 32 with h32 | h32
      · have k0 := hn.cell (i / 8) (by omega)
        have f0 := hg.fro i
        have k1 := hg.cell i h32
        have hlt : ((i : Int) < 32) = True := eq_true (by omega)
        have hd := dig_limb V i
        have HS := Aside0.mk (part_step (a := ⟨0, 0, none⟩) hg h32)
        clear hB hr hn hg hK
        gi_wp2
        exact ⟨⟨i + 1, by omega, rfl, bel_set HB.out _ _ (show w.heap.size ≤ W.heap.size by omega), HR.out.other _ _ (show w.heap.size ≠ W.heap.size by omega), HN.out.other _ _ (show w.heap.size + 1 ≠ W.heap.size by omega), HS.out, (heap_setCell_other _ _ _ _ (show D ≠ W.heap.size by omega)).trans HK.out⟩, meas_up 32 i h32⟩
      · obtain rfl : i = 32 := by omega
        have HM := Aside0.mk (row_eq hg (fun j hj => if_pos hj))
        clear hB hr hn hg hK
        gi_wp2_with (first | refine stepIn_load HM.out Tryd.underlying22 info32 rfl rfl rfl rfl ?_ | (refine stepIn_storeG (dig 256 V) HR.out info32 rfl rfl rfl rfl rfl ?_; intro w4 hs hr4; have HS4 := Aside0.mk hs; have HR4 := Aside0.mk hr4; clear hs hr4))
        have hK4 := (HS4.out.other D (by omega)).trans HK.out
        refine ⟨by simp, .inl ⟨_, _, rfl, run_takeDeferred hK4, ?_⟩⟩
        have hr5 := HR4.out.kept (grownBy_putObj' _ D (.deferred none)) (fun r e => by cases e; exact ⟨_, hK4, rfl⟩)
        refine ⟨_, row_results rfl hr5 rfl Tryd.underlying22 rfl info32, by rw [← HV.out], (HS4.out.bel _ _ (Nat.le_refl _) HB.out).trans (belowK_b (w := w) (Nat.le_refl _) _ D _ _ (by omega) hK4 rfl rfl)⟩
  case stop =>
    rintro D c pre W _ _ h _
    exact h.elim
end Go.Proofs.YtaaipbhfikefaaaDoor.P
end

section
namespace Go.Proofs.YtaaipbhfikefaaaDoor.P
set_option linter.unusedVariables false
set_option linter.unusedSimpArgs false
open Go.RowKit Go.Proofs.YtaaipbhfikefaaaDoorW.PrintWords Go.Proofs.YtaaipbhfikefaaaDoorW.PrintLast Go.Proofs.YtaaipbhfikefaaaDoorW.PrintMore
attribute [local go_sem] setCell_drewN
theorem add_zero_at (g off j : Nat) : (⟨g, off, none⟩ : Addr).add j = ⟨g, off + j, none⟩ := by
  unfold Addr.add
  split
  · subst_vars; rfl
  · rfl
theorem Row.bytesAt {w : World} {g n m : Nat} {f : Nat → Int} {t : TypeId} (h : Row w g .u8 n f t) (hm : m ≤ n) : BytesAt w (some ⟨g, 0, none⟩) m f :=
  .inr ⟨_, rfl, fun j hj => by rw [add_zero_at, Nat.zero_add]; exact h.cell j (by omega)⟩
theorem BytesAt.congr {w : World} {a : Option Addr} {len : Nat} {z z' : Nat → Int} (h : BytesAt w a len z) (e : ∀ j, j < len → z j = z' j) : BytesAt w a len z' := by
  rcases h with h | ⟨x, hx, h⟩
  · exact .inl h
  · exact .inr ⟨x, hx, fun j hj => by rw [← e j hj]; exact h j hj⟩
/-- scalar.Rest, of bytes that are known where they are. -/
theorem rest_calls' (z : Nat → Int) (a : Option Addr) (len cap : Nat) (w : World) (ho : Ord w) (hz : ∀ j, j < len → 0 ≤ z j ∧ z j < 256) (hreach : len ≤ 140737488351232) (hI : BytesAt w a len z) :
    Calls Tryd.prog 25 #[.slice a len cap] w fun e w' => e = .returned (.agg (FR .u8 32 (dig 256 (val 256 z len % LL)))) ∧ Below w.heap.size w w' := by
  have h := rest_calls (fun j => if j < len then z j else 0) a len cap w ho (fun j => by
    by_cases hj : j < len
    · rw [if_pos hj]; exact hz j hj
    · rw [if_neg hj]; omega) hreach (hI.congr (fun j hj => (if_pos hj).symm))
  rw [val_congr 256 (fun j => if j < len then z j else 0) z len (fun j hj => if_pos hj)] at h
  exact h
/-- 32 bytes. -/
def By (f : Nat → Int) : Prop := ∀ j, j < 32 → 0 ≤ f j ∧ f j < 256
def N32 (f : Nat → Int) : Int := val 256 f 32
theorem N32_b (f : Nat → Int) (h : By f) : 0 ≤ N32 f ∧ N32 f < 256 ^ 32 := val_b 256 (by omega) f 32 h
theorem By.dig {f : Nat → Int} (h : By f) (j : Nat) (hj : j < 32) : f j = dig 256 (N32 f) j := dig_val 256 (by omega) f 32 h j hj
theorem dig_By (N : Int) : By (dig 256 N) := fun j _ => dig_b 256 (by omega) N j
theorem N32_dig (N : Int) (h : 0 ≤ N ∧ N < 256 ^ 32) : N32 (dig 256 N) = N := by unfold N32; rw [val_dig 256 (by omega), Int.emod_eq_of_lt h.1 h.2]
theorem info8 : (Tryd.prog.info? 5).map (·.size) = some 1 := by kernel_rfl
theorem modLL_b (x : Int) : 0 ≤ x % LL ∧ x % LL < 256 ^ 32 := by
  have e : (256 : Int) ^ 32 = 115792089237316195423570985008687907853269984665640564039457584007913129639936 := by decide
  rw [e]; unfold LL; omega
end Go.Proofs.YtaaipbhfikefaaaDoor.P
end

section
namespace Go.Proofs.YtaaipbhfikefaaaDoor.P
set_option linter.unusedVariables false
set_option linter.unusedSimpArgs false
open Go.RowKit Go.Proofs.YtaaipbhfikefaaaDoorW.PrintWords Go.Proofs.YtaaipbhfikefaaaDoorW.PrintLast Go.Proofs.YtaaipbhfikefaaaDoorW.PrintMore
attribute [local go_sem] setCell_drewN
/-- The columns' sums behind s of the products of 32 bytes with 32. -/
def pS (f g : Nat → Int) : Nat → Nat → Int
  | 0 => fun _ => 0
  | s + 1 => upd (pS f g s) (s / 32 + s % 32) (pS f g s (s / 32 + s % 32) + f (s / 32) * g (s % 32))
theorem pS_step (f g : Nat → Int) (i k : Nat) (hk : k < 32) : pS f g (32 * i + (k + 1)) = upd (pS f g (32 * i + k)) (i + k) (pS f g (32 * i + k) (i + k) + f i * g k) := by
  have e1 : (32 * i + k) / 32 = i := by omega
  have e2 : (32 * i + k) % 32 = k := by omega
  have h : pS f g (32 * i + k + 1) = upd (pS f g (32 * i + k)) ((32 * i + k) / 32 + (32 * i + k) % 32) (pS f g (32 * i + k) ((32 * i + k) / 32 + (32 * i + k) % 32) + f ((32 * i + k) / 32) * g ((32 * i + k) % 32)) := rfl
  rw [e1, e2] at h
  exact h
theorem byte_mul {x y : Int} (hx : 0 ≤ x ∧ x < 256) (hy : 0 ≤ y ∧ y < 256) : 0 ≤ x * y ∧ x * y ≤ 65025 :=
  ⟨Int.mul_nonneg hx.1 hy.1, Int.le_trans (Int.mul_le_mul_of_nonneg_right (show x ≤ 255 by omega) hy.1) (by omega)⟩
theorem pS_b (f g : Nat → Int) (hf : By f) (hg : By g) : ∀ s : Nat, s ≤ 1024 → ∀ j, 0 ≤ pS f g s j ∧ pS f g s j ≤ (s : Int) * 65025
  | 0, _, j => by simp [pS]
  | s + 1, hs, j => by
    have ih := pS_b f g hf hg s (by omega)
    have hp := byte_mul (hf (s / 32) (by omega)) (hg (s % 32) (by omega))
    have h1 := ih j
    have h2 := ih (s / 32 + s % 32)
    rw [pS]
    unfold upd
    split
    · constructor <;> push_cast <;> omega
    · constructor <;> push_cast <;> omega
theorem pS_val (N : Nat) (hN : 63 ≤ N) (f g : Nat → Int) : ∀ i, i ≤ 32 → val 256 (pS f g (32 * i)) N = val 256 f i * val 256 g 32 := by
  have row : ∀ i, i < 32 → val 256 (pS f g (32 * i)) N = val 256 f i * val 256 g 32 → ∀ k, k ≤ 32 → val 256 (pS f g (32 * i + k)) N = val 256 f i * val 256 g 32 + f i * 256 ^ i * val 256 g k := by
    intro i hi h0 k
    induction k with
    | zero => intro _; show val 256 (pS f g (32 * i)) N = _; rw [h0]; simp [val]
    | succ k ih =>
      intro hk
      rw [pS_step f g i k (by omega), val_upd 256 _ _ _ N (by omega), ih (by omega), val_succ 256 g k, Int.pow_add]
      grind
  intro i
  induction i with
  | zero =>
    intro _
    show val 256 (fun _ => 0) N = _
    have : ∀ n, val 256 (fun _ => 0) n = 0 := fun n => by induction n with
      | zero => rfl
      | succ n ih => rw [val, ih]; simp
    rw [this]; simp [val]
  | succ i ih =>
    intro hi
    have h := row i (by omega) (ih (by omega)) 32 (by omega)
    rw [show 32 * (i + 1) = 32 * i + 32 by omega, h, val_succ 256 f i]
    grind
/-- The sums, with the third number's bytes. -/
def pH (f g c : Nat → Int) (j : Nat) : Int := pS f g 1024 j + if j < 32 then c j else 0
theorem val_ext0 (B : Int) (c : Nat → Int) (m : Nat) : ∀ n, m ≤ n → val B (fun j => if j < m then c j else 0) n = val B c m
  | 0, h => by obtain rfl : m = 0 := by omega
               rfl
  | n + 1, h => by
    by_cases e : m = n + 1
    · subst e
      exact val_congr B _ _ _ (fun j hj => if_pos hj)
    · rw [val, val_ext0 B c m n (by omega), if_neg (by omega)]
      simp
theorem pH_val (f g c : Nat → Int) : val 256 (pH f g c) 64 = N32 f * N32 g + N32 c := by
  have h1 := pS_val 64 (by omega) f g 32 (by omega)
  have h2 := val_ext0 256 c 32 64 (by omega)
  have h3 : val 256 (pH f g c) 64 = val 256 (pS f g 1024) 64 + val 256 (fun j => if j < 32 then c j else 0) 64 := val_add 256 _ _ 64
  rw [h3, h2]
  show _ = val 256 f 32 * val 256 g 32 + val 256 c 32
  rw [← h1]
theorem pH_b (f g c : Nat → Int) (hf : By f) (hg : By g) (hc : By c) (j : Nat) : 0 ≤ pH f g c j ∧ pH f g c j ≤ 66586000 := by
  have h1 := pS_b f g hf hg 1024 (by omega) j
  unfold pH
  split
  · have := hc j (by omega); omega
  · omega
theorem cyH_b (f g c : Nat → Int) (hf : By f) (hg : By g) (hc : By c) : ∀ i, 0 ≤ cy 256 (pH f g c) i ∧ cy 256 (pH f g c) i ≤ 300000
  | 0 => by simp [cy]
  | i + 1 => by
    have h1 := cyH_b f g c hf hg hc i
    have h2 := pH_b f g c hf hg hc i
    show 0 ≤ (pH f g c i + cy 256 (pH f g c) i) / 256 ∧ _
    have e : cy 256 (pH f g c) (i + 1) = (pH f g c i + cy 256 (pH f g c) i) / 256 := rfl
    rw [e]; omega
/-- The bytes that MulAdd hands to Rest. -/
def mB (f g c : Nat → Int) (j : Nat) : Int := if j < 64 then (pH f g c j + cy 256 (pH f g c) j) % 256 else if j = 64 then cy 256 (pH f g c) 64 % 256 else cy 256 (pH f g c) 64 / 256 % 256
theorem mB_b (f g c : Nat → Int) (j : Nat) : 0 ≤ mB f g c j ∧ mB f g c j < 256 := by
  unfold mB; split
  · omega
  · split <;> omega
theorem cy64_b (f g c : Nat → Int) (hf : By f) (hg : By g) (hc : By c) : cy 256 (pH f g c) 64 < 65536 := by
  have h := (cy_div 256 (by omega) (pH f g c) 64).1
  rw [pH_val] at h
  have ha := N32_b f hf
  have hb := N32_b g hg
  have hcc := N32_b c hc
  have hm : N32 f * N32 g ≤ 256 ^ 32 * 256 ^ 32 := Int.le_trans (Int.mul_le_mul_of_nonneg_right (Int.le_of_lt ha.2) hb.1) (Int.mul_le_mul_of_nonneg_left (Int.le_of_lt hb.2) (by decide))
  have e1 : (256 : Int) ^ 32 = 115792089237316195423570985008687907853269984665640564039457584007913129639936 := by decide
  have e2 : (256 : Int) ^ 64 = 13407807929942597099574024998205846127479365820592393377723561443721764030073546976801874298166903427690031858186486050853753882811946569946433649006084096 := by decide
  rw [h, e2]
  rw [e1] at hm hcc
  generalize N32 f * N32 g = p at *
  omega
theorem mB_val (f g c : Nat → Int) (hf : By f) (hg : By g) (hc : By c) : val 256 (mB f g c) 66 = N32 f * N32 g + N32 c := by
  have h1 := cy_val 256 (by omega) (pH f g c) 64
  rw [pH_val] at h1
  have h2 := cy64_b f g c hf hg hc
  have h3 := (cyH_b f g c hf hg hc 64).1
  have e1 : val 256 (mB f g c) 64 = val 256 (fun i => (pH f g c i + cy 256 (pH f g c) i) % 256) 64 := val_congr 256 _ _ 64 (fun j hj => if_pos hj)
  have e2 : mB f g c 64 = cy 256 (pH f g c) 64 % 256 := by unfold mB; rw [if_neg (by omega), if_pos rfl]
  have e3 : mB f g c 65 = cy 256 (pH f g c) 64 / 256 % 256 := by unfold mB; rw [if_neg (by omega), if_neg (by omega)]
  rw [val_succ, val_succ, e1, e2, e3, ← h1]
  generalize val 256 (fun i => (pH f g c i + cy 256 (pH f g c) i) % 256) 64 = v
  generalize cy 256 (pH f g c) 64 = y at *
  have e4 : (256 : Int) ^ 65 = 256 ^ 64 * 256 := Int.pow_succ 256 64
  rw [e4]
  generalize (256 : Int) ^ 64 = q
  have e5 : y / 256 % 256 = y / 256 := by omega
  have e6 : y = y % 256 + 256 * (y / 256) := by omega
  rw [e5]
  generalize y % 256 = a at *
  generalize y / 256 = b at *
  subst e6
  grind
end Go.Proofs.YtaaipbhfikefaaaDoor.P
end

section
namespace Go.Proofs.YtaaipbhfikefaaaDoor.P
set_option linter.unusedVariables false
set_option linter.unusedSimpArgs false
open Go.RowKit Go.Proofs.YtaaipbhfikefaaaDoorW.PrintWords Go.Proofs.YtaaipbhfikefaaaDoorW.PrintLast Go.Proofs.YtaaipbhfikefaaaDoorW.PrintMore
attribute [local go_sem] setCell_drewN
theorem u32w (x : Int) (h : 0 ≤ x ∧ x < 4294967296) : IntKind.u32.wrap x = x := by
  have : x % 4294967296 = x := by omega
  exact this
theorem info64 : (Tryd.prog.info? 81).map (·.size) = some 64 := by kernel_rfl
theorem info4 : (Tryd.prog.info? 57).map (·.size) = some 1 := by kernel_rfl
theorem info8p : (Tryd.prog.info? 5).map (fun i => (i.zero, i.size, i.bytes)) = some (some (.int .u8 0), 1, 1) := by kernel_rfl
theorem index32 (f : Nat → Int) (i : Nat) (hi : i < 32) (w : World) : (Instr.index 22 (.agg (FR .u8 32 f)) (.int .i64 (i : Int))).run Tryd.prog w = .ok (.int .u8 (f i)) w := run_index_FR Tryd.underlying22 Tryd.underlying5 info8 f i hi w
theorem index64 (f : Nat → Int) (i : Nat) (hi : i < 64) (w : World) : (Instr.index 81 (.agg (FR .u32 64 f)) (.int .i64 (i : Int))).run Tryd.prog w = .ok (.int .u32 (f i)) w := run_index_FR Tryd.underlying81 Tryd.underlying57 info4 f i hi w
theorem ij_nat (i k : Nat) : ((i : Int) + (k : Int)).toNat = i + k := by omega
/-- A slice that the call owns, of n bytes. -/
def OwnB (w : World) (base : Nat) (v : Value) (n : Nat) (z : Nat → Int) : Prop := w.ownsRow base 5 1 v n ((List.range n).map fun j => Value.int .u8 (z j))
theorem OwnB.kept {w w' : World} {base n : Nat} {v : Value} {z : Nat → Int} {row : Option Nat} (h : OwnB w base v n z) (hg : w.grownBy w' row) (hr : ∀ k, row = some k → k < base) : OwnB w' base v n z := by
  refine World.ownsRow.kept h hg ?_
  rcases h.2 with ⟨rfl, _⟩ | ⟨g, cap, cur, rfl, hb, _⟩
  · exact .inl rfl
  · refine .inr fun e => ?_
    have := hr g (by rw [← e]; rfl)
    omega
theorem OwnB.bytesAt {w : World} {base n : Nat} {v : Value} {z : Nat → Int} (h : OwnB w base v n z) : ∃ a c, v = .slice a n c ∧ BytesAt w a n z := by
  rcases h.2 with ⟨rfl, rfl⟩ | ⟨g, cap, cur, rfl, hb, hg, hn, hm, hs, ht⟩
  · exact ⟨none, 0, rfl, .inl ⟨rfl, rfl⟩⟩
  · refine ⟨_, cap, rfl, .inr ⟨_, rfl, fun j hj => ?_⟩⟩
    rw [add_zero_at, Nat.zero_add, cell_of_row w g j cur _ _ hg]
    have e : (cur.toList.take (n * 1))[j]? = some (.int .u8 (z j)) := by
      rw [ht]
      simp [hj]
    rw [List.getElem?_take_of_lt (by omega)] at e
    simpa using e
theorem OwnB.push {n : Nat} (z : Nat → Int) : ((List.range n).map fun j => Value.int .u8 (z j)) ++ [Value.int .u8 (z n)] = (List.range (n + 1)).map fun j => Value.int .u8 (z j) := by
  rw [List.range_succ]; simp
theorem news_one (w : World) (v : Value) (t : TypeId) : ∀ (j : Nat) (u : Value), [v][j]? = some u → (w.alloc (.cells #[v] t)).cell? ((⟨w.heap.size, 0, none⟩ : Addr).add j) = some u := fun j u h => by
  rw [add_zero_at, Nat.zero_add, cell_of_row _ _ _ _ _ _ (heap_alloc_new w _)]
  simpa using h
theorem news_two (w : World) (v v' : Value) (t : TypeId) : ∀ (j : Nat) (u : Value), [v, v'][j]? = some u → (w.alloc (.cells #[v, v'] t)).cell? ((⟨w.heap.size, 0, none⟩ : Addr).add j) = some u := fun j u h => by
  rw [add_zero_at, Nat.zero_add, cell_of_row _ _ _ _ _ _ (heap_alloc_new w _)]
  simpa using h
def MRow (f g c : Nat → Int) (w : World) (s : Nat) (wr : World) : Prop :=
  Below w.heap.size w wr ∧ Row wr (w.heap.size) .u8 32 f 22 ∧ Row wr (w.heap.size + 1) .u8 32 g 22 ∧ Row wr (w.heap.size + 1 + 1) .u8 32 c 22 ∧ Row wr (w.heap.size + 1 + 1 + 1) .u8 32 (fun _ => 0) 22 ∧ Row wr (w.heap.size + 1 + 1 + 1 + 1) .u32 64 (pS f g s) 81 ∧ wr.heap.size = w.heap.size + 1 + 1 + 1 + 1 + 1
def MRel1 (f g c : Nat → Int) (w : World) (v17 : Value) (wr : World) : Prop := ∃ i : Nat, i ≤ 32 ∧ v17 = .int .i64 (i : Int) ∧ MRow f g c w (32 * i) wr
def MRel2 (f g c : Nat → Int) (w : World) (i : Nat) (v22 : Value) (wr : World) : Prop := ∃ k : Nat, k ≤ 32 ∧ v22 = .int .i64 (k : Int) ∧ MRow f g c w (32 * i + k) wr
def MRel3 (f g c : Nat → Int) (w : World) (v42 v12 v13 : Value) (wr : World) : Prop :=
  ∃ i : Nat, i ≤ 64 ∧ v42 = .int .i64 (i : Int) ∧ v13 = .int .u32 (cy 256 (pH f g c) i) ∧ OwnB wr (w.heap.size + 1 + 1 + 1 + 1 + 1) v12 i (mB f g c) ∧ Below w.heap.size w wr ∧ Row wr (w.heap.size + 1 + 1) .u8 32 c 22 ∧ Row wr (w.heap.size + 1 + 1 + 1) .u8 32 (fun _ => 0) 22 ∧ w.heap.size + 1 + 1 + 1 + 1 + 1 ≤ wr.heap.size
theorem MRow.set {f g c : Nat → Int} {w wr : World} {i k : Nat} (h : MRow f g c w (32 * i + k) wr) (hi : i < 32) (hk : k < 32) : MRow f g c w (32 * i + (k + 1)) (wr.setCell ⟨w.heap.size + 1 + 1 + 1 + 1, i + k, none⟩ (.int .u32 (pS f g (32 * i + k) (i + k) + f i * g k))) := by
  obtain ⟨hb, h0, h1, h2, h3, h4, h5⟩ := h
  refine ⟨bel_set hb _ _ (show w.heap.size ≤ w.heap.size + 1 + 1 + 1 + 1 by omega), h0.other _ _ (show w.heap.size ≠ w.heap.size + 1 + 1 + 1 + 1 by omega), h1.other _ _ (show w.heap.size + 1 ≠ w.heap.size + 1 + 1 + 1 + 1 by omega), h2.other _ _ (show w.heap.size + 1 + 1 ≠ w.heap.size + 1 + 1 + 1 + 1 by omega), h3.other _ _ (show w.heap.size + 1 + 1 + 1 ≠ w.heap.size + 1 + 1 + 1 + 1 by omega), ?_, by rw [← h5]; simp [World.setCell]⟩
  rw [pS_step f g i k hk]
  exact h4.set (i + k) _ (by omega)
set_option maxRecDepth 100000 in
set_option maxHeartbeats 2000000 in
theorem muladd_calls (f g c : Nat → Int) (w : World) (ho : Ord w) (hf : By f) (hg : By g) (hc : By c) :
    Calls Tryd.prog 26 #[.agg (FR .u8 32 f), .agg (FR .u8 32 g), .agg (FR .u8 32 c)] w fun e w' => e = .returned (.agg (FR .u8 32 (dig 256 ((N32 f * N32 g + N32 c) % LL)))) ∧ Below w.heap.size w w' := by
  have HO := Aside0.mk ho
  have HF := Aside0.mk hf
  have HG := Aside0.mk hg
  have HC := Aside0.mk hc
  clear ho hf hg hc
  go_enter Tryd.func26, Tryd.ntmps26
  have hz1 : (w.alloc (.cells (FR .u8 32 f) 22)).heap.size = w.heap.size + 1 := by simp
  have hz2 : ((w.alloc (.cells (FR .u8 32 f) 22)).alloc (.cells (FR .u8 32 g) 22)).heap.size = w.heap.size + 1 + 1 := by simp
  have hz3 : (((w.alloc (.cells (FR .u8 32 f) 22)).alloc (.cells (FR .u8 32 g) 22)).alloc (.cells (FR .u8 32 c) 22)).heap.size = w.heap.size + 1 + 1 + 1 := by simp
  have hz4 : ((((w.alloc (.cells (FR .u8 32 f) 22)).alloc (.cells (FR .u8 32 g) 22)).alloc (.cells (FR .u8 32 c) 22)).alloc (.cells (FR .u8 32 fun _ => 0) 22)).heap.size = w.heap.size + 1 + 1 + 1 + 1 := by simp
  have hz5 : (((((w.alloc (.cells (FR .u8 32 f) 22)).alloc (.cells (FR .u8 32 g) 22)).alloc (.cells (FR .u8 32 c) 22)).alloc (.cells (FR .u8 32 fun _ => 0) 22)).alloc (.cells (FR .u32 64 fun _ => 0) 81)).heap.size = w.heap.size + 1 + 1 + 1 + 1 + 1 := by simp
  have HR0 := Aside0.mk (Row.alloc (Row.alloc (Row.alloc (Row.alloc (show Row (w.alloc (.cells (FR .u8 32 f) 22)) (w.heap.size) .u8 32 f 22 from by have h := (Row.new w .u8 32 f 22); exact h) (.cells (FR .u8 32 g) 22)) (.cells (FR .u8 32 c) 22)) (.cells (FR .u8 32 fun _ => 0) 22)) (.cells (FR .u32 64 fun _ => 0) 81))
  have HR1 := Aside0.mk (Row.alloc (Row.alloc (Row.alloc (show Row ((w.alloc (.cells (FR .u8 32 f) 22)).alloc (.cells (FR .u8 32 g) 22)) (w.heap.size + 1) .u8 32 g 22 from by have h := (Row.new (w.alloc (.cells (FR .u8 32 f) 22)) .u8 32 g 22); rw [hz1] at h; exact h) (.cells (FR .u8 32 c) 22)) (.cells (FR .u8 32 fun _ => 0) 22)) (.cells (FR .u32 64 fun _ => 0) 81))
  have HR2 := Aside0.mk (Row.alloc (Row.alloc (show Row (((w.alloc (.cells (FR .u8 32 f) 22)).alloc (.cells (FR .u8 32 g) 22)).alloc (.cells (FR .u8 32 c) 22)) (w.heap.size + 1 + 1) .u8 32 c 22 from by have h := (Row.new ((w.alloc (.cells (FR .u8 32 f) 22)).alloc (.cells (FR .u8 32 g) 22)) .u8 32 c 22); rw [hz2] at h; exact h) (.cells (FR .u8 32 fun _ => 0) 22)) (.cells (FR .u32 64 fun _ => 0) 81))
  have HR3 := Aside0.mk (Row.alloc (show Row ((((w.alloc (.cells (FR .u8 32 f) 22)).alloc (.cells (FR .u8 32 g) 22)).alloc (.cells (FR .u8 32 c) 22)).alloc (.cells (FR .u8 32 fun _ => 0) 22)) (w.heap.size + 1 + 1 + 1) .u8 32 (fun _ => 0) 22 from by have h := (Row.new (((w.alloc (.cells (FR .u8 32 f) 22)).alloc (.cells (FR .u8 32 g) 22)).alloc (.cells (FR .u8 32 c) 22)) .u8 32 (fun _ => 0) 22); rw [hz3] at h; exact h) (.cells (FR .u32 64 fun _ => 0) 81))
  have HR4 := Aside0.mk (show Row (((((w.alloc (.cells (FR .u8 32 f) 22)).alloc (.cells (FR .u8 32 g) 22)).alloc (.cells (FR .u8 32 c) 22)).alloc (.cells (FR .u8 32 fun _ => 0) 22)).alloc (.cells (FR .u32 64 fun _ => 0) 81)) (w.heap.size + 1 + 1 + 1 + 1) .u32 64 (fun _ => 0) 81 from by have h := (Row.new ((((w.alloc (.cells (FR .u8 32 f) 22)).alloc (.cells (FR .u8 32 g) 22)).alloc (.cells (FR .u8 32 c) 22)).alloc (.cells (FR .u8 32 fun _ => 0) 22)) .u32 64 (fun _ => 0) 81); rw [hz4] at h; exact h)
  have HB0 := Aside0.mk (Below.alloc (Below.alloc (Below.alloc (Below.alloc (Below.alloc (Below.refl w.heap.size w) (by omega) (.cells (FR .u8 32 f) 22)) (by simp; try omega) (.cells (FR .u8 32 g) 22)) (by simp; try omega) (.cells (FR .u8 32 c) 22)) (by simp; try omega) (.cells (FR .u8 32 fun _ => 0) 22)) (by simp; try omega) (.cells (FR .u32 64 fun _ => 0) 81))
  have HM0 : Aside0 (MRow f g c w (32 * 0) (((((w.alloc (.cells (FR .u8 32 f) 22)).alloc (.cells (FR .u8 32 g) 22)).alloc (.cells (FR .u8 32 c) 22)).alloc (.cells (FR .u8 32 fun _ => 0) 22)).alloc (.cells (FR .u32 64 fun _ => 0) 81))) := ⟨HB0.out, HR0.out, HR1.out, HR2.out, HR3.out, HR4.out, hz5⟩
  clear hz1 hz2 hz3 hz4 hz5 HB0 HR1 HR2 HR3 HR4
  go_wp2_with (refine step_load HR0.out Tryd.underlying22 info32 rfl rfl rfl rfl ?_)
  clear HR0
  go_loopw [17] (fun v17 wr => MRel1 f g c w v17 wr) (fun v _ => 32 - (intOf v).toNat)
  case atStart => exact ⟨0, by omega, rfl, HM0.out⟩
  case round =>
    clear HM0
    obtain ⟨i, hi, rfl, hm⟩ := hrel
    have HM := Aside0.mk hm
    have HRg := Aside0.mk hm.2.2.1
    have HRs := Aside0.mk hm.2.2.2.2.2.1
    clear hm
    rcases Nat.lt_or_ge i 32 with h32 | h32
    · have hlt : ((i : Int) < 32) = True := eq_true (by omega)
      have hix := index32 f i h32
      go_wp2_with (refine step_load HRg.out Tryd.underlying22 info32 rfl rfl rfl rfl ?_)
      clear hix
      go_loopw [22] (fun v22 wr => MRel2 f g c w i v22 wr) (fun v _ => 32 - (intOf v).toNat)
      case atStart => exact ⟨0, by omega, rfl, HM.out⟩
      case round =>
        clear HM HRg HRs
        obtain ⟨k, hk, rfl, hm⟩ := hrel
        have HM := Aside0.mk hm
        have ht := hm.2.2.2.2.2.1
        clear hm
        rcases Nat.lt_or_ge k 32 with h33 | h33
        · have hltk : ((k : Int) < 32) = True := eq_true (by omega)
          have hlt63 : ((i : Int) + (k : Int) < 64) = True := eq_true (by omega)
          have hij := ij_nat i k
          have hix := index32 g k h33
          have q1 : wrap64 ((i : Int) + (k : Int)) = (i : Int) + (k : Int) := w64 _ (by omega)
          have q2 : IntKind.i64.wrap ((i : Int) + (k : Int)) = (i : Int) + (k : Int) := i64w _ (by omega)
          have k2 := ht.cell (i + k) (by omega)
          have f2 := ht.fro (i + k)
          have hp := byte_mul (HF.out i h32) (HG.out k h33)
          have hs := pS_b f g HF.out HG.out (32 * i + k) (by omega) (i + k)
          have hfi := HF.out i h32
          have hgk := HG.out k h33
          have HS := Aside0.mk (HM.out.set h32 h33)
          have q3 : IntKind.u32.wrap (f i) = f i := u32w _ (by omega)
          have q4 : IntKind.u32.wrap (g k) = g k := u32w _ (by omega)
          generalize hfg : f i * g k = p at *
          have q5 : IntKind.u32.wrap p = p := u32w _ (by omega)
          have q6 : IntKind.u32.wrap (pS f g (32 * i + k) (i + k) + p) = pS f g (32 * i + k) (i + k) + p := u32w _ (by omega)
          clear ht hp hs hfi hgk
          go_wp2_with fail
          exact ⟨⟨k + 1, by omega, rfl, HS.out⟩, meas_up 32 k h33⟩
        · obtain rfl : k = 32 := by omega
          clear ht
          go_wp2_with fail
          exact ⟨⟨i + 1, by omega, rfl, HM.out⟩, meas_up 32 i h32⟩
    · obtain rfl : i = 32 := by omega
      clear HRg
      obtain ⟨ix, hinf, hx1, hx2, hx3⟩ := info_parts info8p
      have HI := Aside0.mk hinf
      have HX1 := Aside0.mk hx1
      have HX2 := Aside0.mk hx2
      have HX3 := Aside0.mk hx3
      have HSZ := Aside0.mk HM.out.2.2.2.2.2.2
      clear hinf hx1 hx2 hx3
      have HMr := Aside0.mk HM.out.2.2.2.1
      have HMz := Aside0.mk HM.out.2.2.2.2.1
      have HMb := Aside0.mk HM.out.1
      clear HM
      go_wp2_with (first | (refine wpList_make_own wr rfl _ _ 39 rfl (w.heap.size + 1 + 1 + 1 + 1 + 1) 5 ix (.int .u8 0) 1 Tryd.underlying39 HI.out HX1.out HX2.out .i64 .i64 68 68 rfl rfl rfl (by rw [HX3.out]; omega) (by unfold maxLen; omega) (by rw [HSZ.out]; omega) ?_; intro w5 hown hgr; have HOW := Aside0.mk hown; have HR5 : Aside0 (Row w5 (w.heap.size + 1 + 1 + 1 + 1) .u32 64 (pS f g 1024) 81) := ⟨(hgr.block _ (by rw [HSZ.out]; omega) (by simp)).trans HRs.out⟩; have HR3 : Aside0 (Row w5 (w.heap.size + 1 + 1 + 1) .u8 32 (fun _ => 0) 22) := ⟨(hgr.block _ (by rw [HSZ.out]; omega) (by simp)).trans HMz.out⟩; have HR2 : Aside0 (Row w5 (w.heap.size + 1 + 1) .u8 32 c 22) := ⟨(hgr.block _ (by rw [HSZ.out]; omega) (by simp)).trans HMr.out⟩; have HB5 := Aside0.mk (HMb.out.grown hgr (by rw [HSZ.out]; omega) (fun k e => by cases e)); have HL5 := Aside0.mk hgr.size; clear hown hgr) | refine step_load HR5.out Tryd.underlying81 info64 rfl rfl rfl rfl ?_)
      rw [HSZ.out] at HOW HL5
      clear HRs HMr HMz HMb
      rw [HSZ.out]
      clear HSZ
      go_loopw [42, 12, 13] (fun v42 v12 v13 wr => MRel3 f g c w v42 v12 v13 wr) (fun v _ _ _ => 64 - (intOf v).toNat)
      case atStart => exact ⟨0, by omega, rfl, rfl, HOW.out, HB5.out, HR2.out, HR3.out, HL5.out⟩
      case round =>
        clear HOW HB5 HR2 HR3 HL5 HR5
        obtain ⟨i, hi, rfl, rfl, hown, hb, hc, hz, hl⟩ := hrel
        have HOW := Aside0.mk hown
        have HB := Aside0.mk hb
        have HCr := Aside0.mk hc
        have HZ := Aside0.mk hz
        have HL := Aside0.mk hl
        have HOWa := Aside0.mk (fun x : Int => hown.kept (World.grownBy_alloc wr (.cells #[.int .u8 x] 5) none) (by simp))
        have HCE := Aside0.mk (fun (j : Nat) (hj : j < 32) => hc.cell j hj)
        clear hown hb hc hz
        rcases Nat.lt_or_ge i 64 with h64 | h64
        · have hlt : ((i : Int) < 64) = True := eq_true (by omega)
          have hix := index64 (pS f g 1024) i h64
          have hcb := cyH_b f g c HF.out HG.out HC.out i
          have hpb := pS_b f g HF.out HG.out 1024 (by omega) i
          have hY : pH f g c i + cy 256 (pH f g c) i = pS f g 1024 i + (if i < 32 then c i else 0) + cy 256 (pH f g c) i := rfl
          have HCY : Aside0 (cy 256 (pH f g c) (i + 1) = (pH f g c i + cy 256 (pH f g c) i) / 256) := ⟨rfl⟩
          have HMB : Aside0 (mB f g c i = (pH f g c i + cy 256 (pH f g c) i) % 256) := ⟨if_pos h64⟩
          generalize pH f g c i + cy 256 (pH f g c) i = Y at *
          have HOWa := Aside0.mk (HOWa.out (Y % 256))
          rcases Nat.lt_or_ge i 32 with h33 | h33
          · have hlt2 : ((i : Int) < 32) = True := eq_true (by omega)
            have hci := HC.out i h33
            have k0 := HCE.out i h33
            rw [if_pos h33] at hY
            generalize cy 256 (pH f g c) i = y at *
            generalize pS f g 1024 i = p at *
            generalize c i = ci at *
            have q0 : IntKind.u32.wrap ci = ci := u32w _ (by omega)
            have q1 : IntKind.u32.wrap (y + ci) = y + ci := u32w _ (by omega)
            have q2 : IntKind.u32.wrap (y + ci + p) = Y := by rw [u32w _ (by omega)]; omega
            clear hci hcb hpb hY
            go_wp2_with (refine wpList_append_own _ rfl _ _ 39 rfl (w.heap.size + 1 + 1 + 1 + 1 + 1) 5 ix (.int .u8 0) 1 1 Tryd.underlying39 HI.out HX1.out HX2.out HX3.out rfl (by decide) _ i _ rfl HOWa.out ⟨wr.heap.size, 0, none⟩ 1 1 [.int .u8 (Y % 256)] rfl rfl (news_one _ _ _) (by simp [Value.oneCell']) (by unfold maxLen; omega) (by omega) (by simp; omega) ?_; intro v5 w5 ho5 hg5 _; have HO5 := Aside0.mk ho5; have HG5 := Aside0.mk hg5; clear ho5 hg5)
            have HB5 := Aside0.mk ((HB.out.alloc (by omega) (.cells #[.int .u8 (Y % 256)] 5)).grown HG5.out (by simp; omega) (fun k e => by have := (World.ownsRow.lt HOWa.out k e).1; omega))
            have HC5 : Aside0 (Row w5 (w.heap.size + 1 + 1) .u8 32 c 22) := ⟨(HG5.out.block _ (by simp; omega) (fun e => by have := (World.ownsRow.lt HOWa.out _ e.symm).1; omega)).trans (HCr.out.alloc _)⟩
            have HZ5 : Aside0 (Row w5 (w.heap.size + 1 + 1 + 1) .u8 32 (fun _ => 0) 22) := ⟨(HG5.out.block _ (by simp; omega) (fun e => by have := (World.ownsRow.lt HOWa.out _ e.symm).1; omega)).trans (HZ.out.alloc _)⟩
            refine ⟨⟨i + 1, by omega, rfl, by rw [HCY.out], ?_, HB5.out, HC5.out, HZ5.out, by have := HG5.out.size; simp at this; omega⟩, meas_up 64 i h64⟩
            have e := OwnB.push (n := i) (mB f g c)
            rw [HMB.out] at e
            unfold OwnB
            rw [← e]
            exact HO5.out
          · have hlt2 : ((i : Int) < 32) = False := eq_false (by omega)
            rw [if_neg (by omega)] at hY
            generalize cy 256 (pH f g c) i = y at *
            generalize pS f g 1024 i = p at *
            have q2 : IntKind.u32.wrap (y + p) = Y := by rw [u32w _ (by omega)]; omega
            clear hcb hpb hY
            go_wp2_with (refine wpList_append_own _ rfl _ _ 39 rfl (w.heap.size + 1 + 1 + 1 + 1 + 1) 5 ix (.int .u8 0) 1 1 Tryd.underlying39 HI.out HX1.out HX2.out HX3.out rfl (by decide) _ i _ rfl HOWa.out ⟨wr.heap.size, 0, none⟩ 1 1 [.int .u8 (Y % 256)] rfl rfl (news_one _ _ _) (by simp [Value.oneCell']) (by unfold maxLen; omega) (by omega) (by simp; omega) ?_; intro v5 w5 ho5 hg5 _; have HO5 := Aside0.mk ho5; have HG5 := Aside0.mk hg5; clear ho5 hg5)
            have HB5 := Aside0.mk ((HB.out.alloc (by omega) (.cells #[.int .u8 (Y % 256)] 5)).grown HG5.out (by simp; omega) (fun k e => by have := (World.ownsRow.lt HOWa.out k e).1; omega))
            have HC5 : Aside0 (Row w5 (w.heap.size + 1 + 1) .u8 32 c 22) := ⟨(HG5.out.block _ (by simp; omega) (fun e => by have := (World.ownsRow.lt HOWa.out _ e.symm).1; omega)).trans (HCr.out.alloc _)⟩
            have HZ5 : Aside0 (Row w5 (w.heap.size + 1 + 1 + 1) .u8 32 (fun _ => 0) 22) := ⟨(HG5.out.block _ (by simp; omega) (fun e => by have := (World.ownsRow.lt HOWa.out _ e.symm).1; omega)).trans (HZ.out.alloc _)⟩
            refine ⟨⟨i + 1, by omega, rfl, by rw [HCY.out], ?_, HB5.out, HC5.out, HZ5.out, by have := HG5.out.size; simp at this; omega⟩, meas_up 64 i h64⟩
            have e := OwnB.push (n := i) (mB f g c)
            rw [HMB.out] at e
            unfold OwnB
            rw [← e]
            exact HO5.out
        · obtain rfl : i = 64 := by omega
          have HM1 : Aside0 (mB f g c 64 = cy 256 (pH f g c) 64 % 256) := ⟨by unfold mB; rw [if_neg (by omega), if_pos rfl]⟩
          have HM2 : Aside0 (mB f g c 65 = cy 256 (pH f g c) 64 / 256 % 256) := ⟨by unfold mB; rw [if_neg (by omega), if_neg (by omega)]⟩
          have hcb := cyH_b f g c HF.out HG.out HC.out 64
          generalize cy 256 (pH f g c) 64 = y at *
          have HOWb := Aside0.mk (HOW.out.kept (World.grownBy_alloc wr (.cells #[.int .u8 (y % 256), .int .u8 (y / 256 % 256)] 5) none) (by simp))
          go_wp2_with (refine wpList_append_own _ rfl _ _ 39 rfl (w.heap.size + 1 + 1 + 1 + 1 + 1) 5 ix (.int .u8 0) 1 1 Tryd.underlying39 HI.out HX1.out HX2.out HX3.out rfl (by decide) _ 64 _ rfl HOWb.out ⟨wr.heap.size, 0, none⟩ 2 2 [.int .u8 (y % 256), .int .u8 (y / 256 % 256)] rfl rfl (news_two _ _ _ _) (by simp [Value.oneCell']) (by unfold maxLen; omega) (by omega) (by simp; omega) ?_; intro v5 w5 ho5 hg5 _; have hob : OwnB w5 (w.heap.size + 1 + 1 + 1 + 1 + 1) v5 66 (mB f g c) := (by have e1 := OwnB.push (n := 64) (mB f g c); have e2 := OwnB.push (n := 65) (mB f g c); rw [HM1.out] at e1; rw [HM2.out] at e2; unfold OwnB; rw [← e2, ← e1, List.append_assoc]; exact ho5); have HG5 := Aside0.mk hg5; obtain ⟨a5, c5, rfl, hbt⟩ := hob.bytesAt; have HBT := Aside0.mk hbt; clear ho5 hg5 hob hbt)
          have HB5 := Aside0.mk ((HB.out.alloc (by omega) (.cells #[.int .u8 (y % 256), .int .u8 (y / 256 % 256)] 5)).grown HG5.out (by simp; omega) (fun k e => by have := (World.ownsRow.lt HOWb.out k e).1; omega))
          have HZ5 : Aside0 (Row w5 (w.heap.size + 1 + 1 + 1) .u8 32 (fun _ => 0) 22) := ⟨(HG5.out.block _ (by simp; omega) (fun e => by have := (World.ownsRow.lt HOWb.out _ e.symm).1; omega)).trans (HZ.out.alloc _)⟩
          refine (rest_calls' (mB f g c) a5 66 c5 _ (HO.out.below HB5.out HO.out.lt) (fun j _ => mB_b f g c j) (by omega) HBT.out).mono ?_
          rintro e w6 ⟨rfl, hb6⟩
          have HB6 := Aside0.mk (HB5.out.trans (hb6.mono HB5.out.size))
          have HZ6 := Aside0.mk (HZ5.out.below hb6 HZ5.out.lt)
          clear hb6
          go_wp2_with (refine step_storeG _ HZ6.out info32 rfl rfl rfl rfl rfl ?_; intro w7 hs hr; have HS7 := Aside0.mk hs; have HR7 := Aside0.mk hr; clear hs hr)
          refine bodyPost_ret (row_results rfl HR7.out rfl Tryd.underlying22 rfl info32) rfl ?_
          refine ⟨?_, HS7.out.bel _ _ (by omega) HB6.out⟩
          rw [← mB_val f g c HF.out HG.out HC.out]
end Go.Proofs.YtaaipbhfikefaaaDoor.P
end

section
namespace Go.Proofs.YtaaipbhfikefaaaDoor.P
set_option linter.unusedVariables false
set_option linter.unusedSimpArgs false
open Go.RowKit Go.ChangeShapes Go.WideShapes Go.Proofs.YtaaipbhfikefaaaDoorW.PrintWords Go.Proofs.YtaaipbhfikefaaaDoorW.PrintLast Go.Proofs.YtaaipbhfikefaaaDoorW.PrintMore
theorem LN_LL : (LN : Int) = LL := by decide
theorem NZ_dig {x : Int} (h : 0 ≤ x) : NZ (dig 256 (x % LL)) = x.toNat % LN := by
  have e : Fd.N32 (dig 256 (x % LL)) = x % LL := Fd.N32_dig _ (modLL_b x)
  unfold NZ
  rw [e]
  obtain ⟨k, rfl⟩ : ∃ k : Nat, x = (k : Int) := ⟨x.toNat, (Int.toNat_of_nonneg h).symm⟩
  rw [← LN_LL, ← Int.natCast_emod]
  rfl
theorem N32_nn {z : Nat → Int} (hz : Fd.By z) : (Fd.N32 z) = (NZ z : Int) ∧ 0 ≤ Fd.N32 z := by
  have h : 0 ≤ Fd.N32 z := (N32_b z hz).1
  exact ⟨(Int.toNat_of_nonneg h).symm, h⟩
theorem order_mod (k : Nat) : basePt.mul fld (k % LN) = basePt.mul fld k := Pt.mul_mod fld basePt LN base_order k
theorem ord1 {z R : Nat → Int} (hz : Fd.By z) (h : dig 256 (N32 z % LL) = R) : basePt.mul fld (NZ z) = basePt.mul fld (NZ R) := by
  have e : N32 z = (NZ z : Int) := (N32_nn hz).1
  rw [← h, e, NZ_dig (Int.natCast_nonneg _), order_mod]
  rfl
theorem ord2 {n m R : Nat → Int} (hn : Fd.By n) (hm : Fd.By m) (h : dig 256 ((N32 n * N32 (smL 1) + N32 m) % LL) = R) : (basePt.mul fld (NZ n)).add fld (basePt.mul fld (NZ m)) = basePt.mul fld (NZ R) := by
  have e1 : N32 n = (NZ n : Int) := (N32_nn hn).1
  have e2 : N32 m = (NZ m : Int) := (N32_nn hm).1
  have e3 : N32 (smL 1) = 1 := N32_smL 1
  rw [← h, e1, e2, e3, Int.mul_one, ← Int.natCast_add, NZ_dig (Int.natCast_nonneg _), order_mod, ← Pt.mul_add]
  rfl
theorem ord3 {n m R : Nat → Int} (hn : Fd.By n) (hm : Fd.By m) (h : dig 256 ((N32 n * N32 m + N32 (fun _ => 0)) % LL) = R) : (basePt.mul fld (NZ n)).mul fld (NZ m) = basePt.mul fld (NZ R) := by
  have e1 : N32 n = (NZ n : Int) := (N32_nn hn).1
  have e2 : N32 m = (NZ m : Int) := (N32_nn hm).1
  have e3 : N32 (fun _ => 0) = 0 := by decide +kernel
  rw [← h, e1, e2, e3, Int.add_zero, ← Int.natCast_mul, NZ_dig (Int.natCast_nonneg _), order_mod, ← Pt.mul_mul]
  rfl
theorem Ord.to {w w' : World} (h : Ord w) (hb : Below w.heap.size w w') : Ord w' := h.below hb h.lt
theorem rest_as {z R : Nat → Int} (h : dig 256 (N32 z % LL) = R) {w : World} {g : Nat} {t : TypeId} (ho : Ord w) (hz : Fd.By z) (hr : Row w g .u8 32 z t) :
    Calls Tryd.prog 25 #[.slice (some ⟨g, 0, none⟩) 32 32] w fun e w' => e = .returned (.agg (FR .u8 32 R)) ∧ Below w.heap.size w w' := by
  rw [← h]; exact rest_calls' z _ 32 32 w ho hz (by omega) (hr.bytesAt (Nat.le_refl _))
theorem muladd_as {f g c R : Nat → Int} (h : dig 256 ((N32 f * N32 g + N32 c) % LL) = R) (w : World) (ho : Ord w) (hf : Fd.By f) (hg : Fd.By g) (hc : Fd.By c) :
    Calls Tryd.prog 26 #[.agg (FR .u8 32 f), .agg (FR .u8 32 g), .agg (FR .u8 32 c)] w fun e w' => e = .returned (.agg (FR .u8 32 R)) ∧ Below w.heap.size w w' := by
  rw [← h]; exact muladd_calls f g c w ho hf hg hc
section
variable {P : Program} {ops : Array Oper} {Q : Exit → Act → World → Prop} {B O : List Nat} {wE : World} {a0 : Act} {L : List (Nat × Tmp × SV)} {A : List Ent} {i : Nat}
/-- A call that is handed a row that is held, by its address or as a slice. -/
theorem st_callB {N : Tmp} {oi : Oper} (k r : Nat) (x : Ent) (v : SV) {f : FuncId} {fn : Func} {asx : Array Operand} {ts : Array TypeId} (args : (Nat → Nat) → Array Value) (hx : A[r]? = some x) (hoi : ops[i]? = some oi) (hN : oi.dst = some N) (hop : oi.op = .call { callee := .value (.func f), args := asx, argTypes := ts })
    (hw : ∀ b G, Ons B O i b → Offs B O i b → Region.wanted oi (yielded ops (putSel a0 b (vals G L)).tmps) = true) (hLo : LOk L) (hL : L[k]? = some (i, N, v)) (hA : (A.all fun x => !(x.born == some i) && !(x.stored == some i)) = true)
    (hf : P.funcs[f]? = some fn) (hname : (fn.name == "runtime.NumGoroutine") = false) (hbd : fn.body.isSome = true) (hbo : onB B O i x.born = true) (hst : offB B O i x.stored = true) (hargs : ∀ b G, Ons B O i b → Offs B O i b → asx.map (putSel a0 b (vals G L)).eval = args G)
    (hc : ∀ G w, Below wE.heap.size wE w → Row w (x.ad G) x.k x.n x.f0 x.t → Calls P f (args G) w fun e w' => e = .returned (v.at G) ∧ Below w.heap.size w w') : StepAt P ops Q B O (RI wE a0 L A) i :=
  st_keep k v hoi hN hLo hL hA (fun b G w K hB hon hoff hR hK => by
    have h := (hR x (List.mem_of_getElem? hx) (onB_is hbo hon)).2
    have e : x.f b = x.f0 := by unfold Ent.f; rw [offB_is hst hoff]; rfl
    rw [e] at h
    exact goes_ hf hname hbd (args G) (hw b G hon hoff) rfl hop (hargs b G hon hoff) ((hc G w hB h).mono (by
      rintro e w' ⟨rfl, hb⟩
      exact ⟨_, rfl, hK _ hb⟩)))
end
theorem gCd2 : Tryd.prog.globalNamed "hustings/curve.d" = some 0 := by kernel_rfl
theorem tCd2 : (Tryd.prog.globals[(0 : Nat)]?).map (·.type) = some 22 := by kernel_rfl
theorem cellsD2 : Tryd.prog.cellsOf 22 = 32 := by kernel_rfl
theorem cellsU82 : Tryd.prog.cellsOf 5 = 1 := by kernel_rfl
theorem gOrd2 : Tryd.prog.globalNamed "hustings/scalar.order" = some 1 := by kernel_rfl
theorem tOrd2 : (Tryd.prog.globals[(1 : Nat)]?).map (·.type) = some 24 := by kernel_rfl
theorem cellsO2 : Tryd.prog.cellsOf 24 = 5 := by kernel_rfl
theorem cellsU64 : Tryd.prog.cellsOf 23 = 1 := by kernel_rfl
def ordList2 : List Int := [6346243789798364141, 1503914060200516822, 0, 1152921504606846976, 0]
theorem co_of {W : World} (h : laidMetH Tryd.prog [("hustings/curve.d", Rows.laid_hustings_curve_d), ("hustings/scalar.order", Rows.laid_hustings_scalar_order)] W) : TabD W ∧ Ord W := by
  rw [MakeChecks.laidMetH_plain _ _ _ (by kernel_rfl)] at h
  have hT : Lib.TabIs Tryd.prog W "hustings/curve.d" .u8 dL := Lib.tabIs_of_head gCd2 tCd2 Tryd.underlying22 Tryd.underlying5 cellsU82 cellsD2 h
  have hO : Lib.TabIs Tryd.prog W "hustings/scalar.order" .u64 ordList2 := Lib.tabIs_of_head gOrd2 tOrd2 Tryd.underlying24 Tryd.underlying23 cellsU64 cellsO2 (laidMet.tail h)
  have key : ∀ g j, (⟨g, 0, none⟩ : Addr).add j = ⟨g, j, none⟩ := fun g j => by
    unfold Addr.add
    split
    · subst_vars; rfl
    · simp
  constructor
  · intro j hj
    rw [key, hT.cell gCd2 j hj]
    rfl
  · intro j hj
    rw [key, hO.cell gOrd2 j hj]
    have hj2 : j = 0 ∨ j = 1 ∨ j = 2 ∨ j = 3 ∨ j = 4 := by omega
    rcases hj2 with rfl | rfl | rfl | rfl | rfl <;> rfl
end Go.Proofs.YtaaipbhfikefaaaDoor.P
end
