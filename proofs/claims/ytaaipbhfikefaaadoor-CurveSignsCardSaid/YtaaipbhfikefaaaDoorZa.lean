/- The curve: the laws CurveDecodes, CurveMuls, CurveAdds. Printed by genLa.py. -/
import Derived.Test.YtaaipbhfikefaaaDoorY6
namespace Go.Proofs.YtaaipbhfikefaaaDoor.P
set_option linter.unusedVariables false
set_option linter.unusedSimpArgs false
open Go.RowKit Go.ChangeShapes Go.WideShapes Go.Proofs.YtaaipbhfikefaaaDoorW.PrintWords Go.Proofs.YtaaipbhfikefaaaDoorW.PrintLast Go.Proofs.YtaaipbhfikefaaaDoorW.PrintMore
open Go.Proofs.YtaaipbhfikefaaaDoor.P.Fd
theorem By_wf {f : Nat → Int} (h : ∀ i, i < 32 → (Lit.int .u8 (f i)).wf = true) : By f := fun j hj => u8b (h j hj)
theorem tabcd_5 : rtab .any (opsOf Tryd.f3 5) = (true, [([], []), ([], []), ([0, 1], [0, 1]), ([2], [2]), ([3], [3]), ([4, 3], [3, 4]), ([5, 3, 3], [3, 5]), ([6], [6]), ([7, 6, 6], [6, 7]), ([6], [6]), ([8, 9, 6], [6, 8, 9]), ([10, 8, 6], [6, 10]), ([11], [11]), ([11], [11]), ([13, 11, 11], [11, 13]), ([12, 14, 14, 11], [11, 12, 14]), ([11, 15, 6], [6, 11, 15]), ([16, 15, 6], [6, 16]), ([17], [17]), ([17], [17]), ([18, 19, 17, 17], [17, 18, 19]), ([17, 20, 6], [6, 17, 20]), ([6, 21, 3], [3, 6, 21]), ([3, 22], [3, 22]), ([23, 20, 0, 1, 2, 3, 4, 5, 6, 7, 8, 9, 10, 11, 12, 13, 14, 15, 16, 17, 18, 19, 20, 21, 22, 23], [23])]) := by kernel_rfl
theorem bitscd_5 : waitsOk [([], []), ([], []), ([0, 1], [0, 1]), ([2], [2]), ([3], [3]), ([4, 3], [3, 4]), ([5, 3, 3], [3, 5]), ([6], [6]), ([7, 6, 6], [6, 7]), ([6], [6]), ([8, 9, 6], [6, 8, 9]), ([10, 8, 6], [6, 10]), ([11], [11]), ([11], [11]), ([13, 11, 11], [11, 13]), ([12, 14, 14, 11], [11, 12, 14]), ([11, 15, 6], [6, 11, 15]), ([16, 15, 6], [6, 16]), ([17], [17]), ([17], [17]), ([18, 19, 17, 17], [17, 18, 19]), ([17, 20, 6], [6, 17, 20]), ([6, 21, 3], [3, 6, 21]), ([3, 22], [3, 22]), ([23, 20, 0, 1, 2, 3, 4, 5, 6, 7, 8, 9, 10, 11, 12, 13, 14, 15, 16, 17, 18, 19, 20, 21, 22, 23], [23])] [0, 0, 3, 7, 15, 31, 63, 127, 255, 127, 1023, 2047, 4095, 4095, 12287, 32767, 65535, 131071, 262143, 262143, 1048575, 2097151, 4194303, 8388607, 16777215] = true := by kernel_rfl

theorem tabcm_7 : rtab .any (opsOf Tryd.f7 7) = (true, [([], []), ([], []), ([0, 1], [0, 1]), ([], []), ([], []), ([4], [4]), ([3, 5, 2], [3, 5]), ([6, 6], [6]), ([2, 7, 7], [2, 7]), ([8, 8, 0, 1, 2, 3, 4, 5, 6, 7, 8], [8])]) := by kernel_rfl
theorem bitscm_7 : waitsOk [([], []), ([], []), ([0, 1], [0, 1]), ([], []), ([], []), ([4], [4]), ([3, 5, 2], [3, 5]), ([6, 6], [6]), ([2, 7, 7], [2, 7]), ([8, 8, 0, 1, 2, 3, 4, 5, 6, 7, 8], [8])] [0, 0, 3, 0, 0, 16, 63, 127, 255, 511] = true := by kernel_rfl

theorem tabca_9 : rtab .any (opsOf Tryd.f4 9) = (true, [([], []), ([], []), ([0, 1], [0, 1]), ([], []), ([], []), ([3, 4, 2], [3, 4]), ([5, 5], [5]), ([2, 6, 6], [2, 6]), ([7, 7], [7]), ([8], [8]), ([9, 8, 8], [8, 9]), ([8], [8]), ([11, 10, 8], [8, 11]), ([12, 12, 8], [8, 12]), ([10, 13, 13, 8], [8, 10, 13]), ([8, 14], [8, 14]), ([15, 14], [15]), ([16], [16]), ([16], [16]), ([17, 18, 16, 16], [16, 17, 18]), ([16], [16]), ([16], [16]), ([20, 21, 16], [16, 20, 21]), ([19, 22, 16], [16, 19, 22]), ([16, 23], [16, 23]), ([24, 19, 0, 1, 2, 3, 4, 5, 6, 7, 8, 9, 10, 11, 12, 13, 14, 15, 16, 17, 18, 19, 20, 21, 22, 23, 24], [24])]) := by kernel_rfl
theorem bitsca_9 : waitsOk [([], []), ([], []), ([0, 1], [0, 1]), ([], []), ([], []), ([3, 4, 2], [3, 4]), ([5, 5], [5]), ([2, 6, 6], [2, 6]), ([7, 7], [7]), ([8], [8]), ([9, 8, 8], [8, 9]), ([8], [8]), ([11, 10, 8], [8, 11]), ([12, 12, 8], [8, 12]), ([10, 13, 13, 8], [8, 10, 13]), ([8, 14], [8, 14]), ([15, 14], [15]), ([16], [16]), ([16], [16]), ([17, 18, 16, 16], [16, 17, 18]), ([16], [16]), ([16], [16]), ([20, 21, 16], [16, 20, 21]), ([19, 22, 16], [16, 19, 22]), ([16, 23], [16, 23]), ([24, 19, 0, 1, 2, 3, 4, 5, 6, 7, 8, 9, 10, 11, 12, 13, 14, 15, 16, 17, 18, 19, 20, 21, 22, 23, 24], [24])] [0, 0, 3, 0, 0, 31, 63, 127, 255, 511, 1023, 511, 4095, 8191, 16383, 32767, 65535, 131071, 131071, 524287, 131071, 131071, 3276799, 8388607, 16777215, 33554431] = true := by kernel_rfl

theorem alive_calls (w : World) (hT : TabD w) : Calls Tryd.prog 17 #[] w fun e w' => e = .returned (.bool true) ∧ Below w.heap.size w w' := by
  refine enter_ 17 Tryd.func17 rfl rfl (fun a0 hS => ?_)
  have HS0 : Sl a0 17 [] := hS
  have HH0 : Held w w [] := Held.first w
  clear hS
  refine wp_seq ?_
  have hLo : LOk [(0, 0, .val (.bool false))] := ⟨show ([0] : List Nat).Nodup by decide, show ([0] : List Nat).Nodup by decide⟩
  refine plain_ (wE := w) (sz := 17) (n := 1) [0] [] [(0, 0, .val (.bool false))] [] rfl (by rfl) HH0 rfl rfl hLo rfl HS0 (trivial) ?_ ?_
  · show ∀ i ∈ [0], _
    refine steps_cons (st_run 0 _ rfl rfl hLo rfl rfl (fun _ _ _ _ => rfl) (fun b G w hb ho => exec_move (.inr rfl) (rfl))) ?_
    exact steps_nil
  clear hLo
  intro G a1 w1 hS hH
  have HS1 : Sl a1 17 [] := hS
  have HH1 : Held w w1 [] := hH
  clear hS hH HS0 HH0
  refine then_ ?_
  have hz0 : sameRow 32 (ptB (Pt.zero dF)) (smL 1) = true := (sameRow_iff _ _ _).2 zero_ptB
  have hb1 : ptB basePt 1 = 102 := (base_bytes 1 (by decide)).symm
  have hb0 : ptB basePt 0 = 88 := (base_bytes 0 (by decide)).symm
  obtain ⟨Z1, hZ1, rZ1⟩ : ∃ S, zeroP = S ∧ PRep S (Pt.zero dF) := ⟨_, rfl, PRep.zero⟩
  obtain ⟨B2, hB2, rB2⟩ : ∃ S, baseP = S ∧ PRep S (basePt) := ⟨_, rfl, base_prep⟩
  refine wp_seq ?_
  have hLo : LOk [(0, 1, .val (.agg (FR .u64 20 (Z1)))), (1, 2, .val (.agg (FR .u8 32 (ptB (Pt.zero dF))))), (2, 3, .val (.agg (FR .u8 32 (smL 1)))), (3, 4, .val (.bool true)), (4, 5, .val (.bool true)), (5, 6, .val (.agg (FR .u64 20 (B2)))), (6, 7, .val (.agg (FR .u8 32 (ptB (basePt))))), (7, 8, .val (.int .u8 102)), (8, 9, .val (.bool true)), (9, 10, .val (.bool true)), (10, 11, .val (.bool true)), (11, 12, .val (.agg (FR .u64 20 (B2)))), (12, 13, .val (.agg (FR .u8 32 (ptB (basePt))))), (13, 14, .val (.int .u8 88)), (14, 15, .val (.bool true)), (15, 16, .val (.bool true)), (16, 0, .val (.bool true))] := ⟨show ([0, 1, 2, 3, 4, 5, 6, 7, 8, 9, 10, 11, 12, 13, 14, 15, 16] : List Nat).Nodup by decide, show ([1, 2, 3, 4, 5, 6, 7, 8, 9, 10, 11, 12, 13, 14, 15, 16, 0] : List Nat).Nodup by decide⟩
  refine plain_ (wE := w) (sz := 17) (n := 17) [0, 1, 3, 7, 15, 31, 63, 127, 255, 511, 1023, 2047, 4095, 8191, 16383, 32767, 65535] [(0, .val (.bool true))] [(0, 1, .val (.agg (FR .u64 20 (Z1)))), (1, 2, .val (.agg (FR .u8 32 (ptB (Pt.zero dF))))), (2, 3, .val (.agg (FR .u8 32 (smL 1)))), (3, 4, .val (.bool true)), (4, 5, .val (.bool true)), (5, 6, .val (.agg (FR .u64 20 (B2)))), (6, 7, .val (.agg (FR .u8 32 (ptB (basePt))))), (7, 8, .val (.int .u8 102)), (8, 9, .val (.bool true)), (9, 10, .val (.bool true)), (10, 11, .val (.bool true)), (11, 12, .val (.agg (FR .u64 20 (B2)))), (12, 13, .val (.agg (FR .u8 32 (ptB (basePt))))), (13, 14, .val (.int .u8 88)), (14, 15, .val (.bool true)), (15, 16, .val (.bool true)), (16, 0, .val (.bool true))] [] rfl (by rfl) HH1 rfl rfl hLo rfl HS1 (slL 16 (d := 16) rfl (trivial)) ?_ ?_
  · show ∀ i ∈ [0, 1, 2, 3, 4, 5, 6, 7, 8, 9, 10, 11, 12, 13, 14, 15, 16], _
    refine steps_cons (st_call 0 _ #[] rfl rfl rfl (fun _ _ _ _ => rfl) hLo rfl rfl Tryd.func10 rfl rfl (fun b G hb ho => args0 ) (fun w hw => zero_as hZ1 w)) ?_
    refine steps_cons (st_call 1 _ #[.agg (FR .u64 20 (Z1))] rfl rfl rfl (fun _ _ _ _ => rfl) hLo rfl rfl Tryd.func11 rfl rfl (fun b G hb ho => args1 (ev_on hLo 0 rfl HS1.1 rfl (hb 0 (by rfl)))) (fun w hw => bytes_as rZ1.bytes w rZ1.1)) ?_
    refine steps_cons (st_run 2 _ rfl rfl hLo rfl rfl (fun _ _ _ _ => rfl) (fun b G w hb ho => exec_build rfl (parts1 (rfl)) (build1_run _ _))) ?_
    refine steps_cons (st_run 3 _ rfl rfl hLo rfl rfl (fun _ _ _ _ => rfl) (fun b G w hb ho => exec_bin rfl (ev_on hLo 1 rfl HS1.1 rfl (hb 1 (by rfl))) (ev_on hLo 2 rfl HS1.1 rfl (hb 2 (by rfl))) (eqB_run hz0 _ _ _))) ?_
    refine steps_cons (st_run 4 _ rfl rfl hLo rfl rfl (fun _ _ _ _ => rfl) (fun b G w hb ho => exec_move (.inl rfl) (ev_on hLo 3 rfl HS1.1 rfl (hb 3 (by rfl))))) ?_
    refine steps_cons (st_call 5 _ #[] rfl rfl rfl (fun b G hb ho => wanted_is rfl rfl rfl HS1.1 rfl (ev_on hLo 4 rfl HS1.1 rfl (hb 4 (by rfl))) rfl) hLo rfl rfl Tryd.func24 rfl rfl (fun b G hb ho => args0 ) (fun w hw => base_as hB2 w (hT.to hw))) ?_
    refine steps_cons (st_call 6 _ #[.agg (FR .u64 20 (B2))] rfl rfl rfl (fun b G hb ho => wanted_is rfl rfl rfl HS1.1 rfl (ev_on hLo 4 rfl HS1.1 rfl (hb 4 (by rfl))) rfl) hLo rfl rfl Tryd.func11 rfl rfl (fun b G hb ho => args1 (ev_on hLo 5 rfl HS1.1 rfl (hb 5 (by rfl)))) (fun w hw => bytes_as rB2.bytes w rB2.1)) ?_
    refine steps_cons (st_run 7 _ rfl rfl hLo rfl rfl (fun b G hb ho => wanted_is rfl rfl rfl HS1.1 rfl (ev_on hLo 4 rfl HS1.1 rfl (hb 4 (by rfl))) rfl) (fun b G w hb ho => exec_index rfl (ev_on hLo 6 rfl HS1.1 rfl (hb 6 (by rfl))) rfl (idx_run (k := 1) (by decide) (hb1) _))) ?_
    refine steps_cons (st_run 8 _ rfl rfl hLo rfl rfl (fun b G hb ho => wanted_is rfl rfl rfl HS1.1 rfl (ev_on hLo 4 rfl HS1.1 rfl (hb 4 (by rfl))) rfl) (fun b G w hb ho => exec_bin rfl (ev_on hLo 7 rfl HS1.1 rfl (hb 7 (by rfl))) (rfl) (eq_run (by decide) _ _ _))) ?_
    refine steps_cons (st_run 9 _ rfl rfl hLo rfl rfl (fun _ _ _ _ => rfl) (fun b G w hb ho => exec_pick rfl (ev_on hLo 4 rfl HS1.1 rfl (hb 4 (by rfl))) (ev_on hLo 8 rfl HS1.1 rfl (hb 8 (by rfl))))) ?_
    refine steps_cons (st_run 10 _ rfl rfl hLo rfl rfl (fun _ _ _ _ => rfl) (fun b G w hb ho => exec_move (.inl rfl) (ev_on hLo 9 rfl HS1.1 rfl (hb 9 (by rfl))))) ?_
    refine steps_cons (st_call 11 _ #[] rfl rfl rfl (fun b G hb ho => wanted_is rfl rfl rfl HS1.1 rfl (ev_on hLo 10 rfl HS1.1 rfl (hb 10 (by rfl))) rfl) hLo rfl rfl Tryd.func24 rfl rfl (fun b G hb ho => args0 ) (fun w hw => base_as hB2 w (hT.to hw))) ?_
    refine steps_cons (st_call 12 _ #[.agg (FR .u64 20 (B2))] rfl rfl rfl (fun b G hb ho => wanted_is rfl rfl rfl HS1.1 rfl (ev_on hLo 10 rfl HS1.1 rfl (hb 10 (by rfl))) rfl) hLo rfl rfl Tryd.func11 rfl rfl (fun b G hb ho => args1 (ev_on hLo 11 rfl HS1.1 rfl (hb 11 (by rfl)))) (fun w hw => bytes_as rB2.bytes w rB2.1)) ?_
    refine steps_cons (st_run 13 _ rfl rfl hLo rfl rfl (fun b G hb ho => wanted_is rfl rfl rfl HS1.1 rfl (ev_on hLo 10 rfl HS1.1 rfl (hb 10 (by rfl))) rfl) (fun b G w hb ho => exec_index rfl (ev_on hLo 12 rfl HS1.1 rfl (hb 12 (by rfl))) rfl (idx_run (k := 0) (by decide) (hb0) _))) ?_
    refine steps_cons (st_run 14 _ rfl rfl hLo rfl rfl (fun b G hb ho => wanted_is rfl rfl rfl HS1.1 rfl (ev_on hLo 10 rfl HS1.1 rfl (hb 10 (by rfl))) rfl) (fun b G w hb ho => exec_bin rfl (ev_on hLo 13 rfl HS1.1 rfl (hb 13 (by rfl))) (rfl) (eq_run (by decide) _ _ _))) ?_
    refine steps_cons (st_run 15 _ rfl rfl hLo rfl rfl (fun _ _ _ _ => rfl) (fun b G w hb ho => exec_pick rfl (ev_on hLo 10 rfl HS1.1 rfl (hb 10 (by rfl))) (ev_on hLo 14 rfl HS1.1 rfl (hb 14 (by rfl))))) ?_
    refine steps_cons (st_run 16 _ rfl rfl hLo rfl rfl (fun _ _ _ _ => rfl) (fun b G w hb ho => exec_move (.inr rfl) (ev_on hLo 15 rfl HS1.1 rfl (hb 15 (by rfl))))) ?_
    exact steps_nil
  clear hLo
  intro G a2 w2 hS hH
  have HS2 : Sl a2 17 [(0, .bool true)] := hS
  have HH2 : Held w w2 [] := hH
  clear hS hH HS1 HH1
  refine then_ ?_
  refine wp_ret ?_
  repeat refine then_ret ?_
  exact b_tmp rfl HS2.2.1 (HS2.get 0 rfl) ⟨rfl, HH2.1⟩
theorem CurveDecodes_walk (b : Nat → Int) (w : World) (hT : TabD w) (w0 : ∀ i, i < 32 → (Lit.int .u8 (b i)).wf = true) : Calls Tryd.prog 3 #[.agg (FR .u8 32 b)] w fun e w' => e = .returned (.bool true) ∧ Below w.heap.size w w' := by
  have hb := By_wf w0
  obtain ⟨Xb, hXb⟩ : ∃ X, decP b = X := ⟨_, rfl⟩
  obtain ⟨Yb, hYb⟩ : ∃ X, decRP b = X := ⟨_, rfl⟩
  obtain ⟨rb, hrb⟩ : ∃ r, decOk b = r := ⟨_, rfl⟩
  have hrrb := (decOk_eq hb).symm.trans hrb
  refine enter_ 46 Tryd.func3 rfl rfl (fun a0 hS => ?_)
  have HS0 : Sl a0 46 [(0, .agg (FR .u8 32 b))] := hS
  have HH0 : Held w w [] := Held.first w
  clear hS
  refine wp_seq ?_
  have hLo : LOk [(0, 1, .ptr 0 0), (1, 2, .val (.bool false))] := ⟨show ([0, 1] : List Nat).Nodup by decide, show ([1, 2] : List Nat).Nodup by decide⟩
  refine plain_ (wE := w) (sz := 46) (n := 2) [0, 1] [(1, .ptr 0 0)] [(0, 1, .ptr 0 0), (1, 2, .val (.bool false))] [⟨0, some 0, none, .u8, 32, b, b, 22⟩] rfl (by rfl) HH0 rfl rfl hLo rfl HS0 (slL 0 (d := 0) rfl (trivial)) ?_ ?_
  · show ∀ i ∈ [0, 1], _
    refine steps_cons (st_alloc 0 0 .u8 32 22 none _ _ rfl rfl (fun _ _ _ _ => rfl) rfl hLo rfl rfl rfl rfl (by rfl) (fun b G w hb ho => exec_box rfl (ev_off rfl (HS0.get 0 rfl)) (by kernel_rfl))) ?_
    refine steps_cons (st_run 1 _ rfl rfl hLo rfl rfl (fun _ _ _ _ => rfl) (fun b G w hb ho => exec_move (.inr rfl) (rfl))) ?_
    exact steps_nil
  clear hLo
  intro G a1 w1 hS hH
  have HS1 : Sl a1 46 [(1, .pointer (some ⟨(G 0), 0, none⟩))] := hS
  have HH1 : Held w w1 [⟨(G 0), .u8, 32, b, 22⟩] := hH
  clear hS hH HS0 HH0
  generalize G 0 = g1_0 at HS1 HH1
  refine then_ ?_
  have hz0 : sameRow 32 (ptB (Pt.zero dF)) (smL 1) = true := (sameRow_iff _ _ _).2 zero_ptB
  refine wp_seq ?_
  obtain ⟨Z3, hZ3, rZ3⟩ : ∃ S, zeroP = S ∧ PRep S (Pt.zero dF) := ⟨_, rfl, PRep.zero⟩
  refine wp_seq ?_
  have hLo : LOk [(0, 7, .val (.agg (FR .u64 20 (Z3)))), (1, 8, .val (.agg (FR .u8 32 (ptB (Pt.zero dF))))), (2, 9, .val (.agg (FR .u8 32 (smL 1)))), (3, 10, .val (.bool false))] := ⟨show ([0, 1, 2, 3] : List Nat).Nodup by decide, show ([7, 8, 9, 10] : List Nat).Nodup by decide⟩
  refine plain_ (wE := w) (sz := 46) (n := 4) [0, 1, 3, 7] [(1, .val (.pointer (some ⟨g1_0, 0, none⟩))), (10, .val (.bool false))] [(0, 7, .val (.agg (FR .u64 20 (Z3)))), (1, 8, .val (.agg (FR .u8 32 (ptB (Pt.zero dF))))), (2, 9, .val (.agg (FR .u8 32 (smL 1)))), (3, 10, .val (.bool false))] [⟨g1_0, none, none, .u8, 32, b, b, 22⟩] rfl (by rfl) HH1 rfl rfl hLo rfl HS1 (slS 0 rfl rfl (slL 3 (d := 3) rfl (trivial))) ?_ ?_
  · show ∀ i ∈ [0, 1, 2, 3], _
    refine steps_cons (st_call 0 _ #[] rfl rfl rfl (fun _ _ _ _ => rfl) hLo rfl rfl Tryd.func10 rfl rfl (fun b G hb ho => args0 ) (fun w hw => zero_as hZ3 w)) ?_
    refine steps_cons (st_call 1 _ #[.agg (FR .u64 20 (Z3))] rfl rfl rfl (fun _ _ _ _ => rfl) hLo rfl rfl Tryd.func11 rfl rfl (fun b G hb ho => args1 (ev_on hLo 0 rfl HS1.1 rfl (hb 0 (by rfl)))) (fun w hw => bytes_as rZ3.bytes w rZ3.1)) ?_
    refine steps_cons (st_run 2 _ rfl rfl hLo rfl rfl (fun _ _ _ _ => rfl) (fun b G w hb ho => exec_build rfl (parts1 (rfl)) (build1_run _ _))) ?_
    refine steps_cons (st_run 3 _ rfl rfl hLo rfl rfl (fun _ _ _ _ => rfl) (fun b G w hb ho => exec_bin rfl (ev_on hLo 1 rfl HS1.1 rfl (hb 1 (by rfl))) (ev_on hLo 2 rfl HS1.1 rfl (hb 2 (by rfl))) (neqB_run hz0 _ _ _))) ?_
    exact steps_nil
  clear hLo
  intro G a2 w2 hS hH
  have HS2 : Sl a2 46 [(1, .pointer (some ⟨g1_0, 0, none⟩)), (10, .bool false)] := hS
  have HH2 : Held w w2 [⟨g1_0, .u8, 32, b, 22⟩] := hH
  clear hS hH HS1 HH1
  refine then_ ?_
  refine wp_cond_false (HS2.get 1 rfl) ?_
  refine wp_skip ?_
  refine then_ ?_
  refine wp_seq ?_
  have hLo : LOk [(0, 12, .val (.agg (FR .u8 32 (b)))), (1, 13, .val (.tuple #[.agg (FR .u64 20 (Xb)), .bool rb])), (2, 11, .val (.tuple #[.agg (FR .u64 20 (Xb)), .bool rb])), (3, 14, .val (.agg (FR .u64 20 (Xb)))), (4, 15, .val (.bool rb)), (5, 3, .ptr 5 0), (7, 4, .val (.bool rb))] := ⟨show ([0, 1, 2, 3, 4, 5, 7] : List Nat).Nodup by decide, show ([12, 13, 11, 14, 15, 3, 4] : List Nat).Nodup by decide⟩
  refine plain_ (wE := w) (sz := 46) (n := 8) [0, 1, 3, 7, 15, 31, 63, 127] [(1, .val (.pointer (some ⟨g1_0, 0, none⟩))), (3, .ptr 5 0), (4, .val (.bool rb))] [(0, 12, .val (.agg (FR .u8 32 (b)))), (1, 13, .val (.tuple #[.agg (FR .u64 20 (Xb)), .bool rb])), (2, 11, .val (.tuple #[.agg (FR .u64 20 (Xb)), .bool rb])), (3, 14, .val (.agg (FR .u64 20 (Xb)))), (4, 15, .val (.bool rb)), (5, 3, .ptr 5 0), (7, 4, .val (.bool rb))] [⟨g1_0, none, none, .u8, 32, b, b, 22⟩, ⟨0, some 5, some 6, .u64, 20, fun _ => 0, Xb, 28⟩] rfl (by rfl) HH2 rfl rfl hLo rfl HS2 (slS 0 rfl rfl (slL 5 (d := 5) rfl (slL 6 (d := 7) rfl (trivial)))) ?_ ?_
  · show ∀ i ∈ [0, 1, 2, 3, 4, 5, 6, 7], _
    refine steps_cons (st_row0 0 0 _ rfl rfl rfl rfl (fun _ _ _ _ => rfl) hLo rfl rfl rfl (by rfl) Tryd.underlying22 infoB3 rfl (fun b G hb ho => ev_off rfl (HS2.get 0 rfl))) ?_
    refine steps_cons (st_call 1 _ #[.agg (FR .u8 32 (b))] rfl rfl rfl (fun _ _ _ _ => rfl) hLo rfl rfl Tryd.func12 rfl rfl (fun b G hb ho => args1 (ev_on hLo 0 rfl HS2.1 rfl (hb 0 (by rfl)))) (fun w hw => dec_as hXb hrb w (hT.to hw) hb)) ?_
    refine steps_cons (st_run 2 _ rfl rfl hLo rfl rfl (fun _ _ _ _ => rfl) (fun b G w hb ho => exec_move (.inl rfl) (ev_on hLo 1 rfl HS2.1 rfl (hb 1 (by rfl))))) ?_
    refine steps_cons (st_run 3 _ rfl rfl hLo rfl rfl (fun _ _ _ _ => rfl) (fun b G w hb ho => exec_extract rfl (ev_on hLo 2 rfl HS2.1 rfl (hb 2 (by rfl))) (by rfl))) ?_
    refine steps_cons (st_run 4 _ rfl rfl hLo rfl rfl (fun _ _ _ _ => rfl) (fun b G w hb ho => exec_extract rfl (ev_on hLo 2 rfl HS2.1 rfl (hb 2 (by rfl))) (by rfl))) ?_
    refine steps_cons (st_alloc 5 1 .u64 20 28 (some 6) _ _ rfl rfl (fun _ _ _ _ => rfl) rfl hLo rfl rfl rfl rfl (by rfl) (fun b G w _ _ => by kernel_rfl)) ?_
    refine steps_cons (st_store 1 _ rfl rfl rfl rfl rfl (fun _ _ _ _ => rfl) rfl rfl rfl (by rfl) infoPt (fun b G hb ho => ev_on hLo 5 rfl HS2.1 rfl (hb 5 (by rfl))) (fun b G hb ho => ev_on hLo 3 rfl HS2.1 rfl (hb 3 (by rfl)))) ?_
    refine steps_cons (st_run 6 _ rfl rfl hLo rfl rfl (fun _ _ _ _ => rfl) (fun b G w hb ho => exec_move (.inr rfl) (ev_on hLo 4 rfl HS2.1 rfl (hb 4 (by rfl))))) ?_
    exact steps_nil
  clear hLo
  intro G a3 w3 hS hH
  have HS3 : Sl a3 46 [(1, .pointer (some ⟨g1_0, 0, none⟩)), (3, .pointer (some ⟨(G 5), 0, none⟩)), (4, .bool rb)] := hS
  have HH3 : Held w w3 [⟨g1_0, .u8, 32, b, 22⟩, ⟨(G 5), .u64, 20, Xb, 28⟩] := hH
  clear hS hH HS2 HH2
  generalize G 5 = g3_5 at HS3 HH3
  refine then_ ?_
  cases rb
  · skip
    refine wp_seq ?_
    have hLo : LOk [(0, 17, .val (.slice (some ⟨g1_0, 0, none⟩) 32 32)), (1, 18, .val (.string (sOf (b)))), (2, 19, .val (.tuple #[.agg (FR .i64 64 (Yb)), .bool false])), (3, 16, .val (.tuple #[.agg (FR .i64 64 (Yb)), .bool false])), (4, 20, .val (.agg (FR .i64 64 (Yb)))), (5, 21, .val (.bool false)), (6, 5, .ptr 6 0), (8, 6, .val (.bool false))] := ⟨show ([0, 1, 2, 3, 4, 5, 6, 8] : List Nat).Nodup by decide, show ([17, 18, 19, 16, 20, 21, 5, 6] : List Nat).Nodup by decide⟩
    refine plain_ (wE := w) (sz := 46) (n := 9) [0, 1, 3, 7, 15, 31, 63, 127, 255] [(1, .val (.pointer (some ⟨g1_0, 0, none⟩))), (3, .val (.pointer (some ⟨g3_5, 0, none⟩))), (4, .val (.bool false)), (5, .ptr 6 0), (6, .val (.bool false))] [(0, 17, .val (.slice (some ⟨g1_0, 0, none⟩) 32 32)), (1, 18, .val (.string (sOf (b)))), (2, 19, .val (.tuple #[.agg (FR .i64 64 (Yb)), .bool false])), (3, 16, .val (.tuple #[.agg (FR .i64 64 (Yb)), .bool false])), (4, 20, .val (.agg (FR .i64 64 (Yb)))), (5, 21, .val (.bool false)), (6, 5, .ptr 6 0), (8, 6, .val (.bool false))] [⟨g1_0, none, none, .u8, 32, b, b, 22⟩, ⟨g3_5, none, none, .u64, 20, Xb, Xb, 28⟩, ⟨0, some 6, some 7, .i64, 64, fun _ => 0, Yb, 36⟩] rfl (by rfl) HH3 rfl rfl hLo rfl HS3 (slS 0 rfl rfl (slS 1 rfl rfl (slS 2 rfl rfl (slL 6 (d := 6) rfl (slL 7 (d := 8) rfl (trivial)))))) ?_ ?_
    · show ∀ i ∈ [0, 1, 2, 3, 4, 5, 6, 7, 8], _
      refine steps_cons (st_run 0 _ rfl rfl hLo rfl rfl (fun _ _ _ _ => rfl) (fun b G w hb ho => exec_slice rfl (ev_off rfl (HS3.get 0 rfl)) rfl rfl rfl (slice_all _ _))) ?_
      refine steps_cons (st_read 1 0 _ _ rfl rfl rfl hLo rfl rfl (fun _ _ _ _ => rfl) (by rfl) (by rfl) (fun b G w hb ho hr => exec_convert rfl (ev_on hLo 0 rfl HS3.1 rfl (hb 0 (by rfl))) (conv_row hr))) ?_
      refine steps_cons (st_call 2 _ #[.string (sOf (b))] rfl rfl rfl (fun _ _ _ _ => rfl) hLo rfl rfl Tryd.func13 rfl rfl (fun b G hb ho => args1 (ev_on hLo 1 rfl HS3.1 rfl (hb 1 (by rfl)))) (fun w hw => decR_as hYb hrrb w hb)) ?_
      refine steps_cons (st_run 3 _ rfl rfl hLo rfl rfl (fun _ _ _ _ => rfl) (fun b G w hb ho => exec_move (.inl rfl) (ev_on hLo 2 rfl HS3.1 rfl (hb 2 (by rfl))))) ?_
      refine steps_cons (st_run 4 _ rfl rfl hLo rfl rfl (fun _ _ _ _ => rfl) (fun b G w hb ho => exec_extract rfl (ev_on hLo 3 rfl HS3.1 rfl (hb 3 (by rfl))) (by rfl))) ?_
      refine steps_cons (st_run 5 _ rfl rfl hLo rfl rfl (fun _ _ _ _ => rfl) (fun b G w hb ho => exec_extract rfl (ev_on hLo 3 rfl HS3.1 rfl (hb 3 (by rfl))) (by rfl))) ?_
      refine steps_cons (st_alloc 6 2 .i64 64 36 (some 7) _ _ rfl rfl (fun _ _ _ _ => rfl) rfl hLo rfl rfl rfl rfl (by rfl) (fun b G w _ _ => by kernel_rfl)) ?_
      refine steps_cons (st_store 2 _ rfl rfl rfl rfl rfl (fun _ _ _ _ => rfl) rfl rfl rfl (by rfl) infoPr (fun b G hb ho => ev_on hLo 6 rfl HS3.1 rfl (hb 6 (by rfl))) (fun b G hb ho => ev_on hLo 4 rfl HS3.1 rfl (hb 4 (by rfl)))) ?_
      refine steps_cons (st_run 7 _ rfl rfl hLo rfl rfl (fun _ _ _ _ => rfl) (fun b G w hb ho => exec_move (.inr rfl) (ev_on hLo 5 rfl HS3.1 rfl (hb 5 (by rfl))))) ?_
      exact steps_nil
    clear hLo
    intro G a4 w4 hS hH
    have HS4 : Sl a4 46 [(1, .pointer (some ⟨g1_0, 0, none⟩)), (3, .pointer (some ⟨g3_5, 0, none⟩)), (4, .bool false), (5, .pointer (some ⟨(G 6), 0, none⟩)), (6, .bool false)] := hS
    have HH4 : Held w w4 [⟨g1_0, .u8, 32, b, 22⟩, ⟨g3_5, .u64, 20, Xb, 28⟩, ⟨(G 6), .i64, 64, Yb, 36⟩] := hH
    clear hS hH HS3 HH3
    generalize G 6 = g4_6 at HS4 HH4
    refine then_ ?_
    refine wp_seq ?_
    have hLo : LOk [(0, 22, .val (.bool false)), (1, 23, .val (.bool false)), (2, 24, .val (.bool true)), (3, 25, .val (.bool true)), (4, 26, .val (.bool false)), (5, 27, .val (.bool true)), (6, 28, .val (.bool true)), (7, 29, .val (undef)), (8, 30, .val (undef)), (9, 31, .val (undef)), (10, 32, .val (undef)), (11, 33, .val (undef)), (12, 34, .val (undef)), (13, 35, .val (undef)), (14, 36, .val (undef)), (15, 37, .val (undef)), (16, 38, .val (undef)), (17, 39, .val (undef)), (18, 40, .val (undef)), (19, 41, .val (undef)), (20, 42, .val (undef)), (21, 43, .val (undef)), (22, 44, .val (.bool true)), (23, 45, .val (.bool true)), (24, 2, .val (.bool true))] := ⟨show ([0, 1, 2, 3, 4, 5, 6, 7, 8, 9, 10, 11, 12, 13, 14, 15, 16, 17, 18, 19, 20, 21, 22, 23, 24] : List Nat).Nodup by decide, show ([22, 23, 24, 25, 26, 27, 28, 29, 30, 31, 32, 33, 34, 35, 36, 37, 38, 39, 40, 41, 42, 43, 44, 45, 2] : List Nat).Nodup by decide⟩
    refine region_ (wE := w) (sz := 46) (n := 25) (B := [0, 0, 3, 7, 15, 31, 63, 127, 255, 127, 1023, 2047, 4095, 4095, 12287, 32767, 65535, 131071, 262143, 262143, 1048575, 2097151, 4194303, 8388607, 16777215]) [0, 1, 2, 3, 4, 5, 6, 7, 8, 9, 10, 11, 12, 13, 14, 15, 16, 17, 18, 19, 20, 21, 22, 23, 24] [(2, .val (.bool true))] [(0, 22, .val (.bool false)), (1, 23, .val (.bool false)), (2, 24, .val (.bool true)), (3, 25, .val (.bool true)), (4, 26, .val (.bool false)), (5, 27, .val (.bool true)), (6, 28, .val (.bool true)), (7, 29, .val (undef)), (8, 30, .val (undef)), (9, 31, .val (undef)), (10, 32, .val (undef)), (11, 33, .val (undef)), (12, 34, .val (undef)), (13, 35, .val (undef)), (14, 36, .val (undef)), (15, 37, .val (undef)), (16, 38, .val (undef)), (17, 39, .val (undef)), (18, 40, .val (undef)), (19, 41, .val (undef)), (20, 42, .val (undef)), (21, 43, .val (undef)), (22, 44, .val (.bool true)), (23, 45, .val (.bool true)), (24, 2, .val (.bool true))] [⟨g1_0, none, none, .u8, 32, b, b, 22⟩, ⟨g3_5, none, none, .u64, 20, Xb, Xb, 28⟩, ⟨g4_6, none, none, .i64, 64, Yb, Yb, 36⟩] (by rfl) rfl tabcd_5 bitscd_5 (by kernel_rfl) (by kernel_rfl) HH4 rfl rfl hLo rfl HS4 (slL 24 (d := 24) rfl (trivial)) ?_ ?_
    · show ∀ i ∈ [0, 1, 2, 3, 4, 5, 6, 7, 8, 9, 10, 11, 12, 13, 14, 15, 16, 17, 18, 19, 20, 21, 22, 23, 24], _
      refine steps_cons (st_run 0 _ rfl rfl hLo rfl rfl (fun _ _ _ _ => rfl) (fun b G w hb ho => exec_move (.inl rfl) (ev_off rfl (HS4.get 2 rfl)))) ?_
      refine steps_cons (st_run 1 _ rfl rfl hLo rfl rfl (fun _ _ _ _ => rfl) (fun b G w hb ho => exec_move (.inl rfl) (ev_off rfl (HS4.get 4 rfl)))) ?_
      refine steps_cons (st_run 2 _ rfl rfl hLo rfl rfl (fun _ _ _ _ => rfl) (fun b G w hb ho => exec_bin rfl (ev_on hLo 0 rfl HS4.1 rfl (hb 0 (by rfl))) (ev_on hLo 1 rfl HS4.1 rfl (hb 1 (by rfl))) (eqbool_run _ _ rfl _ _ _))) ?_
      refine steps_cons (st_run 3 _ rfl rfl hLo rfl rfl (fun _ _ _ _ => rfl) (fun b G w hb ho => exec_move (.inl rfl) (ev_on hLo 2 rfl HS4.1 rfl (hb 2 (by rfl))))) ?_
      refine steps_cons (st_run 4 _ rfl rfl hLo rfl rfl (fun b G hb ho => wanted_is rfl rfl rfl HS4.1 rfl (ev_on hLo 3 rfl HS4.1 rfl (hb 3 (by rfl))) rfl) (fun b G w hb ho => exec_move (.inl rfl) (ev_off rfl (HS4.get 2 rfl)))) ?_
      refine steps_cons (st_run 5 _ rfl rfl hLo rfl rfl (fun b G hb ho => wanted_is rfl rfl rfl HS4.1 rfl (ev_on hLo 3 rfl HS4.1 rfl (hb 3 (by rfl))) rfl) (fun b G w hb ho => exec_un rfl (ev_on hLo 4 rfl HS4.1 rfl (hb 4 (by rfl))) (by rfl))) ?_
      refine steps_cons (st_run 6 _ rfl rfl hLo rfl rfl (fun b G hb ho => wanted_is rfl rfl rfl HS4.1 rfl (ev_on hLo 3 rfl HS4.1 rfl (hb 3 (by rfl))) rfl) (fun b G w hb ho => exec_move (.inl rfl) (ev_on hLo 5 rfl HS4.1 rfl (hb 5 (by rfl))))) ?_
      refine steps_cons (st_skip 7 rfl rfl hLo rfl rfl (fun b G hb ho => wanted_is rfl rfl rfl HS4.1 rfl (ev_on hLo 6 rfl HS4.1 rfl (hb 6 (by rfl))) rfl)) ?_
      refine steps_cons (st_skip 8 rfl rfl hLo rfl rfl (fun b G hb ho => wanted_is rfl rfl rfl HS4.1 rfl (ev_on hLo 6 rfl HS4.1 rfl (hb 6 (by rfl))) rfl)) ?_
      refine steps_cons (st_skip 9 rfl rfl hLo rfl rfl (fun b G hb ho => wanted_is rfl rfl rfl HS4.1 rfl (ev_on hLo 6 rfl HS4.1 rfl (hb 6 (by rfl))) rfl)) ?_
      refine steps_cons (st_skip 10 rfl rfl hLo rfl rfl (fun b G hb ho => wanted_is rfl rfl rfl HS4.1 rfl (ev_on hLo 6 rfl HS4.1 rfl (hb 6 (by rfl))) rfl)) ?_
      refine steps_cons (st_skip 11 rfl rfl hLo rfl rfl (fun b G hb ho => wanted_is rfl rfl rfl HS4.1 rfl (ev_on hLo 6 rfl HS4.1 rfl (hb 6 (by rfl))) rfl)) ?_
      refine steps_cons (st_skip 12 rfl rfl hLo rfl rfl (fun b G hb ho => wanted_un rfl rfl rfl HS4.1 rfl (ev_on hLo 11 rfl HS4.1 rfl (hb 11 (by rfl))))) ?_
      refine steps_cons (st_skip 13 rfl rfl hLo rfl rfl (fun b G hb ho => wanted_un rfl rfl rfl HS4.1 rfl (ev_on hLo 11 rfl HS4.1 rfl (hb 11 (by rfl))))) ?_
      refine steps_cons (st_skip 14 rfl rfl hLo rfl rfl (fun b G hb ho => wanted_un rfl rfl rfl HS4.1 rfl (ev_on hLo 11 rfl HS4.1 rfl (hb 11 (by rfl))))) ?_
      refine steps_cons (st_skip 15 rfl rfl hLo rfl rfl (fun b G hb ho => wanted_un rfl rfl rfl HS4.1 rfl (ev_on hLo 11 rfl HS4.1 rfl (hb 11 (by rfl))))) ?_
      refine steps_cons (st_skip 16 rfl rfl hLo rfl rfl (fun b G hb ho => wanted_is rfl rfl rfl HS4.1 rfl (ev_on hLo 6 rfl HS4.1 rfl (hb 6 (by rfl))) rfl)) ?_
      refine steps_cons (st_skip 17 rfl rfl hLo rfl rfl (fun b G hb ho => wanted_is rfl rfl rfl HS4.1 rfl (ev_on hLo 6 rfl HS4.1 rfl (hb 6 (by rfl))) rfl)) ?_
      refine steps_cons (st_skip 18 rfl rfl hLo rfl rfl (fun b G hb ho => wanted_un rfl rfl rfl HS4.1 rfl (ev_on hLo 17 rfl HS4.1 rfl (hb 17 (by rfl))))) ?_
      refine steps_cons (st_skip 19 rfl rfl hLo rfl rfl (fun b G hb ho => wanted_un rfl rfl rfl HS4.1 rfl (ev_on hLo 17 rfl HS4.1 rfl (hb 17 (by rfl))))) ?_
      refine steps_cons (st_skip 20 rfl rfl hLo rfl rfl (fun b G hb ho => wanted_un rfl rfl rfl HS4.1 rfl (ev_on hLo 17 rfl HS4.1 rfl (hb 17 (by rfl))))) ?_
      refine steps_cons (st_skip 21 rfl rfl hLo rfl rfl (fun b G hb ho => wanted_is rfl rfl rfl HS4.1 rfl (ev_on hLo 6 rfl HS4.1 rfl (hb 6 (by rfl))) rfl)) ?_
      refine steps_cons (st_run 22 _ rfl rfl hLo rfl rfl (fun b G hb ho => wanted_is rfl rfl rfl HS4.1 rfl (ev_on hLo 3 rfl HS4.1 rfl (hb 3 (by rfl))) rfl) (fun b G w hb ho => exec_pick rfl (ev_on hLo 6 rfl HS4.1 rfl (hb 6 (by rfl))) (rfl))) ?_
      refine steps_cons (st_run 23 _ rfl rfl hLo rfl rfl (fun _ _ _ _ => rfl) (fun b G w hb ho => exec_pick rfl (ev_on hLo 3 rfl HS4.1 rfl (hb 3 (by rfl))) (ev_on hLo 22 rfl HS4.1 rfl (hb 22 (by rfl))))) ?_
      refine steps_cons (st_run 24 _ rfl rfl hLo rfl rfl (fun _ _ _ _ => rfl) (fun b G w hb ho => exec_move (.inr rfl) (ev_on hLo 23 rfl HS4.1 rfl (hb 23 (by rfl))))) ?_
      exact steps_nil
    clear hLo
    intro G a5 w5 hS hH
    have HS5 : Sl a5 46 [(2, .bool true)] := hS
    have HH5 : Held w w5 [⟨g1_0, .u8, 32, b, 22⟩, ⟨g3_5, .u64, 20, Xb, 28⟩, ⟨g4_6, .i64, 64, Yb, 36⟩] := hH
    clear hS hH HS4 HH4
    refine then_ ?_
    refine wp_ret ?_
    repeat refine then_ret ?_
    exact b_tmp rfl HS5.2.1 (HS5.get 0 rfl) ⟨rfl, HH5.1⟩
  · skip
    obtain ⟨Pb, hPb⟩ : ∃ P, decPt b hb hrb = P := ⟨_, rfl⟩
    have rXb : PRep Xb Pb := by rw [← hXb, ← hPb]; exact dec_prep hb hrb
    have rYb : RRep Yb Pb := by rw [← hYb, ← hPb]; exact dec_rrep hb hrb
    refine wp_seq ?_
    have hLo : LOk [(0, 17, .val (.slice (some ⟨g1_0, 0, none⟩) 32 32)), (1, 18, .val (.string (sOf (b)))), (2, 19, .val (.tuple #[.agg (FR .i64 64 (Yb)), .bool true])), (3, 16, .val (.tuple #[.agg (FR .i64 64 (Yb)), .bool true])), (4, 20, .val (.agg (FR .i64 64 (Yb)))), (5, 21, .val (.bool true)), (6, 5, .ptr 6 0), (8, 6, .val (.bool true))] := ⟨show ([0, 1, 2, 3, 4, 5, 6, 8] : List Nat).Nodup by decide, show ([17, 18, 19, 16, 20, 21, 5, 6] : List Nat).Nodup by decide⟩
    refine plain_ (wE := w) (sz := 46) (n := 9) [0, 1, 3, 7, 15, 31, 63, 127, 255] [(1, .val (.pointer (some ⟨g1_0, 0, none⟩))), (3, .val (.pointer (some ⟨g3_5, 0, none⟩))), (4, .val (.bool true)), (5, .ptr 6 0), (6, .val (.bool true))] [(0, 17, .val (.slice (some ⟨g1_0, 0, none⟩) 32 32)), (1, 18, .val (.string (sOf (b)))), (2, 19, .val (.tuple #[.agg (FR .i64 64 (Yb)), .bool true])), (3, 16, .val (.tuple #[.agg (FR .i64 64 (Yb)), .bool true])), (4, 20, .val (.agg (FR .i64 64 (Yb)))), (5, 21, .val (.bool true)), (6, 5, .ptr 6 0), (8, 6, .val (.bool true))] [⟨g1_0, none, none, .u8, 32, b, b, 22⟩, ⟨g3_5, none, none, .u64, 20, Xb, Xb, 28⟩, ⟨0, some 6, some 7, .i64, 64, fun _ => 0, Yb, 36⟩] rfl (by rfl) HH3 rfl rfl hLo rfl HS3 (slS 0 rfl rfl (slS 1 rfl rfl (slS 2 rfl rfl (slL 6 (d := 6) rfl (slL 7 (d := 8) rfl (trivial)))))) ?_ ?_
    · show ∀ i ∈ [0, 1, 2, 3, 4, 5, 6, 7, 8], _
      refine steps_cons (st_run 0 _ rfl rfl hLo rfl rfl (fun _ _ _ _ => rfl) (fun b G w hb ho => exec_slice rfl (ev_off rfl (HS3.get 0 rfl)) rfl rfl rfl (slice_all _ _))) ?_
      refine steps_cons (st_read 1 0 _ _ rfl rfl rfl hLo rfl rfl (fun _ _ _ _ => rfl) (by rfl) (by rfl) (fun b G w hb ho hr => exec_convert rfl (ev_on hLo 0 rfl HS3.1 rfl (hb 0 (by rfl))) (conv_row hr))) ?_
      refine steps_cons (st_call 2 _ #[.string (sOf (b))] rfl rfl rfl (fun _ _ _ _ => rfl) hLo rfl rfl Tryd.func13 rfl rfl (fun b G hb ho => args1 (ev_on hLo 1 rfl HS3.1 rfl (hb 1 (by rfl)))) (fun w hw => decR_as hYb hrrb w hb)) ?_
      refine steps_cons (st_run 3 _ rfl rfl hLo rfl rfl (fun _ _ _ _ => rfl) (fun b G w hb ho => exec_move (.inl rfl) (ev_on hLo 2 rfl HS3.1 rfl (hb 2 (by rfl))))) ?_
      refine steps_cons (st_run 4 _ rfl rfl hLo rfl rfl (fun _ _ _ _ => rfl) (fun b G w hb ho => exec_extract rfl (ev_on hLo 3 rfl HS3.1 rfl (hb 3 (by rfl))) (by rfl))) ?_
      refine steps_cons (st_run 5 _ rfl rfl hLo rfl rfl (fun _ _ _ _ => rfl) (fun b G w hb ho => exec_extract rfl (ev_on hLo 3 rfl HS3.1 rfl (hb 3 (by rfl))) (by rfl))) ?_
      refine steps_cons (st_alloc 6 2 .i64 64 36 (some 7) _ _ rfl rfl (fun _ _ _ _ => rfl) rfl hLo rfl rfl rfl rfl (by rfl) (fun b G w _ _ => by kernel_rfl)) ?_
      refine steps_cons (st_store 2 _ rfl rfl rfl rfl rfl (fun _ _ _ _ => rfl) rfl rfl rfl (by rfl) infoPr (fun b G hb ho => ev_on hLo 6 rfl HS3.1 rfl (hb 6 (by rfl))) (fun b G hb ho => ev_on hLo 4 rfl HS3.1 rfl (hb 4 (by rfl)))) ?_
      refine steps_cons (st_run 7 _ rfl rfl hLo rfl rfl (fun _ _ _ _ => rfl) (fun b G w hb ho => exec_move (.inr rfl) (ev_on hLo 5 rfl HS3.1 rfl (hb 5 (by rfl))))) ?_
      exact steps_nil
    clear hLo
    intro G a6 w6 hS hH
    have HS6 : Sl a6 46 [(1, .pointer (some ⟨g1_0, 0, none⟩)), (3, .pointer (some ⟨g3_5, 0, none⟩)), (4, .bool true), (5, .pointer (some ⟨(G 6), 0, none⟩)), (6, .bool true)] := hS
    have HH6 : Held w w6 [⟨g1_0, .u8, 32, b, 22⟩, ⟨g3_5, .u64, 20, Xb, 28⟩, ⟨(G 6), .i64, 64, Yb, 36⟩] := hH
    clear hS hH HS3 HH3
    generalize G 6 = g6_6 at HS6 HH6
    refine then_ ?_
    have hs0 : sameRow 32 (ptB Pb) b = true := (sameRow_iff _ _ _).2 (fun j hj => by rw [← hPb]; exact dec_bytes hb hrb j hj)
    refine wp_seq ?_
    have hLo : LOk [(0, 22, .val (.bool true)), (1, 23, .val (.bool true)), (2, 24, .val (.bool true)), (3, 25, .val (.bool true)), (4, 26, .val (.bool true)), (5, 27, .val (.bool false)), (6, 28, .val (.bool false)), (7, 29, .val (.agg (FR .u64 20 (Xb)))), (8, 30, .val (.agg (FR .u8 32 (ptB (Pb))))), (9, 31, .val (.agg (FR .u8 32 (b)))), (10, 32, .val (.bool true)), (11, 33, .val (.bool true)), (12, 34, .val (.agg (FR .u64 20 (Xb)))), (13, 35, .val (.agg (FR .i64 64 (Yb)))), (14, 36, .val (.string (sOf (ptB (Pb))))), (15, 37, .val (.bool true)), (16, 38, .val (.bool true)), (17, 39, .val (.bool true)), (18, 40, .val (.agg (FR .u64 20 (Xb)))), (19, 41, .val (.agg (FR .u64 20 (Xb)))), (20, 42, .val (.bool true)), (21, 43, .val (.bool true)), (22, 44, .val (.bool true)), (23, 45, .val (.bool true)), (24, 2, .val (.bool true))] := ⟨show ([0, 1, 2, 3, 4, 5, 6, 7, 8, 9, 10, 11, 12, 13, 14, 15, 16, 17, 18, 19, 20, 21, 22, 23, 24] : List Nat).Nodup by decide, show ([22, 23, 24, 25, 26, 27, 28, 29, 30, 31, 32, 33, 34, 35, 36, 37, 38, 39, 40, 41, 42, 43, 44, 45, 2] : List Nat).Nodup by decide⟩
    refine region_ (wE := w) (sz := 46) (n := 25) (B := [0, 0, 3, 7, 15, 31, 63, 127, 255, 127, 1023, 2047, 4095, 4095, 12287, 32767, 65535, 131071, 262143, 262143, 1048575, 2097151, 4194303, 8388607, 16777215]) [0, 1, 2, 3, 4, 5, 6, 7, 8, 9, 10, 11, 12, 13, 14, 15, 16, 17, 18, 19, 20, 21, 22, 23, 24] [(2, .val (.bool true))] [(0, 22, .val (.bool true)), (1, 23, .val (.bool true)), (2, 24, .val (.bool true)), (3, 25, .val (.bool true)), (4, 26, .val (.bool true)), (5, 27, .val (.bool false)), (6, 28, .val (.bool false)), (7, 29, .val (.agg (FR .u64 20 (Xb)))), (8, 30, .val (.agg (FR .u8 32 (ptB (Pb))))), (9, 31, .val (.agg (FR .u8 32 (b)))), (10, 32, .val (.bool true)), (11, 33, .val (.bool true)), (12, 34, .val (.agg (FR .u64 20 (Xb)))), (13, 35, .val (.agg (FR .i64 64 (Yb)))), (14, 36, .val (.string (sOf (ptB (Pb))))), (15, 37, .val (.bool true)), (16, 38, .val (.bool true)), (17, 39, .val (.bool true)), (18, 40, .val (.agg (FR .u64 20 (Xb)))), (19, 41, .val (.agg (FR .u64 20 (Xb)))), (20, 42, .val (.bool true)), (21, 43, .val (.bool true)), (22, 44, .val (.bool true)), (23, 45, .val (.bool true)), (24, 2, .val (.bool true))] [⟨g1_0, none, none, .u8, 32, b, b, 22⟩, ⟨g3_5, none, none, .u64, 20, Xb, Xb, 28⟩, ⟨g6_6, none, none, .i64, 64, Yb, Yb, 36⟩] (by rfl) rfl tabcd_5 bitscd_5 (by kernel_rfl) (by kernel_rfl) HH6 rfl rfl hLo rfl HS6 (slL 24 (d := 24) rfl (trivial)) ?_ ?_
    · show ∀ i ∈ [0, 1, 2, 3, 4, 5, 6, 7, 8, 9, 10, 11, 12, 13, 14, 15, 16, 17, 18, 19, 20, 21, 22, 23, 24], _
      refine steps_cons (st_run 0 _ rfl rfl hLo rfl rfl (fun _ _ _ _ => rfl) (fun b G w hb ho => exec_move (.inl rfl) (ev_off rfl (HS6.get 2 rfl)))) ?_
      refine steps_cons (st_run 1 _ rfl rfl hLo rfl rfl (fun _ _ _ _ => rfl) (fun b G w hb ho => exec_move (.inl rfl) (ev_off rfl (HS6.get 4 rfl)))) ?_
      refine steps_cons (st_run 2 _ rfl rfl hLo rfl rfl (fun _ _ _ _ => rfl) (fun b G w hb ho => exec_bin rfl (ev_on hLo 0 rfl HS6.1 rfl (hb 0 (by rfl))) (ev_on hLo 1 rfl HS6.1 rfl (hb 1 (by rfl))) (eqbool_run _ _ rfl _ _ _))) ?_
      refine steps_cons (st_run 3 _ rfl rfl hLo rfl rfl (fun _ _ _ _ => rfl) (fun b G w hb ho => exec_move (.inl rfl) (ev_on hLo 2 rfl HS6.1 rfl (hb 2 (by rfl))))) ?_
      refine steps_cons (st_run 4 _ rfl rfl hLo rfl rfl (fun b G hb ho => wanted_is rfl rfl rfl HS6.1 rfl (ev_on hLo 3 rfl HS6.1 rfl (hb 3 (by rfl))) rfl) (fun b G w hb ho => exec_move (.inl rfl) (ev_off rfl (HS6.get 2 rfl)))) ?_
      refine steps_cons (st_run 5 _ rfl rfl hLo rfl rfl (fun b G hb ho => wanted_is rfl rfl rfl HS6.1 rfl (ev_on hLo 3 rfl HS6.1 rfl (hb 3 (by rfl))) rfl) (fun b G w hb ho => exec_un rfl (ev_on hLo 4 rfl HS6.1 rfl (hb 4 (by rfl))) (by rfl))) ?_
      refine steps_cons (st_run 6 _ rfl rfl hLo rfl rfl (fun b G hb ho => wanted_is rfl rfl rfl HS6.1 rfl (ev_on hLo 3 rfl HS6.1 rfl (hb 3 (by rfl))) rfl) (fun b G w hb ho => exec_move (.inl rfl) (ev_on hLo 5 rfl HS6.1 rfl (hb 5 (by rfl))))) ?_
      refine steps_cons (st_row0 7 1 _ rfl rfl rfl rfl (fun b G hb ho => wanted_is rfl rfl rfl HS6.1 rfl (ev_on hLo 6 rfl HS6.1 rfl (hb 6 (by rfl))) rfl) hLo rfl rfl rfl (by rfl) Tryd.underlying28 infoPt rfl (fun b G hb ho => ev_off rfl (HS6.get 1 rfl))) ?_
      refine steps_cons (st_call 8 _ #[.agg (FR .u64 20 (Xb))] rfl rfl rfl (fun b G hb ho => wanted_is rfl rfl rfl HS6.1 rfl (ev_on hLo 6 rfl HS6.1 rfl (hb 6 (by rfl))) rfl) hLo rfl rfl Tryd.func11 rfl rfl (fun b G hb ho => args1 (ev_on hLo 7 rfl HS6.1 rfl (hb 7 (by rfl)))) (fun w hw => bytes_as rXb.bytes w rXb.1)) ?_
      refine steps_cons (st_row0 9 0 _ rfl rfl rfl rfl (fun b G hb ho => wanted_is rfl rfl rfl HS6.1 rfl (ev_on hLo 6 rfl HS6.1 rfl (hb 6 (by rfl))) rfl) hLo rfl rfl rfl (by rfl) Tryd.underlying22 infoB3 rfl (fun b G hb ho => ev_off rfl (HS6.get 0 rfl))) ?_
      refine steps_cons (st_run 10 _ rfl rfl hLo rfl rfl (fun b G hb ho => wanted_is rfl rfl rfl HS6.1 rfl (ev_on hLo 6 rfl HS6.1 rfl (hb 6 (by rfl))) rfl) (fun b G w hb ho => exec_bin rfl (ev_on hLo 8 rfl HS6.1 rfl (hb 8 (by rfl))) (ev_on hLo 9 rfl HS6.1 rfl (hb 9 (by rfl))) (eqB_run hs0 _ _ _))) ?_
      refine steps_cons (st_run 11 _ rfl rfl hLo rfl rfl (fun b G hb ho => wanted_is rfl rfl rfl HS6.1 rfl (ev_on hLo 6 rfl HS6.1 rfl (hb 6 (by rfl))) rfl) (fun b G w hb ho => exec_move (.inl rfl) (ev_on hLo 10 rfl HS6.1 rfl (hb 10 (by rfl))))) ?_
      refine steps_cons (st_row0 12 1 _ rfl rfl rfl rfl (fun b G hb ho => wanted_is rfl rfl rfl HS6.1 rfl (ev_on hLo 11 rfl HS6.1 rfl (hb 11 (by rfl))) rfl) hLo rfl rfl rfl (by rfl) Tryd.underlying28 infoPt rfl (fun b G hb ho => ev_off rfl (HS6.get 1 rfl))) ?_
      refine steps_cons (st_row0 13 2 _ rfl rfl rfl rfl (fun b G hb ho => wanted_is rfl rfl rfl HS6.1 rfl (ev_on hLo 11 rfl HS6.1 rfl (hb 11 (by rfl))) rfl) hLo rfl rfl rfl (by rfl) Tryd.underlying36 infoPr rfl (fun b G hb ho => ev_off rfl (HS6.get 3 rfl))) ?_
      refine steps_cons (st_call 14 _ #[.agg (FR .i64 64 (Yb))] rfl rfl rfl (fun b G hb ho => wanted_is rfl rfl rfl HS6.1 rfl (ev_on hLo 11 rfl HS6.1 rfl (hb 11 (by rfl))) rfl) hLo rfl rfl Tryd.func15 rfl rfl (fun b G hb ho => args1 (ev_on hLo 13 rfl HS6.1 rfl (hb 13 (by rfl)))) (fun w hw => bytesR_as (by rw [rYb.bytes]) w rYb.1)) ?_
      refine steps_cons (st_call 15 _ #[.agg (FR .u64 20 (Xb)), .string (sOf (ptB (Pb)))] rfl rfl rfl (fun b G hb ho => wanted_is rfl rfl rfl HS6.1 rfl (ev_on hLo 11 rfl HS6.1 rfl (hb 11 (by rfl))) rfl) hLo rfl rfl Tryd.func14 rfl rfl (fun b G hb ho => args2 (ev_on hLo 12 rfl HS6.1 rfl (hb 12 (by rfl))) (ev_on hLo 14 rfl HS6.1 rfl (hb 14 (by rfl)))) (fun w hw => same_as (by rw [rXb.bytes]; exact beq_self_eq_true _) w rXb.1)) ?_
      refine steps_cons (st_run 16 _ rfl rfl hLo rfl rfl (fun b G hb ho => wanted_is rfl rfl rfl HS6.1 rfl (ev_on hLo 6 rfl HS6.1 rfl (hb 6 (by rfl))) rfl) (fun b G w hb ho => exec_pick rfl (ev_on hLo 11 rfl HS6.1 rfl (hb 11 (by rfl))) (ev_on hLo 15 rfl HS6.1 rfl (hb 15 (by rfl))))) ?_
      refine steps_cons (st_run 17 _ rfl rfl hLo rfl rfl (fun b G hb ho => wanted_is rfl rfl rfl HS6.1 rfl (ev_on hLo 6 rfl HS6.1 rfl (hb 6 (by rfl))) rfl) (fun b G w hb ho => exec_move (.inl rfl) (ev_on hLo 16 rfl HS6.1 rfl (hb 16 (by rfl))))) ?_
      refine steps_cons (st_row0 18 1 _ rfl rfl rfl rfl (fun b G hb ho => wanted_is rfl rfl rfl HS6.1 rfl (ev_on hLo 17 rfl HS6.1 rfl (hb 17 (by rfl))) rfl) hLo rfl rfl rfl (by rfl) Tryd.underlying28 infoPt rfl (fun b G hb ho => ev_off rfl (HS6.get 1 rfl))) ?_
      refine steps_cons (st_row0 19 1 _ rfl rfl rfl rfl (fun b G hb ho => wanted_is rfl rfl rfl HS6.1 rfl (ev_on hLo 17 rfl HS6.1 rfl (hb 17 (by rfl))) rfl) hLo rfl rfl rfl (by rfl) Tryd.underlying28 infoPt rfl (fun b G hb ho => ev_off rfl (HS6.get 1 rfl))) ?_
      refine steps_cons (st_call 20 _ #[.agg (FR .u64 20 (Xb)), .agg (FR .u64 20 (Xb))] rfl rfl rfl (fun b G hb ho => wanted_is rfl rfl rfl HS6.1 rfl (ev_on hLo 17 rfl HS6.1 rfl (hb 17 (by rfl))) rfl) hLo rfl rfl Tryd.func16 rfl rfl (fun b G hb ho => args2 (ev_on hLo 18 rfl HS6.1 rfl (hb 18 (by rfl))) (ev_on hLo 19 rfl HS6.1 rfl (hb 19 (by rfl)))) (fun w hw => is_as (is_same rXb rXb rfl) w rXb.1 rXb.1)) ?_
      refine steps_cons (st_run 21 _ rfl rfl hLo rfl rfl (fun b G hb ho => wanted_is rfl rfl rfl HS6.1 rfl (ev_on hLo 6 rfl HS6.1 rfl (hb 6 (by rfl))) rfl) (fun b G w hb ho => exec_pick rfl (ev_on hLo 17 rfl HS6.1 rfl (hb 17 (by rfl))) (ev_on hLo 20 rfl HS6.1 rfl (hb 20 (by rfl))))) ?_
      refine steps_cons (st_run 22 _ rfl rfl hLo rfl rfl (fun b G hb ho => wanted_is rfl rfl rfl HS6.1 rfl (ev_on hLo 3 rfl HS6.1 rfl (hb 3 (by rfl))) rfl) (fun b G w hb ho => exec_pick rfl (ev_on hLo 6 rfl HS6.1 rfl (hb 6 (by rfl))) (ev_on hLo 21 rfl HS6.1 rfl (hb 21 (by rfl))))) ?_
      refine steps_cons (st_run 23 _ rfl rfl hLo rfl rfl (fun _ _ _ _ => rfl) (fun b G w hb ho => exec_pick rfl (ev_on hLo 3 rfl HS6.1 rfl (hb 3 (by rfl))) (ev_on hLo 22 rfl HS6.1 rfl (hb 22 (by rfl))))) ?_
      refine steps_cons (st_run 24 _ rfl rfl hLo rfl rfl (fun _ _ _ _ => rfl) (fun b G w hb ho => exec_move (.inr rfl) (ev_on hLo 23 rfl HS6.1 rfl (hb 23 (by rfl))))) ?_
      exact steps_nil
    clear hLo
    intro G a7 w7 hS hH
    have HS7 : Sl a7 46 [(2, .bool true)] := hS
    have HH7 : Held w w7 [⟨g1_0, .u8, 32, b, 22⟩, ⟨g3_5, .u64, 20, Xb, 28⟩, ⟨g6_6, .i64, 64, Yb, 36⟩] := hH
    clear hS hH HS6 HH6
    refine then_ ?_
    refine wp_ret ?_
    repeat refine then_ret ?_
    exact b_tmp rfl HS7.2.1 (HS7.get 0 rfl) ⟨rfl, HH7.1⟩
theorem CurveMuls_walk (a n : Nat → Int) (w : World) (hT : TabD w) (w0 : ∀ i, i < 32 → (Lit.int .u8 (a i)).wf = true) (w1 : ∀ i, i < 32 → (Lit.int .u8 (n i)).wf = true) : Calls Tryd.prog 7 #[.agg (FR .u8 32 a), .agg (FR .u8 32 n)] w fun e w' => e = .returned (.bool true) ∧ Below w.heap.size w w' := by
  have ha := By_wf w0
  have hn := By_wf w1
  obtain ⟨Xa, hXa⟩ : ∃ X, decP a = X := ⟨_, rfl⟩
  obtain ⟨Ya, hYa⟩ : ∃ X, decRP a = X := ⟨_, rfl⟩
  obtain ⟨ra, hra⟩ : ∃ r, decOk a = r := ⟨_, rfl⟩
  have hrra := (decOk_eq ha).symm.trans hra
  refine enter_ 33 Tryd.func7 rfl rfl (fun a0 hS => ?_)
  have HS0 : Sl a0 33 [(0, .agg (FR .u8 32 a)), (1, .agg (FR .u8 32 n))] := hS
  have HH0 : Held w w [] := Held.first w
  clear hS
  refine wp_seq ?_
  have hLo : LOk [(0, 2, .ptr 0 0), (1, 3, .ptr 1 0), (2, 4, .val (.bool false))] := ⟨show ([0, 1, 2] : List Nat).Nodup by decide, show ([2, 3, 4] : List Nat).Nodup by decide⟩
  refine plain_ (wE := w) (sz := 33) (n := 3) [0, 1, 3] [(2, .ptr 0 0), (3, .ptr 1 0)] [(0, 2, .ptr 0 0), (1, 3, .ptr 1 0), (2, 4, .val (.bool false))] [⟨0, some 0, none, .u8, 32, a, a, 22⟩, ⟨0, some 1, none, .u8, 32, n, n, 22⟩] rfl (by rfl) HH0 rfl rfl hLo rfl HS0 (slL 0 (d := 0) rfl (slL 1 (d := 1) rfl (trivial))) ?_ ?_
  · show ∀ i ∈ [0, 1, 2], _
    refine steps_cons (st_alloc 0 0 .u8 32 22 none _ _ rfl rfl (fun _ _ _ _ => rfl) rfl hLo rfl rfl rfl rfl (by rfl) (fun b G w hb ho => exec_box rfl (ev_off rfl (HS0.get 0 rfl)) (by kernel_rfl))) ?_
    refine steps_cons (st_alloc 1 1 .u8 32 22 none _ _ rfl rfl (fun _ _ _ _ => rfl) rfl hLo rfl rfl rfl rfl (by rfl) (fun b G w hb ho => exec_box rfl (ev_off rfl (HS0.get 1 rfl)) (by kernel_rfl))) ?_
    refine steps_cons (st_run 2 _ rfl rfl hLo rfl rfl (fun _ _ _ _ => rfl) (fun b G w hb ho => exec_move (.inr rfl) (rfl))) ?_
    exact steps_nil
  clear hLo
  intro G a1 w1 hS hH
  have HS1 : Sl a1 33 [(2, .pointer (some ⟨(G 0), 0, none⟩)), (3, .pointer (some ⟨(G 1), 0, none⟩))] := hS
  have HH1 : Held w w1 [⟨(G 0), .u8, 32, a, 22⟩, ⟨(G 1), .u8, 32, n, 22⟩] := hH
  clear hS hH HS0 HH0
  generalize G 0 = g1_0 at HS1 HH1
  generalize G 1 = g1_1 at HS1 HH1
  refine then_ ?_
  refine wp_seq ?_
  refine wp_seq ?_
  have hLo : LOk [(0, 9, .val (.bool true)), (1, 10, .val (.bool false))] := ⟨show ([0, 1] : List Nat).Nodup by decide, show ([9, 10] : List Nat).Nodup by decide⟩
  refine plain_ (wE := w) (sz := 33) (n := 2) [0, 1] [(2, .val (.pointer (some ⟨g1_0, 0, none⟩))), (3, .val (.pointer (some ⟨g1_1, 0, none⟩))), (10, .val (.bool false))] [(0, 9, .val (.bool true)), (1, 10, .val (.bool false))] [⟨g1_0, none, none, .u8, 32, a, a, 22⟩, ⟨g1_1, none, none, .u8, 32, n, n, 22⟩] rfl (by rfl) HH1 rfl rfl hLo rfl HS1 (slS 0 rfl rfl (slS 1 rfl rfl (slL 1 (d := 1) rfl (trivial)))) ?_ ?_
  · show ∀ i ∈ [0, 1], _
    refine steps_cons (st_call 0 _ #[] rfl rfl rfl (fun _ _ _ _ => rfl) hLo rfl rfl Tryd.func17 rfl rfl (fun b G hb ho => args0 ) (fun w hw => alive_calls w (hT.to hw))) ?_
    refine steps_cons (st_run 1 _ rfl rfl hLo rfl rfl (fun _ _ _ _ => rfl) (fun b G w hb ho => exec_un rfl (ev_on hLo 0 rfl HS1.1 rfl (hb 0 (by rfl))) (by rfl))) ?_
    exact steps_nil
  clear hLo
  intro G a2 w2 hS hH
  have HS2 : Sl a2 33 [(2, .pointer (some ⟨g1_0, 0, none⟩)), (3, .pointer (some ⟨g1_1, 0, none⟩)), (10, .bool false)] := hS
  have HH2 : Held w w2 [⟨g1_0, .u8, 32, a, 22⟩, ⟨g1_1, .u8, 32, n, 22⟩] := hH
  clear hS hH HS1 HH1
  refine then_ ?_
  refine wp_cond_false (HS2.get 2 rfl) ?_
  refine wp_skip ?_
  refine then_ ?_
  refine wp_seq ?_
  have hLo : LOk [(0, 12, .val (.agg (FR .u8 32 (a)))), (1, 13, .val (.tuple #[.agg (FR .u64 20 (Xa)), .bool ra])), (2, 11, .val (.tuple #[.agg (FR .u64 20 (Xa)), .bool ra])), (3, 14, .val (.agg (FR .u64 20 (Xa)))), (4, 15, .val (.bool ra)), (5, 5, .ptr 5 0), (7, 6, .val (.bool ra))] := ⟨show ([0, 1, 2, 3, 4, 5, 7] : List Nat).Nodup by decide, show ([12, 13, 11, 14, 15, 5, 6] : List Nat).Nodup by decide⟩
  refine plain_ (wE := w) (sz := 33) (n := 8) [0, 1, 3, 7, 15, 31, 63, 127] [(2, .val (.pointer (some ⟨g1_0, 0, none⟩))), (3, .val (.pointer (some ⟨g1_1, 0, none⟩))), (5, .ptr 5 0), (6, .val (.bool ra))] [(0, 12, .val (.agg (FR .u8 32 (a)))), (1, 13, .val (.tuple #[.agg (FR .u64 20 (Xa)), .bool ra])), (2, 11, .val (.tuple #[.agg (FR .u64 20 (Xa)), .bool ra])), (3, 14, .val (.agg (FR .u64 20 (Xa)))), (4, 15, .val (.bool ra)), (5, 5, .ptr 5 0), (7, 6, .val (.bool ra))] [⟨g1_0, none, none, .u8, 32, a, a, 22⟩, ⟨g1_1, none, none, .u8, 32, n, n, 22⟩, ⟨0, some 5, some 6, .u64, 20, fun _ => 0, Xa, 28⟩] rfl (by rfl) HH2 rfl rfl hLo rfl HS2 (slS 0 rfl rfl (slS 1 rfl rfl (slL 5 (d := 5) rfl (slL 6 (d := 7) rfl (trivial))))) ?_ ?_
  · show ∀ i ∈ [0, 1, 2, 3, 4, 5, 6, 7], _
    refine steps_cons (st_row0 0 0 _ rfl rfl rfl rfl (fun _ _ _ _ => rfl) hLo rfl rfl rfl (by rfl) Tryd.underlying22 infoB3 rfl (fun b G hb ho => ev_off rfl (HS2.get 0 rfl))) ?_
    refine steps_cons (st_call 1 _ #[.agg (FR .u8 32 (a))] rfl rfl rfl (fun _ _ _ _ => rfl) hLo rfl rfl Tryd.func12 rfl rfl (fun b G hb ho => args1 (ev_on hLo 0 rfl HS2.1 rfl (hb 0 (by rfl)))) (fun w hw => dec_as hXa hra w (hT.to hw) ha)) ?_
    refine steps_cons (st_run 2 _ rfl rfl hLo rfl rfl (fun _ _ _ _ => rfl) (fun b G w hb ho => exec_move (.inl rfl) (ev_on hLo 1 rfl HS2.1 rfl (hb 1 (by rfl))))) ?_
    refine steps_cons (st_run 3 _ rfl rfl hLo rfl rfl (fun _ _ _ _ => rfl) (fun b G w hb ho => exec_extract rfl (ev_on hLo 2 rfl HS2.1 rfl (hb 2 (by rfl))) (by rfl))) ?_
    refine steps_cons (st_run 4 _ rfl rfl hLo rfl rfl (fun _ _ _ _ => rfl) (fun b G w hb ho => exec_extract rfl (ev_on hLo 2 rfl HS2.1 rfl (hb 2 (by rfl))) (by rfl))) ?_
    refine steps_cons (st_alloc 5 2 .u64 20 28 (some 6) _ _ rfl rfl (fun _ _ _ _ => rfl) rfl hLo rfl rfl rfl rfl (by rfl) (fun b G w _ _ => by kernel_rfl)) ?_
    refine steps_cons (st_store 2 _ rfl rfl rfl rfl rfl (fun _ _ _ _ => rfl) rfl rfl rfl (by rfl) infoPt (fun b G hb ho => ev_on hLo 5 rfl HS2.1 rfl (hb 5 (by rfl))) (fun b G hb ho => ev_on hLo 3 rfl HS2.1 rfl (hb 3 (by rfl)))) ?_
    refine steps_cons (st_run 6 _ rfl rfl hLo rfl rfl (fun _ _ _ _ => rfl) (fun b G w hb ho => exec_move (.inr rfl) (ev_on hLo 4 rfl HS2.1 rfl (hb 4 (by rfl))))) ?_
    exact steps_nil
  clear hLo
  intro G a3 w3 hS hH
  have HS3 : Sl a3 33 [(2, .pointer (some ⟨g1_0, 0, none⟩)), (3, .pointer (some ⟨g1_1, 0, none⟩)), (5, .pointer (some ⟨(G 5), 0, none⟩)), (6, .bool ra)] := hS
  have HH3 : Held w w3 [⟨g1_0, .u8, 32, a, 22⟩, ⟨g1_1, .u8, 32, n, 22⟩, ⟨(G 5), .u64, 20, Xa, 28⟩] := hH
  clear hS hH HS2 HH2
  generalize G 5 = g3_5 at HS3 HH3
  refine then_ ?_
  cases ra
  · skip
    refine wp_seq ?_
    refine wp_seq ?_
    have hLo : LOk [(0, 16, .val (.bool false)), (1, 17, .val (.bool true))] := ⟨show ([0, 1] : List Nat).Nodup by decide, show ([16, 17] : List Nat).Nodup by decide⟩
    refine plain_ (wE := w) (sz := 33) (n := 2) [0, 1] [(17, .val (.bool true))] [(0, 16, .val (.bool false)), (1, 17, .val (.bool true))] [⟨g1_0, none, none, .u8, 32, a, a, 22⟩, ⟨g1_1, none, none, .u8, 32, n, n, 22⟩, ⟨g3_5, none, none, .u64, 20, Xa, Xa, 28⟩] rfl (by rfl) HH3 rfl rfl hLo rfl HS3 (slL 1 (d := 1) rfl (trivial)) ?_ ?_
    · show ∀ i ∈ [0, 1], _
      refine steps_cons (st_run 0 _ rfl rfl hLo rfl rfl (fun _ _ _ _ => rfl) (fun b G w hb ho => exec_move (.inl rfl) (ev_off rfl (HS3.get 3 rfl)))) ?_
      refine steps_cons (st_run 1 _ rfl rfl hLo rfl rfl (fun _ _ _ _ => rfl) (fun b G w hb ho => exec_un rfl (ev_on hLo 0 rfl HS3.1 rfl (hb 0 (by rfl))) (by rfl))) ?_
      exact steps_nil
    clear hLo
    intro G a4 w4 hS hH
    have HS4 : Sl a4 33 [(17, .bool true)] := hS
    have HH4 : Held w w4 [⟨g1_0, .u8, 32, a, 22⟩, ⟨g1_1, .u8, 32, n, 22⟩, ⟨g3_5, .u64, 20, Xa, 28⟩] := hH
    clear hS hH HS3 HH3
    refine then_ ?_
    refine wp_cond_true (HS4.get 0 rfl) ?_
    refine wp_seq ?_
    have hLo : LOk [(0, 4, .val (.bool true))] := ⟨show ([0] : List Nat).Nodup by decide, show ([4] : List Nat).Nodup by decide⟩
    refine plain_ (wE := w) (sz := 33) (n := 1) [0] [(4, .val (.bool true))] [(0, 4, .val (.bool true))] [⟨g1_0, none, none, .u8, 32, a, a, 22⟩, ⟨g1_1, none, none, .u8, 32, n, n, 22⟩, ⟨g3_5, none, none, .u64, 20, Xa, Xa, 28⟩] rfl (by rfl) HH4 rfl rfl hLo rfl HS4 (slL 0 (d := 0) rfl (trivial)) ?_ ?_
    · show ∀ i ∈ [0], _
      refine steps_cons (st_run 0 _ rfl rfl hLo rfl rfl (fun _ _ _ _ => rfl) (fun b G w hb ho => exec_move (.inr rfl) (rfl))) ?_
      exact steps_nil
    clear hLo
    intro G a5 w5 hS hH
    have HS5 : Sl a5 33 [(4, .bool true)] := hS
    have HH5 : Held w w5 [⟨g1_0, .u8, 32, a, 22⟩, ⟨g1_1, .u8, 32, n, 22⟩, ⟨g3_5, .u64, 20, Xa, 28⟩] := hH
    clear hS hH HS4 HH4
    refine then_ ?_
    refine wp_ret ?_
    repeat refine then_ret ?_
    exact b_tmp rfl HS5.2.1 (HS5.get 0 rfl) ⟨rfl, HH5.1⟩
  · skip
    obtain ⟨Pa, hPa⟩ : ∃ P, decPt a ha hra = P := ⟨_, rfl⟩
    have rXa : PRep Xa Pa := by rw [← hXa, ← hPa]; exact dec_prep ha hra
    have rYa : RRep Ya Pa := by rw [← hYa, ← hPa]; exact dec_rrep ha hra
    refine wp_seq ?_
    refine wp_seq ?_
    have hLo : LOk [(0, 16, .val (.bool true)), (1, 17, .val (.bool false))] := ⟨show ([0, 1] : List Nat).Nodup by decide, show ([16, 17] : List Nat).Nodup by decide⟩
    refine plain_ (wE := w) (sz := 33) (n := 2) [0, 1] [(2, .val (.pointer (some ⟨g1_0, 0, none⟩))), (3, .val (.pointer (some ⟨g1_1, 0, none⟩))), (5, .val (.pointer (some ⟨g3_5, 0, none⟩))), (17, .val (.bool false))] [(0, 16, .val (.bool true)), (1, 17, .val (.bool false))] [⟨g1_0, none, none, .u8, 32, a, a, 22⟩, ⟨g1_1, none, none, .u8, 32, n, n, 22⟩, ⟨g3_5, none, none, .u64, 20, Xa, Xa, 28⟩] rfl (by rfl) HH3 rfl rfl hLo rfl HS3 (slS 0 rfl rfl (slS 1 rfl rfl (slS 2 rfl rfl (slL 1 (d := 1) rfl (trivial))))) ?_ ?_
    · show ∀ i ∈ [0, 1], _
      refine steps_cons (st_run 0 _ rfl rfl hLo rfl rfl (fun _ _ _ _ => rfl) (fun b G w hb ho => exec_move (.inl rfl) (ev_off rfl (HS3.get 3 rfl)))) ?_
      refine steps_cons (st_run 1 _ rfl rfl hLo rfl rfl (fun _ _ _ _ => rfl) (fun b G w hb ho => exec_un rfl (ev_on hLo 0 rfl HS3.1 rfl (hb 0 (by rfl))) (by rfl))) ?_
      exact steps_nil
    clear hLo
    intro G a6 w6 hS hH
    have HS6 : Sl a6 33 [(2, .pointer (some ⟨g1_0, 0, none⟩)), (3, .pointer (some ⟨g1_1, 0, none⟩)), (5, .pointer (some ⟨g3_5, 0, none⟩)), (17, .bool false)] := hS
    have HH6 : Held w w6 [⟨g1_0, .u8, 32, a, 22⟩, ⟨g1_1, .u8, 32, n, 22⟩, ⟨g3_5, .u64, 20, Xa, 28⟩] := hH
    clear hS hH HS3 HH3
    refine then_ ?_
    refine wp_cond_false (HS6.get 3 rfl) ?_
    refine wp_skip ?_
    refine then_ ?_
    refine wp_seq ?_
    have hLo : LOk [(0, 19, .val (.slice (some ⟨g1_0, 0, none⟩) 32 32)), (1, 20, .val (.string (sOf (a)))), (2, 21, .val (.tuple #[.agg (FR .i64 64 (Ya)), .bool true])), (3, 18, .val (.tuple #[.agg (FR .i64 64 (Ya)), .bool true])), (4, 22, .val (.agg (FR .i64 64 (Ya)))), (5, 23, .val (.bool true)), (6, 7, .ptr 6 0), (8, 8, .val (.bool true))] := ⟨show ([0, 1, 2, 3, 4, 5, 6, 8] : List Nat).Nodup by decide, show ([19, 20, 21, 18, 22, 23, 7, 8] : List Nat).Nodup by decide⟩
    refine plain_ (wE := w) (sz := 33) (n := 9) [0, 1, 3, 7, 15, 31, 63, 127, 255] [(2, .val (.pointer (some ⟨g1_0, 0, none⟩))), (3, .val (.pointer (some ⟨g1_1, 0, none⟩))), (5, .val (.pointer (some ⟨g3_5, 0, none⟩))), (7, .ptr 6 0)] [(0, 19, .val (.slice (some ⟨g1_0, 0, none⟩) 32 32)), (1, 20, .val (.string (sOf (a)))), (2, 21, .val (.tuple #[.agg (FR .i64 64 (Ya)), .bool true])), (3, 18, .val (.tuple #[.agg (FR .i64 64 (Ya)), .bool true])), (4, 22, .val (.agg (FR .i64 64 (Ya)))), (5, 23, .val (.bool true)), (6, 7, .ptr 6 0), (8, 8, .val (.bool true))] [⟨g1_0, none, none, .u8, 32, a, a, 22⟩, ⟨g1_1, none, none, .u8, 32, n, n, 22⟩, ⟨g3_5, none, none, .u64, 20, Xa, Xa, 28⟩, ⟨0, some 6, some 7, .i64, 64, fun _ => 0, Ya, 36⟩] rfl (by rfl) HH6 rfl rfl hLo rfl HS6 (slS 0 rfl rfl (slS 1 rfl rfl (slS 2 rfl rfl (slL 6 (d := 6) rfl (trivial))))) ?_ ?_
    · show ∀ i ∈ [0, 1, 2, 3, 4, 5, 6, 7, 8], _
      refine steps_cons (st_run 0 _ rfl rfl hLo rfl rfl (fun _ _ _ _ => rfl) (fun b G w hb ho => exec_slice rfl (ev_off rfl (HS6.get 0 rfl)) rfl rfl rfl (slice_all _ _))) ?_
      refine steps_cons (st_read 1 0 _ _ rfl rfl rfl hLo rfl rfl (fun _ _ _ _ => rfl) (by rfl) (by rfl) (fun b G w hb ho hr => exec_convert rfl (ev_on hLo 0 rfl HS6.1 rfl (hb 0 (by rfl))) (conv_row hr))) ?_
      refine steps_cons (st_call 2 _ #[.string (sOf (a))] rfl rfl rfl (fun _ _ _ _ => rfl) hLo rfl rfl Tryd.func13 rfl rfl (fun b G hb ho => args1 (ev_on hLo 1 rfl HS6.1 rfl (hb 1 (by rfl)))) (fun w hw => decR_as hYa hrra w ha)) ?_
      refine steps_cons (st_run 3 _ rfl rfl hLo rfl rfl (fun _ _ _ _ => rfl) (fun b G w hb ho => exec_move (.inl rfl) (ev_on hLo 2 rfl HS6.1 rfl (hb 2 (by rfl))))) ?_
      refine steps_cons (st_run 4 _ rfl rfl hLo rfl rfl (fun _ _ _ _ => rfl) (fun b G w hb ho => exec_extract rfl (ev_on hLo 3 rfl HS6.1 rfl (hb 3 (by rfl))) (by rfl))) ?_
      refine steps_cons (st_run 5 _ rfl rfl hLo rfl rfl (fun _ _ _ _ => rfl) (fun b G w hb ho => exec_extract rfl (ev_on hLo 3 rfl HS6.1 rfl (hb 3 (by rfl))) (by rfl))) ?_
      refine steps_cons (st_alloc 6 3 .i64 64 36 (some 7) _ _ rfl rfl (fun _ _ _ _ => rfl) rfl hLo rfl rfl rfl rfl (by rfl) (fun b G w _ _ => by kernel_rfl)) ?_
      refine steps_cons (st_store 3 _ rfl rfl rfl rfl rfl (fun _ _ _ _ => rfl) rfl rfl rfl (by rfl) infoPr (fun b G hb ho => ev_on hLo 6 rfl HS6.1 rfl (hb 6 (by rfl))) (fun b G hb ho => ev_on hLo 4 rfl HS6.1 rfl (hb 4 (by rfl)))) ?_
      refine steps_cons (st_run 7 _ rfl rfl hLo rfl rfl (fun _ _ _ _ => rfl) (fun b G w hb ho => exec_move (.inr rfl) (ev_on hLo 5 rfl HS6.1 rfl (hb 5 (by rfl))))) ?_
      exact steps_nil
    clear hLo
    intro G a7 w7 hS hH
    have HS7 : Sl a7 33 [(2, .pointer (some ⟨g1_0, 0, none⟩)), (3, .pointer (some ⟨g1_1, 0, none⟩)), (5, .pointer (some ⟨g3_5, 0, none⟩)), (7, .pointer (some ⟨(G 6), 0, none⟩))] := hS
    have HH7 : Held w w7 [⟨g1_0, .u8, 32, a, 22⟩, ⟨g1_1, .u8, 32, n, 22⟩, ⟨g3_5, .u64, 20, Xa, 28⟩, ⟨(G 6), .i64, 64, Ya, 36⟩] := hH
    clear hS hH HS6 HH6
    generalize G 6 = g7_6 at HS7 HH7
    refine then_ ?_
    obtain ⟨M4, hM4, rM4⟩ : ∃ S, mulP Xa (n) = S ∧ PRep S (Pt.mul fld (Pa) (NZ (n))) := ⟨_, rfl, rXa.mul hn⟩
    obtain ⟨W5, hW5, rW5⟩ : ∃ S, mulRP Ya (n) = S ∧ RRep S (Pt.mul fld (Pa) (NZ (n))) := ⟨_, rfl, rYa.mul hn⟩
    refine wp_seq ?_
    have hLo : LOk [(0, 24, .val (.agg (FR .u64 20 (Xa)))), (1, 25, .val (.agg (FR .u8 32 (n)))), (2, 26, .val (.agg (FR .u64 20 (M4)))), (3, 27, .val (.agg (FR .i64 64 (Ya)))), (4, 28, .val (.slice (some ⟨g1_1, 0, none⟩) 32 32)), (5, 29, .val (.string (sOf (n)))), (6, 30, .val (.agg (FR .i64 64 (W5)))), (7, 31, .val (.string (sOf (ptB (Pt.mul fld (Pa) (NZ (n))))))), (8, 32, .val (.bool true)), (9, 4, .val (.bool true))] := ⟨show ([0, 1, 2, 3, 4, 5, 6, 7, 8, 9] : List Nat).Nodup by decide, show ([24, 25, 26, 27, 28, 29, 30, 31, 32, 4] : List Nat).Nodup by decide⟩
    refine region_ (wE := w) (sz := 33) (n := 10) (B := [0, 0, 3, 0, 0, 16, 63, 127, 255, 511]) [0, 1, 2, 3, 4, 5, 6, 7, 8, 9] [(4, .val (.bool true))] [(0, 24, .val (.agg (FR .u64 20 (Xa)))), (1, 25, .val (.agg (FR .u8 32 (n)))), (2, 26, .val (.agg (FR .u64 20 (M4)))), (3, 27, .val (.agg (FR .i64 64 (Ya)))), (4, 28, .val (.slice (some ⟨g1_1, 0, none⟩) 32 32)), (5, 29, .val (.string (sOf (n)))), (6, 30, .val (.agg (FR .i64 64 (W5)))), (7, 31, .val (.string (sOf (ptB (Pt.mul fld (Pa) (NZ (n))))))), (8, 32, .val (.bool true)), (9, 4, .val (.bool true))] [⟨g1_0, none, none, .u8, 32, a, a, 22⟩, ⟨g1_1, none, none, .u8, 32, n, n, 22⟩, ⟨g3_5, none, none, .u64, 20, Xa, Xa, 28⟩, ⟨g7_6, none, none, .i64, 64, Ya, Ya, 36⟩] (by rfl) rfl tabcm_7 bitscm_7 (by kernel_rfl) (by kernel_rfl) HH7 rfl rfl hLo rfl HS7 (slL 9 (d := 9) rfl (trivial)) ?_ ?_
    · show ∀ i ∈ [0, 1, 2, 3, 4, 5, 6, 7, 8, 9], _
      refine steps_cons (st_row0 0 2 _ rfl rfl rfl rfl (fun _ _ _ _ => rfl) hLo rfl rfl rfl (by rfl) Tryd.underlying28 infoPt rfl (fun b G hb ho => ev_off rfl (HS7.get 2 rfl))) ?_
      refine steps_cons (st_row0 1 1 _ rfl rfl rfl rfl (fun _ _ _ _ => rfl) hLo rfl rfl rfl (by rfl) Tryd.underlying22 infoB3 rfl (fun b G hb ho => ev_off rfl (HS7.get 1 rfl))) ?_
      refine steps_cons (st_call 2 _ #[.agg (FR .u64 20 (Xa)), .agg (FR .u8 32 (n))] rfl rfl rfl (fun _ _ _ _ => rfl) hLo rfl rfl Tryd.func22 rfl rfl (fun b G hb ho => args2 (ev_on hLo 0 rfl HS7.1 rfl (hb 0 (by rfl))) (ev_on hLo 1 rfl HS7.1 rfl (hb 1 (by rfl)))) (fun w hw => mul_as hM4 w (hT.to hw) rXa.1 hn)) ?_
      refine steps_cons (st_row0 3 3 _ rfl rfl rfl rfl (fun _ _ _ _ => rfl) hLo rfl rfl rfl (by rfl) Tryd.underlying36 infoPr rfl (fun b G hb ho => ev_off rfl (HS7.get 3 rfl))) ?_
      refine steps_cons (st_run 4 _ rfl rfl hLo rfl rfl (fun _ _ _ _ => rfl) (fun b G w hb ho => exec_slice rfl (ev_off rfl (HS7.get 1 rfl)) rfl rfl rfl (slice_all _ _))) ?_
      refine steps_cons (st_read 5 1 _ _ rfl rfl rfl hLo rfl rfl (fun _ _ _ _ => rfl) (by rfl) (by rfl) (fun b G w hb ho hr => exec_convert rfl (ev_on hLo 4 rfl HS7.1 rfl (hb 4 (by rfl))) (conv_row hr))) ?_
      refine steps_cons (st_call 6 _ #[.agg (FR .i64 64 (Ya)), .string (sOf (n))] rfl rfl rfl (fun _ _ _ _ => rfl) hLo rfl rfl Tryd.func23 rfl rfl (fun b G hb ho => args2 (ev_on hLo 3 rfl HS7.1 rfl (hb 3 (by rfl))) (ev_on hLo 5 rfl HS7.1 rfl (hb 5 (by rfl)))) (fun w hw => mulR_as hW5 w rYa.1 hn)) ?_
      refine steps_cons (st_call 7 _ #[.agg (FR .i64 64 (W5))] rfl rfl rfl (fun _ _ _ _ => rfl) hLo rfl rfl Tryd.func15 rfl rfl (fun b G hb ho => args1 (ev_on hLo 6 rfl HS7.1 rfl (hb 6 (by rfl)))) (fun w hw => bytesR_as (by rw [rW5.bytes]) w rW5.1)) ?_
      refine steps_cons (st_call 8 _ #[.agg (FR .u64 20 (M4)), .string (sOf (ptB (Pt.mul fld (Pa) (NZ (n)))))] rfl rfl rfl (fun _ _ _ _ => rfl) hLo rfl rfl Tryd.func14 rfl rfl (fun b G hb ho => args2 (ev_on hLo 2 rfl HS7.1 rfl (hb 2 (by rfl))) (ev_on hLo 7 rfl HS7.1 rfl (hb 7 (by rfl)))) (fun w hw => same_as (by rw [rM4.bytes]; exact beq_self_eq_true _) w rM4.1)) ?_
      refine steps_cons (st_run 9 _ rfl rfl hLo rfl rfl (fun _ _ _ _ => rfl) (fun b G w hb ho => exec_move (.inr rfl) (ev_on hLo 8 rfl HS7.1 rfl (hb 8 (by rfl))))) ?_
      exact steps_nil
    clear hLo
    intro G a8 w8 hS hH
    have HS8 : Sl a8 33 [(4, .bool true)] := hS
    have HH8 : Held w w8 [⟨g1_0, .u8, 32, a, 22⟩, ⟨g1_1, .u8, 32, n, 22⟩, ⟨g3_5, .u64, 20, Xa, 28⟩, ⟨g7_6, .i64, 64, Ya, 36⟩] := hH
    clear hS hH HS7 HH7
    refine then_ ?_
    refine wp_ret ?_
    repeat refine then_ret ?_
    exact b_tmp rfl HS8.2.1 (HS8.get 0 rfl) ⟨rfl, HH8.1⟩
theorem CurveAdds_walk (a b : Nat → Int) (w : World) (hT : TabD w) (w0 : ∀ i, i < 32 → (Lit.int .u8 (a i)).wf = true) (w1 : ∀ i, i < 32 → (Lit.int .u8 (b i)).wf = true) : Calls Tryd.prog 4 #[.agg (FR .u8 32 a), .agg (FR .u8 32 b)] w fun e w' => e = .returned (.bool true) ∧ Below w.heap.size w w' := by
  have ha := By_wf w0
  have hb := By_wf w1
  obtain ⟨Xa, hXa⟩ : ∃ X, decP a = X := ⟨_, rfl⟩
  obtain ⟨Ya, hYa⟩ : ∃ X, decRP a = X := ⟨_, rfl⟩
  obtain ⟨ra, hra⟩ : ∃ r, decOk a = r := ⟨_, rfl⟩
  have hrra := (decOk_eq ha).symm.trans hra
  obtain ⟨Xb, hXb⟩ : ∃ X, decP b = X := ⟨_, rfl⟩
  obtain ⟨Yb, hYb⟩ : ∃ X, decRP b = X := ⟨_, rfl⟩
  obtain ⟨rb, hrb⟩ : ∃ r, decOk b = r := ⟨_, rfl⟩
  have hrrb := (decOk_eq hb).symm.trans hrb
  refine enter_ 68 Tryd.func4 rfl rfl (fun a0 hS => ?_)
  have HS0 : Sl a0 68 [(0, .agg (FR .u8 32 a)), (1, .agg (FR .u8 32 b))] := hS
  have HH0 : Held w w [] := Held.first w
  clear hS
  refine wp_seq ?_
  have hLo : LOk [(0, 2, .ptr 0 0), (1, 3, .ptr 1 0), (2, 4, .val (.bool false))] := ⟨show ([0, 1, 2] : List Nat).Nodup by decide, show ([2, 3, 4] : List Nat).Nodup by decide⟩
  refine plain_ (wE := w) (sz := 68) (n := 3) [0, 1, 3] [(2, .ptr 0 0), (3, .ptr 1 0)] [(0, 2, .ptr 0 0), (1, 3, .ptr 1 0), (2, 4, .val (.bool false))] [⟨0, some 0, none, .u8, 32, a, a, 22⟩, ⟨0, some 1, none, .u8, 32, b, b, 22⟩] rfl (by rfl) HH0 rfl rfl hLo rfl HS0 (slL 0 (d := 0) rfl (slL 1 (d := 1) rfl (trivial))) ?_ ?_
  · show ∀ i ∈ [0, 1, 2], _
    refine steps_cons (st_alloc 0 0 .u8 32 22 none _ _ rfl rfl (fun _ _ _ _ => rfl) rfl hLo rfl rfl rfl rfl (by rfl) (fun b G w hb ho => exec_box rfl (ev_off rfl (HS0.get 0 rfl)) (by kernel_rfl))) ?_
    refine steps_cons (st_alloc 1 1 .u8 32 22 none _ _ rfl rfl (fun _ _ _ _ => rfl) rfl hLo rfl rfl rfl rfl (by rfl) (fun b G w hb ho => exec_box rfl (ev_off rfl (HS0.get 1 rfl)) (by kernel_rfl))) ?_
    refine steps_cons (st_run 2 _ rfl rfl hLo rfl rfl (fun _ _ _ _ => rfl) (fun b G w hb ho => exec_move (.inr rfl) (rfl))) ?_
    exact steps_nil
  clear hLo
  intro G a1 w1 hS hH
  have HS1 : Sl a1 68 [(2, .pointer (some ⟨(G 0), 0, none⟩)), (3, .pointer (some ⟨(G 1), 0, none⟩))] := hS
  have HH1 : Held w w1 [⟨(G 0), .u8, 32, a, 22⟩, ⟨(G 1), .u8, 32, b, 22⟩] := hH
  clear hS hH HS0 HH0
  generalize G 0 = g1_0 at HS1 HH1
  generalize G 1 = g1_1 at HS1 HH1
  refine then_ ?_
  refine wp_seq ?_
  refine wp_seq ?_
  have hLo : LOk [(0, 13, .val (.bool true)), (1, 14, .val (.bool false))] := ⟨show ([0, 1] : List Nat).Nodup by decide, show ([13, 14] : List Nat).Nodup by decide⟩
  refine plain_ (wE := w) (sz := 68) (n := 2) [0, 1] [(2, .val (.pointer (some ⟨g1_0, 0, none⟩))), (3, .val (.pointer (some ⟨g1_1, 0, none⟩))), (14, .val (.bool false))] [(0, 13, .val (.bool true)), (1, 14, .val (.bool false))] [⟨g1_0, none, none, .u8, 32, a, a, 22⟩, ⟨g1_1, none, none, .u8, 32, b, b, 22⟩] rfl (by rfl) HH1 rfl rfl hLo rfl HS1 (slS 0 rfl rfl (slS 1 rfl rfl (slL 1 (d := 1) rfl (trivial)))) ?_ ?_
  · show ∀ i ∈ [0, 1], _
    refine steps_cons (st_call 0 _ #[] rfl rfl rfl (fun _ _ _ _ => rfl) hLo rfl rfl Tryd.func17 rfl rfl (fun b G hb ho => args0 ) (fun w hw => alive_calls w (hT.to hw))) ?_
    refine steps_cons (st_run 1 _ rfl rfl hLo rfl rfl (fun _ _ _ _ => rfl) (fun b G w hb ho => exec_un rfl (ev_on hLo 0 rfl HS1.1 rfl (hb 0 (by rfl))) (by rfl))) ?_
    exact steps_nil
  clear hLo
  intro G a2 w2 hS hH
  have HS2 : Sl a2 68 [(2, .pointer (some ⟨g1_0, 0, none⟩)), (3, .pointer (some ⟨g1_1, 0, none⟩)), (14, .bool false)] := hS
  have HH2 : Held w w2 [⟨g1_0, .u8, 32, a, 22⟩, ⟨g1_1, .u8, 32, b, 22⟩] := hH
  clear hS hH HS1 HH1
  refine then_ ?_
  refine wp_cond_false (HS2.get 2 rfl) ?_
  refine wp_skip ?_
  refine then_ ?_
  refine wp_seq ?_
  have hLo : LOk [(0, 16, .val (.agg (FR .u8 32 (a)))), (1, 17, .val (.tuple #[.agg (FR .u64 20 (Xa)), .bool ra])), (2, 15, .val (.tuple #[.agg (FR .u64 20 (Xa)), .bool ra])), (3, 18, .val (.agg (FR .u64 20 (Xa)))), (4, 19, .val (.bool ra)), (5, 5, .ptr 5 0), (7, 6, .val (.bool ra))] := ⟨show ([0, 1, 2, 3, 4, 5, 7] : List Nat).Nodup by decide, show ([16, 17, 15, 18, 19, 5, 6] : List Nat).Nodup by decide⟩
  refine plain_ (wE := w) (sz := 68) (n := 8) [0, 1, 3, 7, 15, 31, 63, 127] [(2, .val (.pointer (some ⟨g1_0, 0, none⟩))), (3, .val (.pointer (some ⟨g1_1, 0, none⟩))), (5, .ptr 5 0), (6, .val (.bool ra))] [(0, 16, .val (.agg (FR .u8 32 (a)))), (1, 17, .val (.tuple #[.agg (FR .u64 20 (Xa)), .bool ra])), (2, 15, .val (.tuple #[.agg (FR .u64 20 (Xa)), .bool ra])), (3, 18, .val (.agg (FR .u64 20 (Xa)))), (4, 19, .val (.bool ra)), (5, 5, .ptr 5 0), (7, 6, .val (.bool ra))] [⟨g1_0, none, none, .u8, 32, a, a, 22⟩, ⟨g1_1, none, none, .u8, 32, b, b, 22⟩, ⟨0, some 5, some 6, .u64, 20, fun _ => 0, Xa, 28⟩] rfl (by rfl) HH2 rfl rfl hLo rfl HS2 (slS 0 rfl rfl (slS 1 rfl rfl (slL 5 (d := 5) rfl (slL 6 (d := 7) rfl (trivial))))) ?_ ?_
  · show ∀ i ∈ [0, 1, 2, 3, 4, 5, 6, 7], _
    refine steps_cons (st_row0 0 0 _ rfl rfl rfl rfl (fun _ _ _ _ => rfl) hLo rfl rfl rfl (by rfl) Tryd.underlying22 infoB3 rfl (fun b G hb ho => ev_off rfl (HS2.get 0 rfl))) ?_
    refine steps_cons (st_call 1 _ #[.agg (FR .u8 32 (a))] rfl rfl rfl (fun _ _ _ _ => rfl) hLo rfl rfl Tryd.func12 rfl rfl (fun b G hb ho => args1 (ev_on hLo 0 rfl HS2.1 rfl (hb 0 (by rfl)))) (fun w hw => dec_as hXa hra w (hT.to hw) ha)) ?_
    refine steps_cons (st_run 2 _ rfl rfl hLo rfl rfl (fun _ _ _ _ => rfl) (fun b G w hb ho => exec_move (.inl rfl) (ev_on hLo 1 rfl HS2.1 rfl (hb 1 (by rfl))))) ?_
    refine steps_cons (st_run 3 _ rfl rfl hLo rfl rfl (fun _ _ _ _ => rfl) (fun b G w hb ho => exec_extract rfl (ev_on hLo 2 rfl HS2.1 rfl (hb 2 (by rfl))) (by rfl))) ?_
    refine steps_cons (st_run 4 _ rfl rfl hLo rfl rfl (fun _ _ _ _ => rfl) (fun b G w hb ho => exec_extract rfl (ev_on hLo 2 rfl HS2.1 rfl (hb 2 (by rfl))) (by rfl))) ?_
    refine steps_cons (st_alloc 5 2 .u64 20 28 (some 6) _ _ rfl rfl (fun _ _ _ _ => rfl) rfl hLo rfl rfl rfl rfl (by rfl) (fun b G w _ _ => by kernel_rfl)) ?_
    refine steps_cons (st_store 2 _ rfl rfl rfl rfl rfl (fun _ _ _ _ => rfl) rfl rfl rfl (by rfl) infoPt (fun b G hb ho => ev_on hLo 5 rfl HS2.1 rfl (hb 5 (by rfl))) (fun b G hb ho => ev_on hLo 3 rfl HS2.1 rfl (hb 3 (by rfl)))) ?_
    refine steps_cons (st_run 6 _ rfl rfl hLo rfl rfl (fun _ _ _ _ => rfl) (fun b G w hb ho => exec_move (.inr rfl) (ev_on hLo 4 rfl HS2.1 rfl (hb 4 (by rfl))))) ?_
    exact steps_nil
  clear hLo
  intro G a3 w3 hS hH
  have HS3 : Sl a3 68 [(2, .pointer (some ⟨g1_0, 0, none⟩)), (3, .pointer (some ⟨g1_1, 0, none⟩)), (5, .pointer (some ⟨(G 5), 0, none⟩)), (6, .bool ra)] := hS
  have HH3 : Held w w3 [⟨g1_0, .u8, 32, a, 22⟩, ⟨g1_1, .u8, 32, b, 22⟩, ⟨(G 5), .u64, 20, Xa, 28⟩] := hH
  clear hS hH HS2 HH2
  generalize G 5 = g3_5 at HS3 HH3
  refine then_ ?_
  refine wp_seq ?_
  have hLo : LOk [(0, 21, .val (.agg (FR .u8 32 (b)))), (1, 22, .val (.tuple #[.agg (FR .u64 20 (Xb)), .bool rb])), (2, 20, .val (.tuple #[.agg (FR .u64 20 (Xb)), .bool rb])), (3, 23, .val (.agg (FR .u64 20 (Xb)))), (4, 24, .val (.bool rb)), (5, 7, .ptr 5 0), (7, 8, .val (.bool rb))] := ⟨show ([0, 1, 2, 3, 4, 5, 7] : List Nat).Nodup by decide, show ([21, 22, 20, 23, 24, 7, 8] : List Nat).Nodup by decide⟩
  refine plain_ (wE := w) (sz := 68) (n := 8) [0, 1, 3, 7, 15, 31, 63, 127] [(2, .val (.pointer (some ⟨g1_0, 0, none⟩))), (3, .val (.pointer (some ⟨g1_1, 0, none⟩))), (5, .val (.pointer (some ⟨g3_5, 0, none⟩))), (6, .val (.bool ra)), (7, .ptr 5 0), (8, .val (.bool rb))] [(0, 21, .val (.agg (FR .u8 32 (b)))), (1, 22, .val (.tuple #[.agg (FR .u64 20 (Xb)), .bool rb])), (2, 20, .val (.tuple #[.agg (FR .u64 20 (Xb)), .bool rb])), (3, 23, .val (.agg (FR .u64 20 (Xb)))), (4, 24, .val (.bool rb)), (5, 7, .ptr 5 0), (7, 8, .val (.bool rb))] [⟨g1_0, none, none, .u8, 32, a, a, 22⟩, ⟨g1_1, none, none, .u8, 32, b, b, 22⟩, ⟨g3_5, none, none, .u64, 20, Xa, Xa, 28⟩, ⟨0, some 5, some 6, .u64, 20, fun _ => 0, Xb, 28⟩] rfl (by rfl) HH3 rfl rfl hLo rfl HS3 (slS 0 rfl rfl (slS 1 rfl rfl (slS 2 rfl rfl (slS 3 rfl rfl (slL 5 (d := 5) rfl (slL 6 (d := 7) rfl (trivial))))))) ?_ ?_
  · show ∀ i ∈ [0, 1, 2, 3, 4, 5, 6, 7], _
    refine steps_cons (st_row0 0 1 _ rfl rfl rfl rfl (fun _ _ _ _ => rfl) hLo rfl rfl rfl (by rfl) Tryd.underlying22 infoB3 rfl (fun b G hb ho => ev_off rfl (HS3.get 1 rfl))) ?_
    refine steps_cons (st_call 1 _ #[.agg (FR .u8 32 (b))] rfl rfl rfl (fun _ _ _ _ => rfl) hLo rfl rfl Tryd.func12 rfl rfl (fun b G hb ho => args1 (ev_on hLo 0 rfl HS3.1 rfl (hb 0 (by rfl)))) (fun w hw => dec_as hXb hrb w (hT.to hw) hb)) ?_
    refine steps_cons (st_run 2 _ rfl rfl hLo rfl rfl (fun _ _ _ _ => rfl) (fun b G w hb ho => exec_move (.inl rfl) (ev_on hLo 1 rfl HS3.1 rfl (hb 1 (by rfl))))) ?_
    refine steps_cons (st_run 3 _ rfl rfl hLo rfl rfl (fun _ _ _ _ => rfl) (fun b G w hb ho => exec_extract rfl (ev_on hLo 2 rfl HS3.1 rfl (hb 2 (by rfl))) (by rfl))) ?_
    refine steps_cons (st_run 4 _ rfl rfl hLo rfl rfl (fun _ _ _ _ => rfl) (fun b G w hb ho => exec_extract rfl (ev_on hLo 2 rfl HS3.1 rfl (hb 2 (by rfl))) (by rfl))) ?_
    refine steps_cons (st_alloc 5 3 .u64 20 28 (some 6) _ _ rfl rfl (fun _ _ _ _ => rfl) rfl hLo rfl rfl rfl rfl (by rfl) (fun b G w _ _ => by kernel_rfl)) ?_
    refine steps_cons (st_store 3 _ rfl rfl rfl rfl rfl (fun _ _ _ _ => rfl) rfl rfl rfl (by rfl) infoPt (fun b G hb ho => ev_on hLo 5 rfl HS3.1 rfl (hb 5 (by rfl))) (fun b G hb ho => ev_on hLo 3 rfl HS3.1 rfl (hb 3 (by rfl)))) ?_
    refine steps_cons (st_run 6 _ rfl rfl hLo rfl rfl (fun _ _ _ _ => rfl) (fun b G w hb ho => exec_move (.inr rfl) (ev_on hLo 4 rfl HS3.1 rfl (hb 4 (by rfl))))) ?_
    exact steps_nil
  clear hLo
  intro G a4 w4 hS hH
  have HS4 : Sl a4 68 [(2, .pointer (some ⟨g1_0, 0, none⟩)), (3, .pointer (some ⟨g1_1, 0, none⟩)), (5, .pointer (some ⟨g3_5, 0, none⟩)), (6, .bool ra), (7, .pointer (some ⟨(G 5), 0, none⟩)), (8, .bool rb)] := hS
  have HH4 : Held w w4 [⟨g1_0, .u8, 32, a, 22⟩, ⟨g1_1, .u8, 32, b, 22⟩, ⟨g3_5, .u64, 20, Xa, 28⟩, ⟨(G 5), .u64, 20, Xb, 28⟩] := hH
  clear hS hH HS3 HH3
  generalize G 5 = g4_5 at HS4 HH4
  refine then_ ?_
  cases ra
  · skip
    refine wp_seq ?_
    refine wp_seq ?_
    have hLo : LOk [(0, 25, .val (.bool false)), (1, 26, .val (.bool true)), (2, 27, .val (.bool true)), (3, 28, .val (undef)), (4, 29, .val (undef)), (5, 30, .val (.bool true))] := ⟨show ([0, 1, 2, 3, 4, 5] : List Nat).Nodup by decide, show ([25, 26, 27, 28, 29, 30] : List Nat).Nodup by decide⟩
    refine plain_ (wE := w) (sz := 68) (n := 6) [0, 1, 3, 7, 15, 31] [(30, .val (.bool true))] [(0, 25, .val (.bool false)), (1, 26, .val (.bool true)), (2, 27, .val (.bool true)), (3, 28, .val (undef)), (4, 29, .val (undef)), (5, 30, .val (.bool true))] [⟨g1_0, none, none, .u8, 32, a, a, 22⟩, ⟨g1_1, none, none, .u8, 32, b, b, 22⟩, ⟨g3_5, none, none, .u64, 20, Xa, Xa, 28⟩, ⟨g4_5, none, none, .u64, 20, Xb, Xb, 28⟩] rfl (by rfl) HH4 rfl rfl hLo rfl HS4 (slL 5 (d := 5) rfl (trivial)) ?_ ?_
    · show ∀ i ∈ [0, 1, 2, 3, 4, 5], _
      refine steps_cons (st_run 0 _ rfl rfl hLo rfl rfl (fun _ _ _ _ => rfl) (fun b G w hb ho => exec_move (.inl rfl) (ev_off rfl (HS4.get 3 rfl)))) ?_
      refine steps_cons (st_run 1 _ rfl rfl hLo rfl rfl (fun _ _ _ _ => rfl) (fun b G w hb ho => exec_un rfl (ev_on hLo 0 rfl HS4.1 rfl (hb 0 (by rfl))) (by rfl))) ?_
      refine steps_cons (st_run 2 _ rfl rfl hLo rfl rfl (fun _ _ _ _ => rfl) (fun b G w hb ho => exec_move (.inl rfl) (ev_on hLo 1 rfl HS4.1 rfl (hb 1 (by rfl))))) ?_
      refine steps_cons (st_skip 3 rfl rfl hLo rfl rfl (fun b G hb ho => wanted_is rfl rfl rfl HS4.1 rfl (ev_on hLo 2 rfl HS4.1 rfl (hb 2 (by rfl))) rfl)) ?_
      refine steps_cons (st_skip 4 rfl rfl hLo rfl rfl (fun b G hb ho => wanted_is rfl rfl rfl HS4.1 rfl (ev_on hLo 2 rfl HS4.1 rfl (hb 2 (by rfl))) rfl)) ?_
      refine steps_cons (st_run 5 _ rfl rfl hLo rfl rfl (fun _ _ _ _ => rfl) (fun b G w hb ho => exec_pick rfl (ev_on hLo 2 rfl HS4.1 rfl (hb 2 (by rfl))) (rfl))) ?_
      exact steps_nil
    clear hLo
    intro G a5 w5 hS hH
    have HS5 : Sl a5 68 [(30, .bool true)] := hS
    have HH5 : Held w w5 [⟨g1_0, .u8, 32, a, 22⟩, ⟨g1_1, .u8, 32, b, 22⟩, ⟨g3_5, .u64, 20, Xa, 28⟩, ⟨g4_5, .u64, 20, Xb, 28⟩] := hH
    clear hS hH HS4 HH4
    refine then_ ?_
    refine wp_cond_true (HS5.get 0 rfl) ?_
    refine wp_seq ?_
    have hLo : LOk [(0, 4, .val (.bool true))] := ⟨show ([0] : List Nat).Nodup by decide, show ([4] : List Nat).Nodup by decide⟩
    refine plain_ (wE := w) (sz := 68) (n := 1) [0] [(4, .val (.bool true))] [(0, 4, .val (.bool true))] [⟨g1_0, none, none, .u8, 32, a, a, 22⟩, ⟨g1_1, none, none, .u8, 32, b, b, 22⟩, ⟨g3_5, none, none, .u64, 20, Xa, Xa, 28⟩, ⟨g4_5, none, none, .u64, 20, Xb, Xb, 28⟩] rfl (by rfl) HH5 rfl rfl hLo rfl HS5 (slL 0 (d := 0) rfl (trivial)) ?_ ?_
    · show ∀ i ∈ [0], _
      refine steps_cons (st_run 0 _ rfl rfl hLo rfl rfl (fun _ _ _ _ => rfl) (fun b G w hb ho => exec_move (.inr rfl) (rfl))) ?_
      exact steps_nil
    clear hLo
    intro G a6 w6 hS hH
    have HS6 : Sl a6 68 [(4, .bool true)] := hS
    have HH6 : Held w w6 [⟨g1_0, .u8, 32, a, 22⟩, ⟨g1_1, .u8, 32, b, 22⟩, ⟨g3_5, .u64, 20, Xa, 28⟩, ⟨g4_5, .u64, 20, Xb, 28⟩] := hH
    clear hS hH HS5 HH5
    refine then_ ?_
    refine wp_ret ?_
    repeat refine then_ret ?_
    exact b_tmp rfl HS6.2.1 (HS6.get 0 rfl) ⟨rfl, HH6.1⟩
  · skip
    obtain ⟨Pa, hPa⟩ : ∃ P, decPt a ha hra = P := ⟨_, rfl⟩
    have rXa : PRep Xa Pa := by rw [← hXa, ← hPa]; exact dec_prep ha hra
    have rYa : RRep Ya Pa := by rw [← hYa, ← hPa]; exact dec_rrep ha hra
    cases rb
    · skip
      refine wp_seq ?_
      refine wp_seq ?_
      have hLo : LOk [(0, 25, .val (.bool true)), (1, 26, .val (.bool false)), (2, 27, .val (.bool false)), (3, 28, .val (.bool false)), (4, 29, .val (.bool true)), (5, 30, .val (.bool true))] := ⟨show ([0, 1, 2, 3, 4, 5] : List Nat).Nodup by decide, show ([25, 26, 27, 28, 29, 30] : List Nat).Nodup by decide⟩
      refine plain_ (wE := w) (sz := 68) (n := 6) [0, 1, 3, 7, 15, 31] [(30, .val (.bool true))] [(0, 25, .val (.bool true)), (1, 26, .val (.bool false)), (2, 27, .val (.bool false)), (3, 28, .val (.bool false)), (4, 29, .val (.bool true)), (5, 30, .val (.bool true))] [⟨g1_0, none, none, .u8, 32, a, a, 22⟩, ⟨g1_1, none, none, .u8, 32, b, b, 22⟩, ⟨g3_5, none, none, .u64, 20, Xa, Xa, 28⟩, ⟨g4_5, none, none, .u64, 20, Xb, Xb, 28⟩] rfl (by rfl) HH4 rfl rfl hLo rfl HS4 (slL 5 (d := 5) rfl (trivial)) ?_ ?_
      · show ∀ i ∈ [0, 1, 2, 3, 4, 5], _
        refine steps_cons (st_run 0 _ rfl rfl hLo rfl rfl (fun _ _ _ _ => rfl) (fun b G w hb ho => exec_move (.inl rfl) (ev_off rfl (HS4.get 3 rfl)))) ?_
        refine steps_cons (st_run 1 _ rfl rfl hLo rfl rfl (fun _ _ _ _ => rfl) (fun b G w hb ho => exec_un rfl (ev_on hLo 0 rfl HS4.1 rfl (hb 0 (by rfl))) (by rfl))) ?_
        refine steps_cons (st_run 2 _ rfl rfl hLo rfl rfl (fun _ _ _ _ => rfl) (fun b G w hb ho => exec_move (.inl rfl) (ev_on hLo 1 rfl HS4.1 rfl (hb 1 (by rfl))))) ?_
        refine steps_cons (st_run 3 _ rfl rfl hLo rfl rfl (fun b G hb ho => wanted_is rfl rfl rfl HS4.1 rfl (ev_on hLo 2 rfl HS4.1 rfl (hb 2 (by rfl))) rfl) (fun b G w hb ho => exec_move (.inl rfl) (ev_off rfl (HS4.get 5 rfl)))) ?_
        refine steps_cons (st_run 4 _ rfl rfl hLo rfl rfl (fun b G hb ho => wanted_is rfl rfl rfl HS4.1 rfl (ev_on hLo 2 rfl HS4.1 rfl (hb 2 (by rfl))) rfl) (fun b G w hb ho => exec_un rfl (ev_on hLo 3 rfl HS4.1 rfl (hb 3 (by rfl))) (by rfl))) ?_
        refine steps_cons (st_run 5 _ rfl rfl hLo rfl rfl (fun _ _ _ _ => rfl) (fun b G w hb ho => exec_pick rfl (ev_on hLo 2 rfl HS4.1 rfl (hb 2 (by rfl))) (ev_on hLo 4 rfl HS4.1 rfl (hb 4 (by rfl))))) ?_
        exact steps_nil
      clear hLo
      intro G a7 w7 hS hH
      have HS7 : Sl a7 68 [(30, .bool true)] := hS
      have HH7 : Held w w7 [⟨g1_0, .u8, 32, a, 22⟩, ⟨g1_1, .u8, 32, b, 22⟩, ⟨g3_5, .u64, 20, Xa, 28⟩, ⟨g4_5, .u64, 20, Xb, 28⟩] := hH
      clear hS hH HS4 HH4
      refine then_ ?_
      refine wp_cond_true (HS7.get 0 rfl) ?_
      refine wp_seq ?_
      have hLo : LOk [(0, 4, .val (.bool true))] := ⟨show ([0] : List Nat).Nodup by decide, show ([4] : List Nat).Nodup by decide⟩
      refine plain_ (wE := w) (sz := 68) (n := 1) [0] [(4, .val (.bool true))] [(0, 4, .val (.bool true))] [⟨g1_0, none, none, .u8, 32, a, a, 22⟩, ⟨g1_1, none, none, .u8, 32, b, b, 22⟩, ⟨g3_5, none, none, .u64, 20, Xa, Xa, 28⟩, ⟨g4_5, none, none, .u64, 20, Xb, Xb, 28⟩] rfl (by rfl) HH7 rfl rfl hLo rfl HS7 (slL 0 (d := 0) rfl (trivial)) ?_ ?_
      · show ∀ i ∈ [0], _
        refine steps_cons (st_run 0 _ rfl rfl hLo rfl rfl (fun _ _ _ _ => rfl) (fun b G w hb ho => exec_move (.inr rfl) (rfl))) ?_
        exact steps_nil
      clear hLo
      intro G a8 w8 hS hH
      have HS8 : Sl a8 68 [(4, .bool true)] := hS
      have HH8 : Held w w8 [⟨g1_0, .u8, 32, a, 22⟩, ⟨g1_1, .u8, 32, b, 22⟩, ⟨g3_5, .u64, 20, Xa, 28⟩, ⟨g4_5, .u64, 20, Xb, 28⟩] := hH
      clear hS hH HS7 HH7
      refine then_ ?_
      refine wp_ret ?_
      repeat refine then_ret ?_
      exact b_tmp rfl HS8.2.1 (HS8.get 0 rfl) ⟨rfl, HH8.1⟩
    · skip
      obtain ⟨Pb, hPb⟩ : ∃ P, decPt b hb hrb = P := ⟨_, rfl⟩
      have rXb : PRep Xb Pb := by rw [← hXb, ← hPb]; exact dec_prep hb hrb
      have rYb : RRep Yb Pb := by rw [← hYb, ← hPb]; exact dec_rrep hb hrb
      refine wp_seq ?_
      refine wp_seq ?_
      have hLo : LOk [(0, 25, .val (.bool true)), (1, 26, .val (.bool false)), (2, 27, .val (.bool false)), (3, 28, .val (.bool true)), (4, 29, .val (.bool false)), (5, 30, .val (.bool false))] := ⟨show ([0, 1, 2, 3, 4, 5] : List Nat).Nodup by decide, show ([25, 26, 27, 28, 29, 30] : List Nat).Nodup by decide⟩
      refine plain_ (wE := w) (sz := 68) (n := 6) [0, 1, 3, 7, 15, 31] [(2, .val (.pointer (some ⟨g1_0, 0, none⟩))), (3, .val (.pointer (some ⟨g1_1, 0, none⟩))), (5, .val (.pointer (some ⟨g3_5, 0, none⟩))), (7, .val (.pointer (some ⟨g4_5, 0, none⟩))), (30, .val (.bool false))] [(0, 25, .val (.bool true)), (1, 26, .val (.bool false)), (2, 27, .val (.bool false)), (3, 28, .val (.bool true)), (4, 29, .val (.bool false)), (5, 30, .val (.bool false))] [⟨g1_0, none, none, .u8, 32, a, a, 22⟩, ⟨g1_1, none, none, .u8, 32, b, b, 22⟩, ⟨g3_5, none, none, .u64, 20, Xa, Xa, 28⟩, ⟨g4_5, none, none, .u64, 20, Xb, Xb, 28⟩] rfl (by rfl) HH4 rfl rfl hLo rfl HS4 (slS 0 rfl rfl (slS 1 rfl rfl (slS 2 rfl rfl (slS 4 rfl rfl (slL 5 (d := 5) rfl (trivial)))))) ?_ ?_
      · show ∀ i ∈ [0, 1, 2, 3, 4, 5], _
        refine steps_cons (st_run 0 _ rfl rfl hLo rfl rfl (fun _ _ _ _ => rfl) (fun b G w hb ho => exec_move (.inl rfl) (ev_off rfl (HS4.get 3 rfl)))) ?_
        refine steps_cons (st_run 1 _ rfl rfl hLo rfl rfl (fun _ _ _ _ => rfl) (fun b G w hb ho => exec_un rfl (ev_on hLo 0 rfl HS4.1 rfl (hb 0 (by rfl))) (by rfl))) ?_
        refine steps_cons (st_run 2 _ rfl rfl hLo rfl rfl (fun _ _ _ _ => rfl) (fun b G w hb ho => exec_move (.inl rfl) (ev_on hLo 1 rfl HS4.1 rfl (hb 1 (by rfl))))) ?_
        refine steps_cons (st_run 3 _ rfl rfl hLo rfl rfl (fun b G hb ho => wanted_is rfl rfl rfl HS4.1 rfl (ev_on hLo 2 rfl HS4.1 rfl (hb 2 (by rfl))) rfl) (fun b G w hb ho => exec_move (.inl rfl) (ev_off rfl (HS4.get 5 rfl)))) ?_
        refine steps_cons (st_run 4 _ rfl rfl hLo rfl rfl (fun b G hb ho => wanted_is rfl rfl rfl HS4.1 rfl (ev_on hLo 2 rfl HS4.1 rfl (hb 2 (by rfl))) rfl) (fun b G w hb ho => exec_un rfl (ev_on hLo 3 rfl HS4.1 rfl (hb 3 (by rfl))) (by rfl))) ?_
        refine steps_cons (st_run 5 _ rfl rfl hLo rfl rfl (fun _ _ _ _ => rfl) (fun b G w hb ho => exec_pick rfl (ev_on hLo 2 rfl HS4.1 rfl (hb 2 (by rfl))) (ev_on hLo 4 rfl HS4.1 rfl (hb 4 (by rfl))))) ?_
        exact steps_nil
      clear hLo
      intro G a9 w9 hS hH
      have HS9 : Sl a9 68 [(2, .pointer (some ⟨g1_0, 0, none⟩)), (3, .pointer (some ⟨g1_1, 0, none⟩)), (5, .pointer (some ⟨g3_5, 0, none⟩)), (7, .pointer (some ⟨g4_5, 0, none⟩)), (30, .bool false)] := hS
      have HH9 : Held w w9 [⟨g1_0, .u8, 32, a, 22⟩, ⟨g1_1, .u8, 32, b, 22⟩, ⟨g3_5, .u64, 20, Xa, 28⟩, ⟨g4_5, .u64, 20, Xb, 28⟩] := hH
      clear hS hH HS4 HH4
      refine then_ ?_
      refine wp_cond_false (HS9.get 4 rfl) ?_
      refine wp_skip ?_
      refine then_ ?_
      refine wp_seq ?_
      have hLo : LOk [(0, 32, .val (.slice (some ⟨g1_0, 0, none⟩) 32 32)), (1, 33, .val (.string (sOf (a)))), (2, 34, .val (.tuple #[.agg (FR .i64 64 (Ya)), .bool true])), (3, 31, .val (.tuple #[.agg (FR .i64 64 (Ya)), .bool true])), (4, 35, .val (.agg (FR .i64 64 (Ya)))), (5, 36, .val (.bool true)), (6, 9, .ptr 6 0), (8, 10, .val (.bool true))] := ⟨show ([0, 1, 2, 3, 4, 5, 6, 8] : List Nat).Nodup by decide, show ([32, 33, 34, 31, 35, 36, 9, 10] : List Nat).Nodup by decide⟩
      refine plain_ (wE := w) (sz := 68) (n := 9) [0, 1, 3, 7, 15, 31, 63, 127, 255] [(2, .val (.pointer (some ⟨g1_0, 0, none⟩))), (3, .val (.pointer (some ⟨g1_1, 0, none⟩))), (5, .val (.pointer (some ⟨g3_5, 0, none⟩))), (7, .val (.pointer (some ⟨g4_5, 0, none⟩))), (9, .ptr 6 0)] [(0, 32, .val (.slice (some ⟨g1_0, 0, none⟩) 32 32)), (1, 33, .val (.string (sOf (a)))), (2, 34, .val (.tuple #[.agg (FR .i64 64 (Ya)), .bool true])), (3, 31, .val (.tuple #[.agg (FR .i64 64 (Ya)), .bool true])), (4, 35, .val (.agg (FR .i64 64 (Ya)))), (5, 36, .val (.bool true)), (6, 9, .ptr 6 0), (8, 10, .val (.bool true))] [⟨g1_0, none, none, .u8, 32, a, a, 22⟩, ⟨g1_1, none, none, .u8, 32, b, b, 22⟩, ⟨g3_5, none, none, .u64, 20, Xa, Xa, 28⟩, ⟨g4_5, none, none, .u64, 20, Xb, Xb, 28⟩, ⟨0, some 6, some 7, .i64, 64, fun _ => 0, Ya, 36⟩] rfl (by rfl) HH9 rfl rfl hLo rfl HS9 (slS 0 rfl rfl (slS 1 rfl rfl (slS 2 rfl rfl (slS 3 rfl rfl (slL 6 (d := 6) rfl (trivial)))))) ?_ ?_
      · show ∀ i ∈ [0, 1, 2, 3, 4, 5, 6, 7, 8], _
        refine steps_cons (st_run 0 _ rfl rfl hLo rfl rfl (fun _ _ _ _ => rfl) (fun b G w hb ho => exec_slice rfl (ev_off rfl (HS9.get 0 rfl)) rfl rfl rfl (slice_all _ _))) ?_
        refine steps_cons (st_read 1 0 _ _ rfl rfl rfl hLo rfl rfl (fun _ _ _ _ => rfl) (by rfl) (by rfl) (fun b G w hb ho hr => exec_convert rfl (ev_on hLo 0 rfl HS9.1 rfl (hb 0 (by rfl))) (conv_row hr))) ?_
        refine steps_cons (st_call 2 _ #[.string (sOf (a))] rfl rfl rfl (fun _ _ _ _ => rfl) hLo rfl rfl Tryd.func13 rfl rfl (fun b G hb ho => args1 (ev_on hLo 1 rfl HS9.1 rfl (hb 1 (by rfl)))) (fun w hw => decR_as hYa hrra w ha)) ?_
        refine steps_cons (st_run 3 _ rfl rfl hLo rfl rfl (fun _ _ _ _ => rfl) (fun b G w hb ho => exec_move (.inl rfl) (ev_on hLo 2 rfl HS9.1 rfl (hb 2 (by rfl))))) ?_
        refine steps_cons (st_run 4 _ rfl rfl hLo rfl rfl (fun _ _ _ _ => rfl) (fun b G w hb ho => exec_extract rfl (ev_on hLo 3 rfl HS9.1 rfl (hb 3 (by rfl))) (by rfl))) ?_
        refine steps_cons (st_run 5 _ rfl rfl hLo rfl rfl (fun _ _ _ _ => rfl) (fun b G w hb ho => exec_extract rfl (ev_on hLo 3 rfl HS9.1 rfl (hb 3 (by rfl))) (by rfl))) ?_
        refine steps_cons (st_alloc 6 4 .i64 64 36 (some 7) _ _ rfl rfl (fun _ _ _ _ => rfl) rfl hLo rfl rfl rfl rfl (by rfl) (fun b G w _ _ => by kernel_rfl)) ?_
        refine steps_cons (st_store 4 _ rfl rfl rfl rfl rfl (fun _ _ _ _ => rfl) rfl rfl rfl (by rfl) infoPr (fun b G hb ho => ev_on hLo 6 rfl HS9.1 rfl (hb 6 (by rfl))) (fun b G hb ho => ev_on hLo 4 rfl HS9.1 rfl (hb 4 (by rfl)))) ?_
        refine steps_cons (st_run 7 _ rfl rfl hLo rfl rfl (fun _ _ _ _ => rfl) (fun b G w hb ho => exec_move (.inr rfl) (ev_on hLo 5 rfl HS9.1 rfl (hb 5 (by rfl))))) ?_
        exact steps_nil
      clear hLo
      intro G a10 w10 hS hH
      have HS10 : Sl a10 68 [(2, .pointer (some ⟨g1_0, 0, none⟩)), (3, .pointer (some ⟨g1_1, 0, none⟩)), (5, .pointer (some ⟨g3_5, 0, none⟩)), (7, .pointer (some ⟨g4_5, 0, none⟩)), (9, .pointer (some ⟨(G 6), 0, none⟩))] := hS
      have HH10 : Held w w10 [⟨g1_0, .u8, 32, a, 22⟩, ⟨g1_1, .u8, 32, b, 22⟩, ⟨g3_5, .u64, 20, Xa, 28⟩, ⟨g4_5, .u64, 20, Xb, 28⟩, ⟨(G 6), .i64, 64, Ya, 36⟩] := hH
      clear hS hH HS9 HH9
      generalize G 6 = g10_6 at HS10 HH10
      refine then_ ?_
      refine wp_seq ?_
      have hLo : LOk [(0, 38, .val (.slice (some ⟨g1_1, 0, none⟩) 32 32)), (1, 39, .val (.string (sOf (b)))), (2, 40, .val (.tuple #[.agg (FR .i64 64 (Yb)), .bool true])), (3, 37, .val (.tuple #[.agg (FR .i64 64 (Yb)), .bool true])), (4, 41, .val (.agg (FR .i64 64 (Yb)))), (5, 42, .val (.bool true)), (6, 11, .ptr 6 0), (8, 12, .val (.bool true))] := ⟨show ([0, 1, 2, 3, 4, 5, 6, 8] : List Nat).Nodup by decide, show ([38, 39, 40, 37, 41, 42, 11, 12] : List Nat).Nodup by decide⟩
      refine plain_ (wE := w) (sz := 68) (n := 9) [0, 1, 3, 7, 15, 31, 63, 127, 255] [(2, .val (.pointer (some ⟨g1_0, 0, none⟩))), (3, .val (.pointer (some ⟨g1_1, 0, none⟩))), (5, .val (.pointer (some ⟨g3_5, 0, none⟩))), (7, .val (.pointer (some ⟨g4_5, 0, none⟩))), (9, .val (.pointer (some ⟨g10_6, 0, none⟩))), (11, .ptr 6 0)] [(0, 38, .val (.slice (some ⟨g1_1, 0, none⟩) 32 32)), (1, 39, .val (.string (sOf (b)))), (2, 40, .val (.tuple #[.agg (FR .i64 64 (Yb)), .bool true])), (3, 37, .val (.tuple #[.agg (FR .i64 64 (Yb)), .bool true])), (4, 41, .val (.agg (FR .i64 64 (Yb)))), (5, 42, .val (.bool true)), (6, 11, .ptr 6 0), (8, 12, .val (.bool true))] [⟨g1_0, none, none, .u8, 32, a, a, 22⟩, ⟨g1_1, none, none, .u8, 32, b, b, 22⟩, ⟨g3_5, none, none, .u64, 20, Xa, Xa, 28⟩, ⟨g4_5, none, none, .u64, 20, Xb, Xb, 28⟩, ⟨g10_6, none, none, .i64, 64, Ya, Ya, 36⟩, ⟨0, some 6, some 7, .i64, 64, fun _ => 0, Yb, 36⟩] rfl (by rfl) HH10 rfl rfl hLo rfl HS10 (slS 0 rfl rfl (slS 1 rfl rfl (slS 2 rfl rfl (slS 3 rfl rfl (slS 4 rfl rfl (slL 6 (d := 6) rfl (trivial))))))) ?_ ?_
      · show ∀ i ∈ [0, 1, 2, 3, 4, 5, 6, 7, 8], _
        refine steps_cons (st_run 0 _ rfl rfl hLo rfl rfl (fun _ _ _ _ => rfl) (fun b G w hb ho => exec_slice rfl (ev_off rfl (HS10.get 1 rfl)) rfl rfl rfl (slice_all _ _))) ?_
        refine steps_cons (st_read 1 1 _ _ rfl rfl rfl hLo rfl rfl (fun _ _ _ _ => rfl) (by rfl) (by rfl) (fun b G w hb ho hr => exec_convert rfl (ev_on hLo 0 rfl HS10.1 rfl (hb 0 (by rfl))) (conv_row hr))) ?_
        refine steps_cons (st_call 2 _ #[.string (sOf (b))] rfl rfl rfl (fun _ _ _ _ => rfl) hLo rfl rfl Tryd.func13 rfl rfl (fun b G hb ho => args1 (ev_on hLo 1 rfl HS10.1 rfl (hb 1 (by rfl)))) (fun w hw => decR_as hYb hrrb w hb)) ?_
        refine steps_cons (st_run 3 _ rfl rfl hLo rfl rfl (fun _ _ _ _ => rfl) (fun b G w hb ho => exec_move (.inl rfl) (ev_on hLo 2 rfl HS10.1 rfl (hb 2 (by rfl))))) ?_
        refine steps_cons (st_run 4 _ rfl rfl hLo rfl rfl (fun _ _ _ _ => rfl) (fun b G w hb ho => exec_extract rfl (ev_on hLo 3 rfl HS10.1 rfl (hb 3 (by rfl))) (by rfl))) ?_
        refine steps_cons (st_run 5 _ rfl rfl hLo rfl rfl (fun _ _ _ _ => rfl) (fun b G w hb ho => exec_extract rfl (ev_on hLo 3 rfl HS10.1 rfl (hb 3 (by rfl))) (by rfl))) ?_
        refine steps_cons (st_alloc 6 5 .i64 64 36 (some 7) _ _ rfl rfl (fun _ _ _ _ => rfl) rfl hLo rfl rfl rfl rfl (by rfl) (fun b G w _ _ => by kernel_rfl)) ?_
        refine steps_cons (st_store 5 _ rfl rfl rfl rfl rfl (fun _ _ _ _ => rfl) rfl rfl rfl (by rfl) infoPr (fun b G hb ho => ev_on hLo 6 rfl HS10.1 rfl (hb 6 (by rfl))) (fun b G hb ho => ev_on hLo 4 rfl HS10.1 rfl (hb 4 (by rfl)))) ?_
        refine steps_cons (st_run 7 _ rfl rfl hLo rfl rfl (fun _ _ _ _ => rfl) (fun b G w hb ho => exec_move (.inr rfl) (ev_on hLo 5 rfl HS10.1 rfl (hb 5 (by rfl))))) ?_
        exact steps_nil
      clear hLo
      intro G a11 w11 hS hH
      have HS11 : Sl a11 68 [(2, .pointer (some ⟨g1_0, 0, none⟩)), (3, .pointer (some ⟨g1_1, 0, none⟩)), (5, .pointer (some ⟨g3_5, 0, none⟩)), (7, .pointer (some ⟨g4_5, 0, none⟩)), (9, .pointer (some ⟨g10_6, 0, none⟩)), (11, .pointer (some ⟨(G 6), 0, none⟩))] := hS
      have HH11 : Held w w11 [⟨g1_0, .u8, 32, a, 22⟩, ⟨g1_1, .u8, 32, b, 22⟩, ⟨g3_5, .u64, 20, Xa, 28⟩, ⟨g4_5, .u64, 20, Xb, 28⟩, ⟨g10_6, .i64, 64, Ya, 36⟩, ⟨(G 6), .i64, 64, Yb, 36⟩] := hH
      clear hS hH HS10 HH10
      generalize G 6 = g11_6 at HS11 HH11
      refine then_ ?_
      obtain ⟨r, hr⟩ : ∃ r, sameRow 32 a b = r := ⟨_, rfl⟩
      have hrP : (Pa = Pb) ↔ r = true := by rw [← hr, sameRow_iff, ← hPa, ← hPb]; exact dec_inj ha hb hra hrb
      obtain ⟨S6, hS6, rS6⟩ : ∃ S, addP Xa Xb = S ∧ PRep S (Pt.add fld (Pa) (Pb)) := ⟨_, rfl, rXa.add rXb⟩
      obtain ⟨U7, hU7, rU7⟩ : ∃ S, addRP Ya Yb = S ∧ RRep S (Pt.add fld (Pa) (Pb)) := ⟨_, rfl, rYa.add rYb⟩
      obtain ⟨N8, hN8, rN8⟩ : ∃ S, negP Xa = S ∧ PRep S (Pt.neg (Pa)) := ⟨_, rfl, rXa.neg⟩
      obtain ⟨V9, hV9, rV9⟩ : ∃ S, negRP Ya = S ∧ RRep S (Pt.neg (Pa)) := ⟨_, rfl, rYa.neg⟩
      refine wp_seq ?_
      have hLo : LOk [(0, 43, .val (.agg (FR .u64 20 (Xa)))), (1, 44, .val (.agg (FR .u64 20 (Xb)))), (2, 45, .val (.agg (FR .u64 20 (S6)))), (3, 46, .val (.agg (FR .i64 64 (Ya)))), (4, 47, .val (.agg (FR .i64 64 (Yb)))), (5, 48, .val (.agg (FR .i64 64 (U7)))), (6, 49, .val (.string (sOf (ptB (Pt.add fld (Pa) (Pb)))))), (7, 50, .val (.bool true)), (8, 51, .val (.bool true)), (9, 52, .val (.agg (FR .u64 20 (Xa)))), (10, 53, .val (.agg (FR .u64 20 (N8)))), (11, 54, .val (.agg (FR .i64 64 (Ya)))), (12, 55, .val (.agg (FR .i64 64 (V9)))), (13, 56, .val (.string (sOf (ptB (Pt.neg (Pa)))))), (14, 57, .val (.bool true)), (15, 58, .val (.bool true)), (16, 59, .val (.bool true)), (17, 60, .val (.agg (FR .u64 20 (Xa)))), (18, 61, .val (.agg (FR .u64 20 (Xb)))), (19, 62, .val (.bool r)), (20, 63, .val (.agg (FR .u8 32 (a)))), (21, 64, .val (.agg (FR .u8 32 (b)))), (22, 65, .val (.bool r)), (23, 66, .val (.bool true)), (24, 67, .val (.bool true)), (25, 4, .val (.bool true))] := ⟨show ([0, 1, 2, 3, 4, 5, 6, 7, 8, 9, 10, 11, 12, 13, 14, 15, 16, 17, 18, 19, 20, 21, 22, 23, 24, 25] : List Nat).Nodup by decide, show ([43, 44, 45, 46, 47, 48, 49, 50, 51, 52, 53, 54, 55, 56, 57, 58, 59, 60, 61, 62, 63, 64, 65, 66, 67, 4] : List Nat).Nodup by decide⟩
      refine region_ (wE := w) (sz := 68) (n := 26) (B := [0, 0, 3, 0, 0, 31, 63, 127, 255, 511, 1023, 511, 4095, 8191, 16383, 32767, 65535, 131071, 131071, 524287, 131071, 131071, 3276799, 8388607, 16777215, 33554431]) [0, 1, 2, 3, 4, 5, 6, 7, 8, 9, 10, 11, 12, 13, 14, 15, 16, 17, 18, 19, 20, 21, 22, 23, 24, 25] [(4, .val (.bool true))] [(0, 43, .val (.agg (FR .u64 20 (Xa)))), (1, 44, .val (.agg (FR .u64 20 (Xb)))), (2, 45, .val (.agg (FR .u64 20 (S6)))), (3, 46, .val (.agg (FR .i64 64 (Ya)))), (4, 47, .val (.agg (FR .i64 64 (Yb)))), (5, 48, .val (.agg (FR .i64 64 (U7)))), (6, 49, .val (.string (sOf (ptB (Pt.add fld (Pa) (Pb)))))), (7, 50, .val (.bool true)), (8, 51, .val (.bool true)), (9, 52, .val (.agg (FR .u64 20 (Xa)))), (10, 53, .val (.agg (FR .u64 20 (N8)))), (11, 54, .val (.agg (FR .i64 64 (Ya)))), (12, 55, .val (.agg (FR .i64 64 (V9)))), (13, 56, .val (.string (sOf (ptB (Pt.neg (Pa)))))), (14, 57, .val (.bool true)), (15, 58, .val (.bool true)), (16, 59, .val (.bool true)), (17, 60, .val (.agg (FR .u64 20 (Xa)))), (18, 61, .val (.agg (FR .u64 20 (Xb)))), (19, 62, .val (.bool r)), (20, 63, .val (.agg (FR .u8 32 (a)))), (21, 64, .val (.agg (FR .u8 32 (b)))), (22, 65, .val (.bool r)), (23, 66, .val (.bool true)), (24, 67, .val (.bool true)), (25, 4, .val (.bool true))] [⟨g1_0, none, none, .u8, 32, a, a, 22⟩, ⟨g1_1, none, none, .u8, 32, b, b, 22⟩, ⟨g3_5, none, none, .u64, 20, Xa, Xa, 28⟩, ⟨g4_5, none, none, .u64, 20, Xb, Xb, 28⟩, ⟨g10_6, none, none, .i64, 64, Ya, Ya, 36⟩, ⟨g11_6, none, none, .i64, 64, Yb, Yb, 36⟩] (by rfl) rfl tabca_9 bitsca_9 (by kernel_rfl) (by kernel_rfl) HH11 rfl rfl hLo rfl HS11 (slL 25 (d := 25) rfl (trivial)) ?_ ?_
      · show ∀ i ∈ [0, 1, 2, 3, 4, 5, 6, 7, 8, 9, 10, 11, 12, 13, 14, 15, 16, 17, 18, 19, 20, 21, 22, 23, 24, 25], _
        refine steps_cons (st_row0 0 2 _ rfl rfl rfl rfl (fun _ _ _ _ => rfl) hLo rfl rfl rfl (by rfl) Tryd.underlying28 infoPt rfl (fun b G hb ho => ev_off rfl (HS11.get 2 rfl))) ?_
        refine steps_cons (st_row0 1 3 _ rfl rfl rfl rfl (fun _ _ _ _ => rfl) hLo rfl rfl rfl (by rfl) Tryd.underlying28 infoPt rfl (fun b G hb ho => ev_off rfl (HS11.get 3 rfl))) ?_
        refine steps_cons (st_call 2 _ #[.agg (FR .u64 20 (Xa)), .agg (FR .u64 20 (Xb))] rfl rfl rfl (fun _ _ _ _ => rfl) hLo rfl rfl Tryd.func18 rfl rfl (fun b G hb ho => args2 (ev_on hLo 0 rfl HS11.1 rfl (hb 0 (by rfl))) (ev_on hLo 1 rfl HS11.1 rfl (hb 1 (by rfl)))) (fun w hw => add_as hS6 w (hT.to hw) rXa.1 rXb.1)) ?_
        refine steps_cons (st_row0 3 4 _ rfl rfl rfl rfl (fun _ _ _ _ => rfl) hLo rfl rfl rfl (by rfl) Tryd.underlying36 infoPr rfl (fun b G hb ho => ev_off rfl (HS11.get 4 rfl))) ?_
        refine steps_cons (st_row0 4 5 _ rfl rfl rfl rfl (fun _ _ _ _ => rfl) hLo rfl rfl rfl (by rfl) Tryd.underlying36 infoPr rfl (fun b G hb ho => ev_off rfl (HS11.get 5 rfl))) ?_
        refine steps_cons (st_call 5 _ #[.agg (FR .i64 64 (Ya)), .agg (FR .i64 64 (Yb))] rfl rfl rfl (fun _ _ _ _ => rfl) hLo rfl rfl Tryd.func19 rfl rfl (fun b G hb ho => args2 (ev_on hLo 3 rfl HS11.1 rfl (hb 3 (by rfl))) (ev_on hLo 4 rfl HS11.1 rfl (hb 4 (by rfl)))) (fun w hw => addR_as hU7 w rYa.1 rYb.1)) ?_
        refine steps_cons (st_call 6 _ #[.agg (FR .i64 64 (U7))] rfl rfl rfl (fun _ _ _ _ => rfl) hLo rfl rfl Tryd.func15 rfl rfl (fun b G hb ho => args1 (ev_on hLo 5 rfl HS11.1 rfl (hb 5 (by rfl)))) (fun w hw => bytesR_as (by rw [rU7.bytes]) w rU7.1)) ?_
        refine steps_cons (st_call 7 _ #[.agg (FR .u64 20 (S6)), .string (sOf (ptB (Pt.add fld (Pa) (Pb))))] rfl rfl rfl (fun _ _ _ _ => rfl) hLo rfl rfl Tryd.func14 rfl rfl (fun b G hb ho => args2 (ev_on hLo 2 rfl HS11.1 rfl (hb 2 (by rfl))) (ev_on hLo 6 rfl HS11.1 rfl (hb 6 (by rfl)))) (fun w hw => same_as (by rw [rS6.bytes]; exact beq_self_eq_true _) w rS6.1)) ?_
        refine steps_cons (st_run 8 _ rfl rfl hLo rfl rfl (fun _ _ _ _ => rfl) (fun b G w hb ho => exec_move (.inl rfl) (ev_on hLo 7 rfl HS11.1 rfl (hb 7 (by rfl))))) ?_
        refine steps_cons (st_row0 9 2 _ rfl rfl rfl rfl (fun b G hb ho => wanted_is rfl rfl rfl HS11.1 rfl (ev_on hLo 8 rfl HS11.1 rfl (hb 8 (by rfl))) rfl) hLo rfl rfl rfl (by rfl) Tryd.underlying28 infoPt rfl (fun b G hb ho => ev_off rfl (HS11.get 2 rfl))) ?_
        refine steps_cons (st_call 10 _ #[.agg (FR .u64 20 (Xa))] rfl rfl rfl (fun b G hb ho => wanted_is rfl rfl rfl HS11.1 rfl (ev_on hLo 8 rfl HS11.1 rfl (hb 8 (by rfl))) rfl) hLo rfl rfl Tryd.func20 rfl rfl (fun b G hb ho => args1 (ev_on hLo 9 rfl HS11.1 rfl (hb 9 (by rfl)))) (fun w hw => ptneg_as hN8 w rXa.1)) ?_
        refine steps_cons (st_row0 11 4 _ rfl rfl rfl rfl (fun b G hb ho => wanted_is rfl rfl rfl HS11.1 rfl (ev_on hLo 8 rfl HS11.1 rfl (hb 8 (by rfl))) rfl) hLo rfl rfl rfl (by rfl) Tryd.underlying36 infoPr rfl (fun b G hb ho => ev_off rfl (HS11.get 4 rfl))) ?_
        refine steps_cons (st_call 12 _ #[.agg (FR .i64 64 (Ya))] rfl rfl rfl (fun b G hb ho => wanted_is rfl rfl rfl HS11.1 rfl (ev_on hLo 8 rfl HS11.1 rfl (hb 8 (by rfl))) rfl) hLo rfl rfl Tryd.func21 rfl rfl (fun b G hb ho => args1 (ev_on hLo 11 rfl HS11.1 rfl (hb 11 (by rfl)))) (fun w hw => negR_as hV9 w rYa.1)) ?_
        refine steps_cons (st_call 13 _ #[.agg (FR .i64 64 (V9))] rfl rfl rfl (fun b G hb ho => wanted_is rfl rfl rfl HS11.1 rfl (ev_on hLo 8 rfl HS11.1 rfl (hb 8 (by rfl))) rfl) hLo rfl rfl Tryd.func15 rfl rfl (fun b G hb ho => args1 (ev_on hLo 12 rfl HS11.1 rfl (hb 12 (by rfl)))) (fun w hw => bytesR_as (by rw [rV9.bytes]) w rV9.1)) ?_
        refine steps_cons (st_call 14 _ #[.agg (FR .u64 20 (N8)), .string (sOf (ptB (Pt.neg (Pa))))] rfl rfl rfl (fun b G hb ho => wanted_is rfl rfl rfl HS11.1 rfl (ev_on hLo 8 rfl HS11.1 rfl (hb 8 (by rfl))) rfl) hLo rfl rfl Tryd.func14 rfl rfl (fun b G hb ho => args2 (ev_on hLo 10 rfl HS11.1 rfl (hb 10 (by rfl))) (ev_on hLo 13 rfl HS11.1 rfl (hb 13 (by rfl)))) (fun w hw => same_as (by rw [rN8.bytes]; exact beq_self_eq_true _) w rN8.1)) ?_
        refine steps_cons (st_run 15 _ rfl rfl hLo rfl rfl (fun _ _ _ _ => rfl) (fun b G w hb ho => exec_pick rfl (ev_on hLo 8 rfl HS11.1 rfl (hb 8 (by rfl))) (ev_on hLo 14 rfl HS11.1 rfl (hb 14 (by rfl))))) ?_
        refine steps_cons (st_run 16 _ rfl rfl hLo rfl rfl (fun _ _ _ _ => rfl) (fun b G w hb ho => exec_move (.inl rfl) (ev_on hLo 15 rfl HS11.1 rfl (hb 15 (by rfl))))) ?_
        refine steps_cons (st_row0 17 2 _ rfl rfl rfl rfl (fun b G hb ho => wanted_is rfl rfl rfl HS11.1 rfl (ev_on hLo 16 rfl HS11.1 rfl (hb 16 (by rfl))) rfl) hLo rfl rfl rfl (by rfl) Tryd.underlying28 infoPt rfl (fun b G hb ho => ev_off rfl (HS11.get 2 rfl))) ?_
        refine steps_cons (st_row0 18 3 _ rfl rfl rfl rfl (fun b G hb ho => wanted_is rfl rfl rfl HS11.1 rfl (ev_on hLo 16 rfl HS11.1 rfl (hb 16 (by rfl))) rfl) hLo rfl rfl rfl (by rfl) Tryd.underlying28 infoPt rfl (fun b G hb ho => ev_off rfl (HS11.get 3 rfl))) ?_
        refine steps_cons (st_call 19 _ #[.agg (FR .u64 20 (Xa)), .agg (FR .u64 20 (Xb))] rfl rfl rfl (fun b G hb ho => wanted_is rfl rfl rfl HS11.1 rfl (ev_on hLo 16 rfl HS11.1 rfl (hb 16 (by rfl))) rfl) hLo rfl rfl Tryd.func16 rfl rfl (fun b G hb ho => args2 (ev_on hLo 17 rfl HS11.1 rfl (hb 17 (by rfl))) (ev_on hLo 18 rfl HS11.1 rfl (hb 18 (by rfl)))) (fun w hw => is_as (is_eq rXa rXb hrP) w rXa.1 rXb.1)) ?_
        refine steps_cons (st_row0 20 0 _ rfl rfl rfl rfl (fun b G hb ho => wanted_is rfl rfl rfl HS11.1 rfl (ev_on hLo 16 rfl HS11.1 rfl (hb 16 (by rfl))) rfl) hLo rfl rfl rfl (by rfl) Tryd.underlying22 infoB3 rfl (fun b G hb ho => ev_off rfl (HS11.get 0 rfl))) ?_
        refine steps_cons (st_row0 21 1 _ rfl rfl rfl rfl (fun b G hb ho => wanted_is rfl rfl rfl HS11.1 rfl (ev_on hLo 16 rfl HS11.1 rfl (hb 16 (by rfl))) rfl) hLo rfl rfl rfl (by rfl) Tryd.underlying22 infoB3 rfl (fun b G hb ho => ev_off rfl (HS11.get 1 rfl))) ?_
        refine steps_cons (st_run 22 _ rfl rfl hLo rfl rfl (fun b G hb ho => wanted_is rfl rfl rfl HS11.1 rfl (ev_on hLo 16 rfl HS11.1 rfl (hb 16 (by rfl))) rfl) (fun b G w hb ho => exec_bin rfl (ev_on hLo 20 rfl HS11.1 rfl (hb 20 (by rfl))) (ev_on hLo 21 rfl HS11.1 rfl (hb 21 (by rfl))) (eqB_run hr _ _ _))) ?_
        refine steps_cons (st_run 23 _ rfl rfl hLo rfl rfl (fun b G hb ho => wanted_is rfl rfl rfl HS11.1 rfl (ev_on hLo 16 rfl HS11.1 rfl (hb 16 (by rfl))) rfl) (fun b G w hb ho => exec_bin rfl (ev_on hLo 19 rfl HS11.1 rfl (hb 19 (by rfl))) (ev_on hLo 22 rfl HS11.1 rfl (hb 22 (by rfl))) (eqbool_run _ _ (beq_self_eq_true r) _ _ _))) ?_
        refine steps_cons (st_run 24 _ rfl rfl hLo rfl rfl (fun _ _ _ _ => rfl) (fun b G w hb ho => exec_pick rfl (ev_on hLo 16 rfl HS11.1 rfl (hb 16 (by rfl))) (ev_on hLo 23 rfl HS11.1 rfl (hb 23 (by rfl))))) ?_
        refine steps_cons (st_run 25 _ rfl rfl hLo rfl rfl (fun _ _ _ _ => rfl) (fun b G w hb ho => exec_move (.inr rfl) (ev_on hLo 24 rfl HS11.1 rfl (hb 24 (by rfl))))) ?_
        exact steps_nil
      clear hLo
      intro G a12 w12 hS hH
      have HS12 : Sl a12 68 [(4, .bool true)] := hS
      have HH12 : Held w w12 [⟨g1_0, .u8, 32, a, 22⟩, ⟨g1_1, .u8, 32, b, 22⟩, ⟨g3_5, .u64, 20, Xa, 28⟩, ⟨g4_5, .u64, 20, Xb, 28⟩, ⟨g10_6, .i64, 64, Ya, 36⟩, ⟨g11_6, .i64, 64, Yb, 36⟩] := hH
      clear hS hH HS11 HH11
      refine then_ ?_
      refine wp_ret ?_
      repeat refine then_ret ?_
      exact b_tmp rfl HS12.2.1 (HS12.get 0 rfl) ⟨rfl, HH12.1⟩
end Go.Proofs.YtaaipbhfikefaaaDoor.P
