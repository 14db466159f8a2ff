/- The curve: the law CurveOrder. Printed by genLc.py. -/
import Derived.Test.YtaaipbhfikefaaaDoorQ4
namespace Go.Proofs.YtaaipbhfikefaaaDoor.P
set_option linter.unusedVariables false
set_option linter.unusedSimpArgs false
open Go.RowKit Go.ChangeShapes Go.WideShapes Go.Proofs.YtaaipbhfikefaaaDoorW.PrintWords Go.Proofs.YtaaipbhfikefaaaDoorW.PrintLast Go.Proofs.YtaaipbhfikefaaaDoorW.PrintMore
open Go.Proofs.YtaaipbhfikefaaaDoor.P.Fd
theorem tabco_4 : rtab .any (opsOf Tryd.f9 4) = (true, [([], []), ([], []), ([0, 1], [0, 1]), ([], []), ([], []), ([4, 2], [4]), ([3, 5, 5], [3, 5]), ([2, 6, 6], [2, 6]), ([7], [7])]) := by kernel_rfl
theorem bitsco_4 : waitsOk [([], []), ([], []), ([0, 1], [0, 1]), ([], []), ([], []), ([4, 2], [4]), ([3, 5, 5], [3, 5]), ([2, 6, 6], [2, 6]), ([7], [7])] [0, 0, 3, 0, 0, 23, 63, 127, 255] = true := by kernel_rfl

theorem tabco_6 : rtab .any (opsOf Tryd.f9 6) = (true, [([], []), ([], []), ([0, 1], [0, 1]), ([], []), ([], []), ([3, 4, 2], [3, 4]), ([2, 5, 5], [2, 5]), ([], []), ([], []), ([], []), ([], []), ([8, 9, 10, 6], [8, 9, 10]), ([7, 11, 11], [7, 11]), ([6, 12, 12], [6, 12]), ([13, 13], [13]), ([14], [14]), ([14], [14]), ([15, 16, 14, 14], [14, 15, 16]), ([14], [14]), ([17, 18, 17, 14], [14, 17, 18]), ([14], [14]), ([14], [14]), ([14], [14]), ([14], [14]), ([21, 22, 23, 19, 14], [14, 21, 22, 23]), ([20, 24, 24, 14], [14, 20, 24]), ([19, 25, 25, 14], [14, 19, 25]), ([14, 26], [14, 26]), ([27, 26, 0, 1, 2, 3, 4, 5, 6, 7, 8, 9, 10, 11, 12, 13, 14, 15, 16, 17, 18, 19, 20, 21, 22, 23, 24, 25, 26, 27], [27])]) := by kernel_rfl
theorem bitsco_6 : waitsOk [([], []), ([], []), ([0, 1], [0, 1]), ([], []), ([], []), ([3, 4, 2], [3, 4]), ([2, 5, 5], [2, 5]), ([], []), ([], []), ([], []), ([], []), ([8, 9, 10, 6], [8, 9, 10]), ([7, 11, 11], [7, 11]), ([6, 12, 12], [6, 12]), ([13, 13], [13]), ([14], [14]), ([14], [14]), ([15, 16, 14, 14], [14, 15, 16]), ([14], [14]), ([17, 18, 17, 14], [14, 17, 18]), ([14], [14]), ([14], [14]), ([14], [14]), ([14], [14]), ([21, 22, 23, 19, 14], [14, 21, 22, 23]), ([20, 24, 24, 14], [14, 20, 24]), ([19, 25, 25, 14], [14, 19, 25]), ([14, 26], [14, 26]), ([27, 26, 0, 1, 2, 3, 4, 5, 6, 7, 8, 9, 10, 11, 12, 13, 14, 15, 16, 17, 18, 19, 20, 21, 22, 23, 24, 25, 26, 27], [27])] [0, 0, 3, 0, 0, 31, 63, 0, 0, 0, 0, 1919, 4095, 8191, 16383, 32767, 32767, 131071, 32767, 524287, 32767, 32767, 32767, 32767, 15728639, 33554431, 67108863, 134217727, 268435455] = true := by kernel_rfl

theorem CurveOrder_walk (n m : Nat → Int) (w : World) (hTO : TabD w ∧ Ord w) (w0 : ∀ i, i < 32 → (Lit.int .u8 (n i)).wf = true) (w1 : ∀ i, i < 32 → (Lit.int .u8 (m i)).wf = true) : Calls Tryd.prog 9 #[.agg (FR .u8 32 n), .agg (FR .u8 32 m)] w fun e w' => e = .returned (.bool true) ∧ Below w.heap.size w w' := by
  obtain ⟨hT, hO⟩ := hTO
  have hn : Fd.By n := By_wf w0
  have hm : Fd.By m := By_wf w1
  obtain ⟨Rn, hRne⟩ : ∃ S, dig 256 (N32 n % LL) = S := ⟨_, rfl⟩
  have hRn : Fd.By Rn := by rw [← hRne]; exact dig_By _
  obtain ⟨Ra, hRae⟩ : ∃ S, dig 256 ((N32 n * N32 (smL 1) + N32 m) % LL) = S := ⟨_, rfl⟩
  have hRa : Fd.By Ra := by rw [← hRae]; exact dig_By _
  obtain ⟨Rm, hRme⟩ : ∃ S, dig 256 ((N32 n * N32 m + N32 (fun _ => 0)) % LL) = S := ⟨_, rfl⟩
  have hRm : Fd.By Rm := by rw [← hRme]; exact dig_By _
  refine enter_ 46 Tryd.func9 rfl rfl (fun a0 hS => ?_)
  have HS0 : Sl a0 46 [(0, .agg (FR .u8 32 n)), (1, .agg (FR .u8 32 m))] := hS
  have HH0 : Held w w [] := Held.first w
  clear hS
  refine wp_seq ?_
  have hLo : LOk [(0, 2, .ptr 0 0), (1, 3, .ptr 1 0), (2, 4, .val (.bool false))] := ⟨show ([0, 1, 2] : List Nat).Nodup by decide, show ([2, 3, 4] : List Nat).Nodup by decide⟩
  refine plain_ (wE := w) (sz := 46) (n := 3) [0, 1, 3] [(2, .ptr 0 0), (3, .ptr 1 0)] [(0, 2, .ptr 0 0), (1, 3, .ptr 1 0), (2, 4, .val (.bool false))] [⟨0, some 0, none, .u8, 32, n, n, 22⟩, ⟨0, some 1, none, .u8, 32, m, m, 22⟩] rfl (by rfl) HH0 rfl rfl hLo rfl HS0 (slL 0 (d := 0) rfl (slL 1 (d := 1) rfl (trivial))) ?_ ?_
  · show ∀ i ∈ [0, 1, 2], _
    refine steps_cons (st_alloc 0 0 .u8 32 22 none _ _ rfl rfl (fun _ _ _ _ => rfl) rfl hLo rfl rfl rfl rfl (by rfl) (fun b G w hb ho => exec_box rfl (ev_off rfl (HS0.get 0 rfl)) (by kernel_rfl))) ?_
    refine steps_cons (st_alloc 1 1 .u8 32 22 none _ _ rfl rfl (fun _ _ _ _ => rfl) rfl hLo rfl rfl rfl rfl (by rfl) (fun b G w hb ho => exec_box rfl (ev_off rfl (HS0.get 1 rfl)) (by kernel_rfl))) ?_
    refine steps_cons (st_run 2 _ rfl rfl hLo rfl rfl (fun _ _ _ _ => rfl) (fun b G w hb ho => exec_move (.inr rfl) (rfl))) ?_
    exact steps_nil
  clear hLo
  intro G a1 w1 hS hH
  have HS1 : Sl a1 46 [(2, .pointer (some ⟨(G 0), 0, none⟩)), (3, .pointer (some ⟨(G 1), 0, none⟩))] := hS
  have HH1 : Held w w1 [⟨(G 0), .u8, 32, n, 22⟩, ⟨(G 1), .u8, 32, m, 22⟩] := hH
  clear hS hH HS0 HH0
  generalize G 0 = g1_0 at HS1 HH1
  generalize G 1 = g1_1 at HS1 HH1
  refine then_ ?_
  refine wp_seq ?_
  refine wp_seq ?_
  have hLo : LOk [(0, 6, .val (.bool true)), (1, 7, .val (.bool false))] := ⟨show ([0, 1] : List Nat).Nodup by decide, show ([6, 7] : List Nat).Nodup by decide⟩
  refine plain_ (wE := w) (sz := 46) (n := 2) [0, 1] [(2, .val (.pointer (some ⟨g1_0, 0, none⟩))), (3, .val (.pointer (some ⟨g1_1, 0, none⟩))), (7, .val (.bool false))] [(0, 6, .val (.bool true)), (1, 7, .val (.bool false))] [⟨g1_0, none, none, .u8, 32, n, n, 22⟩, ⟨g1_1, none, none, .u8, 32, m, m, 22⟩] rfl (by rfl) HH1 rfl rfl hLo rfl HS1 (slS 0 rfl rfl (slS 1 rfl rfl (slL 1 (d := 1) rfl (trivial)))) ?_ ?_
  · show ∀ i ∈ [0, 1], _
    refine steps_cons (st_call 0 _ #[] rfl rfl rfl (fun _ _ _ _ => rfl) hLo rfl rfl Tryd.func17 rfl rfl (fun b G hb ho => args0 ) (fun w hw => alive_calls w (hT.to hw))) ?_
    refine steps_cons (st_run 1 _ rfl rfl hLo rfl rfl (fun _ _ _ _ => rfl) (fun b G w hb ho => exec_un rfl (ev_on hLo 0 rfl HS1.1 rfl (hb 0 (by rfl))) (by rfl))) ?_
    exact steps_nil
  clear hLo
  intro G a2 w2 hS hH
  have HS2 : Sl a2 46 [(2, .pointer (some ⟨g1_0, 0, none⟩)), (3, .pointer (some ⟨g1_1, 0, none⟩)), (7, .bool false)] := hS
  have HH2 : Held w w2 [⟨g1_0, .u8, 32, n, 22⟩, ⟨g1_1, .u8, 32, m, 22⟩] := hH
  clear hS hH HS1 HH1
  refine then_ ?_
  refine wp_cond_false (HS2.get 2 rfl) ?_
  refine wp_skip ?_
  refine then_ ?_
  obtain ⟨B1, hB1, rB1⟩ : ∃ S, baseP = S ∧ PRep S (basePt) := ⟨_, rfl, base_prep⟩
  refine wp_seq ?_
  have hLo : LOk [(0, 8, .val (.agg (FR .u64 20 (B1)))), (1, 5, .ptr 1 0)] := ⟨show ([0, 1] : List Nat).Nodup by decide, show ([8, 5] : List Nat).Nodup by decide⟩
  refine plain_ (wE := w) (sz := 46) (n := 3) [0, 1, 3] [(2, .val (.pointer (some ⟨g1_0, 0, none⟩))), (3, .val (.pointer (some ⟨g1_1, 0, none⟩))), (5, .ptr 1 0)] [(0, 8, .val (.agg (FR .u64 20 (B1)))), (1, 5, .ptr 1 0)] [⟨g1_0, none, none, .u8, 32, n, n, 22⟩, ⟨g1_1, none, none, .u8, 32, m, m, 22⟩, ⟨0, some 1, some 2, .u64, 20, fun _ => 0, B1, 28⟩] rfl (by rfl) HH2 rfl rfl hLo rfl HS2 (slS 0 rfl rfl (slS 1 rfl rfl (slL 1 (d := 1) rfl (trivial)))) ?_ ?_
  · show ∀ i ∈ [0, 1, 2], _
    refine steps_cons (st_call 0 _ #[] rfl rfl rfl (fun _ _ _ _ => rfl) hLo rfl rfl Tryd.func24 rfl rfl (fun b G hb ho => args0 ) (fun w hw => base_as hB1 w (hT.to hw))) ?_
    refine steps_cons (st_alloc 1 2 .u64 20 28 (some 2) _ _ rfl rfl (fun _ _ _ _ => rfl) rfl hLo rfl rfl rfl rfl (by rfl) (fun b G w _ _ => by kernel_rfl)) ?_
    refine steps_cons (st_store 2 _ rfl rfl rfl rfl rfl (fun _ _ _ _ => rfl) rfl rfl rfl (by rfl) infoPt (fun b G hb ho => ev_on hLo 1 rfl HS2.1 rfl (hb 1 (by rfl))) (fun b G hb ho => ev_on hLo 0 rfl HS2.1 rfl (hb 0 (by rfl)))) ?_
    exact steps_nil
  clear hLo
  intro G a3 w3 hS hH
  have HS3 : Sl a3 46 [(2, .pointer (some ⟨g1_0, 0, none⟩)), (3, .pointer (some ⟨g1_1, 0, none⟩)), (5, .pointer (some ⟨(G 1), 0, none⟩))] := hS
  have HH3 : Held w w3 [⟨g1_0, .u8, 32, n, 22⟩, ⟨g1_1, .u8, 32, m, 22⟩, ⟨(G 1), .u64, 20, B1, 28⟩] := hH
  clear hS hH HS2 HH2
  generalize G 1 = g3_1 at HS3 HH3
  refine then_ ?_
  refine wp_seq ?_
  obtain ⟨M2, hM2, rM2⟩ : ∃ S, mulP B1 (n) = S ∧ PRep S (Pt.mul fld (basePt) (NZ (n))) := ⟨_, rfl, rB1.mul hn⟩
  obtain ⟨M3, hM3, rM3⟩ : ∃ S, mulP B1 (Rn) = S ∧ PRep S (Pt.mul fld (basePt) (NZ (Rn))) := ⟨_, rfl, rB1.mul hRn⟩
  refine wp_seq ?_
  have hLo : LOk [(0, 9, .val (.agg (FR .u64 20 (B1)))), (1, 10, .val (.agg (FR .u8 32 (n)))), (2, 11, .val (.agg (FR .u64 20 (M2)))), (3, 12, .val (.agg (FR .u64 20 (B1)))), (4, 13, .val (.slice (some ⟨g1_0, 0, none⟩) 32 32)), (5, 14, .val (.agg (FR .u8 32 (Rn)))), (6, 15, .val (.agg (FR .u64 20 (M3)))), (7, 16, .val (.bool true)), (8, 17, .val (.bool false))] := ⟨show ([0, 1, 2, 3, 4, 5, 6, 7, 8] : List Nat).Nodup by decide, show ([9, 10, 11, 12, 13, 14, 15, 16, 17] : List Nat).Nodup by decide⟩
  refine region_ (wE := w) (sz := 46) (n := 9) (B := [0, 0, 3, 0, 0, 23, 63, 127, 255]) [0, 1, 2, 3, 4, 5, 6, 7, 8] [(2, .val (.pointer (some ⟨g1_0, 0, none⟩))), (3, .val (.pointer (some ⟨g1_1, 0, none⟩))), (5, .val (.pointer (some ⟨g3_1, 0, none⟩))), (17, .val (.bool false))] [(0, 9, .val (.agg (FR .u64 20 (B1)))), (1, 10, .val (.agg (FR .u8 32 (n)))), (2, 11, .val (.agg (FR .u64 20 (M2)))), (3, 12, .val (.agg (FR .u64 20 (B1)))), (4, 13, .val (.slice (some ⟨g1_0, 0, none⟩) 32 32)), (5, 14, .val (.agg (FR .u8 32 (Rn)))), (6, 15, .val (.agg (FR .u64 20 (M3)))), (7, 16, .val (.bool true)), (8, 17, .val (.bool false))] [⟨g1_0, none, none, .u8, 32, n, n, 22⟩, ⟨g1_1, none, none, .u8, 32, m, m, 22⟩, ⟨g3_1, none, none, .u64, 20, B1, B1, 28⟩] (by rfl) rfl tabco_4 bitsco_4 (by kernel_rfl) (by kernel_rfl) HH3 rfl rfl hLo rfl HS3 (slS 0 rfl rfl (slS 1 rfl rfl (slS 2 rfl rfl (slL 8 (d := 8) rfl (trivial))))) ?_ ?_
  · show ∀ i ∈ [0, 1, 2, 3, 4, 5, 6, 7, 8], _
    refine steps_cons (st_row0 0 2 _ rfl rfl rfl rfl (fun _ _ _ _ => rfl) hLo rfl rfl rfl (by rfl) Tryd.underlying28 infoPt rfl (fun b G hb ho => ev_off rfl (HS3.get 2 rfl))) ?_
    refine steps_cons (st_row0 1 0 _ rfl rfl rfl rfl (fun _ _ _ _ => rfl) hLo rfl rfl rfl (by rfl) Tryd.underlying22 infoB3 rfl (fun b G hb ho => ev_off rfl (HS3.get 0 rfl))) ?_
    refine steps_cons (st_call 2 _ #[.agg (FR .u64 20 (B1)), .agg (FR .u8 32 (n))] rfl rfl rfl (fun _ _ _ _ => rfl) hLo rfl rfl Tryd.func22 rfl rfl (fun b G hb ho => args2 (ev_on hLo 0 rfl HS3.1 rfl (hb 0 (by rfl))) (ev_on hLo 1 rfl HS3.1 rfl (hb 1 (by rfl)))) (fun w hw => mul_as hM2 w (hT.to hw) rB1.1 hn)) ?_
    refine steps_cons (st_row0 3 2 _ rfl rfl rfl rfl (fun _ _ _ _ => rfl) hLo rfl rfl rfl (by rfl) Tryd.underlying28 infoPt rfl (fun b G hb ho => ev_off rfl (HS3.get 2 rfl))) ?_
    refine steps_cons (st_run 4 _ rfl rfl hLo rfl rfl (fun _ _ _ _ => rfl) (fun b G w hb ho => exec_slice rfl (ev_off rfl (HS3.get 0 rfl)) rfl rfl rfl (slice_all _ _))) ?_
    refine steps_cons (st_callB 5 0 _ _ (fun _ => #[.slice (some ⟨g1_0, 0, none⟩) 32 32]) rfl rfl rfl rfl (fun _ _ _ _ => rfl) hLo rfl (by rfl) Tryd.func25 rfl rfl (by rfl) (by rfl) (fun b G hb ho => args1 (ev_on hLo 4 rfl HS3.1 rfl (hb 4 (by rfl)))) (fun G w hw hr => rest_as hRne (hO.to hw) hn hr)) ?_
    refine steps_cons (st_call 6 _ #[.agg (FR .u64 20 (B1)), .agg (FR .u8 32 (Rn))] rfl rfl rfl (fun _ _ _ _ => rfl) hLo rfl rfl Tryd.func22 rfl rfl (fun b G hb ho => args2 (ev_on hLo 3 rfl HS3.1 rfl (hb 3 (by rfl))) (ev_on hLo 5 rfl HS3.1 rfl (hb 5 (by rfl)))) (fun w hw => mul_as hM3 w (hT.to hw) rB1.1 hRn)) ?_
    refine steps_cons (st_call 7 _ #[.agg (FR .u64 20 (M2)), .agg (FR .u64 20 (M3))] rfl rfl rfl (fun _ _ _ _ => rfl) hLo rfl rfl Tryd.func16 rfl rfl (fun b G hb ho => args2 (ev_on hLo 2 rfl HS3.1 rfl (hb 2 (by rfl))) (ev_on hLo 6 rfl HS3.1 rfl (hb 6 (by rfl)))) (fun w hw => is_as (is_same rM2 rM3 (ord1 hn hRne)) w rM2.1 rM3.1)) ?_
    refine steps_cons (st_run 8 _ rfl rfl hLo rfl rfl (fun _ _ _ _ => rfl) (fun b G w hb ho => exec_un rfl (ev_on hLo 7 rfl HS3.1 rfl (hb 7 (by rfl))) (by rfl))) ?_
    exact steps_nil
  clear hLo
  intro G a4 w4 hS hH
  have HS4 : Sl a4 46 [(2, .pointer (some ⟨g1_0, 0, none⟩)), (3, .pointer (some ⟨g1_1, 0, none⟩)), (5, .pointer (some ⟨g3_1, 0, none⟩)), (17, .bool false)] := hS
  have HH4 : Held w w4 [⟨g1_0, .u8, 32, n, 22⟩, ⟨g1_1, .u8, 32, m, 22⟩, ⟨g3_1, .u64, 20, B1, 28⟩] := hH
  clear hS hH HS3 HH3
  refine then_ ?_
  refine wp_cond_false (HS4.get 3 rfl) ?_
  refine wp_skip ?_
  refine then_ ?_
  obtain ⟨M4, hM4, rM4⟩ : ∃ S, mulP B1 (m) = S ∧ PRep S (Pt.mul fld (basePt) (NZ (m))) := ⟨_, rfl, rB1.mul hm⟩
  obtain ⟨S5, hS5, rS5⟩ : ∃ S, addP M2 M4 = S ∧ PRep S (Pt.add fld (Pt.mul fld (basePt) (NZ (n))) (Pt.mul fld (basePt) (NZ (m)))) := ⟨_, rfl, rM2.add rM4⟩
  obtain ⟨M6, hM6, rM6⟩ : ∃ S, mulP B1 (Ra) = S ∧ PRep S (Pt.mul fld (basePt) (NZ (Ra))) := ⟨_, rfl, rB1.mul hRa⟩
  obtain ⟨M7, hM7, rM7⟩ : ∃ S, mulP M2 (m) = S ∧ PRep S (Pt.mul fld (Pt.mul fld (basePt) (NZ (n))) (NZ (m))) := ⟨_, rfl, rM2.mul hm⟩
  obtain ⟨M8, hM8, rM8⟩ : ∃ S, mulP B1 (Rm) = S ∧ PRep S (Pt.mul fld (basePt) (NZ (Rm))) := ⟨_, rfl, rB1.mul hRm⟩
  refine wp_seq ?_
  have hLo : LOk [(0, 18, .val (.agg (FR .u64 20 (B1)))), (1, 19, .val (.agg (FR .u8 32 (n)))), (2, 20, .val (.agg (FR .u64 20 (M2)))), (3, 21, .val (.agg (FR .u64 20 (B1)))), (4, 22, .val (.agg (FR .u8 32 (m)))), (5, 23, .val (.agg (FR .u64 20 (M4)))), (6, 24, .val (.agg (FR .u64 20 (S5)))), (7, 25, .val (.agg (FR .u64 20 (B1)))), (8, 26, .val (.agg (FR .u8 32 (n)))), (9, 27, .val (.agg (FR .u8 32 (smL 1)))), (10, 28, .val (.agg (FR .u8 32 (m)))), (11, 29, .val (.agg (FR .u8 32 (Ra)))), (12, 30, .val (.agg (FR .u64 20 (M6)))), (13, 31, .val (.bool true)), (14, 32, .val (.bool true)), (15, 33, .val (.agg (FR .u64 20 (B1)))), (16, 34, .val (.agg (FR .u8 32 (n)))), (17, 35, .val (.agg (FR .u64 20 (M2)))), (18, 36, .val (.agg (FR .u8 32 (m)))), (19, 37, .val (.agg (FR .u64 20 (M7)))), (20, 38, .val (.agg (FR .u64 20 (B1)))), (21, 39, .val (.agg (FR .u8 32 (n)))), (22, 40, .val (.agg (FR .u8 32 (m)))), (23, 41, .val (.agg (FR .u8 32 (fun _ => 0)))), (24, 42, .val (.agg (FR .u8 32 (Rm)))), (25, 43, .val (.agg (FR .u64 20 (M8)))), (26, 44, .val (.bool true)), (27, 45, .val (.bool true)), (28, 4, .val (.bool true))] := ⟨show ([0, 1, 2, 3, 4, 5, 6, 7, 8, 9, 10, 11, 12, 13, 14, 15, 16, 17, 18, 19, 20, 21, 22, 23, 24, 25, 26, 27, 28] : List Nat).Nodup by decide, show ([18, 19, 20, 21, 22, 23, 24, 25, 26, 27, 28, 29, 30, 31, 32, 33, 34, 35, 36, 37, 38, 39, 40, 41, 42, 43, 44, 45, 4] : List Nat).Nodup by decide⟩
  refine region_ (wE := w) (sz := 46) (n := 29) (B := [0, 0, 3, 0, 0, 31, 63, 0, 0, 0, 0, 1919, 4095, 8191, 16383, 32767, 32767, 131071, 32767, 524287, 32767, 32767, 32767, 32767, 15728639, 33554431, 67108863, 134217727, 268435455]) [0, 1, 2, 3, 4, 5, 6, 7, 8, 9, 10, 11, 12, 13, 14, 15, 16, 17, 18, 19, 20, 21, 22, 23, 24, 25, 26, 27, 28] [(4, .val (.bool true))] [(0, 18, .val (.agg (FR .u64 20 (B1)))), (1, 19, .val (.agg (FR .u8 32 (n)))), (2, 20, .val (.agg (FR .u64 20 (M2)))), (3, 21, .val (.agg (FR .u64 20 (B1)))), (4, 22, .val (.agg (FR .u8 32 (m)))), (5, 23, .val (.agg (FR .u64 20 (M4)))), (6, 24, .val (.agg (FR .u64 20 (S5)))), (7, 25, .val (.agg (FR .u64 20 (B1)))), (8, 26, .val (.agg (FR .u8 32 (n)))), (9, 27, .val (.agg (FR .u8 32 (smL 1)))), (10, 28, .val (.agg (FR .u8 32 (m)))), (11, 29, .val (.agg (FR .u8 32 (Ra)))), (12, 30, .val (.agg (FR .u64 20 (M6)))), (13, 31, .val (.bool true)), (14, 32, .val (.bool true)), (15, 33, .val (.agg (FR .u64 20 (B1)))), (16, 34, .val (.agg (FR .u8 32 (n)))), (17, 35, .val (.agg (FR .u64 20 (M2)))), (18, 36, .val (.agg (FR .u8 32 (m)))), (19, 37, .val (.agg (FR .u64 20 (M7)))), (20, 38, .val (.agg (FR .u64 20 (B1)))), (21, 39, .val (.agg (FR .u8 32 (n)))), (22, 40, .val (.agg (FR .u8 32 (m)))), (23, 41, .val (.agg (FR .u8 32 (fun _ => 0)))), (24, 42, .val (.agg (FR .u8 32 (Rm)))), (25, 43, .val (.agg (FR .u64 20 (M8)))), (26, 44, .val (.bool true)), (27, 45, .val (.bool true)), (28, 4, .val (.bool true))] [⟨g1_0, none, none, .u8, 32, n, n, 22⟩, ⟨g1_1, none, none, .u8, 32, m, m, 22⟩, ⟨g3_1, none, none, .u64, 20, B1, B1, 28⟩] (by rfl) rfl tabco_6 bitsco_6 (by kernel_rfl) (by kernel_rfl) HH4 rfl rfl hLo rfl HS4 (slL 28 (d := 28) rfl (trivial)) ?_ ?_
  · show ∀ i ∈ [0, 1, 2, 3, 4, 5, 6, 7, 8, 9, 10, 11, 12, 13, 14, 15, 16, 17, 18, 19, 20, 21, 22, 23, 24, 25, 26, 27, 28], _
    refine steps_cons (st_row0 0 2 _ rfl rfl rfl rfl (fun _ _ _ _ => rfl) hLo rfl rfl rfl (by rfl) Tryd.underlying28 infoPt rfl (fun b G hb ho => ev_off rfl (HS4.get 2 rfl))) ?_
    refine steps_cons (st_row0 1 0 _ rfl rfl rfl rfl (fun _ _ _ _ => rfl) hLo rfl rfl rfl (by rfl) Tryd.underlying22 infoB3 rfl (fun b G hb ho => ev_off rfl (HS4.get 0 rfl))) ?_
    refine steps_cons (st_call 2 _ #[.agg (FR .u64 20 (B1)), .agg (FR .u8 32 (n))] rfl rfl rfl (fun _ _ _ _ => rfl) hLo rfl rfl Tryd.func22 rfl rfl (fun b G hb ho => args2 (ev_on hLo 0 rfl HS4.1 rfl (hb 0 (by rfl))) (ev_on hLo 1 rfl HS4.1 rfl (hb 1 (by rfl)))) (fun w hw => mul_as hM2 w (hT.to hw) rB1.1 hn)) ?_
    refine steps_cons (st_row0 3 2 _ rfl rfl rfl rfl (fun _ _ _ _ => rfl) hLo rfl rfl rfl (by rfl) Tryd.underlying28 infoPt rfl (fun b G hb ho => ev_off rfl (HS4.get 2 rfl))) ?_
    refine steps_cons (st_row0 4 1 _ rfl rfl rfl rfl (fun _ _ _ _ => rfl) hLo rfl rfl rfl (by rfl) Tryd.underlying22 infoB3 rfl (fun b G hb ho => ev_off rfl (HS4.get 1 rfl))) ?_
    refine steps_cons (st_call 5 _ #[.agg (FR .u64 20 (B1)), .agg (FR .u8 32 (m))] rfl rfl rfl (fun _ _ _ _ => rfl) hLo rfl rfl Tryd.func22 rfl rfl (fun b G hb ho => args2 (ev_on hLo 3 rfl HS4.1 rfl (hb 3 (by rfl))) (ev_on hLo 4 rfl HS4.1 rfl (hb 4 (by rfl)))) (fun w hw => mul_as hM4 w (hT.to hw) rB1.1 hm)) ?_
    refine steps_cons (st_call 6 _ #[.agg (FR .u64 20 (M2)), .agg (FR .u64 20 (M4))] rfl rfl rfl (fun _ _ _ _ => rfl) hLo rfl rfl Tryd.func18 rfl rfl (fun b G hb ho => args2 (ev_on hLo 2 rfl HS4.1 rfl (hb 2 (by rfl))) (ev_on hLo 5 rfl HS4.1 rfl (hb 5 (by rfl)))) (fun w hw => add_as hS5 w (hT.to hw) rM2.1 rM4.1)) ?_
    refine steps_cons (st_row0 7 2 _ rfl rfl rfl rfl (fun _ _ _ _ => rfl) hLo rfl rfl rfl (by rfl) Tryd.underlying28 infoPt rfl (fun b G hb ho => ev_off rfl (HS4.get 2 rfl))) ?_
    refine steps_cons (st_row0 8 0 _ rfl rfl rfl rfl (fun _ _ _ _ => rfl) hLo rfl rfl rfl (by rfl) Tryd.underlying22 infoB3 rfl (fun b G hb ho => ev_off rfl (HS4.get 0 rfl))) ?_
    refine steps_cons (st_run 9 _ rfl rfl hLo rfl rfl (fun _ _ _ _ => rfl) (fun b G w hb ho => exec_build rfl (parts1 (rfl)) (build1_run _ _))) ?_
    refine steps_cons (st_row0 10 1 _ rfl rfl rfl rfl (fun _ _ _ _ => rfl) hLo rfl rfl rfl (by rfl) Tryd.underlying22 infoB3 rfl (fun b G hb ho => ev_off rfl (HS4.get 1 rfl))) ?_
    refine steps_cons (st_call 11 _ #[.agg (FR .u8 32 (n)), .agg (FR .u8 32 (smL 1)), .agg (FR .u8 32 (m))] rfl rfl rfl (fun _ _ _ _ => rfl) hLo rfl rfl Tryd.func26 rfl rfl (fun b G hb ho => args3 (ev_on hLo 8 rfl HS4.1 rfl (hb 8 (by rfl))) (ev_on hLo 9 rfl HS4.1 rfl (hb 9 (by rfl))) (ev_on hLo 10 rfl HS4.1 rfl (hb 10 (by rfl)))) (fun w hw => muladd_as hRae w (hO.to hw) hn (smE_By (n := 1) (by decide)) hm)) ?_
    refine steps_cons (st_call 12 _ #[.agg (FR .u64 20 (B1)), .agg (FR .u8 32 (Ra))] rfl rfl rfl (fun _ _ _ _ => rfl) hLo rfl rfl Tryd.func22 rfl rfl (fun b G hb ho => args2 (ev_on hLo 7 rfl HS4.1 rfl (hb 7 (by rfl))) (ev_on hLo 11 rfl HS4.1 rfl (hb 11 (by rfl)))) (fun w hw => mul_as hM6 w (hT.to hw) rB1.1 hRa)) ?_
    refine steps_cons (st_call 13 _ #[.agg (FR .u64 20 (S5)), .agg (FR .u64 20 (M6))] rfl rfl rfl (fun _ _ _ _ => rfl) hLo rfl rfl Tryd.func16 rfl rfl (fun b G hb ho => args2 (ev_on hLo 6 rfl HS4.1 rfl (hb 6 (by rfl))) (ev_on hLo 12 rfl HS4.1 rfl (hb 12 (by rfl)))) (fun w hw => is_as (is_same rS5 rM6 (ord2 hn hm hRae)) w rS5.1 rM6.1)) ?_
    refine steps_cons (st_run 14 _ rfl rfl hLo rfl rfl (fun _ _ _ _ => rfl) (fun b G w hb ho => exec_move (.inl rfl) (ev_on hLo 13 rfl HS4.1 rfl (hb 13 (by rfl))))) ?_
    refine steps_cons (st_row0 15 2 _ rfl rfl rfl rfl (fun b G hb ho => wanted_is rfl rfl rfl HS4.1 rfl (ev_on hLo 14 rfl HS4.1 rfl (hb 14 (by rfl))) rfl) hLo rfl rfl rfl (by rfl) Tryd.underlying28 infoPt rfl (fun b G hb ho => ev_off rfl (HS4.get 2 rfl))) ?_
    refine steps_cons (st_row0 16 0 _ rfl rfl rfl rfl (fun b G hb ho => wanted_is rfl rfl rfl HS4.1 rfl (ev_on hLo 14 rfl HS4.1 rfl (hb 14 (by rfl))) rfl) hLo rfl rfl rfl (by rfl) Tryd.underlying22 infoB3 rfl (fun b G hb ho => ev_off rfl (HS4.get 0 rfl))) ?_
    refine steps_cons (st_call 17 _ #[.agg (FR .u64 20 (B1)), .agg (FR .u8 32 (n))] rfl rfl rfl (fun b G hb ho => wanted_is rfl rfl rfl HS4.1 rfl (ev_on hLo 14 rfl HS4.1 rfl (hb 14 (by rfl))) rfl) hLo rfl rfl Tryd.func22 rfl rfl (fun b G hb ho => args2 (ev_on hLo 15 rfl HS4.1 rfl (hb 15 (by rfl))) (ev_on hLo 16 rfl HS4.1 rfl (hb 16 (by rfl)))) (fun w hw => mul_as hM2 w (hT.to hw) rB1.1 hn)) ?_
    refine steps_cons (st_row0 18 1 _ rfl rfl rfl rfl (fun b G hb ho => wanted_is rfl rfl rfl HS4.1 rfl (ev_on hLo 14 rfl HS4.1 rfl (hb 14 (by rfl))) rfl) hLo rfl rfl rfl (by rfl) Tryd.underlying22 infoB3 rfl (fun b G hb ho => ev_off rfl (HS4.get 1 rfl))) ?_
    refine steps_cons (st_call 19 _ #[.agg (FR .u64 20 (M2)), .agg (FR .u8 32 (m))] rfl rfl rfl (fun b G hb ho => wanted_is rfl rfl rfl HS4.1 rfl (ev_on hLo 14 rfl HS4.1 rfl (hb 14 (by rfl))) rfl) hLo rfl rfl Tryd.func22 rfl rfl (fun b G hb ho => args2 (ev_on hLo 17 rfl HS4.1 rfl (hb 17 (by rfl))) (ev_on hLo 18 rfl HS4.1 rfl (hb 18 (by rfl)))) (fun w hw => mul_as hM7 w (hT.to hw) rM2.1 hm)) ?_
    refine steps_cons (st_row0 20 2 _ rfl rfl rfl rfl (fun b G hb ho => wanted_is rfl rfl rfl HS4.1 rfl (ev_on hLo 14 rfl HS4.1 rfl (hb 14 (by rfl))) rfl) hLo rfl rfl rfl (by rfl) Tryd.underlying28 infoPt rfl (fun b G hb ho => ev_off rfl (HS4.get 2 rfl))) ?_
    refine steps_cons (st_row0 21 0 _ rfl rfl rfl rfl (fun b G hb ho => wanted_is rfl rfl rfl HS4.1 rfl (ev_on hLo 14 rfl HS4.1 rfl (hb 14 (by rfl))) rfl) hLo rfl rfl rfl (by rfl) Tryd.underlying22 infoB3 rfl (fun b G hb ho => ev_off rfl (HS4.get 0 rfl))) ?_
    refine steps_cons (st_row0 22 1 _ rfl rfl rfl rfl (fun b G hb ho => wanted_is rfl rfl rfl HS4.1 rfl (ev_on hLo 14 rfl HS4.1 rfl (hb 14 (by rfl))) rfl) hLo rfl rfl rfl (by rfl) Tryd.underlying22 infoB3 rfl (fun b G hb ho => ev_off rfl (HS4.get 1 rfl))) ?_
    refine steps_cons (st_run 23 _ rfl rfl hLo rfl rfl (fun b G hb ho => wanted_is rfl rfl rfl HS4.1 rfl (ev_on hLo 14 rfl HS4.1 rfl (hb 14 (by rfl))) rfl) (fun b G w hb ho => exec_build rfl (parts0 ) (build0_run _))) ?_
    refine steps_cons (st_call 24 _ #[.agg (FR .u8 32 (n)), .agg (FR .u8 32 (m)), .agg (FR .u8 32 (fun _ => 0))] rfl rfl rfl (fun b G hb ho => wanted_is rfl rfl rfl HS4.1 rfl (ev_on hLo 14 rfl HS4.1 rfl (hb 14 (by rfl))) rfl) hLo rfl rfl Tryd.func26 rfl rfl (fun b G hb ho => args3 (ev_on hLo 21 rfl HS4.1 rfl (hb 21 (by rfl))) (ev_on hLo 22 rfl HS4.1 rfl (hb 22 (by rfl))) (ev_on hLo 23 rfl HS4.1 rfl (hb 23 (by rfl)))) (fun w hw => muladd_as hRme w (hO.to hw) hn hm zeroE_By)) ?_
    refine steps_cons (st_call 25 _ #[.agg (FR .u64 20 (B1)), .agg (FR .u8 32 (Rm))] rfl rfl rfl (fun b G hb ho => wanted_is rfl rfl rfl HS4.1 rfl (ev_on hLo 14 rfl HS4.1 rfl (hb 14 (by rfl))) rfl) hLo rfl rfl Tryd.func22 rfl rfl (fun b G hb ho => args2 (ev_on hLo 20 rfl HS4.1 rfl (hb 20 (by rfl))) (ev_on hLo 24 rfl HS4.1 rfl (hb 24 (by rfl)))) (fun w hw => mul_as hM8 w (hT.to hw) rB1.1 hRm)) ?_
    refine steps_cons (st_call 26 _ #[.agg (FR .u64 20 (M7)), .agg (FR .u64 20 (M8))] rfl rfl rfl (fun b G hb ho => wanted_is rfl rfl rfl HS4.1 rfl (ev_on hLo 14 rfl HS4.1 rfl (hb 14 (by rfl))) rfl) hLo rfl rfl Tryd.func16 rfl rfl (fun b G hb ho => args2 (ev_on hLo 19 rfl HS4.1 rfl (hb 19 (by rfl))) (ev_on hLo 25 rfl HS4.1 rfl (hb 25 (by rfl)))) (fun w hw => is_as (is_same rM7 rM8 (ord3 hn hm hRme)) w rM7.1 rM8.1)) ?_
    refine steps_cons (st_run 27 _ rfl rfl hLo rfl rfl (fun _ _ _ _ => rfl) (fun b G w hb ho => exec_pick rfl (ev_on hLo 14 rfl HS4.1 rfl (hb 14 (by rfl))) (ev_on hLo 26 rfl HS4.1 rfl (hb 26 (by rfl))))) ?_
    refine steps_cons (st_run 28 _ rfl rfl hLo rfl rfl (fun _ _ _ _ => rfl) (fun b G w hb ho => exec_move (.inr rfl) (ev_on hLo 27 rfl HS4.1 rfl (hb 27 (by rfl))))) ?_
    exact steps_nil
  clear hLo
  intro G a5 w5 hS hH
  have HS5 : Sl a5 46 [(4, .bool true)] := hS
  have HH5 : Held w w5 [⟨g1_0, .u8, 32, n, 22⟩, ⟨g1_1, .u8, 32, m, 22⟩, ⟨g3_1, .u64, 20, B1, 28⟩] := hH
  clear hS hH HS4 HH4
  refine then_ ?_
  refine wp_ret ?_
  repeat refine then_ret ?_
  exact b_tmp rfl HS5.2.1 (HS5.get 0 rfl) ⟨rfl, HH5.1⟩
end Go.Proofs.YtaaipbhfikefaaaDoor.P
