/- Merged of the texts: Wo, G47, G37, G45, G46, G35, Lta, Ltb, We, Wf, G36, Wg, G43, Ltc, G34, Ltd, Lte, G49, G44, G33, G40, G30, Xa (trim.py). -/
import Derived.Laws.BitsAllLaws
import Derived.IntWalk
import Derived.Laws.BitsLemmas
import Derived.Lib.OthersKept
import Derived.Outline
import Derived.Test.YtdleomeiojlooaaYd1
section
namespace Go.Proofs.Ytdleomeiojlooaa.P
set_option linter.unusedVariables false
set_option linter.unusedSimpArgs false
open Go.RowKit Go.ChangeShapes Go.WideShapes Go.Proofs.YtdleomeiojlooaaW.PrintWords Go.Proofs.YtdleomeiojlooaaW.PrintLast Go.Proofs.YtdleomeiojlooaaW.PrintMore
theorem tabof2 : rtab .any (opsOf Try.f18 2) = (true, [([], []), ([], []), ([1], [1]), ([2], [2]), ([3], [3]), ([], []), ([5], [5]), ([6], [6]), ([7], [7]), ([], []), ([9], [9]), ([], []), ([11], [11]), ([12], [12]), ([13], [13]), ([14], [14]), ([], []), ([16], [16]), ([17], [17]), ([18], [18]), ([15, 19], [15, 19]), ([10, 20], [10, 20]), ([8, 21], [8, 21]), ([4, 22], [4, 22]), ([0, 0, 1, 2, 3, 4, 5, 6, 7, 8, 9, 10, 11, 12, 13, 14, 15, 16, 17, 18, 19, 20, 21, 22, 23], [0]), ([24, 0, 1, 2, 3, 4, 5, 6, 7, 8, 9, 10, 11, 12, 13, 14, 15, 16, 17, 18, 19, 20, 21, 22, 23], [24]), ([25, 23, 0, 1, 2, 3, 4, 5, 6, 7, 8, 9, 10, 11, 12, 13, 14, 15, 16, 17, 18, 19, 20, 21, 22, 23], [23, 25])]) := by kernel_rfl
theorem bitsof2 : waitsOk [([], []), ([], []), ([1], [1]), ([2], [2]), ([3], [3]), ([], []), ([5], [5]), ([6], [6]), ([7], [7]), ([], []), ([9], [9]), ([], []), ([11], [11]), ([12], [12]), ([13], [13]), ([14], [14]), ([], []), ([16], [16]), ([17], [17]), ([18], [18]), ([15, 19], [15, 19]), ([10, 20], [10, 20]), ([8, 21], [8, 21]), ([4, 22], [4, 22]), ([0, 0, 1, 2, 3, 4, 5, 6, 7, 8, 9, 10, 11, 12, 13, 14, 15, 16, 17, 18, 19, 20, 21, 22, 23], [0]), ([24, 0, 1, 2, 3, 4, 5, 6, 7, 8, 9, 10, 11, 12, 13, 14, 15, 16, 17, 18, 19, 20, 21, 22, 23], [24]), ([25, 23, 0, 1, 2, 3, 4, 5, 6, 7, 8, 9, 10, 11, 12, 13, 14, 15, 16, 17, 18, 19, 20, 21, 22, 23], [23, 25])] [0, 0, 2, 6, 14, 0, 32, 96, 224, 0, 512, 0, 2048, 6144, 14336, 30720, 0, 65536, 196608, 458752, 1046528, 2096640, 4194272, 8388606, 16777215, 33554431, 67108863] = true := by kernel_rfl
theorem off_on {w : World} {g : Nat} {al : ByteArray} {sy : Nat} {acts inn : Nat} {keep : Int} {k : Int} (hr : Row w g () 6 (spC ⟨al, sy, false, acts, inn, keep⟩) 53) (hsy : sy ≤ al.size) (hal : al.size ≤ 4194304) : Calls Try.prog 18 #[.pointer (some ⟨g, 0, none⟩), .int .i64 (k)] w fun e w' => e = .returned (.tuple #[]) ∧ Row w' g () 6 (spC ⟨al.extract 0 (sy + kp k (al.size - sy)), sy + kp k (al.size - sy), true, acts, 0, keep⟩) 53 ∧ Fr ⟨w, [g]⟩ w' := by
  refine enter_ 52 Try.func18 rfl rfl (fun a0 hS => ?_)
  have HS0 : Sl a0 52 [(0, .pointer (some ⟨g, 0, none⟩)), (1, .int .i64 (k))] := hS
  have HH0 : Held ⟨w, [g]⟩ w [⟨g, (), 6, spC ⟨al, sy, false, acts, inn, keep⟩, 53⟩] := Held.one hr
  clear hS
  refine wp_seq ?_
  refine wp_seq ?_
  have hLo : LOk [(0, 4, .val (.pointer (some ⟨g, 0, none⟩))), (1, 5, .val (.bool false)), (2, 6, .val (.bool false)), (3, 7, .val (.pointer (some ⟨g, 0, none⟩))), (4, 8, .val (.pointer (some ⟨g, 0, none⟩))), (5, 9, .val (.pointer (some ⟨g, 2, none⟩))), (6, 10, .val (.bool false)), (7, 11, .val (.bool false))] := lok (by rfl) (by rfl)
  refine plain_ (wE := ⟨w, [g]⟩) (sz := 52) (n := 8) [0, 1, 3, 7, 15, 31, 63, 127] [(0, .val (.pointer (some ⟨g, 0, none⟩))), (1, .val (.int .i64 (k))), (11, .val (.bool false))] [(0, 4, .val (.pointer (some ⟨g, 0, none⟩))), (1, 5, .val (.bool false)), (2, 6, .val (.bool false)), (3, 7, .val (.pointer (some ⟨g, 0, none⟩))), (4, 8, .val (.pointer (some ⟨g, 0, none⟩))), (5, 9, .val (.pointer (some ⟨g, 2, none⟩))), (6, 10, .val (.bool false)), (7, 11, .val (.bool false))] [⟨g, none, none, (), 6, spC ⟨al, sy, false, acts, inn, keep⟩, spC ⟨al, sy, false, acts, inn, keep⟩, 53⟩] rfl (by rfl) HH0 rfl rfl hLo rfl HS0 (slS 0 rfl rfl (slS 1 rfl rfl (slL 7 (d := 7) rfl (trivial)))) ?_ ?_
  · show ∀ i ∈ [0, 1, 2, 3, 4, 5, 6, 7], _
    refine steps_cons (st_run 0 _ rfl rfl hLo rfl rfl (fun _ _ _ _ => rfl) (fun b G w hb ho => exec_move (.inl rfl) (ev_off rfl (HS0.get 0 rfl)))) ?_
    refine steps_cons (st_run 1 _ rfl rfl hLo rfl rfl (fun _ _ _ _ => rfl) (fun b G w hb ho => exec_bin rfl (ev_on hLo 0 rfl HS0.1 rfl (hb 0 (by rfl))) (rfl) (rp_eql ⟨_, Try.underlying23⟩ rfl _ _ _))) ?_
    refine steps_cons (st_run 2 _ rfl rfl hLo rfl rfl (fun _ _ _ _ => rfl) (fun b G w hb ho => exec_move (.inl rfl) (ev_on hLo 1 rfl HS0.1 rfl (hb 1 (by rfl))))) ?_
    refine steps_cons (st_run 3 _ rfl rfl hLo rfl rfl (fun b G hb ho => wanted_is rfl rfl rfl HS0.1 rfl (ev_on hLo 2 rfl HS0.1 rfl (hb 2 (by rfl))) rfl) (fun b G w hb ho => exec_move (.inl rfl) (ev_off rfl (HS0.get 0 rfl)))) ?_
    refine steps_cons (st_run 4 _ rfl rfl hLo rfl rfl (fun b G hb ho => wanted_is rfl rfl rfl HS0.1 rfl (ev_on hLo 2 rfl HS0.1 rfl (hb 2 (by rfl))) rfl) (fun b G w hb ho => exec_nil rfl (ev_on hLo 3 rfl HS0.1 rfl (hb 3 (by rfl))))) ?_
    refine steps_cons (st_run 5 _ rfl rfl hLo rfl rfl (fun b G hb ho => wanted_is rfl rfl rfl HS0.1 rfl (ev_on hLo 2 rfl HS0.1 rfl (hb 2 (by rfl))) rfl) (fun b G w hb ho => exec_field rfl (ev_on hLo 4 rfl HS0.1 rfl (hb 4 (by rfl))) (by kernel_rfl))) ?_
    refine steps_cons (st_read 6 0 _ _ rfl rfl rfl hLo rfl rfl (fun b G hb ho => wanted_is rfl rfl rfl HS0.1 rfl (ev_on hLo 2 rfl HS0.1 rfl (hb 2 (by rfl))) rfl) (by rfl) (by rfl) (fun b G w hb ho hr => exec_cell hr (Nat.le_of_ble_eq_true rfl) Try.underlying4 rfl rfl (ev_on hLo 5 rfl HS0.1 rfl (hb 5 (by rfl))))) ?_
    refine steps_cons (st_run 7 _ rfl rfl hLo rfl rfl (fun _ _ _ _ => rfl) (fun b G w hb ho => exec_pick rfl (ev_on hLo 2 rfl HS0.1 rfl (hb 2 (by rfl))) (ev_on hLo 6 rfl HS0.1 rfl (hb 6 (by rfl))))) ?_
    exact steps_nil
  clear hLo
  intro G a1 w1 hS hH
  have HS1 : Sl a1 52 [(0, .pointer (some ⟨g, 0, none⟩)), (1, .int .i64 (k)), (11, .bool false)] := hS
  have HH1 : Held ⟨w, [g]⟩ w1 [⟨g, (), 6, spC ⟨al, sy, false, acts, inn, keep⟩, 53⟩] := hH
  clear hS hH HS0 HH0
  refine then_ ?_
  refine wp_cond_false (HS1.get 2 rfl) ?_
  refine wp_skip ?_
  refine then_ ?_
  refine wp_seq ?_
  refine whole_ ?_
  have hLo : LOk [(0, 12, .val (.pointer (some ⟨g, 0, none⟩))), (1, 13, .val (.pointer (some ⟨g, 0, none⟩))), (2, 14, .val (.pointer (some ⟨g, 0, none⟩))), (3, 15, .val (.pointer (some ⟨g, 2, none⟩)))] := lok (by rfl) (by rfl)
  refine part_ (wE := ⟨w, [g]⟩) (sz := 52) (n := 8) 0 5 [0, 1, 3, 7, 15, 31, 63, 127] [(0, .val (.pointer (some ⟨g, 0, none⟩))), (1, .val (.int .i64 (k))), (11, .val (.bool false)), (13, .val (.pointer (some ⟨g, 0, none⟩)))] [(0, 12, .val (.pointer (some ⟨g, 0, none⟩))), (1, 13, .val (.pointer (some ⟨g, 0, none⟩))), (2, 14, .val (.pointer (some ⟨g, 0, none⟩))), (3, 15, .val (.pointer (some ⟨g, 2, none⟩)))] [⟨g, none, some 4, (), 6, spC ⟨al, sy, false, acts, inn, keep⟩, upd (spC ⟨al, sy, false, acts, inn, keep⟩) 2 (.b (true)), 53⟩] rfl rfl (by rfl) HH1 rfl rfl hLo rfl HS1 (slS 0 rfl rfl (slS 1 rfl rfl (slS 2 rfl rfl (slL 1 (d := 1) rfl (trivial))))) ?_ ?_
  · show ∀ i ∈ [0, 1, 2, 3, 4], _
    refine steps_cons (st_run 0 _ rfl rfl hLo rfl rfl (fun _ _ _ _ => rfl) (fun b G w hb ho => exec_move (.inl rfl) (ev_off rfl (HS1.get 0 rfl)))) ?_
    refine steps_cons (st_run 1 _ rfl rfl hLo rfl rfl (fun _ _ _ _ => rfl) (fun b G w hb ho => exec_move (.inl rfl) (ev_off rfl (HS1.get 0 rfl)))) ?_
    refine steps_cons (st_run 2 _ rfl rfl hLo rfl rfl (fun _ _ _ _ => rfl) (fun b G w hb ho => exec_nil rfl (ev_on hLo 0 rfl HS1.1 rfl (hb 0 (by rfl))))) ?_
    refine steps_cons (st_run 3 _ rfl rfl hLo rfl rfl (fun _ _ _ _ => rfl) (fun b G w hb ho => exec_field rfl (ev_on hLo 2 rfl HS1.1 rfl (hb 2 (by rfl))) (by kernel_rfl))) ?_
    refine steps_cons (st_put 0 _ rfl rfl rfl rfl (fun _ _ _ _ => rfl) rfl rfl rfl (by rfl) (fun b G w hb ho hr => exec_put1 hr (Nat.le_of_ble_eq_true rfl) (by kernel_rfl) rfl (ev_on hLo 3 rfl HS1.1 rfl (hb 3 (by rfl))) (rfl))) ?_
    exact steps_nil
  clear hLo
  intro G a2 w2 hS hH
  have HS2 : Sl a2 52 [(0, .pointer (some ⟨g, 0, none⟩)), (1, .int .i64 (k)), (11, .bool false), (13, .pointer (some ⟨g, 0, none⟩))] := hS
  have HH2 : Held ⟨w, [g]⟩ w2 [⟨g, (), 6, upd (spC ⟨al, sy, false, acts, inn, keep⟩) 2 (.b (true)), 53⟩] := hH
  clear hS hH HS1 HH1
  have hLo : LOk [(5, 16, .val (.pointer (some ⟨g, 0, none⟩))), (6, 17, .val (.pointer (some ⟨g, 4, none⟩)))] := lok (by rfl) (by rfl)
  refine part_ (wE := ⟨w, [g]⟩) (sz := 52) (n := 8) 5 8 [0, 1, 3, 7, 15, 31, 63, 127] [(0, .val (.pointer (some ⟨g, 0, none⟩))), (1, .val (.int .i64 (k))), (11, .val (.bool false))] [(5, 16, .val (.pointer (some ⟨g, 0, none⟩))), (6, 17, .val (.pointer (some ⟨g, 4, none⟩)))] [⟨g, none, some 7, (), 6, upd (spC ⟨al, sy, false, acts, inn, keep⟩) 2 (.b (true)), upd (upd (spC ⟨al, sy, false, acts, inn, keep⟩) 2 (.b (true))) 4 (.i .i64 (0)), 53⟩] rfl rfl (by rfl) HH2 rfl rfl hLo rfl HS2 (slS 0 rfl rfl (slS 1 rfl rfl (slS 2 rfl rfl (trivial)))) ?_ ?_
  · show ∀ i ∈ [5, 6, 7], _
    refine steps_cons (st_run 0 _ rfl rfl hLo rfl rfl (fun _ _ _ _ => rfl) (fun b G w hb ho => exec_nil rfl (ev_off rfl (HS2.get 3 rfl)))) ?_
    refine steps_cons (st_run 1 _ rfl rfl hLo rfl rfl (fun _ _ _ _ => rfl) (fun b G w hb ho => exec_field rfl (ev_on hLo 0 rfl HS2.1 rfl (hb 5 (by rfl))) (by kernel_rfl))) ?_
    refine steps_cons (st_put 0 _ rfl rfl rfl rfl (fun _ _ _ _ => rfl) rfl rfl rfl (by rfl) (fun b G w hb ho hr => exec_put1 hr (Nat.le_of_ble_eq_true rfl) (by kernel_rfl) rfl (ev_on hLo 1 rfl HS2.1 rfl (hb 6 (by rfl))) (rfl))) ?_
    exact steps_nil
  clear hLo
  intro G a3 w3 hS hH
  have HS3 : Sl a3 52 [(0, .pointer (some ⟨g, 0, none⟩)), (1, .int .i64 (k)), (11, .bool false)] := hS
  have HH3 : Held ⟨w, [g]⟩ w3 [⟨g, (), 6, upd (upd (spC ⟨al, sy, false, acts, inn, keep⟩) 2 (.b (true))) 4 (.i .i64 (0)), 53⟩] := hH
  clear hS hH HS2 HH2
  refine end_ rfl ?_
  refine then_ ?_
  refine wp_seq ?_
  have hLo : LOk [(0, 18, .val (.pointer (some ⟨g, 0, none⟩))), (1, 19, .val (.pointer (some ⟨g, 0, none⟩))), (2, 20, .val (.pointer (some ⟨g, 0, none⟩))), (3, 21, .val (.pointer (some ⟨g, 0, none⟩))), (4, 22, .val (.string (al))), (5, 23, .val (.pointer (some ⟨g, 0, none⟩))), (6, 24, .val (.pointer (some ⟨g, 0, none⟩))), (7, 25, .val (.pointer (some ⟨g, 1, none⟩))), (8, 26, .val (.int .i64 (((sy : Nat) : Int)))), (9, 27, .val (.int .i64 (k))), (10, 28, .val (.int .i64 (max k 0))), (11, 29, .val (.pointer (some ⟨g, 0, none⟩))), (12, 30, .val (.pointer (some ⟨g, 0, none⟩))), (13, 31, .val (.pointer (some ⟨g, 0, none⟩))), (14, 32, .val (.string (al))), (15, 33, .val (.int .i64 (((al).size : Int)))), (16, 34, .val (.pointer (some ⟨g, 0, none⟩))), (17, 35, .val (.pointer (some ⟨g, 0, none⟩))), (18, 36, .val (.pointer (some ⟨g, 1, none⟩))), (19, 37, .val (.int .i64 (((sy : Nat) : Int)))), (20, 38, .val (.int .i64 (((al.size - sy : Nat) : Int)))), (21, 39, .val (.int .i64 (((kp k (al.size - sy) : Nat) : Int)))), (22, 40, .val (.int .i64 (((sy + kp k (al.size - sy) : Nat) : Int)))), (23, 41, .val (.string ((al).extract 0 (sy + kp k (al.size - sy))))), (24, 42, .val (.pointer (some ⟨g, 0, none⟩))), (25, 43, .val (.pointer (some ⟨g, 0, none⟩)))] := lok (by rfl) (by rfl)
  refine region_ (wE := ⟨w, [g]⟩) (sz := 52) (n := 27) (B := [0, 0, 2, 6, 14, 0, 32, 96, 224, 0, 512, 0, 2048, 6144, 14336, 30720, 0, 65536, 196608, 458752, 1046528, 2096640, 4194272, 8388606, 16777215, 33554431, 67108863]) [0, 1, 2, 3, 4, 5, 6, 7, 8, 9, 10, 11, 12, 13, 14, 15, 16, 17, 18, 19, 20, 21, 22, 23, 24, 25, 26] [(0, .val (.pointer (some ⟨g, 0, none⟩))), (1, .val (.int .i64 (k))), (11, .val (.bool false))] [(0, 18, .val (.pointer (some ⟨g, 0, none⟩))), (1, 19, .val (.pointer (some ⟨g, 0, none⟩))), (2, 20, .val (.pointer (some ⟨g, 0, none⟩))), (3, 21, .val (.pointer (some ⟨g, 0, none⟩))), (4, 22, .val (.string (al))), (5, 23, .val (.pointer (some ⟨g, 0, none⟩))), (6, 24, .val (.pointer (some ⟨g, 0, none⟩))), (7, 25, .val (.pointer (some ⟨g, 1, none⟩))), (8, 26, .val (.int .i64 (((sy : Nat) : Int)))), (9, 27, .val (.int .i64 (k))), (10, 28, .val (.int .i64 (max k 0))), (11, 29, .val (.pointer (some ⟨g, 0, none⟩))), (12, 30, .val (.pointer (some ⟨g, 0, none⟩))), (13, 31, .val (.pointer (some ⟨g, 0, none⟩))), (14, 32, .val (.string (al))), (15, 33, .val (.int .i64 (((al).size : Int)))), (16, 34, .val (.pointer (some ⟨g, 0, none⟩))), (17, 35, .val (.pointer (some ⟨g, 0, none⟩))), (18, 36, .val (.pointer (some ⟨g, 1, none⟩))), (19, 37, .val (.int .i64 (((sy : Nat) : Int)))), (20, 38, .val (.int .i64 (((al.size - sy : Nat) : Int)))), (21, 39, .val (.int .i64 (((kp k (al.size - sy) : Nat) : Int)))), (22, 40, .val (.int .i64 (((sy + kp k (al.size - sy) : Nat) : Int)))), (23, 41, .val (.string ((al).extract 0 (sy + kp k (al.size - sy))))), (24, 42, .val (.pointer (some ⟨g, 0, none⟩))), (25, 43, .val (.pointer (some ⟨g, 0, none⟩)))] [⟨g, none, some 26, (), 6, upd (upd (spC ⟨al, sy, false, acts, inn, keep⟩) 2 (.b (true))) 4 (.i .i64 (0)), upd (upd (upd (spC ⟨al, sy, false, acts, inn, keep⟩) 2 (.b (true))) 4 (.i .i64 (0))) 0 (.s ((al).extract 0 (sy + kp k (al.size - sy)))), 53⟩] (by rfl) rfl tabof2 bitsof2 (by kernel_rfl) (by kernel_rfl) HH3 rfl rfl hLo rfl HS3 (slS 0 rfl rfl (slS 1 rfl rfl (slS 2 rfl rfl (trivial)))) ?_ ?_
  · show ∀ i ∈ [0, 1, 2, 3, 4, 5, 6, 7, 8, 9, 10, 11, 12, 13, 14, 15, 16, 17, 18, 19, 20, 21, 22, 23, 24, 25, 26], _
    refine steps_cons (st_run 0 _ rfl rfl hLo rfl rfl (fun _ _ _ _ => rfl) (fun b G w hb ho => exec_move (.inl rfl) (ev_off rfl (HS3.get 0 rfl)))) ?_
    refine steps_cons (st_run 1 _ rfl rfl hLo rfl rfl (fun _ _ _ _ => rfl) (fun b G w hb ho => exec_move (.inl rfl) (ev_off rfl (HS3.get 0 rfl)))) ?_
    refine steps_cons (st_run 2 _ rfl rfl hLo rfl rfl (fun _ _ _ _ => rfl) (fun b G w hb ho => exec_nil rfl (ev_on hLo 1 rfl HS3.1 rfl (hb 1 (by rfl))))) ?_
    refine steps_cons (st_run 3 _ rfl rfl hLo rfl rfl (fun _ _ _ _ => rfl) (fun b G w hb ho => exec_field rfl (ev_on hLo 2 rfl HS3.1 rfl (hb 2 (by rfl))) (by kernel_rfl))) ?_
    refine steps_cons (st_read 4 0 _ _ rfl rfl rfl hLo rfl rfl (fun _ _ _ _ => rfl) (by rfl) (by rfl) (fun b G w hb ho hr => exec_cell hr (Nat.le_of_ble_eq_true rfl) Try.underlying9 rfl rfl (ev_on hLo 3 rfl HS3.1 rfl (hb 3 (by rfl))))) ?_
    refine steps_cons (st_run 5 _ rfl rfl hLo rfl rfl (fun _ _ _ _ => rfl) (fun b G w hb ho => exec_move (.inl rfl) (ev_off rfl (HS3.get 0 rfl)))) ?_
    refine steps_cons (st_run 6 _ rfl rfl hLo rfl rfl (fun _ _ _ _ => rfl) (fun b G w hb ho => exec_nil rfl (ev_on hLo 5 rfl HS3.1 rfl (hb 5 (by rfl))))) ?_
    refine steps_cons (st_run 7 _ rfl rfl hLo rfl rfl (fun _ _ _ _ => rfl) (fun b G w hb ho => exec_field rfl (ev_on hLo 6 rfl HS3.1 rfl (hb 6 (by rfl))) (by kernel_rfl))) ?_
    refine steps_cons (st_read 8 0 _ _ rfl rfl rfl hLo rfl rfl (fun _ _ _ _ => rfl) (by rfl) (by rfl) (fun b G w hb ho hr => exec_cell hr (Nat.le_of_ble_eq_true rfl) Try.underlying3 rfl rfl (ev_on hLo 7 rfl HS3.1 rfl (hb 7 (by rfl))))) ?_
    refine steps_cons (st_run 9 _ rfl rfl hLo rfl rfl (fun _ _ _ _ => rfl) (fun b G w hb ho => exec_move (.inl rfl) (ev_off rfl (HS3.get 1 rfl)))) ?_
    refine steps_cons (st_run 10 _ rfl rfl hLo rfl rfl (fun _ _ _ _ => rfl) (fun b G w hb ho => exec_max (mx_is _ _) rfl (ev_on hLo 9 rfl HS3.1 rfl (hb 9 (by rfl))) (rfl))) ?_
    refine steps_cons (st_run 11 _ rfl rfl hLo rfl rfl (fun _ _ _ _ => rfl) (fun b G w hb ho => exec_move (.inl rfl) (ev_off rfl (HS3.get 0 rfl)))) ?_
    refine steps_cons (st_run 12 _ rfl rfl hLo rfl rfl (fun _ _ _ _ => rfl) (fun b G w hb ho => exec_nil rfl (ev_on hLo 11 rfl HS3.1 rfl (hb 11 (by rfl))))) ?_
    refine steps_cons (st_run 13 _ rfl rfl hLo rfl rfl (fun _ _ _ _ => rfl) (fun b G w hb ho => exec_field rfl (ev_on hLo 12 rfl HS3.1 rfl (hb 12 (by rfl))) (by kernel_rfl))) ?_
    refine steps_cons (st_read 14 0 _ _ rfl rfl rfl hLo rfl rfl (fun _ _ _ _ => rfl) (by rfl) (by rfl) (fun b G w hb ho hr => exec_cell hr (Nat.le_of_ble_eq_true rfl) Try.underlying9 rfl rfl (ev_on hLo 13 rfl HS3.1 rfl (hb 13 (by rfl))))) ?_
    refine steps_cons (st_run 15 _ rfl rfl hLo rfl rfl (fun _ _ _ _ => rfl) (fun b G w hb ho => exec_lenS Try.underlying9 rfl (ev_on hLo 14 rfl HS3.1 rfl (hb 14 (by rfl))))) ?_
    refine steps_cons (st_run 16 _ rfl rfl hLo rfl rfl (fun _ _ _ _ => rfl) (fun b G w hb ho => exec_move (.inl rfl) (ev_off rfl (HS3.get 0 rfl)))) ?_
    refine steps_cons (st_run 17 _ rfl rfl hLo rfl rfl (fun _ _ _ _ => rfl) (fun b G w hb ho => exec_nil rfl (ev_on hLo 16 rfl HS3.1 rfl (hb 16 (by rfl))))) ?_
    refine steps_cons (st_run 18 _ rfl rfl hLo rfl rfl (fun _ _ _ _ => rfl) (fun b G w hb ho => exec_field rfl (ev_on hLo 17 rfl HS3.1 rfl (hb 17 (by rfl))) (by kernel_rfl))) ?_
    refine steps_cons (st_read 19 0 _ _ rfl rfl rfl hLo rfl rfl (fun _ _ _ _ => rfl) (by rfl) (by rfl) (fun b G w hb ho hr => exec_cell hr (Nat.le_of_ble_eq_true rfl) Try.underlying3 rfl rfl (ev_on hLo 18 rfl HS3.1 rfl (hb 18 (by rfl))))) ?_
    refine steps_cons (st_run 20 _ rfl rfl hLo rfl rfl (fun _ _ _ _ => rfl) (fun b G w hb ho => exec_bin rfl (ev_on hLo 15 rfl HS3.1 rfl (hb 15 (by rfl))) (ev_on hLo 19 rfl HS3.1 rfl (hb 19 (by rfl))) (rb_sub (w_nat (by omega) (by omega)) _ _ _))) ?_
    refine steps_cons (st_run 21 _ rfl rfl hLo rfl rfl (fun _ _ _ _ => rfl) (fun b G w hb ho => exec_min (kp_is _ _) rfl (ev_on hLo 10 rfl HS3.1 rfl (hb 10 (by rfl))) (ev_on hLo 20 rfl HS3.1 rfl (hb 20 (by rfl))))) ?_
    refine steps_cons (st_run 22 _ rfl rfl hLo rfl rfl (fun _ _ _ _ => rfl) (fun b G w hb ho => exec_bin rfl (ev_on hLo 8 rfl HS3.1 rfl (hb 8 (by rfl))) (ev_on hLo 21 rfl HS3.1 rfl (hb 21 (by rfl))) (rb_add (w_nat (by omega) (by have := kp_le k (al.size - sy); omega)) _ _ _))) ?_
    refine steps_cons (st_run 23 _ rfl rfl hLo rfl rfl (fun _ _ _ _ => rfl) (fun b G w hb ho => exec_slice rfl (ev_on hLo 4 rfl HS3.1 rfl (hb 4 (by rfl))) rfl (congrArg some (ev_on hLo 22 rfl HS3.1 rfl (hb 22 (by rfl)))) rfl (rs_hi Try.underlying9 ((by have := kp_le k (al.size - sy); omega)) _))) ?_
    refine steps_cons (st_run 24 _ rfl rfl hLo rfl rfl (fun _ _ _ _ => rfl) (fun b G w hb ho => exec_nil rfl (ev_on hLo 0 rfl HS3.1 rfl (hb 0 (by rfl))))) ?_
    refine steps_cons (st_run 25 _ rfl rfl hLo rfl rfl (fun _ _ _ _ => rfl) (fun b G w hb ho => exec_field rfl (ev_on hLo 24 rfl HS3.1 rfl (hb 24 (by rfl))) (by kernel_rfl))) ?_
    refine steps_cons (st_put 0 _ rfl rfl rfl rfl (fun _ _ _ _ => rfl) rfl rfl rfl (by rfl) (fun b G w hb ho hr => exec_put1 hr (Nat.le_of_ble_eq_true rfl) (by kernel_rfl) rfl (ev_on hLo 25 rfl HS3.1 rfl (hb 25 (by rfl))) (ev_on hLo 23 rfl HS3.1 rfl (hb 23 (by rfl))))) ?_
    exact steps_nil
  clear hLo
  intro G a4 w4 hS hH
  have HS4 : Sl a4 52 [(0, .pointer (some ⟨g, 0, none⟩)), (1, .int .i64 (k)), (11, .bool false)] := hS
  have HH4 : Held ⟨w, [g]⟩ w4 [⟨g, (), 6, upd (upd (upd (spC ⟨al, sy, false, acts, inn, keep⟩) 2 (.b (true))) 4 (.i .i64 (0))) 0 (.s ((al).extract 0 (sy + kp k (al.size - sy)))), 53⟩] := hH
  clear hS hH HS3 HH3
  refine then_ ?_
  have hLo : LOk [(0, 44, .val (.pointer (some ⟨g, 0, none⟩))), (1, 45, .val (.pointer (some ⟨g, 0, none⟩))), (2, 46, .val (.pointer (some ⟨g, 0, none⟩))), (3, 47, .val (.pointer (some ⟨g, 0, none⟩))), (4, 48, .val (.string ((al).extract 0 (sy + kp k (al.size - sy))))), (5, 49, .val (.int .i64 ((((al).extract 0 (sy + kp k (al.size - sy))).size : Int)))), (6, 50, .val (.pointer (some ⟨g, 0, none⟩))), (7, 51, .val (.pointer (some ⟨g, 1, none⟩)))] := lok (by rfl) (by rfl)
  refine plain_ (wE := ⟨w, [g]⟩) (sz := 52) (n := 9) [0, 1, 3, 7, 15, 31, 63, 127, 255] [(0, .val (.pointer (some ⟨g, 0, none⟩))), (1, .val (.int .i64 (k))), (11, .val (.bool false))] [(0, 44, .val (.pointer (some ⟨g, 0, none⟩))), (1, 45, .val (.pointer (some ⟨g, 0, none⟩))), (2, 46, .val (.pointer (some ⟨g, 0, none⟩))), (3, 47, .val (.pointer (some ⟨g, 0, none⟩))), (4, 48, .val (.string ((al).extract 0 (sy + kp k (al.size - sy))))), (5, 49, .val (.int .i64 ((((al).extract 0 (sy + kp k (al.size - sy))).size : Int)))), (6, 50, .val (.pointer (some ⟨g, 0, none⟩))), (7, 51, .val (.pointer (some ⟨g, 1, none⟩)))] [⟨g, none, some 8, (), 6, upd (upd (upd (spC ⟨al, sy, false, acts, inn, keep⟩) 2 (.b (true))) 4 (.i .i64 (0))) 0 (.s ((al).extract 0 (sy + kp k (al.size - sy)))), upd (upd (upd (upd (spC ⟨al, sy, false, acts, inn, keep⟩) 2 (.b (true))) 4 (.i .i64 (0))) 0 (.s ((al).extract 0 (sy + kp k (al.size - sy))))) 1 (.i .i64 ((((al).extract 0 (sy + kp k (al.size - sy))).size : Int))), 53⟩] rfl (by rfl) HH4 rfl rfl hLo rfl HS4 (slS 0 rfl rfl (slS 1 rfl rfl (slS 2 rfl rfl (trivial)))) ?_ ?_
  · show ∀ i ∈ [0, 1, 2, 3, 4, 5, 6, 7, 8], _
    refine steps_cons (st_run 0 _ rfl rfl hLo rfl rfl (fun _ _ _ _ => rfl) (fun b G w hb ho => exec_move (.inl rfl) (ev_off rfl (HS4.get 0 rfl)))) ?_
    refine steps_cons (st_run 1 _ rfl rfl hLo rfl rfl (fun _ _ _ _ => rfl) (fun b G w hb ho => exec_move (.inl rfl) (ev_off rfl (HS4.get 0 rfl)))) ?_
    refine steps_cons (st_run 2 _ rfl rfl hLo rfl rfl (fun _ _ _ _ => rfl) (fun b G w hb ho => exec_nil rfl (ev_on hLo 1 rfl HS4.1 rfl (hb 1 (by rfl))))) ?_
    refine steps_cons (st_run 3 _ rfl rfl hLo rfl rfl (fun _ _ _ _ => rfl) (fun b G w hb ho => exec_field rfl (ev_on hLo 2 rfl HS4.1 rfl (hb 2 (by rfl))) (by kernel_rfl))) ?_
    refine steps_cons (st_read 4 0 _ _ rfl rfl rfl hLo rfl rfl (fun _ _ _ _ => rfl) (by rfl) (by rfl) (fun b G w hb ho hr => exec_cell hr (Nat.le_of_ble_eq_true rfl) Try.underlying9 rfl rfl (ev_on hLo 3 rfl HS4.1 rfl (hb 3 (by rfl))))) ?_
    refine steps_cons (st_run 5 _ rfl rfl hLo rfl rfl (fun _ _ _ _ => rfl) (fun b G w hb ho => exec_lenS Try.underlying9 rfl (ev_on hLo 4 rfl HS4.1 rfl (hb 4 (by rfl))))) ?_
    refine steps_cons (st_run 6 _ rfl rfl hLo rfl rfl (fun _ _ _ _ => rfl) (fun b G w hb ho => exec_nil rfl (ev_on hLo 0 rfl HS4.1 rfl (hb 0 (by rfl))))) ?_
    refine steps_cons (st_run 7 _ rfl rfl hLo rfl rfl (fun _ _ _ _ => rfl) (fun b G w hb ho => exec_field rfl (ev_on hLo 6 rfl HS4.1 rfl (hb 6 (by rfl))) (by kernel_rfl))) ?_
    refine steps_cons (st_put 0 _ rfl rfl rfl rfl (fun _ _ _ _ => rfl) rfl rfl rfl (by rfl) (fun b G w hb ho hr => exec_put1 hr (Nat.le_of_ble_eq_true rfl) (by kernel_rfl) rfl (ev_on hLo 7 rfl HS4.1 rfl (hb 7 (by rfl))) (ev_on hLo 5 rfl HS4.1 rfl (hb 5 (by rfl))))) ?_
    exact steps_nil
  clear hLo
  intro G a5 w5 hS hH
  have HS5 : Sl a5 52 [(0, .pointer (some ⟨g, 0, none⟩)), (1, .int .i64 (k)), (11, .bool false)] := hS
  have HH5 : Held ⟨w, [g]⟩ w5 [⟨g, (), 6, upd (upd (upd (upd (spC ⟨al, sy, false, acts, inn, keep⟩) 2 (.b (true))) 4 (.i .i64 (0))) 0 (.s ((al).extract 0 (sy + kp k (al.size - sy))))) 1 (.i .i64 ((((al).extract 0 (sy + kp k (al.size - sy))).size : Int))), 53⟩] := hH
  clear hS hH HS4 HH4
  exact b_fall rfl HS5.2.1 ⟨rfl, Row.norm (HH5.row 0 rfl) (six ⟨rfl, congrArg (fun n : Nat => SC.i .i64 (n : Int)) (ex_size (by have := kp_le k (al.size - sy); omega)), rfl, rfl, rfl, rfl⟩), HH5.1⟩
theorem off_off {w : World} {g : Nat} {al : ByteArray} {sy : Nat} {acts inn : Nat} {keep : Int} {k : Int} (hr : Row w g () 6 (spC ⟨al, sy, true, acts, inn, keep⟩) 53) : Calls Try.prog 18 #[.pointer (some ⟨g, 0, none⟩), .int .i64 (k)] w fun e w' => e = .returned (.tuple #[]) ∧ Row w' g () 6 (spC ⟨al, sy, true, acts, inn, keep⟩) 53 ∧ Fr ⟨w, [g]⟩ w' := by
  refine enter_ 52 Try.func18 rfl rfl (fun a0 hS => ?_)
  have HS0 : Sl a0 52 [(0, .pointer (some ⟨g, 0, none⟩)), (1, .int .i64 (k))] := hS
  have HH0 : Held ⟨w, [g]⟩ w [⟨g, (), 6, spC ⟨al, sy, true, acts, inn, keep⟩, 53⟩] := Held.one hr
  clear hS
  refine wp_seq ?_
  refine wp_seq ?_
  have hLo : LOk [(0, 4, .val (.pointer (some ⟨g, 0, none⟩))), (1, 5, .val (.bool false)), (2, 6, .val (.bool false)), (3, 7, .val (.pointer (some ⟨g, 0, none⟩))), (4, 8, .val (.pointer (some ⟨g, 0, none⟩))), (5, 9, .val (.pointer (some ⟨g, 2, none⟩))), (6, 10, .val (.bool true)), (7, 11, .val (.bool true))] := lok (by rfl) (by rfl)
  refine plain_ (wE := ⟨w, [g]⟩) (sz := 52) (n := 8) [0, 1, 3, 7, 15, 31, 63, 127] [(0, .val (.pointer (some ⟨g, 0, none⟩))), (1, .val (.int .i64 (k))), (11, .val (.bool true))] [(0, 4, .val (.pointer (some ⟨g, 0, none⟩))), (1, 5, .val (.bool false)), (2, 6, .val (.bool false)), (3, 7, .val (.pointer (some ⟨g, 0, none⟩))), (4, 8, .val (.pointer (some ⟨g, 0, none⟩))), (5, 9, .val (.pointer (some ⟨g, 2, none⟩))), (6, 10, .val (.bool true)), (7, 11, .val (.bool true))] [⟨g, none, none, (), 6, spC ⟨al, sy, true, acts, inn, keep⟩, spC ⟨al, sy, true, acts, inn, keep⟩, 53⟩] rfl (by rfl) HH0 rfl rfl hLo rfl HS0 (slS 0 rfl rfl (slS 1 rfl rfl (slL 7 (d := 7) rfl (trivial)))) ?_ ?_
  · show ∀ i ∈ [0, 1, 2, 3, 4, 5, 6, 7], _
    refine steps_cons (st_run 0 _ rfl rfl hLo rfl rfl (fun _ _ _ _ => rfl) (fun b G w hb ho => exec_move (.inl rfl) (ev_off rfl (HS0.get 0 rfl)))) ?_
    refine steps_cons (st_run 1 _ rfl rfl hLo rfl rfl (fun _ _ _ _ => rfl) (fun b G w hb ho => exec_bin rfl (ev_on hLo 0 rfl HS0.1 rfl (hb 0 (by rfl))) (rfl) (rp_eql ⟨_, Try.underlying23⟩ rfl _ _ _))) ?_
    refine steps_cons (st_run 2 _ rfl rfl hLo rfl rfl (fun _ _ _ _ => rfl) (fun b G w hb ho => exec_move (.inl rfl) (ev_on hLo 1 rfl HS0.1 rfl (hb 1 (by rfl))))) ?_
    refine steps_cons (st_run 3 _ rfl rfl hLo rfl rfl (fun b G hb ho => wanted_is rfl rfl rfl HS0.1 rfl (ev_on hLo 2 rfl HS0.1 rfl (hb 2 (by rfl))) rfl) (fun b G w hb ho => exec_move (.inl rfl) (ev_off rfl (HS0.get 0 rfl)))) ?_
    refine steps_cons (st_run 4 _ rfl rfl hLo rfl rfl (fun b G hb ho => wanted_is rfl rfl rfl HS0.1 rfl (ev_on hLo 2 rfl HS0.1 rfl (hb 2 (by rfl))) rfl) (fun b G w hb ho => exec_nil rfl (ev_on hLo 3 rfl HS0.1 rfl (hb 3 (by rfl))))) ?_
    refine steps_cons (st_run 5 _ rfl rfl hLo rfl rfl (fun b G hb ho => wanted_is rfl rfl rfl HS0.1 rfl (ev_on hLo 2 rfl HS0.1 rfl (hb 2 (by rfl))) rfl) (fun b G w hb ho => exec_field rfl (ev_on hLo 4 rfl HS0.1 rfl (hb 4 (by rfl))) (by kernel_rfl))) ?_
    refine steps_cons (st_read 6 0 _ _ rfl rfl rfl hLo rfl rfl (fun b G hb ho => wanted_is rfl rfl rfl HS0.1 rfl (ev_on hLo 2 rfl HS0.1 rfl (hb 2 (by rfl))) rfl) (by rfl) (by rfl) (fun b G w hb ho hr => exec_cell hr (Nat.le_of_ble_eq_true rfl) Try.underlying4 rfl rfl (ev_on hLo 5 rfl HS0.1 rfl (hb 5 (by rfl))))) ?_
    refine steps_cons (st_run 7 _ rfl rfl hLo rfl rfl (fun _ _ _ _ => rfl) (fun b G w hb ho => exec_pick rfl (ev_on hLo 2 rfl HS0.1 rfl (hb 2 (by rfl))) (ev_on hLo 6 rfl HS0.1 rfl (hb 6 (by rfl))))) ?_
    exact steps_nil
  clear hLo
  intro G a1 w1 hS hH
  have HS1 : Sl a1 52 [(0, .pointer (some ⟨g, 0, none⟩)), (1, .int .i64 (k)), (11, .bool true)] := hS
  have HH1 : Held ⟨w, [g]⟩ w1 [⟨g, (), 6, spC ⟨al, sy, true, acts, inn, keep⟩, 53⟩] := hH
  clear hS hH HS0 HH0
  refine then_ ?_
  refine wp_cond_true (HS1.get 2 rfl) ?_
  refine wp_ret ?_
  repeat (first | refine then_ret ?_ | refine inBlock_ret' ?_)
  exact b_none rfl HS1.2.1 ⟨rfl, Row.norm (HH1.row 0 rfl) (six ⟨rfl, rfl, rfl, rfl, rfl, rfl⟩), HH1.1⟩
theorem on_calls {w : World} {g : Nat} {al : ByteArray} {sy : Nat} {acts inn : Nat} {keep : Int} {off : Bool} (hr : Row w g () 6 (spC ⟨al, sy, off, acts, inn, keep⟩) 53) : Calls Try.prog 21 #[.pointer (some ⟨g, 0, none⟩)] w fun e w' => e = .returned (.tuple #[]) ∧ Row w' g () 6 (spC ⟨al, sy, false, acts, inn, keep⟩) 53 ∧ Fr ⟨w, [g]⟩ w' := by
  refine enter_ 7 Try.func21 rfl rfl (fun a0 hS => ?_)
  have HS0 : Sl a0 7 [(0, .pointer (some ⟨g, 0, none⟩))] := hS
  have HH0 : Held ⟨w, [g]⟩ w [⟨g, (), 6, spC ⟨al, sy, off, acts, inn, keep⟩, 53⟩] := Held.one hr
  clear hS
  refine wp_seq ?_
  have hLo : LOk [(0, 2, .val (.pointer (some ⟨g, 0, none⟩))), (1, 3, .val (.bool true))] := lok (by rfl) (by rfl)
  refine plain_ (wE := ⟨w, [g]⟩) (sz := 7) (n := 2) [0, 1] [(0, .val (.pointer (some ⟨g, 0, none⟩))), (3, .val (.bool true))] [(0, 2, .val (.pointer (some ⟨g, 0, none⟩))), (1, 3, .val (.bool true))] [⟨g, none, none, (), 6, spC ⟨al, sy, off, acts, inn, keep⟩, spC ⟨al, sy, off, acts, inn, keep⟩, 53⟩] rfl (by rfl) HH0 rfl rfl hLo rfl HS0 (slS 0 rfl rfl (slL 1 (d := 1) rfl (trivial))) ?_ ?_
  · show ∀ i ∈ [0, 1], _
    refine steps_cons (st_run 0 _ rfl rfl hLo rfl rfl (fun _ _ _ _ => rfl) (fun b G w hb ho => exec_move (.inl rfl) (ev_off rfl (HS0.get 0 rfl)))) ?_
    refine steps_cons (st_run 1 _ rfl rfl hLo rfl rfl (fun _ _ _ _ => rfl) (fun b G w hb ho => exec_bin rfl (ev_on hLo 0 rfl HS0.1 rfl (hb 0 (by rfl))) (rfl) (rp_neq ⟨_, Try.underlying23⟩ rfl _ _ _))) ?_
    exact steps_nil
  clear hLo
  intro G a1 w1 hS hH
  have HS1 : Sl a1 7 [(0, .pointer (some ⟨g, 0, none⟩)), (3, .bool true)] := hS
  have HH1 : Held ⟨w, [g]⟩ w1 [⟨g, (), 6, spC ⟨al, sy, off, acts, inn, keep⟩, 53⟩] := hH
  clear hS hH HS0 HH0
  refine then_ ?_
  refine wp_cond_true (HS1.get 1 rfl) ?_
  have hLo : LOk [(0, 4, .val (.pointer (some ⟨g, 0, none⟩))), (1, 5, .val (.pointer (some ⟨g, 0, none⟩))), (2, 6, .val (.pointer (some ⟨g, 2, none⟩)))] := lok (by rfl) (by rfl)
  refine plain_ (wE := ⟨w, [g]⟩) (sz := 7) (n := 4) [0, 1, 3, 7] [(0, .val (.pointer (some ⟨g, 0, none⟩))), (3, .val (.bool true))] [(0, 4, .val (.pointer (some ⟨g, 0, none⟩))), (1, 5, .val (.pointer (some ⟨g, 0, none⟩))), (2, 6, .val (.pointer (some ⟨g, 2, none⟩)))] [⟨g, none, some 3, (), 6, spC ⟨al, sy, off, acts, inn, keep⟩, upd (spC ⟨al, sy, off, acts, inn, keep⟩) 2 (.b (false)), 53⟩] rfl (by rfl) HH1 rfl rfl hLo rfl HS1 (slS 0 rfl rfl (slS 1 rfl rfl (trivial))) ?_ ?_
  · show ∀ i ∈ [0, 1, 2, 3], _
    refine steps_cons (st_run 0 _ rfl rfl hLo rfl rfl (fun _ _ _ _ => rfl) (fun b G w hb ho => exec_move (.inl rfl) (ev_off rfl (HS1.get 0 rfl)))) ?_
    refine steps_cons (st_run 1 _ rfl rfl hLo rfl rfl (fun _ _ _ _ => rfl) (fun b G w hb ho => exec_nil rfl (ev_on hLo 0 rfl HS1.1 rfl (hb 0 (by rfl))))) ?_
    refine steps_cons (st_run 2 _ rfl rfl hLo rfl rfl (fun _ _ _ _ => rfl) (fun b G w hb ho => exec_field rfl (ev_on hLo 1 rfl HS1.1 rfl (hb 1 (by rfl))) (by kernel_rfl))) ?_
    refine steps_cons (st_put 0 _ rfl rfl rfl rfl (fun _ _ _ _ => rfl) rfl rfl rfl (by rfl) (fun b G w hb ho hr => exec_put1 hr (Nat.le_of_ble_eq_true rfl) (by kernel_rfl) rfl (ev_on hLo 2 rfl HS1.1 rfl (hb 2 (by rfl))) (rfl))) ?_
    exact steps_nil
  clear hLo
  intro G a2 w2 hS hH
  have HS2 : Sl a2 7 [(0, .pointer (some ⟨g, 0, none⟩)), (3, .bool true)] := hS
  have HH2 : Held ⟨w, [g]⟩ w2 [⟨g, (), 6, upd (spC ⟨al, sy, off, acts, inn, keep⟩) 2 (.b (false)), 53⟩] := hH
  clear hS hH HS1 HH1
  exact b_fall rfl HS2.2.1 ⟨rfl, Row.norm (HH2.row 0 rfl) (six ⟨rfl, rfl, rfl, rfl, rfl, rfl⟩), HH2.1⟩
theorem arm_calls {w : World} {g : Nat} {al : ByteArray} {sy : Nat} {acts inn : Nat} {keep : Int} {off : Bool} {n k : Int} (hr : Row w g () 6 (spC ⟨al, sy, off, acts, inn, keep⟩) 53) : Calls Try.prog 20 #[.pointer (some ⟨g, 0, none⟩), .int .i64 (n), .int .i64 (k)] w fun e w' => e = .returned (.tuple #[]) ∧ Row w' g () 6 (spC ⟨al, sy, off, acts, n.toNat, k⟩) 53 ∧ Fr ⟨w, [g]⟩ w' := by
  refine enter_ 17 Try.func20 rfl rfl (fun a0 hS => ?_)
  have HS0 : Sl a0 17 [(0, .pointer (some ⟨g, 0, none⟩)), (1, .int .i64 (n)), (2, .int .i64 (k))] := hS
  have HH0 : Held ⟨w, [g]⟩ w [⟨g, (), 6, spC ⟨al, sy, off, acts, inn, keep⟩, 53⟩] := Held.one hr
  clear hS
  refine wp_seq ?_
  have hLo : LOk [(0, 6, .val (.pointer (some ⟨g, 0, none⟩))), (1, 7, .val (.bool true))] := lok (by rfl) (by rfl)
  refine plain_ (wE := ⟨w, [g]⟩) (sz := 17) (n := 2) [0, 1] [(0, .val (.pointer (some ⟨g, 0, none⟩))), (1, .val (.int .i64 (n))), (2, .val (.int .i64 (k))), (7, .val (.bool true))] [(0, 6, .val (.pointer (some ⟨g, 0, none⟩))), (1, 7, .val (.bool true))] [⟨g, none, none, (), 6, spC ⟨al, sy, off, acts, inn, keep⟩, spC ⟨al, sy, off, acts, inn, keep⟩, 53⟩] rfl (by rfl) HH0 rfl rfl hLo rfl HS0 (slS 0 rfl rfl (slS 1 rfl rfl (slS 2 rfl rfl (slL 1 (d := 1) rfl (trivial))))) ?_ ?_
  · show ∀ i ∈ [0, 1], _
    refine steps_cons (st_run 0 _ rfl rfl hLo rfl rfl (fun _ _ _ _ => rfl) (fun b G w hb ho => exec_move (.inl rfl) (ev_off rfl (HS0.get 0 rfl)))) ?_
    refine steps_cons (st_run 1 _ rfl rfl hLo rfl rfl (fun _ _ _ _ => rfl) (fun b G w hb ho => exec_bin rfl (ev_on hLo 0 rfl HS0.1 rfl (hb 0 (by rfl))) (rfl) (rp_neq ⟨_, Try.underlying23⟩ rfl _ _ _))) ?_
    exact steps_nil
  clear hLo
  intro G a1 w1 hS hH
  have HS1 : Sl a1 17 [(0, .pointer (some ⟨g, 0, none⟩)), (1, .int .i64 (n)), (2, .int .i64 (k)), (7, .bool true)] := hS
  have HH1 : Held ⟨w, [g]⟩ w1 [⟨g, (), 6, spC ⟨al, sy, off, acts, inn, keep⟩, 53⟩] := hH
  clear hS hH HS0 HH0
  refine then_ ?_
  refine wp_cond_true (HS1.get 3 rfl) ?_
  refine whole_ ?_
  have hLo : LOk [(0, 8, .val (.pointer (some ⟨g, 0, none⟩))), (1, 9, .val (.pointer (some ⟨g, 0, none⟩))), (2, 10, .val (.int .i64 (n))), (3, 11, .val (.int .i64 (((n.toNat : Nat) : Int)))), (4, 12, .val (.int .i64 (k))), (5, 13, .val (.pointer (some ⟨g, 0, none⟩))), (6, 14, .val (.pointer (some ⟨g, 4, none⟩)))] := lok (by rfl) (by rfl)
  refine part_ (wE := ⟨w, [g]⟩) (sz := 17) (n := 11) 0 8 [0, 1, 3, 7, 15, 31, 63, 127, 255, 511, 1023] [(0, .val (.pointer (some ⟨g, 0, none⟩))), (1, .val (.int .i64 (n))), (2, .val (.int .i64 (k))), (7, .val (.bool true)), (9, .val (.pointer (some ⟨g, 0, none⟩))), (12, .val (.int .i64 (k)))] [(0, 8, .val (.pointer (some ⟨g, 0, none⟩))), (1, 9, .val (.pointer (some ⟨g, 0, none⟩))), (2, 10, .val (.int .i64 (n))), (3, 11, .val (.int .i64 (((n.toNat : Nat) : Int)))), (4, 12, .val (.int .i64 (k))), (5, 13, .val (.pointer (some ⟨g, 0, none⟩))), (6, 14, .val (.pointer (some ⟨g, 4, none⟩)))] [⟨g, none, some 7, (), 6, spC ⟨al, sy, off, acts, inn, keep⟩, upd (spC ⟨al, sy, off, acts, inn, keep⟩) 4 (.i .i64 (((n.toNat : Nat) : Int))), 53⟩] rfl rfl (by rfl) HH1 rfl rfl hLo rfl HS1 (slS 0 rfl rfl (slS 1 rfl rfl (slS 2 rfl rfl (slS 3 rfl rfl (slL 1 (d := 1) rfl (slL 4 (d := 4) rfl (trivial))))))) ?_ ?_
  · show ∀ i ∈ [0, 1, 2, 3, 4, 5, 6, 7], _
    refine steps_cons (st_run 0 _ rfl rfl hLo rfl rfl (fun _ _ _ _ => rfl) (fun b G w hb ho => exec_move (.inl rfl) (ev_off rfl (HS1.get 0 rfl)))) ?_
    refine steps_cons (st_run 1 _ rfl rfl hLo rfl rfl (fun _ _ _ _ => rfl) (fun b G w hb ho => exec_move (.inl rfl) (ev_off rfl (HS1.get 0 rfl)))) ?_
    refine steps_cons (st_run 2 _ rfl rfl hLo rfl rfl (fun _ _ _ _ => rfl) (fun b G w hb ho => exec_move (.inl rfl) (ev_off rfl (HS1.get 1 rfl)))) ?_
    refine steps_cons (st_run 3 _ rfl rfl hLo rfl rfl (fun _ _ _ _ => rfl) (fun b G w hb ho => exec_max (mx_nat _) rfl (ev_on hLo 2 rfl HS1.1 rfl (hb 2 (by rfl))) (rfl))) ?_
    refine steps_cons (st_run 4 _ rfl rfl hLo rfl rfl (fun _ _ _ _ => rfl) (fun b G w hb ho => exec_move (.inl rfl) (ev_off rfl (HS1.get 2 rfl)))) ?_
    refine steps_cons (st_run 5 _ rfl rfl hLo rfl rfl (fun _ _ _ _ => rfl) (fun b G w hb ho => exec_nil rfl (ev_on hLo 0 rfl HS1.1 rfl (hb 0 (by rfl))))) ?_
    refine steps_cons (st_run 6 _ rfl rfl hLo rfl rfl (fun _ _ _ _ => rfl) (fun b G w hb ho => exec_field rfl (ev_on hLo 5 rfl HS1.1 rfl (hb 5 (by rfl))) (by kernel_rfl))) ?_
    refine steps_cons (st_put 0 _ rfl rfl rfl rfl (fun _ _ _ _ => rfl) rfl rfl rfl (by rfl) (fun b G w hb ho hr => exec_put1 hr (Nat.le_of_ble_eq_true rfl) (by kernel_rfl) rfl (ev_on hLo 6 rfl HS1.1 rfl (hb 6 (by rfl))) (ev_on hLo 3 rfl HS1.1 rfl (hb 3 (by rfl))))) ?_
    exact steps_nil
  clear hLo
  intro G a2 w2 hS hH
  have HS2 : Sl a2 17 [(0, .pointer (some ⟨g, 0, none⟩)), (1, .int .i64 (n)), (2, .int .i64 (k)), (7, .bool true), (9, .pointer (some ⟨g, 0, none⟩)), (12, .int .i64 (k))] := hS
  have HH2 : Held ⟨w, [g]⟩ w2 [⟨g, (), 6, upd (spC ⟨al, sy, off, acts, inn, keep⟩) 4 (.i .i64 (((n.toNat : Nat) : Int))), 53⟩] := hH
  clear hS hH HS1 HH1
  have hLo : LOk [(8, 15, .val (.pointer (some ⟨g, 0, none⟩))), (9, 16, .val (.pointer (some ⟨g, 5, none⟩)))] := lok (by rfl) (by rfl)
  refine part_ (wE := ⟨w, [g]⟩) (sz := 17) (n := 11) 8 11 [0, 1, 3, 7, 15, 31, 63, 127, 255, 511, 1023] [(0, .val (.pointer (some ⟨g, 0, none⟩))), (1, .val (.int .i64 (n))), (2, .val (.int .i64 (k))), (7, .val (.bool true))] [(8, 15, .val (.pointer (some ⟨g, 0, none⟩))), (9, 16, .val (.pointer (some ⟨g, 5, none⟩)))] [⟨g, none, some 10, (), 6, upd (spC ⟨al, sy, off, acts, inn, keep⟩) 4 (.i .i64 (((n.toNat : Nat) : Int))), upd (upd (spC ⟨al, sy, off, acts, inn, keep⟩) 4 (.i .i64 (((n.toNat : Nat) : Int)))) 5 (.i .i64 (k)), 53⟩] rfl rfl (by rfl) HH2 rfl rfl hLo rfl HS2 (slS 0 rfl rfl (slS 1 rfl rfl (slS 2 rfl rfl (slS 3 rfl rfl (trivial))))) ?_ ?_
  · show ∀ i ∈ [8, 9, 10], _
    refine steps_cons (st_run 0 _ rfl rfl hLo rfl rfl (fun _ _ _ _ => rfl) (fun b G w hb ho => exec_nil rfl (ev_off rfl (HS2.get 4 rfl)))) ?_
    refine steps_cons (st_run 1 _ rfl rfl hLo rfl rfl (fun _ _ _ _ => rfl) (fun b G w hb ho => exec_field rfl (ev_on hLo 0 rfl HS2.1 rfl (hb 8 (by rfl))) (by kernel_rfl))) ?_
    refine steps_cons (st_put 0 _ rfl rfl rfl rfl (fun _ _ _ _ => rfl) rfl rfl rfl (by rfl) (fun b G w hb ho hr => exec_put1 hr (Nat.le_of_ble_eq_true rfl) (by kernel_rfl) rfl (ev_on hLo 1 rfl HS2.1 rfl (hb 9 (by rfl))) (ev_off rfl (HS2.get 5 rfl)))) ?_
    exact steps_nil
  clear hLo
  intro G a3 w3 hS hH
  have HS3 : Sl a3 17 [(0, .pointer (some ⟨g, 0, none⟩)), (1, .int .i64 (n)), (2, .int .i64 (k)), (7, .bool true)] := hS
  have HH3 : Held ⟨w, [g]⟩ w3 [⟨g, (), 6, upd (upd (spC ⟨al, sy, off, acts, inn, keep⟩) 4 (.i .i64 (((n.toNat : Nat) : Int)))) 5 (.i .i64 (k)), 53⟩] := hH
  clear hS hH HS2 HH2
  refine end_ rfl ?_
  exact b_fall rfl HS3.2.1 ⟨rfl, Row.norm (HH3.row 0 rfl) (six ⟨rfl, rfl, rfl, rfl, rfl, rfl⟩), HH3.1⟩
theorem acts_calls {w : World} {g : Nat} {al : ByteArray} {sy : Nat} {acts inn : Nat} {keep : Int} {off : Bool} (hr : Row w g () 6 (spC ⟨al, sy, off, acts, inn, keep⟩) 53) : Calls Try.prog 14 #[.pointer (some ⟨g, 0, none⟩)] w fun e w' => e = .returned (.int .i64 ((acts : Nat) : Int)) ∧ Below w.heap.size w w' := by
  refine enter_ 9 Try.func14 rfl rfl (fun a0 hS => ?_)
  have HS0 : Sl a0 9 [(0, .pointer (some ((⟨g, 0, none⟩ : Addr))))] := hS
  have HH0 : Held ⟨w, []⟩ w [] := Held.first w []
  clear hS
  refine wp_seq ?_
  have hLo : LOk [(0, 2, .val (.int .i64 (0)))] := lok (by rfl) (by rfl)
  refine plain_ (wE := ⟨w, []⟩) (sz := 9) (n := 1) [0] [(0, .val (.pointer (some ((⟨g, 0, none⟩ : Addr))))), (2, .val (.int .i64 (0)))] [(0, 2, .val (.int .i64 (0)))] [] rfl (by rfl) HH0 rfl rfl hLo rfl HS0 (slS 0 rfl rfl (slL 0 (d := 0) rfl (trivial))) ?_ ?_
  · show ∀ i ∈ [0], _
    refine steps_cons (st_run 0 _ rfl rfl hLo rfl rfl (fun _ _ _ _ => rfl) (fun b G w hb ho => exec_move (.inr rfl) (rfl))) ?_
    exact steps_nil
  clear hLo
  intro G a1 w1 hS hH
  have HS1 : Sl a1 9 [(0, .pointer (some ((⟨g, 0, none⟩ : Addr)))), (2, .int .i64 (0))] := hS
  have HH1 : Held ⟨w, []⟩ w1 [] := hH
  clear hS hH HS0 HH0
  refine then_ ?_
  refine wp_seq ?_
  refine wp_seq ?_
  have hLo : LOk [(0, 3, .val (.pointer (some ((⟨g, 0, none⟩ : Addr))))), (1, 4, .val (.bool false))] := lok (by rfl) (by rfl)
  refine plain_ (wE := ⟨w, []⟩) (sz := 9) (n := 2) [0, 1] [(0, .val (.pointer (some ((⟨g, 0, none⟩ : Addr))))), (2, .val (.int .i64 (0))), (4, .val (.bool false))] [(0, 3, .val (.pointer (some ((⟨g, 0, none⟩ : Addr))))), (1, 4, .val (.bool false))] [] rfl (by rfl) HH1 rfl rfl hLo rfl HS1 (slS 0 rfl rfl (slS 1 rfl rfl (slL 1 (d := 1) rfl (trivial)))) ?_ ?_
  · show ∀ i ∈ [0, 1], _
    refine steps_cons (st_run 0 _ rfl rfl hLo rfl rfl (fun _ _ _ _ => rfl) (fun b G w hb ho => exec_move (.inl rfl) (ev_off rfl (HS1.get 0 rfl)))) ?_
    refine steps_cons (st_run 1 _ rfl rfl hLo rfl rfl (fun _ _ _ _ => rfl) (fun b G w hb ho => exec_bin rfl (ev_on hLo 0 rfl HS1.1 rfl (hb 0 (by rfl))) (rfl) (rp_eql ⟨_, Try.underlying23⟩ rfl _ _ _))) ?_
    exact steps_nil
  clear hLo
  intro G a2 w2 hS hH
  have HS2 : Sl a2 9 [(0, .pointer (some ((⟨g, 0, none⟩ : Addr)))), (2, .int .i64 (0)), (4, .bool false)] := hS
  have HH2 : Held ⟨w, []⟩ w2 [] := hH
  clear hS hH HS1 HH1
  refine then_ ?_
  refine wp_cond_false (HS2.get 2 rfl) ?_
  refine wp_skip ?_
  refine then_ ?_
  refine wp_seq ?_
  have hLo : LOk [(0, 5, .val (.pointer (some ((⟨g, 0, none⟩ : Addr))))), (1, 6, .val (.pointer (some ((⟨g, 0, none⟩ : Addr))))), (2, 7, .val (.pointer (some (((⟨g, 0, none⟩ : Addr)).add 3)))), (3, 8, .val (.int .i64 (((acts : Nat) : Int)))), (4, 2, .val (.int .i64 (((acts : Nat) : Int))))] := lok (by rfl) (by rfl)
  refine plain_ (wE := ⟨w, []⟩) (sz := 9) (n := 5) [0, 1, 3, 7, 15] [(0, .val (.pointer (some ((⟨g, 0, none⟩ : Addr))))), (4, .val (.bool false)), (2, .val (.int .i64 (((acts : Nat) : Int))))] [(0, 5, .val (.pointer (some ((⟨g, 0, none⟩ : Addr))))), (1, 6, .val (.pointer (some ((⟨g, 0, none⟩ : Addr))))), (2, 7, .val (.pointer (some (((⟨g, 0, none⟩ : Addr)).add 3)))), (3, 8, .val (.int .i64 (((acts : Nat) : Int)))), (4, 2, .val (.int .i64 (((acts : Nat) : Int))))] [] rfl (by rfl) HH2 rfl rfl hLo rfl HS2 (slS 0 rfl rfl (slS 2 rfl rfl (slL 4 (d := 4) rfl (trivial)))) ?_ ?_
  · show ∀ i ∈ [0, 1, 2, 3, 4], _
    refine steps_cons (st_run 0 _ rfl rfl hLo rfl rfl (fun _ _ _ _ => rfl) (fun b G w hb ho => exec_move (.inl rfl) (ev_off rfl (HS2.get 0 rfl)))) ?_
    refine steps_cons (st_run 1 _ rfl rfl hLo rfl rfl (fun _ _ _ _ => rfl) (fun b G w hb ho => exec_nil rfl (ev_on hLo 0 rfl HS2.1 rfl (hb 0 (by rfl))))) ?_
    refine steps_cons (st_run 2 _ rfl rfl hLo rfl rfl (fun _ _ _ _ => rfl) (fun b G w hb ho => exec_field rfl (ev_on hLo 1 rfl HS2.1 rfl (hb 1 (by rfl))) (by kernel_rfl))) ?_
    refine steps_cons (st_at1 3 (((⟨g, 0, none⟩ : Addr)).add 3) _ rfl rfl rfl (fun _ _ _ _ => rfl) hLo rfl rfl Try.underlying3 rfl (rowX hr 3 (Nat.le_of_ble_eq_true rfl)) (fun b G hb ho => ev_on hLo 2 rfl HS2.1 rfl (hb 2 (by rfl)))) ?_
    refine steps_cons (st_run 4 _ rfl rfl hLo rfl rfl (fun _ _ _ _ => rfl) (fun b G w hb ho => exec_move (.inr rfl) (ev_on hLo 3 rfl HS2.1 rfl (hb 3 (by rfl))))) ?_
    exact steps_nil
  clear hLo
  intro G a3 w3 hS hH
  have HS3 : Sl a3 9 [(0, .pointer (some ((⟨g, 0, none⟩ : Addr)))), (4, .bool false), (2, .int .i64 (((acts : Nat) : Int)))] := hS
  have HH3 : Held ⟨w, []⟩ w3 [] := hH
  clear hS hH HS2 HH2
  refine then_ ?_
  refine wp_ret ?_
  repeat (first | refine then_ret ?_ | refine inBlock_ret' ?_)
  exact b_tmp rfl HS3.2.1 (HS3.get 2 rfl) ⟨rfl, HH3.1.below⟩
theorem bytes_calls {w : World} {g : Nat} {al : ByteArray} {sy : Nat} {acts inn : Nat} {keep : Int} {off : Bool} (hr : Row w g () 6 (spC ⟨al, sy, off, acts, inn, keep⟩) 53) : Calls Try.prog 13 #[.pointer (some ⟨g, 0, none⟩)] w fun e w' => e = .returned (.string al) ∧ Below w.heap.size w w' := by
  refine enter_ 9 Try.func13 rfl rfl (fun a0 hS => ?_)
  have HS0 : Sl a0 9 [(0, .pointer (some ((⟨g, 0, none⟩ : Addr))))] := hS
  have HH0 : Held ⟨w, []⟩ w [] := Held.first w []
  clear hS
  refine wp_seq ?_
  have hLo : LOk [(0, 2, .val (.string (ByteArray.empty)))] := lok (by rfl) (by rfl)
  refine plain_ (wE := ⟨w, []⟩) (sz := 9) (n := 1) [0] [(0, .val (.pointer (some ((⟨g, 0, none⟩ : Addr))))), (2, .val (.string (ByteArray.empty)))] [(0, 2, .val (.string (ByteArray.empty)))] [] rfl (by rfl) HH0 rfl rfl hLo rfl HS0 (slS 0 rfl rfl (slL 0 (d := 0) rfl (trivial))) ?_ ?_
  · show ∀ i ∈ [0], _
    refine steps_cons (st_run 0 _ rfl rfl hLo rfl rfl (fun _ _ _ _ => rfl) (fun b G w hb ho => exec_move (.inr rfl) (rfl))) ?_
    exact steps_nil
  clear hLo
  intro G a1 w1 hS hH
  have HS1 : Sl a1 9 [(0, .pointer (some ((⟨g, 0, none⟩ : Addr)))), (2, .string (ByteArray.empty))] := hS
  have HH1 : Held ⟨w, []⟩ w1 [] := hH
  clear hS hH HS0 HH0
  refine then_ ?_
  refine wp_seq ?_
  refine wp_seq ?_
  have hLo : LOk [(0, 3, .val (.pointer (some ((⟨g, 0, none⟩ : Addr))))), (1, 4, .val (.bool false))] := lok (by rfl) (by rfl)
  refine plain_ (wE := ⟨w, []⟩) (sz := 9) (n := 2) [0, 1] [(0, .val (.pointer (some ((⟨g, 0, none⟩ : Addr))))), (2, .val (.string (ByteArray.empty))), (4, .val (.bool false))] [(0, 3, .val (.pointer (some ((⟨g, 0, none⟩ : Addr))))), (1, 4, .val (.bool false))] [] rfl (by rfl) HH1 rfl rfl hLo rfl HS1 (slS 0 rfl rfl (slS 1 rfl rfl (slL 1 (d := 1) rfl (trivial)))) ?_ ?_
  · show ∀ i ∈ [0, 1], _
    refine steps_cons (st_run 0 _ rfl rfl hLo rfl rfl (fun _ _ _ _ => rfl) (fun b G w hb ho => exec_move (.inl rfl) (ev_off rfl (HS1.get 0 rfl)))) ?_
    refine steps_cons (st_run 1 _ rfl rfl hLo rfl rfl (fun _ _ _ _ => rfl) (fun b G w hb ho => exec_bin rfl (ev_on hLo 0 rfl HS1.1 rfl (hb 0 (by rfl))) (rfl) (rp_eql ⟨_, Try.underlying23⟩ rfl _ _ _))) ?_
    exact steps_nil
  clear hLo
  intro G a2 w2 hS hH
  have HS2 : Sl a2 9 [(0, .pointer (some ((⟨g, 0, none⟩ : Addr)))), (2, .string (ByteArray.empty)), (4, .bool false)] := hS
  have HH2 : Held ⟨w, []⟩ w2 [] := hH
  clear hS hH HS1 HH1
  refine then_ ?_
  refine wp_cond_false (HS2.get 2 rfl) ?_
  refine wp_skip ?_
  refine then_ ?_
  refine wp_seq ?_
  have hLo : LOk [(0, 5, .val (.pointer (some ((⟨g, 0, none⟩ : Addr))))), (1, 6, .val (.pointer (some ((⟨g, 0, none⟩ : Addr))))), (2, 7, .val (.pointer (some ((⟨g, 0, none⟩ : Addr))))), (3, 8, .val (.string (al))), (4, 2, .val (.string (al)))] := lok (by rfl) (by rfl)
  refine plain_ (wE := ⟨w, []⟩) (sz := 9) (n := 5) [0, 1, 3, 7, 15] [(0, .val (.pointer (some ((⟨g, 0, none⟩ : Addr))))), (4, .val (.bool false)), (2, .val (.string (al)))] [(0, 5, .val (.pointer (some ((⟨g, 0, none⟩ : Addr))))), (1, 6, .val (.pointer (some ((⟨g, 0, none⟩ : Addr))))), (2, 7, .val (.pointer (some ((⟨g, 0, none⟩ : Addr))))), (3, 8, .val (.string (al))), (4, 2, .val (.string (al)))] [] rfl (by rfl) HH2 rfl rfl hLo rfl HS2 (slS 0 rfl rfl (slS 2 rfl rfl (slL 4 (d := 4) rfl (trivial)))) ?_ ?_
  · show ∀ i ∈ [0, 1, 2, 3, 4], _
    refine steps_cons (st_run 0 _ rfl rfl hLo rfl rfl (fun _ _ _ _ => rfl) (fun b G w hb ho => exec_move (.inl rfl) (ev_off rfl (HS2.get 0 rfl)))) ?_
    refine steps_cons (st_run 1 _ rfl rfl hLo rfl rfl (fun _ _ _ _ => rfl) (fun b G w hb ho => exec_nil rfl (ev_on hLo 0 rfl HS2.1 rfl (hb 0 (by rfl))))) ?_
    refine steps_cons (st_run 2 _ rfl rfl hLo rfl rfl (fun _ _ _ _ => rfl) (fun b G w hb ho => exec_field rfl (ev_on hLo 1 rfl HS2.1 rfl (hb 1 (by rfl))) (by kernel_rfl))) ?_
    refine steps_cons (st_at1 3 ((⟨g, 0, none⟩ : Addr)) _ rfl rfl rfl (fun _ _ _ _ => rfl) hLo rfl rfl Try.underlying9 rfl (rowX hr 0 (Nat.le_of_ble_eq_true rfl)) (fun b G hb ho => ev_on hLo 2 rfl HS2.1 rfl (hb 2 (by rfl)))) ?_
    refine steps_cons (st_run 4 _ rfl rfl hLo rfl rfl (fun _ _ _ _ => rfl) (fun b G w hb ho => exec_move (.inr rfl) (ev_on hLo 3 rfl HS2.1 rfl (hb 3 (by rfl))))) ?_
    exact steps_nil
  clear hLo
  intro G a3 w3 hS hH
  have HS3 : Sl a3 9 [(0, .pointer (some ((⟨g, 0, none⟩ : Addr)))), (4, .bool false), (2, .string (al))] := hS
  have HH3 : Held ⟨w, []⟩ w3 [] := hH
  clear hS hH HS2 HH2
  refine then_ ?_
  refine wp_ret ?_
  repeat (first | refine then_ret ?_ | refine inBlock_ret' ?_)
  exact b_tmp rfl HS3.2.1 (HS3.get 2 rfl) ⟨rfl, HH3.1.below⟩
theorem ready_on {w : World} {g : Nat} {al : ByteArray} {sy : Nat} {acts inn : Nat} {keep : Int} (hr : Row w g () 6 (spC ⟨al, sy, false, acts, inn, keep⟩) 53) : Calls Try.prog 29 #[.pointer (some ⟨g, 0, none⟩)] w fun e w' => e = .returned (.int .i64 0) ∧ Below w.heap.size w w' := by
  refine enter_ 11 Try.func29 rfl rfl (fun a0 hS => ?_)
  have HS0 : Sl a0 11 [(0, .pointer (some ((⟨g, 0, none⟩ : Addr))))] := hS
  have HH0 : Held ⟨w, []⟩ w [] := Held.first w []
  clear hS
  refine wp_seq ?_
  have hLo : LOk [(0, 2, .val (.int .i64 (0)))] := lok (by rfl) (by rfl)
  refine plain_ (wE := ⟨w, []⟩) (sz := 11) (n := 1) [0] [(0, .val (.pointer (some ((⟨g, 0, none⟩ : Addr))))), (2, .val (.int .i64 (0)))] [(0, 2, .val (.int .i64 (0)))] [] rfl (by rfl) HH0 rfl rfl hLo rfl HS0 (slS 0 rfl rfl (slL 0 (d := 0) rfl (trivial))) ?_ ?_
  · show ∀ i ∈ [0], _
    refine steps_cons (st_run 0 _ rfl rfl hLo rfl rfl (fun _ _ _ _ => rfl) (fun b G w hb ho => exec_move (.inr rfl) (rfl))) ?_
    exact steps_nil
  clear hLo
  intro G a1 w1 hS hH
  have HS1 : Sl a1 11 [(0, .pointer (some ((⟨g, 0, none⟩ : Addr)))), (2, .int .i64 (0))] := hS
  have HH1 : Held ⟨w, []⟩ w1 [] := hH
  clear hS hH HS0 HH0
  refine then_ ?_
  refine wp_seq ?_
  refine wp_block ?_
  refine wp_seq ?_
  have hLo : LOk [(0, 4, .val (.pointer (some ((⟨g, 0, none⟩ : Addr))))), (1, 5, .val (.bool false)), (2, 3, .val (.bool false))] := lok (by rfl) (by rfl)
  refine plain_ (wE := ⟨w, []⟩) (sz := 11) (n := 3) [0, 1, 3] [(0, .val (.pointer (some ((⟨g, 0, none⟩ : Addr))))), (2, .val (.int .i64 (0))), (3, .val (.bool false))] [(0, 4, .val (.pointer (some ((⟨g, 0, none⟩ : Addr))))), (1, 5, .val (.bool false)), (2, 3, .val (.bool false))] [] rfl (by rfl) HH1 rfl rfl hLo rfl HS1 (slS 0 rfl rfl (slS 1 rfl rfl (slL 2 (d := 2) rfl (trivial)))) ?_ ?_
  · show ∀ i ∈ [0, 1, 2], _
    refine steps_cons (st_run 0 _ rfl rfl hLo rfl rfl (fun _ _ _ _ => rfl) (fun b G w hb ho => exec_move (.inl rfl) (ev_off rfl (HS1.get 0 rfl)))) ?_
    refine steps_cons (st_run 1 _ rfl rfl hLo rfl rfl (fun _ _ _ _ => rfl) (fun b G w hb ho => exec_bin rfl (ev_on hLo 0 rfl HS1.1 rfl (hb 0 (by rfl))) (rfl) (rp_eql ⟨_, Try.underlying23⟩ rfl _ _ _))) ?_
    refine steps_cons (st_run 2 _ rfl rfl hLo rfl rfl (fun _ _ _ _ => rfl) (fun b G w hb ho => exec_move (.inr rfl) (ev_on hLo 1 rfl HS1.1 rfl (hb 1 (by rfl))))) ?_
    exact steps_nil
  clear hLo
  intro G a2 w2 hS hH
  have HS2 : Sl a2 11 [(0, .pointer (some ((⟨g, 0, none⟩ : Addr)))), (2, .int .i64 (0)), (3, .bool false)] := hS
  have HH2 : Held ⟨w, []⟩ w2 [] := hH
  clear hS hH HS1 HH1
  refine then_ ?_
  refine wp_cond_false (HS2.get 2 rfl) ?_
  refine wp_seq ?_
  have hLo : LOk [(0, 7, .val (.pointer (some ((⟨g, 0, none⟩ : Addr))))), (1, 8, .val (.pointer (some ((⟨g, 0, none⟩ : Addr))))), (2, 9, .val (.pointer (some (((⟨g, 0, none⟩ : Addr)).add 2)))), (3, 10, .val (.bool false)), (4, 6, .val (.bool false))] := lok (by rfl) (by rfl)
  refine plain_ (wE := ⟨w, []⟩) (sz := 11) (n := 5) [0, 1, 3, 7, 15] [(0, .val (.pointer (some ((⟨g, 0, none⟩ : Addr))))), (2, .val (.int .i64 (0))), (3, .val (.bool false)), (6, .val (.bool false))] [(0, 7, .val (.pointer (some ((⟨g, 0, none⟩ : Addr))))), (1, 8, .val (.pointer (some ((⟨g, 0, none⟩ : Addr))))), (2, 9, .val (.pointer (some (((⟨g, 0, none⟩ : Addr)).add 2)))), (3, 10, .val (.bool false)), (4, 6, .val (.bool false))] [] rfl (by rfl) HH2 rfl rfl hLo rfl HS2 (slS 0 rfl rfl (slS 1 rfl rfl (slS 2 rfl rfl (slL 4 (d := 4) rfl (trivial))))) ?_ ?_
  · show ∀ i ∈ [0, 1, 2, 3, 4], _
    refine steps_cons (st_run 0 _ rfl rfl hLo rfl rfl (fun _ _ _ _ => rfl) (fun b G w hb ho => exec_move (.inl rfl) (ev_off rfl (HS2.get 0 rfl)))) ?_
    refine steps_cons (st_run 1 _ rfl rfl hLo rfl rfl (fun _ _ _ _ => rfl) (fun b G w hb ho => exec_nil rfl (ev_on hLo 0 rfl HS2.1 rfl (hb 0 (by rfl))))) ?_
    refine steps_cons (st_run 2 _ rfl rfl hLo rfl rfl (fun _ _ _ _ => rfl) (fun b G w hb ho => exec_field rfl (ev_on hLo 1 rfl HS2.1 rfl (hb 1 (by rfl))) (by kernel_rfl))) ?_
    refine steps_cons (st_at1 3 (((⟨g, 0, none⟩ : Addr)).add 2) _ rfl rfl rfl (fun _ _ _ _ => rfl) hLo rfl rfl Try.underlying4 rfl (rowX hr 2 (Nat.le_of_ble_eq_true rfl)) (fun b G hb ho => ev_on hLo 2 rfl HS2.1 rfl (hb 2 (by rfl)))) ?_
    refine steps_cons (st_run 4 _ rfl rfl hLo rfl rfl (fun _ _ _ _ => rfl) (fun b G w hb ho => exec_move (.inr rfl) (ev_on hLo 3 rfl HS2.1 rfl (hb 3 (by rfl))))) ?_
    exact steps_nil
  clear hLo
  intro G a3 w3 hS hH
  have HS3 : Sl a3 11 [(0, .pointer (some ((⟨g, 0, none⟩ : Addr)))), (2, .int .i64 (0)), (3, .bool false), (6, .bool false)] := hS
  have HH3 : Held ⟨w, []⟩ w3 [] := hH
  clear hS hH HS2 HH2
  refine then_ ?_
  refine wp_cond_false (HS3.get 3 rfl) ?_
  refine wp_skip ?_
  refine inBlock_normal ?_
  refine then_ ?_
  refine wp_seq ?_
  have hLo : LOk [(0, 2, .val (.int .i64 (0)))] := lok (by rfl) (by rfl)
  refine plain_ (wE := ⟨w, []⟩) (sz := 11) (n := 1) [0] [(0, .val (.pointer (some ((⟨g, 0, none⟩ : Addr))))), (3, .val (.bool false)), (6, .val (.bool false)), (2, .val (.int .i64 (0)))] [(0, 2, .val (.int .i64 (0)))] [] rfl (by rfl) HH3 rfl rfl hLo rfl HS3 (slS 0 rfl rfl (slS 2 rfl rfl (slS 3 rfl rfl (slL 0 (d := 0) rfl (trivial))))) ?_ ?_
  · show ∀ i ∈ [0], _
    refine steps_cons (st_run 0 _ rfl rfl hLo rfl rfl (fun _ _ _ _ => rfl) (fun b G w hb ho => exec_move (.inr rfl) (rfl))) ?_
    exact steps_nil
  clear hLo
  intro G a4 w4 hS hH
  have HS4 : Sl a4 11 [(0, .pointer (some ((⟨g, 0, none⟩ : Addr)))), (3, .bool false), (6, .bool false), (2, .int .i64 (0))] := hS
  have HH4 : Held ⟨w, []⟩ w4 [] := hH
  clear hS hH HS3 HH3
  refine then_ ?_
  refine wp_ret ?_
  repeat (first | refine then_ret ?_ | refine inBlock_ret' ?_)
  exact b_tmp rfl HS4.2.1 (HS4.get 3 rfl) ⟨rfl, HH4.1.below⟩
end Go.Proofs.Ytdleomeiojlooaa.P
end

section
namespace Go.Proofs.Ytdleomeiojlooaa.P
open Go.RowKit Go.Proofs.YtdleomeiojlooaaW.PrintWords Go.Proofs.YtdleomeiojlooaaW.PrintLast Go.Proofs.YtdleomeiojlooaaW.PrintMore
set_option linter.unusedVariables false
set_option linter.unusedSimpArgs false
def letters_alphabet.f (a0 : Bool) : Option (ByteArray) := if a0 = true then (some (⟨#[65, 66, 67, 68, 69, 70, 71, 72, 73, 74, 75, 76, 77, 78, 79, 80, 81, 82, 83, 84, 85, 86, 87, 88, 89, 90, 97, 98, 99, 100, 101, 102, 103, 104, 105, 106, 107, 108, 109, 110, 111, 112, 113, 114, 115, 116, 117, 118, 119, 120, 121, 122, 48, 49, 50, 51, 52, 53, 54, 55, 56, 57, 45, 95]⟩ : ByteArray)) else (some (⟨#[65, 66, 67, 68, 69, 70, 71, 72, 73, 74, 75, 76, 77, 78, 79, 80, 81, 82, 83, 84, 85, 86, 87, 88, 89, 90, 97, 98, 99, 100, 101, 102, 103, 104, 105, 106, 107, 108, 109, 110, 111, 112, 113, 114, 115, 116, 117, 118, 119, 120, 121, 122, 48, 49, 50, 51, 52, 53, 54, 55, 56, 57, 43, 47]⟩ : ByteArray))
set_option maxHeartbeats 8000000 in
set_option maxRecDepth 100000 in
theorem letters_alphabet.calls (a0 : Bool) (r : ByteArray) (w : World) (h : letters_alphabet.f a0 = some r) :
    Calls Try.prog 47 #[.bool a0] w fun e w' => e = .returned (.string r) ∧ Drawn0 w w' := by
  have H : (if a0 = true then (some (⟨#[65, 66, 67, 68, 69, 70, 71, 72, 73, 74, 75, 76, 77, 78, 79, 80, 81, 82, 83, 84, 85, 86, 87, 88, 89, 90, 97, 98, 99, 100, 101, 102, 103, 104, 105, 106, 107, 108, 109, 110, 111, 112, 113, 114, 115, 116, 117, 118, 119, 120, 121, 122, 48, 49, 50, 51, 52, 53, 54, 55, 56, 57, 45, 95]⟩ : ByteArray)) else (some (⟨#[65, 66, 67, 68, 69, 70, 71, 72, 73, 74, 75, 76, 77, 78, 79, 80, 81, 82, 83, 84, 85, 86, 87, 88, 89, 90, 97, 98, 99, 100, 101, 102, 103, 104, 105, 106, 107, 108, 109, 110, 111, 112, 113, 114, 115, 116, 117, 118, 119, 120, 121, 122, 48, 49, 50, 51, 52, 53, 54, 55, 56, 57, 43, 47]⟩ : ByteArray))) = some r := h
  clear h
  by_cases c2 : a0 = true
  · subst c2
    have H1 : (some (⟨#[65, 66, 67, 68, 69, 70, 71, 72, 73, 74, 75, 76, 77, 78, 79, 80, 81, 82, 83, 84, 85, 86, 87, 88, 89, 90, 97, 98, 99, 100, 101, 102, 103, 104, 105, 106, 107, 108, 109, 110, 111, 112, 113, 114, 115, 116, 117, 118, 119, 120, 121, 122, 48, 49, 50, 51, 52, 53, 54, 55, 56, 57, 45, 95]⟩ : ByteArray)) = some r := by rw [if_pos rfl] at H; exact H
    clear H
    have H := H1
    clear H1
    obtain rfl := Option.some.inj H
    go_enter Try.func47, Try.ntmps47
    go_wp2
    go_ret
    exact ⟨by first | rfl | (simp; done) | (simp [*]; done), by repeat (first | exact Drawn0.refl _ | apply Drawn0.step)⟩
  · replace c2 := Bool.eq_false_iff.mpr c2
    subst c2
    have H1 : (some (⟨#[65, 66, 67, 68, 69, 70, 71, 72, 73, 74, 75, 76, 77, 78, 79, 80, 81, 82, 83, 84, 85, 86, 87, 88, 89, 90, 97, 98, 99, 100, 101, 102, 103, 104, 105, 106, 107, 108, 109, 110, 111, 112, 113, 114, 115, 116, 117, 118, 119, 120, 121, 122, 48, 49, 50, 51, 52, 53, 54, 55, 56, 57, 43, 47]⟩ : ByteArray)) = some r := by rw [if_neg (show ¬ (false = true) by decide)] at H; exact H
    clear H
    have H := H1
    clear H1
    obtain rfl := Option.some.inj H
    go_enter Try.func47, Try.ntmps47
    go_wp2
    go_ret
    exact ⟨by first | rfl | (simp; done) | (simp [*]; done), by repeat (first | exact Drawn0.refl _ | apply Drawn0.step)⟩
mutual
def letters_Encode.l0 : Nat → ByteArray → List Int → Int → Int → List Int → Int → Int → Option (ByteArray)
  | 0, _, _, _, _, _, _, _ => none
  | k + 1, x5, x6, x7, x8, x13, x14, x15 => if x15 < x14 then (if 0 ≤ x15 then (if x15 < (x13.length : Int) then (letters_Encode.l1 k x5 x6 (Go.bits .or .u64 (IntKind.u64.wrap (x7 * 256)) (IntKind.u64.wrap (rd x13 x15))) (wrap64 (x8 + 8)) x13 x14 x15) else (none)) else (none)) else (if x8 > 0 then (if 0 ≤ (wrap64 (6 - x8)) then (if 0 ≤ (Go.bits .and .u64 (shl .u64 x7 (wrap64 (6 - x8))) 63) then (if (Go.bits .and .u64 (shl .u64 x7 (wrap64 (6 - x8))) 63) < (x5.size : Int) then (if x6.length < 140737488355328 then (some (strOfNums (x6 ++ [bt x5 (Go.bits .and .u64 (shl .u64 x7 (wrap64 (6 - x8))) 63)]))) else (none)) else (none)) else (none)) else (none)) else (some (strOfNums x6)))
def letters_Encode.l1 : Nat → ByteArray → List Int → Int → Int → List Int → Int → Int → Option (ByteArray)
  | 0, _, _, _, _, _, _, _ => none
  | k + 1, x5, x6, x7, x8, x13, x14, x15 => if x8 ≥ 6 then (if 0 ≤ (wrap64 (x8 - 6)) then (if 0 ≤ (Go.bits .and .u64 (shr .u64 x7 (wrap64 (x8 - 6))) 63) then (if (Go.bits .and .u64 (shr .u64 x7 (wrap64 (x8 - 6))) 63) < (x5.size : Int) then (if x6.length < 140737488355328 then (letters_Encode.l1 k x5 (x6 ++ [bt x5 (Go.bits .and .u64 (shr .u64 x7 (wrap64 (x8 - 6))) 63)]) x7 (wrap64 (x8 - 6)) x13 x14 x15) else (none)) else (none)) else (none)) else (none)) else (letters_Encode.l0 k x5 x6 x7 x8 x13 x14 (wrap64 (x15 + 1)))
end
def letters_Encode.f (k : Nat) (l0 : List Int) (a1 : Bool) : Option (ByteArray) := (letters_alphabet.f a1).bind fun t37001 => (letters_Encode.l0 k t37001 ([] : List Int) 0 0 l0 (l0.length : Int) 0)
theorem letters_Encode.mono_l : ∀ k, (∀ y0 y1 y2 y3 y4 y5 y6, LeO (letters_Encode.l0 k y0 y1 y2 y3 y4 y5 y6) (letters_Encode.l0 (k + 1) y0 y1 y2 y3 y4 y5 y6)) ∧ (∀ y0 y1 y2 y3 y4 y5 y6, LeO (letters_Encode.l1 k y0 y1 y2 y3 y4 y5 y6) (letters_Encode.l1 (k + 1) y0 y1 y2 y3 y4 y5 y6))
  | 0 => ⟨fun _ _ _ _ _ _ _ r h => by simp [letters_Encode.l0] at h, fun _ _ _ _ _ _ _ r h => by simp [letters_Encode.l1] at h⟩
  | k + 1 => by
    obtain ⟨ih0, ih1⟩ := letters_Encode.mono_l k
    refine ⟨?_, ?_⟩
    · intro y0 y1 y2 y3 y4 y5 y6
      unfold letters_Encode.l0
      repeat' first
      | (with_reducible exact ih0 _ _ _ _ _ _ _)
      | (with_reducible exact ih1 _ _ _ _ _ _ _)
      | (with_reducible exact LeO.refl _)
      | (with_reducible exact LeO.none _)
      | (with_reducible refine LeO.ite ?_ ?_)
      | (with_reducible refine LeO.bind ?_ (fun _ => ?_))
      | exact ih0 _ _ _ _ _ _ _
      | exact ih1 _ _ _ _ _ _ _
      | exact LeO.none _
      | refine LeO.ite ?_ ?_
      | refine LeO.bind ?_ (fun _ => ?_)
    · intro y0 y1 y2 y3 y4 y5 y6
      unfold letters_Encode.l1
      repeat' first
      | (with_reducible exact ih0 _ _ _ _ _ _ _)
      | (with_reducible exact ih1 _ _ _ _ _ _ _)
      | (with_reducible exact LeO.refl _)
      | (with_reducible exact LeO.none _)
      | (with_reducible refine LeO.ite ?_ ?_)
      | (with_reducible refine LeO.bind ?_ (fun _ => ?_))
      | exact ih0 _ _ _ _ _ _ _
      | exact ih1 _ _ _ _ _ _ _
      | exact LeO.none _
      | refine LeO.ite ?_ ?_
      | refine LeO.bind ?_ (fun _ => ?_)
theorem letters_Encode.mono : ∀ a0 a1 k, LeO (letters_Encode.f k a0 a1) (letters_Encode.f (k + 1) a0 a1) := by
  intro a0 a1 k
  obtain ⟨ih0, ih1⟩ := letters_Encode.mono_l k
  unfold letters_Encode.f
  repeat' first
      | (with_reducible exact ih0 _ _ _ _ _ _ _)
      | (with_reducible exact ih1 _ _ _ _ _ _ _)
      | (with_reducible exact LeO.refl _)
      | (with_reducible exact LeO.none _)
      | (with_reducible refine LeO.ite ?_ ?_)
      | (with_reducible refine LeO.bind ?_ (fun _ => ?_))
      | exact ih0 _ _ _ _ _ _ _
      | exact ih1 _ _ _ _ _ _ _
      | exact LeO.none _
      | refine LeO.ite ?_ ?_
      | refine LeO.bind ?_ (fun _ => ?_)
set_option maxHeartbeats 8000000 in
set_option maxRecDepth 100000 in
theorem letters_Encode.calls (k : Nat) (A0 : Option Addr) (c0 : Nat) (l0 : List Int) (a1 : Bool) (r : ByteArray) (w : World) (hr0 : Kd.C (Kd.int .u8) w A0 l0.length l0) (hc0 : l0.length ≤ c0) (h : letters_Encode.f k l0 a1 = some r) :
    Calls Try.prog 37 #[.slice A0 l0.length c0, .bool a1] w fun e w' => e = .returned (.string r) ∧ Below w.heap.size w w' := by
  have HR0 := Aside0.mk hr0
  have HC0 := Aside0.mk hc0
  clear hr0 hc0
  have HB := Aside0.mk (Below.refl w.heap.size w)
  have H : ((letters_alphabet.f a1).bind fun t37001 => (letters_Encode.l0 k t37001 ([] : List Int) 0 0 l0 (l0.length : Int) 0)) = some r := h
  clear h
  replace H := Option.bind_eq_some_iff.mp H
  obtain ⟨t37001, A30, H⟩ := H
  replace H : (letters_Encode.l0 k t37001 ([] : List Int) 0 0 l0 (l0.length : Int) 0) = some r := H
  have A3 := Aside0.mk A30
  clear A30
  have H' := Aside0.mk H
  clear H
  go_enter Try.func37, Try.ntmps37
  go_wp2_with (first | ((with_reducible refine gate_callee (f := 47) rfl ?_); refine goesL_ (some 12) rfl rfl Try.func47 (by kernel_rfl) rfl #[.bool a1] rfl (by (try simp only [List.map_toArray, List.map_cons, List.map_nil]); first | done | rfl | (simp only [List.length_drop, List.length_take]; rfl)) ?_; (with_reducible refine (letters_alphabet.calls a1 t37001 _ A3.out).mono ?_); rintro e w' ⟨rfl, ⟨nd, rfl⟩⟩; refine ⟨_, rfl, ?_⟩))
  go_loopg [6, 7, 8, 15] k (fun kq v6 v7 v8 v15 w' => ∃ (x6_1 : List Int) (x7_1 : Int) (x8_1 : Int) (x15_1 : Int), v7 = .int .u64 x7_1 ∧ v8 = .int .i64 x8_1 ∧ v15 = .int .i64 x15_1 ∧ Aside0 (letters_Encode.l0 kq t37001 x6_1 x7_1 x8_1 l0 (l0.length : Int) x15_1 = some r) ∧ Aside0 (kq ≤ k) ∧ Aside0 (Kd.R (Kd.int .u8) 5 w' w.heap.size (fun _ => True) v6 x6_1) ∧ Aside0 (Below w.heap.size w w'))
  case atStart => exact ⟨(([] : List Int)), (0), (0), (0), (by first | rfl | (simp; done) | (simp [*]; done)), (by first | rfl | (simp; done) | (simp [*]; done)), (by first | rfl | (simp; done) | (simp [*]; done)), H', ⟨Nat.le_refl _⟩, ⟨by first | exact Kd.R_nil _ _ _ _ _ | exact Kd.N_nil _ _ _ _ _ | exact Kd.V_nil _ _ _ _ _ | exact Kd.Q_nil _ _ _ _ _ | exact Kd.S_nil _ _ _ _ _⟩, ⟨by repeat (first | (with_reducible first | exact HB.out | apply below_alloc | apply pw_below_drewN | apply below_drew1) | exact HB.out)⟩⟩
  case round =>
    clear H'
    try clear p2
    try clear c3
    obtain ⟨x6_1, x7_1, x8_1, x15_1, rfl, rfl, rfl, HA, HK1, HO_6, HB⟩ := hrel
    cases gk with
    | zero => exact absurd HA.out (by simp [letters_Encode.l0])
    | succ k1 =>
      have H := HA.out
      clear HA
      simp only [letters_Encode.l0] at H
      by_cases c4 : x15_1 < (l0.length : Int)
      · rw [if_pos c4] at H
        have c4b0 : decide (x15_1 < (l0.length : Int)) = true := decide_eq_true c4
        clear c4
        by_cases c5 : 0 ≤ x15_1
        · rw [if_pos c5] at H
          have c5b0 : decide (0 ≤ x15_1) = true := decide_eq_true c5
          clear c5
          by_cases c6 : x15_1 < (l0.length : Int)
          · rw [if_pos c6] at H
            have c6b0 : decide (x15_1 < (l0.length : Int)) = true := decide_eq_true c6
            clear c6
            have H' := Aside0.mk H
            clear H
            have p37005 : 0 ≤ (x15_1 : Int) := of_decide_eq_true (by first | (with_reducible assumption) | assumption)
            have q37005 : x15_1 < (l0.length : Int) := of_decide_eq_true (by first | (with_reducible assumption) | assumption)
            obtain ⟨ad37005, e37005, hx37005_0⟩ := Kd.at_int HR0.out x15_1 p37005 q37005
            cases e37005
            replace hx37005_0 := (HB.out.cell (World.block_lt_of_cell? w _ hx37005_0)).trans hx37005_0
            replace p37005 := eq_true p37005
            replace q37005 := eq_true q37005
            go_wp2
            go_loopg [6, 8] k1 (fun kq v6 v8 w' => ∃ (x6_2 : List Int) (x8_2 : Int), v8 = .int .i64 x8_2 ∧ Aside0 (letters_Encode.l1 kq t37001 x6_2 (Go.bits .or .u64 (IntKind.u64.wrap (x7_1 * 256)) (IntKind.u64.wrap (rd l0 x15_1))) x8_2 l0 (l0.length : Int) x15_1 = some r) ∧ Aside0 (kq ≤ k1) ∧ Aside0 (Kd.R (Kd.int .u8) 5 w' w.heap.size (fun _ => True) v6 x6_2) ∧ Aside0 (Below w.heap.size w w'))
            case atStart => exact ⟨(x6_1), (wrap64 (x8_1 + 8)), (by first | rfl | (simp; done) | (simp [*]; done)), H', ⟨Nat.le_refl _⟩, ⟨by (with_reducible repeat (first | apply Kd.R_alloc | apply Kd.R_drewN | apply Kd.R_drew)); exact HO_6.out⟩, ⟨by repeat (first | (with_reducible first | exact HB.out | apply below_alloc | apply pw_below_drewN | apply below_drew1) | exact HB.out)⟩⟩
            case round =>
              clear H'
              try clear p2
              try clear c3
              try clear p3
              try clear q3
              try clear hx3
              try clear c4
              try clear c4b0
              try clear c5
              try clear c5b0
              try clear c6
              try clear c6b0
              try clear p6
              try clear hx37005_0
              try clear p2
              try clear p37005
              try clear q37005
              obtain ⟨x6_2, x8_2, rfl, HA, HK2, HO_6, HB⟩ := hrel
              cases gk with
              | zero => exact absurd HA.out (by simp [letters_Encode.l1])
              | succ k2 =>
                have H := HA.out
                clear HA
                simp only [letters_Encode.l1] at H
                by_cases c7 : x8_2 ≥ 6
                · rw [if_pos c7] at H
                  have c7b0 : decide (6 ≤ x8_2) = true := decide_eq_true c7
                  clear c7
                  obtain ⟨ji8, hji8⟩ : ∃ j_ : Int, (wrap64 (x8_2 - 6)) = j_ := ⟨_, rfl⟩
                  replace H : (if 0 ≤ (ji8) then (if 0 ≤ (Go.bits .and .u64 (shr .u64 (Go.bits .or .u64 (IntKind.u64.wrap (x7_1 * 256)) (IntKind.u64.wrap (rd l0 x15_1))) (ji8)) 63) then (if (Go.bits .and .u64 (shr .u64 (Go.bits .or .u64 (IntKind.u64.wrap (x7_1 * 256)) (IntKind.u64.wrap (rd l0 x15_1))) (ji8)) 63) < (t37001.size : Int) then (if x6_2.length < 140737488355328 then (letters_Encode.l1 k2 t37001 (x6_2 ++ [bt t37001 (Go.bits .and .u64 (shr .u64 (Go.bits .or .u64 (IntKind.u64.wrap (x7_1 * 256)) (IntKind.u64.wrap (rd l0 x15_1))) (ji8)) 63)]) (Go.bits .or .u64 (IntKind.u64.wrap (x7_1 * 256)) (IntKind.u64.wrap (rd l0 x15_1))) ji8 l0 (l0.length : Int) x15_1) else (none)) else (none)) else (none)) else (none)) = some r := by first | (rw [hji8] at H; exact H) | (simp only [hji8] at H ⊢; exact H)
                  have hji8w : (IntKind.i64.wrap (x8_2 - 6)) = ji8 := (i64_w _).trans hji8
                  by_cases c9 : 0 ≤ (ji8)
                  · rw [if_pos c9] at H
                    have c9b0 := eq_true c9
                    have c9b1 : decide (0 ≤ (ji8)) = true := decide_eq_true c9
                    clear c9
                    obtain ⟨ji10, hji10⟩ : ∃ j_ : Int, (shr .u64 (Go.bits .or .u64 (IntKind.u64.wrap (x7_1 * 256)) (IntKind.u64.wrap (rd l0 x15_1))) (ji8)) = j_ := ⟨_, rfl⟩
                    replace H : (if 0 ≤ (Go.bits .and .u64 (ji10) 63) then (if (Go.bits .and .u64 (ji10) 63) < (t37001.size : Int) then (if x6_2.length < 140737488355328 then (letters_Encode.l1 k2 t37001 (x6_2 ++ [bt t37001 (Go.bits .and .u64 (ji10) 63)]) (Go.bits .or .u64 (IntKind.u64.wrap (x7_1 * 256)) (IntKind.u64.wrap (rd l0 x15_1))) ji8 l0 (l0.length : Int) x15_1) else (none)) else (none)) else (none)) = some r := by first | (rw [hji10] at H; exact H) | (simp only [hji10] at H ⊢; exact H)
                    have hji10_ : ((Go.bits .or .u64 (IntKind.u64.wrap (x7_1 * 256)) (IntKind.u64.wrap (rd l0 x15_1))) / 2 ^ min (ji8).toNat 64) = ji10 := hji10
                    have hji10z : (ji8) ≤ 64 → ((Go.bits .or .u64 (IntKind.u64.wrap (x7_1 * 256)) (IntKind.u64.wrap (rd l0 x15_1))) / 2 ^ (ji8).toNat) = ji10 := shr_small hji10
                    by_cases c11 : 0 ≤ (Go.bits .and .u64 (ji10) 63)
                    · rw [if_pos c11] at H
                      have c11b0 : decide (0 ≤ (Go.bits .and .u64 (ji10) 63)) = true := decide_eq_true c11
                      clear c11
                      by_cases c12 : (Go.bits .and .u64 (ji10) 63) < (t37001.size : Int)
                      · rw [if_pos c12] at H
                        have c12b0 : decide ((Go.bits .and .u64 (ji10) 63) < (t37001.size : Int)) = true := decide_eq_true c12
                        clear c12
                        by_cases c14 : x6_2.length < 140737488355328
                        · rw [if_pos c14] at H
                          have LMc14 := Aside0.mk c14
                          clear c14
                          obtain ⟨y37006, hy37006⟩ : ∃ y_ : List Int, y_ = (x6_2 ++ [bt t37001 (Go.bits .and .u64 (ji10) 63)]) := ⟨_, rfl⟩
                          replace H : (letters_Encode.l1 k2 t37001 y37006 (Go.bits .or .u64 (IntKind.u64.wrap (x7_1 * 256)) (IntKind.u64.wrap (rd l0 x15_1))) ji8 l0 (l0.length : Int) x15_1) = some r := by first | (rw [hy37006]; with_reducible exact H) | (have H2_ := (Option.bind_some _ _).symm.trans H; rw [hy37006]; with_reducible exact H2_) | (have H2_ := (Option.bind_some _ _).symm.trans H; with_reducible exact H2_) | with_reducible exact H | (rw [hy37006]; exact H) | exact H
                          have Ny37006 := Aside0.mk hy37006
                          clear hy37006
                          have H' := Aside0.mk H
                          clear H
                          have p13 : 0 ≤ ((Go.bits .and .u64 (ji10) 63) : Int) := of_decide_eq_true (by first | (with_reducible assumption) | assumption)
                          have q13 : (Go.bits .and .u64 (ji10) 63) < (t37001.size : Int) := of_decide_eq_true (by first | (with_reducible assumption) | assumption)
                          have hx13 := bt_at t37001 (Go.bits .and .u64 (ji10) 63)
                          replace p13 := eq_true p13
                          replace q13 := eq_true q13
                          go_wp2_with (first | ((with_reducible refine gate_builtin (b := .append) (xs := #[.tmp 30, .tmp 37]) rfl ?_); at_builtin; refine Kd.R_append (Kd.int .u8) (w0 := w) w.heap.size rfl (.tmp 30) (.tmp 37) 58 5 (.int .u8 0) 1 rfl Try.underlying58 info5 rfl (by decide) (by omega) u6 x6_2 (bt t37001 (Go.bits .and .u64 (ji10) 63)) [.int .u8 (bt t37001 (Go.bits .and .u64 (ji10) 63))] (fun _ => True) (fun _ => False) rfl rfl ?aP (fun _ hk => hk.elim) ?aF ?aO ?aB ?aS ?aL ?_; (case aP => exact rfl); (case aB => exact (by repeat (first | (with_reducible first | exact HB.out | apply below_alloc | apply pw_below_drewN | apply below_drew1) | exact HB.out))); (case aF => exact (fun _ _ => trivial)); (case aO => exact (by (with_reducible repeat (first | apply Kd.R_alloc | apply Kd.R_drewN | apply Kd.R_drew)); exact HO_6.out)); (case aS => exact (below_size (by repeat (first | (with_reducible first | exact HB.out | apply below_alloc | apply pw_below_drewN | apply below_drew1) | exact HB.out)))); (case aL => have := LMc14.out; omega); intro v37007 w15 ho hb hg hat; rw [← Ny37006.out] at ho; have n0_ := Aside0.mk (hb); have n1_ := Aside0.mk (ho); clear HB; clear HO_6; have HB := n0_; have HO37008 := n1_; clear n0_ n1_; clear ho hb hg hat))
                          go_roundg k2
                          case measure => have := HK1.out; have := HK2.out; omega
                          case rel => exact ⟨(y37006), (ji8), (by first | rfl | (simp; done) | (simp only [← hji8] <;> (first | rfl | simp)) | (simp [*]; done)), H', ⟨by have := HK1.out; have := HK2.out; omega⟩, ⟨by (with_reducible repeat (first | apply Kd.R_alloc | apply Kd.R_drewN | apply Kd.R_drew)); exact HO37008.out⟩, ⟨by repeat (first | (with_reducible first | exact HB.out | apply below_alloc | apply pw_below_drewN | apply below_drew1) | exact HB.out)⟩⟩
                        · rw [if_neg c14] at H
                          exact absurd H (by simp)
                      · rw [if_neg c12] at H
                        exact absurd H (by simp)
                    · rw [if_neg c11] at H
                      exact absurd H (by simp)
                  · rw [if_neg c9] at H
                    exact absurd H (by simp)
                · rw [if_neg c7] at H
                  have c7b0 : decide (6 ≤ x8_2) = false := decide_eq_false c7
                  clear c7
                  have H' := Aside0.mk H
                  clear H
                  go_wp2
                  go_roundg k2
                  case measure => have := HK1.out; have := HK2.out; omega
                  case rel => exact ⟨(x6_2), ((Go.bits .or .u64 (IntKind.u64.wrap (x7_1 * 256)) (IntKind.u64.wrap (rd l0 x15_1)))), (x8_2), (wrap64 (x15_1 + 1)), (by first | rfl | (simp; done) | (simp [*]; done)), (by first | rfl | (simp; done) | (simp [*]; done)), (by first | rfl | (simp; done) | (simp [*]; done)), H', ⟨by have := HK1.out; have := HK2.out; omega⟩, ⟨by (with_reducible repeat (first | apply Kd.R_alloc | apply Kd.R_drewN | apply Kd.R_drew)); exact HO_6.out⟩, ⟨by repeat (first | (with_reducible first | exact HB.out | apply below_alloc | apply pw_below_drewN | apply below_drew1) | exact HB.out)⟩⟩
          · rw [if_neg c6] at H
            exact absurd H (by simp)
        · rw [if_neg c5] at H
          exact absurd H (by simp)
      · rw [if_neg c4] at H
        have c4b0 : decide (x15_1 < (l0.length : Int)) = false := decide_eq_false c4
        clear c4
        by_cases c16 : x8_1 > 0
        · rw [if_pos c16] at H
          have c16b0 : decide (0 < x8_1) = true := decide_eq_true c16
          clear c16
          obtain ⟨ji17, hji17⟩ : ∃ j_ : Int, (wrap64 (6 - x8_1)) = j_ := ⟨_, rfl⟩
          replace H : (if 0 ≤ (ji17) then (if 0 ≤ (Go.bits .and .u64 (shl .u64 x7_1 (ji17)) 63) then (if (Go.bits .and .u64 (shl .u64 x7_1 (ji17)) 63) < (t37001.size : Int) then (if x6_1.length < 140737488355328 then (some (strOfNums (x6_1 ++ [bt t37001 (Go.bits .and .u64 (shl .u64 x7_1 (ji17)) 63)]))) else (none)) else (none)) else (none)) else (none)) = some r := by first | (rw [hji17] at H; exact H) | (simp only [hji17] at H ⊢; exact H)
          have hji17w : (IntKind.i64.wrap (6 - x8_1)) = ji17 := (i64_w _).trans hji17
          by_cases c18 : 0 ≤ (ji17)
          · rw [if_pos c18] at H
            have c18b0 := eq_true c18
            have c18b1 : decide (0 ≤ (ji17)) = true := decide_eq_true c18
            clear c18
            obtain ⟨ji19, hji19⟩ : ∃ j_ : Int, (shl .u64 x7_1 (ji17)) = j_ := ⟨_, rfl⟩
            replace H : (if 0 ≤ (Go.bits .and .u64 (ji19) 63) then (if (Go.bits .and .u64 (ji19) 63) < (t37001.size : Int) then (if x6_1.length < 140737488355328 then (some (strOfNums (x6_1 ++ [bt t37001 (Go.bits .and .u64 (ji19) 63)]))) else (none)) else (none)) else (none)) = some r := by first | (rw [hji19] at H; exact H) | (simp only [hji19] at H ⊢; exact H)
            have hji19_ : (IntKind.u64.wrap (x7_1 * 2 ^ min (ji17).toNat 64)) = ji19 := hji19
            have hji19z : (ji17) ≤ 64 → (IntKind.u64.wrap (x7_1 * 2 ^ (ji17).toNat)) = ji19 := shl_small hji19
            by_cases c20 : 0 ≤ (Go.bits .and .u64 (ji19) 63)
            · rw [if_pos c20] at H
              have c20b0 : decide (0 ≤ (Go.bits .and .u64 (ji19) 63)) = true := decide_eq_true c20
              clear c20
              by_cases c21 : (Go.bits .and .u64 (ji19) 63) < (t37001.size : Int)
              · rw [if_pos c21] at H
                have c21b0 : decide ((Go.bits .and .u64 (ji19) 63) < (t37001.size : Int)) = true := decide_eq_true c21
                clear c21
                by_cases c23 : x6_1.length < 140737488355328
                · rw [if_pos c23] at H
                  have LMc23 := Aside0.mk c23
                  clear c23
                  obtain ⟨y37002, hy37002⟩ : ∃ y_ : List Int, y_ = (x6_1 ++ [bt t37001 (Go.bits .and .u64 (ji19) 63)]) := ⟨_, rfl⟩
                  replace H : (some (strOfNums y37002)) = some r := by first | (rw [hy37002]; with_reducible exact H) | (have H2_ := (Option.bind_some _ _).symm.trans H; rw [hy37002]; with_reducible exact H2_) | (have H2_ := (Option.bind_some _ _).symm.trans H; with_reducible exact H2_) | with_reducible exact H | (rw [hy37002]; exact H) | exact H
                  have Ny37002 := Aside0.mk hy37002
                  clear hy37002
                  obtain rfl := Option.some.inj H
                  have p22 : 0 ≤ ((Go.bits .and .u64 (ji19) 63) : Int) := of_decide_eq_true (by first | (with_reducible assumption) | assumption)
                  have q22 : (Go.bits .and .u64 (ji19) 63) < (t37001.size : Int) := of_decide_eq_true (by first | (with_reducible assumption) | assumption)
                  have hx22 := bt_at t37001 (Go.bits .and .u64 (ji19) 63)
                  replace p22 := eq_true p22
                  replace q22 := eq_true q22
                  go_wp2_with (first | ((with_reducible refine gate_builtin (b := .append) (xs := #[.tmp 42, .tmp 50]) rfl ?_); at_builtin; refine Kd.R_append (Kd.int .u8) (w0 := w) w.heap.size rfl (.tmp 42) (.tmp 50) 58 5 (.int .u8 0) 1 rfl Try.underlying58 info5 rfl (by decide) (by omega) u6 x6_1 (bt t37001 (Go.bits .and .u64 (ji19) 63)) [.int .u8 (bt t37001 (Go.bits .and .u64 (ji19) 63))] (fun _ => True) (fun _ => False) rfl rfl ?aP (fun _ hk => hk.elim) ?aF ?aO ?aB ?aS ?aL ?_; (case aP => exact rfl); (case aB => exact (by repeat (first | (with_reducible first | exact HB.out | apply below_alloc | apply pw_below_drewN | apply below_drew1) | exact HB.out))); (case aF => exact (fun _ _ => trivial)); (case aO => exact (by (with_reducible repeat (first | apply Kd.R_alloc | apply Kd.R_drewN | apply Kd.R_drew)); exact HO_6.out)); (case aS => exact (below_size (by repeat (first | (with_reducible first | exact HB.out | apply below_alloc | apply pw_below_drewN | apply below_drew1) | exact HB.out)))); (case aL => have := LMc23.out; omega); intro v37003 w24 ho hb hg hat; rw [← Ny37002.out] at ho; have n0_ := Aside0.mk (hb); have n1_ := Aside0.mk (ho); clear HB; clear HO_6; have HB := n0_; have HO37004 := n1_; clear n0_ n1_; clear ho hb hg hat; have hcv25 := own_string (P := Try.prog) Try.underlying58 Try.underlying5 Try.underlying9 (Kd.own_of_R HO37004.out)))
                  go_ret
                  exact ⟨by first | rfl | (simp [errW_none, errW_some] <;> rfl) | (simp only [← hji17, ← hji19]; first | rfl | (simp [errW_none, errW_some] <;> rfl)) | (simp [*, errW_none, errW_some] <;> rfl), by repeat (first | (with_reducible first | exact HB.out | apply below_alloc | apply pw_below_drewN | apply below_drew1) | exact HB.out)⟩
                · rw [if_neg c23] at H
                  exact absurd H (by simp)
              · rw [if_neg c21] at H
                exact absurd H (by simp)
            · rw [if_neg c20] at H
              exact absurd H (by simp)
          · rw [if_neg c18] at H
            exact absurd H (by simp)
        · rw [if_neg c16] at H
          have c16b0 : decide (0 < x8_1) = false := decide_eq_false c16
          clear c16
          obtain rfl := Option.some.inj H
          have hcv26 := own_string (P := Try.prog) Try.underlying58 Try.underlying5 Try.underlying9 (Kd.own_of_R HO_6.out)
          go_wp2
          go_ret
          exact ⟨by first | rfl | (simp [errW_none, errW_some] <;> rfl) | (simp [*, errW_none, errW_some] <;> rfl), by repeat (first | (with_reducible first | exact HB.out | apply below_alloc | apply pw_below_drewN | apply below_drew1) | exact HB.out)⟩
def hustingsref01_Letter.f (a0 : Int) (a1 : Bool) : Option (Int) := if a0 < 26 then (some ((65 + ((a0) % 256)) % 256)) else (if a0 < 52 then (some ((97 + ((wrap64 (a0 - 26)) % 256)) % 256)) else (if a0 < 62 then (some ((48 + ((wrap64 (a0 - 52)) % 256)) % 256)) else (if a1 = true then (if 0 ≤ (wrap64 (a0 - 62)) then (if (wrap64 (a0 - 62)) < 2 then (some (bt (⟨#[45, 95]⟩ : ByteArray) (wrap64 (a0 - 62)))) else (none)) else (none)) else (if 0 ≤ (wrap64 (a0 - 62)) then (if (wrap64 (a0 - 62)) < 2 then (some (bt (⟨#[43, 47]⟩ : ByteArray) (wrap64 (a0 - 62)))) else (none)) else (none)))))
set_option maxHeartbeats 8000000 in
set_option maxRecDepth 100000 in
theorem hustingsref01_Letter.calls (a0 : Int) (a1 : Bool) (r : Int) (w : World) (h : hustingsref01_Letter.f a0 a1 = some r) :
    Calls Try.prog 45 #[.int .i64 a0, .bool a1] w fun e w' => e = .returned (.int .u8 r) ∧ Drawn0 w w' := by
  have H : (if a0 < 26 then (some ((65 + ((a0) % 256)) % 256)) else (if a0 < 52 then (some ((97 + ((wrap64 (a0 - 26)) % 256)) % 256)) else (if a0 < 62 then (some ((48 + ((wrap64 (a0 - 52)) % 256)) % 256)) else (if a1 = true then (if 0 ≤ (wrap64 (a0 - 62)) then (if (wrap64 (a0 - 62)) < 2 then (some (bt (⟨#[45, 95]⟩ : ByteArray) (wrap64 (a0 - 62)))) else (none)) else (none)) else (if 0 ≤ (wrap64 (a0 - 62)) then (if (wrap64 (a0 - 62)) < 2 then (some (bt (⟨#[43, 47]⟩ : ByteArray) (wrap64 (a0 - 62)))) else (none)) else (none)))))) = some r := h
  clear h
  by_cases c3 : a0 < 26
  · rw [if_pos c3] at H
    have c3b0 : decide (a0 < 26) = true := decide_eq_true c3
    clear c3
    obtain rfl := Option.some.inj H
    go_enter Try.func45, Try.ntmps45
    go_wp2
    go_ret
    exact ⟨by first | rfl | (simp; done) | (simp [*]; done), by repeat (first | exact Drawn0.refl _ | apply Drawn0.step)⟩
  · rw [if_neg c3] at H
    have c3b0 : decide (a0 < 26) = false := decide_eq_false c3
    clear c3
    by_cases c4 : a0 < 52
    · rw [if_pos c4] at H
      have c4b0 : decide (a0 < 52) = true := decide_eq_true c4
      clear c4
      obtain rfl := Option.some.inj H
      go_enter Try.func45, Try.ntmps45
      go_wp2
      go_ret
      exact ⟨by first | rfl | (simp; done) | (simp [*]; done), by repeat (first | exact Drawn0.refl _ | apply Drawn0.step)⟩
    · rw [if_neg c4] at H
      have c4b0 : decide (a0 < 52) = false := decide_eq_false c4
      clear c4
      by_cases c5 : a0 < 62
      · rw [if_pos c5] at H
        have c5b0 : decide (a0 < 62) = true := decide_eq_true c5
        clear c5
        obtain rfl := Option.some.inj H
        go_enter Try.func45, Try.ntmps45
        go_wp2
        go_ret
        exact ⟨by first | rfl | (simp; done) | (simp [*]; done), by repeat (first | exact Drawn0.refl _ | apply Drawn0.step)⟩
      · rw [if_neg c5] at H
        have c5b0 : decide (a0 < 62) = false := decide_eq_false c5
        clear c5
        by_cases c6 : a1 = true
        · subst c6
          have H1 : (if 0 ≤ (wrap64 (a0 - 62)) then (if (wrap64 (a0 - 62)) < 2 then (some (bt (⟨#[45, 95]⟩ : ByteArray) (wrap64 (a0 - 62)))) else (none)) else (none)) = some r := by rw [if_pos rfl] at H; exact H
          clear H
          have H := H1
          clear H1
          obtain ⟨ji7, hji7⟩ : ∃ j_ : Int, (wrap64 (a0 - 62)) = j_ := ⟨_, rfl⟩
          replace H : (if 0 ≤ (ji7) then (if (ji7) < 2 then (some (bt (⟨#[45, 95]⟩ : ByteArray) (ji7))) else (none)) else (none)) = some r := by first | (rw [hji7] at H; exact H) | (simp only [hji7] at H ⊢; exact H)
          have hji7w : (IntKind.i64.wrap (a0 - 62)) = ji7 := (i64_w _).trans hji7
          by_cases c8 : 0 ≤ (ji7)
          · rw [if_pos c8] at H
            have c8b0 : decide (0 ≤ (ji7)) = true := decide_eq_true c8
            clear c8
            by_cases c9 : (ji7) < 2
            · rw [if_pos c9] at H
              have c9b0 : decide ((ji7) < 2) = true := decide_eq_true c9
              clear c9
              obtain rfl := Option.some.inj H
              have p10 : 0 ≤ ((ji7) : Int) := of_decide_eq_true (by first | (with_reducible assumption) | assumption)
              have q10 : (ji7) < (2 : Int) := of_decide_eq_true (by first | (with_reducible assumption) | assumption)
              have hx10 := bt_at (⟨#[45, 95]⟩ : ByteArray) (ji7)
              replace p10 := eq_true p10
              replace q10 := eq_true q10
              go_enter Try.func45, Try.ntmps45
              go_wp2
              go_ret
              exact ⟨by first | rfl | (simp; done) | (simp only [← hji7] <;> (first | rfl | simp)) | (simp [*]; done), by repeat (first | exact Drawn0.refl _ | apply Drawn0.step)⟩
            · rw [if_neg c9] at H
              exact absurd H (by simp)
          · rw [if_neg c8] at H
            exact absurd H (by simp)
        · replace c6 := Bool.eq_false_iff.mpr c6
          subst c6
          have H1 : (if 0 ≤ (wrap64 (a0 - 62)) then (if (wrap64 (a0 - 62)) < 2 then (some (bt (⟨#[43, 47]⟩ : ByteArray) (wrap64 (a0 - 62)))) else (none)) else (none)) = some r := by rw [if_neg (show ¬ (false = true) by decide)] at H; exact H
          clear H
          have H := H1
          clear H1
          obtain ⟨ji11, hji11⟩ : ∃ j_ : Int, (wrap64 (a0 - 62)) = j_ := ⟨_, rfl⟩
          replace H : (if 0 ≤ (ji11) then (if (ji11) < 2 then (some (bt (⟨#[43, 47]⟩ : ByteArray) (ji11))) else (none)) else (none)) = some r := by first | (rw [hji11] at H; exact H) | (simp only [hji11] at H ⊢; exact H)
          have hji11w : (IntKind.i64.wrap (a0 - 62)) = ji11 := (i64_w _).trans hji11
          by_cases c12 : 0 ≤ (ji11)
          · rw [if_pos c12] at H
            have c12b0 : decide (0 ≤ (ji11)) = true := decide_eq_true c12
            clear c12
            by_cases c13 : (ji11) < 2
            · rw [if_pos c13] at H
              have c13b0 : decide ((ji11) < 2) = true := decide_eq_true c13
              clear c13
              obtain rfl := Option.some.inj H
              have p14 : 0 ≤ ((ji11) : Int) := of_decide_eq_true (by first | (with_reducible assumption) | assumption)
              have q14 : (ji11) < (2 : Int) := of_decide_eq_true (by first | (with_reducible assumption) | assumption)
              have hx14 := bt_at (⟨#[43, 47]⟩ : ByteArray) (ji11)
              replace p14 := eq_true p14
              replace q14 := eq_true q14
              go_enter Try.func45, Try.ntmps45
              go_wp2
              go_ret
              exact ⟨by first | rfl | (simp; done) | (simp only [← hji11] <;> (first | rfl | simp)) | (simp [*]; done), by repeat (first | exact Drawn0.refl _ | apply Drawn0.step)⟩
            · rw [if_neg c13] at H
              exact absurd H (by simp)
          · rw [if_neg c12] at H
            exact absurd H (by simp)
def hustingsref01_bit.f (l0 : List Int) (a1 : Int) : Option (Int) := if (wrap64 (Int.tdiv a1 8)) ≥ (l0.length : Int) then (some 0) else (if 0 ≤ (wrap64 (Int.tdiv a1 8)) then (if (wrap64 (Int.tdiv a1 8)) < (l0.length : Int) then (if 0 ≤ (IntKind.u64.wrap (wrap64 (7 - (Int.tmod a1 8)))) then (some (Go.bits .and .i64 (wrap64 (shr .u8 (rd l0 (wrap64 (Int.tdiv a1 8))) (IntKind.u64.wrap (wrap64 (7 - (Int.tmod a1 8)))))) 1)) else (none)) else (none)) else (none))
set_option maxHeartbeats 8000000 in
set_option maxRecDepth 100000 in
theorem hustingsref01_bit.calls (A0 : Option Addr) (c0 : Nat) (l0 : List Int) (a1 : Int) (r : Int) (w : World) (hr0 : Kd.C (Kd.int .u8) w A0 l0.length l0) (hc0 : l0.length ≤ c0) (h : hustingsref01_bit.f l0 a1 = some r) :
    Calls Try.prog 46 #[.slice A0 l0.length c0, .int .i64 a1] w fun e w' => e = .returned (.int .i64 r) ∧ Drawn0 w w' := by
  have HR0 := Aside0.mk hr0
  have HC0 := Aside0.mk hc0
  clear hr0 hc0
  have H : (if (wrap64 (Int.tdiv a1 8)) ≥ (l0.length : Int) then (some 0) else (if 0 ≤ (wrap64 (Int.tdiv a1 8)) then (if (wrap64 (Int.tdiv a1 8)) < (l0.length : Int) then (if 0 ≤ (IntKind.u64.wrap (wrap64 (7 - (Int.tmod a1 8)))) then (some (Go.bits .and .i64 (wrap64 (shr .u8 (rd l0 (wrap64 (Int.tdiv a1 8))) (IntKind.u64.wrap (wrap64 (7 - (Int.tmod a1 8)))))) 1)) else (none)) else (none)) else (none))) = some r := h
  clear h
  by_cases c3 : (wrap64 (Int.tdiv a1 8)) ≥ (l0.length : Int)
  · rw [if_pos c3] at H
    have c3b0 : decide ((l0.length : Int) ≤ (wrap64 (Int.tdiv a1 8))) = true := decide_eq_true c3
    clear c3
    obtain rfl := Option.some.inj H
    go_enter Try.func46, Try.ntmps46
    go_wp2
    go_ret
    exact ⟨by first | rfl | (simp; done) | (simp [*]; done), by repeat (first | exact Drawn0.refl _ | apply Drawn0.step)⟩
  · rw [if_neg c3] at H
    have c3b0 : decide ((l0.length : Int) ≤ (wrap64 (Int.tdiv a1 8))) = false := decide_eq_false c3
    clear c3
    obtain ⟨ji4, hji4⟩ : ∃ j_ : Int, (wrap64 (Int.tdiv a1 8)) = j_ := ⟨_, rfl⟩
    replace H : (if 0 ≤ (ji4) then (if (ji4) < (l0.length : Int) then (if 0 ≤ (IntKind.u64.wrap (wrap64 (7 - (Int.tmod a1 8)))) then (some (Go.bits .and .i64 (wrap64 (shr .u8 (rd l0 (ji4)) (IntKind.u64.wrap (wrap64 (7 - (Int.tmod a1 8)))))) 1)) else (none)) else (none)) else (none)) = some r := by first | (rw [hji4] at H; exact H) | (simp only [hji4] at H ⊢; exact H)
    (try rw [hji4] at c3b0)
    have hji4w : (IntKind.i64.wrap (Int.tdiv a1 8)) = ji4 := (i64_w _).trans hji4
    by_cases c5 : 0 ≤ (ji4)
    · rw [if_pos c5] at H
      have c5b0 : decide (0 ≤ (ji4)) = true := decide_eq_true c5
      clear c5
      by_cases c6 : (ji4) < (l0.length : Int)
      · rw [if_pos c6] at H
        have c6b0 : decide ((ji4) < (l0.length : Int)) = true := decide_eq_true c6
        clear c6
        obtain ⟨ji7, hji7⟩ : ∃ j_ : Int, (IntKind.u64.wrap (wrap64 (7 - (Int.tmod a1 8)))) = j_ := ⟨_, rfl⟩
        replace H : (if 0 ≤ (ji7) then (some (Go.bits .and .i64 (wrap64 (shr .u8 (rd l0 (ji4)) (ji7))) 1)) else (none)) = some r := by first | (rw [hji7] at H; exact H) | (simp only [hji7] at H ⊢; exact H)
        by_cases c8 : 0 ≤ (ji7)
        · rw [if_pos c8] at H
          have c8b0 := eq_true c8
          have c8b1 : decide (0 ≤ (ji7)) = true := decide_eq_true c8
          clear c8
          obtain ⟨ji9, hji9⟩ : ∃ j_ : Int, (shr .u8 (rd l0 (ji4)) (ji7)) = j_ := ⟨_, rfl⟩
          replace H : (some (Go.bits .and .i64 (wrap64 (ji9)) 1)) = some r := by first | (rw [hji9] at H; exact H) | (simp only [hji9] at H ⊢; exact H)
          have hji9_ : ((rd l0 (ji4)) / 2 ^ min (ji7).toNat 8) = ji9 := hji9
          have hji9z : (ji7) ≤ 8 → ((rd l0 (ji4)) / 2 ^ (ji7).toNat) = ji9 := shr_small hji9
          obtain rfl := Option.some.inj H
          have p46001 : 0 ≤ ((ji4) : Int) := of_decide_eq_true (by first | (with_reducible assumption) | assumption)
          have q46001 : (ji4) < (l0.length : Int) := of_decide_eq_true (by first | (with_reducible assumption) | assumption)
          obtain ⟨ad46001, e46001, hx46001_0⟩ := Kd.at_int HR0.out (ji4) p46001 q46001
          cases e46001
          replace p46001 := eq_true p46001
          replace q46001 := eq_true q46001
          go_enter Try.func46, Try.ntmps46
          go_wp2
          go_ret
          exact ⟨by first | rfl | (simp; done) | (simp only [← hji4, ← hji7, ← hji9] <;> (first | rfl | simp)) | (simp [*]; done), by repeat (first | exact Drawn0.refl _ | apply Drawn0.step)⟩
        · rw [if_neg c8] at H
          exact absurd H (by simp)
      · rw [if_neg c6] at H
        exact absurd H (by simp)
    · rw [if_neg c5] at H
      exact absurd H (by simp)
mutual
def hustingsref01_Encode.l0 : Nat → List Int → Bool → List Int → Int → Option (ByteArray)
  | 0, _, _, _, _ => none
  | k + 1, x0, x1, x5, x6 => if x6 < (wrap64 (8 * (x0.length : Int))) then (hustingsref01_Encode.l1 k x0 x1 x5 x6 0 0) else (some (strOfNums x5))
def hustingsref01_Encode.l1 : Nat → List Int → Bool → List Int → Int → Int → Int → Option (ByteArray)
  | 0, _, _, _, _, _, _ => none
  | k + 1, x0, x1, x5, x6, x7, x8 => if x8 < 6 then ((hustingsref01_bit.f x0 (wrap64 (x6 + x8))).bind fun t35001 => (hustingsref01_Encode.l1 k x0 x1 x5 x6 (wrap64 ((wrap64 (2 * x7)) + t35001)) (wrap64 (x8 + 1)))) else ((hustingsref01_Letter.f x7 x1).bind fun t35002 => (if x5.length < 140737488355328 then (hustingsref01_Encode.l0 k x0 x1 (x5 ++ [t35002]) (wrap64 (x6 + 6))) else (none)))
end
def hustingsref01_Encode.f (k : Nat) (l0 : List Int) (a1 : Bool) : Option (ByteArray) := hustingsref01_Encode.l0 k l0 a1 ([] : List Int) 0
theorem hustingsref01_Encode.mono_l : ∀ k, (∀ y0 y1 y2 y3, LeO (hustingsref01_Encode.l0 k y0 y1 y2 y3) (hustingsref01_Encode.l0 (k + 1) y0 y1 y2 y3)) ∧ (∀ y0 y1 y2 y3 y4 y5, LeO (hustingsref01_Encode.l1 k y0 y1 y2 y3 y4 y5) (hustingsref01_Encode.l1 (k + 1) y0 y1 y2 y3 y4 y5))
  | 0 => ⟨fun _ _ _ _ r h => by simp [hustingsref01_Encode.l0] at h, fun _ _ _ _ _ _ r h => by simp [hustingsref01_Encode.l1] at h⟩
  | k + 1 => by
    obtain ⟨ih0, ih1⟩ := hustingsref01_Encode.mono_l k
    refine ⟨?_, ?_⟩
    · intro y0 y1 y2 y3
      unfold hustingsref01_Encode.l0
      repeat' first
      | (with_reducible exact ih0 _ _ _ _)
      | (with_reducible exact ih1 _ _ _ _ _ _)
      | (with_reducible exact LeO.refl _)
      | (with_reducible exact LeO.none _)
      | (with_reducible refine LeO.ite ?_ ?_)
      | (with_reducible refine LeO.bind ?_ (fun _ => ?_))
      | exact ih0 _ _ _ _
      | exact ih1 _ _ _ _ _ _
      | exact LeO.none _
      | refine LeO.ite ?_ ?_
      | refine LeO.bind ?_ (fun _ => ?_)
    · intro y0 y1 y2 y3 y4 y5
      unfold hustingsref01_Encode.l1
      repeat' first
      | (with_reducible exact ih0 _ _ _ _)
      | (with_reducible exact ih1 _ _ _ _ _ _)
      | (with_reducible exact LeO.refl _)
      | (with_reducible exact LeO.none _)
      | (with_reducible refine LeO.ite ?_ ?_)
      | (with_reducible refine LeO.bind ?_ (fun _ => ?_))
      | exact ih0 _ _ _ _
      | exact ih1 _ _ _ _ _ _
      | exact LeO.none _
      | refine LeO.ite ?_ ?_
      | refine LeO.bind ?_ (fun _ => ?_)
theorem hustingsref01_Encode.mono : ∀ a0 a1 k, LeO (hustingsref01_Encode.f k a0 a1) (hustingsref01_Encode.f (k + 1) a0 a1) := by
  intro a0 a1 k
  obtain ⟨ih0, ih1⟩ := hustingsref01_Encode.mono_l k
  unfold hustingsref01_Encode.f
  repeat' first
      | (with_reducible exact ih0 _ _ _ _)
      | (with_reducible exact ih1 _ _ _ _ _ _)
      | (with_reducible exact LeO.refl _)
      | (with_reducible exact LeO.none _)
      | (with_reducible refine LeO.ite ?_ ?_)
      | (with_reducible refine LeO.bind ?_ (fun _ => ?_))
      | exact ih0 _ _ _ _
      | exact ih1 _ _ _ _ _ _
      | exact LeO.none _
      | refine LeO.ite ?_ ?_
      | refine LeO.bind ?_ (fun _ => ?_)
set_option maxHeartbeats 8000000 in
set_option maxRecDepth 100000 in
theorem hustingsref01_Encode.calls (k : Nat) (A0 : Option Addr) (c0 : Nat) (l0 : List Int) (a1 : Bool) (r : ByteArray) (w : World) (hr0 : Kd.C (Kd.int .u8) w A0 l0.length l0) (hc0 : l0.length ≤ c0) (h : hustingsref01_Encode.f k l0 a1 = some r) :
    Calls Try.prog 35 #[.slice A0 l0.length c0, .bool a1] w fun e w' => e = .returned (.string r) ∧ Below w.heap.size w w' := by
  have HR0 := Aside0.mk hr0
  have HC0 := Aside0.mk hc0
  clear hr0 hc0
  have HB := Aside0.mk (Below.refl w.heap.size w)
  have H : (hustingsref01_Encode.l0 k l0 a1 ([] : List Int) 0) = some r := h
  clear h
  have H' := Aside0.mk H
  clear H
  go_enter Try.func35, Try.ntmps35
  go_wp2
  go_loopg [5, 6] k (fun kq v5 v6 w' => ∃ (x5_1 : List Int) (x6_1 : Int), v6 = .int .i64 x6_1 ∧ Aside0 (hustingsref01_Encode.l0 kq l0 a1 x5_1 x6_1 = some r) ∧ Aside0 (kq ≤ k) ∧ Aside0 (Kd.R (Kd.int .u8) 5 w' w.heap.size (fun _ => True) v5 x5_1) ∧ Aside0 (Below w.heap.size w w'))
  case atStart => exact ⟨(([] : List Int)), (0), (by first | rfl | (simp; done) | (simp [*]; done)), H', ⟨Nat.le_refl _⟩, ⟨by first | exact Kd.R_nil _ _ _ _ _ | exact Kd.N_nil _ _ _ _ _ | exact Kd.V_nil _ _ _ _ _ | exact Kd.Q_nil _ _ _ _ _ | exact Kd.S_nil _ _ _ _ _⟩, ⟨by repeat (first | (with_reducible first | exact HB.out | apply below_alloc | apply pw_below_drewN | apply below_drew1) | exact HB.out)⟩⟩
  case round =>
    clear H'
    try clear p2
    obtain ⟨x5_1, x6_1, rfl, HA, HK1, HO_5, HB⟩ := hrel
    cases gk with
    | zero => exact absurd HA.out (by simp [hustingsref01_Encode.l0])
    | succ k1 =>
      have H := HA.out
      clear HA
      simp only [hustingsref01_Encode.l0] at H
      by_cases c3 : x6_1 < (wrap64 (8 * (l0.length : Int)))
      · rw [if_pos c3] at H
        have c3b0 : decide (x6_1 < (wrap64 (8 * (l0.length : Int)))) = true := decide_eq_true c3
        clear c3
        have H' := Aside0.mk H
        clear H
        go_wp2
        go_loopg [7, 8] k1 (fun kq v7 v8 w' => ∃ (x7_2 : Int) (x8_2 : Int), v7 = .int .i64 x7_2 ∧ v8 = .int .i64 x8_2 ∧ Aside0 (hustingsref01_Encode.l1 kq l0 a1 x5_1 x6_1 x7_2 x8_2 = some r) ∧ Aside0 (kq ≤ k1) ∧ Aside0 (Kd.R (Kd.int .u8) 5 w' w.heap.size (fun _ => True) u5 x5_1) ∧ Aside0 (Below w.heap.size w w'))
        case atStart => exact ⟨(0), (0), (by first | rfl | (simp; done) | (simp [*]; done)), (by first | rfl | (simp; done) | (simp [*]; done)), H', ⟨Nat.le_refl _⟩, ⟨by (with_reducible repeat (first | apply Kd.R_alloc | apply Kd.R_drewN | apply Kd.R_drew)); exact HO_5.out⟩, ⟨by repeat (first | (with_reducible first | exact HB.out | apply below_alloc | apply pw_below_drewN | apply below_drew1) | exact HB.out)⟩⟩
        case round =>
          clear H'
          try clear p2
          try clear c3
          try clear c3b0
          try clear p2
          obtain ⟨x7_2, x8_2, rfl, rfl, HA, HK2, HO_5, HB⟩ := hrel
          cases gk with
          | zero => exact absurd HA.out (by simp [hustingsref01_Encode.l1])
          | succ k2 =>
            have H := HA.out
            clear HA
            simp only [hustingsref01_Encode.l1] at H
            by_cases c4 : x8_2 < 6
            · rw [if_pos c4] at H
              have c4b0 : decide (x8_2 < 6) = true := decide_eq_true c4
              clear c4
              replace H := Option.bind_eq_some_iff.mp H
              obtain ⟨t35001, A50, H⟩ := H
              replace H : (hustingsref01_Encode.l1 k2 l0 a1 x5_1 x6_1 (wrap64 ((wrap64 (2 * x7_2)) + t35001)) (wrap64 (x8_2 + 1))) = some r := H
              have A5 := Aside0.mk A50
              clear A50
              have H' := Aside0.mk H
              clear H
              go_wp2_with (first | ((with_reducible refine gate_callee (f := 46) rfl ?_); refine goesL_ (some 26) rfl rfl Try.func46 (by kernel_rfl) rfl #[.slice A0 l0.length c0, .int .i64 (wrap64 (x6_1 + x8_2))] rfl (by (try simp only [List.map_toArray, List.map_cons, List.map_nil]); first | done | rfl | (simp only [List.length_drop, List.length_take]; rfl)) ?_; (with_reducible refine (hustingsref01_bit.calls _ _ l0 (wrap64 (x6_1 + x8_2)) t35001 _ ?side1 ?side2 A5.out).mono ?_); (case side1 => repeat (first | exact (Kd.C_below HR0.out HB.out) | (with_reducible refine Kd.C_alloc ?_ _) | (with_reducible refine Kd.C_drewN ?_ _) | (with_reducible refine Kd.C_drew ?_))); (case side2 => exact HC0.out); rintro e w' ⟨rfl, ⟨nd, rfl⟩⟩; refine ⟨_, rfl, ?_⟩))
              go_roundg k2
              case measure => have := HK1.out; have := HK2.out; omega
              case rel => exact ⟨(wrap64 ((wrap64 (2 * x7_2)) + t35001)), (wrap64 (x8_2 + 1)), (by first | rfl | (simp; done) | (simp [*]; done)), (by first | rfl | (simp; done) | (simp [*]; done)), H', ⟨by have := HK1.out; have := HK2.out; omega⟩, ⟨by (with_reducible repeat (first | apply Kd.R_alloc | apply Kd.R_drewN | apply Kd.R_drew)); exact HO_5.out⟩, ⟨by repeat (first | (with_reducible first | exact HB.out | apply below_alloc | apply pw_below_drewN | apply below_drew1) | exact HB.out)⟩⟩
            · rw [if_neg c4] at H
              have c4b0 : decide (x8_2 < 6) = false := decide_eq_false c4
              clear c4
              replace H := Option.bind_eq_some_iff.mp H
              obtain ⟨t35002, A60, H⟩ := H
              replace H : (if x5_1.length < 140737488355328 then (hustingsref01_Encode.l0 k2 l0 a1 (x5_1 ++ [t35002]) (wrap64 (x6_1 + 6))) else (none)) = some r := H
              have A6 := Aside0.mk A60
              clear A60
              by_cases c7 : x5_1.length < 140737488355328
              · rw [if_pos c7] at H
                have LMc7 := Aside0.mk c7
                clear c7
                obtain ⟨y35003, hy35003⟩ : ∃ y_ : List Int, y_ = (x5_1 ++ [t35002]) := ⟨_, rfl⟩
                replace H : (hustingsref01_Encode.l0 k2 l0 a1 y35003 (wrap64 (x6_1 + 6))) = some r := by first | (rw [hy35003]; with_reducible exact H) | (have H2_ := (Option.bind_some _ _).symm.trans H; rw [hy35003]; with_reducible exact H2_) | (have H2_ := (Option.bind_some _ _).symm.trans H; with_reducible exact H2_) | with_reducible exact H | (rw [hy35003]; exact H) | exact H
                have Ny35003 := Aside0.mk hy35003
                clear hy35003
                have H' := Aside0.mk H
                clear H
                go_wp2_with (first | ((with_reducible refine gate_callee (f := 45) rfl ?_); refine goesL_ (some 31) rfl rfl Try.func45 (by kernel_rfl) rfl #[.int .i64 x7_2, .bool a1] rfl (by (try simp only [List.map_toArray, List.map_cons, List.map_nil]); first | done | rfl | (simp only [List.length_drop, List.length_take]; rfl)) ?_; (with_reducible refine (hustingsref01_Letter.calls x7_2 a1 t35002 _ A6.out).mono ?_); rintro e w' ⟨rfl, ⟨nd, rfl⟩⟩; refine ⟨_, rfl, ?_⟩) | ((with_reducible refine gate_builtin (b := .append) (xs := #[.tmp 28, .tmp 32]) rfl ?_); at_builtin; refine Kd.R_append (Kd.int .u8) (w0 := w) w.heap.size rfl (.tmp 28) (.tmp 32) 58 5 (.int .u8 0) 1 rfl Try.underlying58 info5 rfl (by decide) (by omega) u5 x5_1 t35002 [.int .u8 t35002] (fun _ => True) (fun _ => False) rfl rfl ?aP (fun _ hk => hk.elim) ?aF ?aO ?aB ?aS ?aL ?_; (case aP => exact rfl); (case aB => exact (by repeat (first | (with_reducible first | exact HB.out | apply below_alloc | apply pw_below_drewN | apply below_drew1) | exact HB.out))); (case aF => exact (fun _ _ => trivial)); (case aO => exact (by (with_reducible repeat (first | apply Kd.R_alloc | apply Kd.R_drewN | apply Kd.R_drew)); exact HO_5.out)); (case aS => exact (below_size (by repeat (first | (with_reducible first | exact HB.out | apply below_alloc | apply pw_below_drewN | apply below_drew1) | exact HB.out)))); (case aL => have := LMc7.out; omega); intro v35004 w8 ho hb hg hat; rw [← Ny35003.out] at ho; have n0_ := Aside0.mk (hb); have n1_ := Aside0.mk (ho); clear HB; clear HO_5; have HB := n0_; have HO35005 := n1_; clear n0_ n1_; clear ho hb hg hat))
                go_roundg k2
                case measure => have := HK1.out; have := HK2.out; omega
                case rel => exact ⟨(y35003), (wrap64 (x6_1 + 6)), (by first | rfl | (simp; done) | (simp [*]; done)), H', ⟨by have := HK1.out; have := HK2.out; omega⟩, ⟨by (with_reducible repeat (first | apply Kd.R_alloc | apply Kd.R_drewN | apply Kd.R_drew)); exact HO35005.out⟩, ⟨by repeat (first | (with_reducible first | exact HB.out | apply below_alloc | apply pw_below_drewN | apply below_drew1) | exact HB.out)⟩⟩
              · rw [if_neg c7] at H
                exact absurd H (by simp)
      · rw [if_neg c3] at H
        have c3b0 : decide (x6_1 < (wrap64 (8 * (l0.length : Int)))) = false := decide_eq_false c3
        clear c3
        obtain rfl := Option.some.inj H
        have hcv9 := own_string (P := Try.prog) Try.underlying58 Try.underlying5 Try.underlying9 (Kd.own_of_R HO_5.out)
        go_wp2
        go_ret
        exact ⟨by first | rfl | (simp [errW_none, errW_some] <;> rfl) | (simp [*, errW_none, errW_some] <;> rfl), by repeat (first | (with_reducible first | exact HB.out | apply below_alloc | apply pw_below_drewN | apply below_drew1) | exact HB.out)⟩
end Go.Proofs.Ytdleomeiojlooaa.P
end

section
namespace Go.Proofs.Ytdleomeiojlooaa.L
set_option linter.unusedVariables false
set_option linter.unusedSimpArgs false
open Go.RowKit Go.Proofs.YtdleomeiojlooaaW.PrintWords Go.Proofs.YtdleomeiojlooaaW.PrintLast Go.Proofs.YtdleomeiojlooaaW.PrintMore Go.Proofs.Ytdleomeiojlooaa.P
def enc6 : List Int → List Int
  | a :: b :: c :: t => a / 4 :: (a % 4 * 16 + b / 16) :: (b % 16 * 4 + c / 64) :: c % 64 :: enc6 t
  | [a, b] => [a / 4, a % 4 * 16 + b / 16, b % 16 * 4]
  | [a] => [a / 4, a % 4 * 16]
  | [] => []
def abc (u : Bool) : ByteArray := if u then ⟨#[65, 66, 67, 68, 69, 70, 71, 72, 73, 74, 75, 76, 77, 78, 79, 80, 81, 82, 83, 84, 85, 86, 87, 88, 89, 90, 97, 98, 99, 100, 101, 102, 103, 104, 105, 106, 107, 108, 109, 110, 111, 112, 113, 114, 115, 116, 117, 118, 119, 120, 121, 122, 48, 49, 50, 51, 52, 53, 54, 55, 56, 57, 45, 95]⟩ else ⟨#[65, 66, 67, 68, 69, 70, 71, 72, 73, 74, 75, 76, 77, 78, 79, 80, 81, 82, 83, 84, 85, 86, 87, 88, 89, 90, 97, 98, 99, 100, 101, 102, 103, 104, 105, 106, 107, 108, 109, 110, 111, 112, 113, 114, 115, 116, 117, 118, 119, 120, 121, 122, 48, 49, 50, 51, 52, 53, 54, 55, 56, 57, 43, 47]⟩
theorem abc_size (u : Bool) : (abc u).size = 64 := by cases u <;> rfl
theorem alphabet_eq (u : Bool) : letters_alphabet.f u = some (abc u) := by cases u <;> rfl
def ltr (u : Bool) (n : Int) : Int := bt (abc u) n
def encS (l : List Int) (u : Bool) : ByteArray := strOfNums ((enc6 l).map (ltr u))
def Bs (l : List Int) : Prop := ∀ x ∈ l, 0 ≤ x ∧ x ≤ 255
theorem Bs.tail {a : Int} {l : List Int} (h : Bs (a :: l)) : Bs l := fun x hx => h x (List.mem_cons_of_mem _ hx)
theorem Bs.head {a : Int} {l : List Int} (h : Bs (a :: l)) : 0 ≤ a ∧ a ≤ 255 := h a List.mem_cons_self
theorem drop_cons {l : List Int} {i : Nat} {a : Int} {t : List Int} (h : l.drop i = a :: t) : i < l.length ∧ rd l i = a ∧ l.drop (i + 1) = t := by
  have hlt : i < l.length := by
    rcases Nat.lt_or_ge i l.length with h' | h'
    · exact h'
    · rw [List.drop_eq_nil_of_le h'] at h; cases h
  rw [List.drop_eq_getElem_cons hlt] at h
  injection h with h1 h2
  refine ⟨hlt, ?_, h2⟩
  simp [rd, hlt, h1]
theorem drop_nil {l : List Int} {i : Nat} (h : l.drop i = []) : l.length ≤ i := by simpa using h
def more (h a : Int) : Int := (h * 256) % 18446744073709551616 + a
theorem more_eq (h a : Int) (ha : 0 ≤ a ∧ a ≤ 255) : Go.bits .or .u64 (IntKind.u64.wrap (h * 256)) (IntKind.u64.wrap a) = more h a := by
  have e1 : IntKind.u64.wrap (h * 256) = (h * 256) % 18446744073709551616 := by simp [IntKind.wrap, IntKind.bits, IntKind.signed]
  have e2 : IntKind.u64.wrap a = a := by simp [IntKind.wrap, IntKind.bits, IntKind.signed]; omega
  rw [e1, e2, u64_or _ _ (by omega) (by omega) (by omega) (by omega)]
  rw [nat_join 8 _ _ (by omega) (by omega)]
  unfold more
  omega
theorem more_range (h a : Int) (ha : 0 ≤ a ∧ a ≤ 255) : 0 ≤ more h a ∧ more h a < 18446744073709551616 := by unfold more; omega
theorem and63 (x : Int) (h0 : 0 ≤ x) (h1 : x < 18446744073709551616) : Go.bits .and .u64 x 63 = x % 64 := by
  rw [u64_and _ _ h0 h1 (by omega) (by omega)]
  have : (63 : Int).toNat = 63 := rfl
  rw [this, nat_mask6]
  omega
theorem shr_range (x j : Int) (h0 : 0 ≤ x) (h1 : x < 18446744073709551616) : 0 ≤ shr .u64 x j ∧ shr .u64 x j < 18446744073709551616 := by
  unfold shr
  have hp : (0 : Int) < 2 ^ min j.toNat IntKind.u64.bits := Int.pow_pos (by omega)
  refine ⟨Int.ediv_nonneg h0 (by omega), ?_⟩
  have : x / 2 ^ min j.toNat IntKind.u64.bits ≤ x := Int.ediv_le_self _ h0
  omega
theorem enc_l1_exit (k : Nat) (A : ByteArray) (out : List Int) (h b : Int) (l : List Int) (n i : Int) (hb : b < 6) :
    letters_Encode.l1 (k + 1) A out h b l n i = letters_Encode.l0 k A out h b l n (wrap64 (i + 1)) := by
  simp only [letters_Encode.l1]
  rw [if_neg (by omega)]
theorem enc_l1_round (k : Nat) (A : ByteArray) (out : List Int) (h b : Int) (l : List Int) (n i : Int) (hA : A.size = 64) (hb : 6 ≤ b) (hb2 : b ≤ 64) (h0 : 0 ≤ h) (h1 : h < 18446744073709551616) (ho : out.length < 140737488355328) :
    letters_Encode.l1 (k + 1) A out h b l n i = letters_Encode.l1 k A (out ++ [bt A (h / 2 ^ (b - 6).toNat % 64)]) h (b - 6) l n i := by
  have hw : wrap64 (b - 6) = b - 6 := by unfold wrap64; omega
  have hs : shr .u64 h (b - 6) = h / 2 ^ (b - 6).toNat := by
    unfold shr; rw [Nat.min_eq_left (by simp [IntKind.bits]; omega)]
  have hr := shr_range h (b - 6) h0 h1
  simp only [letters_Encode.l1]
  rw [if_pos (by omega), hw, if_pos (by omega), hs] at *
  rw [and63 _ hr.1 hr.2, hA, if_pos (by omega), if_pos (by omega), if_pos ho]
theorem enc_l0_round (k : Nat) (A : ByteArray) (out : List Int) (h b : Int) (l : List Int) (i : Nat) (a : Int) (t : List Int) (hd : l.drop i = a :: t) (ha : 0 ≤ a ∧ a ≤ 255) (hb0 : 0 ≤ b) (hb : b < 6) :
    letters_Encode.l0 (k + 1) A out h b l l.length i = letters_Encode.l1 k A out (more h a) (b + 8) l l.length i := by
  obtain ⟨hlt, hrd, _⟩ := drop_cons hd
  have hw : wrap64 (b + 8) = b + 8 := by unfold wrap64; omega
  simp only [letters_Encode.l0]
  rw [if_pos (by omega), if_pos (by omega), if_pos (by omega), hrd, more_eq h a ha, hw]
theorem wrap_i (i : Nat) (hi : i < 140737488355328) : wrap64 ((i : Int) + 1) = ((i + 1 : Nat) : Int) := by unfold wrap64; omega
theorem enc_loop (u : Bool) (l : List Int) (hl : l.length ≤ 1099511627776) : ∀ (m : Nat) (t : List Int), t.length ≤ m → Bs t → ∀ (i : Nat) (out : List Int) (h : Int) (k : Nat), l.drop i = t → out.length ≤ 2 * i → 4 * t.length + 5 ≤ k →
    letters_Encode.l0 k (abc u) out h 0 l l.length i = some (strOfNums (out ++ (enc6 t).map (ltr u))) := by
  intro m
  induction m with
  | zero =>
    intro t ht hBt i out h k hd ho hk
    have : t = [] := List.eq_nil_of_length_eq_zero (by omega)
    subst this
    obtain ⟨k, rfl⟩ : ∃ j, k = j + 1 := ⟨k - 1, by omega⟩
    have := drop_nil hd
    simp only [letters_Encode.l0]
    rw [if_neg (by omega), if_neg (by omega)]
    simp [enc6]
  | succ m ih =>
    intro t ht hBt i out h k hd ho hk
    match t, hd, ht, hBt with
    | [], hd, ht, hBt =>
      obtain ⟨k, rfl⟩ : ∃ j, k = j + 1 := ⟨k - 1, by omega⟩
      have := drop_nil hd
      simp only [letters_Encode.l0]
      rw [if_neg (by omega), if_neg (by omega)]
      simp [enc6]
    | a :: t1, hd, ht, hBt =>
      obtain ⟨k, rfl⟩ : ∃ j, k = j + 3 := ⟨k - 3, by simp at hk; omega⟩
      have ha := hBt.head
      obtain ⟨hlt, _, hd1⟩ := drop_cons hd
      have r1 := more_range h a ha
      rw [enc_l0_round (k + 2) (abc u) out h 0 l i a t1 hd ha (by omega) (by omega)]
      rw [enc_l1_round (k + 1) (abc u) out (more h a) (0 + 8) l l.length i (abc_size u) (by omega) (by omega) r1.1 r1.2 (by omega)]
      rw [enc_l1_exit k _ _ _ _ _ _ _ (by omega), wrap_i i (by omega)]
      have v1 : more h a / 2 ^ ((0 : Int) + 8 - 6).toNat % 64 = a / 4 := by
        show more h a / 2 ^ 2 % 64 = _
        unfold more; omega
      rw [v1]
      match t1, hd1, ht, hBt with
      | [], hd1, ht, hBt =>
        obtain ⟨k, rfl⟩ : ∃ j, k = j + 1 := ⟨k - 1, by simp at hk; omega⟩
        have := drop_nil hd1
        simp only [letters_Encode.l0]
        have hw : wrap64 (6 - (0 + 8 - 6)) = 4 := by unfold wrap64; omega
        have hs : shl .u64 (more h a) 4 = (more h a * 16) % 18446744073709551616 := by
          unfold shl; simp [IntKind.wrap, IntKind.bits, IntKind.signed]
        rw [if_neg (by omega), if_pos (by omega), hw, if_pos (by omega), hs, and63 _ (by omega) (by omega), abc_size, if_pos (by omega), if_pos (by omega), if_pos (by simp; omega)]
        have v2 : more h a * 16 % 18446744073709551616 % 64 = a % 4 * 16 := by unfold more; omega
        rw [v2]
        simp [enc6, ltr]
      | b :: t2, hd1, ht, hBt =>
        obtain ⟨k, rfl⟩ : ∃ j, k = j + 3 := ⟨k - 3, by simp at hk; omega⟩
        have hb := hBt.tail.head
        obtain ⟨hlt1, _, hd2⟩ := drop_cons hd1
        have r2 := more_range (more h a) b hb
        rw [enc_l0_round (k + 2) (abc u) _ _ _ l (i + 1) b t2 hd1 hb (by omega) (by omega)]
        rw [enc_l1_round (k + 1) (abc u) _ _ _ l l.length _ (abc_size u) (by omega) (by omega) r2.1 r2.2 (by simp; omega)]
        rw [enc_l1_exit k _ _ _ _ _ _ _ (by omega), wrap_i (i + 1) (by omega)]
        have v2 : more (more h a) b / 2 ^ ((0 : Int) + 8 - 6 + 8 - 6).toNat % 64 = a % 4 * 16 + b / 16 := by
          show more (more h a) b / 2 ^ 4 % 64 = _
          unfold more; omega
        rw [v2]
        match t2, hd2, ht, hBt with
        | [], hd2, ht, hBt =>
          obtain ⟨k, rfl⟩ : ∃ j, k = j + 1 := ⟨k - 1, by simp at hk; omega⟩
          have := drop_nil hd2
          simp only [letters_Encode.l0]
          have hw : wrap64 (6 - (0 + 8 - 6 + 8 - 6)) = 2 := by unfold wrap64; omega
          have hs : shl .u64 (more (more h a) b) 2 = (more (more h a) b * 4) % 18446744073709551616 := by
            unfold shl; simp [IntKind.wrap, IntKind.bits, IntKind.signed]
          rw [if_neg (by omega), if_pos (by omega), hw, if_pos (by omega), hs, and63 _ (by omega) (by omega), abc_size, if_pos (by omega), if_pos (by omega), if_pos (by simp; omega)]
          have v3 : more (more h a) b * 4 % 18446744073709551616 % 64 = b % 16 * 4 := by unfold more; omega
          rw [v3]
          simp [enc6, ltr]
        | c :: t3, hd2, ht, hBt =>
          obtain ⟨k, rfl⟩ : ∃ j, k = j + 4 := ⟨k - 4, by simp at hk; omega⟩
          have hc := hBt.tail.tail.head
          obtain ⟨hlt2, _, hd3⟩ := drop_cons hd2
          have r3 := more_range (more (more h a) b) c hc
          rw [enc_l0_round (k + 3) (abc u) _ _ _ l (i + 1 + 1) c t3 hd2 hc (by omega) (by omega)]
          rw [enc_l1_round (k + 2) (abc u) _ _ _ l l.length _ (abc_size u) (by omega) (by omega) r3.1 r3.2 (by simp; omega)]
          rw [enc_l1_round (k + 1) (abc u) _ _ _ l l.length _ (abc_size u) (by omega) (by omega) r3.1 r3.2 (by simp; omega)]
          rw [enc_l1_exit k _ _ _ _ _ _ _ (by omega), wrap_i (i + 1 + 1) (by omega)]
          have v3 : more (more (more h a) b) c / 2 ^ ((0 : Int) + 8 - 6 + 8 - 6 + 8 - 6).toNat % 64 = b % 16 * 4 + c / 64 := by
            show more (more (more h a) b) c / 2 ^ 6 % 64 = _
            unfold more; omega
          have v4 : more (more (more h a) b) c / 2 ^ ((0 : Int) + 8 - 6 + 8 - 6 + 8 - 6 - 6).toNat % 64 = c % 64 := by
            show more (more (more h a) b) c / 2 ^ 0 % 64 = _
            unfold more; omega
          rw [v3, v4]
          have z : (0 : Int) + 8 - 6 + 8 - 6 + 8 - 6 - 6 = 0 := by omega
          rw [z, ih t3 (by simp at ht; omega) hBt.tail.tail.tail (i + 1 + 1 + 1) _ _ k hd3 (by simp; omega) (by simp at hk; omega)]
          simp [enc6, ltr]
theorem encode_eq (u : Bool) (l : List Int) (hB : Bs l) (hl : l.length ≤ 1099511627776) {k : Nat} (hk : 4 * l.length + 5 ≤ k) : letters_Encode.f k l u = some (encS l u) := by
  unfold letters_Encode.f
  rw [alphabet_eq]
  simp only [Option.bind_some]
  have := enc_loop u l hl l.length l (Nat.le_refl _) hB 0 [] 0 k rfl (by simp) hk
  rw [List.nil_append] at this
  exact this
def six (f : Nat → Int) (p : Nat) : Int := f p * 32 + f (p + 1) * 16 + f (p + 2) * 8 + f (p + 3) * 4 + f (p + 4) * 2 + f (p + 5)
theorem enc_calls (A : Option Addr) (c : Nat) (l : List Int) (u : Bool) (w : World) (hr0 : Kd.C (Kd.int .u8) w A l.length l) (hc0 : l.length ≤ c) (hB : Bs l) (hl : l.length ≤ 1073741824) :
    Calls Try.prog 37 #[.slice A l.length c, .bool u] w fun e w' => e = .returned (.string (encS l u)) ∧ Below w.heap.size w w' :=
  letters_Encode.calls (4 * l.length + 5) A c l u (encS l u) w hr0 hc0 (encode_eq u l hB (by omega) (Nat.le_refl _))
end Go.Proofs.Ytdleomeiojlooaa.L
end

section
namespace Go.Proofs.Ytdleomeiojlooaa.P
set_option linter.unusedVariables false
set_option linter.unusedSimpArgs false
open Go.RowKit Go.ChangeShapes Go.WideShapes Go.Proofs.YtdleomeiojlooaaW.PrintWords Go.Proofs.YtdleomeiojlooaaW.PrintLast Go.Proofs.YtdleomeiojlooaaW.PrintMore Go.Proofs.Ytdleomeiojlooaa.L
def BR (w : World) (v : Value) (s : ByteArray) : Prop := ∃ A c, v = .slice A (bytesOf s).length c ∧ (bytesOf s).length ≤ c ∧ Kd.C (Kd.int .u8) w A (bytesOf s).length (bytesOf s)
theorem BR.below {w w' : World} {v : Value} {s : ByteArray} (h : BR w v s) (hb : Below w.heap.size w w') : BR w' v s := by
  obtain ⟨A, c, h1, h2, h3⟩ := h
  exact ⟨A, c, h1, h2, Kd.C_below h3 hb⟩
theorem bytesOf_bs (s : ByteArray) : Bs (bytesOf s) := fun x hx => by
  unfold bytesOf at hx
  obtain ⟨b, _, rfl⟩ := List.mem_map.1 hx
  have := b.toNat_lt
  omega
theorem exec_bytes {P : Program} {o : Oper} {ev : Operand → Value} {w : World} {x : Operand} {src dst e : TypeId} {u : TypeDesc} {s : ByteArray} (ho : o.op = .convert src dst x) (hx : ev x = .string s) (hs : P.underlying src = some u) (hd : P.underlying dst = some (.slice e)) (he : P.underlying e = some (.int .u8)) (hsz : s.size ≤ 1073741824) :
    ∃ v w', (execOp ev o).run P w = .ok (.value v) w' ∧ BR w' v s ∧ Below w.heap.size w w' := by
  refine ⟨.slice (some ⟨w.heap.size, 0, none⟩) s.size (grownCap w s.size 0 e), Lib.bytesWorld w e s, ?_, ?_, bytes_below (Below.refl _ w) (Nat.le_refl _) e s⟩
  · unfold execOp; simp only [ho, hx, Sem.run_bind, print_bytes src dst e hs hd he s w]; rfl
  have h := bytes_reads w e s (by omega)
  refine ⟨some ⟨w.heap.size, 0, none⟩, grownCap w s.size 0 e, by rw [bytesOf_length], by rw [bytesOf_length]; exact grownCap_ge _ _ _ _, ?_⟩
  rw [bytesOf_length]
  exact Kd.C_of_reads (enc := Value.int .u8) (d := (0 : Int)) (h1 := fun _ => rfl) h
theorem br_enc {w : World} {v : Value} {s : ByteArray} (h : BR w v s) (hs : s.size ≤ 1073741824) : Calls Try.prog 37 #[v, .bool true] w fun e w' => e = .returned (.string (encS (bytesOf s) true)) ∧ Below w.heap.size w w' := by
  obtain ⟨A, c, rfl, h2, h3⟩ := h
  exact enc_calls A c (bytesOf s) true w h3 h2 (bytesOf_bs s) (by rw [bytesOf_length]; exact hs)
def lineS (s : ByteArray) : ByteArray := encS (bytesOf s) true ++ ⟨#[10]⟩
structure FT (wE : WX) (val : List (Option Value)) (cv : Nat) (s : ByteArray) (g n st : Nat) (f0 f1 : Nat → SC) (t : TypeId) (V : Nat → Value) (b : Nat → Bool) (w : World) : Prop where
  fr : Fr wE w
  fresh : wE.fresh g
  row0 : b st = false → Row w g () n f0 t
  row1 : b st = true → Row w g () n f1 t
  vs : ∀ i v, val[i]? = some (some v) → b i = true → V i = v
  br : b st = false → b cv = true → BR w (V cv) s
section
variable {P : Program} {ops : Array Oper} {Q : Exit → Act → World → Prop} {B O : List Nat} {a0 : Act} {i : Nat} {T : List (Nat × Tmp)} {wE : WX} {val : List (Option Value)} {cv : Nat} {s : ByteArray} {g n st : Nat} {f0 f1 : Nat → SC} {t : TypeId}
theorem setV_self {V : Nat → Value} {v : Value} : setV V i v i = v := if_pos rfl
theorem setV_other {V : Nat → Value} {v : Value} {j : Nat} (h : j ≠ i) : setV V i v j = V j := if_neg h
theorem up_other' {b : Nat → Bool} {j : Nat} (h : j ≠ i) : up b i j = b j := if_neg h
theorem FT.first {w : World} {t : TypeId} (V : Nat → Value) (h : Held wE w [⟨g, (), n, f0, t⟩]) : FT wE val cv s g n st f0 f1 t V (fun _ => false) w.drew :=
  ⟨h.1.drew, (h.2.1 _ List.mem_cons_self).1, fun _ => (h.2.1 _ List.mem_cons_self).2, fun q => (by cases q), fun _ _ _ q => (by cases q), fun _ q => (by cases q)⟩
theorem FT.held {V : Nat → Value} {b : Nat → Bool} {w : World} (h : FT wE val cv s g n st f0 f1 t V b w) (hb : b st = true) : Held wE w [⟨g, (), n, f1, t⟩] :=
  ⟨h.fr, fun r hr => by rw [List.mem_singleton] at hr; subst hr; exact ⟨h.fresh, h.row1 hb⟩, by simp⟩
theorem FT.step {V : Nat → Value} {b : Nat → Bool} {w w' : World} {v : Value} (h : FT wE val cv s g n st f0 f1 t V b w) (hb : Below w.heap.size w w') (hv : val[i]? = some (some v)) (hc : Nat.beq i cv = false) (hs : Nat.beq i st = false) : FT wE val cv s g n st f0 f1 t (setV V i v) (up b i) w' := by
  have hc : cv ≠ i := fun e => by subst e; rw [Nat.beq_refl] at hc; cases hc
  have hs : st ≠ i := fun e => by subst e; rw [Nat.beq_refl] at hs; cases hs
  refine ⟨h.fr.call hb, h.fresh, fun q => ?_, fun q => ?_, fun j u hj q => ?_, fun q0 q => ?_⟩
  · rw [up_other' hs] at q; exact (h.row0 q).below hb (h.row0 q).lt
  · rw [up_other' hs] at q; exact (h.row1 q).below hb (h.row1 q).lt
  · by_cases e : j = i
    · subst e; rw [setV_self]; rw [hv] at hj; exact Option.some.inj (Option.some.inj hj)
    · rw [setV_other e]; rw [up_other' e] at q; exact h.vs j u hj q
  · rw [setV_other hc]; rw [up_other' hc] at q; rw [up_other' hs] at q0; exact (h.br q0 q).below hb
theorem ft_run {N : Tmp} {oi : Oper} (k : Nat) (v : Value) (hLo : TOk T) (hoi : ops[i]? = some oi) (hN : oi.dst = some N) (hT : T[k]? = some (i, N)) (hg : ∀ V b, Region.wanted oi (yielded ops (act a0 T V b).tmps) = true) (hv : val[i]? = some (some v)) (hc : Nat.beq i cv = false) (hs : Nat.beq i st = false)
    (h : ∀ V b w, FT wE val cv s g n st f0 f1 t V b w → b i = false → Ons B O i b → Offs B O i b → (execOp (act a0 T V b).eval oi).run P w = .ok (.value v) w) : StepAt P ops Q B O (CI a0 T (FT wE val cv s g n st f0 f1 t)) i :=
  ci_run k hLo hoi hN hT hg (fun V b w hF hbi hon hoff => ⟨v, w, h V b w hF hbi hon hoff, hF.step (Below.refl _ w) hv hc hs⟩)
theorem ft_call {N : Tmp} {oi : Oper} {f : FuncId} {fn : Func} {asx : Array Operand} {ts : Array TypeId} (k : Nat) (v : Value) (hLo : TOk T) (hoi : ops[i]? = some oi) (hN : oi.dst = some N) (hT : T[k]? = some (i, N)) (hop : oi.op = .call { callee := .value (.func f), args := asx, argTypes := ts }) (hg : ∀ V b, Region.wanted oi (yielded ops (act a0 T V b).tmps) = true) (hv : val[i]? = some (some v)) (hc : Nat.beq i cv = false) (hs : Nat.beq i st = false)
    (hf : P.funcs[f]? = some fn) (hname : (fn.name == "runtime.NumGoroutine") = false) (hbd : fn.body.isSome = true)
    (h : ∀ V b w, FT wE val cv s g n st f0 f1 t V b w → b i = false → Ons B O i b → Offs B O i b → ∃ args, asx.map (act a0 T V b).eval = args ∧ Calls P f args w fun e w' => e = .returned v ∧ Below w.heap.size w w') : StepAt P ops Q B O (CI a0 T (FT wE val cv s g n st f0 f1 t)) i :=
  ci_call k hLo hoi hN hT hop hg hf hname hbd (fun V b w hF hbi hon hoff => by
    obtain ⟨args, ha, hcall⟩ := h V b w hF hbi hon hoff
    exact ⟨args, ha, hcall.mono (by rintro e w' ⟨rfl, hb⟩; exact ⟨v, rfl, hF.step hb hv hc hs⟩)⟩)
theorem ft_bytes {N : Tmp} {oi : Oper} {src dst e : TypeId} {u : TypeDesc} {x : Operand} (k : Nat) (hLo : TOk T) (hoi : ops[i]? = some oi) (hN : oi.dst = some N) (hT : T[k]? = some (i, N)) (hg : ∀ V b, Region.wanted oi (yielded ops (act a0 T V b).tmps) = true) (hv : val[i]? = some none) (hc : Nat.beq i cv = true) (hs : Nat.beq i st = false)
    (ho : oi.op = .convert src dst x) (hsr : P.underlying src = some u) (hd : P.underlying dst = some (.slice e)) (he : P.underlying e = some (.int .u8)) (hsz : s.size ≤ 1073741824)
    (h : ∀ V b w, FT wE val cv s g n st f0 f1 t V b w → b i = false → Ons B O i b → Offs B O i b → (act a0 T V b).eval x = .string s) : StepAt P ops Q B O (CI a0 T (FT wE val cv s g n st f0 f1 t)) i :=
  ci_run k hLo hoi hN hT hg (fun V b w hF hbi hon hoff => by
    obtain ⟨v, w', hr, hbr, hb⟩ := exec_bytes (w := w) (ev := (act a0 T V b).eval) ho (h V b w hF hbi hon hoff) hsr hd he hsz
    have hic : i = cv := Nat.eq_of_beq_eq_true hc
    have hs : st ≠ i := fun e => by rw [← e, Nat.beq_refl] at hs; cases hs
    refine ⟨v, w', hr, hF.fr.call hb, hF.fresh, fun q => ?_, fun q => ?_, fun j u hj q => ?_, fun q0 q => ?_⟩
    · rw [up_other' hs] at q; exact (hF.row0 q).below hb (hF.row0 q).lt
    · rw [up_other' hs] at q; exact (hF.row1 q).below hb (hF.row1 q).lt
    · by_cases e : j = i
      · rw [e, hv] at hj; cases hj
      · rw [setV_other e]; rw [up_other' e] at q; exact hF.vs j u hj q
    · rw [← hic, setV_self]; exact hbr)
theorem ft_put {oi : Oper} (hoi : ops[i]? = some oi) (hN : oi.dst = none) (hT : (T.all fun e => !(e.1 == i)) = true) (hg : ∀ V b, Region.wanted oi (yielded ops (act a0 T V b).tmps) = true) (hc : Nat.beq i cv = false) (hs : Nat.beq i st = true) (hv : val[i]? = some none)
    (h : ∀ V b w, FT wE val cv s g n st f0 f1 t V b w → b i = false → Ons B O i b → Offs B O i b → Row w g () n f0 t → ∃ w', (execOp (act a0 T V b).eval oi).run P w = .ok .skip w' ∧ Stored w w' g ∧ Row w' g () n f1 t) : StepAt P ops Q B O (CI a0 T (FT wE val cv s g n st f0 f1 t)) i := by
  rintro b a w ⟨V, rfl, hF⟩ hb hon hoff
  obtain rfl : i = st := Nat.eq_of_beq_eq_true hs
  obtain ⟨w', hr1, hst, hr⟩ := h V b w hF hb hon hoff (hF.row0 hb)
  refine ⟨oi, hoi, fun K hK => ?_⟩
  rw [if_pos (hg V b)]
  unfold Oper.wp
  rw [hr1, Oper.upon_skip]
  rw [hN]
  refine hK _ _ ⟨V, (putSel_same (by unfold vals LF; rw [List.all_map, List.all_map]; exact hT)).symm, hF.fr.stored hst hF.fresh, hF.fresh, fun q => ?_, fun _ => hr, fun j u hj q => ?_, fun q0 _ => ?_⟩
  · rw [up_self] at q; cases q
  · by_cases e : j = i
    · subst e; rw [hv] at hj; cases hj
    · rw [up_other' e] at q; exact hF.vs j u hj q
  · rw [up_self] at q0; cases q0
end
end Go.Proofs.Ytdleomeiojlooaa.P
end

section
namespace Go.Proofs.Ytdleomeiojlooaa.P
open Go.RowKit Go.Proofs.YtdleomeiojlooaaW.PrintWords Go.Proofs.YtdleomeiojlooaaW.PrintLast Go.Proofs.YtdleomeiojlooaaW.PrintMore
set_option linter.unusedVariables false
set_option linter.unusedSimpArgs false
def letters_Len.f (a0 : Int) : Option (Int) := if a0 ≤ 0 then (some 0) else (some (wrap64 ((wrap64 ((wrap64 (Int.tdiv a0 3)) * 4)) + (wrap64 (Int.tdiv (wrap64 ((wrap64 ((Int.tmod a0 3) * 8)) + 5)) 6)))))
set_option maxHeartbeats 8000000 in
set_option maxRecDepth 100000 in
theorem letters_Len.calls (a0 : Int) (r : Int) (w : World) (h : letters_Len.f a0 = some r) :
    Calls Try.prog 36 #[.int .i64 a0] w fun e w' => e = .returned (.int .i64 r) ∧ Drawn0 w w' := by
  have H : (if a0 ≤ 0 then (some 0) else (some (wrap64 ((wrap64 ((wrap64 (Int.tdiv a0 3)) * 4)) + (wrap64 (Int.tdiv (wrap64 ((wrap64 ((Int.tmod a0 3) * 8)) + 5)) 6)))))) = some r := h
  clear h
  by_cases c2 : a0 ≤ 0
  · rw [if_pos c2] at H
    have c2b0 : decide (a0 ≤ 0) = true := decide_eq_true c2
    clear c2
    obtain rfl := Option.some.inj H
    go_enter Try.func36, Try.ntmps36
    go_wp2
    go_ret
    exact ⟨by first | rfl | (simp; done) | (simp [*]; done), by repeat (first | exact Drawn0.refl _ | apply Drawn0.step)⟩
  · rw [if_neg c2] at H
    have c2b0 : decide (a0 ≤ 0) = false := decide_eq_false c2
    clear c2
    obtain rfl := Option.some.inj H
    go_enter Try.func36, Try.ntmps36
    go_wp2
    go_ret
    exact ⟨by first | rfl | (simp; done) | (simp [*]; done), by repeat (first | exact Drawn0.refl _ | apply Drawn0.step)⟩
end Go.Proofs.Ytdleomeiojlooaa.P
end

section
namespace Go.Proofs.Ytdleomeiojlooaa.P
set_option linter.unusedVariables false
set_option linter.unusedSimpArgs false
open Go.RowKit Go.ChangeShapes Go.WideShapes Go.Proofs.YtdleomeiojlooaaW.PrintWords Go.Proofs.YtdleomeiojlooaaW.PrintLast Go.Proofs.YtdleomeiojlooaaW.PrintMore Go.Proofs.Ytdleomeiojlooaa.L
def encLen (n : Nat) : Nat := n / 3 * 4 + (n % 3 * 8 + 5) / 6
theorem enc6_len : ∀ l : List Int, (enc6 l).length = encLen l.length
  | a :: b :: c :: t => by
    have := enc6_len t
    simp only [enc6, List.length_cons, this]
    unfold encLen; omega
  | [a, b] => by simp [enc6, encLen]
  | [a] => by simp [enc6, encLen]
  | [] => by simp [enc6, encLen]
theorem enc_size (s : ByteArray) : (encS (bytesOf s) true).size = encLen s.size := by
  unfold encS
  rw [strOfNums_size, List.length_map, enc6_len, bytesOf_length]
theorem lineS_size (s : ByteArray) : (lineS s).size = encLen s.size + 1 := by
  unfold lineS
  rw [ByteArray.size_append, enc_size]; rfl
theorem encLen_le (n : Nat) : encLen n ≤ 2 * n := by unfold encLen; omega
theorem len_calls {n : Nat} (hn : n ≤ 1099511627776) (w : World) : Calls Try.prog 36 #[.int .i64 (n : Int)] w fun e w' => e = .returned (.int .i64 (encLen n : Int)) ∧ Below w.heap.size w w' := by
  refine (letters_Len.calls (n : Int) (encLen n : Int) w ?_).mono (fun e w' h => ⟨h.1, h.2.below⟩)
  unfold letters_Len.f
  split
  · have : n = 0 := by omega
    subst this; rfl
  · rw [Int.tdiv_eq_ediv_of_nonneg (by omega), Int.tmod_eq_emod_of_nonneg (by omega)]
    congr 1
    have e1 : wrap64 ((n : Int) % 3 * 8) = (n : Int) % 3 * 8 := w64 _ (by omega)
    have e2 : wrap64 ((n : Int) % 3 * 8 + 5) = (n : Int) % 3 * 8 + 5 := w64 _ (by omega)
    have e3 : wrap64 ((n : Int) / 3) = (n : Int) / 3 := w64 _ (by omega)
    have e4 : wrap64 ((n : Int) / 3 * 4) = (n : Int) / 3 * 4 := w64 _ (by omega)
    rw [e3, e4, e1, e2, Int.tdiv_eq_ediv_of_nonneg (by omega)]
    rw [w64 (((n : Int) % 3 * 8 + 5) / 6) (by omega), w64 _ (by omega)]
    unfold encLen; omega
end Go.Proofs.Ytdleomeiojlooaa.P
end

section
namespace Go.Proofs.Ytdleomeiojlooaa.P
open Go.RowKit Go.Proofs.YtdleomeiojlooaaW.PrintWords Go.Proofs.YtdleomeiojlooaaW.PrintLast Go.Proofs.YtdleomeiojlooaaW.PrintMore
set_option linter.unusedVariables false
set_option linter.unusedSimpArgs false
mutual
def letters_value.j0 : Nat → Int → Bool → Bool → Option (Int × Bool)
  | 0, _, _, _ => none
  | k + 1, x0, x1, x6 => if x6 = true then (some (IntKind.u64.wrap (wrap32 (x0 - 65)), true)) else (if x0 ≥ 97 then (letters_value.j1 k x0 x1 (decide (x0 ≤ 122))) else (letters_value.j1 k x0 x1 false))
def letters_value.j1 : Nat → Int → Bool → Bool → Option (Int × Bool)
  | 0, _, _, _ => none
  | k + 1, x0, x1, x16 => if x16 = true then (some (IntKind.u64.wrap ((IntKind.u64.wrap (wrap32 (x0 - 97))) + 26), true)) else (if x0 ≥ 48 then (letters_value.j2 k x0 x1 (decide (x0 ≤ 57))) else (letters_value.j2 k x0 x1 false))
def letters_value.j2 : Nat → Int → Bool → Bool → Option (Int × Bool)
  | 0, _, _, _ => none
  | k + 1, x0, x1, x27 => if x27 = true then (some (IntKind.u64.wrap ((IntKind.u64.wrap (wrap32 (x0 - 48))) + 52), true)) else (if x0 = 43 then (letters_value.j3 k x0 x1 (!x1)) else (letters_value.j3 k x0 x1 false))
def letters_value.j3 : Nat → Int → Bool → Bool → Option (Int × Bool)
  | 0, _, _, _ => none
  | k + 1, x0, x1, x38 => if x38 = true then (letters_value.j4 k x0 x1 x38) else (if x0 = 45 then (letters_value.j4 k x0 x1 x1) else (letters_value.j4 k x0 x1 false))
def letters_value.j4 : Nat → Int → Bool → Bool → Option (Int × Bool)
  | 0, _, _, _ => none
  | k + 1, x0, x1, x38 => if x38 = true then (some (62, true)) else (if x0 = 47 then (letters_value.j5 k x0 x1 (!x1)) else (letters_value.j5 k x0 x1 false))
def letters_value.j5 : Nat → Int → Bool → Bool → Option (Int × Bool)
  | 0, _, _, _ => none
  | k + 1, x0, x1, x50 => if x50 = true then (some (63, true)) else (if x0 = 95 then (if x1 = true then (some (63, true)) else (some (0, false))) else (some (0, false)))
end
def letters_value.f (k : Nat) (a0 : Int) (a1 : Bool) : Option (Int × Bool) := if a0 ≥ 65 then (letters_value.j0 k a0 a1 (decide (a0 ≤ 90))) else (letters_value.j0 k a0 a1 false)
theorem letters_value.mono_l : ∀ k, (∀ y0 y1 y2, LeO (letters_value.j0 k y0 y1 y2) (letters_value.j0 (k + 1) y0 y1 y2)) ∧ (∀ y0 y1 y2, LeO (letters_value.j1 k y0 y1 y2) (letters_value.j1 (k + 1) y0 y1 y2)) ∧ (∀ y0 y1 y2, LeO (letters_value.j2 k y0 y1 y2) (letters_value.j2 (k + 1) y0 y1 y2)) ∧ (∀ y0 y1 y2, LeO (letters_value.j3 k y0 y1 y2) (letters_value.j3 (k + 1) y0 y1 y2)) ∧ (∀ y0 y1 y2, LeO (letters_value.j4 k y0 y1 y2) (letters_value.j4 (k + 1) y0 y1 y2)) ∧ (∀ y0 y1 y2, LeO (letters_value.j5 k y0 y1 y2) (letters_value.j5 (k + 1) y0 y1 y2))
  | 0 => ⟨fun _ _ _ r h => by simp [letters_value.j0] at h, fun _ _ _ r h => by simp [letters_value.j1] at h, fun _ _ _ r h => by simp [letters_value.j2] at h, fun _ _ _ r h => by simp [letters_value.j3] at h, fun _ _ _ r h => by simp [letters_value.j4] at h, fun _ _ _ r h => by simp [letters_value.j5] at h⟩
  | k + 1 => by
    obtain ⟨ih0, ih1, ih2, ih3, ih4, ih5⟩ := letters_value.mono_l k
    refine ⟨?_, ?_, ?_, ?_, ?_, ?_⟩
    · intro y0 y1 y2
      unfold letters_value.j0
      repeat' first
      | (with_reducible exact ih0 _ _ _)
      | (with_reducible exact ih1 _ _ _)
      | (with_reducible exact ih2 _ _ _)
      | (with_reducible exact ih3 _ _ _)
      | (with_reducible exact ih4 _ _ _)
      | (with_reducible exact ih5 _ _ _)
      | (with_reducible exact LeO.refl _)
      | (with_reducible exact LeO.none _)
      | (with_reducible refine LeO.ite ?_ ?_)
      | (with_reducible refine LeO.bind ?_ (fun _ => ?_))
      | exact ih0 _ _ _
      | exact ih1 _ _ _
      | exact ih2 _ _ _
      | exact ih3 _ _ _
      | exact ih4 _ _ _
      | exact ih5 _ _ _
      | exact LeO.none _
      | refine LeO.ite ?_ ?_
      | refine LeO.bind ?_ (fun _ => ?_)
    · intro y0 y1 y2
      unfold letters_value.j1
      repeat' first
      | (with_reducible exact ih0 _ _ _)
      | (with_reducible exact ih1 _ _ _)
      | (with_reducible exact ih2 _ _ _)
      | (with_reducible exact ih3 _ _ _)
      | (with_reducible exact ih4 _ _ _)
      | (with_reducible exact ih5 _ _ _)
      | (with_reducible exact LeO.refl _)
      | (with_reducible exact LeO.none _)
      | (with_reducible refine LeO.ite ?_ ?_)
      | (with_reducible refine LeO.bind ?_ (fun _ => ?_))
      | exact ih0 _ _ _
      | exact ih1 _ _ _
      | exact ih2 _ _ _
      | exact ih3 _ _ _
      | exact ih4 _ _ _
      | exact ih5 _ _ _
      | exact LeO.none _
      | refine LeO.ite ?_ ?_
      | refine LeO.bind ?_ (fun _ => ?_)
    · intro y0 y1 y2
      unfold letters_value.j2
      repeat' first
      | (with_reducible exact ih0 _ _ _)
      | (with_reducible exact ih1 _ _ _)
      | (with_reducible exact ih2 _ _ _)
      | (with_reducible exact ih3 _ _ _)
      | (with_reducible exact ih4 _ _ _)
      | (with_reducible exact ih5 _ _ _)
      | (with_reducible exact LeO.refl _)
      | (with_reducible exact LeO.none _)
      | (with_reducible refine LeO.ite ?_ ?_)
      | (with_reducible refine LeO.bind ?_ (fun _ => ?_))
      | exact ih0 _ _ _
      | exact ih1 _ _ _
      | exact ih2 _ _ _
      | exact ih3 _ _ _
      | exact ih4 _ _ _
      | exact ih5 _ _ _
      | exact LeO.none _
      | refine LeO.ite ?_ ?_
      | refine LeO.bind ?_ (fun _ => ?_)
    · intro y0 y1 y2
      unfold letters_value.j3
      repeat' first
      | (with_reducible exact ih0 _ _ _)
      | (with_reducible exact ih1 _ _ _)
      | (with_reducible exact ih2 _ _ _)
      | (with_reducible exact ih3 _ _ _)
      | (with_reducible exact ih4 _ _ _)
      | (with_reducible exact ih5 _ _ _)
      | (with_reducible exact LeO.refl _)
      | (with_reducible exact LeO.none _)
      | (with_reducible refine LeO.ite ?_ ?_)
      | (with_reducible refine LeO.bind ?_ (fun _ => ?_))
      | exact ih0 _ _ _
      | exact ih1 _ _ _
      | exact ih2 _ _ _
      | exact ih3 _ _ _
      | exact ih4 _ _ _
      | exact ih5 _ _ _
      | exact LeO.none _
      | refine LeO.ite ?_ ?_
      | refine LeO.bind ?_ (fun _ => ?_)
    · intro y0 y1 y2
      unfold letters_value.j4
      repeat' first
      | (with_reducible exact ih0 _ _ _)
      | (with_reducible exact ih1 _ _ _)
      | (with_reducible exact ih2 _ _ _)
      | (with_reducible exact ih3 _ _ _)
      | (with_reducible exact ih4 _ _ _)
      | (with_reducible exact ih5 _ _ _)
      | (with_reducible exact LeO.refl _)
      | (with_reducible exact LeO.none _)
      | (with_reducible refine LeO.ite ?_ ?_)
      | (with_reducible refine LeO.bind ?_ (fun _ => ?_))
      | exact ih0 _ _ _
      | exact ih1 _ _ _
      | exact ih2 _ _ _
      | exact ih3 _ _ _
      | exact ih4 _ _ _
      | exact ih5 _ _ _
      | exact LeO.none _
      | refine LeO.ite ?_ ?_
      | refine LeO.bind ?_ (fun _ => ?_)
    · intro y0 y1 y2
      unfold letters_value.j5
      repeat' first
      | (with_reducible exact ih0 _ _ _)
      | (with_reducible exact ih1 _ _ _)
      | (with_reducible exact ih2 _ _ _)
      | (with_reducible exact ih3 _ _ _)
      | (with_reducible exact ih4 _ _ _)
      | (with_reducible exact ih5 _ _ _)
      | (with_reducible exact LeO.refl _)
      | (with_reducible exact LeO.none _)
      | (with_reducible refine LeO.ite ?_ ?_)
      | (with_reducible refine LeO.bind ?_ (fun _ => ?_))
      | exact ih0 _ _ _
      | exact ih1 _ _ _
      | exact ih2 _ _ _
      | exact ih3 _ _ _
      | exact ih4 _ _ _
      | exact ih5 _ _ _
      | exact LeO.none _
      | refine LeO.ite ?_ ?_
      | refine LeO.bind ?_ (fun _ => ?_)
theorem letters_value.mono : ∀ a0 a1 k, LeO (letters_value.f k a0 a1) (letters_value.f (k + 1) a0 a1) := by
  intro a0 a1 k
  obtain ⟨ih0, ih1, ih2, ih3, ih4, ih5⟩ := letters_value.mono_l k
  unfold letters_value.f
  repeat' first
      | (with_reducible exact ih0 _ _ _)
      | (with_reducible exact ih1 _ _ _)
      | (with_reducible exact ih2 _ _ _)
      | (with_reducible exact ih3 _ _ _)
      | (with_reducible exact ih4 _ _ _)
      | (with_reducible exact ih5 _ _ _)
      | (with_reducible exact LeO.refl _)
      | (with_reducible exact LeO.none _)
      | (with_reducible refine LeO.ite ?_ ?_)
      | (with_reducible refine LeO.bind ?_ (fun _ => ?_))
      | exact ih0 _ _ _
      | exact ih1 _ _ _
      | exact ih2 _ _ _
      | exact ih3 _ _ _
      | exact ih4 _ _ _
      | exact ih5 _ _ _
      | exact LeO.none _
      | refine LeO.ite ?_ ?_
      | refine LeO.bind ?_ (fun _ => ?_)
set_option maxHeartbeats 8000000 in
set_option maxRecDepth 100000 in
theorem letters_value.calls (k : Nat) (a0 : Int) (a1 : Bool) (r1 : Int) (r2 : Bool) (w : World) (h : letters_value.f k a0 a1 = some (r1, r2)) :
    Calls Try.prog 43 #[.int .i32 a0, .bool a1] w fun e w' => e = .returned (.tuple #[.int .u64 r1, .bool r2]) ∧ Drawn0 w w' := by
  have H : (if a0 ≥ 65 then (letters_value.j0 k a0 a1 (decide (a0 ≤ 90))) else (letters_value.j0 k a0 a1 false)) = some (r1, r2) := h
  clear h
  have HC3 := Aside0.mk H
  clear H
  go_enter Try.func43, Try.ntmps43
  go_upto_region 1 with (fail)
  go_cut [6] (fun v6 wc => ∃ (kq : Nat) (x6_2 : Bool), v6 = .bool x6_2 ∧ Aside0 (letters_value.j0 kq a0 a1 x6_2 = some (r1, r2)) ∧ Aside0 (kq ≤ k) ∧ Drawn0 w wc)
  case first =>
    have H := HC3.out
    clear HC3
    by_cases c4 : a0 ≥ 65
    · rw [if_pos c4] at H
      have c4b0 : decide (65 ≤ a0) = true := decide_eq_true c4
      clear c4
      (first | rw [c4b0] | (simp only [i64_w, i32_w]; rw [c4b0]) | skip)
      have H' := Aside0.mk H
      clear H
      go_wp2
      go_meet
      case rel => exact ⟨_, (decide (a0 ≤ 90)), (by first | rfl | (simp; done) | (simp [*]; done)), H', ⟨by first | omega | exact Nat.le_refl _⟩, by repeat (first | exact Drawn0.refl _ | apply Drawn0.step)⟩
    · rw [if_neg c4] at H
      have c4b0 : decide (65 ≤ a0) = false := decide_eq_false c4
      clear c4
      (first | rw [c4b0] | (simp only [i64_w, i32_w]; rw [c4b0]) | skip)
      have H' := Aside0.mk H
      clear H
      go_wp2
      go_meet
      case rel => exact ⟨_, (false), (by first | rfl | (simp; done) | (simp [*]; done)), H', ⟨by first | omega | exact Nat.le_refl _⟩, by repeat (first | exact Drawn0.refl _ | apply Drawn0.step)⟩
  case rest =>
    clear HC3
    try clear p2
    try clear c4
    try clear c4b0
    obtain ⟨kq, x6_2, rfl, HA, HJ2, ⟨mc2, rfl⟩⟩ := hcut
    cases kq with
    | zero => exact absurd HA.out (by simp [letters_value.j0])
    | succ kj2 =>
      have H := HA.out
      clear HA
      simp only [letters_value.j0] at H
      by_cases c5 : x6_2 = true
      · subst c5
        have H1 : (some (IntKind.u64.wrap (wrap32 (a0 - 65)), true)) = some (r1, r2) := by rw [if_pos rfl] at H; exact H
        clear H
        have H := H1
        clear H1
        simp only [Option.some.injEq, Prod.mk.injEq] at H
        obtain ⟨rfl, rfl⟩ := H
        go_wp2
        go_ret2
        exact ⟨by first | rfl | (simp; done) | (simp [*]; done), by repeat (first | exact Drawn0.refl _ | apply Drawn0.step)⟩
      · replace c5 := Bool.eq_false_iff.mpr c5
        subst c5
        have H1 : (if a0 ≥ 97 then (letters_value.j1 kj2 a0 a1 (decide (a0 ≤ 122))) else (letters_value.j1 kj2 a0 a1 false)) = some (r1, r2) := by rw [if_neg (show ¬ (false = true) by decide)] at H; exact H
        clear H
        have H := H1
        clear H1
        have HC6 := Aside0.mk H
        clear H
        go_upto_region 3 with (fail)
        go_cut [16] (fun v16 wc => ∃ (kq : Nat) (x16_5 : Bool), v16 = .bool x16_5 ∧ Aside0 (letters_value.j1 kq a0 a1 x16_5 = some (r1, r2)) ∧ Aside0 (kq ≤ kj2) ∧ Drawn0 w wc)
        case first =>
          have H := HC6.out
          clear HC6
          by_cases c7 : a0 ≥ 97
          · rw [if_pos c7] at H
            have c7b0 : decide (97 ≤ a0) = true := decide_eq_true c7
            clear c7
            (first | rw [c7b0] | (simp only [i64_w, i32_w]; rw [c7b0]) | skip)
            have H' := Aside0.mk H
            clear H
            go_wp2
            go_meet
            case rel => exact ⟨_, (decide (a0 ≤ 122)), (by first | rfl | (simp; done) | (simp [*]; done)), H', ⟨by have := HJ2.out; first | omega | exact Nat.le_refl _⟩, by repeat (first | exact Drawn0.refl _ | apply Drawn0.step)⟩
          · rw [if_neg c7] at H
            have c7b0 : decide (97 ≤ a0) = false := decide_eq_false c7
            clear c7
            (first | rw [c7b0] | (simp only [i64_w, i32_w]; rw [c7b0]) | skip)
            have H' := Aside0.mk H
            clear H
            go_wp2
            go_meet
            case rel => exact ⟨_, (false), (by first | rfl | (simp; done) | (simp [*]; done)), H', ⟨by have := HJ2.out; first | omega | exact Nat.le_refl _⟩, by repeat (first | exact Drawn0.refl _ | apply Drawn0.step)⟩
        case rest =>
          clear HC6
          try clear c2
          try clear p2
          try clear p3
          try clear c4
          try clear c4b0
          try clear c5
          try clear c7
          try clear c7b0
          try clear p2
          obtain ⟨kq, x16_5, rfl, HA, HJ5, ⟨mc5, rfl⟩⟩ := hcut
          cases kq with
          | zero => exact absurd HA.out (by simp [letters_value.j1])
          | succ kj5 =>
            have H := HA.out
            clear HA
            simp only [letters_value.j1] at H
            by_cases c8 : x16_5 = true
            · subst c8
              have H1 : (some (IntKind.u64.wrap ((IntKind.u64.wrap (wrap32 (a0 - 97))) + 26), true)) = some (r1, r2) := by rw [if_pos rfl] at H; exact H
              clear H
              have H := H1
              clear H1
              simp only [Option.some.injEq, Prod.mk.injEq] at H
              obtain ⟨rfl, rfl⟩ := H
              go_wp2
              go_ret2
              exact ⟨by first | rfl | (simp; done) | (simp [*]; done), by repeat (first | exact Drawn0.refl _ | apply Drawn0.step)⟩
            · replace c8 := Bool.eq_false_iff.mpr c8
              subst c8
              have H1 : (if a0 ≥ 48 then (letters_value.j2 kj5 a0 a1 (decide (a0 ≤ 57))) else (letters_value.j2 kj5 a0 a1 false)) = some (r1, r2) := by rw [if_neg (show ¬ (false = true) by decide)] at H; exact H
              clear H
              have H := H1
              clear H1
              have HC9 := Aside0.mk H
              clear H
              go_upto_region 5 with (fail)
              go_cut [27] (fun v27 wc => ∃ (kq : Nat) (x27_8 : Bool), v27 = .bool x27_8 ∧ Aside0 (letters_value.j2 kq a0 a1 x27_8 = some (r1, r2)) ∧ Aside0 (kq ≤ kj5) ∧ Drawn0 w wc)
              case first =>
                have H := HC9.out
                clear HC9
                by_cases c10 : a0 ≥ 48
                · rw [if_pos c10] at H
                  have c10b0 : decide (48 ≤ a0) = true := decide_eq_true c10
                  clear c10
                  (first | rw [c10b0] | (simp only [i64_w, i32_w]; rw [c10b0]) | skip)
                  have H' := Aside0.mk H
                  clear H
                  go_wp2
                  go_meet
                  case rel => exact ⟨_, (decide (a0 ≤ 57)), (by first | rfl | (simp; done) | (simp [*]; done)), H', ⟨by have := HJ2.out; have := HJ5.out; first | omega | exact Nat.le_refl _⟩, by repeat (first | exact Drawn0.refl _ | apply Drawn0.step)⟩
                · rw [if_neg c10] at H
                  have c10b0 : decide (48 ≤ a0) = false := decide_eq_false c10
                  clear c10
                  (first | rw [c10b0] | (simp only [i64_w, i32_w]; rw [c10b0]) | skip)
                  have H' := Aside0.mk H
                  clear H
                  go_wp2
                  go_meet
                  case rel => exact ⟨_, (false), (by first | rfl | (simp; done) | (simp [*]; done)), H', ⟨by have := HJ2.out; have := HJ5.out; first | omega | exact Nat.le_refl _⟩, by repeat (first | exact Drawn0.refl _ | apply Drawn0.step)⟩
              case rest =>
                clear HC9
                try clear c1
                try clear c2
                try clear p2
                try clear p3
                try clear c4
                try clear c4b0
                try clear c5
                try clear c7
                try clear c7b0
                try clear c8
                try clear c10
                try clear c10b0
                try clear p2
                try clear p3
                obtain ⟨kq, x27_8, rfl, HA, HJ8, ⟨mc8, rfl⟩⟩ := hcut
                cases kq with
                | zero => exact absurd HA.out (by simp [letters_value.j2])
                | succ kj8 =>
                  have H := HA.out
                  clear HA
                  simp only [letters_value.j2] at H
                  by_cases c11 : x27_8 = true
                  · subst c11
                    have H1 : (some (IntKind.u64.wrap ((IntKind.u64.wrap (wrap32 (a0 - 48))) + 52), true)) = some (r1, r2) := by rw [if_pos rfl] at H; exact H
                    clear H
                    have H := H1
                    clear H1
                    simp only [Option.some.injEq, Prod.mk.injEq] at H
                    obtain ⟨rfl, rfl⟩ := H
                    go_wp2
                    go_ret2
                    exact ⟨by first | rfl | (simp; done) | (simp [*]; done), by repeat (first | exact Drawn0.refl _ | apply Drawn0.step)⟩
                  · replace c11 := Bool.eq_false_iff.mpr c11
                    subst c11
                    have H1 : (if a0 = 43 then (letters_value.j3 kj8 a0 a1 (!a1)) else (letters_value.j3 kj8 a0 a1 false)) = some (r1, r2) := by rw [if_neg (show ¬ (false = true) by decide)] at H; exact H
                    clear H
                    have H := H1
                    clear H1
                    have HC12 := Aside0.mk H
                    clear H
                    go_upto_region 7 with (fail)
                    go_cut [38] (fun v38 wc => ∃ (kq : Nat) (x38_11 : Bool), v38 = .bool x38_11 ∧ Aside0 (letters_value.j3 kq a0 a1 x38_11 = some (r1, r2)) ∧ Aside0 (kq ≤ kj8) ∧ Drawn0 w wc)
                    case first =>
                      have H := HC12.out
                      clear HC12
                      by_cases c13 : a0 = 43
                      · rw [if_pos c13] at H
                        have c13b0 : (a0 == 43) = true := beq_iff_eq.mpr c13
                        have c13b1 : (a0 != 43) = false := bne_eq_false_iff_eq.mpr c13
                        clear c13
                        (first | rw [c13b0] | (simp only [i64_w, i32_w]; rw [c13b0]) | skip)
                        have H' := Aside0.mk H
                        clear H
                        go_wp2
                        go_meet
                        case rel => exact ⟨_, (!a1), (by first | rfl | (simp; done) | (simp [*]; done)), H', ⟨by have := HJ2.out; have := HJ5.out; have := HJ8.out; first | omega | exact Nat.le_refl _⟩, by repeat (first | exact Drawn0.refl _ | apply Drawn0.step)⟩
                      · rw [if_neg c13] at H
                        have c13b0 : (a0 == 43) = false := beq_eq_false_iff_ne.mpr c13
                        have c13b1 : (a0 != 43) = true := bne_iff_ne.mpr c13
                        (first | rw [c13b0] | (simp only [i64_w, i32_w]; rw [c13b0]) | skip)
                        have H' := Aside0.mk H
                        clear H
                        go_wp2
                        go_meet
                        case rel => exact ⟨_, (false), (by first | rfl | (simp; done) | (simp [*]; done)), H', ⟨by have := HJ2.out; have := HJ5.out; have := HJ8.out; first | omega | exact Nat.le_refl _⟩, by repeat (first | exact Drawn0.refl _ | apply Drawn0.step)⟩
                    case rest =>
                      clear HC12
                      try clear c1
                      try clear c2
                      try clear p2
                      try clear p3
                      try clear c4
                      try clear c4b0
                      try clear c5
                      try clear c7
                      try clear c7b0
                      try clear c8
                      try clear c10
                      try clear c10b0
                      try clear c11
                      try clear c13
                      try clear c13b0
                      try clear c13b1
                      try clear p2
                      try clear p3
                      obtain ⟨kq, x38_11, rfl, HA, HJ11, ⟨mc11, rfl⟩⟩ := hcut
                      cases kq with
                      | zero => exact absurd HA.out (by simp [letters_value.j3])
                      | succ kj11 =>
                        have H := HA.out
                        clear HA
                        simp only [letters_value.j3] at H
                        have HC14 := Aside0.mk H
                        clear H
                        go_upto_if 38 with (fail)
                        go_cut [38] (fun v38 wc => ∃ (kq : Nat) (x38_13 : Bool), v38 = .bool x38_13 ∧ Aside0 (letters_value.j4 kq a0 a1 x38_13 = some (r1, r2)) ∧ Aside0 (kq ≤ kj11) ∧ Drawn0 w wc)
                        case first =>
                          have H := HC14.out
                          clear HC14
                          by_cases c15 : x38_11 = true
                          · subst c15
                            have H1 : (letters_value.j4 kj11 a0 a1 true) = some (r1, r2) := by rw [if_pos rfl] at H; exact H
                            clear H
                            have H := H1
                            clear H1
                            have H' := Aside0.mk H
                            clear H
                            go_wp2
                            go_meet
                            case rel => exact ⟨_, (true), (by first | rfl | (simp; done) | (simp [*]; done)), H', ⟨by have := HJ2.out; have := HJ5.out; have := HJ8.out; have := HJ11.out; first | omega | exact Nat.le_refl _⟩, by repeat (first | exact Drawn0.refl _ | apply Drawn0.step)⟩
                          · replace c15 := Bool.eq_false_iff.mpr c15
                            subst c15
                            have H1 : (if a0 = 45 then (letters_value.j4 kj11 a0 a1 a1) else (letters_value.j4 kj11 a0 a1 false)) = some (r1, r2) := by rw [if_neg (show ¬ (false = true) by decide)] at H; exact H
                            clear H
                            have H := H1
                            clear H1
                            by_cases c16 : a0 = 45
                            · rw [if_pos c16] at H
                              have c16b0 : (a0 == 45) = true := beq_iff_eq.mpr c16
                              have c16b1 : (a0 != 45) = false := bne_eq_false_iff_eq.mpr c16
                              clear c16
                              (first | rw [c16b0] | (simp only [i64_w, i32_w]; rw [c16b0]) | skip)
                              have H' := Aside0.mk H
                              clear H
                              go_wp2
                              go_meet
                              case rel => exact ⟨_, (a1), (by first | rfl | (simp; done) | (simp [*]; done)), H', ⟨by have := HJ2.out; have := HJ5.out; have := HJ8.out; have := HJ11.out; first | omega | exact Nat.le_refl _⟩, by repeat (first | exact Drawn0.refl _ | apply Drawn0.step)⟩
                            · rw [if_neg c16] at H
                              have c16b0 : (a0 == 45) = false := beq_eq_false_iff_ne.mpr c16
                              have c16b1 : (a0 != 45) = true := bne_iff_ne.mpr c16
                              (first | rw [c16b0] | (simp only [i64_w, i32_w]; rw [c16b0]) | skip)
                              have H' := Aside0.mk H
                              clear H
                              go_wp2
                              go_meet
                              case rel => exact ⟨_, (false), (by first | rfl | (simp; done) | (simp [*]; done)), H', ⟨by have := HJ2.out; have := HJ5.out; have := HJ8.out; have := HJ11.out; first | omega | exact Nat.le_refl _⟩, by repeat (first | exact Drawn0.refl _ | apply Drawn0.step)⟩
                        case rest =>
                          clear HC14
                          try clear c1
                          try clear c2
                          try clear p2
                          try clear p3
                          try clear c4
                          try clear c4b0
                          try clear c5
                          try clear c7
                          try clear c7b0
                          try clear c8
                          try clear c10
                          try clear c10b0
                          try clear c11
                          try clear c13
                          try clear c13b0
                          try clear c13b1
                          try clear c15
                          try clear c16
                          try clear c16b0
                          try clear c16b1
                          try clear p2
                          try clear p3
                          obtain ⟨kq, x38_13, rfl, HA, HJ13, ⟨mc13, rfl⟩⟩ := hcut
                          cases kq with
                          | zero => exact absurd HA.out (by simp [letters_value.j4])
                          | succ kj13 =>
                            have H := HA.out
                            clear HA
                            simp only [letters_value.j4] at H
                            by_cases c17 : x38_13 = true
                            · subst c17
                              have H1 : (some (62, true)) = some (r1, r2) := by rw [if_pos rfl] at H; exact H
                              clear H
                              have H := H1
                              clear H1
                              simp only [Option.some.injEq, Prod.mk.injEq] at H
                              obtain ⟨rfl, rfl⟩ := H
                              go_wp2
                              go_ret2
                              exact ⟨by first | rfl | (simp; done) | (simp [*]; done), by repeat (first | exact Drawn0.refl _ | apply Drawn0.step)⟩
                            · replace c17 := Bool.eq_false_iff.mpr c17
                              subst c17
                              have H1 : (if a0 = 47 then (letters_value.j5 kj13 a0 a1 (!a1)) else (letters_value.j5 kj13 a0 a1 false)) = some (r1, r2) := by rw [if_neg (show ¬ (false = true) by decide)] at H; exact H
                              clear H
                              have H := H1
                              clear H1
                              have HC18 := Aside0.mk H
                              clear H
                              go_upto_region 10 with (fail)
                              go_cut [50] (fun v50 wc => ∃ (kq : Nat) (x50_17 : Bool), v50 = .bool x50_17 ∧ Aside0 (letters_value.j5 kq a0 a1 x50_17 = some (r1, r2)) ∧ Aside0 (kq ≤ kj13) ∧ Drawn0 w wc)
                              case first =>
                                have H := HC18.out
                                clear HC18
                                by_cases c19 : a0 = 47
                                · rw [if_pos c19] at H
                                  have c19b0 : (a0 == 47) = true := beq_iff_eq.mpr c19
                                  have c19b1 : (a0 != 47) = false := bne_eq_false_iff_eq.mpr c19
                                  clear c19
                                  (first | rw [c19b0] | (simp only [i64_w, i32_w]; rw [c19b0]) | skip)
                                  have H' := Aside0.mk H
                                  clear H
                                  go_wp2
                                  go_meet
                                  case rel => exact ⟨_, (!a1), (by first | rfl | (simp; done) | (simp [*]; done)), H', ⟨by have := HJ2.out; have := HJ5.out; have := HJ8.out; have := HJ11.out; have := HJ13.out; first | omega | exact Nat.le_refl _⟩, by repeat (first | exact Drawn0.refl _ | apply Drawn0.step)⟩
                                · rw [if_neg c19] at H
                                  have c19b0 : (a0 == 47) = false := beq_eq_false_iff_ne.mpr c19
                                  have c19b1 : (a0 != 47) = true := bne_iff_ne.mpr c19
                                  (first | rw [c19b0] | (simp only [i64_w, i32_w]; rw [c19b0]) | skip)
                                  have H' := Aside0.mk H
                                  clear H
                                  go_wp2
                                  go_meet
                                  case rel => exact ⟨_, (false), (by first | rfl | (simp; done) | (simp [*]; done)), H', ⟨by have := HJ2.out; have := HJ5.out; have := HJ8.out; have := HJ11.out; have := HJ13.out; first | omega | exact Nat.le_refl _⟩, by repeat (first | exact Drawn0.refl _ | apply Drawn0.step)⟩
                              case rest =>
                                clear HC18
                                try clear c1
                                try clear c2
                                try clear p2
                                try clear p3
                                try clear c4
                                try clear c4b0
                                try clear c5
                                try clear c7
                                try clear c7b0
                                try clear c8
                                try clear c10
                                try clear c10b0
                                try clear c11
                                try clear c13
                                try clear c13b0
                                try clear c13b1
                                try clear c15
                                try clear c16
                                try clear c16b0
                                try clear c16b1
                                try clear c17
                                try clear c19
                                try clear c19b0
                                try clear c19b1
                                try clear p2
                                try clear p3
                                obtain ⟨kq, x50_17, rfl, HA, HJ17, ⟨mc17, rfl⟩⟩ := hcut
                                cases kq with
                                | zero => exact absurd HA.out (by simp [letters_value.j5])
                                | succ kj17 =>
                                  have H := HA.out
                                  clear HA
                                  simp only [letters_value.j5] at H
                                  by_cases c20 : x50_17 = true
                                  · subst c20
                                    have H1 : (some (63, true)) = some (r1, r2) := by rw [if_pos rfl] at H; exact H
                                    clear H
                                    have H := H1
                                    clear H1
                                    simp only [Option.some.injEq, Prod.mk.injEq] at H
                                    obtain ⟨rfl, rfl⟩ := H
                                    go_wp2
                                    go_ret2
                                    exact ⟨by first | rfl | (simp; done) | (simp [*]; done), by repeat (first | exact Drawn0.refl _ | apply Drawn0.step)⟩
                                  · replace c20 := Bool.eq_false_iff.mpr c20
                                    subst c20
                                    have H1 : (if a0 = 95 then (if a1 = true then (some (63, true)) else (some (0, false))) else (some (0, false))) = some (r1, r2) := by rw [if_neg (show ¬ (false = true) by decide)] at H; exact H
                                    clear H
                                    have H := H1
                                    clear H1
                                    by_cases c21 : a0 = 95
                                    · rw [if_pos c21] at H
                                      have c21b0 : (a0 == 95) = true := beq_iff_eq.mpr c21
                                      have c21b1 : (a0 != 95) = false := bne_eq_false_iff_eq.mpr c21
                                      clear c21
                                      by_cases c22 : a1 = true
                                      · subst c22
                                        have H1 : (some (63, true)) = some (r1, r2) := by rw [if_pos rfl] at H; exact H
                                        clear H
                                        have H := H1
                                        clear H1
                                        simp only [Option.some.injEq, Prod.mk.injEq] at H
                                        obtain ⟨rfl, rfl⟩ := H
                                        go_wp2
                                        go_ret2
                                        exact ⟨by first | rfl | (simp; done) | (simp [*]; done), by repeat (first | exact Drawn0.refl _ | apply Drawn0.step)⟩
                                      · replace c22 := Bool.eq_false_iff.mpr c22
                                        subst c22
                                        have H1 : (some (0, false)) = some (r1, r2) := by rw [if_neg (show ¬ (false = true) by decide)] at H; exact H
                                        clear H
                                        have H := H1
                                        clear H1
                                        simp only [Option.some.injEq, Prod.mk.injEq] at H
                                        obtain ⟨rfl, rfl⟩ := H
                                        go_wp2
                                        go_ret2
                                        exact ⟨by first | rfl | (simp; done) | (simp [*]; done), by repeat (first | exact Drawn0.refl _ | apply Drawn0.step)⟩
                                    · rw [if_neg c21] at H
                                      have c21b0 : (a0 == 95) = false := beq_eq_false_iff_ne.mpr c21
                                      have c21b1 : (a0 != 95) = true := bne_iff_ne.mpr c21
                                      simp only [Option.some.injEq, Prod.mk.injEq] at H
                                      obtain ⟨rfl, rfl⟩ := H
                                      go_wp2
                                      go_ret2
                                      exact ⟨by first | rfl | (simp; done) | (simp [*]; done), by repeat (first | exact Drawn0.refl _ | apply Drawn0.step)⟩
end Go.Proofs.Ytdleomeiojlooaa.P
end

section
namespace Go.Proofs.Ytdleomeiojlooaa.L
set_option linter.unusedVariables false
set_option linter.unusedSimpArgs false
open Go.RowKit Go.Proofs.YtdleomeiojlooaaW.PrintWords Go.Proofs.YtdleomeiojlooaaW.PrintLast Go.Proofs.YtdleomeiojlooaaW.PrintMore Go.Proofs.Ytdleomeiojlooaa.P
def valOf (u : Bool) (r : Int) : Option Int :=
  if 65 ≤ r ∧ r ≤ 90 then some (r - 65) else if 97 ≤ r ∧ r ≤ 122 then some (r - 71) else if 48 ≤ r ∧ r ≤ 57 then some (r + 4)
  else if r = (if u then 45 else 43) then some 62 else if r = (if u then 95 else 47) then some 63 else none
theorem u64_id (x : Int) (h0 : 0 ≤ x) (h1 : x < 18446744073709551616) : IntKind.u64.wrap x = x := by simp [IntKind.wrap, IntKind.bits, IntKind.signed]; omega
theorem wrap32_id (x : Int) (h0 : -2147483648 ≤ x) (h1 : x ≤ 2147483647) : wrap32 x = x := by unfold wrap32; omega
theorem value_eq (u : Bool) (r : Int) (h0 : 0 ≤ r) (h1 : r ≤ 2147483647) : letters_value.f 7 r u = some ((valOf u r).getD 0, (valOf u r).isSome) := by
  have e1 : 65 ≤ r → IntKind.u64.wrap (wrap32 (r - 65)) = r - 65 := fun h => by rw [wrap32_id _ (by omega) (by omega), u64_id _ (by omega) (by omega)]
  have e2 : 97 ≤ r → IntKind.u64.wrap ((IntKind.u64.wrap (wrap32 (r - 97))) + 26) = r - 71 := fun h => by rw [wrap32_id _ (by omega) (by omega), u64_id (r - 97) (by omega) (by omega), u64_id _ (by omega) (by omega)]; omega
  have e3 : 48 ≤ r → IntKind.u64.wrap ((IntKind.u64.wrap (wrap32 (r - 48))) + 52) = r + 4 := fun h => by rw [wrap32_id _ (by omega) (by omega), u64_id (r - 48) (by omega) (by omega), u64_id _ (by omega) (by omega)]; omega
  unfold valOf
  simp only [letters_value.f, letters_value.j0, letters_value.j1, letters_value.j2, letters_value.j3, letters_value.j4, letters_value.j5]
  by_cases a1 : 65 ≤ r ∧ r ≤ 90
  · obtain ⟨b1, b2⟩ := a1
    simp [b1, b2, e1]
  · by_cases a2 : 97 ≤ r ∧ r ≤ 122
    · obtain ⟨b1, b2⟩ := a2
      have c1 : ¬ r ≤ 90 := by omega
      have c2 : 65 ≤ r := by omega
      simp [b1, b2, c1, c2, e2]
    · by_cases a3 : 48 ≤ r ∧ r ≤ 57
      · obtain ⟨b1, b2⟩ := a3
        have c1 : ¬ 65 ≤ r := by omega
        have c2 : ¬ 97 ≤ r := by omega
        simp [b1, b2, c1, c2, e3]
      · have d1 : 65 ≤ r → ¬ r ≤ 90 := fun h h' => a1 ⟨h, h'⟩
        have d2 : 97 ≤ r → ¬ r ≤ 122 := fun h h' => a2 ⟨h, h'⟩
        have d3 : 48 ≤ r → ¬ r ≤ 57 := fun h h' => a3 ⟨h, h'⟩
        rw [if_neg a1, if_neg a2, if_neg a3]
        have s1 : ∀ X : Option (Int × Bool), (if 65 ≤ r then (if decide (r ≤ 90) = true then X else X) else X) = X := fun X => by split <;> (try split) <;> rfl
        by_cases k1 : 65 ≤ r <;> by_cases k2 : 97 ≤ r <;> by_cases k3 : 48 ≤ r <;> (try (exfalso; omega)) <;> cases u <;> by_cases q1 : r = 43 <;> by_cases q2 : r = 45 <;> by_cases q3 : r = 47 <;> by_cases q4 : r = 95 <;> (try (exfalso; omega)) <;> simp_all <;> (repeat rw [if_neg (by omega)])
theorem value_calls (u : Bool) (r : Int) (w : World) (h0 : 0 ≤ r) (h1 : r ≤ 2147483647) :
    Calls Try.prog 43 #[.int .i32 r, .bool u] w fun e w' => e = .returned (.tuple #[.int .u64 ((valOf u r).getD 0), .bool (valOf u r).isSome]) ∧ Drawn0 w w' :=
  letters_value.calls 7 r u _ _ w (value_eq u r h0 h1)
theorem valOf_range {u : Bool} {r v : Int} (h : valOf u r = some v) : 0 ≤ v ∧ v < 64 ∧ 43 ≤ r ∧ r ≤ 122 := by
  cases u <;> simp only [valOf, if_true, if_false, Bool.false_eq_true] at h
  all_goals
    repeat' split at h
    all_goals first | (injection h with h; omega) | (cases h)
theorem bt_get (s : ByteArray) (pos : Nat) (hp : pos < s.size) : bt s pos = ((s[pos]'hp).toNat : Int) := by
  simp [bt, hp]
theorem valOf_rune (u : Bool) (s : ByteArray) (pos : Nat) (hp : pos < s.size) : valOf u ((Utf8.decode s pos).1 : Int) = valOf u (bt s pos) := by
  rw [bt_get s pos hp]
  by_cases ha : (s[pos]'hp).toNat < 128
  · rw [decode_ascii s pos hp ha]
  · have h1 := (decode_high s pos hp (by omega)).1
    have f1 : valOf u ((Utf8.decode s pos).1 : Int) = none := by
      rcases h : valOf u ((Utf8.decode s pos).1 : Int) with _ | v
      · rfl
      · have := valOf_range h; omega
    have f2 : valOf u ((s[pos]'hp).toNat : Int) = none := by
      rcases h : valOf u ((s[pos]'hp).toNat : Int) with _ | v
      · rfl
      · have := valOf_range h; omega
    rw [f1, f2]
theorem decode_one {u : Bool} {s : ByteArray} {pos : Nat} (hp : pos < s.size) {v : Int} (h : valOf u (bt s pos) = some v) : (Utf8.decode s pos).2 = 1 := by
  have hr := valOf_range h
  rw [bt_get s pos hp] at hr
  rw [decode_ascii s pos hp (by omega)]
def decGo (u : Bool) : List Int → List Int → Int → Int → Option (List Int)
  | [], out, h, b => if 6 ≤ b ∨ h ≠ 0 then none else some out
  | c :: t, out, h, b =>
    match valOf u c with
    | none => none
    | some v => if 2 ≤ b then decGo u t (out ++ [(h * 64 + v) / 2 ^ (b - 2).toNat]) ((h * 64 + v) % 2 ^ (b - 2).toNat) (b - 2) else decGo u t out (h * 64 + v) (b + 6)
def decL (u : Bool) (l : List Int) : Option (List Int) := decGo u l [] 0 0
theorem drop_bytes (s : ByteArray) (pos : Nat) (hp : pos < s.size) : (bytesOf s).drop pos = bt s pos :: (bytesOf s).drop (pos + 1) := by
  have hl : pos < (bytesOf s).length := by rw [bytesOf_length]; exact hp
  rw [List.drop_eq_getElem_cons hl]
  congr 1
  have := rd_bytesOf s pos
  rw [← this]
  simp [rd, hl]
def Held (h b : Int) : Prop := (b = 0 ∧ h = 0) ∨ (b = 2 ∧ 0 ≤ h ∧ h < 4) ∨ (b = 4 ∧ 0 ≤ h ∧ h < 16) ∨ (b = 6 ∧ 0 ≤ h ∧ h < 64)
theorem join6 {h b v : Int} (hh : Held h b) (hv : 0 ≤ v ∧ v < 64) : Go.bits .or .u64 (IntKind.u64.wrap (h * 64)) v = h * 64 + v := by
  have hr : 0 ≤ h ∧ h < 64 := by unfold Held at hh; omega
  rw [u64_id _ (by omega) (by omega), u64_or _ _ (by omega) (by omega) (by omega) (by omega), nat_join 6 _ _ (by omega) (by omega)]
  omega
def DecPost (u : Bool) (s : ByteArray) (w : World) (e : Ending) (w' : World) : Prop :=
  ∃ v, e = .returned (.tuple #[v, .bool (decL u (bytesOf s)).isSome]) ∧ Kd.R (Kd.int .u8) 5 w' w.heap.size (fun _ => True) v ((decL u (bytesOf s)).getD []) ∧ Below w.heap.size w w'
def DecRel (u : Bool) (s : ByteArray) (w : World) (v6 v7 v8 : Value) (wr : World) : Prop :=
  ∃ (pos : Nat) (out : List Int) (h b : Int), pos ≤ s.size ∧ v7 = .int .u64 h ∧ v8 = .int .i64 b ∧ Held h b ∧ decL u (bytesOf s) = decGo u ((bytesOf s).drop pos) out h b ∧ wr.heap[w.heap.size]? = some (.stringIter s pos) ∧
    Kd.R (Kd.int .u8) 5 wr (w.heap.size + 1) (fun _ => True) v6 out ∧ Below w.heap.size w wr ∧ out.length ≤ pos
theorem value_none (u : Bool) (r : Int) (w : World) (h : valOf u r = none) (h0 : 0 ≤ r) (h1 : r ≤ 2147483647) :
    Calls Try.prog 43 #[.int .i32 r, .bool u] w fun e w' => e = .returned (.tuple #[.int .u64 0, .bool false]) ∧ Drawn0 w w' := by
  have := value_calls u r w h0 h1
  rw [h] at this
  exact this
theorem value_some (u : Bool) (r v : Int) (w : World) (h : valOf u r = some v) (h0 : 0 ≤ r) (h1 : r ≤ 2147483647) :
    Calls Try.prog 43 #[.int .i32 r, .bool u] w fun e w' => e = .returned (.tuple #[.int .u64 v, .bool true]) ∧ Drawn0 w w' := by
  have := value_calls u r w h0 h1
  rw [h] at this
  exact this
theorem R_iter {α : Type} {d : Kd α} {e : Nat} {wr : World} {base B : Nat} {ok : Nat → Prop} {v : Value} {xs : List α} {s : ByteArray} {p : Nat} (h : Kd.R d e wr base ok v xs) (hB : B < base) : Kd.R d e (wr.iterAt B s p) base ok v xs :=
  Kd.R_mono (Kd.R_step (Kd.R_bound h) (fun k hk _ => Lib.iterAt_other _ _ _ _ _ (by omega))) (fun k hk => hk.1)
theorem iterPos_of {w : World} {B p : Nat} {s : ByteArray} (h : w.heap[B]? = some (.stringIter s p)) : w.iterPos B = p := by simp [World.iterPos, h]
theorem and_mask (x : Int) (h0 : 0 ≤ x) (h1 : x < 18446744073709551616) (q m : Int) (hq : (q = 1 ∧ m = 0) ∨ (q = 4 ∧ m = 3) ∨ (q = 16 ∧ m = 15)) : Go.bits .and .u64 x m = x % q := by
  rcases hq with ⟨rfl, rfl⟩ | ⟨rfl, rfl⟩ | ⟨rfl, rfl⟩
  · rw [u64_and _ _ h0 h1 (by omega) (by omega)]; simp
  · rw [u64_and _ _ h0 h1 (by omega) (by omega), show (3 : Int).toNat = 3 from rfl, nat_mask2]; omega
  · rw [u64_and _ _ h0 h1 (by omega) (by omega), show (15 : Int).toNat = 15 from rfl, nat_mask4]; omega
set_option maxRecDepth 100000 in
theorem dec_walk (u : Bool) (s : ByteArray) (w : World) (hs : s.size ≤ 140737488351232) : Calls Try.prog 32 #[.string s, .bool u] w (DecPost u s w) := by
  go_enter Try.func32, Try.ntmps32
  go_wp2
  go_loopw [6, 7, 8] (fun v6 v7 v8 wr => DecRel u s w v6 v7 v8 wr) (fun _ _ _ w' => s.size - w'.iterPos w.heap.size)
  case atStart => exact ⟨0, [], 0, 0, by omega, rfl, rfl, .inl ⟨rfl, rfl⟩, rfl, heap_alloc_new w _, Kd.R_nil _ _ _ _ _, (Below.refl _ _).alloc (Nat.le_refl _) _, by simp⟩
  case round =>
    obtain ⟨pos, out, h, b, hpos, rfl, rfl, hh, hd, hit, hown, hbel, hlen⟩ := hrel
    have HH := Aside0.mk hh
    have HD := Aside0.mk hd
    have HI := Aside0.mk hit
    have HO := Aside0.mk hown
    have HB := Aside0.mk hbel
    have HL := Aside0.mk hlen
    clear hh hd hit hown hbel hlen
    by_cases hp : pos < s.size
    · have hnx := fun ty => Lib.run_next_any_at (P := Try.prog) wr w.heap.size s pos ty HI.out hp
      have hle := decode_le s pos
      rcases hv : valOf u (bt s pos) with _ | v
      · have HV := Aside0.mk ((valOf_rune u s pos hp).trans hv)
        have HE := Aside0.mk hv
        clear hv
        go_wp2_with fail
        refine (value_none u _ _ HV.out (by omega) (by omega)).mono ?_
        rintro e w1 ⟨rfl, ⟨n, rfl⟩⟩
        go_wp2_with fail
        go_ret2
        refine ⟨.slice none 0 0, ?_, ?_, ?_⟩
        · rw [HD.out, drop_bytes s pos hp]; simp [decGo, HE.out]
        · rw [HD.out, drop_bytes s pos hp]; simp only [decGo, HE.out]; exact Kd.R_nil _ _ _ _ _
        · exact pw_below_drewN (Lib.below_iterAt HB.out (Nat.le_refl _) _ _) _
      · have HV := Aside0.mk ((valOf_rune u s pos hp).trans hv)
        have HE := Aside0.mk hv
        have h1 := decode_one hp hv
        have hr := valOf_range hv
        have hv0 := hr.1
        have hv1 := hr.2.1
        clear hv hr
        rw [h1] at hnx
        rcases HH.out with ⟨rfl, rfl⟩ | ⟨rfl, hh0, hh1⟩ | ⟨rfl, hh0, hh1⟩ | ⟨rfl, hh0, hh1⟩
        · have hj : Go.bits .or .u64 0 v = v := by
            have := join6 (h := 0) (b := 0) (v := v) (.inl ⟨rfl, rfl⟩) ⟨hv0, hv1⟩
            rw [show IntKind.u64.wrap ((0 : Int) * 64) = 0 from u64_id 0 (by omega) (by omega), show (0 : Int) * 64 + v = v from by omega] at this
            exact this
          go_wp2_with fail
          refine (value_some u _ _ _ HV.out (by omega) (by omega)).mono ?_
          rintro e w1 ⟨rfl, ⟨n, rfl⟩⟩
          go_wp2_with fail
          refine ⟨⟨pos + 1, out, v, 6, by omega, rfl, rfl, .inr (.inr (.inr ⟨rfl, hv0, hv1⟩)), ?_, ?_, ?_, ?_, by have := HL.out; omega⟩, ?_⟩
          · rw [HD.out, drop_bytes s pos hp]; simp [decGo, HE.out]
          · exact Lib.iterAt_heap _ _ _ _ _ HI.out
          · exact Kd.R_drewN (R_iter HO.out (by omega)) _
          · exact pw_below_drewN (Lib.below_iterAt HB.out (Nat.le_refl _) _ _) _
          · rw [iterPos_of (show ((wr.iterAt w.heap.size s (pos + 1)).drewN n).heap[w.heap.size]? = some (.stringIter s (pos + 1)) from Lib.iterAt_heap _ _ _ _ _ HI.out), iterPos_of HI.out]; omega
        · have hj : Go.bits .or .u64 (h * 64) v = h * 64 + v := by have := join6 (h := h) (b := 2) (v := v) (.inr (.inl ⟨rfl, hh0, hh1⟩)) ⟨hv0, hv1⟩; rwa [u64_id _ (by omega) (by omega)] at this
          have hm : Go.bits .and .u64 (h * 64 + v) 0 = (h * 64 + v) % 1 := and_mask (h * 64 + v) (by omega) (by omega) 1 0 (by decide)
          have hsz : w.heap.size < wr.heap.size := (Array.getElem?_eq_some_iff.1 HI.out).1
          go_wp2_with fail
          refine (value_some u _ _ _ HV.out (by omega) (by omega)).mono ?_
          rintro e w1 ⟨rfl, ⟨n, rfl⟩⟩
          go_wp2_with (((with_reducible refine gate_builtin (b := .append) (xs := #[.tmp 36, .tmp 41]) rfl ?_); at_builtin; refine Kd.R_append (Kd.int .u8) (w0 := (wr.iterAt w.heap.size s (pos + 1)).drewN n) (W := (wr.iterAt w.heap.size s (pos + 1)).drewN n) (w.heap.size + 1) rfl (.tmp 36) (.tmp 41) 58 5 (.int .u8 0) 1 rfl Try.underlying58 info5 rfl (by decide) (by omega) u6 out (h * 64 + v) [.int .u8 (h * 64 + v)] (fun _ => True) (fun _ => False) rfl rfl ?aP (fun _ hk => hk.elim) ?aF ?aO (Below.refl _ _) ?aS ?aL ?_; (case aP => exact rfl); (case aF => exact (fun _ _ => trivial)); (case aO => exact Kd.R_drewN (R_iter HO.out (by omega)) _); (case aS => exact (show w.heap.size + 1 ≤ (wr.iterAt w.heap.size s (pos + 1)).heap.size by rw [Lib.iterAt_size]; omega)); (case aL => have := HL.out; omega); intro v1 w1 ho1 hb1 hg1 hat1; have HO1 := Aside0.mk ho1; have HB1 := Aside0.mk hb1; clear ho1 hb1 hg1 hat1))
          have hit1 : w1.heap[w.heap.size]? = some (.stringIter s (pos + 1)) := (HB1.out.block w.heap.size (by omega)).trans (Lib.iterAt_heap _ _ _ _ _ HI.out)
          refine ⟨⟨pos + 1, out ++ [h * 64 + v], 0, 0, by omega, rfl, rfl, .inl ⟨rfl, rfl⟩, ?_, hit1, HO1.out, ?_, by have := HL.out; simp; omega⟩, ?_⟩
          · rw [HD.out, drop_bytes s pos hp]; simp [decGo, HE.out]
          · exact (pw_below_drewN (Lib.below_iterAt HB.out (Nat.le_refl _) s (pos + 1)) n).trans (HB1.out.mono (by omega))
          · rw [iterPos_of hit1, iterPos_of HI.out]; omega
        · have hj : Go.bits .or .u64 (h * 64) v = h * 64 + v := by have := join6 (h := h) (b := 4) (v := v) (.inr (.inr (.inl ⟨rfl, hh0, hh1⟩))) ⟨hv0, hv1⟩; rwa [u64_id _ (by omega) (by omega)] at this
          have hm : Go.bits .and .u64 (h * 64 + v) 3 = (h * 64 + v) % 4 := and_mask (h * 64 + v) (by omega) (by omega) 4 3 (by decide)
          have hsz : w.heap.size < wr.heap.size := (Array.getElem?_eq_some_iff.1 HI.out).1
          go_wp2_with fail
          refine (value_some u _ _ _ HV.out (by omega) (by omega)).mono ?_
          rintro e w1 ⟨rfl, ⟨n, rfl⟩⟩
          go_wp2_with (((with_reducible refine gate_builtin (b := .append) (xs := #[.tmp 36, .tmp 41]) rfl ?_); at_builtin; refine Kd.R_append (Kd.int .u8) (w0 := (wr.iterAt w.heap.size s (pos + 1)).drewN n) (W := (wr.iterAt w.heap.size s (pos + 1)).drewN n) (w.heap.size + 1) rfl (.tmp 36) (.tmp 41) 58 5 (.int .u8 0) 1 rfl Try.underlying58 info5 rfl (by decide) (by omega) u6 out ((h * 64 + v) / 4) [.int .u8 ((h * 64 + v) / 4)] (fun _ => True) (fun _ => False) rfl rfl ?aP (fun _ hk => hk.elim) ?aF ?aO (Below.refl _ _) ?aS ?aL ?_; (case aP => exact rfl); (case aF => exact (fun _ _ => trivial)); (case aO => exact Kd.R_drewN (R_iter HO.out (by omega)) _); (case aS => exact (show w.heap.size + 1 ≤ (wr.iterAt w.heap.size s (pos + 1)).heap.size by rw [Lib.iterAt_size]; omega)); (case aL => have := HL.out; omega); intro v1 w1 ho1 hb1 hg1 hat1; have HO1 := Aside0.mk ho1; have HB1 := Aside0.mk hb1; clear ho1 hb1 hg1 hat1))
          have hit1 : w1.heap[w.heap.size]? = some (.stringIter s (pos + 1)) := (HB1.out.block w.heap.size (by omega)).trans (Lib.iterAt_heap _ _ _ _ _ HI.out)
          refine ⟨⟨pos + 1, out ++ [(h * 64 + v) / 4], (h * 64 + v) % 4, 2, by omega, rfl, rfl, .inr (.inl ⟨rfl, by omega, by omega⟩), ?_, hit1, HO1.out, ?_, by have := HL.out; simp; omega⟩, ?_⟩
          · rw [HD.out, drop_bytes s pos hp]; simp [decGo, HE.out]
          · exact (pw_below_drewN (Lib.below_iterAt HB.out (Nat.le_refl _) s (pos + 1)) n).trans (HB1.out.mono (by omega))
          · rw [iterPos_of hit1, iterPos_of HI.out]; omega
        · have hj : Go.bits .or .u64 (h * 64) v = h * 64 + v := by have := join6 (h := h) (b := 6) (v := v) (.inr (.inr (.inr ⟨rfl, hh0, hh1⟩))) ⟨hv0, hv1⟩; rwa [u64_id _ (by omega) (by omega)] at this
          have hm : Go.bits .and .u64 (h * 64 + v) 15 = (h * 64 + v) % 16 := and_mask (h * 64 + v) (by omega) (by omega) 16 15 (by decide)
          have hsz : w.heap.size < wr.heap.size := (Array.getElem?_eq_some_iff.1 HI.out).1
          go_wp2_with fail
          refine (value_some u _ _ _ HV.out (by omega) (by omega)).mono ?_
          rintro e w1 ⟨rfl, ⟨n, rfl⟩⟩
          go_wp2_with (((with_reducible refine gate_builtin (b := .append) (xs := #[.tmp 36, .tmp 41]) rfl ?_); at_builtin; refine Kd.R_append (Kd.int .u8) (w0 := (wr.iterAt w.heap.size s (pos + 1)).drewN n) (W := (wr.iterAt w.heap.size s (pos + 1)).drewN n) (w.heap.size + 1) rfl (.tmp 36) (.tmp 41) 58 5 (.int .u8 0) 1 rfl Try.underlying58 info5 rfl (by decide) (by omega) u6 out ((h * 64 + v) / 16) [.int .u8 ((h * 64 + v) / 16)] (fun _ => True) (fun _ => False) rfl rfl ?aP (fun _ hk => hk.elim) ?aF ?aO (Below.refl _ _) ?aS ?aL ?_; (case aP => exact rfl); (case aF => exact (fun _ _ => trivial)); (case aO => exact Kd.R_drewN (R_iter HO.out (by omega)) _); (case aS => exact (show w.heap.size + 1 ≤ (wr.iterAt w.heap.size s (pos + 1)).heap.size by rw [Lib.iterAt_size]; omega)); (case aL => have := HL.out; omega); intro v1 w1 ho1 hb1 hg1 hat1; have HO1 := Aside0.mk ho1; have HB1 := Aside0.mk hb1; clear ho1 hb1 hg1 hat1))
          have hit1 : w1.heap[w.heap.size]? = some (.stringIter s (pos + 1)) := (HB1.out.block w.heap.size (by omega)).trans (Lib.iterAt_heap _ _ _ _ _ HI.out)
          refine ⟨⟨pos + 1, out ++ [(h * 64 + v) / 16], (h * 64 + v) % 16, 4, by omega, rfl, rfl, .inr (.inr (.inl ⟨rfl, by omega, by omega⟩)), ?_, hit1, HO1.out, ?_, by have := HL.out; simp; omega⟩, ?_⟩
          · rw [HD.out, drop_bytes s pos hp]; simp [decGo, HE.out]
          · exact (pw_below_drewN (Lib.below_iterAt HB.out (Nat.le_refl _) s (pos + 1)) n).trans (HB1.out.mono (by omega))
          · rw [iterPos_of hit1, iterPos_of HI.out]; omega
    · have hnx := fun ty => Lib.run_next_end_at (P := Try.prog) wr w.heap.size s pos ty HI.out hp
      have hnil : (bytesOf s).drop pos = [] := List.drop_eq_nil_of_le (by rw [bytesOf_length]; omega)
      have HD2 := Aside0.mk (HD.out.trans (by rw [hnil]))
      clear hnil
      by_cases h6 : 6 ≤ b
      · have HZ : Aside0 (decL u (bytesOf s) = none) := ⟨by rw [HD2.out]; simp [decGo, h6]⟩
        go_wp2_with fail
        go_ret2
        refine ⟨.slice none 0 0, ?_, ?_, ?_⟩
        · rw [HZ.out]; rfl
        · rw [HZ.out]; exact Kd.R_nil _ _ _ _ _
        · exact HB.out
      · by_cases h0 : h = 0
        · subst h0
          have HZ : Aside0 (decL u (bytesOf s) = some out) := ⟨by rw [HD2.out]; simp [decGo]; omega⟩
          go_wp2_with fail
          go_ret2
          refine ⟨u6, ?_, ?_, ?_⟩
          · rw [HZ.out]; rfl
          · rw [HZ.out]; exact Kd.R_lower HO.out (by omega)
          · exact HB.out
        · have HZ : Aside0 (decL u (bytesOf s) = none) := ⟨by rw [HD2.out]; simp [decGo, h0]⟩
          have hz0 : (h == 0) = false := by simp [h0]
          have hz1 : (h != 0) = true := by simp [h0]
          go_wp2_with fail
          go_ret2
          refine ⟨.slice none 0 0, ?_, ?_, ?_⟩
          · rw [HZ.out]; rfl
          · rw [HZ.out]; exact Kd.R_nil _ _ _ _ _
          · exact HB.out
def letters_Decode.f (a0 : ByteArray) (a1 : Bool) : Option (List Int × Bool) := if a0.size ≤ 140737488351232 then some ((decL a1 (bytesOf a0)).getD [], (decL a1 (bytesOf a0)).isSome) else none
theorem letters_Decode.calls (a0 : ByteArray) (a1 : Bool) (r1 : List Int) (r2 : Bool) (w : World) (h : letters_Decode.f a0 a1 = some (r1, r2)) :
    Calls Try.prog 32 #[.string a0, .bool a1] w fun e w' => ∃ v0_ : Value, e = .returned (.tuple #[v0_, .bool r2]) ∧ Kd.R (Kd.int .u8) 5 w' w.heap.size (fun _ => True) v0_ r1 ∧ Below w.heap.size w w' := by
  unfold letters_Decode.f at h
  split at h
  · rename_i hs
    injection h with h
    injection h with h1 h2
    subst h1
    subst h2
    exact dec_walk a1 a0 w hs
  · cases h
end Go.Proofs.Ytdleomeiojlooaa.L
end

section
namespace Go.Proofs.Ytdleomeiojlooaa.P
open Go.RowKit Go.Proofs.YtdleomeiojlooaaW.PrintWords Go.Proofs.YtdleomeiojlooaaW.PrintLast Go.Proofs.YtdleomeiojlooaaW.PrintMore
set_option linter.unusedVariables false
set_option linter.unusedSimpArgs false
mutual
def hustingsref01_Decode.l0 : Nat → ByteArray → Bool → List Int → Int → Option (List Int × Bool)
  | 0, _, _, _, _ => none
  | k + 1, x0, x1, x6, x7 => if x7 < (x0.size : Int) then (hustingsref01_Decode.l1 k x0 x1 x6 x7 0) else (if ((x0.size : Int) % 4) = 1 then (some (([] : List Int), false)) else (some (x6, true)))
def hustingsref01_Decode.j2 : Nat → ByteArray → Bool → List Int → Int → Int → Option (List Int × Bool)
  | 0, _, _, _, _, _ => none
  | k + 1, x0, x1, x6, x7, x8 => if x8 = 64 then (some (([] : List Int), false)) else (hustingsref01_Decode.l2 k x0 x1 x6 x7 x8 0)
def hustingsref01_Decode.l2 : Nat → ByteArray → Bool → List Int → Int → Int → Int → Option (List Int × Bool)
  | 0, _, _, _, _, _, _ => none
  | k + 1, x0, x1, x6, x7, x8, x9 => if x9 < 6 then (if 0 ≤ (IntKind.u64.wrap (wrap64 (5 - x9))) then (if (Go.bits .and .i64 (shr .i64 x8 (IntKind.u64.wrap (wrap64 (5 - x9)))) 1) = 0 then (hustingsref01_Decode.l2 k x0 x1 x6 x7 x8 (wrap64 (x9 + 1))) else (if (wrap64 (Int.tdiv (wrap64 ((wrap64 (6 * x7)) + x9)) 8)) ≥ (x6.length : Int) then (some (([] : List Int), false)) else (if 0 ≤ (wrap64 (Int.tdiv (wrap64 ((wrap64 (6 * x7)) + x9)) 8)) then (if (wrap64 (Int.tdiv (wrap64 ((wrap64 (6 * x7)) + x9)) 8)) < (x6.length : Int) then (if 0 ≤ (IntKind.u64.wrap (Int.tmod (wrap64 ((wrap64 (6 * x7)) + x9)) 8)) then (hustingsref01_Decode.l2 k x0 x1 (x6.set ((wrap64 (Int.tdiv (wrap64 ((wrap64 (6 * x7)) + x9)) 8)) : Int).toNat (Go.bits .or .u8 (rd x6 (wrap64 (Int.tdiv (wrap64 ((wrap64 (6 * x7)) + x9)) 8))) (shr .u8 128 (IntKind.u64.wrap (Int.tmod (wrap64 ((wrap64 (6 * x7)) + x9)) 8))))) x7 x8 (wrap64 (x9 + 1))) else (none)) else (none)) else (none)))) else (none)) else (hustingsref01_Decode.l0 k x0 x1 x6 (wrap64 (x7 + 1)))
def hustingsref01_Decode.l1 : Nat → ByteArray → Bool → List Int → Int → Int → Option (List Int × Bool)
  | 0, _, _, _, _, _ => none
  | k + 1, x0, x1, x6, x7, x8 => if x8 < 64 then ((hustingsref01_Letter.f x8 x1).bind fun t34004 => (if 0 ≤ x7 then (if x7 < (x0.size : Int) then (if t34004 = (bt x0 x7) then (hustingsref01_Decode.j2 k x0 x1 x6 x7 x8) else (hustingsref01_Decode.l1 k x0 x1 x6 x7 (wrap64 (x8 + 1)))) else (none)) else (none))) else (hustingsref01_Decode.j2 k x0 x1 x6 x7 x8)
end
def hustingsref01_Decode.f (k : Nat) (a0 : ByteArray) (a1 : Bool) : Option (List Int × Bool) := if 0 ≤ (wrap64 (Int.tdiv (wrap64 ((a0.size : Int) * 6)) 8)) then (if (wrap64 (Int.tdiv (wrap64 ((a0.size : Int) * 6)) 8) : Int).toNat ≤ 281474976710656 then (hustingsref01_Decode.l0 k a0 a1 (List.replicate (wrap64 (Int.tdiv (wrap64 ((a0.size : Int) * 6)) 8) : Int).toNat 0) 0) else (none)) else (none)
theorem hustingsref01_Decode.mono_l : ∀ k, (∀ y0 y1 y2 y3, LeO (hustingsref01_Decode.l0 k y0 y1 y2 y3) (hustingsref01_Decode.l0 (k + 1) y0 y1 y2 y3)) ∧ (∀ y0 y1 y2 y3 y4, LeO (hustingsref01_Decode.j2 k y0 y1 y2 y3 y4) (hustingsref01_Decode.j2 (k + 1) y0 y1 y2 y3 y4)) ∧ (∀ y0 y1 y2 y3 y4 y5, LeO (hustingsref01_Decode.l2 k y0 y1 y2 y3 y4 y5) (hustingsref01_Decode.l2 (k + 1) y0 y1 y2 y3 y4 y5)) ∧ (∀ y0 y1 y2 y3 y4, LeO (hustingsref01_Decode.l1 k y0 y1 y2 y3 y4) (hustingsref01_Decode.l1 (k + 1) y0 y1 y2 y3 y4))
  | 0 => ⟨fun _ _ _ _ r h => by simp [hustingsref01_Decode.l0] at h, fun _ _ _ _ _ r h => by simp [hustingsref01_Decode.j2] at h, fun _ _ _ _ _ _ r h => by simp [hustingsref01_Decode.l2] at h, fun _ _ _ _ _ r h => by simp [hustingsref01_Decode.l1] at h⟩
  | k + 1 => by
    obtain ⟨ih0, ih1, ih2, ih3⟩ := hustingsref01_Decode.mono_l k
    refine ⟨?_, ?_, ?_, ?_⟩
    · intro y0 y1 y2 y3
      unfold hustingsref01_Decode.l0
      repeat' first
      | (with_reducible exact ih0 _ _ _ _)
      | (with_reducible exact ih1 _ _ _ _ _)
      | (with_reducible exact ih2 _ _ _ _ _ _)
      | (with_reducible exact ih3 _ _ _ _ _)
      | (with_reducible exact LeO.refl _)
      | (with_reducible exact LeO.none _)
      | (with_reducible refine LeO.ite ?_ ?_)
      | (with_reducible refine LeO.bind ?_ (fun _ => ?_))
      | exact ih0 _ _ _ _
      | exact ih1 _ _ _ _ _
      | exact ih2 _ _ _ _ _ _
      | exact ih3 _ _ _ _ _
      | exact LeO.none _
      | refine LeO.ite ?_ ?_
      | refine LeO.bind ?_ (fun _ => ?_)
    · intro y0 y1 y2 y3 y4
      unfold hustingsref01_Decode.j2
      repeat' first
      | (with_reducible exact ih0 _ _ _ _)
      | (with_reducible exact ih1 _ _ _ _ _)
      | (with_reducible exact ih2 _ _ _ _ _ _)
      | (with_reducible exact ih3 _ _ _ _ _)
      | (with_reducible exact LeO.refl _)
      | (with_reducible exact LeO.none _)
      | (with_reducible refine LeO.ite ?_ ?_)
      | (with_reducible refine LeO.bind ?_ (fun _ => ?_))
      | exact ih0 _ _ _ _
      | exact ih1 _ _ _ _ _
      | exact ih2 _ _ _ _ _ _
      | exact ih3 _ _ _ _ _
      | exact LeO.none _
      | refine LeO.ite ?_ ?_
      | refine LeO.bind ?_ (fun _ => ?_)
    · intro y0 y1 y2 y3 y4 y5
      unfold hustingsref01_Decode.l2
      repeat' first
      | (with_reducible exact ih0 _ _ _ _)
      | (with_reducible exact ih1 _ _ _ _ _)
      | (with_reducible exact ih2 _ _ _ _ _ _)
      | (with_reducible exact ih3 _ _ _ _ _)
      | (with_reducible exact LeO.refl _)
      | (with_reducible exact LeO.none _)
      | (with_reducible refine LeO.ite ?_ ?_)
      | (with_reducible refine LeO.bind ?_ (fun _ => ?_))
      | exact ih0 _ _ _ _
      | exact ih1 _ _ _ _ _
      | exact ih2 _ _ _ _ _ _
      | exact ih3 _ _ _ _ _
      | exact LeO.none _
      | refine LeO.ite ?_ ?_
      | refine LeO.bind ?_ (fun _ => ?_)
    · intro y0 y1 y2 y3 y4
      unfold hustingsref01_Decode.l1
      repeat' first
      | (with_reducible exact ih0 _ _ _ _)
      | (with_reducible exact ih1 _ _ _ _ _)
      | (with_reducible exact ih2 _ _ _ _ _ _)
      | (with_reducible exact ih3 _ _ _ _ _)
      | (with_reducible exact LeO.refl _)
      | (with_reducible exact LeO.none _)
      | (with_reducible refine LeO.ite ?_ ?_)
      | (with_reducible refine LeO.bind ?_ (fun _ => ?_))
      | exact ih0 _ _ _ _
      | exact ih1 _ _ _ _ _
      | exact ih2 _ _ _ _ _ _
      | exact ih3 _ _ _ _ _
      | exact LeO.none _
      | refine LeO.ite ?_ ?_
      | refine LeO.bind ?_ (fun _ => ?_)
theorem hustingsref01_Decode.mono : ∀ a0 a1 k, LeO (hustingsref01_Decode.f k a0 a1) (hustingsref01_Decode.f (k + 1) a0 a1) := by
  intro a0 a1 k
  obtain ⟨ih0, ih1, ih2, ih3⟩ := hustingsref01_Decode.mono_l k
  unfold hustingsref01_Decode.f
  repeat' first
      | (with_reducible exact ih0 _ _ _ _)
      | (with_reducible exact ih1 _ _ _ _ _)
      | (with_reducible exact ih2 _ _ _ _ _ _)
      | (with_reducible exact ih3 _ _ _ _ _)
      | (with_reducible exact LeO.refl _)
      | (with_reducible exact LeO.none _)
      | (with_reducible refine LeO.ite ?_ ?_)
      | (with_reducible refine LeO.bind ?_ (fun _ => ?_))
      | exact ih0 _ _ _ _
      | exact ih1 _ _ _ _ _
      | exact ih2 _ _ _ _ _ _
      | exact ih3 _ _ _ _ _
      | exact LeO.none _
      | refine LeO.ite ?_ ?_
      | refine LeO.bind ?_ (fun _ => ?_)
set_option maxHeartbeats 8000000 in
set_option maxRecDepth 100000 in
theorem hustingsref01_Decode.calls (k : Nat) (a0 : ByteArray) (a1 : Bool) (r1 : List Int) (r2 : Bool) (w : World) (h : hustingsref01_Decode.f k a0 a1 = some (r1, r2)) :
    Calls Try.prog 34 #[.string a0, .bool a1] w fun e w' => ∃ v0_ : Value, e = .returned (.tuple #[v0_, .bool r2]) ∧ Kd.R (Kd.int .u8) 5 w' w.heap.size (fun _ => True) v0_ r1 ∧ Below w.heap.size w w' := by
  have HB := Aside0.mk (Below.refl w.heap.size w)
  have H : (if 0 ≤ (wrap64 (Int.tdiv (wrap64 ((a0.size : Int) * 6)) 8)) then (if (wrap64 (Int.tdiv (wrap64 ((a0.size : Int) * 6)) 8) : Int).toNat ≤ 281474976710656 then (hustingsref01_Decode.l0 k a0 a1 (List.replicate (wrap64 (Int.tdiv (wrap64 ((a0.size : Int) * 6)) 8) : Int).toNat 0) 0) else (none)) else (none)) = some (r1, r2) := h
  clear h
  obtain ⟨ji3, hji3⟩ : ∃ j_ : Int, (wrap64 (Int.tdiv (wrap64 ((a0.size : Int) * 6)) 8)) = j_ := ⟨_, rfl⟩
  replace H : (if 0 ≤ (ji3) then (if (ji3 : Int).toNat ≤ 281474976710656 then (hustingsref01_Decode.l0 k a0 a1 (List.replicate (ji3 : Int).toNat 0) 0) else (none)) else (none)) = some (r1, r2) := by first | (rw [hji3] at H; exact H) | (simp only [hji3] at H ⊢; exact H)
  have hji3w : (IntKind.i64.wrap (Int.tdiv (wrap64 ((a0.size : Int) * 6)) 8)) = ji3 := (i64_w _).trans hji3
  by_cases c4 : 0 ≤ (ji3)
  · rw [if_pos c4] at H
    have c4b0 := eq_true c4
    have c4b1 : decide (0 ≤ (ji3)) = true := decide_eq_true c4
    clear c4
    by_cases c5 : (ji3 : Int).toNat ≤ 281474976710656
    · rw [if_pos c5] at H
      have c5b0 := eq_true c5
      have c5b1 : decide ((ji3 : Int).toNat ≤ 281474976710656) = true := decide_eq_true c5
      clear c5
      obtain ⟨y34001, hy34001⟩ : ∃ y_ : List Int, y_ = (List.replicate (ji3 : Int).toNat 0) := ⟨_, rfl⟩
      replace H : (hustingsref01_Decode.l0 k a0 a1 y34001 0) = some (r1, r2) := by first | (rw [hy34001]; with_reducible exact H) | (have H2_ := (Option.bind_some _ _).symm.trans H; rw [hy34001]; with_reducible exact H2_) | (have H2_ := (Option.bind_some _ _).symm.trans H; with_reducible exact H2_) | with_reducible exact H | (rw [hy34001]; exact H) | exact H
      have Ny34001 := Aside0.mk hy34001
      clear hy34001
      have H' := Aside0.mk H
      clear H
      go_enter Try.func34, Try.ntmps34
      go_wp2_with (first | ((with_reducible refine gate_dst (N := 15) rfl ?_); refine Kd.R_make (Kd.int .u8) _ 5 rfl (N := 15) rfl 58 _ _ rfl ji3 rfl rfl Try.underlying58 (.int .u8 0) 1 info5 rfl (by decide) (by omega) 0 (ok := fun _ => True) (okp := fun _ => True) rfl (fun _ hk => hk) trivial (of_decide_eq_true (by first | (with_reducible assumption) | assumption)) (Nat.le_trans (Nat.mul_le_mul_right _ (of_decide_eq_true (by first | (with_reducible assumption) | assumption) : ji3.toNat ≤ 281474976710656)) (by omega)) (Below.refl _ _) (Nat.le_refl _) ?_; intro v34002 w6 ho7 hb hg_ hnew_; clear hg_ hnew_; (first | rw [← Ny34001.out] at ho7 | (simp only [Int.reduceToNat] at ho7; rw [← Ny34001.out] at ho7)); have n0_ := Aside0.mk (Kd.R_lower ho7 (below_size (by repeat (first | (with_reducible first | exact HB.out | apply below_alloc | apply pw_below_drewN | apply below_drew1) | exact HB.out)))); have n1_ := Aside0.mk (below_step (by repeat (first | (with_reducible first | exact HB.out | apply below_alloc | apply pw_below_drewN | apply below_drew1) | exact HB.out)) hb); clear HB; have HO34003 := n0_; have HB := n1_; clear n0_ n1_; clear hb ho7))
      repeat (go_quiet (first | ((with_reducible refine gate_dst (N := 15) rfl ?_); refine Kd.R_make (Kd.int .u8) _ 5 rfl (N := 15) rfl 58 _ _ rfl ji3 rfl rfl Try.underlying58 (.int .u8 0) 1 info5 rfl (by decide) (by omega) 0 (ok := fun _ => True) (okp := fun _ => True) rfl (fun _ hk => hk) trivial (of_decide_eq_true (by first | (with_reducible assumption) | assumption)) (Nat.le_trans (Nat.mul_le_mul_right _ (of_decide_eq_true (by first | (with_reducible assumption) | assumption) : ji3.toNat ≤ 281474976710656)) (by omega)) (Below.refl _ _) (Nat.le_refl _) ?_; intro v34002 w6 ho7 hb hg_ hnew_; clear hg_ hnew_; (first | rw [← Ny34001.out] at ho7 | (simp only [Int.reduceToNat] at ho7; rw [← Ny34001.out] at ho7)); have n0_ := Aside0.mk (Kd.R_lower ho7 (below_size (by repeat (first | (with_reducible first | exact HB.out | apply below_alloc | apply pw_below_drewN | apply below_drew1) | exact HB.out)))); have n1_ := Aside0.mk (below_step (by repeat (first | (with_reducible first | exact HB.out | apply below_alloc | apply pw_below_drewN | apply below_drew1) | exact HB.out)) hb); clear HB; have HO34003 := n0_; have HB := n1_; clear n0_ n1_; clear hb ho7)); try go_wp2_with (first | ((with_reducible refine gate_dst (N := 15) rfl ?_); refine Kd.R_make (Kd.int .u8) _ 5 rfl (N := 15) rfl 58 _ _ rfl ji3 rfl rfl Try.underlying58 (.int .u8 0) 1 info5 rfl (by decide) (by omega) 0 (ok := fun _ => True) (okp := fun _ => True) rfl (fun _ hk => hk) trivial (of_decide_eq_true (by first | (with_reducible assumption) | assumption)) (Nat.le_trans (Nat.mul_le_mul_right _ (of_decide_eq_true (by first | (with_reducible assumption) | assumption) : ji3.toNat ≤ 281474976710656)) (by omega)) (Below.refl _ _) (Nat.le_refl _) ?_; intro v34002 w6 ho7 hb hg_ hnew_; clear hg_ hnew_; (first | rw [← Ny34001.out] at ho7 | (simp only [Int.reduceToNat] at ho7; rw [← Ny34001.out] at ho7)); have n0_ := Aside0.mk (Kd.R_lower ho7 (below_size (by repeat (first | (with_reducible first | exact HB.out | apply below_alloc | apply pw_below_drewN | apply below_drew1) | exact HB.out)))); have n1_ := Aside0.mk (below_step (by repeat (first | (with_reducible first | exact HB.out | apply below_alloc | apply pw_below_drewN | apply below_drew1) | exact HB.out)) hb); clear HB; have HO34003 := n0_; have HB := n1_; clear n0_ n1_; clear hb ho7)))
      go_loopg [7] k (fun kq v7 w' => ∃ (x6_1 : List Int) (x7_1 : Int), v7 = .int .i64 x7_1 ∧ Aside0 (hustingsref01_Decode.l0 kq a0 a1 x6_1 x7_1 = some (r1, r2)) ∧ Aside0 (kq ≤ k) ∧ Aside0 (Kd.R (Kd.int .u8) 5 w' w.heap.size (fun _ => True) v34002 x6_1) ∧ Aside0 (Below w.heap.size w w'))
      case atStart => exact ⟨(y34001), (0), (by first | rfl | (simp; done) | (simp [*]; done)), H', ⟨Nat.le_refl _⟩, ⟨by (with_reducible repeat (first | apply Kd.R_alloc | apply Kd.R_drewN | apply Kd.R_drew)); exact HO34003.out⟩, ⟨by repeat (first | (with_reducible first | exact HB.out | apply below_alloc | apply pw_below_drewN | apply below_drew1) | exact HB.out)⟩⟩
      case round =>
        clear H'
        try clear p2
        try clear c3
        try clear c4
        try clear c4b0
        try clear c4b1
        try clear c5
        try clear c5b0
        try clear c5b1
        try clear p6
        obtain ⟨x6_1, x7_1, rfl, HA, HK1, HO_6, HB⟩ := hrel
        cases gk with
        | zero => exact absurd HA.out (by simp [hustingsref01_Decode.l0])
        | succ k1 =>
          have H := HA.out
          clear HA
          simp only [hustingsref01_Decode.l0] at H
          by_cases c8 : x7_1 < (a0.size : Int)
          · rw [if_pos c8] at H
            have c8b0 : decide (x7_1 < (a0.size : Int)) = true := decide_eq_true c8
            clear c8
            have HC9 := Aside0.mk H
            clear H
            go_upto_block 2 with (fail)
            repeat (go_quiet (fail); go_upto_block 2 with (fail))
            go_cut [8] (fun v8 wc => ∃ (kq : Nat) (x8_8 : Int), v8 = .int .i64 x8_8 ∧ Aside0 (hustingsref01_Decode.j2 kq a0 a1 x6_1 x7_1 x8_8 = some (r1, r2)) ∧ Aside0 (kq ≤ k1) ∧ Aside0 (Kd.R (Kd.int .u8) 5 wc w.heap.size (fun _ => True) v34002 x6_1) ∧ Aside0 (Below w.heap.size w wc))
            case first =>
              have H := HC9.out
              clear HC9
              have H' := Aside0.mk H
              clear H
              go_wp2
              repeat (go_quiet (fail); try go_wp2)
              go_loopg [8] k1 (fun kq v8 w' => ∃ (x8_2 : Int), v8 = .int .i64 x8_2 ∧ Aside0 (hustingsref01_Decode.l1 kq a0 a1 x6_1 x7_1 x8_2 = some (r1, r2)) ∧ Aside0 (kq ≤ k1) ∧ Aside0 (Kd.R (Kd.int .u8) 5 w' w.heap.size (fun _ => True) v34002 x6_1) ∧ Aside0 (Below w.heap.size w w'))
              case atStart => exact ⟨(0), (by first | rfl | (simp; done) | (simp [*]; done)), H', ⟨Nat.le_refl _⟩, ⟨by (with_reducible repeat (first | apply Kd.R_alloc | apply Kd.R_drewN | apply Kd.R_drew)); exact HO_6.out⟩, ⟨by repeat (first | (with_reducible first | exact HB.out | apply below_alloc | apply pw_below_drewN | apply below_drew1) | exact HB.out)⟩⟩
              case round =>
                clear H'
                try clear p2
                try clear c3
                try clear c4
                try clear c4b0
                try clear c4b1
                try clear c5
                try clear c5b0
                try clear c5b1
                try clear p6
                try clear c8
                try clear c8b0
                try clear p2
                try clear p6
                obtain ⟨x8_2, rfl, HA, HK2, HO_6, HB⟩ := hrel
                cases gk with
                | zero => exact absurd HA.out (by simp [hustingsref01_Decode.l1])
                | succ k2 =>
                  have H := HA.out
                  clear HA
                  simp only [hustingsref01_Decode.l1] at H
                  by_cases c10 : x8_2 < 64
                  · rw [if_pos c10] at H
                    have c10b0 : decide (x8_2 < 64) = true := decide_eq_true c10
                    clear c10
                    (first | rw [c10b0] | (simp only [i64_w, i32_w]; rw [c10b0]) | skip)
                    replace H := Option.bind_eq_some_iff.mp H
                    obtain ⟨t34004, A110, H⟩ := H
                    replace H : (if 0 ≤ x7_1 then (if x7_1 < (a0.size : Int) then (if t34004 = (bt a0 x7_1) then (hustingsref01_Decode.j2 k2 a0 a1 x6_1 x7_1 x8_2) else (hustingsref01_Decode.l1 k2 a0 a1 x6_1 x7_1 (wrap64 (x8_2 + 1)))) else (none)) else (none)) = some (r1, r2) := H
                    have A11 := Aside0.mk A110
                    clear A110
                    by_cases c12 : 0 ≤ x7_1
                    · rw [if_pos c12] at H
                      have c12b0 : decide (0 ≤ x7_1) = true := decide_eq_true c12
                      clear c12
                      by_cases c13 : x7_1 < (a0.size : Int)
                      · rw [if_pos c13] at H
                        have c13b0 : decide (x7_1 < (a0.size : Int)) = true := decide_eq_true c13
                        clear c13
                        by_cases c15 : t34004 = (bt a0 x7_1)
                        · rw [if_pos c15] at H
                          have c15b0 : (t34004 == (bt a0 x7_1)) = true := beq_iff_eq.mpr c15
                          have c15b1 : (t34004 != (bt a0 x7_1)) = false := bne_eq_false_iff_eq.mpr c15
                          clear c15
                          have H' := Aside0.mk H
                          clear H
                          go_wp2_with (first | (go_at_call 45; (with_reducible refine (hustingsref01_Letter.calls x8_2 a1 t34004 _ A11.out).mono ?_); rintro e w' ⟨rfl, ⟨nd, rfl⟩⟩; (try first | exact ⟨rfl, _, World.drewN_drewN _ _ _⟩ | exact ⟨rfl, _, Eq.trans (World.drewN_drewN _ _ _) (congrArg (World.drewN _) (Nat.add_assoc _ _ _))⟩); have p14 : 0 ≤ (x7_1 : Int) := of_decide_eq_true (by first | (with_reducible assumption) | assumption); have q14 : x7_1 < (a0.size : Int) := of_decide_eq_true (by first | (with_reducible assumption) | assumption); have hx14 := bt_at a0 x7_1; replace p14 := eq_true p14; replace q14 := eq_true q14))
                          repeat (go_quiet (first | (go_at_call 45; (with_reducible refine (hustingsref01_Letter.calls x8_2 a1 t34004 _ A11.out).mono ?_); rintro e w' ⟨rfl, ⟨nd, rfl⟩⟩; (try first | exact ⟨rfl, _, World.drewN_drewN _ _ _⟩ | exact ⟨rfl, _, Eq.trans (World.drewN_drewN _ _ _) (congrArg (World.drewN _) (Nat.add_assoc _ _ _))⟩); have p14 : 0 ≤ (x7_1 : Int) := of_decide_eq_true (by first | (with_reducible assumption) | assumption); have q14 : x7_1 < (a0.size : Int) := of_decide_eq_true (by first | (with_reducible assumption) | assumption); have hx14 := bt_at a0 x7_1; replace p14 := eq_true p14; replace q14 := eq_true q14)); try go_wp2_with (first | (go_at_call 45; (with_reducible refine (hustingsref01_Letter.calls x8_2 a1 t34004 _ A11.out).mono ?_); rintro e w' ⟨rfl, ⟨nd, rfl⟩⟩; (try first | exact ⟨rfl, _, World.drewN_drewN _ _ _⟩ | exact ⟨rfl, _, Eq.trans (World.drewN_drewN _ _ _) (congrArg (World.drewN _) (Nat.add_assoc _ _ _))⟩); have p14 : 0 ≤ (x7_1 : Int) := of_decide_eq_true (by first | (with_reducible assumption) | assumption); have q14 : x7_1 < (a0.size : Int) := of_decide_eq_true (by first | (with_reducible assumption) | assumption); have hx14 := bt_at a0 x7_1; replace p14 := eq_true p14; replace q14 := eq_true q14)))
                          go_meet
                          case rel => exact ⟨_, (x8_2), (by first | rfl | (simp; done) | (simp [*]; done)), H', ⟨by have := HK1.out; have := HK2.out; first | omega | exact Nat.le_refl _⟩, ⟨by (with_reducible repeat (first | apply Kd.R_alloc | apply Kd.R_drewN | apply Kd.R_drew)); exact HO_6.out⟩, ⟨by repeat (first | (with_reducible first | exact HB.out | apply below_alloc | apply pw_below_drewN | apply below_drew1) | exact HB.out)⟩⟩
                        · rw [if_neg c15] at H
                          have c15b0 : (t34004 == (bt a0 x7_1)) = false := beq_eq_false_iff_ne.mpr c15
                          have c15b1 : (t34004 != (bt a0 x7_1)) = true := bne_iff_ne.mpr c15
                          have H' := Aside0.mk H
                          clear H
                          go_wp2_with (first | (go_at_call 45; (with_reducible refine (hustingsref01_Letter.calls x8_2 a1 t34004 _ A11.out).mono ?_); rintro e w' ⟨rfl, ⟨nd, rfl⟩⟩; (try first | exact ⟨rfl, _, World.drewN_drewN _ _ _⟩ | exact ⟨rfl, _, Eq.trans (World.drewN_drewN _ _ _) (congrArg (World.drewN _) (Nat.add_assoc _ _ _))⟩); have p14 : 0 ≤ (x7_1 : Int) := of_decide_eq_true (by first | (with_reducible assumption) | assumption); have q14 : x7_1 < (a0.size : Int) := of_decide_eq_true (by first | (with_reducible assumption) | assumption); have hx14 := bt_at a0 x7_1; replace p14 := eq_true p14; replace q14 := eq_true q14))
                          repeat (go_quiet (first | (go_at_call 45; (with_reducible refine (hustingsref01_Letter.calls x8_2 a1 t34004 _ A11.out).mono ?_); rintro e w' ⟨rfl, ⟨nd, rfl⟩⟩; (try first | exact ⟨rfl, _, World.drewN_drewN _ _ _⟩ | exact ⟨rfl, _, Eq.trans (World.drewN_drewN _ _ _) (congrArg (World.drewN _) (Nat.add_assoc _ _ _))⟩); have p14 : 0 ≤ (x7_1 : Int) := of_decide_eq_true (by first | (with_reducible assumption) | assumption); have q14 : x7_1 < (a0.size : Int) := of_decide_eq_true (by first | (with_reducible assumption) | assumption); have hx14 := bt_at a0 x7_1; replace p14 := eq_true p14; replace q14 := eq_true q14)); try go_wp2_with (first | (go_at_call 45; (with_reducible refine (hustingsref01_Letter.calls x8_2 a1 t34004 _ A11.out).mono ?_); rintro e w' ⟨rfl, ⟨nd, rfl⟩⟩; (try first | exact ⟨rfl, _, World.drewN_drewN _ _ _⟩ | exact ⟨rfl, _, Eq.trans (World.drewN_drewN _ _ _) (congrArg (World.drewN _) (Nat.add_assoc _ _ _))⟩); have p14 : 0 ≤ (x7_1 : Int) := of_decide_eq_true (by first | (with_reducible assumption) | assumption); have q14 : x7_1 < (a0.size : Int) := of_decide_eq_true (by first | (with_reducible assumption) | assumption); have hx14 := bt_at a0 x7_1; replace p14 := eq_true p14; replace q14 := eq_true q14)))
                          go_roundg k2
                          case measure => have := HK1.out; have := HK2.out; omega
                          case rel => exact ⟨(wrap64 (x8_2 + 1)), (by first | rfl | (simp; done) | (simp [*]; done)), H', ⟨by have := HK1.out; have := HK2.out; omega⟩, ⟨by (with_reducible repeat (first | apply Kd.R_alloc | apply Kd.R_drewN | apply Kd.R_drew)); exact HO_6.out⟩, ⟨by repeat (first | (with_reducible first | exact HB.out | apply below_alloc | apply pw_below_drewN | apply below_drew1) | exact HB.out)⟩⟩
                      · rw [if_neg c13] at H
                        exact absurd H (by simp)
                    · rw [if_neg c12] at H
                      exact absurd H (by simp)
                  · rw [if_neg c10] at H
                    have c10b0 : decide (x8_2 < 64) = false := decide_eq_false c10
                    clear c10
                    (first | rw [c10b0] | (simp only [i64_w, i32_w]; rw [c10b0]) | skip)
                    have H' := Aside0.mk H
                    clear H
                    go_wp2
                    repeat (go_quiet (fail); try go_wp2)
                    go_meet
                    case rel => exact ⟨_, (x8_2), (by first | rfl | (simp; done) | (simp [*]; done)), H', ⟨by have := HK1.out; have := HK2.out; first | omega | exact Nat.le_refl _⟩, ⟨by (with_reducible repeat (first | apply Kd.R_alloc | apply Kd.R_drewN | apply Kd.R_drew)); exact HO_6.out⟩, ⟨by repeat (first | (with_reducible first | exact HB.out | apply below_alloc | apply pw_below_drewN | apply below_drew1) | exact HB.out)⟩⟩
            case rest =>
              clear HC9
              try clear c1
              try clear p1
              try clear q1
              try clear hx1
              try clear p2
              try clear c3
              try clear c4
              try clear c4b0
              try clear c4b1
              try clear c5
              try clear c5b0
              try clear c5b1
              try clear p6
              try clear c8
              try clear c8b0
              try clear c10
              try clear c10b0
              try clear c12
              try clear c12b0
              try clear c13
              try clear c13b0
              try clear p14
              try clear q14
              try clear hx14
              try clear c15
              try clear c15b0
              try clear c15b1
              try clear p14
              try clear p2
              try clear p6
              try clear q14
              obtain ⟨kq, x8_8, rfl, HA, HJ8, HO_6, HB⟩ := hcut
              cases kq with
              | zero => exact absurd HA.out (by simp [hustingsref01_Decode.j2])
              | succ kj8 =>
                have H := HA.out
                clear HA
                simp only [hustingsref01_Decode.j2] at H
                by_cases c16 : x8_8 = 64
                · rw [if_pos c16] at H
                  have c16b0 : (x8_8 == 64) = true := beq_iff_eq.mpr c16
                  have c16b1 : (x8_8 != 64) = false := bne_eq_false_iff_eq.mpr c16
                  clear c16
                  simp only [Option.some.injEq, Prod.mk.injEq] at H
                  obtain ⟨rfl, rfl⟩ := H
                  go_wp2
                  repeat (go_quiet (fail); try go_wp2)
                  go_ret2
                  exact ⟨_, by first | rfl | (simp [errW_none, errW_some] <;> rfl) | (simp only [← hji3]; first | rfl | (simp [errW_none, errW_some] <;> rfl)) | (simp [*, errW_none, errW_some] <;> rfl), by first | exact Kd.R_nil _ _ _ _ _ | exact Kd.N_nil _ _ _ _ _ | exact Kd.V_nil _ _ _ _ _ | exact Kd.Q_nil _ _ _ _ _ | exact Kd.S_nil _ _ _ _ _, by repeat (first | (with_reducible first | exact HB.out | apply below_alloc | apply pw_below_drewN | apply below_drew1) | exact HB.out)⟩
                · rw [if_neg c16] at H
                  have c16b0 : (x8_8 == 64) = false := beq_eq_false_iff_ne.mpr c16
                  have c16b1 : (x8_8 != 64) = true := bne_iff_ne.mpr c16
                  have H' := Aside0.mk H
                  clear H
                  go_wp2
                  repeat (go_quiet (fail); try go_wp2)
                  go_loopg [9] kj8 (fun kq v9 w' => ∃ (x6_3 : List Int) (x9_3 : Int), v9 = .int .i64 x9_3 ∧ Aside0 (hustingsref01_Decode.l2 kq a0 a1 x6_3 x7_1 x8_8 x9_3 = some (r1, r2)) ∧ Aside0 (kq ≤ kj8) ∧ Aside0 (Kd.R (Kd.int .u8) 5 w' w.heap.size (fun _ => True) v34002 x6_3) ∧ Aside0 (Below w.heap.size w w'))
                  case atStart => exact ⟨(x6_1), (0), (by first | rfl | (simp; done) | (simp [*]; done)), H', ⟨Nat.le_refl _⟩, ⟨by (with_reducible repeat (first | apply Kd.R_alloc | apply Kd.R_drewN | apply Kd.R_drew)); exact HO_6.out⟩, ⟨by repeat (first | (with_reducible first | exact HB.out | apply below_alloc | apply pw_below_drewN | apply below_drew1) | exact HB.out)⟩⟩
                  case round =>
                    clear H'
                    try clear c1
                    try clear p1
                    try clear q1
                    try clear hx1
                    try clear p2
                    try clear c3
                    try clear c4
                    try clear c4b0
                    try clear c4b1
                    try clear c5
                    try clear c5b0
                    try clear c5b1
                    try clear p6
                    try clear c8
                    try clear c8b0
                    try clear c10
                    try clear c10b0
                    try clear c12
                    try clear c12b0
                    try clear c13
                    try clear c13b0
                    try clear p14
                    try clear q14
                    try clear hx14
                    try clear c15
                    try clear c15b0
                    try clear c15b1
                    try clear c16
                    try clear c16b0
                    try clear c16b1
                    try clear p1
                    try clear p14
                    try clear p2
                    try clear p6
                    try clear q1
                    try clear q14
                    obtain ⟨x6_3, x9_3, rfl, HA, HK3, HO_6, HB⟩ := hrel
                    cases gk with
                    | zero => exact absurd HA.out (by simp [hustingsref01_Decode.l2])
                    | succ k3 =>
                      have H := HA.out
                      clear HA
                      simp only [hustingsref01_Decode.l2] at H
                      by_cases c17 : x9_3 < 6
                      · rw [if_pos c17] at H
                        have c17b0 : decide (x9_3 < 6) = true := decide_eq_true c17
                        clear c17
                        obtain ⟨ji18, hji18⟩ : ∃ j_ : Int, (IntKind.u64.wrap (wrap64 (5 - x9_3))) = j_ := ⟨_, rfl⟩
                        replace H : (if 0 ≤ (ji18) then (if (Go.bits .and .i64 (shr .i64 x8_8 (ji18)) 1) = 0 then (hustingsref01_Decode.l2 k3 a0 a1 x6_3 x7_1 x8_8 (wrap64 (x9_3 + 1))) else (if (wrap64 (Int.tdiv (wrap64 ((wrap64 (6 * x7_1)) + x9_3)) 8)) ≥ (x6_3.length : Int) then (some (([] : List Int), false)) else (if 0 ≤ (wrap64 (Int.tdiv (wrap64 ((wrap64 (6 * x7_1)) + x9_3)) 8)) then (if (wrap64 (Int.tdiv (wrap64 ((wrap64 (6 * x7_1)) + x9_3)) 8)) < (x6_3.length : Int) then (if 0 ≤ (IntKind.u64.wrap (Int.tmod (wrap64 ((wrap64 (6 * x7_1)) + x9_3)) 8)) then (hustingsref01_Decode.l2 k3 a0 a1 (x6_3.set ((wrap64 (Int.tdiv (wrap64 ((wrap64 (6 * x7_1)) + x9_3)) 8)) : Int).toNat (Go.bits .or .u8 (rd x6_3 (wrap64 (Int.tdiv (wrap64 ((wrap64 (6 * x7_1)) + x9_3)) 8))) (shr .u8 128 (IntKind.u64.wrap (Int.tmod (wrap64 ((wrap64 (6 * x7_1)) + x9_3)) 8))))) x7_1 x8_8 (wrap64 (x9_3 + 1))) else (none)) else (none)) else (none)))) else (none)) = some (r1, r2) := by first | (rw [hji18] at H; exact H) | (simp only [hji18] at H ⊢; exact H)
                        by_cases c19 : 0 ≤ (ji18)
                        · rw [if_pos c19] at H
                          have c19b0 := eq_true c19
                          have c19b1 : decide (0 ≤ (ji18)) = true := decide_eq_true c19
                          clear c19
                          obtain ⟨ji20, hji20⟩ : ∃ j_ : Int, (shr .i64 x8_8 (ji18)) = j_ := ⟨_, rfl⟩
                          replace H : (if (Go.bits .and .i64 (ji20) 1) = 0 then (hustingsref01_Decode.l2 k3 a0 a1 x6_3 x7_1 x8_8 (wrap64 (x9_3 + 1))) else (if (wrap64 (Int.tdiv (wrap64 ((wrap64 (6 * x7_1)) + x9_3)) 8)) ≥ (x6_3.length : Int) then (some (([] : List Int), false)) else (if 0 ≤ (wrap64 (Int.tdiv (wrap64 ((wrap64 (6 * x7_1)) + x9_3)) 8)) then (if (wrap64 (Int.tdiv (wrap64 ((wrap64 (6 * x7_1)) + x9_3)) 8)) < (x6_3.length : Int) then (if 0 ≤ (IntKind.u64.wrap (Int.tmod (wrap64 ((wrap64 (6 * x7_1)) + x9_3)) 8)) then (hustingsref01_Decode.l2 k3 a0 a1 (x6_3.set ((wrap64 (Int.tdiv (wrap64 ((wrap64 (6 * x7_1)) + x9_3)) 8)) : Int).toNat (Go.bits .or .u8 (rd x6_3 (wrap64 (Int.tdiv (wrap64 ((wrap64 (6 * x7_1)) + x9_3)) 8))) (shr .u8 128 (IntKind.u64.wrap (Int.tmod (wrap64 ((wrap64 (6 * x7_1)) + x9_3)) 8))))) x7_1 x8_8 (wrap64 (x9_3 + 1))) else (none)) else (none)) else (none)))) = some (r1, r2) := by first | (rw [hji20] at H; exact H) | (simp only [hji20] at H ⊢; exact H)
                          have hji20_ : (x8_8 / 2 ^ min (ji18).toNat 64) = ji20 := hji20
                          have hji20z : (ji18) ≤ 64 → (x8_8 / 2 ^ (ji18).toNat) = ji20 := shr_small hji20
                          by_cases c21 : (Go.bits .and .i64 (ji20) 1) = 0
                          · rw [if_pos c21] at H
                            have c21b0 : ((Go.bits .and .i64 (ji20) 1) == 0) = true := beq_iff_eq.mpr c21
                            have c21b1 : ((Go.bits .and .i64 (ji20) 1) != 0) = false := bne_eq_false_iff_eq.mpr c21
                            clear c21
                            have H' := Aside0.mk H
                            clear H
                            go_wp2
                            repeat (go_quiet (fail); try go_wp2)
                            go_roundg k3
                            case measure => have := HK1.out; have := HJ8.out; have := HK3.out; omega
                            case rel => exact ⟨(x6_3), (wrap64 (x9_3 + 1)), (by first | rfl | (simp; done) | (simp [*]; done)), H', ⟨by have := HK1.out; have := HJ8.out; have := HK3.out; omega⟩, ⟨by (with_reducible repeat (first | apply Kd.R_alloc | apply Kd.R_drewN | apply Kd.R_drew)); exact HO_6.out⟩, ⟨by repeat (first | (with_reducible first | exact HB.out | apply below_alloc | apply pw_below_drewN | apply below_drew1) | exact HB.out)⟩⟩
                          · rw [if_neg c21] at H
                            have c21b0 : ((Go.bits .and .i64 (ji20) 1) == 0) = false := beq_eq_false_iff_ne.mpr c21
                            have c21b1 : ((Go.bits .and .i64 (ji20) 1) != 0) = true := bne_iff_ne.mpr c21
                            by_cases c22 : (wrap64 (Int.tdiv (wrap64 ((wrap64 (6 * x7_1)) + x9_3)) 8)) ≥ (x6_3.length : Int)
                            · rw [if_pos c22] at H
                              have c22b0 : decide ((x6_3.length : Int) ≤ (wrap64 (Int.tdiv (wrap64 ((wrap64 (6 * x7_1)) + x9_3)) 8))) = true := decide_eq_true c22
                              clear c22
                              simp only [Option.some.injEq, Prod.mk.injEq] at H
                              obtain ⟨rfl, rfl⟩ := H
                              obtain ⟨Ao23, co23, eo23⟩ := Kd.R_slice HO_6.out
                              subst eo23
                              go_wp2
                              repeat (go_quiet (fail); try go_wp2)
                              go_ret2
                              exact ⟨_, by first | rfl | (simp [errW_none, errW_some] <;> rfl) | (simp only [← hji3, ← hji18, ← hji20]; first | rfl | (simp [errW_none, errW_some] <;> rfl)) | (simp [*, errW_none, errW_some] <;> rfl), by first | exact Kd.R_nil _ _ _ _ _ | exact Kd.N_nil _ _ _ _ _ | exact Kd.V_nil _ _ _ _ _ | exact Kd.Q_nil _ _ _ _ _ | exact Kd.S_nil _ _ _ _ _, by repeat (first | (with_reducible first | exact HB.out | apply below_alloc | apply pw_below_drewN | apply below_drew1) | exact HB.out)⟩
                            · rw [if_neg c22] at H
                              have c22b0 : decide ((x6_3.length : Int) ≤ (wrap64 (Int.tdiv (wrap64 ((wrap64 (6 * x7_1)) + x9_3)) 8))) = false := decide_eq_false c22
                              clear c22
                              obtain ⟨ji24, hji24⟩ : ∃ j_ : Int, (wrap64 (Int.tdiv (wrap64 ((wrap64 (6 * x7_1)) + x9_3)) 8)) = j_ := ⟨_, rfl⟩
                              replace H : (if 0 ≤ (ji24) then (if (ji24) < (x6_3.length : Int) then (if 0 ≤ (IntKind.u64.wrap (Int.tmod (wrap64 ((wrap64 (6 * x7_1)) + x9_3)) 8)) then (hustingsref01_Decode.l2 k3 a0 a1 (x6_3.set ((ji24) : Int).toNat (Go.bits .or .u8 (rd x6_3 (ji24)) (shr .u8 128 (IntKind.u64.wrap (Int.tmod (wrap64 ((wrap64 (6 * x7_1)) + x9_3)) 8))))) x7_1 x8_8 (wrap64 (x9_3 + 1))) else (none)) else (none)) else (none)) = some (r1, r2) := by first | (rw [hji24] at H; exact H) | (simp only [hji24] at H ⊢; exact H)
                              (try rw [hji24] at c22b0)
                              have hji24w : (IntKind.i64.wrap (Int.tdiv (wrap64 ((wrap64 (6 * x7_1)) + x9_3)) 8)) = ji24 := (i64_w _).trans hji24
                              by_cases c25 : 0 ≤ (ji24)
                              · rw [if_pos c25] at H
                                have c25b0 : decide (0 ≤ (ji24)) = true := decide_eq_true c25
                                clear c25
                                by_cases c26 : (ji24) < (x6_3.length : Int)
                                · rw [if_pos c26] at H
                                  have c26b0 : decide ((ji24) < (x6_3.length : Int)) = true := decide_eq_true c26
                                  clear c26
                                  obtain ⟨ji27, hji27⟩ : ∃ j_ : Int, (IntKind.u64.wrap (Int.tmod (wrap64 ((wrap64 (6 * x7_1)) + x9_3)) 8)) = j_ := ⟨_, rfl⟩
                                  replace H : (if 0 ≤ (ji27) then (hustingsref01_Decode.l2 k3 a0 a1 (x6_3.set ((ji24) : Int).toNat (Go.bits .or .u8 (rd x6_3 (ji24)) (shr .u8 128 (ji27)))) x7_1 x8_8 (wrap64 (x9_3 + 1))) else (none)) = some (r1, r2) := by first | (rw [hji27] at H; exact H) | (simp only [hji27] at H ⊢; exact H)
                                  by_cases c28 : 0 ≤ (ji27)
                                  · rw [if_pos c28] at H
                                    have c28b0 := eq_true c28
                                    have c28b1 : decide (0 ≤ (ji27)) = true := decide_eq_true c28
                                    clear c28
                                    obtain ⟨ji29, hji29⟩ : ∃ j_ : Int, (shr .u8 128 (ji27)) = j_ := ⟨_, rfl⟩
                                    replace H : (hustingsref01_Decode.l2 k3 a0 a1 (x6_3.set ((ji24) : Int).toNat (Go.bits .or .u8 (rd x6_3 (ji24)) (ji29))) x7_1 x8_8 (wrap64 (x9_3 + 1))) = some (r1, r2) := by first | (rw [hji29] at H; exact H) | (simp only [hji29] at H ⊢; exact H)
                                    have hji29_ : (128 / 2 ^ min (ji27).toNat 8) = ji29 := hji29
                                    have hji29z : (ji27) ≤ 8 → (128 / 2 ^ (ji27).toNat) = ji29 := shr_small hji29
                                    obtain ⟨y34006, hy34006⟩ : ∃ y_ : List Int, y_ = (x6_3.set ((ji24) : Int).toNat (Go.bits .or .u8 (rd x6_3 (ji24)) (ji29))) := ⟨_, rfl⟩
                                    replace H : (hustingsref01_Decode.l2 k3 a0 a1 y34006 x7_1 x8_8 (wrap64 (x9_3 + 1))) = some (r1, r2) := by first | (rw [hy34006]; with_reducible exact H) | (have H2_ := (Option.bind_some _ _).symm.trans H; rw [hy34006]; with_reducible exact H2_) | (have H2_ := (Option.bind_some _ _).symm.trans H; with_reducible exact H2_) | with_reducible exact H | (rw [hy34006]; exact H) | exact H
                                    have Ny34006 := Aside0.mk hy34006
                                    clear hy34006
                                    have H' := Aside0.mk H
                                    clear H
                                    obtain ⟨Ao31, co31, eo31⟩ := Kd.R_slice HO_6.out
                                    subst eo31
                                    have p34005 : 0 ≤ ((ji24) : Int) := of_decide_eq_true (by first | (with_reducible assumption) | assumption)
                                    have q34005 : (ji24) < (x6_3.length : Int) := of_decide_eq_true (by first | (with_reducible assumption) | assumption)
                                    obtain ⟨ad34005, e34005, hx34005_0⟩ := Kd.at_int (Kd.R_reads' HO_6.out).2.2 (ji24) p34005 q34005
                                    cases e34005
                                    replace p34005 := eq_true p34005
                                    replace q34005 := eq_true q34005
                                    have p30 : 0 ≤ ((ji24) : Int) := of_decide_eq_true (by first | (with_reducible assumption) | assumption)
                                    have q30 : ((ji24) : Int) < ((x6_3.length : Int) : Int) := of_decide_eq_true (by first | (with_reducible assumption) | assumption)
                                    obtain ⟨go30, co30, eo30, gb30, gl30, cl30, HG30⟩ := Kd.R_form HO_6.out (by omega)
                                    (first | cases eo30 | (injection eo30 with ea_ en_ ec_; (first | subst ea_ | (injection ea_ with ea_; subst ea_)); subst ec_; clear en_))
                                    have GB30 := Aside0.mk gb30
                                    have GG30 := Aside0.mk HG30
                                    clear gb30 gl30 HG30
                                    (first | simp only [add_plain] at hx34005_0 | skip)
                                    obtain ⟨hx30_0, hf30_0⟩ := Kd.R_celln 0 HO_6.out ((ji24) : Int) p30 q30
                                    replace p30 := eq_true p30
                                    replace q30 := eq_true q30
                                    have HP32 := Kd.R_putg HO_6.out ((ji24) : Int) (Go.bits .or .u8 (rd x6_3 (ji24)) (ji29))
                                    go_wp2_with (first | ((with_reducible refine gate_store (t := 5) (p := 70) rfl ?_); (try (rw [drewN_self wr]; generalize hq_ : World.drewN wr _ = wr; have n0_ := Aside0.mk (Kd.R_at hq_ HO_6.out); have n1_ := Aside0.mk (below_at hq_ HB.out); clear hq_ HO_6 HB; have HO_6 := n0_; have HB := n1_; clear n0_ n1_; (try (have HP32 := Kd.R_putg HO_6.out ((ji24) : Int) (Go.bits .or .u8 (rd x6_3 (ji24)) (ji29)))))); refine store_event (t := 5) (p := 70) (v := ?vo_w33) (w1 := (wr.setCell ⟨go30, ((ji24) : Int).toNat, none⟩ (.int .u8 (Go.bits .or .u8 (rd x6_3 (ji24)) (ji29))))) ?hg ?ho ?hn ?hr ?_; (case ho => rfl); (case hg => rfl); (case hn => rfl); (case hr => first | (go_simp; done) | (go_simp; rfl)); intro w33 hw; have hg : wr.grownBy w33 (some go30) := (by rw [hw]; exact HP32.2); have hp_ : Kd.R (Kd.int .u8) 5 w33 w.heap.size (fun _ => True) (.slice (some ⟨go30, 0, none⟩) x6_3.length co31) y34006 := (by rw [hw, Ny34006.out]; exact HP32.1); clear HP32; have n0_ := Aside0.mk (hp_); have n1_ := Aside0.mk ((by rw [hw]; exact below_set (HB.out) GB30.out : Below w.heap.size w w33)); clear HO_6; clear HB; have HO_6 := n0_; have HB := n1_; clear n0_ n1_; clear hg hw hp_))
                                    repeat (go_quiet (first | ((with_reducible refine gate_store (t := 5) (p := 70) rfl ?_); (try (rw [drewN_self wr]; generalize hq_ : World.drewN wr _ = wr; have n0_ := Aside0.mk (Kd.R_at hq_ HO_6.out); have n1_ := Aside0.mk (below_at hq_ HB.out); clear hq_ HO_6 HB; have HO_6 := n0_; have HB := n1_; clear n0_ n1_; (try (have HP32 := Kd.R_putg HO_6.out ((ji24) : Int) (Go.bits .or .u8 (rd x6_3 (ji24)) (ji29)))))); refine store_event (t := 5) (p := 70) (v := ?vo_w33) (w1 := (wr.setCell ⟨go30, ((ji24) : Int).toNat, none⟩ (.int .u8 (Go.bits .or .u8 (rd x6_3 (ji24)) (ji29))))) ?hg ?ho ?hn ?hr ?_; (case ho => rfl); (case hg => rfl); (case hn => rfl); (case hr => first | (go_simp; done) | (go_simp; rfl)); intro w33 hw; have hg : wr.grownBy w33 (some go30) := (by rw [hw]; exact HP32.2); have hp_ : Kd.R (Kd.int .u8) 5 w33 w.heap.size (fun _ => True) (.slice (some ⟨go30, 0, none⟩) x6_3.length co31) y34006 := (by rw [hw, Ny34006.out]; exact HP32.1); clear HP32; have n0_ := Aside0.mk (hp_); have n1_ := Aside0.mk ((by rw [hw]; exact below_set (HB.out) GB30.out : Below w.heap.size w w33)); clear HO_6; clear HB; have HO_6 := n0_; have HB := n1_; clear n0_ n1_; clear hg hw hp_)); try go_wp2_with (first | ((with_reducible refine gate_store (t := 5) (p := 70) rfl ?_); (try (rw [drewN_self wr]; generalize hq_ : World.drewN wr _ = wr; have n0_ := Aside0.mk (Kd.R_at hq_ HO_6.out); have n1_ := Aside0.mk (below_at hq_ HB.out); clear hq_ HO_6 HB; have HO_6 := n0_; have HB := n1_; clear n0_ n1_; (try (have HP32 := Kd.R_putg HO_6.out ((ji24) : Int) (Go.bits .or .u8 (rd x6_3 (ji24)) (ji29)))))); refine store_event (t := 5) (p := 70) (v := ?vo_w33) (w1 := (wr.setCell ⟨go30, ((ji24) : Int).toNat, none⟩ (.int .u8 (Go.bits .or .u8 (rd x6_3 (ji24)) (ji29))))) ?hg ?ho ?hn ?hr ?_; (case ho => rfl); (case hg => rfl); (case hn => rfl); (case hr => first | (go_simp; done) | (go_simp; rfl)); intro w33 hw; have hg : wr.grownBy w33 (some go30) := (by rw [hw]; exact HP32.2); have hp_ : Kd.R (Kd.int .u8) 5 w33 w.heap.size (fun _ => True) (.slice (some ⟨go30, 0, none⟩) x6_3.length co31) y34006 := (by rw [hw, Ny34006.out]; exact HP32.1); clear HP32; have n0_ := Aside0.mk (hp_); have n1_ := Aside0.mk ((by rw [hw]; exact below_set (HB.out) GB30.out : Below w.heap.size w w33)); clear HO_6; clear HB; have HO_6 := n0_; have HB := n1_; clear n0_ n1_; clear hg hw hp_)))
                                    go_roundg k3
                                    case measure => have := HK1.out; have := HJ8.out; have := HK3.out; omega
                                    case rel => exact ⟨(y34006), (wrap64 (x9_3 + 1)), (by first | rfl | (simp; done) | (simp [*]; done)), H', ⟨by have := HK1.out; have := HJ8.out; have := HK3.out; omega⟩, ⟨by (with_reducible repeat (first | apply Kd.R_alloc | apply Kd.R_drewN | apply Kd.R_drew)); exact HO_6.out⟩, ⟨by repeat (first | (with_reducible first | exact HB.out | apply below_alloc | apply pw_below_drewN | apply below_drew1) | exact HB.out)⟩⟩
                                  · rw [if_neg c28] at H
                                    exact absurd H (by simp)
                                · rw [if_neg c26] at H
                                  exact absurd H (by simp)
                              · rw [if_neg c25] at H
                                exact absurd H (by simp)
                        · rw [if_neg c19] at H
                          exact absurd H (by simp)
                      · rw [if_neg c17] at H
                        have c17b0 : decide (x9_3 < 6) = false := decide_eq_false c17
                        clear c17
                        have H' := Aside0.mk H
                        clear H
                        go_wp2
                        repeat (go_quiet (fail); try go_wp2)
                        go_roundg k3
                        case measure => have := HK1.out; have := HJ8.out; have := HK3.out; omega
                        case rel => exact ⟨(x6_3), (wrap64 (x7_1 + 1)), (by first | rfl | (simp; done) | (simp [*]; done)), H', ⟨by have := HK1.out; have := HJ8.out; have := HK3.out; omega⟩, ⟨by (with_reducible repeat (first | apply Kd.R_alloc | apply Kd.R_drewN | apply Kd.R_drew)); exact HO_6.out⟩, ⟨by repeat (first | (with_reducible first | exact HB.out | apply below_alloc | apply pw_below_drewN | apply below_drew1) | exact HB.out)⟩⟩
          · rw [if_neg c8] at H
            have c8b0 : decide (x7_1 < (a0.size : Int)) = false := decide_eq_false c8
            clear c8
            by_cases c34 : ((a0.size : Int) % 4) = 1
            · rw [if_pos c34] at H
              have c34b0 : (((a0.size : Int) % 4) == 1) = true := beq_iff_eq.mpr c34
              have c34b1 : (((a0.size : Int) % 4) != 1) = false := bne_eq_false_iff_eq.mpr c34
              clear c34
              simp only [Option.some.injEq, Prod.mk.injEq] at H
              obtain ⟨rfl, rfl⟩ := H
              go_wp2
              repeat (go_quiet (fail); try go_wp2)
              go_ret2
              exact ⟨_, by first | rfl | (simp [errW_none, errW_some] <;> rfl) | (simp only [← hji3]; first | rfl | (simp [errW_none, errW_some] <;> rfl)) | (simp [*, errW_none, errW_some] <;> rfl), by first | exact Kd.R_nil _ _ _ _ _ | exact Kd.N_nil _ _ _ _ _ | exact Kd.V_nil _ _ _ _ _ | exact Kd.Q_nil _ _ _ _ _ | exact Kd.S_nil _ _ _ _ _, by repeat (first | (with_reducible first | exact HB.out | apply below_alloc | apply pw_below_drewN | apply below_drew1) | exact HB.out)⟩
            · rw [if_neg c34] at H
              have c34b0 : (((a0.size : Int) % 4) == 1) = false := beq_eq_false_iff_ne.mpr c34
              have c34b1 : (((a0.size : Int) % 4) != 1) = true := bne_iff_ne.mpr c34
              simp only [Option.some.injEq, Prod.mk.injEq] at H
              obtain ⟨rfl, rfl⟩ := H
              go_wp2
              repeat (go_quiet (fail); try go_wp2)
              go_ret2
              exact ⟨_, by first | rfl | (simp [errW_none, errW_some] <;> rfl) | (simp only [← hji3]; first | rfl | (simp [errW_none, errW_some] <;> rfl)) | (simp [*, errW_none, errW_some] <;> rfl), by (with_reducible repeat (first | apply Kd.R_alloc | apply Kd.R_drewN | apply Kd.R_drew)); exact HO_6.out, by repeat (first | (with_reducible first | exact HB.out | apply below_alloc | apply pw_below_drewN | apply below_drew1) | exact HB.out)⟩
    · rw [if_neg c5] at H
      exact absurd H (by simp)
  · rw [if_neg c4] at H
    exact absurd H (by simp)
end Go.Proofs.Ytdleomeiojlooaa.P
end

section
namespace Go.Proofs.Ytdleomeiojlooaa.L
set_option linter.unusedVariables false
set_option linter.unusedSimpArgs false
open Go.RowKit Go.Proofs.YtdleomeiojlooaaW.PrintWords Go.Proofs.YtdleomeiojlooaaW.PrintLast Go.Proofs.YtdleomeiojlooaaW.PrintMore Go.Proofs.Ytdleomeiojlooaa.P
theorem val_ltr : ∀ (u : Bool) (n : Fin 64), valOf u (ltr u (n.val : Int)) = some (n.val : Int) := by decide +kernel
theorem bytes_str {l : List Int} (h : Bs l) : bytesOf (strOfNums l) = l := by
  unfold bytesOf
  rw [strOfNums_data, List.map_map]
  conv => rhs; rw [← List.map_id l]
  apply List.map_congr_left
  intro x hx
  have := h x hx
  simp
  omega
theorem str_bytes (s : ByteArray) : strOfNums (bytesOf s) = s := by
  have : (strOfNums (bytesOf s)).data = s.data := by
    apply Array.ext'
    rw [strOfNums_data]
    unfold bytesOf
    rw [List.map_map]
    conv => rhs; rw [← List.map_id s.data.toList]
    apply List.map_congr_left
    intro x hx
    simp
  cases s
  simp only [strOfNums] at this ⊢
  rw [ByteArray.mk.injEq]
  exact this
theorem bs_bytes (s : ByteArray) : Bs (bytesOf s) := by
  intro x hx
  unfold bytesOf at hx
  simp at hx
  obtain ⟨a, _, rfl⟩ := hx
  have := a.toNat_lt
  omega
theorem val_ltr' (u : Bool) (n : Int) (h0 : 0 ≤ n) (h1 : n < 64) : valOf u (ltr u n) = some n := by
  have := val_ltr u ⟨n.toNat, by omega⟩
  simp at this
  rwa [show max n 0 = n from by omega] at this
theorem ltr_byte_all : ∀ (u : Bool) (n : Fin 64), 0 ≤ ltr u (n.val : Int) ∧ ltr u (n.val : Int) ≤ 255 := by decide +kernel
theorem ltr_byte (u : Bool) (n : Int) (h0 : 0 ≤ n) (h1 : n < 64) : 0 ≤ ltr u n ∧ ltr u n ≤ 255 := by
  have := ltr_byte_all u ⟨n.toNat, by omega⟩
  simp only at this
  rwa [show ((n.toNat : Nat) : Int) = n from by omega] at this
theorem enc6_range : ∀ (l : List Int), Bs l → ∀ x ∈ enc6 l, 0 ≤ x ∧ x < 64
  | [], _, x, hx => by simp [enc6] at hx
  | [a], h, x, hx => by have := h.head; simp [enc6] at hx; omega
  | [a, b], h, x, hx => by have := h.head; have := h.tail.head; simp [enc6] at hx; omega
  | a :: b :: c :: t, h, x, hx => by
    have h1 := h.head; have h2 := h.tail.head; have h3 := h.tail.tail.head
    simp [enc6] at hx
    rcases hx with hx | hx | hx | hx | hx
    · omega
    · omega
    · omega
    · omega
    · exact enc6_range t h.tail.tail.tail x hx
theorem bs_enc (l : List Int) (u : Bool) (h : Bs l) : Bs ((enc6 l).map (ltr u)) := by
  intro x hx
  simp at hx
  obtain ⟨n, hn, rfl⟩ := hx
  have := enc6_range l h n hn
  exact ltr_byte u n this.1 this.2
theorem bytes_enc (l : List Int) (u : Bool) (h : Bs l) : bytesOf (encS l u) = (enc6 l).map (ltr u) := bytes_str (bs_enc l u h)
theorem step0 (u : Bool) (v : Int) (h0 : 0 ≤ v) (h1 : v < 64) (t out : List Int) (h b : Int) (hb : ¬ 2 ≤ b) : decGo u (ltr u v :: t) out h b = decGo u t out (h * 64 + v) (b + 6) := by
  simp only [decGo, val_ltr' u v h0 h1, if_neg hb]
theorem step1 (u : Bool) (v : Int) (h0 : 0 ≤ v) (h1 : v < 64) (t out : List Int) (h b : Int) (hb : 2 ≤ b) : decGo u (ltr u v :: t) out h b = decGo u t (out ++ [(h * 64 + v) / 2 ^ (b - 2).toNat]) ((h * 64 + v) % 2 ^ (b - 2).toNat) (b - 2) := by
  simp only [decGo, val_ltr' u v h0 h1, if_pos hb]
theorem dec_enc (u : Bool) : ∀ (l : List Int), Bs l → ∀ out, decGo u ((enc6 l).map (ltr u)) out 0 0 = some (out ++ l)
  | [], _, out => by simp [enc6, decGo]
  | [a], h, out => by
    have := h.head
    simp only [enc6, List.map_cons, List.map_nil]
    rw [step0 u _ (by omega) (by omega) _ _ _ _ (by omega), step1 u _ (by omega) (by omega) _ _ _ _ (by omega)]
    have e : ((0 : Int) + 6 - 2).toNat = 4 := rfl
    rw [e]
    simp only [decGo]
    rw [if_neg (by omega)]
    congr 3
    omega
  | [a, b], h, out => by
    have := h.head
    have := h.tail.head
    simp only [enc6, List.map_cons, List.map_nil]
    rw [step0 u _ (by omega) (by omega) _ _ _ _ (by omega), step1 u _ (by omega) (by omega) _ _ _ _ (by omega), step1 u _ (by omega) (by omega) _ _ _ _ (by omega)]
    have e : ((0 : Int) + 6 - 2).toNat = 4 := rfl
    have e' : ((0 : Int) + 6 - 2 - 2).toNat = 2 := rfl
    rw [e, e']
    simp only [decGo]
    rw [if_neg (by omega), List.append_assoc]
    congr 2
    simp
    omega
  | a :: b :: c :: t, h, out => by
    have := h.head
    have := h.tail.head
    have := h.tail.tail.head
    simp only [enc6, List.map_cons]
    rw [step0 u _ (by omega) (by omega) _ _ _ _ (by omega), step1 u _ (by omega) (by omega) _ _ _ _ (by omega), step1 u _ (by omega) (by omega) _ _ _ _ (by omega), step1 u _ (by omega) (by omega) _ _ _ _ (by omega)]
    have e : ((0 : Int) + 6 - 2).toNat = 4 := rfl
    have e' : ((0 : Int) + 6 - 2 - 2).toNat = 2 := rfl
    have e'' : ((0 : Int) + 6 - 2 - 2 - 2).toNat = 0 := rfl
    have e3 : ((0 : Int) + 6 - 2 - 2 - 2) = 0 := rfl
    rw [e, e', e'', e3]
    have hz : ((((0 * 64 + a / 4) * 64 + (a % 4 * 16 + b / 16)) % 2 ^ 4 * 64 + (b % 16 * 4 + c / 64)) % 2 ^ 2 * 64 + c % 64) % 2 ^ 0 = (0 : Int) := by omega
    rw [hz, dec_enc u t h.tail.tail.tail]
    simp only [List.append_assoc]
    congr 2
    simp
    omega
theorem decL_enc (u : Bool) (l : List Int) (h : Bs l) : decL u (bytesOf (encS l u)) = some l := by
  rw [bytes_enc l u h]
  exact dec_enc u l h []
theorem dec_none {u : Bool} {c : Int} (h : valOf u c = none) (t out : List Int) (g b : Int) : decGo u (c :: t) out g b = none := by simp [decGo, h]
theorem dec_f (u : Bool) (s : ByteArray) (hs : s.size ≤ 140737488351232) : letters_Decode.f s u = some ((decL u (bytesOf s)).getD [], (decL u (bytesOf s)).isSome) := by
  unfold letters_Decode.f; rw [if_pos hs]
end Go.Proofs.Ytdleomeiojlooaa.L
end

section
namespace Go.Proofs.Ytdleomeiojlooaa.P
open Go.RowKit Go.Proofs.YtdleomeiojlooaaW.PrintWords Go.Proofs.YtdleomeiojlooaaW.PrintLast Go.Proofs.YtdleomeiojlooaaW.PrintMore
set_option linter.unusedVariables false
set_option linter.unusedSimpArgs false
def stringslite_HasSuffix.f (a0 : ByteArray) (a1 : ByteArray) : Option (Bool) := if (a0.size : Int) ≥ (a1.size : Int) then (if 0 ≤ (wrap64 ((a0.size : Int) - (a1.size : Int))) then (if (wrap64 ((a0.size : Int) - (a1.size : Int))) ≤ (a0.size : Int) then (some ((a0.extract ((wrap64 ((a0.size : Int) - (a1.size : Int))) : Int).toNat a0.size).toList == a1.toList)) else (none)) else (none)) else (some false)
set_option maxHeartbeats 8000000 in
set_option maxRecDepth 100000 in
theorem stringslite_HasSuffix.calls (a0 : ByteArray) (a1 : ByteArray) (r : Bool) (w : World) (h : stringslite_HasSuffix.f a0 a1 = some r) :
    Calls Try.prog 49 #[.string a0, .string a1] w fun e w' => e = .returned (.bool r) ∧ Drawn0 w w' := by
  have H : (if (a0.size : Int) ≥ (a1.size : Int) then (if 0 ≤ (wrap64 ((a0.size : Int) - (a1.size : Int))) then (if (wrap64 ((a0.size : Int) - (a1.size : Int))) ≤ (a0.size : Int) then (some ((a0.extract ((wrap64 ((a0.size : Int) - (a1.size : Int))) : Int).toNat a0.size).toList == a1.toList)) else (none)) else (none)) else (some false)) = some r := h
  clear h
  by_cases c3 : (a0.size : Int) ≥ (a1.size : Int)
  · rw [if_pos c3] at H
    have c3b0 : decide ((a1.size : Int) ≤ (a0.size : Int)) = true := decide_eq_true c3
    have c3b1 : decide (a1.size ≤ a0.size) = true := decide_eq_true (Int.ofNat_le.mp c3)
    clear c3
    obtain ⟨ji4, hji4⟩ : ∃ j_ : Int, (wrap64 ((a0.size : Int) - (a1.size : Int))) = j_ := ⟨_, rfl⟩
    replace H : (if 0 ≤ (ji4) then (if (ji4) ≤ (a0.size : Int) then (some ((a0.extract ((ji4) : Int).toNat a0.size).toList == a1.toList)) else (none)) else (none)) = some r := by first | (rw [hji4] at H; exact H) | (simp only [hji4] at H ⊢; exact H)
    have hji4w : (IntKind.i64.wrap ((a0.size : Int) - (a1.size : Int))) = ji4 := (i64_w _).trans hji4
    by_cases c5 : 0 ≤ (ji4)
    · rw [if_pos c5] at H
      have c5b0 := eq_true c5
      have c5b1 : decide (0 ≤ (ji4)) = true := decide_eq_true c5
      clear c5
      by_cases c6 : (ji4) ≤ (a0.size : Int)
      · rw [if_pos c6] at H
        have c6b0 := eq_true c6
        have c6b1 : decide ((ji4) ≤ (a0.size : Int)) = true := decide_eq_true c6
        clear c6
        obtain rfl := Option.some.inj H
        go_enter Try.func49, Try.ntmps49
        go_wp2
        go_ret
        exact ⟨by first | rfl | (simp; done) | (simp only [← hji4] <;> (first | rfl | simp)) | (simp [*]; done), by repeat (first | exact Drawn0.refl _ | apply Drawn0.step)⟩
      · rw [if_neg c6] at H
        exact absurd H (by simp)
    · rw [if_neg c5] at H
      exact absurd H (by simp)
  · rw [if_neg c3] at H
    have c3b0 : decide ((a1.size : Int) ≤ (a0.size : Int)) = false := decide_eq_false c3
    have c3b1 : decide (a1.size ≤ a0.size) = false := decide_eq_false (fun h => c3 (Int.ofNat_le.mpr h))
    clear c3
    obtain rfl := Option.some.inj H
    go_enter Try.func49, Try.ntmps49
    go_wp2
    go_ret
    exact ⟨by first | rfl | (simp; done) | (simp [*]; done), by repeat (first | exact Drawn0.refl _ | apply Drawn0.step)⟩
def stringslite_TrimSuffix.f (a0 : ByteArray) (a1 : ByteArray) : Option (ByteArray) := (stringslite_HasSuffix.f a0 a1).bind fun t44001 => (if t44001 = true then (if 0 ≤ (wrap64 ((a0.size : Int) - (a1.size : Int))) then (if (wrap64 ((a0.size : Int) - (a1.size : Int))) ≤ (a0.size : Int) then (some (a0.extract 0 ((wrap64 ((a0.size : Int) - (a1.size : Int))) : Int).toNat)) else (none)) else (none)) else (some a0))
set_option maxHeartbeats 8000000 in
set_option maxRecDepth 100000 in
theorem stringslite_TrimSuffix.calls (a0 : ByteArray) (a1 : ByteArray) (r : ByteArray) (w : World) (h : stringslite_TrimSuffix.f a0 a1 = some r) :
    Calls Try.prog 44 #[.string a0, .string a1] w fun e w' => e = .returned (.string r) ∧ Drawn0 w w' := by
  have H : ((stringslite_HasSuffix.f a0 a1).bind fun t44001 => (if t44001 = true then (if 0 ≤ (wrap64 ((a0.size : Int) - (a1.size : Int))) then (if (wrap64 ((a0.size : Int) - (a1.size : Int))) ≤ (a0.size : Int) then (some (a0.extract 0 ((wrap64 ((a0.size : Int) - (a1.size : Int))) : Int).toNat)) else (none)) else (none)) else (some a0))) = some r := h
  clear h
  replace H := Option.bind_eq_some_iff.mp H
  obtain ⟨t44001, A30, H⟩ := H
  replace H : (if t44001 = true then (if 0 ≤ (wrap64 ((a0.size : Int) - (a1.size : Int))) then (if (wrap64 ((a0.size : Int) - (a1.size : Int))) ≤ (a0.size : Int) then (some (a0.extract 0 ((wrap64 ((a0.size : Int) - (a1.size : Int))) : Int).toNat)) else (none)) else (none)) else (some a0)) = some r := H
  have A3 := Aside0.mk A30
  clear A30
  by_cases c4 : t44001 = true
  · subst c4
    have H1 : (if 0 ≤ (wrap64 ((a0.size : Int) - (a1.size : Int))) then (if (wrap64 ((a0.size : Int) - (a1.size : Int))) ≤ (a0.size : Int) then (some (a0.extract 0 ((wrap64 ((a0.size : Int) - (a1.size : Int))) : Int).toNat)) else (none)) else (none)) = some r := by rw [if_pos rfl] at H; exact H
    clear H
    have H := H1
    clear H1
    obtain ⟨ji5, hji5⟩ : ∃ j_ : Int, (wrap64 ((a0.size : Int) - (a1.size : Int))) = j_ := ⟨_, rfl⟩
    replace H : (if 0 ≤ (ji5) then (if (ji5) ≤ (a0.size : Int) then (some (a0.extract 0 ((ji5) : Int).toNat)) else (none)) else (none)) = some r := by first | (rw [hji5] at H; exact H) | (simp only [hji5] at H ⊢; exact H)
    (try rw [hji5] at A3)
    have hji5w : (IntKind.i64.wrap ((a0.size : Int) - (a1.size : Int))) = ji5 := (i64_w _).trans hji5
    by_cases c6 : 0 ≤ (ji5)
    · rw [if_pos c6] at H
      have c6b0 := eq_true c6
      have c6b1 : decide (0 ≤ (ji5)) = true := decide_eq_true c6
      clear c6
      by_cases c7 : (ji5) ≤ (a0.size : Int)
      · rw [if_pos c7] at H
        have c7b0 := eq_true c7
        have c7b1 : decide ((ji5) ≤ (a0.size : Int)) = true := decide_eq_true c7
        clear c7
        obtain rfl := Option.some.inj H
        go_enter Try.func44, Try.ntmps44
        go_wp2_with (first | ((with_reducible refine gate_callee (f := 49) rfl ?_); refine goesL_ (some 7) rfl rfl Try.func49 (by kernel_rfl) rfl #[.string a0, .string a1] rfl (by (try simp only [List.map_toArray, List.map_cons, List.map_nil]); first | done | rfl | (simp only [List.length_drop, List.length_take]; rfl)) ?_; (with_reducible refine (stringslite_HasSuffix.calls a0 a1 true _ A3.out).mono ?_); rintro e w' ⟨rfl, ⟨nd, rfl⟩⟩; refine ⟨_, rfl, ?_⟩))
        go_ret
        exact ⟨by first | rfl | (simp; done) | (simp only [← hji5] <;> (first | rfl | simp)) | (simp [*]; done), by repeat (first | exact Drawn0.refl _ | apply Drawn0.step)⟩
      · rw [if_neg c7] at H
        exact absurd H (by simp)
    · rw [if_neg c6] at H
      exact absurd H (by simp)
  · replace c4 := Bool.eq_false_iff.mpr c4
    subst c4
    have H1 : (some a0) = some r := by rw [if_neg (show ¬ (false = true) by decide)] at H; exact H
    clear H
    have H := H1
    clear H1
    obtain rfl := Option.some.inj H
    go_enter Try.func44, Try.ntmps44
    go_wp2_with (first | ((with_reducible refine gate_callee (f := 49) rfl ?_); refine goesL_ (some 7) rfl rfl Try.func49 (by kernel_rfl) rfl #[.string a0, .string a1] rfl (by (try simp only [List.map_toArray, List.map_cons, List.map_nil]); first | done | rfl | (simp only [List.length_drop, List.length_take]; rfl)) ?_; (with_reducible refine (stringslite_HasSuffix.calls a0 a1 false _ A3.out).mono ?_); rintro e w' ⟨rfl, ⟨nd, rfl⟩⟩; refine ⟨_, rfl, ?_⟩))
    go_ret
    exact ⟨by first | rfl | (simp; done) | (simp [*]; done), by repeat (first | exact Drawn0.refl _ | apply Drawn0.step)⟩
def strings_TrimSuffix.f (a0 : ByteArray) (a1 : ByteArray) : Option (ByteArray) := (stringslite_TrimSuffix.f a0 a1).bind fun t33001 => (some t33001)
set_option maxHeartbeats 8000000 in
set_option maxRecDepth 100000 in
theorem strings_TrimSuffix.calls (a0 : ByteArray) (a1 : ByteArray) (r : ByteArray) (w : World) (h : strings_TrimSuffix.f a0 a1 = some r) :
    Calls Try.prog 33 #[.string a0, .string a1] w fun e w' => e = .returned (.string r) ∧ Drawn0 w w' := by
  have H : ((stringslite_TrimSuffix.f a0 a1).bind fun t33001 => (some t33001)) = some r := h
  clear h
  replace H := Option.bind_eq_some_iff.mp H
  obtain ⟨t33001, A30, H⟩ := H
  replace H : (some t33001) = some r := H
  have A3 := Aside0.mk A30
  clear A30
  obtain rfl := Option.some.inj H
  go_enter Try.func33, Try.ntmps33
  go_wp2_with (first | ((with_reducible refine gate_callee (f := 44) rfl ?_); refine goesL_ (some 7) rfl rfl Try.func44 (by kernel_rfl) rfl #[.string a0, .string a1] rfl (by (try simp only [List.map_toArray, List.map_cons, List.map_nil]); first | done | rfl | (simp only [List.length_drop, List.length_take]; rfl)) ?_; (with_reducible refine (stringslite_TrimSuffix.calls a0 a1 t33001 _ A3.out).mono ?_); rintro e w' ⟨rfl, ⟨nd, rfl⟩⟩; refine ⟨_, rfl, ?_⟩))
  go_ret
  exact ⟨by first | rfl | (simp; done) | (simp [*]; done), by repeat (first | exact Drawn0.refl _ | apply Drawn0.step)⟩
def bytealg_LastIndexByteString.l0 : Nat → ByteArray → Int → Int → Option (Int)
  | 0, _, _, _ => none
  | k + 1, x0, x1, x5 => if x5 ≥ 0 then (if 0 ≤ x5 then (if x5 < (x0.size : Int) then (if (bt x0 x5) = x1 then (some x5) else (bytealg_LastIndexByteString.l0 k x0 x1 (wrap64 (x5 - 1)))) else (none)) else (none)) else (some (-1))
def bytealg_LastIndexByteString.f (k : Nat) (a0 : ByteArray) (a1 : Int) : Option (Int) := bytealg_LastIndexByteString.l0 k a0 a1 (wrap64 ((a0.size : Int) - 1))
theorem bytealg_LastIndexByteString.mono_l : ∀ k, (∀ y0 y1 y2, LeO (bytealg_LastIndexByteString.l0 k y0 y1 y2) (bytealg_LastIndexByteString.l0 (k + 1) y0 y1 y2))
  | 0 => fun _ _ _ r h => by simp [bytealg_LastIndexByteString.l0] at h
  | k + 1 => by
    have ih0 := bytealg_LastIndexByteString.mono_l k
    · intro y0 y1 y2
      unfold bytealg_LastIndexByteString.l0
      repeat' first
      | (with_reducible exact ih0 _ _ _)
      | (with_reducible exact LeO.refl _)
      | (with_reducible exact LeO.none _)
      | (with_reducible refine LeO.ite ?_ ?_)
      | (with_reducible refine LeO.bind ?_ (fun _ => ?_))
      | exact ih0 _ _ _
      | exact LeO.none _
      | refine LeO.ite ?_ ?_
      | refine LeO.bind ?_ (fun _ => ?_)
theorem bytealg_LastIndexByteString.mono : ∀ a0 a1 k, LeO (bytealg_LastIndexByteString.f k a0 a1) (bytealg_LastIndexByteString.f (k + 1) a0 a1) := by
  intro a0 a1 k
  have ih0 := bytealg_LastIndexByteString.mono_l k
  unfold bytealg_LastIndexByteString.f
  repeat' first
      | (with_reducible exact ih0 _ _ _)
      | (with_reducible exact LeO.refl _)
      | (with_reducible exact LeO.none _)
      | (with_reducible refine LeO.ite ?_ ?_)
      | (with_reducible refine LeO.bind ?_ (fun _ => ?_))
      | exact ih0 _ _ _
      | exact LeO.none _
      | refine LeO.ite ?_ ?_
      | refine LeO.bind ?_ (fun _ => ?_)
set_option maxHeartbeats 8000000 in
set_option maxRecDepth 100000 in
theorem bytealg_LastIndexByteString.calls (k : Nat) (a0 : ByteArray) (a1 : Int) (r : Int) (w : World) (h : bytealg_LastIndexByteString.f k a0 a1 = some r) :
    Calls Try.prog 40 #[.string a0, .int .u8 a1] w fun e w' => e = .returned (.int .i64 r) ∧ Drawn0 w w' := by
  have H : (bytealg_LastIndexByteString.l0 k a0 a1 (wrap64 ((a0.size : Int) - 1))) = some r := h
  clear h
  have H' := Aside0.mk H
  clear H
  go_enter Try.func40, Try.ntmps40
  go_wp2
  go_loopg [5] k (fun kq v5 w' => ∃ (x5_1 : Int), v5 = .int .i64 x5_1 ∧ Aside0 (bytealg_LastIndexByteString.l0 kq a0 a1 x5_1 = some r) ∧ Aside0 (kq ≤ k) ∧ Drawn0 w w')
  case atStart => exact ⟨(wrap64 ((a0.size : Int) - 1)), (by first | rfl | (simp; done) | (simp [*]; done)), H', ⟨Nat.le_refl _⟩, by repeat (first | exact Drawn0.refl _ | apply Drawn0.step)⟩
  case round =>
    clear H'
    try clear p2
    obtain ⟨x5_1, rfl, HA, HK1, ⟨m1, rfl⟩⟩ := hrel
    cases gk with
    | zero => exact absurd HA.out (by simp [bytealg_LastIndexByteString.l0])
    | succ k1 =>
      have H := HA.out
      clear HA
      simp only [bytealg_LastIndexByteString.l0] at H
      by_cases c3 : x5_1 ≥ 0
      · rw [if_pos c3] at H
        have c3b0 : decide (0 ≤ x5_1) = true := decide_eq_true c3
        clear c3
        by_cases c4 : 0 ≤ x5_1
        · rw [if_pos c4] at H
          have c4b0 : decide (0 ≤ x5_1) = true := decide_eq_true c4
          clear c4
          by_cases c5 : x5_1 < (a0.size : Int)
          · rw [if_pos c5] at H
            have c5b0 : decide (x5_1 < (a0.size : Int)) = true := decide_eq_true c5
            clear c5
            by_cases c7 : (bt a0 x5_1) = a1
            · rw [if_pos c7] at H
              have c7b0 : ((bt a0 x5_1) == a1) = true := beq_iff_eq.mpr c7
              have c7b1 : ((bt a0 x5_1) != a1) = false := bne_eq_false_iff_eq.mpr c7
              clear c7
              obtain rfl := Option.some.inj H
              have p6 : 0 ≤ (x5_1 : Int) := of_decide_eq_true (by first | (with_reducible assumption) | assumption)
              have q6 : x5_1 < (a0.size : Int) := of_decide_eq_true (by first | (with_reducible assumption) | assumption)
              have hx6 := bt_at a0 x5_1
              replace p6 := eq_true p6
              replace q6 := eq_true q6
              go_wp2
              go_ret
              exact ⟨by first | rfl | (simp; done) | (simp [*]; done), by repeat (first | exact Drawn0.refl _ | apply Drawn0.step)⟩
            · rw [if_neg c7] at H
              have c7b0 : ((bt a0 x5_1) == a1) = false := beq_eq_false_iff_ne.mpr c7
              have c7b1 : ((bt a0 x5_1) != a1) = true := bne_iff_ne.mpr c7
              have H' := Aside0.mk H
              clear H
              have p6 : 0 ≤ (x5_1 : Int) := of_decide_eq_true (by first | (with_reducible assumption) | assumption)
              have q6 : x5_1 < (a0.size : Int) := of_decide_eq_true (by first | (with_reducible assumption) | assumption)
              have hx6 := bt_at a0 x5_1
              replace p6 := eq_true p6
              replace q6 := eq_true q6
              go_wp2
              go_roundg k1
              case measure => have := HK1.out; omega
              case rel => exact ⟨(wrap64 (x5_1 - 1)), (by first | rfl | (simp; done) | (simp [*]; done)), H', ⟨by have := HK1.out; omega⟩, by repeat (first | exact Drawn0.refl _ | apply Drawn0.step)⟩
          · rw [if_neg c5] at H
            exact absurd H (by simp)
        · rw [if_neg c4] at H
          exact absurd H (by simp)
      · rw [if_neg c3] at H
        have c3b0 : decide (0 ≤ x5_1) = false := decide_eq_false c3
        clear c3
        obtain rfl := Option.some.inj H
        go_wp2
        go_ret
        exact ⟨by first | rfl | (simp; done) | (simp [*]; done), by repeat (first | exact Drawn0.refl _ | apply Drawn0.step)⟩
def strings_LastIndexByte.f (k : Nat) (a0 : ByteArray) (a1 : Int) : Option (Int) := (bytealg_LastIndexByteString.f k a0 a1).bind fun t30001 => (some t30001)
theorem strings_LastIndexByte.mono : ∀ a0 a1 k, LeO (strings_LastIndexByte.f k a0 a1) (strings_LastIndexByte.f (k + 1) a0 a1) := by
  intro a0 a1 k
  unfold strings_LastIndexByte.f
  repeat' first
      | (with_reducible exact bytealg_LastIndexByteString.mono _ _ _)
      | (with_reducible exact LeO.refl _)
      | (with_reducible exact LeO.none _)
      | (with_reducible refine LeO.ite ?_ ?_)
      | (with_reducible refine LeO.bind ?_ (fun _ => ?_))
      | exact bytealg_LastIndexByteString.mono _ _ _
      | exact LeO.none _
      | refine LeO.ite ?_ ?_
      | refine LeO.bind ?_ (fun _ => ?_)
set_option maxHeartbeats 8000000 in
set_option maxRecDepth 100000 in
theorem strings_LastIndexByte.calls (k : Nat) (a0 : ByteArray) (a1 : Int) (r : Int) (w : World) (h : strings_LastIndexByte.f k a0 a1 = some r) :
    Calls Try.prog 30 #[.string a0, .int .u8 a1] w fun e w' => e = .returned (.int .i64 r) ∧ Drawn0 w w' := by
  have H : ((bytealg_LastIndexByteString.f k a0 a1).bind fun t30001 => (some t30001)) = some r := h
  clear h
  replace H := Option.bind_eq_some_iff.mp H
  obtain ⟨t30001, A30, H⟩ := H
  replace H : (some t30001) = some r := H
  have A3 := Aside0.mk A30
  clear A30
  obtain rfl := Option.some.inj H
  go_enter Try.func30, Try.ntmps30
  go_wp2_with (first | ((with_reducible refine gate_callee (f := 40) rfl ?_); refine goesL_ (some 7) rfl rfl Try.func40 (by kernel_rfl) rfl #[.string a0, .int .u8 a1] rfl (by (try simp only [List.map_toArray, List.map_cons, List.map_nil]); first | done | rfl | (simp only [List.length_drop, List.length_take]; rfl)) ?_; (with_reducible refine (bytealg_LastIndexByteString.calls k a0 a1 t30001 _ A3.out).mono ?_); rintro e w' ⟨rfl, ⟨nd, rfl⟩⟩; refine ⟨_, rfl, ?_⟩))
  go_ret
  exact ⟨by first | rfl | (simp; done) | (simp [*]; done), by repeat (first | exact Drawn0.refl _ | apply Drawn0.step)⟩
end Go.Proofs.Ytdleomeiojlooaa.P
end

section
namespace Go.Proofs.Ytdleomeiojlooaa.P
set_option linter.unusedVariables false
set_option linter.unusedSimpArgs false
open Go.RowKit Go.ChangeShapes Go.WideShapes Go.Proofs.YtdleomeiojlooaaW.PrintWords Go.Proofs.YtdleomeiojlooaaW.PrintLast Go.Proofs.YtdleomeiojlooaaW.PrintMore Go.Proofs.Ytdleomeiojlooaa.L
theorem enterM_ {P : Program} {f : FuncId} {fn : Func} {c : Code} {args : Array Value} {w : World} {R : Ending → World → Prop} (n sz : Nat) (hf : P.funcs[f]? = some fn) (hb : fn.body = some c) (hsz : args.size + (fn.ntmps - args.size) = sz)
    (h : ∀ a, Sl a sz (argS args) → c.wp P (bodyPostM Fence.wide n P fn R) a w) : Calls P f args w R := by
  refine callsIn_wide.1 (callsIn_of_wp_marks (F := Fence.wide) (n := n) hf hb trivial (wpIn_wide.2 (h _ ⟨by simpa using hsz, rfl, fun e he => ?_⟩)) rfl)
  unfold argS at he
  obtain ⟨⟨v, j⟩, hm, rfl⟩ := List.mem_map.1 he
  have h1 := List.mem_zipIdx_iff_getElem?.1 hm
  simp only at h1
  rw [Array.getElem?_toList] at h1
  show (args ++ Array.replicate (fn.ntmps - args.size) undef).getD j undef = v
  rw [Array.getD_eq_getD_getElem?, Array.getElem?_append_left (Array.getElem?_eq_some_iff.1 h1).1, h1]; rfl
section
variable {P : Program} {fn : Func} {n : Nat} {R : Ending → World → Prop} {a : Act} {w : World}
theorem load1 {ty t : TypeId} {d : TypeDesc} {g : Nat} {c : SC} (hu : P.underlying ty = some d) (hd : (match d with | .struct _ | .array _ _ => false | _ => true) = true) (hr : Row w g () 1 (lsc [c]) t) : (loadVar ty ⟨g, 0, none⟩).run P w = .ok (mkc () c) w := by
  have ha : (isAgg ty).run P w = .ok false w := by
    simp only [isAgg, Sem.run_bind, run_underlying hu, Result.andThen_ok]
    cases d <;> simp_all
  have hc : w.cell? ⟨g, 0, none⟩ = some (mkc () c) := row_at hr 0 (by omega)
  simp only [loadVar, Sem.run_bind, ha, Result.andThen_ok, Bool.false_eq_true, if_false, run_load, hc]
theorem results2 {p q : Tmp} {t1 t2 u1 u2 : TypeId} {d1 d2 : TypeDesc} {g1 g2 : Nat} {c1 c2 : SC} (h : fn.results = #[.cell p t1, .cell q t2]) (h1 : P.underlying t1 = some d1) (h1' : (match d1 with | .struct _ | .array _ _ => false | _ => true) = true) (h2 : P.underlying t2 = some d2) (h2' : (match d2 with | .struct _ | .array _ _ => false | _ => true) = true)
    (hp : a.eval (.tmp p) = .pointer (some ⟨g1, 0, none⟩)) (hq : a.eval (.tmp q) = .pointer (some ⟨g2, 0, none⟩)) (r1 : Row w g1 () 1 (lsc [c1]) u1) (r2 : Row w g2 () 1 (lsc [c2]) u2) : (results fn a.tmps).run P w = .ok (.tuple #[mkc () c1, mkc () c2]) w := by
  have hp' : a.tmps[p]?.getD undef = .pointer (some ⟨g1, 0, none⟩) := by rw [← Array.getD_eq_getD_getElem?]; exact hp
  have hq' : a.tmps[q]?.getD undef = .pointer (some ⟨g2, 0, none⟩) := by rw [← Array.getD_eq_getD_getElem?]; exact hq
  simp [results, h, hp', hq', asAddr, load1 h1 h1' r1, load1 h2 h2' r2]
def markD (D : Nat) : Deferred := { target := .collected D, args := #[] }
theorem b_mark {v : Value} {D : Nat} (hd : a.defers = []) (hD : w.heap[D]? = some (.deferred (some []))) (hr : (results fn a.tmps).run P (w.putObj D (.deferred none)) = .ok v (w.putObj D (.deferred none))) (hR : R (.returned v) (w.putObj D (.deferred none))) : bodyPostM Fence.wide n P fn R .ret (Ad [markD D] a) w := by
  have e : (Ad [markD D] a).defers = [markD D] := by unfold Ad; rw [hd]; rfl
  show LeavesInM Fence.wide n P fn a.tmps R (Ad [markD D] a).defers .returning w
  rw [e]
  exact ⟨by simp, .inl ⟨D, _, rfl, run_takeDeferred hD, v, hr, hR⟩⟩
theorem Ad_eq {D sz : Nat} {S : List (Tmp × Value)} (h : Sl a sz S) : { a with defers := { target := .collected D, args := #[] } :: a.defers } = Ad [markD D] a := by
  unfold Ad markD
  rw [h.2.1]; rfl
end
theorem Row.put {w : World} {g n D : Nat} {f : Nat → SC} {t : TypeId} {o : Obj} (o' : Obj) (h : Row w g () n f t) (hD : w.heap[D]? = some o) (ho : o.isCells = false) : Row (w.putObj D o') g () n f t := by
  have hne : g ≠ D := by
    rintro rfl
    have h' : w.heap[g]? = some (.cells (FR () n f) t (0, 0)) := h
    rw [h'] at hD
    cases hD
    cases ho
  exact (World.putObj_heap_other (by omega)).trans h
theorem Sl.given {a : Act} {sz : Nat} {S : List (Tmp × Value)} {N : Tmp} {v : Value} (h : Sl a sz S) (hN : Nat.ble (N + 1) sz = true) : Sl { tmps := (#[N].zip #[v]).foldl (fun t (p, v) => t.setIfInBounds p v) a.tmps, defers := [] } sz ((N, v) :: S.filter fun e => !(e.1 == N)) := by
  have e : ({ tmps := (#[N].zip #[v]).foldl (fun t (p, v) => t.setIfInBounds p v) a.tmps, defers := [] } : Act) = a.put (some N) v := by
    simp [Act.put, h.2.1]
  rw [e]
  exact h.put hN rfl
theorem keeps_fr {B : Nat} {W W' : World} {X : List Nat} (h : Fr ⟨W, X⟩ W') (hX : ∀ k ∈ X, ∃ c t z, W.heap[k]? = some (.cells c t z)) : KeepsFrom B W W' :=
  ⟨h.size, fun k o _ hk ho => (h.block k (Array.getElem?_eq_some_iff.1 hk).1 (fun hm => by
    obtain ⟨c, t, z, e⟩ := hX k hm
    rw [e] at hk
    cases hk
    cases ho)).trans hk⟩
theorem cut_appendX {P : Program} {ops : Array Oper} {Q : Exit → Act → World → Prop} {i N sz base : Nat} {S : List (Tmp × Value)} {a : Act} {w : World} {wE : WX} {oi : Oper} {s x : Operand} {t e : TypeId} {z : Value} {size bytes : Nat} {gs : List Nat} {R : List RowD} {v xv : Value} {n m : Nat} {xs news : List Value}
    (hoi : ops[i]? = some oi) (hN : oi.dst = some N) (hop : oi.op = .call { callee := .builtin .append, args := #[s, x], argTypes := #[t, t] }) (hw : Region.wanted oi (yielded ops a.tmps) = true) (hs : a.eval s = v) (hx : a.eval x = xv)
    (ht : P.underlying t = some (.slice e)) (hinf : (P.info? e).map (fun i => (i.zero, i.size, i.bytes)) = some (some z, size, bytes)) (hzs : z.cells.size = size) (hO : OwnR base w e size gs v n xs) (hsrc : Src P size t xv m news w)
    (h63 : n + m ≤ maxLen) (hbytes : (n + m) * bytes ≤ 140737488355328) (hbase : base ≤ w.heap.size) (hfr : ∀ k, v.ownBlock = some k → wE.fresh k) (hH : Held wE w R) (hgs : ∀ r ∈ R, r.g ∈ gs ∨ v.ownBlock ≠ some r.g) (hgl : ∀ g ∈ gs, g < w.heap.size) (hS : Sl a sz S) (hNs : Nat.ble (N + 1) sz = true)
    (h : ∀ oa c w', OwnR base w' e size gs (.slice oa (n + m) c) (n + m) (xs ++ news) → Held wE w' R → ∀ a', Sl a' sz ((N, .slice oa (n + m) c) :: S.filter fun e => !(e.1 == N)) → wpList P ops Q (ops.toList.drop (i + 1)) a' w') : wpList P ops Q (ops.toList.drop i) a w := by
  obtain ⟨v', w', hr, ho, hg, hv⟩ := run_append_G (ty := oi.type) base ht hinf hzs hO.own hsrc h63 hbytes hbase
  have hO' := hO.grow ho hv hgl
  obtain ⟨oa, c, rfl, _, _⟩ := hO'.slice
  exact cut_run hoi hN hw (exec_append hop hs hx hr) hS hNs (h oa c w' hO' (hH.grown hg hfr fun r hr => (hgs r hr).elim (hO.apart r.g) id))
theorem exec_conv {P : Program} {o : Oper} {ev : Operand → Value} {w : World} {x : Operand} {src dst e : TypeId} {A : Option Addr} {n c : Nat} {ys : List Int} (ho : o.op = .convert src dst x) (hx : ev x = .slice A n c) (hs : P.underlying src = some (.slice e)) (he : P.underlying e = some (.int .u8)) (hd : P.underlying dst = some .string) (h : (Kd.int .u8).C w A n ys) :
    (execOp ev o).run P w = .ok (.value (.string (strOfNums ys))) w := by
  unfold execOp
  simp only [ho, hx, Sem.run_bind, Kd.C_string hs he hd h]; rfl
theorem dec_some {x : ByteArray} {ys : List Int} (h : decL true (bytesOf x) = some ys) (hs : x.size ≤ 140737488351232) (w : World) : Calls Try.prog 32 #[.string x, .bool true] w fun e w' => (∃ A c, e = .returned (.tuple #[.slice A ys.length c, .bool true]) ∧ (Kd.int .u8).C w' A ys.length ys) ∧ Below w.heap.size w w' :=
  (letters_Decode.calls x true ys true w (by rw [dec_f true x hs, h]; rfl)).mono fun e w' ⟨v, he, hR, hB⟩ => by
    obtain ⟨A, c, rfl⟩ := Kd.R_slice hR
    exact ⟨⟨A, c, he, (Kd.R_reads' hR).2.2⟩, hB⟩
theorem dec_none {x : ByteArray} (h : decL true (bytesOf x) = none) (hs : x.size ≤ 140737488351232) (w : World) : Calls Try.prog 32 #[.string x, .bool true] w fun e w' => (∃ A c, e = .returned (.tuple #[.slice A 0 c, .bool false])) ∧ Below w.heap.size w w' :=
  (letters_Decode.calls x true [] false w (by rw [dec_f true x hs, h]; rfl)).mono fun e w' ⟨v, he, hR, hB⟩ => by
    obtain ⟨A, c, rfl⟩ := Kd.R_slice hR
    exact ⟨⟨A, c, he⟩, hB⟩
theorem ext_right (x y : ByteArray) : (x ++ y).extract x.size (x ++ y).size = y := by
  apply bl_inj
  rw [bl_extract, bl_append, List.drop_append, List.drop_eq_nil_iff.2 (by rw [bl_len]; omega), bl_len, Nat.sub_self, List.drop_zero, List.nil_append, List.take_of_length_le (by rw [bl_len, ByteArray.size_append]; omega)]
theorem ext_left (x y : ByteArray) : (x ++ y).extract 0 x.size = x := by
  apply bl_inj
  rw [bl_extract, bl_append, List.drop_zero, Nat.sub_zero, List.take_append, List.take_of_length_le (by rw [bl_len]; omega), bl_len, Nat.sub_self, List.take_zero, List.append_nil]
theorem trim_calls (x : ByteArray) (hs : x.size ≤ 140737488351232) (w : World) : Calls Try.prog 33 #[.string (x ++ nl), .string nl] w fun e w' => e = .returned (.string x) ∧ Below w.heap.size w w' := by
  refine (strings_TrimSuffix.calls (x ++ nl) nl x w ?_).mono fun e w' h => ⟨h.1, h.2.below⟩
  have hz : ((x ++ nl).size : Int) = (x.size : Int) + 1 := by rw [ByteArray.size_append]; rfl
  have h1 : (nl.size : Int) = 1 := rfl
  have e1 : wrap64 (((x ++ nl).size : Int) - (nl.size : Int)) = (x.size : Int) := by rw [hz, h1]; unfold wrap64; omega
  have e2 : ((x ++ nl).extract (x.size : Int).toNat (x ++ nl).size) = nl := by rw [Int.toNat_natCast]; exact ext_right x nl
  have e3 : ((x ++ nl).extract 0 (x.size : Int).toNat) = x := by rw [Int.toNat_natCast]; exact ext_left x nl
  have hH : stringslite_HasSuffix.f (x ++ nl) nl = some true := by
    unfold stringslite_HasSuffix.f
    rw [e1, if_pos (by rw [hz, h1]; omega), if_pos (by omega), if_pos (by rw [hz]; omega), e2, beq_self_eq_true]
  show (stringslite_TrimSuffix.f (x ++ nl) nl).bind (fun t => some t) = some x
  unfold stringslite_TrimSuffix.f
  rw [hH, Option.bind_some, e1, if_pos rfl, if_pos (by omega), if_pos (by rw [hz]; omega), e3]; rfl
end Go.Proofs.Ytdleomeiojlooaa.P
end
