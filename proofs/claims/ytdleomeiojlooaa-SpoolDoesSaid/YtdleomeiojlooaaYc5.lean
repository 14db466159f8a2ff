/- Merged of the texts: Wj, Xm, Xo, G22, Xp, Xl (trim.py). -/
import Derived.Test.YtdleomeiojlooaaYc4
section
namespace Go.Proofs.Ytdleomeiojlooaa.P
set_option linter.unusedVariables false
set_option linter.unusedSimpArgs false
open Go.RowKit Go.ChangeShapes Go.WideShapes Go.Proofs.YtdleomeiojlooaaW.PrintWords Go.Proofs.YtdleomeiojlooaaW.PrintLast Go.Proofs.YtdleomeiojlooaaW.PrintMore Go.Proofs.Ytdleomeiojlooaa.L
theorem tabrab4 : rtab .any (opsOf Try.f24 4) = (true, [([], []), ([0], [0]), ([1], [1]), ([2], [2]), ([3], [3]), ([], []), ([5], [5]), ([6], [6]), ([7], [7]), ([8], [8]), ([4, 9], [4, 9]), ([], []), ([11], [11]), ([10, 12], [10, 12]), ([13], [13])]) := by kernel_rfl
theorem bitsrab4 : waitsOk [([], []), ([0], [0]), ([1], [1]), ([2], [2]), ([3], [3]), ([], []), ([5], [5]), ([6], [6]), ([7], [7]), ([8], [8]), ([4, 9], [4, 9]), ([], []), ([11], [11]), ([10, 12], [10, 12]), ([13], [13])] [0, 1, 3, 7, 15, 0, 32, 96, 224, 480, 1023, 0, 2048, 8191, 16383] = true := by kernel_rfl
theorem tabrac4 : rtab .any (opsOf Try.f24 4) = (true, [([], []), ([0], [0]), ([1], [1]), ([2], [2]), ([3], [3]), ([], []), ([5], [5]), ([6], [6]), ([7], [7]), ([8], [8]), ([4, 9], [4, 9]), ([], []), ([11], [11]), ([10, 12], [10, 12]), ([13], [13])]) := by kernel_rfl
theorem bitsrac4 : waitsOk [([], []), ([0], [0]), ([1], [1]), ([2], [2]), ([3], [3]), ([], []), ([5], [5]), ([6], [6]), ([7], [7]), ([8], [8]), ([4, 9], [4, 9]), ([], []), ([11], [11]), ([10, 12], [10, 12]), ([13], [13])] [0, 1, 3, 7, 15, 0, 32, 96, 224, 480, 1023, 0, 2048, 8191, 16383] = true := by kernel_rfl
theorem tabrad4 : rtab .any (opsOf Try.f24 4) = (true, [([], []), ([0], [0]), ([1], [1]), ([2], [2]), ([3], [3]), ([], []), ([5], [5]), ([6], [6]), ([7], [7]), ([8], [8]), ([4, 9], [4, 9]), ([], []), ([11], [11]), ([10, 12], [10, 12]), ([13], [13])]) := by kernel_rfl
theorem bitsrad4 : waitsOk [([], []), ([0], [0]), ([1], [1]), ([2], [2]), ([3], [3]), ([], []), ([5], [5]), ([6], [6]), ([7], [7]), ([8], [8]), ([4, 9], [4, 9]), ([], []), ([11], [11]), ([10, 12], [10, 12]), ([13], [13])] [0, 1, 3, 7, 15, 0, 32, 96, 224, 480, 1023, 0, 2048, 8191, 16383] = true := by kernel_rfl
theorem rapp_off {w : World} {g : Nat} {safe waits : ByteArray} {acts inn : Nat} {keep : Int} {r : ByteArray} (hr : Row w g () 6 (rpC ⟨safe, waits, false, acts, inn, keep⟩) 51) : Calls Try.prog 24 #[.pointer (some ⟨g, 0, none⟩), .string (r)] w fun e w' => e = .returned (.int .i64 50) ∧ Row w' g () 6 (rpC ⟨safe, waits, false, acts, inn, keep⟩) 51 ∧ Fr ⟨w, [g]⟩ w' := by
  refine enter_ 39 Try.func24 rfl rfl (fun a0 hS => ?_)
  have HS0 : Sl a0 39 [(0, .pointer (some ⟨g, 0, none⟩)), (1, .string (r))] := hS
  have HH0 : Held ⟨w, [g]⟩ w [⟨g, (), 6, rpC ⟨safe, waits, false, acts, inn, keep⟩, 51⟩] := Held.one hr
  clear hS
  refine wp_seq ?_
  have hLo : LOk [(0, 4, .val (.int .i64 (0)))] := lok (by rfl) (by rfl)
  refine plain_ (wE := ⟨w, [g]⟩) (sz := 39) (n := 1) [0] [(0, .val (.pointer (some ⟨g, 0, none⟩))), (1, .val (.string (r))), (4, .val (.int .i64 (0)))] [(0, 4, .val (.int .i64 (0)))] [⟨g, none, none, (), 6, rpC ⟨safe, waits, false, acts, inn, keep⟩, rpC ⟨safe, waits, false, acts, inn, keep⟩, 51⟩] rfl (by rfl) HH0 rfl rfl hLo rfl HS0 (slS 0 rfl rfl (slS 1 rfl rfl (slL 0 (d := 0) rfl (trivial)))) ?_ ?_
  · show ∀ i ∈ [0], _
    refine steps_cons (st_run 0 _ rfl rfl hLo rfl rfl (fun _ _ _ _ => rfl) (fun b G w hb ho => exec_move (.inr rfl) (rfl))) ?_
    exact steps_nil
  clear hLo
  intro G a1 w1 hS hH
  have HS1 : Sl a1 39 [(0, .pointer (some ⟨g, 0, none⟩)), (1, .string (r)), (4, .int .i64 (0))] := hS
  have HH1 : Held ⟨w, [g]⟩ w1 [⟨g, (), 6, rpC ⟨safe, waits, false, acts, inn, keep⟩, 51⟩] := hH
  clear hS hH HS0 HH0
  refine then_ ?_
  refine wp_seq ?_
  refine wp_seq ?_
  have hLo : LOk [(0, 6, .val (.pointer (some ⟨g, 0, none⟩))), (1, 7, .val (.pointer (some ⟨g, 0, none⟩))), (2, 8, .val (.pointer (some ⟨g, 2, none⟩))), (3, 9, .val (.bool false)), (4, 10, .val (.bool true))] := lok (by rfl) (by rfl)
  refine plain_ (wE := ⟨w, [g]⟩) (sz := 39) (n := 5) [0, 1, 3, 7, 15] [(0, .val (.pointer (some ⟨g, 0, none⟩))), (1, .val (.string (r))), (4, .val (.int .i64 (0))), (10, .val (.bool true))] [(0, 6, .val (.pointer (some ⟨g, 0, none⟩))), (1, 7, .val (.pointer (some ⟨g, 0, none⟩))), (2, 8, .val (.pointer (some ⟨g, 2, none⟩))), (3, 9, .val (.bool false)), (4, 10, .val (.bool true))] [⟨g, none, none, (), 6, rpC ⟨safe, waits, false, acts, inn, keep⟩, rpC ⟨safe, waits, false, acts, inn, keep⟩, 51⟩] rfl (by rfl) HH1 rfl rfl hLo rfl HS1 (slS 0 rfl rfl (slS 1 rfl rfl (slS 2 rfl rfl (slL 4 (d := 4) rfl (trivial))))) ?_ ?_
  · show ∀ i ∈ [0, 1, 2, 3, 4], _
    refine steps_cons (st_run 0 _ rfl rfl hLo rfl rfl (fun _ _ _ _ => rfl) (fun b G w hb ho => exec_move (.inl rfl) (ev_off rfl (HS1.get 0 rfl)))) ?_
    refine steps_cons (st_run 1 _ rfl rfl hLo rfl rfl (fun _ _ _ _ => rfl) (fun b G w hb ho => exec_nil rfl (ev_on hLo 0 rfl HS1.1 rfl (hb 0 (by rfl))))) ?_
    refine steps_cons (st_run 2 _ rfl rfl hLo rfl rfl (fun _ _ _ _ => rfl) (fun b G w hb ho => exec_field rfl (ev_on hLo 1 rfl HS1.1 rfl (hb 1 (by rfl))) (by kernel_rfl))) ?_
    refine steps_cons (st_read 3 0 _ _ rfl rfl rfl hLo rfl rfl (fun _ _ _ _ => rfl) (by rfl) (by rfl) (fun b G w hb ho hr => exec_cell hr (Nat.le_of_ble_eq_true rfl) Try.underlying4 rfl rfl (ev_on hLo 2 rfl HS1.1 rfl (hb 2 (by rfl))))) ?_
    refine steps_cons (st_run 4 _ rfl rfl hLo rfl rfl (fun _ _ _ _ => rfl) (fun b G w hb ho => exec_un rfl (ev_on hLo 3 rfl HS1.1 rfl (hb 3 (by rfl))) (ru_not _))) ?_
    exact steps_nil
  clear hLo
  intro G a2 w2 hS hH
  have HS2 : Sl a2 39 [(0, .pointer (some ⟨g, 0, none⟩)), (1, .string (r)), (4, .int .i64 (0)), (10, .bool true)] := hS
  have HH2 : Held ⟨w, [g]⟩ w2 [⟨g, (), 6, rpC ⟨safe, waits, false, acts, inn, keep⟩, 51⟩] := hH
  clear hS hH HS1 HH1
  refine then_ ?_
  refine wp_cond_true (HS2.get 3 rfl) ?_
  refine wp_seq ?_
  have hLo : LOk [(0, 4, .val (.int .i64 (50)))] := lok (by rfl) (by rfl)
  refine plain_ (wE := ⟨w, [g]⟩) (sz := 39) (n := 1) [0] [(0, .val (.pointer (some ⟨g, 0, none⟩))), (1, .val (.string (r))), (10, .val (.bool true)), (4, .val (.int .i64 (50)))] [(0, 4, .val (.int .i64 (50)))] [⟨g, none, none, (), 6, rpC ⟨safe, waits, false, acts, inn, keep⟩, rpC ⟨safe, waits, false, acts, inn, keep⟩, 51⟩] rfl (by rfl) HH2 rfl rfl hLo rfl HS2 (slS 0 rfl rfl (slS 1 rfl rfl (slS 3 rfl rfl (slL 0 (d := 0) rfl (trivial))))) ?_ ?_
  · show ∀ i ∈ [0], _
    refine steps_cons (st_run 0 _ rfl rfl hLo rfl rfl (fun _ _ _ _ => rfl) (fun b G w hb ho => exec_move (.inr rfl) (rfl))) ?_
    exact steps_nil
  clear hLo
  intro G a3 w3 hS hH
  have HS3 : Sl a3 39 [(0, .pointer (some ⟨g, 0, none⟩)), (1, .string (r)), (10, .bool true), (4, .int .i64 (50))] := hS
  have HH3 : Held ⟨w, [g]⟩ w3 [⟨g, (), 6, rpC ⟨safe, waits, false, acts, inn, keep⟩, 51⟩] := hH
  clear hS hH HS2 HH2
  refine then_ ?_
  refine wp_ret ?_
  repeat (first | refine then_ret ?_ | refine inBlock_ret' ?_)
  exact b_tmp rfl HS3.2.1 (HS3.get 3 rfl) ⟨rfl, Row.norm (HH3.row 0 rfl) (six ⟨rfl, rfl, rfl, rfl, rfl, rfl⟩), HH3.1⟩
theorem rapp_full {w : World} {g : Nat} {safe waits : ByteArray} {acts inn : Nat} {keep : Int} {r : ByteArray} (hr : Row w g () 6 (rpC ⟨safe, waits, true, acts, inn, keep⟩) 51) (hsw : safe.size + waits.size ≤ 4194304) (hs : r.size ≤ 1073741824) (hll : (lineS r).size ≤ 4294967296) (hf : 4194304 < safe.size + waits.size + (lineS r).size) : Calls Try.prog 24 #[.pointer (some ⟨g, 0, none⟩), .string (r)] w fun e w' => e = .returned (.int .i64 51) ∧ Row w' g () 6 (rpC ⟨safe, waits, true, acts, inn, keep⟩) 51 ∧ Fr ⟨w, [g]⟩ w' := by
  refine enter_ 39 Try.func24 rfl rfl (fun a0 hS => ?_)
  have HS0 : Sl a0 39 [(0, .pointer (some ⟨g, 0, none⟩)), (1, .string (r))] := hS
  have HH0 : Held ⟨w, [g]⟩ w [⟨g, (), 6, rpC ⟨safe, waits, true, acts, inn, keep⟩, 51⟩] := Held.one hr
  clear hS
  refine wp_seq ?_
  have hLo : LOk [(0, 4, .val (.int .i64 (0)))] := lok (by rfl) (by rfl)
  refine plain_ (wE := ⟨w, [g]⟩) (sz := 39) (n := 1) [0] [(0, .val (.pointer (some ⟨g, 0, none⟩))), (1, .val (.string (r))), (4, .val (.int .i64 (0)))] [(0, 4, .val (.int .i64 (0)))] [⟨g, none, none, (), 6, rpC ⟨safe, waits, true, acts, inn, keep⟩, rpC ⟨safe, waits, true, acts, inn, keep⟩, 51⟩] rfl (by rfl) HH0 rfl rfl hLo rfl HS0 (slS 0 rfl rfl (slS 1 rfl rfl (slL 0 (d := 0) rfl (trivial)))) ?_ ?_
  · show ∀ i ∈ [0], _
    refine steps_cons (st_run 0 _ rfl rfl hLo rfl rfl (fun _ _ _ _ => rfl) (fun b G w hb ho => exec_move (.inr rfl) (rfl))) ?_
    exact steps_nil
  clear hLo
  intro G a1 w1 hS hH
  have HS1 : Sl a1 39 [(0, .pointer (some ⟨g, 0, none⟩)), (1, .string (r)), (4, .int .i64 (0))] := hS
  have HH1 : Held ⟨w, [g]⟩ w1 [⟨g, (), 6, rpC ⟨safe, waits, true, acts, inn, keep⟩, 51⟩] := hH
  clear hS hH HS0 HH0
  refine then_ ?_
  refine wp_seq ?_
  refine wp_seq ?_
  have hLo : LOk [(0, 6, .val (.pointer (some ⟨g, 0, none⟩))), (1, 7, .val (.pointer (some ⟨g, 0, none⟩))), (2, 8, .val (.pointer (some ⟨g, 2, none⟩))), (3, 9, .val (.bool true)), (4, 10, .val (.bool false))] := lok (by rfl) (by rfl)
  refine plain_ (wE := ⟨w, [g]⟩) (sz := 39) (n := 5) [0, 1, 3, 7, 15] [(0, .val (.pointer (some ⟨g, 0, none⟩))), (1, .val (.string (r))), (4, .val (.int .i64 (0))), (10, .val (.bool false))] [(0, 6, .val (.pointer (some ⟨g, 0, none⟩))), (1, 7, .val (.pointer (some ⟨g, 0, none⟩))), (2, 8, .val (.pointer (some ⟨g, 2, none⟩))), (3, 9, .val (.bool true)), (4, 10, .val (.bool false))] [⟨g, none, none, (), 6, rpC ⟨safe, waits, true, acts, inn, keep⟩, rpC ⟨safe, waits, true, acts, inn, keep⟩, 51⟩] rfl (by rfl) HH1 rfl rfl hLo rfl HS1 (slS 0 rfl rfl (slS 1 rfl rfl (slS 2 rfl rfl (slL 4 (d := 4) rfl (trivial))))) ?_ ?_
  · show ∀ i ∈ [0, 1, 2, 3, 4], _
    refine steps_cons (st_run 0 _ rfl rfl hLo rfl rfl (fun _ _ _ _ => rfl) (fun b G w hb ho => exec_move (.inl rfl) (ev_off rfl (HS1.get 0 rfl)))) ?_
    refine steps_cons (st_run 1 _ rfl rfl hLo rfl rfl (fun _ _ _ _ => rfl) (fun b G w hb ho => exec_nil rfl (ev_on hLo 0 rfl HS1.1 rfl (hb 0 (by rfl))))) ?_
    refine steps_cons (st_run 2 _ rfl rfl hLo rfl rfl (fun _ _ _ _ => rfl) (fun b G w hb ho => exec_field rfl (ev_on hLo 1 rfl HS1.1 rfl (hb 1 (by rfl))) (by kernel_rfl))) ?_
    refine steps_cons (st_read 3 0 _ _ rfl rfl rfl hLo rfl rfl (fun _ _ _ _ => rfl) (by rfl) (by rfl) (fun b G w hb ho hr => exec_cell hr (Nat.le_of_ble_eq_true rfl) Try.underlying4 rfl rfl (ev_on hLo 2 rfl HS1.1 rfl (hb 2 (by rfl))))) ?_
    refine steps_cons (st_run 4 _ rfl rfl hLo rfl rfl (fun _ _ _ _ => rfl) (fun b G w hb ho => exec_un rfl (ev_on hLo 3 rfl HS1.1 rfl (hb 3 (by rfl))) (ru_not _))) ?_
    exact steps_nil
  clear hLo
  intro G a2 w2 hS hH
  have HS2 : Sl a2 39 [(0, .pointer (some ⟨g, 0, none⟩)), (1, .string (r)), (4, .int .i64 (0)), (10, .bool false)] := hS
  have HH2 : Held ⟨w, [g]⟩ w2 [⟨g, (), 6, rpC ⟨safe, waits, true, acts, inn, keep⟩, 51⟩] := hH
  clear hS hH HS1 HH1
  refine then_ ?_
  refine wp_cond_false (HS2.get 3 rfl) ?_
  refine wp_skip ?_
  refine then_ ?_
  refine wp_seq ?_
  have hLo : LOk [(0, 11, .val (.string (r))), (1, 12, .val (.string (lineS r))), (2, 5, .val (.string (lineS r)))] := lok (by rfl) (by rfl)
  refine plain_ (wE := ⟨w, [g]⟩) (sz := 39) (n := 3) [0, 1, 3] [(0, .val (.pointer (some ⟨g, 0, none⟩))), (1, .val (.string (r))), (4, .val (.int .i64 (0))), (10, .val (.bool false)), (5, .val (.string (lineS r)))] [(0, 11, .val (.string (r))), (1, 12, .val (.string (lineS r))), (2, 5, .val (.string (lineS r)))] [⟨g, none, none, (), 6, rpC ⟨safe, waits, true, acts, inn, keep⟩, rpC ⟨safe, waits, true, acts, inn, keep⟩, 51⟩] rfl (by rfl) HH2 rfl rfl hLo rfl HS2 (slS 0 rfl rfl (slS 1 rfl rfl (slS 2 rfl rfl (slS 3 rfl rfl (slL 2 (d := 2) rfl (trivial)))))) ?_ ?_
  · show ∀ i ∈ [0, 1, 2], _
    refine steps_cons (st_run 0 _ rfl rfl hLo rfl rfl (fun _ _ _ _ => rfl) (fun b G w hb ho => exec_move (.inl rfl) (ev_off rfl (HS2.get 1 rfl)))) ?_
    refine steps_cons (st_call 1 _ #[.string (r)] rfl rfl rfl (fun _ _ _ _ => rfl) hLo rfl rfl Try.func15 rfl rfl (fun b G hb ho => args1 (ev_on hLo 0 rfl HS2.1 rfl (hb 0 (by rfl)))) (fun w hw => line_calls hs)) ?_
    refine steps_cons (st_run 2 _ rfl rfl hLo rfl rfl (fun _ _ _ _ => rfl) (fun b G w hb ho => exec_move (.inr rfl) (ev_on hLo 1 rfl HS2.1 rfl (hb 1 (by rfl))))) ?_
    exact steps_nil
  clear hLo
  intro G a3 w3 hS hH
  have HS3 : Sl a3 39 [(0, .pointer (some ⟨g, 0, none⟩)), (1, .string (r)), (4, .int .i64 (0)), (10, .bool false), (5, .string (lineS r))] := hS
  have HH3 : Held ⟨w, [g]⟩ w3 [⟨g, (), 6, rpC ⟨safe, waits, true, acts, inn, keep⟩, 51⟩] := hH
  clear hS hH HS2 HH2
  refine then_ ?_
  refine wp_seq ?_
  refine wp_seq ?_
  have hLo : LOk [(0, 13, .val (.pointer (some ⟨g, 0, none⟩))), (1, 14, .val (.pointer (some ⟨g, 0, none⟩))), (2, 15, .val (.pointer (some ⟨g, 0, none⟩))), (3, 16, .val (.string (safe))), (4, 17, .val (.int .i64 (((safe).size : Int)))), (5, 18, .val (.pointer (some ⟨g, 0, none⟩))), (6, 19, .val (.pointer (some ⟨g, 0, none⟩))), (7, 20, .val (.pointer (some ⟨g, 1, none⟩))), (8, 21, .val (.string (waits))), (9, 22, .val (.int .i64 (((waits).size : Int)))), (10, 23, .val (.int .i64 (((safe.size + waits.size : Nat) : Int)))), (11, 24, .val (.string (lineS r))), (12, 25, .val (.int .i64 (((lineS r).size : Int)))), (13, 26, .val (.int .i64 (((safe.size + waits.size + (lineS r).size : Nat) : Int)))), (14, 27, .val (.bool true))] := lok (by rfl) (by rfl)
  refine region_ (wE := ⟨w, [g]⟩) (sz := 39) (n := 15) (B := [0, 1, 3, 7, 15, 0, 32, 96, 224, 480, 1023, 0, 2048, 8191, 16383]) [0, 1, 2, 3, 4, 5, 6, 7, 8, 9, 10, 11, 12, 13, 14] [(0, .val (.pointer (some ⟨g, 0, none⟩))), (1, .val (.string (r))), (4, .val (.int .i64 (0))), (10, .val (.bool false)), (5, .val (.string (lineS r))), (27, .val (.bool true))] [(0, 13, .val (.pointer (some ⟨g, 0, none⟩))), (1, 14, .val (.pointer (some ⟨g, 0, none⟩))), (2, 15, .val (.pointer (some ⟨g, 0, none⟩))), (3, 16, .val (.string (safe))), (4, 17, .val (.int .i64 (((safe).size : Int)))), (5, 18, .val (.pointer (some ⟨g, 0, none⟩))), (6, 19, .val (.pointer (some ⟨g, 0, none⟩))), (7, 20, .val (.pointer (some ⟨g, 1, none⟩))), (8, 21, .val (.string (waits))), (9, 22, .val (.int .i64 (((waits).size : Int)))), (10, 23, .val (.int .i64 (((safe.size + waits.size : Nat) : Int)))), (11, 24, .val (.string (lineS r))), (12, 25, .val (.int .i64 (((lineS r).size : Int)))), (13, 26, .val (.int .i64 (((safe.size + waits.size + (lineS r).size : Nat) : Int)))), (14, 27, .val (.bool true))] [⟨g, none, none, (), 6, rpC ⟨safe, waits, true, acts, inn, keep⟩, rpC ⟨safe, waits, true, acts, inn, keep⟩, 51⟩] (by rfl) rfl tabrab4 bitsrab4 (by kernel_rfl) (by kernel_rfl) HH3 rfl rfl hLo rfl HS3 (slS 0 rfl rfl (slS 1 rfl rfl (slS 2 rfl rfl (slS 3 rfl rfl (slS 4 rfl rfl (slL 14 (d := 14) rfl (trivial))))))) ?_ ?_
  · show ∀ i ∈ [0, 1, 2, 3, 4, 5, 6, 7, 8, 9, 10, 11, 12, 13, 14], _
    refine steps_cons (st_run 0 _ rfl rfl hLo rfl rfl (fun _ _ _ _ => rfl) (fun b G w hb ho => exec_move (.inl rfl) (ev_off rfl (HS3.get 0 rfl)))) ?_
    refine steps_cons (st_run 1 _ rfl rfl hLo rfl rfl (fun _ _ _ _ => rfl) (fun b G w hb ho => exec_nil rfl (ev_on hLo 0 rfl HS3.1 rfl (hb 0 (by rfl))))) ?_
    refine steps_cons (st_run 2 _ rfl rfl hLo rfl rfl (fun _ _ _ _ => rfl) (fun b G w hb ho => exec_field rfl (ev_on hLo 1 rfl HS3.1 rfl (hb 1 (by rfl))) (by kernel_rfl))) ?_
    refine steps_cons (st_read 3 0 _ _ rfl rfl rfl hLo rfl rfl (fun _ _ _ _ => rfl) (by rfl) (by rfl) (fun b G w hb ho hr => exec_cell hr (Nat.le_of_ble_eq_true rfl) Try.underlying9 rfl rfl (ev_on hLo 2 rfl HS3.1 rfl (hb 2 (by rfl))))) ?_
    refine steps_cons (st_run 4 _ rfl rfl hLo rfl rfl (fun _ _ _ _ => rfl) (fun b G w hb ho => exec_lenS Try.underlying9 rfl (ev_on hLo 3 rfl HS3.1 rfl (hb 3 (by rfl))))) ?_
    refine steps_cons (st_run 5 _ rfl rfl hLo rfl rfl (fun _ _ _ _ => rfl) (fun b G w hb ho => exec_move (.inl rfl) (ev_off rfl (HS3.get 0 rfl)))) ?_
    refine steps_cons (st_run 6 _ rfl rfl hLo rfl rfl (fun _ _ _ _ => rfl) (fun b G w hb ho => exec_nil rfl (ev_on hLo 5 rfl HS3.1 rfl (hb 5 (by rfl))))) ?_
    refine steps_cons (st_run 7 _ rfl rfl hLo rfl rfl (fun _ _ _ _ => rfl) (fun b G w hb ho => exec_field rfl (ev_on hLo 6 rfl HS3.1 rfl (hb 6 (by rfl))) (by kernel_rfl))) ?_
    refine steps_cons (st_read 8 0 _ _ rfl rfl rfl hLo rfl rfl (fun _ _ _ _ => rfl) (by rfl) (by rfl) (fun b G w hb ho hr => exec_cell hr (Nat.le_of_ble_eq_true rfl) Try.underlying9 rfl rfl (ev_on hLo 7 rfl HS3.1 rfl (hb 7 (by rfl))))) ?_
    refine steps_cons (st_run 9 _ rfl rfl hLo rfl rfl (fun _ _ _ _ => rfl) (fun b G w hb ho => exec_lenS Try.underlying9 rfl (ev_on hLo 8 rfl HS3.1 rfl (hb 8 (by rfl))))) ?_
    refine steps_cons (st_run 10 _ rfl rfl hLo rfl rfl (fun _ _ _ _ => rfl) (fun b G w hb ho => exec_bin rfl (ev_on hLo 4 rfl HS3.1 rfl (hb 4 (by rfl))) (ev_on hLo 9 rfl HS3.1 rfl (hb 9 (by rfl))) (rb_add (w_nat (by omega) (by omega)) _ _ _))) ?_
    refine steps_cons (st_run 11 _ rfl rfl hLo rfl rfl (fun _ _ _ _ => rfl) (fun b G w hb ho => exec_move (.inl rfl) (ev_off rfl (HS3.get 4 rfl)))) ?_
    refine steps_cons (st_run 12 _ rfl rfl hLo rfl rfl (fun _ _ _ _ => rfl) (fun b G w hb ho => exec_lenS Try.underlying9 rfl (ev_on hLo 11 rfl HS3.1 rfl (hb 11 (by rfl))))) ?_
    refine steps_cons (st_run 13 _ rfl rfl hLo rfl rfl (fun _ _ _ _ => rfl) (fun b G w hb ho => exec_bin rfl (ev_on hLo 10 rfl HS3.1 rfl (hb 10 (by rfl))) (ev_on hLo 12 rfl HS3.1 rfl (hb 12 (by rfl))) (rb_add (w_nat (by omega) (by omega)) _ _ _))) ?_
    refine steps_cons (st_run 14 _ rfl rfl hLo rfl rfl (fun _ _ _ _ => rfl) (fun b G w hb ho => exec_bin rfl (ev_on hLo 13 rfl HS3.1 rfl (hb 13 (by rfl))) (rfl) (rb_gtr (decide_eq_true (by omega)) _ _ _))) ?_
    exact steps_nil
  clear hLo
  intro G a4 w4 hS hH
  have HS4 : Sl a4 39 [(0, .pointer (some ⟨g, 0, none⟩)), (1, .string (r)), (4, .int .i64 (0)), (10, .bool false), (5, .string (lineS r)), (27, .bool true)] := hS
  have HH4 : Held ⟨w, [g]⟩ w4 [⟨g, (), 6, rpC ⟨safe, waits, true, acts, inn, keep⟩, 51⟩] := hH
  clear hS hH HS3 HH3
  refine then_ ?_
  refine wp_cond_true (HS4.get 5 rfl) ?_
  refine wp_seq ?_
  have hLo : LOk [(0, 4, .val (.int .i64 (51)))] := lok (by rfl) (by rfl)
  refine plain_ (wE := ⟨w, [g]⟩) (sz := 39) (n := 1) [0] [(0, .val (.pointer (some ⟨g, 0, none⟩))), (1, .val (.string (r))), (10, .val (.bool false)), (5, .val (.string (lineS r))), (27, .val (.bool true)), (4, .val (.int .i64 (51)))] [(0, 4, .val (.int .i64 (51)))] [⟨g, none, none, (), 6, rpC ⟨safe, waits, true, acts, inn, keep⟩, rpC ⟨safe, waits, true, acts, inn, keep⟩, 51⟩] rfl (by rfl) HH4 rfl rfl hLo rfl HS4 (slS 0 rfl rfl (slS 1 rfl rfl (slS 3 rfl rfl (slS 4 rfl rfl (slS 5 rfl rfl (slL 0 (d := 0) rfl (trivial))))))) ?_ ?_
  · show ∀ i ∈ [0], _
    refine steps_cons (st_run 0 _ rfl rfl hLo rfl rfl (fun _ _ _ _ => rfl) (fun b G w hb ho => exec_move (.inr rfl) (rfl))) ?_
    exact steps_nil
  clear hLo
  intro G a5 w5 hS hH
  have HS5 : Sl a5 39 [(0, .pointer (some ⟨g, 0, none⟩)), (1, .string (r)), (10, .bool false), (5, .string (lineS r)), (27, .bool true), (4, .int .i64 (51))] := hS
  have HH5 : Held ⟨w, [g]⟩ w5 [⟨g, (), 6, rpC ⟨safe, waits, true, acts, inn, keep⟩, 51⟩] := hH
  clear hS hH HS4 HH4
  refine then_ ?_
  refine wp_ret ?_
  repeat (first | refine then_ret ?_ | refine inBlock_ret' ?_)
  exact b_tmp rfl HS5.2.1 (HS5.get 5 rfl) ⟨rfl, Row.norm (HH5.row 0 rfl) (six ⟨rfl, rfl, rfl, rfl, rfl, rfl⟩), HH5.1⟩
theorem rapp_goes {w : World} {g : Nat} {safe waits : ByteArray} {acts : Nat} {keep : Int} {r : ByteArray} (hr : Row w g () 6 (rpC ⟨safe, waits, true, acts, 1, keep⟩) 51) (hs : r.size ≤ 1073741824) (hf : safe.size + waits.size + (lineS r).size ≤ 4194304) (hac : acts ≤ 1000000) (hsw2 : safe.size + (waits ++ lineS r).size ≤ 4194304) : Calls Try.prog 24 #[.pointer (some ⟨g, 0, none⟩), .string (r)] w fun e w' => e = .returned (.int .i64 50) ∧ Row w' g () 6 (rpC ⟨(safe ++ (waits ++ lineS r).extract 0 (kp keep (waits ++ lineS r).size)), ByteArray.empty, false, acts + 1, 0, keep⟩) 51 ∧ Fr ⟨w, [g]⟩ w' := by
  refine enter_ 39 Try.func24 rfl rfl (fun a0 hS => ?_)
  have HS0 : Sl a0 39 [(0, .pointer (some ⟨g, 0, none⟩)), (1, .string (r))] := hS
  have HH0 : Held ⟨w, [g]⟩ w [⟨g, (), 6, rpC ⟨safe, waits, true, acts, 1, keep⟩, 51⟩] := Held.one hr
  clear hS
  refine wp_seq ?_
  have hLo : LOk [(0, 4, .val (.int .i64 (0)))] := lok (by rfl) (by rfl)
  refine plain_ (wE := ⟨w, [g]⟩) (sz := 39) (n := 1) [0] [(0, .val (.pointer (some ⟨g, 0, none⟩))), (1, .val (.string (r))), (4, .val (.int .i64 (0)))] [(0, 4, .val (.int .i64 (0)))] [⟨g, none, none, (), 6, rpC ⟨safe, waits, true, acts, 1, keep⟩, rpC ⟨safe, waits, true, acts, 1, keep⟩, 51⟩] rfl (by rfl) HH0 rfl rfl hLo rfl HS0 (slS 0 rfl rfl (slS 1 rfl rfl (slL 0 (d := 0) rfl (trivial)))) ?_ ?_
  · show ∀ i ∈ [0], _
    refine steps_cons (st_run 0 _ rfl rfl hLo rfl rfl (fun _ _ _ _ => rfl) (fun b G w hb ho => exec_move (.inr rfl) (rfl))) ?_
    exact steps_nil
  clear hLo
  intro G a1 w1 hS hH
  have HS1 : Sl a1 39 [(0, .pointer (some ⟨g, 0, none⟩)), (1, .string (r)), (4, .int .i64 (0))] := hS
  have HH1 : Held ⟨w, [g]⟩ w1 [⟨g, (), 6, rpC ⟨safe, waits, true, acts, 1, keep⟩, 51⟩] := hH
  clear hS hH HS0 HH0
  refine then_ ?_
  refine wp_seq ?_
  refine wp_seq ?_
  have hLo : LOk [(0, 6, .val (.pointer (some ⟨g, 0, none⟩))), (1, 7, .val (.pointer (some ⟨g, 0, none⟩))), (2, 8, .val (.pointer (some ⟨g, 2, none⟩))), (3, 9, .val (.bool true)), (4, 10, .val (.bool false))] := lok (by rfl) (by rfl)
  refine plain_ (wE := ⟨w, [g]⟩) (sz := 39) (n := 5) [0, 1, 3, 7, 15] [(0, .val (.pointer (some ⟨g, 0, none⟩))), (1, .val (.string (r))), (4, .val (.int .i64 (0))), (10, .val (.bool false))] [(0, 6, .val (.pointer (some ⟨g, 0, none⟩))), (1, 7, .val (.pointer (some ⟨g, 0, none⟩))), (2, 8, .val (.pointer (some ⟨g, 2, none⟩))), (3, 9, .val (.bool true)), (4, 10, .val (.bool false))] [⟨g, none, none, (), 6, rpC ⟨safe, waits, true, acts, 1, keep⟩, rpC ⟨safe, waits, true, acts, 1, keep⟩, 51⟩] rfl (by rfl) HH1 rfl rfl hLo rfl HS1 (slS 0 rfl rfl (slS 1 rfl rfl (slS 2 rfl rfl (slL 4 (d := 4) rfl (trivial))))) ?_ ?_
  · show ∀ i ∈ [0, 1, 2, 3, 4], _
    refine steps_cons (st_run 0 _ rfl rfl hLo rfl rfl (fun _ _ _ _ => rfl) (fun b G w hb ho => exec_move (.inl rfl) (ev_off rfl (HS1.get 0 rfl)))) ?_
    refine steps_cons (st_run 1 _ rfl rfl hLo rfl rfl (fun _ _ _ _ => rfl) (fun b G w hb ho => exec_nil rfl (ev_on hLo 0 rfl HS1.1 rfl (hb 0 (by rfl))))) ?_
    refine steps_cons (st_run 2 _ rfl rfl hLo rfl rfl (fun _ _ _ _ => rfl) (fun b G w hb ho => exec_field rfl (ev_on hLo 1 rfl HS1.1 rfl (hb 1 (by rfl))) (by kernel_rfl))) ?_
    refine steps_cons (st_read 3 0 _ _ rfl rfl rfl hLo rfl rfl (fun _ _ _ _ => rfl) (by rfl) (by rfl) (fun b G w hb ho hr => exec_cell hr (Nat.le_of_ble_eq_true rfl) Try.underlying4 rfl rfl (ev_on hLo 2 rfl HS1.1 rfl (hb 2 (by rfl))))) ?_
    refine steps_cons (st_run 4 _ rfl rfl hLo rfl rfl (fun _ _ _ _ => rfl) (fun b G w hb ho => exec_un rfl (ev_on hLo 3 rfl HS1.1 rfl (hb 3 (by rfl))) (ru_not _))) ?_
    exact steps_nil
  clear hLo
  intro G a2 w2 hS hH
  have HS2 : Sl a2 39 [(0, .pointer (some ⟨g, 0, none⟩)), (1, .string (r)), (4, .int .i64 (0)), (10, .bool false)] := hS
  have HH2 : Held ⟨w, [g]⟩ w2 [⟨g, (), 6, rpC ⟨safe, waits, true, acts, 1, keep⟩, 51⟩] := hH
  clear hS hH HS1 HH1
  refine then_ ?_
  refine wp_cond_false (HS2.get 3 rfl) ?_
  refine wp_skip ?_
  refine then_ ?_
  refine wp_seq ?_
  have hLo : LOk [(0, 11, .val (.string (r))), (1, 12, .val (.string (lineS r))), (2, 5, .val (.string (lineS r)))] := lok (by rfl) (by rfl)
  refine plain_ (wE := ⟨w, [g]⟩) (sz := 39) (n := 3) [0, 1, 3] [(0, .val (.pointer (some ⟨g, 0, none⟩))), (1, .val (.string (r))), (4, .val (.int .i64 (0))), (10, .val (.bool false)), (5, .val (.string (lineS r)))] [(0, 11, .val (.string (r))), (1, 12, .val (.string (lineS r))), (2, 5, .val (.string (lineS r)))] [⟨g, none, none, (), 6, rpC ⟨safe, waits, true, acts, 1, keep⟩, rpC ⟨safe, waits, true, acts, 1, keep⟩, 51⟩] rfl (by rfl) HH2 rfl rfl hLo rfl HS2 (slS 0 rfl rfl (slS 1 rfl rfl (slS 2 rfl rfl (slS 3 rfl rfl (slL 2 (d := 2) rfl (trivial)))))) ?_ ?_
  · show ∀ i ∈ [0, 1, 2], _
    refine steps_cons (st_run 0 _ rfl rfl hLo rfl rfl (fun _ _ _ _ => rfl) (fun b G w hb ho => exec_move (.inl rfl) (ev_off rfl (HS2.get 1 rfl)))) ?_
    refine steps_cons (st_call 1 _ #[.string (r)] rfl rfl rfl (fun _ _ _ _ => rfl) hLo rfl rfl Try.func15 rfl rfl (fun b G hb ho => args1 (ev_on hLo 0 rfl HS2.1 rfl (hb 0 (by rfl)))) (fun w hw => line_calls hs)) ?_
    refine steps_cons (st_run 2 _ rfl rfl hLo rfl rfl (fun _ _ _ _ => rfl) (fun b G w hb ho => exec_move (.inr rfl) (ev_on hLo 1 rfl HS2.1 rfl (hb 1 (by rfl))))) ?_
    exact steps_nil
  clear hLo
  intro G a3 w3 hS hH
  have HS3 : Sl a3 39 [(0, .pointer (some ⟨g, 0, none⟩)), (1, .string (r)), (4, .int .i64 (0)), (10, .bool false), (5, .string (lineS r))] := hS
  have HH3 : Held ⟨w, [g]⟩ w3 [⟨g, (), 6, rpC ⟨safe, waits, true, acts, 1, keep⟩, 51⟩] := hH
  clear hS hH HS2 HH2
  refine then_ ?_
  refine wp_seq ?_
  refine wp_seq ?_
  have hLo : LOk [(0, 13, .val (.pointer (some ⟨g, 0, none⟩))), (1, 14, .val (.pointer (some ⟨g, 0, none⟩))), (2, 15, .val (.pointer (some ⟨g, 0, none⟩))), (3, 16, .val (.string (safe))), (4, 17, .val (.int .i64 (((safe).size : Int)))), (5, 18, .val (.pointer (some ⟨g, 0, none⟩))), (6, 19, .val (.pointer (some ⟨g, 0, none⟩))), (7, 20, .val (.pointer (some ⟨g, 1, none⟩))), (8, 21, .val (.string (waits))), (9, 22, .val (.int .i64 (((waits).size : Int)))), (10, 23, .val (.int .i64 (((safe.size + waits.size : Nat) : Int)))), (11, 24, .val (.string (lineS r))), (12, 25, .val (.int .i64 (((lineS r).size : Int)))), (13, 26, .val (.int .i64 (((safe.size + waits.size + (lineS r).size : Nat) : Int)))), (14, 27, .val (.bool false))] := lok (by rfl) (by rfl)
  refine region_ (wE := ⟨w, [g]⟩) (sz := 39) (n := 15) (B := [0, 1, 3, 7, 15, 0, 32, 96, 224, 480, 1023, 0, 2048, 8191, 16383]) [0, 1, 2, 3, 4, 5, 6, 7, 8, 9, 10, 11, 12, 13, 14] [(0, .val (.pointer (some ⟨g, 0, none⟩))), (1, .val (.string (r))), (4, .val (.int .i64 (0))), (10, .val (.bool false)), (5, .val (.string (lineS r))), (27, .val (.bool false))] [(0, 13, .val (.pointer (some ⟨g, 0, none⟩))), (1, 14, .val (.pointer (some ⟨g, 0, none⟩))), (2, 15, .val (.pointer (some ⟨g, 0, none⟩))), (3, 16, .val (.string (safe))), (4, 17, .val (.int .i64 (((safe).size : Int)))), (5, 18, .val (.pointer (some ⟨g, 0, none⟩))), (6, 19, .val (.pointer (some ⟨g, 0, none⟩))), (7, 20, .val (.pointer (some ⟨g, 1, none⟩))), (8, 21, .val (.string (waits))), (9, 22, .val (.int .i64 (((waits).size : Int)))), (10, 23, .val (.int .i64 (((safe.size + waits.size : Nat) : Int)))), (11, 24, .val (.string (lineS r))), (12, 25, .val (.int .i64 (((lineS r).size : Int)))), (13, 26, .val (.int .i64 (((safe.size + waits.size + (lineS r).size : Nat) : Int)))), (14, 27, .val (.bool false))] [⟨g, none, none, (), 6, rpC ⟨safe, waits, true, acts, 1, keep⟩, rpC ⟨safe, waits, true, acts, 1, keep⟩, 51⟩] (by rfl) rfl tabrac4 bitsrac4 (by kernel_rfl) (by kernel_rfl) HH3 rfl rfl hLo rfl HS3 (slS 0 rfl rfl (slS 1 rfl rfl (slS 2 rfl rfl (slS 3 rfl rfl (slS 4 rfl rfl (slL 14 (d := 14) rfl (trivial))))))) ?_ ?_
  · show ∀ i ∈ [0, 1, 2, 3, 4, 5, 6, 7, 8, 9, 10, 11, 12, 13, 14], _
    refine steps_cons (st_run 0 _ rfl rfl hLo rfl rfl (fun _ _ _ _ => rfl) (fun b G w hb ho => exec_move (.inl rfl) (ev_off rfl (HS3.get 0 rfl)))) ?_
    refine steps_cons (st_run 1 _ rfl rfl hLo rfl rfl (fun _ _ _ _ => rfl) (fun b G w hb ho => exec_nil rfl (ev_on hLo 0 rfl HS3.1 rfl (hb 0 (by rfl))))) ?_
    refine steps_cons (st_run 2 _ rfl rfl hLo rfl rfl (fun _ _ _ _ => rfl) (fun b G w hb ho => exec_field rfl (ev_on hLo 1 rfl HS3.1 rfl (hb 1 (by rfl))) (by kernel_rfl))) ?_
    refine steps_cons (st_read 3 0 _ _ rfl rfl rfl hLo rfl rfl (fun _ _ _ _ => rfl) (by rfl) (by rfl) (fun b G w hb ho hr => exec_cell hr (Nat.le_of_ble_eq_true rfl) Try.underlying9 rfl rfl (ev_on hLo 2 rfl HS3.1 rfl (hb 2 (by rfl))))) ?_
    refine steps_cons (st_run 4 _ rfl rfl hLo rfl rfl (fun _ _ _ _ => rfl) (fun b G w hb ho => exec_lenS Try.underlying9 rfl (ev_on hLo 3 rfl HS3.1 rfl (hb 3 (by rfl))))) ?_
    refine steps_cons (st_run 5 _ rfl rfl hLo rfl rfl (fun _ _ _ _ => rfl) (fun b G w hb ho => exec_move (.inl rfl) (ev_off rfl (HS3.get 0 rfl)))) ?_
    refine steps_cons (st_run 6 _ rfl rfl hLo rfl rfl (fun _ _ _ _ => rfl) (fun b G w hb ho => exec_nil rfl (ev_on hLo 5 rfl HS3.1 rfl (hb 5 (by rfl))))) ?_
    refine steps_cons (st_run 7 _ rfl rfl hLo rfl rfl (fun _ _ _ _ => rfl) (fun b G w hb ho => exec_field rfl (ev_on hLo 6 rfl HS3.1 rfl (hb 6 (by rfl))) (by kernel_rfl))) ?_
    refine steps_cons (st_read 8 0 _ _ rfl rfl rfl hLo rfl rfl (fun _ _ _ _ => rfl) (by rfl) (by rfl) (fun b G w hb ho hr => exec_cell hr (Nat.le_of_ble_eq_true rfl) Try.underlying9 rfl rfl (ev_on hLo 7 rfl HS3.1 rfl (hb 7 (by rfl))))) ?_
    refine steps_cons (st_run 9 _ rfl rfl hLo rfl rfl (fun _ _ _ _ => rfl) (fun b G w hb ho => exec_lenS Try.underlying9 rfl (ev_on hLo 8 rfl HS3.1 rfl (hb 8 (by rfl))))) ?_
    refine steps_cons (st_run 10 _ rfl rfl hLo rfl rfl (fun _ _ _ _ => rfl) (fun b G w hb ho => exec_bin rfl (ev_on hLo 4 rfl HS3.1 rfl (hb 4 (by rfl))) (ev_on hLo 9 rfl HS3.1 rfl (hb 9 (by rfl))) (rb_add (w_nat (by omega) (by omega)) _ _ _))) ?_
    refine steps_cons (st_run 11 _ rfl rfl hLo rfl rfl (fun _ _ _ _ => rfl) (fun b G w hb ho => exec_move (.inl rfl) (ev_off rfl (HS3.get 4 rfl)))) ?_
    refine steps_cons (st_run 12 _ rfl rfl hLo rfl rfl (fun _ _ _ _ => rfl) (fun b G w hb ho => exec_lenS Try.underlying9 rfl (ev_on hLo 11 rfl HS3.1 rfl (hb 11 (by rfl))))) ?_
    refine steps_cons (st_run 13 _ rfl rfl hLo rfl rfl (fun _ _ _ _ => rfl) (fun b G w hb ho => exec_bin rfl (ev_on hLo 10 rfl HS3.1 rfl (hb 10 (by rfl))) (ev_on hLo 12 rfl HS3.1 rfl (hb 12 (by rfl))) (rb_add (w_nat (by omega) (by omega)) _ _ _))) ?_
    refine steps_cons (st_run 14 _ rfl rfl hLo rfl rfl (fun _ _ _ _ => rfl) (fun b G w hb ho => exec_bin rfl (ev_on hLo 13 rfl HS3.1 rfl (hb 13 (by rfl))) (rfl) (rb_gtr (decide_eq_false (by omega)) _ _ _))) ?_
    exact steps_nil
  clear hLo
  intro G a4 w4 hS hH
  have HS4 : Sl a4 39 [(0, .pointer (some ⟨g, 0, none⟩)), (1, .string (r)), (4, .int .i64 (0)), (10, .bool false), (5, .string (lineS r)), (27, .bool false)] := hS
  have HH4 : Held ⟨w, [g]⟩ w4 [⟨g, (), 6, rpC ⟨safe, waits, true, acts, 1, keep⟩, 51⟩] := hH
  clear hS hH HS3 HH3
  refine then_ ?_
  refine wp_cond_false (HS4.get 5 rfl) ?_
  refine wp_skip ?_
  refine then_ ?_
  refine wp_seq ?_
  have hLo : LOk [(0, 28, .val (.pointer (some ⟨g, 0, none⟩))), (1, 29, .val (.pointer (some ⟨g, 0, none⟩))), (2, 30, .val (.pointer (some ⟨g, 0, none⟩))), (3, 31, .val (.pointer (some ⟨g, 1, none⟩))), (4, 32, .val (.string (waits))), (5, 33, .val (.string (lineS r))), (6, 34, .val (.string ((waits) ++ (lineS r)))), (7, 35, .val (.pointer (some ⟨g, 0, none⟩))), (8, 36, .val (.pointer (some ⟨g, 1, none⟩)))] := lok (by rfl) (by rfl)
  refine plain_ (wE := ⟨w, [g]⟩) (sz := 39) (n := 10) [0, 1, 3, 7, 15, 31, 63, 127, 255, 511] [(0, .val (.pointer (some ⟨g, 0, none⟩))), (1, .val (.string (r))), (4, .val (.int .i64 (0))), (10, .val (.bool false)), (5, .val (.string (lineS r))), (27, .val (.bool false))] [(0, 28, .val (.pointer (some ⟨g, 0, none⟩))), (1, 29, .val (.pointer (some ⟨g, 0, none⟩))), (2, 30, .val (.pointer (some ⟨g, 0, none⟩))), (3, 31, .val (.pointer (some ⟨g, 1, none⟩))), (4, 32, .val (.string (waits))), (5, 33, .val (.string (lineS r))), (6, 34, .val (.string ((waits) ++ (lineS r)))), (7, 35, .val (.pointer (some ⟨g, 0, none⟩))), (8, 36, .val (.pointer (some ⟨g, 1, none⟩)))] [⟨g, none, some 9, (), 6, rpC ⟨safe, waits, true, acts, 1, keep⟩, upd (rpC ⟨safe, waits, true, acts, 1, keep⟩) 1 (.s ((waits) ++ (lineS r))), 51⟩] rfl (by rfl) HH4 rfl rfl hLo rfl HS4 (slS 0 rfl rfl (slS 1 rfl rfl (slS 2 rfl rfl (slS 3 rfl rfl (slS 4 rfl rfl (slS 5 rfl rfl (trivial))))))) ?_ ?_
  · show ∀ i ∈ [0, 1, 2, 3, 4, 5, 6, 7, 8, 9], _
    refine steps_cons (st_run 0 _ rfl rfl hLo rfl rfl (fun _ _ _ _ => rfl) (fun b G w hb ho => exec_move (.inl rfl) (ev_off rfl (HS4.get 0 rfl)))) ?_
    refine steps_cons (st_run 1 _ rfl rfl hLo rfl rfl (fun _ _ _ _ => rfl) (fun b G w hb ho => exec_move (.inl rfl) (ev_off rfl (HS4.get 0 rfl)))) ?_
    refine steps_cons (st_run 2 _ rfl rfl hLo rfl rfl (fun _ _ _ _ => rfl) (fun b G w hb ho => exec_nil rfl (ev_on hLo 1 rfl HS4.1 rfl (hb 1 (by rfl))))) ?_
    refine steps_cons (st_run 3 _ rfl rfl hLo rfl rfl (fun _ _ _ _ => rfl) (fun b G w hb ho => exec_field rfl (ev_on hLo 2 rfl HS4.1 rfl (hb 2 (by rfl))) (by kernel_rfl))) ?_
    refine steps_cons (st_read 4 0 _ _ rfl rfl rfl hLo rfl rfl (fun _ _ _ _ => rfl) (by rfl) (by rfl) (fun b G w hb ho hr => exec_cell hr (Nat.le_of_ble_eq_true rfl) Try.underlying9 rfl rfl (ev_on hLo 3 rfl HS4.1 rfl (hb 3 (by rfl))))) ?_
    refine steps_cons (st_run 5 _ rfl rfl hLo rfl rfl (fun _ _ _ _ => rfl) (fun b G w hb ho => exec_move (.inl rfl) (ev_off rfl (HS4.get 4 rfl)))) ?_
    refine steps_cons (st_run 6 _ rfl rfl hLo rfl rfl (fun _ _ _ _ => rfl) (fun b G w hb ho => exec_bin rfl (ev_on hLo 4 rfl HS4.1 rfl (hb 4 (by rfl))) (ev_on hLo 5 rfl HS4.1 rfl (hb 5 (by rfl))) (rb_sadd ((by omega)) _ _ _))) ?_
    refine steps_cons (st_run 7 _ rfl rfl hLo rfl rfl (fun _ _ _ _ => rfl) (fun b G w hb ho => exec_nil rfl (ev_on hLo 0 rfl HS4.1 rfl (hb 0 (by rfl))))) ?_
    refine steps_cons (st_run 8 _ rfl rfl hLo rfl rfl (fun _ _ _ _ => rfl) (fun b G w hb ho => exec_field rfl (ev_on hLo 7 rfl HS4.1 rfl (hb 7 (by rfl))) (by kernel_rfl))) ?_
    refine steps_cons (st_put 0 _ rfl rfl rfl rfl (fun _ _ _ _ => rfl) rfl rfl rfl (by rfl) (fun b G w hb ho hr => exec_put1 hr (Nat.le_of_ble_eq_true rfl) (by kernel_rfl) rfl (ev_on hLo 8 rfl HS4.1 rfl (hb 8 (by rfl))) (ev_on hLo 6 rfl HS4.1 rfl (hb 6 (by rfl))))) ?_
    exact steps_nil
  clear hLo
  intro G a5 w5 hS hH
  have HS5 : Sl a5 39 [(0, .pointer (some ⟨g, 0, none⟩)), (1, .string (r)), (4, .int .i64 (0)), (10, .bool false), (5, .string (lineS r)), (27, .bool false)] := hS
  have HH5 : Held ⟨w, [g]⟩ w5 [⟨g, (), 6, upd (rpC ⟨safe, waits, true, acts, 1, keep⟩) 1 (.s ((waits) ++ (lineS r))), 51⟩] := hH
  clear hS hH HS4 HH4
  refine then_ ?_
  refine wp_seq ?_
  refine wp_seq ?_
  have hLo : LOk [(0, 37, .val (.pointer (some ⟨g, 0, none⟩))), (1, 38, .val (.bool true))] := lok (by rfl) (by rfl)
  refine plain_ (wE := ⟨w, [g]⟩) (sz := 39) (n := 2) [0, 1] [(0, .val (.pointer (some ⟨g, 0, none⟩))), (1, .val (.string (r))), (4, .val (.int .i64 (0))), (10, .val (.bool false)), (5, .val (.string (lineS r))), (27, .val (.bool false)), (38, .val (.bool true))] [(0, 37, .val (.pointer (some ⟨g, 0, none⟩))), (1, 38, .val (.bool true))] [⟨g, none, some 1, (), 6, upd (rpC ⟨safe, waits, true, acts, 1, keep⟩) 1 (.s ((waits) ++ (lineS r))), rpC ⟨(safe ++ (waits ++ lineS r).extract 0 (kp keep (waits ++ lineS r).size)), ByteArray.empty, false, acts + 1, 0, keep⟩, 51⟩] rfl (by rfl) HH5 rfl rfl hLo rfl HS5 (slS 0 rfl rfl (slS 1 rfl rfl (slS 2 rfl rfl (slS 3 rfl rfl (slS 4 rfl rfl (slS 5 rfl rfl (slL 1 (d := 1) rfl (trivial)))))))) ?_ ?_
  · show ∀ i ∈ [0, 1], _
    refine steps_cons (st_run 0 _ rfl rfl hLo rfl rfl (fun _ _ _ _ => rfl) (fun b G w hb ho => exec_move (.inl rfl) (ev_off rfl (HS5.get 0 rfl)))) ?_
    refine steps_cons (st_callM 1 0 _ _ (fun G => #[.pointer (some ⟨g, 0, none⟩)]) rfl rfl rfl rfl rfl (fun _ _ _ _ => rfl) hLo rfl (by rfl) (by rfl) (by rfl) Try.func39 rfl rfl (fun b G hb ho => args1 (ev_on hLo 0 rfl HS5.1 rfl (hb 0 (by rfl)))) (fun G w hw hr => ract_goes (hr.norm (six ⟨rfl, rfl, rfl, rfl, rfl, rfl⟩)) hsw2 hac)) ?_
    exact steps_nil
  clear hLo
  intro G a6 w6 hS hH
  have HS6 : Sl a6 39 [(0, .pointer (some ⟨g, 0, none⟩)), (1, .string (r)), (4, .int .i64 (0)), (10, .bool false), (5, .string (lineS r)), (27, .bool false), (38, .bool true)] := hS
  have HH6 : Held ⟨w, [g]⟩ w6 [⟨g, (), 6, rpC ⟨(safe ++ (waits ++ lineS r).extract 0 (kp keep (waits ++ lineS r).size)), ByteArray.empty, false, acts + 1, 0, keep⟩, 51⟩] := hH
  clear hS hH HS5 HH5
  refine then_ ?_
  refine wp_cond_true (HS6.get 6 rfl) ?_
  refine wp_seq ?_
  have hLo : LOk [(0, 4, .val (.int .i64 (50)))] := lok (by rfl) (by rfl)
  refine plain_ (wE := ⟨w, [g]⟩) (sz := 39) (n := 1) [0] [(0, .val (.pointer (some ⟨g, 0, none⟩))), (1, .val (.string (r))), (10, .val (.bool false)), (5, .val (.string (lineS r))), (27, .val (.bool false)), (38, .val (.bool true)), (4, .val (.int .i64 (50)))] [(0, 4, .val (.int .i64 (50)))] [⟨g, none, none, (), 6, rpC ⟨(safe ++ (waits ++ lineS r).extract 0 (kp keep (waits ++ lineS r).size)), ByteArray.empty, false, acts + 1, 0, keep⟩, rpC ⟨(safe ++ (waits ++ lineS r).extract 0 (kp keep (waits ++ lineS r).size)), ByteArray.empty, false, acts + 1, 0, keep⟩, 51⟩] rfl (by rfl) HH6 rfl rfl hLo rfl HS6 (slS 0 rfl rfl (slS 1 rfl rfl (slS 3 rfl rfl (slS 4 rfl rfl (slS 5 rfl rfl (slS 6 rfl rfl (slL 0 (d := 0) rfl (trivial)))))))) ?_ ?_
  · show ∀ i ∈ [0], _
    refine steps_cons (st_run 0 _ rfl rfl hLo rfl rfl (fun _ _ _ _ => rfl) (fun b G w hb ho => exec_move (.inr rfl) (rfl))) ?_
    exact steps_nil
  clear hLo
  intro G a7 w7 hS hH
  have HS7 : Sl a7 39 [(0, .pointer (some ⟨g, 0, none⟩)), (1, .string (r)), (10, .bool false), (5, .string (lineS r)), (27, .bool false), (38, .bool true), (4, .int .i64 (50))] := hS
  have HH7 : Held ⟨w, [g]⟩ w7 [⟨g, (), 6, rpC ⟨(safe ++ (waits ++ lineS r).extract 0 (kp keep (waits ++ lineS r).size)), ByteArray.empty, false, acts + 1, 0, keep⟩, 51⟩] := hH
  clear hS hH HS6 HH6
  refine then_ ?_
  refine wp_ret ?_
  repeat (first | refine then_ret ?_ | refine inBlock_ret' ?_)
  exact b_tmp rfl HS7.2.1 (HS7.get 6 rfl) ⟨rfl, Row.norm (HH7.row 0 rfl) (six ⟨rfl, rfl, rfl, rfl, rfl, rfl⟩), HH7.1⟩
theorem rapp_stays {w : World} {g : Nat} {safe waits : ByteArray} {acts inn : Nat} {keep : Int} {r : ByteArray} (hr : Row w g () 6 (rpC ⟨safe, waits, true, acts, inn, keep⟩) 51) (hs : r.size ≤ 1073741824) (hf : safe.size + waits.size + (lineS r).size ≤ 4194304) (hac : acts ≤ 1000000) (hin : inn < 9223372036854775808) (hi1 : inn ≠ 1) : Calls Try.prog 24 #[.pointer (some ⟨g, 0, none⟩), .string (r)] w fun e w' => e = .returned (.int .i64 0) ∧ Row w' g () 6 (rpC ⟨safe, (waits ++ lineS r), true, acts + 1, inn - 1, keep⟩) 51 ∧ Fr ⟨w, [g]⟩ w' := by
  refine enter_ 39 Try.func24 rfl rfl (fun a0 hS => ?_)
  have HS0 : Sl a0 39 [(0, .pointer (some ⟨g, 0, none⟩)), (1, .string (r))] := hS
  have HH0 : Held ⟨w, [g]⟩ w [⟨g, (), 6, rpC ⟨safe, waits, true, acts, inn, keep⟩, 51⟩] := Held.one hr
  clear hS
  refine wp_seq ?_
  have hLo : LOk [(0, 4, .val (.int .i64 (0)))] := lok (by rfl) (by rfl)
  refine plain_ (wE := ⟨w, [g]⟩) (sz := 39) (n := 1) [0] [(0, .val (.pointer (some ⟨g, 0, none⟩))), (1, .val (.string (r))), (4, .val (.int .i64 (0)))] [(0, 4, .val (.int .i64 (0)))] [⟨g, none, none, (), 6, rpC ⟨safe, waits, true, acts, inn, keep⟩, rpC ⟨safe, waits, true, acts, inn, keep⟩, 51⟩] rfl (by rfl) HH0 rfl rfl hLo rfl HS0 (slS 0 rfl rfl (slS 1 rfl rfl (slL 0 (d := 0) rfl (trivial)))) ?_ ?_
  · show ∀ i ∈ [0], _
    refine steps_cons (st_run 0 _ rfl rfl hLo rfl rfl (fun _ _ _ _ => rfl) (fun b G w hb ho => exec_move (.inr rfl) (rfl))) ?_
    exact steps_nil
  clear hLo
  intro G a1 w1 hS hH
  have HS1 : Sl a1 39 [(0, .pointer (some ⟨g, 0, none⟩)), (1, .string (r)), (4, .int .i64 (0))] := hS
  have HH1 : Held ⟨w, [g]⟩ w1 [⟨g, (), 6, rpC ⟨safe, waits, true, acts, inn, keep⟩, 51⟩] := hH
  clear hS hH HS0 HH0
  refine then_ ?_
  refine wp_seq ?_
  refine wp_seq ?_
  have hLo : LOk [(0, 6, .val (.pointer (some ⟨g, 0, none⟩))), (1, 7, .val (.pointer (some ⟨g, 0, none⟩))), (2, 8, .val (.pointer (some ⟨g, 2, none⟩))), (3, 9, .val (.bool true)), (4, 10, .val (.bool false))] := lok (by rfl) (by rfl)
  refine plain_ (wE := ⟨w, [g]⟩) (sz := 39) (n := 5) [0, 1, 3, 7, 15] [(0, .val (.pointer (some ⟨g, 0, none⟩))), (1, .val (.string (r))), (4, .val (.int .i64 (0))), (10, .val (.bool false))] [(0, 6, .val (.pointer (some ⟨g, 0, none⟩))), (1, 7, .val (.pointer (some ⟨g, 0, none⟩))), (2, 8, .val (.pointer (some ⟨g, 2, none⟩))), (3, 9, .val (.bool true)), (4, 10, .val (.bool false))] [⟨g, none, none, (), 6, rpC ⟨safe, waits, true, acts, inn, keep⟩, rpC ⟨safe, waits, true, acts, inn, keep⟩, 51⟩] rfl (by rfl) HH1 rfl rfl hLo rfl HS1 (slS 0 rfl rfl (slS 1 rfl rfl (slS 2 rfl rfl (slL 4 (d := 4) rfl (trivial))))) ?_ ?_
  · show ∀ i ∈ [0, 1, 2, 3, 4], _
    refine steps_cons (st_run 0 _ rfl rfl hLo rfl rfl (fun _ _ _ _ => rfl) (fun b G w hb ho => exec_move (.inl rfl) (ev_off rfl (HS1.get 0 rfl)))) ?_
    refine steps_cons (st_run 1 _ rfl rfl hLo rfl rfl (fun _ _ _ _ => rfl) (fun b G w hb ho => exec_nil rfl (ev_on hLo 0 rfl HS1.1 rfl (hb 0 (by rfl))))) ?_
    refine steps_cons (st_run 2 _ rfl rfl hLo rfl rfl (fun _ _ _ _ => rfl) (fun b G w hb ho => exec_field rfl (ev_on hLo 1 rfl HS1.1 rfl (hb 1 (by rfl))) (by kernel_rfl))) ?_
    refine steps_cons (st_read 3 0 _ _ rfl rfl rfl hLo rfl rfl (fun _ _ _ _ => rfl) (by rfl) (by rfl) (fun b G w hb ho hr => exec_cell hr (Nat.le_of_ble_eq_true rfl) Try.underlying4 rfl rfl (ev_on hLo 2 rfl HS1.1 rfl (hb 2 (by rfl))))) ?_
    refine steps_cons (st_run 4 _ rfl rfl hLo rfl rfl (fun _ _ _ _ => rfl) (fun b G w hb ho => exec_un rfl (ev_on hLo 3 rfl HS1.1 rfl (hb 3 (by rfl))) (ru_not _))) ?_
    exact steps_nil
  clear hLo
  intro G a2 w2 hS hH
  have HS2 : Sl a2 39 [(0, .pointer (some ⟨g, 0, none⟩)), (1, .string (r)), (4, .int .i64 (0)), (10, .bool false)] := hS
  have HH2 : Held ⟨w, [g]⟩ w2 [⟨g, (), 6, rpC ⟨safe, waits, true, acts, inn, keep⟩, 51⟩] := hH
  clear hS hH HS1 HH1
  refine then_ ?_
  refine wp_cond_false (HS2.get 3 rfl) ?_
  refine wp_skip ?_
  refine then_ ?_
  refine wp_seq ?_
  have hLo : LOk [(0, 11, .val (.string (r))), (1, 12, .val (.string (lineS r))), (2, 5, .val (.string (lineS r)))] := lok (by rfl) (by rfl)
  refine plain_ (wE := ⟨w, [g]⟩) (sz := 39) (n := 3) [0, 1, 3] [(0, .val (.pointer (some ⟨g, 0, none⟩))), (1, .val (.string (r))), (4, .val (.int .i64 (0))), (10, .val (.bool false)), (5, .val (.string (lineS r)))] [(0, 11, .val (.string (r))), (1, 12, .val (.string (lineS r))), (2, 5, .val (.string (lineS r)))] [⟨g, none, none, (), 6, rpC ⟨safe, waits, true, acts, inn, keep⟩, rpC ⟨safe, waits, true, acts, inn, keep⟩, 51⟩] rfl (by rfl) HH2 rfl rfl hLo rfl HS2 (slS 0 rfl rfl (slS 1 rfl rfl (slS 2 rfl rfl (slS 3 rfl rfl (slL 2 (d := 2) rfl (trivial)))))) ?_ ?_
  · show ∀ i ∈ [0, 1, 2], _
    refine steps_cons (st_run 0 _ rfl rfl hLo rfl rfl (fun _ _ _ _ => rfl) (fun b G w hb ho => exec_move (.inl rfl) (ev_off rfl (HS2.get 1 rfl)))) ?_
    refine steps_cons (st_call 1 _ #[.string (r)] rfl rfl rfl (fun _ _ _ _ => rfl) hLo rfl rfl Try.func15 rfl rfl (fun b G hb ho => args1 (ev_on hLo 0 rfl HS2.1 rfl (hb 0 (by rfl)))) (fun w hw => line_calls hs)) ?_
    refine steps_cons (st_run 2 _ rfl rfl hLo rfl rfl (fun _ _ _ _ => rfl) (fun b G w hb ho => exec_move (.inr rfl) (ev_on hLo 1 rfl HS2.1 rfl (hb 1 (by rfl))))) ?_
    exact steps_nil
  clear hLo
  intro G a3 w3 hS hH
  have HS3 : Sl a3 39 [(0, .pointer (some ⟨g, 0, none⟩)), (1, .string (r)), (4, .int .i64 (0)), (10, .bool false), (5, .string (lineS r))] := hS
  have HH3 : Held ⟨w, [g]⟩ w3 [⟨g, (), 6, rpC ⟨safe, waits, true, acts, inn, keep⟩, 51⟩] := hH
  clear hS hH HS2 HH2
  refine then_ ?_
  refine wp_seq ?_
  refine wp_seq ?_
  have hLo : LOk [(0, 13, .val (.pointer (some ⟨g, 0, none⟩))), (1, 14, .val (.pointer (some ⟨g, 0, none⟩))), (2, 15, .val (.pointer (some ⟨g, 0, none⟩))), (3, 16, .val (.string (safe))), (4, 17, .val (.int .i64 (((safe).size : Int)))), (5, 18, .val (.pointer (some ⟨g, 0, none⟩))), (6, 19, .val (.pointer (some ⟨g, 0, none⟩))), (7, 20, .val (.pointer (some ⟨g, 1, none⟩))), (8, 21, .val (.string (waits))), (9, 22, .val (.int .i64 (((waits).size : Int)))), (10, 23, .val (.int .i64 (((safe.size + waits.size : Nat) : Int)))), (11, 24, .val (.string (lineS r))), (12, 25, .val (.int .i64 (((lineS r).size : Int)))), (13, 26, .val (.int .i64 (((safe.size + waits.size + (lineS r).size : Nat) : Int)))), (14, 27, .val (.bool false))] := lok (by rfl) (by rfl)
  refine region_ (wE := ⟨w, [g]⟩) (sz := 39) (n := 15) (B := [0, 1, 3, 7, 15, 0, 32, 96, 224, 480, 1023, 0, 2048, 8191, 16383]) [0, 1, 2, 3, 4, 5, 6, 7, 8, 9, 10, 11, 12, 13, 14] [(0, .val (.pointer (some ⟨g, 0, none⟩))), (1, .val (.string (r))), (4, .val (.int .i64 (0))), (10, .val (.bool false)), (5, .val (.string (lineS r))), (27, .val (.bool false))] [(0, 13, .val (.pointer (some ⟨g, 0, none⟩))), (1, 14, .val (.pointer (some ⟨g, 0, none⟩))), (2, 15, .val (.pointer (some ⟨g, 0, none⟩))), (3, 16, .val (.string (safe))), (4, 17, .val (.int .i64 (((safe).size : Int)))), (5, 18, .val (.pointer (some ⟨g, 0, none⟩))), (6, 19, .val (.pointer (some ⟨g, 0, none⟩))), (7, 20, .val (.pointer (some ⟨g, 1, none⟩))), (8, 21, .val (.string (waits))), (9, 22, .val (.int .i64 (((waits).size : Int)))), (10, 23, .val (.int .i64 (((safe.size + waits.size : Nat) : Int)))), (11, 24, .val (.string (lineS r))), (12, 25, .val (.int .i64 (((lineS r).size : Int)))), (13, 26, .val (.int .i64 (((safe.size + waits.size + (lineS r).size : Nat) : Int)))), (14, 27, .val (.bool false))] [⟨g, none, none, (), 6, rpC ⟨safe, waits, true, acts, inn, keep⟩, rpC ⟨safe, waits, true, acts, inn, keep⟩, 51⟩] (by rfl) rfl tabrad4 bitsrad4 (by kernel_rfl) (by kernel_rfl) HH3 rfl rfl hLo rfl HS3 (slS 0 rfl rfl (slS 1 rfl rfl (slS 2 rfl rfl (slS 3 rfl rfl (slS 4 rfl rfl (slL 14 (d := 14) rfl (trivial))))))) ?_ ?_
  · show ∀ i ∈ [0, 1, 2, 3, 4, 5, 6, 7, 8, 9, 10, 11, 12, 13, 14], _
    refine steps_cons (st_run 0 _ rfl rfl hLo rfl rfl (fun _ _ _ _ => rfl) (fun b G w hb ho => exec_move (.inl rfl) (ev_off rfl (HS3.get 0 rfl)))) ?_
    refine steps_cons (st_run 1 _ rfl rfl hLo rfl rfl (fun _ _ _ _ => rfl) (fun b G w hb ho => exec_nil rfl (ev_on hLo 0 rfl HS3.1 rfl (hb 0 (by rfl))))) ?_
    refine steps_cons (st_run 2 _ rfl rfl hLo rfl rfl (fun _ _ _ _ => rfl) (fun b G w hb ho => exec_field rfl (ev_on hLo 1 rfl HS3.1 rfl (hb 1 (by rfl))) (by kernel_rfl))) ?_
    refine steps_cons (st_read 3 0 _ _ rfl rfl rfl hLo rfl rfl (fun _ _ _ _ => rfl) (by rfl) (by rfl) (fun b G w hb ho hr => exec_cell hr (Nat.le_of_ble_eq_true rfl) Try.underlying9 rfl rfl (ev_on hLo 2 rfl HS3.1 rfl (hb 2 (by rfl))))) ?_
    refine steps_cons (st_run 4 _ rfl rfl hLo rfl rfl (fun _ _ _ _ => rfl) (fun b G w hb ho => exec_lenS Try.underlying9 rfl (ev_on hLo 3 rfl HS3.1 rfl (hb 3 (by rfl))))) ?_
    refine steps_cons (st_run 5 _ rfl rfl hLo rfl rfl (fun _ _ _ _ => rfl) (fun b G w hb ho => exec_move (.inl rfl) (ev_off rfl (HS3.get 0 rfl)))) ?_
    refine steps_cons (st_run 6 _ rfl rfl hLo rfl rfl (fun _ _ _ _ => rfl) (fun b G w hb ho => exec_nil rfl (ev_on hLo 5 rfl HS3.1 rfl (hb 5 (by rfl))))) ?_
    refine steps_cons (st_run 7 _ rfl rfl hLo rfl rfl (fun _ _ _ _ => rfl) (fun b G w hb ho => exec_field rfl (ev_on hLo 6 rfl HS3.1 rfl (hb 6 (by rfl))) (by kernel_rfl))) ?_
    refine steps_cons (st_read 8 0 _ _ rfl rfl rfl hLo rfl rfl (fun _ _ _ _ => rfl) (by rfl) (by rfl) (fun b G w hb ho hr => exec_cell hr (Nat.le_of_ble_eq_true rfl) Try.underlying9 rfl rfl (ev_on hLo 7 rfl HS3.1 rfl (hb 7 (by rfl))))) ?_
    refine steps_cons (st_run 9 _ rfl rfl hLo rfl rfl (fun _ _ _ _ => rfl) (fun b G w hb ho => exec_lenS Try.underlying9 rfl (ev_on hLo 8 rfl HS3.1 rfl (hb 8 (by rfl))))) ?_
    refine steps_cons (st_run 10 _ rfl rfl hLo rfl rfl (fun _ _ _ _ => rfl) (fun b G w hb ho => exec_bin rfl (ev_on hLo 4 rfl HS3.1 rfl (hb 4 (by rfl))) (ev_on hLo 9 rfl HS3.1 rfl (hb 9 (by rfl))) (rb_add (w_nat (by omega) (by omega)) _ _ _))) ?_
    refine steps_cons (st_run 11 _ rfl rfl hLo rfl rfl (fun _ _ _ _ => rfl) (fun b G w hb ho => exec_move (.inl rfl) (ev_off rfl (HS3.get 4 rfl)))) ?_
    refine steps_cons (st_run 12 _ rfl rfl hLo rfl rfl (fun _ _ _ _ => rfl) (fun b G w hb ho => exec_lenS Try.underlying9 rfl (ev_on hLo 11 rfl HS3.1 rfl (hb 11 (by rfl))))) ?_
    refine steps_cons (st_run 13 _ rfl rfl hLo rfl rfl (fun _ _ _ _ => rfl) (fun b G w hb ho => exec_bin rfl (ev_on hLo 10 rfl HS3.1 rfl (hb 10 (by rfl))) (ev_on hLo 12 rfl HS3.1 rfl (hb 12 (by rfl))) (rb_add (w_nat (by omega) (by omega)) _ _ _))) ?_
    refine steps_cons (st_run 14 _ rfl rfl hLo rfl rfl (fun _ _ _ _ => rfl) (fun b G w hb ho => exec_bin rfl (ev_on hLo 13 rfl HS3.1 rfl (hb 13 (by rfl))) (rfl) (rb_gtr (decide_eq_false (by omega)) _ _ _))) ?_
    exact steps_nil
  clear hLo
  intro G a4 w4 hS hH
  have HS4 : Sl a4 39 [(0, .pointer (some ⟨g, 0, none⟩)), (1, .string (r)), (4, .int .i64 (0)), (10, .bool false), (5, .string (lineS r)), (27, .bool false)] := hS
  have HH4 : Held ⟨w, [g]⟩ w4 [⟨g, (), 6, rpC ⟨safe, waits, true, acts, inn, keep⟩, 51⟩] := hH
  clear hS hH HS3 HH3
  refine then_ ?_
  refine wp_cond_false (HS4.get 5 rfl) ?_
  refine wp_skip ?_
  refine then_ ?_
  refine wp_seq ?_
  have hLo : LOk [(0, 28, .val (.pointer (some ⟨g, 0, none⟩))), (1, 29, .val (.pointer (some ⟨g, 0, none⟩))), (2, 30, .val (.pointer (some ⟨g, 0, none⟩))), (3, 31, .val (.pointer (some ⟨g, 1, none⟩))), (4, 32, .val (.string (waits))), (5, 33, .val (.string (lineS r))), (6, 34, .val (.string ((waits) ++ (lineS r)))), (7, 35, .val (.pointer (some ⟨g, 0, none⟩))), (8, 36, .val (.pointer (some ⟨g, 1, none⟩)))] := lok (by rfl) (by rfl)
  refine plain_ (wE := ⟨w, [g]⟩) (sz := 39) (n := 10) [0, 1, 3, 7, 15, 31, 63, 127, 255, 511] [(0, .val (.pointer (some ⟨g, 0, none⟩))), (1, .val (.string (r))), (4, .val (.int .i64 (0))), (10, .val (.bool false)), (5, .val (.string (lineS r))), (27, .val (.bool false))] [(0, 28, .val (.pointer (some ⟨g, 0, none⟩))), (1, 29, .val (.pointer (some ⟨g, 0, none⟩))), (2, 30, .val (.pointer (some ⟨g, 0, none⟩))), (3, 31, .val (.pointer (some ⟨g, 1, none⟩))), (4, 32, .val (.string (waits))), (5, 33, .val (.string (lineS r))), (6, 34, .val (.string ((waits) ++ (lineS r)))), (7, 35, .val (.pointer (some ⟨g, 0, none⟩))), (8, 36, .val (.pointer (some ⟨g, 1, none⟩)))] [⟨g, none, some 9, (), 6, rpC ⟨safe, waits, true, acts, inn, keep⟩, upd (rpC ⟨safe, waits, true, acts, inn, keep⟩) 1 (.s ((waits) ++ (lineS r))), 51⟩] rfl (by rfl) HH4 rfl rfl hLo rfl HS4 (slS 0 rfl rfl (slS 1 rfl rfl (slS 2 rfl rfl (slS 3 rfl rfl (slS 4 rfl rfl (slS 5 rfl rfl (trivial))))))) ?_ ?_
  · show ∀ i ∈ [0, 1, 2, 3, 4, 5, 6, 7, 8, 9], _
    refine steps_cons (st_run 0 _ rfl rfl hLo rfl rfl (fun _ _ _ _ => rfl) (fun b G w hb ho => exec_move (.inl rfl) (ev_off rfl (HS4.get 0 rfl)))) ?_
    refine steps_cons (st_run 1 _ rfl rfl hLo rfl rfl (fun _ _ _ _ => rfl) (fun b G w hb ho => exec_move (.inl rfl) (ev_off rfl (HS4.get 0 rfl)))) ?_
    refine steps_cons (st_run 2 _ rfl rfl hLo rfl rfl (fun _ _ _ _ => rfl) (fun b G w hb ho => exec_nil rfl (ev_on hLo 1 rfl HS4.1 rfl (hb 1 (by rfl))))) ?_
    refine steps_cons (st_run 3 _ rfl rfl hLo rfl rfl (fun _ _ _ _ => rfl) (fun b G w hb ho => exec_field rfl (ev_on hLo 2 rfl HS4.1 rfl (hb 2 (by rfl))) (by kernel_rfl))) ?_
    refine steps_cons (st_read 4 0 _ _ rfl rfl rfl hLo rfl rfl (fun _ _ _ _ => rfl) (by rfl) (by rfl) (fun b G w hb ho hr => exec_cell hr (Nat.le_of_ble_eq_true rfl) Try.underlying9 rfl rfl (ev_on hLo 3 rfl HS4.1 rfl (hb 3 (by rfl))))) ?_
    refine steps_cons (st_run 5 _ rfl rfl hLo rfl rfl (fun _ _ _ _ => rfl) (fun b G w hb ho => exec_move (.inl rfl) (ev_off rfl (HS4.get 4 rfl)))) ?_
    refine steps_cons (st_run 6 _ rfl rfl hLo rfl rfl (fun _ _ _ _ => rfl) (fun b G w hb ho => exec_bin rfl (ev_on hLo 4 rfl HS4.1 rfl (hb 4 (by rfl))) (ev_on hLo 5 rfl HS4.1 rfl (hb 5 (by rfl))) (rb_sadd ((by omega)) _ _ _))) ?_
    refine steps_cons (st_run 7 _ rfl rfl hLo rfl rfl (fun _ _ _ _ => rfl) (fun b G w hb ho => exec_nil rfl (ev_on hLo 0 rfl HS4.1 rfl (hb 0 (by rfl))))) ?_
    refine steps_cons (st_run 8 _ rfl rfl hLo rfl rfl (fun _ _ _ _ => rfl) (fun b G w hb ho => exec_field rfl (ev_on hLo 7 rfl HS4.1 rfl (hb 7 (by rfl))) (by kernel_rfl))) ?_
    refine steps_cons (st_put 0 _ rfl rfl rfl rfl (fun _ _ _ _ => rfl) rfl rfl rfl (by rfl) (fun b G w hb ho hr => exec_put1 hr (Nat.le_of_ble_eq_true rfl) (by kernel_rfl) rfl (ev_on hLo 8 rfl HS4.1 rfl (hb 8 (by rfl))) (ev_on hLo 6 rfl HS4.1 rfl (hb 6 (by rfl))))) ?_
    exact steps_nil
  clear hLo
  intro G a5 w5 hS hH
  have HS5 : Sl a5 39 [(0, .pointer (some ⟨g, 0, none⟩)), (1, .string (r)), (4, .int .i64 (0)), (10, .bool false), (5, .string (lineS r)), (27, .bool false)] := hS
  have HH5 : Held ⟨w, [g]⟩ w5 [⟨g, (), 6, upd (rpC ⟨safe, waits, true, acts, inn, keep⟩) 1 (.s ((waits) ++ (lineS r))), 51⟩] := hH
  clear hS hH HS4 HH4
  refine then_ ?_
  refine wp_seq ?_
  refine wp_seq ?_
  have hLo : LOk [(0, 37, .val (.pointer (some ⟨g, 0, none⟩))), (1, 38, .val (.bool false))] := lok (by rfl) (by rfl)
  refine plain_ (wE := ⟨w, [g]⟩) (sz := 39) (n := 2) [0, 1] [(0, .val (.pointer (some ⟨g, 0, none⟩))), (1, .val (.string (r))), (4, .val (.int .i64 (0))), (10, .val (.bool false)), (5, .val (.string (lineS r))), (27, .val (.bool false)), (38, .val (.bool false))] [(0, 37, .val (.pointer (some ⟨g, 0, none⟩))), (1, 38, .val (.bool false))] [⟨g, none, some 1, (), 6, upd (rpC ⟨safe, waits, true, acts, inn, keep⟩) 1 (.s ((waits) ++ (lineS r))), rpC ⟨safe, (waits ++ lineS r), true, acts + 1, inn - 1, keep⟩, 51⟩] rfl (by rfl) HH5 rfl rfl hLo rfl HS5 (slS 0 rfl rfl (slS 1 rfl rfl (slS 2 rfl rfl (slS 3 rfl rfl (slS 4 rfl rfl (slS 5 rfl rfl (slL 1 (d := 1) rfl (trivial)))))))) ?_ ?_
  · show ∀ i ∈ [0, 1], _
    refine steps_cons (st_run 0 _ rfl rfl hLo rfl rfl (fun _ _ _ _ => rfl) (fun b G w hb ho => exec_move (.inl rfl) (ev_off rfl (HS5.get 0 rfl)))) ?_
    refine steps_cons (st_callM 1 0 _ _ (fun G => #[.pointer (some ⟨g, 0, none⟩)]) rfl rfl rfl rfl rfl (fun _ _ _ _ => rfl) hLo rfl (by rfl) (by rfl) (by rfl) Try.func39 rfl rfl (fun b G hb ho => args1 (ev_on hLo 0 rfl HS5.1 rfl (hb 0 (by rfl)))) (fun G w hw hr => ract_stays (hr.norm (six ⟨rfl, rfl, rfl, rfl, rfl, rfl⟩)) hac hin hi1)) ?_
    exact steps_nil
  clear hLo
  intro G a6 w6 hS hH
  have HS6 : Sl a6 39 [(0, .pointer (some ⟨g, 0, none⟩)), (1, .string (r)), (4, .int .i64 (0)), (10, .bool false), (5, .string (lineS r)), (27, .bool false), (38, .bool false)] := hS
  have HH6 : Held ⟨w, [g]⟩ w6 [⟨g, (), 6, rpC ⟨safe, (waits ++ lineS r), true, acts + 1, inn - 1, keep⟩, 51⟩] := hH
  clear hS hH HS5 HH5
  refine then_ ?_
  refine wp_cond_false (HS6.get 6 rfl) ?_
  refine wp_skip ?_
  refine then_ ?_
  refine wp_seq ?_
  have hLo : LOk [(0, 4, .val (.int .i64 (0)))] := lok (by rfl) (by rfl)
  refine plain_ (wE := ⟨w, [g]⟩) (sz := 39) (n := 1) [0] [(0, .val (.pointer (some ⟨g, 0, none⟩))), (1, .val (.string (r))), (10, .val (.bool false)), (5, .val (.string (lineS r))), (27, .val (.bool false)), (38, .val (.bool false)), (4, .val (.int .i64 (0)))] [(0, 4, .val (.int .i64 (0)))] [⟨g, none, none, (), 6, rpC ⟨safe, (waits ++ lineS r), true, acts + 1, inn - 1, keep⟩, rpC ⟨safe, (waits ++ lineS r), true, acts + 1, inn - 1, keep⟩, 51⟩] rfl (by rfl) HH6 rfl rfl hLo rfl HS6 (slS 0 rfl rfl (slS 1 rfl rfl (slS 3 rfl rfl (slS 4 rfl rfl (slS 5 rfl rfl (slS 6 rfl rfl (slL 0 (d := 0) rfl (trivial)))))))) ?_ ?_
  · show ∀ i ∈ [0], _
    refine steps_cons (st_run 0 _ rfl rfl hLo rfl rfl (fun _ _ _ _ => rfl) (fun b G w hb ho => exec_move (.inr rfl) (rfl))) ?_
    exact steps_nil
  clear hLo
  intro G a7 w7 hS hH
  have HS7 : Sl a7 39 [(0, .pointer (some ⟨g, 0, none⟩)), (1, .string (r)), (10, .bool false), (5, .string (lineS r)), (27, .bool false), (38, .bool false), (4, .int .i64 (0))] := hS
  have HH7 : Held ⟨w, [g]⟩ w7 [⟨g, (), 6, rpC ⟨safe, (waits ++ lineS r), true, acts + 1, inn - 1, keep⟩, 51⟩] := hH
  clear hS hH HS6 HH6
  refine then_ ?_
  refine wp_ret ?_
  repeat (first | refine then_ret ?_ | refine inBlock_ret' ?_)
  exact b_tmp rfl HS7.2.1 (HS7.get 6 rfl) ⟨rfl, Row.norm (HH7.row 0 rfl) (six ⟨rfl, rfl, rfl, rfl, rfl, rfl⟩), HH7.1⟩
def nthV (k : Nat) (v : Value) : Value := if k = 3 then v else match v with
  | .tuple xs => xs.getD k undef
  | _ => undef
structure GT (wE : WX) (val : List (Option Value)) (dep : List (Option Nat)) (cv : Nat) (rs : List ByteArray) (nn : Int) (ok : Bool) (g n : Nat) (f0 : Nat → SC) (t : TypeId) (V : Nat → Value) (b : Nat → Bool) (w : World) : Prop where
  fr : Fr wE w
  fresh : wE.fresh g
  row : Row w g () n f0 t
  vs : ∀ i v, val[i]? = some (some v) → b i = true → V i = v
  ds : ∀ i k, dep[i]? = some (some k) → b i = true → V i = nthV k (V cv)
  rc : b cv = true → ∃ A c, V cv = .tuple #[.slice A rs.length c, .int .i64 nn, .bool ok] ∧ TX w wE.w.heap.size (.slice A rs.length c) rs
section
variable {P : Program} {ops : Array Oper} {Q : Exit → Act → World → Prop} {B O : List Nat} {a0 : Act} {i : Nat} {T : List (Nat × Tmp)} {wE : WX} {val : List (Option Value)} {dep : List (Option Nat)} {cv : Nat} {rs : List ByteArray} {nn : Int} {ok : Bool} {g n : Nat} {f0 : Nat → SC} {t : TypeId}
theorem GT.first {w : World} (V : Nat → Value) (h : Held wE w [⟨g, (), n, f0, t⟩]) : GT wE val dep cv rs nn ok g n f0 t V (fun _ => false) w.drew :=
  ⟨h.1.drew, (h.2.1 _ List.mem_cons_self).1, (h.2.1 _ List.mem_cons_self).2, fun _ _ _ q => (by cases q), fun _ _ _ q => (by cases q), fun q => (by cases q)⟩
theorem GT.step {V : Nat → Value} {b : Nat → Bool} {w w' : World} {v : Value} (h : GT wE val dep cv rs nn ok g n f0 t V b w) (hb : Below w.heap.size w w') (hv : ∀ u, val[i]? = some (some u) → v = u) (hd : ∀ k, dep[i]? = some (some k) → v = nthV k (V cv)) (hc : Nat.beq i cv = false) : GT wE val dep cv rs nn ok g n f0 t (setV V i v) (up b i) w' := by
  have hc : cv ≠ i := fun e => by subst e; rw [Nat.beq_refl] at hc; cases hc
  refine ⟨h.fr.call hb, h.fresh, h.row.below hb h.row.lt, fun j u hj q => ?_, fun j k hj q => ?_, fun q => ?_⟩
  · by_cases e : j = i
    · subst e; rw [setV_self]; exact hv u hj
    · rw [setV_other e]; rw [up_other' e] at q; exact h.vs j u hj q
  · rw [setV_other hc]
    by_cases e : j = i
    · subst e; rw [setV_self]; exact hd k hj
    · rw [setV_other e]; rw [up_other' e] at q; exact h.ds j k hj q
  · rw [setV_other hc]; rw [up_other' hc] at q
    obtain ⟨A, c, h1, h2⟩ := h.rc q
    exact ⟨A, c, h1, Kd.R_below h2 hb⟩
theorem gt_run {N : Tmp} {oi : Oper} (k : Nat) (v : Value) (hLo : TOk T) (hoi : ops[i]? = some oi) (hN : oi.dst = some N) (hT : T[k]? = some (i, N)) (hg : ∀ V b, Region.wanted oi (yielded ops (act a0 T V b).tmps) = true) (hv : val[i]? = some (some v)) (hd : dep[i]? = some none) (hc : Nat.beq i cv = false)
    (h : ∀ V b w, GT wE val dep cv rs nn ok g n f0 t V b w → b i = false → Ons B O i b → Offs B O i b → (execOp (act a0 T V b).eval oi).run P w = .ok (.value v) w) : StepAt P ops Q B O (CI a0 T (GT wE val dep cv rs nn ok g n f0 t)) i :=
  ci_run k hLo hoi hN hT hg (fun V b w hF hbi hon hoff => ⟨v, w, h V b w hF hbi hon hoff, hF.step (Below.refl _ w) (fun u hu => by rw [hv] at hu; exact Option.some.inj (Option.some.inj hu)) (fun k hk => by rw [hd] at hk; cases hk) hc⟩)
theorem gt_dep {N : Tmp} {oi : Oper} (k m : Nat) (hLo : TOk T) (hoi : ops[i]? = some oi) (hN : oi.dst = some N) (hT : T[k]? = some (i, N)) (hg : ∀ V b, Region.wanted oi (yielded ops (act a0 T V b).tmps) = true) (hv : val[i]? = some none) (hd : dep[i]? = some (some m)) (hc : Nat.beq i cv = false)
    (h : ∀ V b w, GT wE val dep cv rs nn ok g n f0 t V b w → b i = false → Ons B O i b → Offs B O i b → (execOp (act a0 T V b).eval oi).run P w = .ok (.value (nthV m (V cv))) w) : StepAt P ops Q B O (CI a0 T (GT wE val dep cv rs nn ok g n f0 t)) i :=
  ci_run k hLo hoi hN hT hg (fun V b w hF hbi hon hoff => ⟨_, w, h V b w hF hbi hon hoff, hF.step (Below.refl _ w) (fun u hu => by rw [hv] at hu; cases hu) (fun k hk => by rw [hd] at hk; cases hk; rfl) hc⟩)
theorem gt_call {N : Tmp} {oi : Oper} {f : FuncId} {fn : Func} {asx : Array Operand} {ts : Array TypeId} (k : Nat) (hLo : TOk T) (hoi : ops[i]? = some oi) (hN : oi.dst = some N) (hT : T[k]? = some (i, N)) (hop : oi.op = .call { callee := .value (.func f), args := asx, argTypes := ts }) (hg : ∀ V b, Region.wanted oi (yielded ops (act a0 T V b).tmps) = true) (hv : val[i]? = some none) (hd : dep[i]? = some none) (hc : Nat.beq i cv = true)
    (hdep : ∀ j k b, dep[j]? = some (some k) → Offs B O i b → j ≠ i → b j = false)
    (hf : P.funcs[f]? = some fn) (hname : (fn.name == "runtime.NumGoroutine") = false) (hbd : fn.body.isSome = true)
    (h : ∀ V b w, GT wE val dep cv rs nn ok g n f0 t V b w → b i = false → Ons B O i b → Offs B O i b → ∃ args, asx.map (act a0 T V b).eval = args ∧ Calls P f args w fun e w' => (∃ A c, e = .returned (.tuple #[.slice A rs.length c, .int .i64 nn, .bool ok]) ∧ TX w' w.heap.size (.slice A rs.length c) rs) ∧ Below w.heap.size w w') : StepAt P ops Q B O (CI a0 T (GT wE val dep cv rs nn ok g n f0 t)) i :=
  ci_call k hLo hoi hN hT hop hg hf hname hbd (fun V b w hF hbi hon hoff => by
    obtain ⟨args, ha, hcall⟩ := h V b w hF hbi hon hoff
    obtain rfl : i = cv := Nat.eq_of_beq_eq_true hc
    refine ⟨args, ha, hcall.mono ?_⟩
    rintro e w' ⟨⟨A, c, rfl, hT2⟩, hb⟩
    refine ⟨_, rfl, hF.fr.call hb, hF.fresh, hF.row.below hb hF.row.lt, fun j u hj q => ?_, fun j m hj q => ?_, fun _ => ⟨A, c, setV_self, Kd.R_lower hT2 hF.fr.size⟩⟩
    · have e : j ≠ i := fun e => by rw [e, hv] at hj; cases hj
      rw [setV_other e]; rw [up_other' e] at q; exact hF.vs j u hj q
    · have e : j ≠ i := fun e => by rw [e, hd] at hj; cases hj
      rw [up_other' e] at q
      rw [hdep j m b hj hoff e] at q
      cases q)
end
theorem run_ext (m : Nat) (hm : m < 3) {A : Option Addr} {l c : Nat} {nn : Int} {ok : Bool} (w : World) {P : Program} : (Instr.extract (.tuple #[.slice A l c, .int .i64 nn, .bool ok]) m).run P w = .ok (nthV m (.tuple #[.slice A l c, .int .i64 nn, .bool ok])) w := by
  have h : m = 0 ∨ m = 1 ∨ m = 2 := by omega
  rcases h with rfl | rfl | rfl <;> rfl
theorem fr_join2 {w W W2 : World} {g n : Nat} {f : Nat → SC} {t : TypeId} (hr : Row w g () n f t) (h : Fr ⟨w, [g]⟩ W) (k : Fr ⟨W, [g]⟩ W2) : Fr ⟨w, [g]⟩ W2 := h.join k fun z hz => .inr hz
theorem dep_off {B O : List Nat} {i : Nat} {dep : List (Option Nat)} (hc : ((List.range dep.length).all fun j => (dep[j]? == some none) || ((B.getD j 0).testBit i && O.contains j)) = true) (j k : Nat) (b : Nat → Bool) (hd : dep[j]? = some (some k)) (hoff : Offs B O i b) (hne : j ≠ i) : b j = false := by
  have hj := (List.getElem?_eq_some_iff.1 hd).1
  have h := List.all_eq_true.1 hc j (List.mem_range.2 hj)
  rw [hd] at h
  refine hoff j ?_
  rw [Bool.and_comm]
  simpa using h
theorem dep_ext {P : Program} {wE : WX} {val : List (Option Value)} {dep : List (Option Nat)} {cv : Nat} {rs : List ByteArray} {nn : Int} {ok : Bool} {g n : Nat} {f0 : Nat → SC} {t : TypeId} {V : Nat → Value} {b : Nat → Bool} {w : World} {oi : Oper} {ev : Operand → Value} {x : Operand} (hF : GT wE val dep cv rs nn ok g n f0 t V b w) (m : Nat) (hm : m < 3) (ho : oi.op = .extract x m) (hx : ev x = nthV 3 (V cv)) (hcv : b cv = true) : (execOp ev oi).run P w = .ok (.value (nthV m (V cv))) w := by
  obtain ⟨A, c, hv, _⟩ := hF.rc hcv
  rw [hv] at hx ⊢
  exact exec_extract ho hx (run_ext m hm w)
theorem tabxmno3 : rtab .any (opsOf Try.f26 3) = (true, [([], []), ([0], [0]), ([1], [1]), ([2], [2]), ([], []), ([4], [4]), ([5], [5]), ([6], [6]), ([3, 7], [3, 7]), ([8], [8]), ([9], [9]), ([10], [10]), ([10], [10]), ([10], [10]), ([11, 9, 0, 1, 2, 3, 4, 5, 6, 7, 8, 9, 10, 11], [11]), ([12, 14, 0, 1, 2, 3, 4, 5, 6, 7, 8, 9, 10, 11, 12, 14], [12]), ([13, 15, 0, 1, 2, 3, 4, 5, 6, 7, 8, 9, 10, 11, 12, 13, 14, 15], [13])]) := by kernel_rfl
theorem bitsxmno3 : waitsOk [([], []), ([0], [0]), ([1], [1]), ([2], [2]), ([], []), ([4], [4]), ([5], [5]), ([6], [6]), ([3, 7], [3, 7]), ([8], [8]), ([9], [9]), ([10], [10]), ([10], [10]), ([10], [10]), ([11, 9, 0, 1, 2, 3, 4, 5, 6, 7, 8, 9, 10, 11], [11]), ([12, 14, 0, 1, 2, 3, 4, 5, 6, 7, 8, 9, 10, 11, 12, 14], [12]), ([13, 15, 0, 1, 2, 3, 4, 5, 6, 7, 8, 9, 10, 11, 12, 13, 14, 15], [13])] [0, 1, 3, 7, 0, 16, 48, 112, 255, 511, 1023, 2047, 2047, 2047, 4095, 24575, 65535] = true := by kernel_rfl
theorem tabxmlo3 : rtab .any (opsOf Try.f26 3) = (true, [([], []), ([0], [0]), ([1], [1]), ([2], [2]), ([], []), ([4], [4]), ([5], [5]), ([6], [6]), ([3, 7], [3, 7]), ([8], [8]), ([9], [9]), ([10], [10]), ([10], [10]), ([10], [10]), ([11, 9, 0, 1, 2, 3, 4, 5, 6, 7, 8, 9, 10, 11], [11]), ([12, 14, 0, 1, 2, 3, 4, 5, 6, 7, 8, 9, 10, 11, 12, 14], [12]), ([13, 15, 0, 1, 2, 3, 4, 5, 6, 7, 8, 9, 10, 11, 12, 13, 14, 15], [13])]) := by kernel_rfl
theorem bitsxmlo3 : waitsOk [([], []), ([0], [0]), ([1], [1]), ([2], [2]), ([], []), ([4], [4]), ([5], [5]), ([6], [6]), ([3, 7], [3, 7]), ([8], [8]), ([9], [9]), ([10], [10]), ([10], [10]), ([10], [10]), ([11, 9, 0, 1, 2, 3, 4, 5, 6, 7, 8, 9, 10, 11], [11]), ([12, 14, 0, 1, 2, 3, 4, 5, 6, 7, 8, 9, 10, 11, 12, 14], [12]), ([13, 15, 0, 1, 2, 3, 4, 5, 6, 7, 8, 9, 10, 11, 12, 13, 14, 15], [13])] [0, 1, 3, 7, 0, 16, 48, 112, 255, 511, 1023, 2047, 2047, 2047, 4095, 24575, 65535] = true := by kernel_rfl
theorem tabxmhi3 : rtab .any (opsOf Try.f26 3) = (true, [([], []), ([0], [0]), ([1], [1]), ([2], [2]), ([], []), ([4], [4]), ([5], [5]), ([6], [6]), ([3, 7], [3, 7]), ([8], [8]), ([9], [9]), ([10], [10]), ([10], [10]), ([10], [10]), ([11, 9, 0, 1, 2, 3, 4, 5, 6, 7, 8, 9, 10, 11], [11]), ([12, 14, 0, 1, 2, 3, 4, 5, 6, 7, 8, 9, 10, 11, 12, 14], [12]), ([13, 15, 0, 1, 2, 3, 4, 5, 6, 7, 8, 9, 10, 11, 12, 13, 14, 15], [13])]) := by kernel_rfl
theorem bitsxmhi3 : waitsOk [([], []), ([0], [0]), ([1], [1]), ([2], [2]), ([], []), ([4], [4]), ([5], [5]), ([6], [6]), ([3, 7], [3, 7]), ([8], [8]), ([9], [9]), ([10], [10]), ([10], [10]), ([10], [10]), ([11, 9, 0, 1, 2, 3, 4, 5, 6, 7, 8, 9, 10, 11], [11]), ([12, 14, 0, 1, 2, 3, 4, 5, 6, 7, 8, 9, 10, 11, 12, 14], [12]), ([13, 15, 0, 1, 2, 3, 4, 5, 6, 7, 8, 9, 10, 11, 12, 13, 14, 15], [13])] [0, 1, 3, 7, 0, 16, 48, 112, 255, 511, 1023, 2047, 2047, 2047, 4095, 24575, 65535] = true := by kernel_rfl
theorem tabxmhi9 : rtab .any (opsOf Try.f26 9) = (true, [([], []), ([], []), ([1], [1]), ([2], [2]), ([3], [3]), ([], []), ([], []), ([6], [6]), ([7], [7]), ([8], [8]), ([9], [9]), ([5, 10], [5, 10]), ([4, 11], [4, 11]), ([0, 0, 1, 2, 3, 4, 5, 6, 7, 8, 9, 10, 11, 12], [0]), ([13, 0, 1, 2, 3, 4, 5, 6, 7, 8, 9, 10, 11, 12], [13]), ([14, 12, 0, 1, 2, 3, 4, 5, 6, 7, 8, 9, 10, 11, 12], [12, 14])]) := by kernel_rfl
theorem bitsxmhi9 : waitsOk [([], []), ([], []), ([1], [1]), ([2], [2]), ([3], [3]), ([], []), ([], []), ([6], [6]), ([7], [7]), ([8], [8]), ([9], [9]), ([5, 10], [5, 10]), ([4, 11], [4, 11]), ([0, 0, 1, 2, 3, 4, 5, 6, 7, 8, 9, 10, 11, 12], [0]), ([13, 0, 1, 2, 3, 4, 5, 6, 7, 8, 9, 10, 11, 12], [13]), ([14, 12, 0, 1, 2, 3, 4, 5, 6, 7, 8, 9, 10, 11, 12], [12, 14])] [0, 0, 2, 6, 14, 0, 0, 64, 192, 448, 960, 2016, 4094, 8191, 16383, 32767] = true := by kernel_rfl
theorem ropen_off {w : World} {g : Nat} {safe waits : ByteArray} {acts inn : Nat} {keep : Int} (hr : Row w g () 6 (rpC ⟨safe, waits, false, acts, inn, keep⟩) 51) : Calls Try.prog 26 #[.pointer (some ⟨g, 0, none⟩)] w fun e w' => e = .returned (.tuple #[.slice none 0 0, .int .i64 50]) ∧ Row w' g () 6 (rpC ⟨safe, waits, false, acts, inn, keep⟩) 51 ∧ Fr ⟨w, [g]⟩ w' := by
  have hF0 := Fr.refl w [g]
  have hgl := hr.lt
  refine enter_ 63 Try.func26 rfl rfl (fun a0 hS => ?_)
  have HS0 : Sl a0 63 [(0, .pointer (some ⟨g, 0, none⟩))] := hS
  have HH0 : Held ⟨w, [g]⟩ w [⟨g, (), 6, rpC ⟨safe, waits, false, acts, inn, keep⟩, 51⟩] := Held.one hr
  clear hS
  refine wp_seq ?_
  have hLo : LOk [(0, 2, .val (.slice (none) (0) (0))), (1, 3, .val (.int .i64 (0)))] := lok (by rfl) (by rfl)
  refine plain_ (wE := ⟨w, [g]⟩) (sz := 63) (n := 2) [0, 1] [(0, .val (.pointer (some ⟨g, 0, none⟩))), (2, .val (.slice (none) (0) (0))), (3, .val (.int .i64 (0)))] [(0, 2, .val (.slice (none) (0) (0))), (1, 3, .val (.int .i64 (0)))] [⟨g, none, none, (), 6, rpC ⟨safe, waits, false, acts, inn, keep⟩, rpC ⟨safe, waits, false, acts, inn, keep⟩, 51⟩] rfl (by rfl) HH0 rfl rfl hLo rfl HS0 (slS 0 rfl rfl (slL 0 (d := 0) rfl (slL 1 (d := 1) rfl (trivial)))) ?_ ?_
  · show ∀ i ∈ [0, 1], _
    refine steps_cons (st_run 0 _ rfl rfl hLo rfl rfl (fun _ _ _ _ => rfl) (fun b G w hb ho => exec_move (.inr rfl) (rfl))) ?_
    refine steps_cons (st_run 1 _ rfl rfl hLo rfl rfl (fun _ _ _ _ => rfl) (fun b G w hb ho => exec_move (.inr rfl) (rfl))) ?_
    exact steps_nil
  clear hLo
  intro G a1 w1 hS hH
  have HS1 : Sl a1 63 [(0, .pointer (some ⟨g, 0, none⟩)), (2, .slice (none) (0) (0)), (3, .int .i64 (0))] := hS
  have HH1 : Held ⟨w, [g]⟩ w1 [⟨g, (), 6, rpC ⟨safe, waits, false, acts, inn, keep⟩, 51⟩] := hH
  clear hS hH HS0 HH0
  refine then_ ?_
  refine wp_seq ?_
  refine wp_seq ?_
  have hLo : LOk [(0, 7, .val (.pointer (some ⟨g, 0, none⟩))), (1, 8, .val (.pointer (some ⟨g, 0, none⟩))), (2, 9, .val (.pointer (some ⟨g, 2, none⟩))), (3, 10, .val (.bool false)), (4, 11, .val (.bool true))] := lok (by rfl) (by rfl)
  refine plain_ (wE := ⟨w, [g]⟩) (sz := 63) (n := 5) [0, 1, 3, 7, 15] [(0, .val (.pointer (some ⟨g, 0, none⟩))), (2, .val (.slice (none) (0) (0))), (3, .val (.int .i64 (0))), (11, .val (.bool true))] [(0, 7, .val (.pointer (some ⟨g, 0, none⟩))), (1, 8, .val (.pointer (some ⟨g, 0, none⟩))), (2, 9, .val (.pointer (some ⟨g, 2, none⟩))), (3, 10, .val (.bool false)), (4, 11, .val (.bool true))] [⟨g, none, none, (), 6, rpC ⟨safe, waits, false, acts, inn, keep⟩, rpC ⟨safe, waits, false, acts, inn, keep⟩, 51⟩] rfl (by rfl) HH1 rfl rfl hLo rfl HS1 (slS 0 rfl rfl (slS 1 rfl rfl (slS 2 rfl rfl (slL 4 (d := 4) rfl (trivial))))) ?_ ?_
  · show ∀ i ∈ [0, 1, 2, 3, 4], _
    refine steps_cons (st_run 0 _ rfl rfl hLo rfl rfl (fun _ _ _ _ => rfl) (fun b G w hb ho => exec_move (.inl rfl) (ev_off rfl (HS1.get 0 rfl)))) ?_
    refine steps_cons (st_run 1 _ rfl rfl hLo rfl rfl (fun _ _ _ _ => rfl) (fun b G w hb ho => exec_nil rfl (ev_on hLo 0 rfl HS1.1 rfl (hb 0 (by rfl))))) ?_
    refine steps_cons (st_run 2 _ rfl rfl hLo rfl rfl (fun _ _ _ _ => rfl) (fun b G w hb ho => exec_field rfl (ev_on hLo 1 rfl HS1.1 rfl (hb 1 (by rfl))) (by kernel_rfl))) ?_
    refine steps_cons (st_read 3 0 _ _ rfl rfl rfl hLo rfl rfl (fun _ _ _ _ => rfl) (by rfl) (by rfl) (fun b G w hb ho hr => exec_cell hr (Nat.le_of_ble_eq_true rfl) Try.underlying4 rfl rfl (ev_on hLo 2 rfl HS1.1 rfl (hb 2 (by rfl))))) ?_
    refine steps_cons (st_run 4 _ rfl rfl hLo rfl rfl (fun _ _ _ _ => rfl) (fun b G w hb ho => exec_un rfl (ev_on hLo 3 rfl HS1.1 rfl (hb 3 (by rfl))) (ru_not _))) ?_
    exact steps_nil
  clear hLo
  intro G a2 w2 hS hH
  have HS2 : Sl a2 63 [(0, .pointer (some ⟨g, 0, none⟩)), (2, .slice (none) (0) (0)), (3, .int .i64 (0)), (11, .bool true)] := hS
  have HH2 : Held ⟨w, [g]⟩ w2 [⟨g, (), 6, rpC ⟨safe, waits, false, acts, inn, keep⟩, 51⟩] := hH
  clear hS hH HS1 HH1
  refine then_ ?_
  refine wp_cond_true (HS2.get 3 rfl) ?_
  refine wp_seq ?_
  have hLo : LOk [(0, 2, .val (.slice (none) (0) (0))), (1, 3, .val (.int .i64 (50)))] := lok (by rfl) (by rfl)
  refine plain_ (wE := ⟨w, [g]⟩) (sz := 63) (n := 2) [0, 1] [(0, .val (.pointer (some ⟨g, 0, none⟩))), (11, .val (.bool true)), (2, .val (.slice (none) (0) (0))), (3, .val (.int .i64 (50)))] [(0, 2, .val (.slice (none) (0) (0))), (1, 3, .val (.int .i64 (50)))] [⟨g, none, none, (), 6, rpC ⟨safe, waits, false, acts, inn, keep⟩, rpC ⟨safe, waits, false, acts, inn, keep⟩, 51⟩] rfl (by rfl) HH2 rfl rfl hLo rfl HS2 (slS 0 rfl rfl (slS 3 rfl rfl (slL 0 (d := 0) rfl (slL 1 (d := 1) rfl (trivial))))) ?_ ?_
  · show ∀ i ∈ [0, 1], _
    refine steps_cons (st_run 0 _ rfl rfl hLo rfl rfl (fun _ _ _ _ => rfl) (fun b G w hb ho => exec_move (.inr rfl) (rfl))) ?_
    refine steps_cons (st_run 1 _ rfl rfl hLo rfl rfl (fun _ _ _ _ => rfl) (fun b G w hb ho => exec_move (.inr rfl) (rfl))) ?_
    exact steps_nil
  clear hLo
  intro G a3 w3 hS hH
  have HS3 : Sl a3 63 [(0, .pointer (some ⟨g, 0, none⟩)), (11, .bool true), (2, .slice (none) (0) (0)), (3, .int .i64 (50))] := hS
  have HH3 : Held ⟨w, [g]⟩ w3 [⟨g, (), 6, rpC ⟨safe, waits, false, acts, inn, keep⟩, 51⟩] := hH
  clear hS hH HS2 HH2
  refine then_ ?_
  refine wp_ret ?_
  repeat (first | refine then_ret ?_ | refine inBlock_ret' ?_)
  exact b_tmp2 rfl HS3.2.1 (HS3.get 2 rfl) (HS3.get 3 rfl) ⟨rfl, Row.norm (HH3.row 0 rfl) (six ⟨rfl, rfl, rfl, rfl, rfl, rfl⟩), HH3.1⟩
theorem ropen_none {w : World} {g : Nat} {safe waits : ByteArray} {acts inn : Nat} {keep : Int} {ls : List ByteArray} {tl : ByteArray} (hr : Row w g () 6 (rpC ⟨safe, waits, true, acts, inn, keep⟩) 51) (hC : Cuts (safe ++ waits) ls tl) (hsw : safe.size + waits.size ≤ 4194304) (hrec : recs ls = none) : Calls Try.prog 26 #[.pointer (some ⟨g, 0, none⟩)] w fun e w' => e = .returned (.tuple #[.slice none 0 0, .int .i64 4]) ∧ Row w' g () 6 (rpC ⟨safe, waits, true, acts, inn, keep⟩) 51 ∧ Fr ⟨w, [g]⟩ w' := by
  have hal : (safe ++ waits).size ≤ 4194304 := by rw [ByteArray.size_append]; exact hsw
  have hcl : (cat ls).size ≤ (safe ++ waits).size := by rw [hC.eq, ByteArray.size_append]; omega
  rw [ByteArray.size_append] at hcl
  have hF0 := Fr.refl w [g]
  have hgl := hr.lt
  refine enter_ 63 Try.func26 rfl rfl (fun a0 hS => ?_)
  have HS0 : Sl a0 63 [(0, .pointer (some ⟨g, 0, none⟩))] := hS
  have HH0 : Held ⟨w, [g]⟩ w [⟨g, (), 6, rpC ⟨safe, waits, true, acts, inn, keep⟩, 51⟩] := Held.one hr
  clear hS
  refine wp_seq ?_
  have hLo : LOk [(0, 2, .val (.slice (none) (0) (0))), (1, 3, .val (.int .i64 (0)))] := lok (by rfl) (by rfl)
  refine plain_ (wE := ⟨w, [g]⟩) (sz := 63) (n := 2) [0, 1] [(0, .val (.pointer (some ⟨g, 0, none⟩))), (2, .val (.slice (none) (0) (0))), (3, .val (.int .i64 (0)))] [(0, 2, .val (.slice (none) (0) (0))), (1, 3, .val (.int .i64 (0)))] [⟨g, none, none, (), 6, rpC ⟨safe, waits, true, acts, inn, keep⟩, rpC ⟨safe, waits, true, acts, inn, keep⟩, 51⟩] rfl (by rfl) HH0 rfl rfl hLo rfl HS0 (slS 0 rfl rfl (slL 0 (d := 0) rfl (slL 1 (d := 1) rfl (trivial)))) ?_ ?_
  · show ∀ i ∈ [0, 1], _
    refine steps_cons (st_run 0 _ rfl rfl hLo rfl rfl (fun _ _ _ _ => rfl) (fun b G w hb ho => exec_move (.inr rfl) (rfl))) ?_
    refine steps_cons (st_run 1 _ rfl rfl hLo rfl rfl (fun _ _ _ _ => rfl) (fun b G w hb ho => exec_move (.inr rfl) (rfl))) ?_
    exact steps_nil
  clear hLo
  intro G a1 w1 hS hH
  have HS1 : Sl a1 63 [(0, .pointer (some ⟨g, 0, none⟩)), (2, .slice (none) (0) (0)), (3, .int .i64 (0))] := hS
  have HH1 : Held ⟨w, [g]⟩ w1 [⟨g, (), 6, rpC ⟨safe, waits, true, acts, inn, keep⟩, 51⟩] := hH
  clear hS hH HS0 HH0
  refine then_ ?_
  refine wp_seq ?_
  refine wp_seq ?_
  have hLo : LOk [(0, 7, .val (.pointer (some ⟨g, 0, none⟩))), (1, 8, .val (.pointer (some ⟨g, 0, none⟩))), (2, 9, .val (.pointer (some ⟨g, 2, none⟩))), (3, 10, .val (.bool true)), (4, 11, .val (.bool false))] := lok (by rfl) (by rfl)
  refine plain_ (wE := ⟨w, [g]⟩) (sz := 63) (n := 5) [0, 1, 3, 7, 15] [(0, .val (.pointer (some ⟨g, 0, none⟩))), (2, .val (.slice (none) (0) (0))), (3, .val (.int .i64 (0))), (11, .val (.bool false))] [(0, 7, .val (.pointer (some ⟨g, 0, none⟩))), (1, 8, .val (.pointer (some ⟨g, 0, none⟩))), (2, 9, .val (.pointer (some ⟨g, 2, none⟩))), (3, 10, .val (.bool true)), (4, 11, .val (.bool false))] [⟨g, none, none, (), 6, rpC ⟨safe, waits, true, acts, inn, keep⟩, rpC ⟨safe, waits, true, acts, inn, keep⟩, 51⟩] rfl (by rfl) HH1 rfl rfl hLo rfl HS1 (slS 0 rfl rfl (slS 1 rfl rfl (slS 2 rfl rfl (slL 4 (d := 4) rfl (trivial))))) ?_ ?_
  · show ∀ i ∈ [0, 1, 2, 3, 4], _
    refine steps_cons (st_run 0 _ rfl rfl hLo rfl rfl (fun _ _ _ _ => rfl) (fun b G w hb ho => exec_move (.inl rfl) (ev_off rfl (HS1.get 0 rfl)))) ?_
    refine steps_cons (st_run 1 _ rfl rfl hLo rfl rfl (fun _ _ _ _ => rfl) (fun b G w hb ho => exec_nil rfl (ev_on hLo 0 rfl HS1.1 rfl (hb 0 (by rfl))))) ?_
    refine steps_cons (st_run 2 _ rfl rfl hLo rfl rfl (fun _ _ _ _ => rfl) (fun b G w hb ho => exec_field rfl (ev_on hLo 1 rfl HS1.1 rfl (hb 1 (by rfl))) (by kernel_rfl))) ?_
    refine steps_cons (st_read 3 0 _ _ rfl rfl rfl hLo rfl rfl (fun _ _ _ _ => rfl) (by rfl) (by rfl) (fun b G w hb ho hr => exec_cell hr (Nat.le_of_ble_eq_true rfl) Try.underlying4 rfl rfl (ev_on hLo 2 rfl HS1.1 rfl (hb 2 (by rfl))))) ?_
    refine steps_cons (st_run 4 _ rfl rfl hLo rfl rfl (fun _ _ _ _ => rfl) (fun b G w hb ho => exec_un rfl (ev_on hLo 3 rfl HS1.1 rfl (hb 3 (by rfl))) (ru_not _))) ?_
    exact steps_nil
  clear hLo
  intro G a2 w2 hS hH
  have HS2 : Sl a2 63 [(0, .pointer (some ⟨g, 0, none⟩)), (2, .slice (none) (0) (0)), (3, .int .i64 (0)), (11, .bool false)] := hS
  have HH2 : Held ⟨w, [g]⟩ w2 [⟨g, (), 6, rpC ⟨safe, waits, true, acts, inn, keep⟩, 51⟩] := hH
  clear hS hH HS1 HH1
  refine then_ ?_
  refine wp_cond_false (HS2.get 3 rfl) ?_
  refine wp_skip ?_
  refine then_ ?_
  refine wp_seq ?_
  refine regionF_ (sz := 63) (n := 17) (B := [0, 1, 3, 7, 0, 16, 48, 112, 255, 511, 1023, 2047, 2047, 2047, 4095, 24575, 65535]) [0, 1, 2, 3, 4, 5, 6, 7, 8, 9, 10, 11, 12, 13, 14, 15, 16] [(0, 13), (1, 14), (2, 15), (3, 16), (4, 17), (5, 18), (6, 19), (7, 20), (8, 21), (9, 22), (10, 12), (11, 23), (12, 24), (13, 25), (14, 4), (15, 5), (16, 6)] (GT ⟨w, [g]⟩ [some (.pointer (some ⟨g, 0, none⟩)), some (.pointer (some ⟨g, 0, none⟩)), some (.pointer (some ⟨g, 0, none⟩)), some (.string safe), some (.pointer (some ⟨g, 0, none⟩)), some (.pointer (some ⟨g, 0, none⟩)), some (.pointer (some ⟨g, 1, none⟩)), some (.string waits), some (.string (safe ++ waits)), none, none, none, none, none, none, none, none] [none, none, none, none, none, none, none, none, none, none, some 3, some 0, some 1, some 2, some 0, some 1, some 2] 9 ([] : List ByteArray) 0 false g 6 (rpC ⟨safe, waits, true, acts, inn, keep⟩) 51) (by rfl) rfl tabxmno3 bitsxmno3 (by kernel_rfl) (by kernel_rfl) (by rfl) ⟨rfl, rfl⟩ HS2 (fun V => GT.first V HH2) ?_ ?_
  · show ∀ i ∈ [0, 1, 2, 3, 4, 5, 6, 7, 8, 9, 10, 11, 12, 13, 14, 15, 16], _
    refine steps_cons (gt_run 0 _ ⟨rfl, rfl⟩ rfl rfl rfl (fun _ _ => rfl) rfl rfl rfl (fun V b w hF hbi hon hoff => exec_move (.inl rfl) (cf_off rfl (HS2.get 0 rfl)))) ?_
    refine steps_cons (gt_run 1 _ ⟨rfl, rfl⟩ rfl rfl rfl (fun _ _ => rfl) rfl rfl rfl (fun V b w hF hbi hon hoff => exec_nil rfl ((cf_on ⟨rfl, rfl⟩ 0 rfl HS2.1 rfl (hon 0 (by rfl))).trans (hF.vs 0 _ rfl (hon 0 (by rfl)))))) ?_
    refine steps_cons (gt_run 2 _ ⟨rfl, rfl⟩ rfl rfl rfl (fun _ _ => rfl) rfl rfl rfl (fun V b w hF hbi hon hoff => exec_field rfl ((cf_on ⟨rfl, rfl⟩ 1 rfl HS2.1 rfl (hon 1 (by rfl))).trans (hF.vs 1 _ rfl (hon 1 (by rfl)))) (by kernel_rfl))) ?_
    refine steps_cons (gt_run 3 _ ⟨rfl, rfl⟩ rfl rfl rfl (fun _ _ => rfl) rfl rfl rfl (fun V b w hF hbi hon hoff => exec_cell hF.row (Nat.le_of_ble_eq_true rfl) Try.underlying9 rfl rfl ((cf_on ⟨rfl, rfl⟩ 2 rfl HS2.1 rfl (hon 2 (by rfl))).trans (hF.vs 2 _ rfl (hon 2 (by rfl)))))) ?_
    refine steps_cons (gt_run 4 _ ⟨rfl, rfl⟩ rfl rfl rfl (fun _ _ => rfl) rfl rfl rfl (fun V b w hF hbi hon hoff => exec_move (.inl rfl) (cf_off rfl (HS2.get 0 rfl)))) ?_
    refine steps_cons (gt_run 5 _ ⟨rfl, rfl⟩ rfl rfl rfl (fun _ _ => rfl) rfl rfl rfl (fun V b w hF hbi hon hoff => exec_nil rfl ((cf_on ⟨rfl, rfl⟩ 4 rfl HS2.1 rfl (hon 4 (by rfl))).trans (hF.vs 4 _ rfl (hon 4 (by rfl)))))) ?_
    refine steps_cons (gt_run 6 _ ⟨rfl, rfl⟩ rfl rfl rfl (fun _ _ => rfl) rfl rfl rfl (fun V b w hF hbi hon hoff => exec_field rfl ((cf_on ⟨rfl, rfl⟩ 5 rfl HS2.1 rfl (hon 5 (by rfl))).trans (hF.vs 5 _ rfl (hon 5 (by rfl)))) (by kernel_rfl))) ?_
    refine steps_cons (gt_run 7 _ ⟨rfl, rfl⟩ rfl rfl rfl (fun _ _ => rfl) rfl rfl rfl (fun V b w hF hbi hon hoff => exec_cell hF.row (Nat.le_of_ble_eq_true rfl) Try.underlying9 rfl rfl ((cf_on ⟨rfl, rfl⟩ 6 rfl HS2.1 rfl (hon 6 (by rfl))).trans (hF.vs 6 _ rfl (hon 6 (by rfl)))))) ?_
    refine steps_cons (gt_run 8 _ ⟨rfl, rfl⟩ rfl rfl rfl (fun _ _ => rfl) rfl rfl rfl (fun V b w hF hbi hon hoff => exec_bin rfl ((cf_on ⟨rfl, rfl⟩ 3 rfl HS2.1 rfl (hon 3 (by rfl))).trans (hF.vs 3 _ rfl (hon 3 (by rfl)))) ((cf_on ⟨rfl, rfl⟩ 7 rfl HS2.1 rfl (hon 7 (by rfl))).trans (hF.vs 7 _ rfl (hon 7 (by rfl)))) (rb_sadd (by omega) _ _ _))) ?_
    refine steps_cons (gt_call 9 ⟨rfl, rfl⟩ rfl rfl rfl rfl (fun _ _ => rfl) rfl rfl rfl (dep_off (by rfl)) Try.func11 rfl rfl (fun V b w hF hbi hon hoff => ⟨_, args1 ((cf_on ⟨rfl, rfl⟩ 8 rfl HS2.1 rfl (hon 8 (by rfl))).trans (hF.vs 8 _ rfl (hon 8 (by rfl)))), records_none hC (by omega) hrec⟩)) ?_
    refine steps_cons (gt_dep 10 3 ⟨rfl, rfl⟩ rfl rfl rfl (fun _ _ => rfl) rfl rfl rfl (fun V b w hF hbi hon hoff => exec_move (.inl rfl) (cf_on ⟨rfl, rfl⟩ 9 rfl HS2.1 rfl (hon 9 (by rfl))))) ?_
    refine steps_cons (gt_dep 11 0 ⟨rfl, rfl⟩ rfl rfl rfl (fun _ _ => rfl) rfl rfl rfl (fun V b w hF hbi hon hoff => dep_ext hF 0 (by decide) rfl ((cf_on ⟨rfl, rfl⟩ 10 rfl HS2.1 rfl (hon 10 (by rfl))).trans (hF.ds 10 _ rfl (hon 10 (by rfl)))) (hon 9 (by rfl)))) ?_
    refine steps_cons (gt_dep 12 1 ⟨rfl, rfl⟩ rfl rfl rfl (fun _ _ => rfl) rfl rfl rfl (fun V b w hF hbi hon hoff => dep_ext hF 1 (by decide) rfl ((cf_on ⟨rfl, rfl⟩ 10 rfl HS2.1 rfl (hon 10 (by rfl))).trans (hF.ds 10 _ rfl (hon 10 (by rfl)))) (hon 9 (by rfl)))) ?_
    refine steps_cons (gt_dep 13 2 ⟨rfl, rfl⟩ rfl rfl rfl (fun _ _ => rfl) rfl rfl rfl (fun V b w hF hbi hon hoff => dep_ext hF 2 (by decide) rfl ((cf_on ⟨rfl, rfl⟩ 10 rfl HS2.1 rfl (hon 10 (by rfl))).trans (hF.ds 10 _ rfl (hon 10 (by rfl)))) (hon 9 (by rfl)))) ?_
    refine steps_cons (gt_dep 14 0 ⟨rfl, rfl⟩ rfl rfl rfl (fun _ _ => rfl) rfl rfl rfl (fun V b w hF hbi hon hoff => exec_move (.inr rfl) ((cf_on ⟨rfl, rfl⟩ 11 rfl HS2.1 rfl (hon 11 (by rfl))).trans (hF.ds 11 _ rfl (hon 11 (by rfl)))))) ?_
    refine steps_cons (gt_dep 15 1 ⟨rfl, rfl⟩ rfl rfl rfl (fun _ _ => rfl) rfl rfl rfl (fun V b w hF hbi hon hoff => exec_move (.inr rfl) ((cf_on ⟨rfl, rfl⟩ 12 rfl HS2.1 rfl (hon 12 (by rfl))).trans (hF.ds 12 _ rfl (hon 12 (by rfl)))))) ?_
    refine steps_cons (gt_dep 16 2 ⟨rfl, rfl⟩ rfl rfl rfl (fun _ _ => rfl) rfl rfl rfl (fun V b w hF hbi hon hoff => exec_move (.inr rfl) ((cf_on ⟨rfl, rfl⟩ 13 rfl HS2.1 rfl (hon 13 (by rfl))).trans (hF.ds 13 _ rfl (hon 13 (by rfl)))))) ?_
    exact steps_nil
  intro V b3 a3 w3 hall hF hS
  obtain ⟨A3, c3, hV3, hT3⟩ := hF.rc (hall 9 rfl)
  have hv10 := hF.ds 10 _ rfl (hall 10 rfl)
  rw [hV3] at hv10
  have hv11 := hF.ds 11 _ rfl (hall 11 rfl)
  rw [hV3] at hv11
  have hv12 := hF.ds 12 _ rfl (hall 12 rfl)
  rw [hV3] at hv12
  have hv13 := hF.ds 13 _ rfl (hall 13 rfl)
  rw [hV3] at hv13
  have hv14 := hF.ds 14 _ rfl (hall 14 rfl)
  rw [hV3] at hv14
  have hv15 := hF.ds 15 _ rfl (hall 15 rfl)
  rw [hV3] at hv15
  have hv16 := hF.ds 16 _ rfl (hall 16 rfl)
  rw [hV3] at hv16
  have hSx := sl_keep (S' := [(4, V 14), (5, V 15), (6, V 16), (0, .pointer (some ⟨g, 0, none⟩)), (2, .slice (none) (0) (0)), (3, .int .i64 (0)), (11, .bool false)]) hS [14, 15, 16, 17, 18, 19, 20] (by rfl)
  rw [hv14, hv15, hv16] at hSx
  have HS3 : Sl a3 63 [(4, .slice (A3) (([] : List ByteArray).length) (c3)), (5, .int .i64 (0)), (6, .bool false), (0, .pointer (some ⟨g, 0, none⟩)), (2, .slice (none) (0) (0)), (3, .int .i64 (0)), (11, .bool false)] := hSx
  have HH3 : Held ⟨w, [g]⟩ w3 [⟨g, (), 6, rpC ⟨safe, waits, true, acts, inn, keep⟩, 51⟩] := ⟨hF.fr, fun r hr => by rw [List.mem_singleton] at hr; subst hr; exact ⟨hF.fresh, hF.row⟩, by simp⟩
  clear hS hSx hF hall
  have hF0_4 := fr_join2 hr hF0 HH3.1
  have HH4 : Held ⟨w3, [g]⟩ w3 [⟨g, (), 6, rpC ⟨safe, waits, true, acts, inn, keep⟩, 51⟩] := HH3.anew
  refine then_ ?_
  refine wp_seq ?_
  refine wp_seq ?_
  have hLo : LOk [(0, 26, .val (.bool false)), (1, 27, .val (.bool true))] := lok (by rfl) (by rfl)
  refine plain_ (wE := ⟨w3, [g]⟩) (sz := 63) (n := 2) [0, 1] [(4, .val (.slice (A3) (([] : List ByteArray).length) (c3))), (5, .val (.int .i64 (0))), (6, .val (.bool false)), (0, .val (.pointer (some ⟨g, 0, none⟩))), (2, .val (.slice (none) (0) (0))), (3, .val (.int .i64 (0))), (11, .val (.bool false)), (27, .val (.bool true))] [(0, 26, .val (.bool false)), (1, 27, .val (.bool true))] [⟨g, none, none, (), 6, rpC ⟨safe, waits, true, acts, inn, keep⟩, rpC ⟨safe, waits, true, acts, inn, keep⟩, 51⟩] rfl (by rfl) HH4 rfl rfl hLo rfl HS3 (slS 0 rfl rfl (slS 1 rfl rfl (slS 2 rfl rfl (slS 3 rfl rfl (slS 4 rfl rfl (slS 5 rfl rfl (slS 6 rfl rfl (slL 1 (d := 1) rfl (trivial))))))))) ?_ ?_
  · show ∀ i ∈ [0, 1], _
    refine steps_cons (st_run 0 _ rfl rfl hLo rfl rfl (fun _ _ _ _ => rfl) (fun b G w hb ho => exec_move (.inl rfl) (ev_off rfl (HS3.get 2 rfl)))) ?_
    refine steps_cons (st_run 1 _ rfl rfl hLo rfl rfl (fun _ _ _ _ => rfl) (fun b G w hb ho => exec_un rfl (ev_on hLo 0 rfl HS3.1 rfl (hb 0 (by rfl))) (ru_not _))) ?_
    exact steps_nil
  clear hLo
  intro G a5 w5 hS hH
  have HS5 : Sl a5 63 [(4, .slice (A3) (([] : List ByteArray).length) (c3)), (5, .int .i64 (0)), (6, .bool false), (0, .pointer (some ⟨g, 0, none⟩)), (2, .slice (none) (0) (0)), (3, .int .i64 (0)), (11, .bool false), (27, .bool true)] := hS
  have HH5 : Held ⟨w3, [g]⟩ w5 [⟨g, (), 6, rpC ⟨safe, waits, true, acts, inn, keep⟩, 51⟩] := hH
  clear hS hH HS3 HH4
  refine then_ ?_
  refine wp_cond_true (HS5.get 7 rfl) ?_
  refine wp_seq ?_
  have hLo : LOk [(0, 2, .val (.slice (none) (0) (0))), (1, 3, .val (.int .i64 (4)))] := lok (by rfl) (by rfl)
  refine plain_ (wE := ⟨w3, [g]⟩) (sz := 63) (n := 2) [0, 1] [(4, .val (.slice (A3) (([] : List ByteArray).length) (c3))), (5, .val (.int .i64 (0))), (6, .val (.bool false)), (0, .val (.pointer (some ⟨g, 0, none⟩))), (11, .val (.bool false)), (27, .val (.bool true)), (2, .val (.slice (none) (0) (0))), (3, .val (.int .i64 (4)))] [(0, 2, .val (.slice (none) (0) (0))), (1, 3, .val (.int .i64 (4)))] [⟨g, none, none, (), 6, rpC ⟨safe, waits, true, acts, inn, keep⟩, rpC ⟨safe, waits, true, acts, inn, keep⟩, 51⟩] rfl (by rfl) HH5 rfl rfl hLo rfl HS5 (slS 0 rfl rfl (slS 1 rfl rfl (slS 2 rfl rfl (slS 3 rfl rfl (slS 6 rfl rfl (slS 7 rfl rfl (slL 0 (d := 0) rfl (slL 1 (d := 1) rfl (trivial))))))))) ?_ ?_
  · show ∀ i ∈ [0, 1], _
    refine steps_cons (st_run 0 _ rfl rfl hLo rfl rfl (fun _ _ _ _ => rfl) (fun b G w hb ho => exec_move (.inr rfl) (rfl))) ?_
    refine steps_cons (st_run 1 _ rfl rfl hLo rfl rfl (fun _ _ _ _ => rfl) (fun b G w hb ho => exec_move (.inr rfl) (rfl))) ?_
    exact steps_nil
  clear hLo
  intro G a6 w6 hS hH
  have HS6 : Sl a6 63 [(4, .slice (A3) (([] : List ByteArray).length) (c3)), (5, .int .i64 (0)), (6, .bool false), (0, .pointer (some ⟨g, 0, none⟩)), (11, .bool false), (27, .bool true), (2, .slice (none) (0) (0)), (3, .int .i64 (4))] := hS
  have HH6 : Held ⟨w3, [g]⟩ w6 [⟨g, (), 6, rpC ⟨safe, waits, true, acts, inn, keep⟩, 51⟩] := hH
  clear hS hH HS5 HH5
  refine then_ ?_
  refine wp_ret ?_
  repeat (first | refine then_ret ?_ | refine inBlock_ret' ?_)
  exact b_tmp2 rfl HS6.2.1 (HS6.get 6 rfl) (HS6.get 7 rfl) ⟨rfl, Row.norm (HH6.row 0 rfl) (six ⟨rfl, rfl, rfl, rfl, rfl, rfl⟩), fr_join2 hr hF0_4 HH6.1⟩
theorem ropen_low {w : World} {g : Nat} {safe waits : ByteArray} {acts inn : Nat} {keep : Int} {ls : List ByteArray} {tl : ByteArray} {rs : List ByteArray} (hr : Row w g () 6 (rpC ⟨safe, waits, true, acts, inn, keep⟩) 51) (hC : Cuts (safe ++ waits) ls tl) (hsw : safe.size + waits.size ≤ 4194304) (hrec : recs ls = some rs) (hlo : (cat ls).size < safe.size) : Calls Try.prog 26 #[.pointer (some ⟨g, 0, none⟩)] w fun e w' => (∃ A c, e = .returned (.tuple #[.slice A rs.length c, .int .i64 0]) ∧ TX w' w.heap.size (.slice A rs.length c) rs) ∧ Row w' g () 6 (rpC ⟨safe.extract 0 ((cat ls).size), ByteArray.empty, true, acts, inn, keep⟩) 51 ∧ Fr ⟨w, [g]⟩ w' := by
  have hal : (safe ++ waits).size ≤ 4194304 := by rw [ByteArray.size_append]; exact hsw
  have hcl : (cat ls).size ≤ (safe ++ waits).size := by rw [hC.eq, ByteArray.size_append]; omega
  rw [ByteArray.size_append] at hcl
  have hF0 := Fr.refl w [g]
  have hgl := hr.lt
  refine enter_ 63 Try.func26 rfl rfl (fun a0 hS => ?_)
  have HS0 : Sl a0 63 [(0, .pointer (some ⟨g, 0, none⟩))] := hS
  have HH0 : Held ⟨w, [g]⟩ w [⟨g, (), 6, rpC ⟨safe, waits, true, acts, inn, keep⟩, 51⟩] := Held.one hr
  clear hS
  refine wp_seq ?_
  have hLo : LOk [(0, 2, .val (.slice (none) (0) (0))), (1, 3, .val (.int .i64 (0)))] := lok (by rfl) (by rfl)
  refine plain_ (wE := ⟨w, [g]⟩) (sz := 63) (n := 2) [0, 1] [(0, .val (.pointer (some ⟨g, 0, none⟩))), (2, .val (.slice (none) (0) (0))), (3, .val (.int .i64 (0)))] [(0, 2, .val (.slice (none) (0) (0))), (1, 3, .val (.int .i64 (0)))] [⟨g, none, none, (), 6, rpC ⟨safe, waits, true, acts, inn, keep⟩, rpC ⟨safe, waits, true, acts, inn, keep⟩, 51⟩] rfl (by rfl) HH0 rfl rfl hLo rfl HS0 (slS 0 rfl rfl (slL 0 (d := 0) rfl (slL 1 (d := 1) rfl (trivial)))) ?_ ?_
  · show ∀ i ∈ [0, 1], _
    refine steps_cons (st_run 0 _ rfl rfl hLo rfl rfl (fun _ _ _ _ => rfl) (fun b G w hb ho => exec_move (.inr rfl) (rfl))) ?_
    refine steps_cons (st_run 1 _ rfl rfl hLo rfl rfl (fun _ _ _ _ => rfl) (fun b G w hb ho => exec_move (.inr rfl) (rfl))) ?_
    exact steps_nil
  clear hLo
  intro G a1 w1 hS hH
  have HS1 : Sl a1 63 [(0, .pointer (some ⟨g, 0, none⟩)), (2, .slice (none) (0) (0)), (3, .int .i64 (0))] := hS
  have HH1 : Held ⟨w, [g]⟩ w1 [⟨g, (), 6, rpC ⟨safe, waits, true, acts, inn, keep⟩, 51⟩] := hH
  clear hS hH HS0 HH0
  refine then_ ?_
  refine wp_seq ?_
  refine wp_seq ?_
  have hLo : LOk [(0, 7, .val (.pointer (some ⟨g, 0, none⟩))), (1, 8, .val (.pointer (some ⟨g, 0, none⟩))), (2, 9, .val (.pointer (some ⟨g, 2, none⟩))), (3, 10, .val (.bool true)), (4, 11, .val (.bool false))] := lok (by rfl) (by rfl)
  refine plain_ (wE := ⟨w, [g]⟩) (sz := 63) (n := 5) [0, 1, 3, 7, 15] [(0, .val (.pointer (some ⟨g, 0, none⟩))), (2, .val (.slice (none) (0) (0))), (3, .val (.int .i64 (0))), (11, .val (.bool false))] [(0, 7, .val (.pointer (some ⟨g, 0, none⟩))), (1, 8, .val (.pointer (some ⟨g, 0, none⟩))), (2, 9, .val (.pointer (some ⟨g, 2, none⟩))), (3, 10, .val (.bool true)), (4, 11, .val (.bool false))] [⟨g, none, none, (), 6, rpC ⟨safe, waits, true, acts, inn, keep⟩, rpC ⟨safe, waits, true, acts, inn, keep⟩, 51⟩] rfl (by rfl) HH1 rfl rfl hLo rfl HS1 (slS 0 rfl rfl (slS 1 rfl rfl (slS 2 rfl rfl (slL 4 (d := 4) rfl (trivial))))) ?_ ?_
  · show ∀ i ∈ [0, 1, 2, 3, 4], _
    refine steps_cons (st_run 0 _ rfl rfl hLo rfl rfl (fun _ _ _ _ => rfl) (fun b G w hb ho => exec_move (.inl rfl) (ev_off rfl (HS1.get 0 rfl)))) ?_
    refine steps_cons (st_run 1 _ rfl rfl hLo rfl rfl (fun _ _ _ _ => rfl) (fun b G w hb ho => exec_nil rfl (ev_on hLo 0 rfl HS1.1 rfl (hb 0 (by rfl))))) ?_
    refine steps_cons (st_run 2 _ rfl rfl hLo rfl rfl (fun _ _ _ _ => rfl) (fun b G w hb ho => exec_field rfl (ev_on hLo 1 rfl HS1.1 rfl (hb 1 (by rfl))) (by kernel_rfl))) ?_
    refine steps_cons (st_read 3 0 _ _ rfl rfl rfl hLo rfl rfl (fun _ _ _ _ => rfl) (by rfl) (by rfl) (fun b G w hb ho hr => exec_cell hr (Nat.le_of_ble_eq_true rfl) Try.underlying4 rfl rfl (ev_on hLo 2 rfl HS1.1 rfl (hb 2 (by rfl))))) ?_
    refine steps_cons (st_run 4 _ rfl rfl hLo rfl rfl (fun _ _ _ _ => rfl) (fun b G w hb ho => exec_un rfl (ev_on hLo 3 rfl HS1.1 rfl (hb 3 (by rfl))) (ru_not _))) ?_
    exact steps_nil
  clear hLo
  intro G a2 w2 hS hH
  have HS2 : Sl a2 63 [(0, .pointer (some ⟨g, 0, none⟩)), (2, .slice (none) (0) (0)), (3, .int .i64 (0)), (11, .bool false)] := hS
  have HH2 : Held ⟨w, [g]⟩ w2 [⟨g, (), 6, rpC ⟨safe, waits, true, acts, inn, keep⟩, 51⟩] := hH
  clear hS hH HS1 HH1
  refine then_ ?_
  refine wp_cond_false (HS2.get 3 rfl) ?_
  refine wp_skip ?_
  refine then_ ?_
  refine wp_seq ?_
  refine regionF_ (sz := 63) (n := 17) (B := [0, 1, 3, 7, 0, 16, 48, 112, 255, 511, 1023, 2047, 2047, 2047, 4095, 24575, 65535]) [0, 1, 2, 3, 4, 5, 6, 7, 8, 9, 10, 11, 12, 13, 14, 15, 16] [(0, 13), (1, 14), (2, 15), (3, 16), (4, 17), (5, 18), (6, 19), (7, 20), (8, 21), (9, 22), (10, 12), (11, 23), (12, 24), (13, 25), (14, 4), (15, 5), (16, 6)] (GT ⟨w, [g]⟩ [some (.pointer (some ⟨g, 0, none⟩)), some (.pointer (some ⟨g, 0, none⟩)), some (.pointer (some ⟨g, 0, none⟩)), some (.string safe), some (.pointer (some ⟨g, 0, none⟩)), some (.pointer (some ⟨g, 0, none⟩)), some (.pointer (some ⟨g, 1, none⟩)), some (.string waits), some (.string (safe ++ waits)), none, none, none, none, none, none, none, none] [none, none, none, none, none, none, none, none, none, none, some 3, some 0, some 1, some 2, some 0, some 1, some 2] 9 rs ((cat ls).size : Int) true g 6 (rpC ⟨safe, waits, true, acts, inn, keep⟩) 51) (by rfl) rfl tabxmlo3 bitsxmlo3 (by kernel_rfl) (by kernel_rfl) (by rfl) ⟨rfl, rfl⟩ HS2 (fun V => GT.first V HH2) ?_ ?_
  · show ∀ i ∈ [0, 1, 2, 3, 4, 5, 6, 7, 8, 9, 10, 11, 12, 13, 14, 15, 16], _
    refine steps_cons (gt_run 0 _ ⟨rfl, rfl⟩ rfl rfl rfl (fun _ _ => rfl) rfl rfl rfl (fun V b w hF hbi hon hoff => exec_move (.inl rfl) (cf_off rfl (HS2.get 0 rfl)))) ?_
    refine steps_cons (gt_run 1 _ ⟨rfl, rfl⟩ rfl rfl rfl (fun _ _ => rfl) rfl rfl rfl (fun V b w hF hbi hon hoff => exec_nil rfl ((cf_on ⟨rfl, rfl⟩ 0 rfl HS2.1 rfl (hon 0 (by rfl))).trans (hF.vs 0 _ rfl (hon 0 (by rfl)))))) ?_
    refine steps_cons (gt_run 2 _ ⟨rfl, rfl⟩ rfl rfl rfl (fun _ _ => rfl) rfl rfl rfl (fun V b w hF hbi hon hoff => exec_field rfl ((cf_on ⟨rfl, rfl⟩ 1 rfl HS2.1 rfl (hon 1 (by rfl))).trans (hF.vs 1 _ rfl (hon 1 (by rfl)))) (by kernel_rfl))) ?_
    refine steps_cons (gt_run 3 _ ⟨rfl, rfl⟩ rfl rfl rfl (fun _ _ => rfl) rfl rfl rfl (fun V b w hF hbi hon hoff => exec_cell hF.row (Nat.le_of_ble_eq_true rfl) Try.underlying9 rfl rfl ((cf_on ⟨rfl, rfl⟩ 2 rfl HS2.1 rfl (hon 2 (by rfl))).trans (hF.vs 2 _ rfl (hon 2 (by rfl)))))) ?_
    refine steps_cons (gt_run 4 _ ⟨rfl, rfl⟩ rfl rfl rfl (fun _ _ => rfl) rfl rfl rfl (fun V b w hF hbi hon hoff => exec_move (.inl rfl) (cf_off rfl (HS2.get 0 rfl)))) ?_
    refine steps_cons (gt_run 5 _ ⟨rfl, rfl⟩ rfl rfl rfl (fun _ _ => rfl) rfl rfl rfl (fun V b w hF hbi hon hoff => exec_nil rfl ((cf_on ⟨rfl, rfl⟩ 4 rfl HS2.1 rfl (hon 4 (by rfl))).trans (hF.vs 4 _ rfl (hon 4 (by rfl)))))) ?_
    refine steps_cons (gt_run 6 _ ⟨rfl, rfl⟩ rfl rfl rfl (fun _ _ => rfl) rfl rfl rfl (fun V b w hF hbi hon hoff => exec_field rfl ((cf_on ⟨rfl, rfl⟩ 5 rfl HS2.1 rfl (hon 5 (by rfl))).trans (hF.vs 5 _ rfl (hon 5 (by rfl)))) (by kernel_rfl))) ?_
    refine steps_cons (gt_run 7 _ ⟨rfl, rfl⟩ rfl rfl rfl (fun _ _ => rfl) rfl rfl rfl (fun V b w hF hbi hon hoff => exec_cell hF.row (Nat.le_of_ble_eq_true rfl) Try.underlying9 rfl rfl ((cf_on ⟨rfl, rfl⟩ 6 rfl HS2.1 rfl (hon 6 (by rfl))).trans (hF.vs 6 _ rfl (hon 6 (by rfl)))))) ?_
    refine steps_cons (gt_run 8 _ ⟨rfl, rfl⟩ rfl rfl rfl (fun _ _ => rfl) rfl rfl rfl (fun V b w hF hbi hon hoff => exec_bin rfl ((cf_on ⟨rfl, rfl⟩ 3 rfl HS2.1 rfl (hon 3 (by rfl))).trans (hF.vs 3 _ rfl (hon 3 (by rfl)))) ((cf_on ⟨rfl, rfl⟩ 7 rfl HS2.1 rfl (hon 7 (by rfl))).trans (hF.vs 7 _ rfl (hon 7 (by rfl)))) (rb_sadd (by omega) _ _ _))) ?_
    refine steps_cons (gt_call 9 ⟨rfl, rfl⟩ rfl rfl rfl rfl (fun _ _ => rfl) rfl rfl rfl (dep_off (by rfl)) Try.func11 rfl rfl (fun V b w hF hbi hon hoff => ⟨_, args1 ((cf_on ⟨rfl, rfl⟩ 8 rfl HS2.1 rfl (hon 8 (by rfl))).trans (hF.vs 8 _ rfl (hon 8 (by rfl)))), records_some hC (by omega) hrec⟩)) ?_
    refine steps_cons (gt_dep 10 3 ⟨rfl, rfl⟩ rfl rfl rfl (fun _ _ => rfl) rfl rfl rfl (fun V b w hF hbi hon hoff => exec_move (.inl rfl) (cf_on ⟨rfl, rfl⟩ 9 rfl HS2.1 rfl (hon 9 (by rfl))))) ?_
    refine steps_cons (gt_dep 11 0 ⟨rfl, rfl⟩ rfl rfl rfl (fun _ _ => rfl) rfl rfl rfl (fun V b w hF hbi hon hoff => dep_ext hF 0 (by decide) rfl ((cf_on ⟨rfl, rfl⟩ 10 rfl HS2.1 rfl (hon 10 (by rfl))).trans (hF.ds 10 _ rfl (hon 10 (by rfl)))) (hon 9 (by rfl)))) ?_
    refine steps_cons (gt_dep 12 1 ⟨rfl, rfl⟩ rfl rfl rfl (fun _ _ => rfl) rfl rfl rfl (fun V b w hF hbi hon hoff => dep_ext hF 1 (by decide) rfl ((cf_on ⟨rfl, rfl⟩ 10 rfl HS2.1 rfl (hon 10 (by rfl))).trans (hF.ds 10 _ rfl (hon 10 (by rfl)))) (hon 9 (by rfl)))) ?_
    refine steps_cons (gt_dep 13 2 ⟨rfl, rfl⟩ rfl rfl rfl (fun _ _ => rfl) rfl rfl rfl (fun V b w hF hbi hon hoff => dep_ext hF 2 (by decide) rfl ((cf_on ⟨rfl, rfl⟩ 10 rfl HS2.1 rfl (hon 10 (by rfl))).trans (hF.ds 10 _ rfl (hon 10 (by rfl)))) (hon 9 (by rfl)))) ?_
    refine steps_cons (gt_dep 14 0 ⟨rfl, rfl⟩ rfl rfl rfl (fun _ _ => rfl) rfl rfl rfl (fun V b w hF hbi hon hoff => exec_move (.inr rfl) ((cf_on ⟨rfl, rfl⟩ 11 rfl HS2.1 rfl (hon 11 (by rfl))).trans (hF.ds 11 _ rfl (hon 11 (by rfl)))))) ?_
    refine steps_cons (gt_dep 15 1 ⟨rfl, rfl⟩ rfl rfl rfl (fun _ _ => rfl) rfl rfl rfl (fun V b w hF hbi hon hoff => exec_move (.inr rfl) ((cf_on ⟨rfl, rfl⟩ 12 rfl HS2.1 rfl (hon 12 (by rfl))).trans (hF.ds 12 _ rfl (hon 12 (by rfl)))))) ?_
    refine steps_cons (gt_dep 16 2 ⟨rfl, rfl⟩ rfl rfl rfl (fun _ _ => rfl) rfl rfl rfl (fun V b w hF hbi hon hoff => exec_move (.inr rfl) ((cf_on ⟨rfl, rfl⟩ 13 rfl HS2.1 rfl (hon 13 (by rfl))).trans (hF.ds 13 _ rfl (hon 13 (by rfl)))))) ?_
    exact steps_nil
  intro V b3 a3 w3 hall hF hS
  obtain ⟨A3, c3, hV3, hT3⟩ := hF.rc (hall 9 rfl)
  have hv10 := hF.ds 10 _ rfl (hall 10 rfl)
  rw [hV3] at hv10
  have hv11 := hF.ds 11 _ rfl (hall 11 rfl)
  rw [hV3] at hv11
  have hv12 := hF.ds 12 _ rfl (hall 12 rfl)
  rw [hV3] at hv12
  have hv13 := hF.ds 13 _ rfl (hall 13 rfl)
  rw [hV3] at hv13
  have hv14 := hF.ds 14 _ rfl (hall 14 rfl)
  rw [hV3] at hv14
  have hv15 := hF.ds 15 _ rfl (hall 15 rfl)
  rw [hV3] at hv15
  have hv16 := hF.ds 16 _ rfl (hall 16 rfl)
  rw [hV3] at hv16
  have hSx := sl_keep (S' := [(4, V 14), (5, V 15), (6, V 16), (0, .pointer (some ⟨g, 0, none⟩)), (2, .slice (none) (0) (0)), (3, .int .i64 (0)), (11, .bool false)]) hS [14, 15, 16, 17, 18, 19, 20] (by rfl)
  rw [hv14, hv15, hv16] at hSx
  have HS3 : Sl a3 63 [(4, .slice (A3) (rs.length) (c3)), (5, .int .i64 (((cat ls).size : Int))), (6, .bool true), (0, .pointer (some ⟨g, 0, none⟩)), (2, .slice (none) (0) (0)), (3, .int .i64 (0)), (11, .bool false)] := hSx
  have HH3 : Held ⟨w, [g]⟩ w3 [⟨g, (), 6, rpC ⟨safe, waits, true, acts, inn, keep⟩, 51⟩] := ⟨hF.fr, fun r hr => by rw [List.mem_singleton] at hr; subst hr; exact ⟨hF.fresh, hF.row⟩, by simp⟩
  clear hS hSx hF hall
  have hF0_4 := fr_join2 hr hF0 HH3.1
  have HH4 : Held ⟨w3, [g]⟩ w3 [⟨g, (), 6, rpC ⟨safe, waits, true, acts, inn, keep⟩, 51⟩] := HH3.anew
  refine then_ ?_
  refine wp_seq ?_
  refine wp_seq ?_
  have hLo : LOk [(0, 26, .val (.bool true)), (1, 27, .val (.bool false))] := lok (by rfl) (by rfl)
  refine plain_ (wE := ⟨w3, [g]⟩) (sz := 63) (n := 2) [0, 1] [(4, .val (.slice (A3) (rs.length) (c3))), (5, .val (.int .i64 (((cat ls).size : Int)))), (6, .val (.bool true)), (0, .val (.pointer (some ⟨g, 0, none⟩))), (2, .val (.slice (none) (0) (0))), (3, .val (.int .i64 (0))), (11, .val (.bool false)), (27, .val (.bool false))] [(0, 26, .val (.bool true)), (1, 27, .val (.bool false))] [⟨g, none, none, (), 6, rpC ⟨safe, waits, true, acts, inn, keep⟩, rpC ⟨safe, waits, true, acts, inn, keep⟩, 51⟩] rfl (by rfl) HH4 rfl rfl hLo rfl HS3 (slS 0 rfl rfl (slS 1 rfl rfl (slS 2 rfl rfl (slS 3 rfl rfl (slS 4 rfl rfl (slS 5 rfl rfl (slS 6 rfl rfl (slL 1 (d := 1) rfl (trivial))))))))) ?_ ?_
  · show ∀ i ∈ [0, 1], _
    refine steps_cons (st_run 0 _ rfl rfl hLo rfl rfl (fun _ _ _ _ => rfl) (fun b G w hb ho => exec_move (.inl rfl) (ev_off rfl (HS3.get 2 rfl)))) ?_
    refine steps_cons (st_run 1 _ rfl rfl hLo rfl rfl (fun _ _ _ _ => rfl) (fun b G w hb ho => exec_un rfl (ev_on hLo 0 rfl HS3.1 rfl (hb 0 (by rfl))) (ru_not _))) ?_
    exact steps_nil
  clear hLo
  intro G a5 w5 hS hH
  have HS5 : Sl a5 63 [(4, .slice (A3) (rs.length) (c3)), (5, .int .i64 (((cat ls).size : Int))), (6, .bool true), (0, .pointer (some ⟨g, 0, none⟩)), (2, .slice (none) (0) (0)), (3, .int .i64 (0)), (11, .bool false), (27, .bool false)] := hS
  have HH5 : Held ⟨w3, [g]⟩ w5 [⟨g, (), 6, rpC ⟨safe, waits, true, acts, inn, keep⟩, 51⟩] := hH
  clear hS hH HS3 HH4
  refine then_ ?_
  refine wp_cond_false (HS5.get 7 rfl) ?_
  refine wp_skip ?_
  refine then_ ?_
  refine wp_seq ?_
  refine wp_seq ?_
  have hLo : LOk [(0, 28, .val (.int .i64 (((cat ls).size : Int)))), (1, 29, .val (.pointer (some ⟨g, 0, none⟩))), (2, 30, .val (.pointer (some ⟨g, 0, none⟩))), (3, 31, .val (.pointer (some ⟨g, 0, none⟩))), (4, 32, .val (.string (safe))), (5, 33, .val (.int .i64 (((safe).size : Int)))), (6, 34, .val (.bool true))] := lok (by rfl) (by rfl)
  refine plain_ (wE := ⟨w3, [g]⟩) (sz := 63) (n := 7) [0, 1, 3, 7, 15, 31, 63] [(4, .val (.slice (A3) (rs.length) (c3))), (5, .val (.int .i64 (((cat ls).size : Int)))), (6, .val (.bool true)), (0, .val (.pointer (some ⟨g, 0, none⟩))), (2, .val (.slice (none) (0) (0))), (3, .val (.int .i64 (0))), (11, .val (.bool false)), (27, .val (.bool false)), (34, .val (.bool true))] [(0, 28, .val (.int .i64 (((cat ls).size : Int)))), (1, 29, .val (.pointer (some ⟨g, 0, none⟩))), (2, 30, .val (.pointer (some ⟨g, 0, none⟩))), (3, 31, .val (.pointer (some ⟨g, 0, none⟩))), (4, 32, .val (.string (safe))), (5, 33, .val (.int .i64 (((safe).size : Int)))), (6, 34, .val (.bool true))] [⟨g, none, none, (), 6, rpC ⟨safe, waits, true, acts, inn, keep⟩, rpC ⟨safe, waits, true, acts, inn, keep⟩, 51⟩] rfl (by rfl) HH5 rfl rfl hLo rfl HS5 (slS 0 rfl rfl (slS 1 rfl rfl (slS 2 rfl rfl (slS 3 rfl rfl (slS 4 rfl rfl (slS 5 rfl rfl (slS 6 rfl rfl (slS 7 rfl rfl (slL 6 (d := 6) rfl (trivial)))))))))) ?_ ?_
  · show ∀ i ∈ [0, 1, 2, 3, 4, 5, 6], _
    refine steps_cons (st_run 0 _ rfl rfl hLo rfl rfl (fun _ _ _ _ => rfl) (fun b G w hb ho => exec_move (.inl rfl) (ev_off rfl (HS5.get 1 rfl)))) ?_
    refine steps_cons (st_run 1 _ rfl rfl hLo rfl rfl (fun _ _ _ _ => rfl) (fun b G w hb ho => exec_move (.inl rfl) (ev_off rfl (HS5.get 3 rfl)))) ?_
    refine steps_cons (st_run 2 _ rfl rfl hLo rfl rfl (fun _ _ _ _ => rfl) (fun b G w hb ho => exec_nil rfl (ev_on hLo 1 rfl HS5.1 rfl (hb 1 (by rfl))))) ?_
    refine steps_cons (st_run 3 _ rfl rfl hLo rfl rfl (fun _ _ _ _ => rfl) (fun b G w hb ho => exec_field rfl (ev_on hLo 2 rfl HS5.1 rfl (hb 2 (by rfl))) (by kernel_rfl))) ?_
    refine steps_cons (st_read 4 0 _ _ rfl rfl rfl hLo rfl rfl (fun _ _ _ _ => rfl) (by rfl) (by rfl) (fun b G w hb ho hr => exec_cell hr (Nat.le_of_ble_eq_true rfl) Try.underlying9 rfl rfl (ev_on hLo 3 rfl HS5.1 rfl (hb 3 (by rfl))))) ?_
    refine steps_cons (st_run 5 _ rfl rfl hLo rfl rfl (fun _ _ _ _ => rfl) (fun b G w hb ho => exec_lenS Try.underlying9 rfl (ev_on hLo 4 rfl HS5.1 rfl (hb 4 (by rfl))))) ?_
    refine steps_cons (st_run 6 _ rfl rfl hLo rfl rfl (fun _ _ _ _ => rfl) (fun b G w hb ho => exec_bin rfl (ev_on hLo 0 rfl HS5.1 rfl (hb 0 (by rfl))) (ev_on hLo 5 rfl HS5.1 rfl (hb 5 (by rfl))) (rb_lss (decide_eq_true (by omega)) _ _ _))) ?_
    exact steps_nil
  clear hLo
  intro G a6 w6 hS hH
  have HS6 : Sl a6 63 [(4, .slice (A3) (rs.length) (c3)), (5, .int .i64 (((cat ls).size : Int))), (6, .bool true), (0, .pointer (some ⟨g, 0, none⟩)), (2, .slice (none) (0) (0)), (3, .int .i64 (0)), (11, .bool false), (27, .bool false), (34, .bool true)] := hS
  have HH6 : Held ⟨w3, [g]⟩ w6 [⟨g, (), 6, rpC ⟨safe, waits, true, acts, inn, keep⟩, 51⟩] := hH
  clear hS hH HS5 HH5
  refine then_ ?_
  refine wp_cond_true (HS6.get 8 rfl) ?_
  refine wp_seq ?_
  have hLo : LOk [(0, 35, .val (.pointer (some ⟨g, 0, none⟩))), (1, 36, .val (.pointer (some ⟨g, 0, none⟩))), (2, 37, .val (.pointer (some ⟨g, 0, none⟩))), (3, 38, .val (.pointer (some ⟨g, 0, none⟩))), (4, 39, .val (.string (safe))), (5, 40, .val (.int .i64 (((cat ls).size : Int)))), (6, 41, .val (.string ((safe).extract 0 ((cat ls).size)))), (7, 42, .val (.pointer (some ⟨g, 0, none⟩))), (8, 43, .val (.pointer (some ⟨g, 0, none⟩)))] := lok (by rfl) (by rfl)
  refine plain_ (wE := ⟨w3, [g]⟩) (sz := 63) (n := 10) [0, 1, 3, 7, 15, 31, 63, 127, 255, 511] [(4, .val (.slice (A3) (rs.length) (c3))), (5, .val (.int .i64 (((cat ls).size : Int)))), (6, .val (.bool true)), (0, .val (.pointer (some ⟨g, 0, none⟩))), (2, .val (.slice (none) (0) (0))), (3, .val (.int .i64 (0))), (11, .val (.bool false)), (27, .val (.bool false)), (34, .val (.bool true))] [(0, 35, .val (.pointer (some ⟨g, 0, none⟩))), (1, 36, .val (.pointer (some ⟨g, 0, none⟩))), (2, 37, .val (.pointer (some ⟨g, 0, none⟩))), (3, 38, .val (.pointer (some ⟨g, 0, none⟩))), (4, 39, .val (.string (safe))), (5, 40, .val (.int .i64 (((cat ls).size : Int)))), (6, 41, .val (.string ((safe).extract 0 ((cat ls).size)))), (7, 42, .val (.pointer (some ⟨g, 0, none⟩))), (8, 43, .val (.pointer (some ⟨g, 0, none⟩)))] [⟨g, none, some 9, (), 6, rpC ⟨safe, waits, true, acts, inn, keep⟩, upd (rpC ⟨safe, waits, true, acts, inn, keep⟩) 0 (.s ((safe).extract 0 ((cat ls).size))), 51⟩] rfl (by rfl) HH6 rfl rfl hLo rfl HS6 (slS 0 rfl rfl (slS 1 rfl rfl (slS 2 rfl rfl (slS 3 rfl rfl (slS 4 rfl rfl (slS 5 rfl rfl (slS 6 rfl rfl (slS 7 rfl rfl (slS 8 rfl rfl (trivial)))))))))) ?_ ?_
  · show ∀ i ∈ [0, 1, 2, 3, 4, 5, 6, 7, 8, 9], _
    refine steps_cons (st_run 0 _ rfl rfl hLo rfl rfl (fun _ _ _ _ => rfl) (fun b G w hb ho => exec_move (.inl rfl) (ev_off rfl (HS6.get 3 rfl)))) ?_
    refine steps_cons (st_run 1 _ rfl rfl hLo rfl rfl (fun _ _ _ _ => rfl) (fun b G w hb ho => exec_move (.inl rfl) (ev_off rfl (HS6.get 3 rfl)))) ?_
    refine steps_cons (st_run 2 _ rfl rfl hLo rfl rfl (fun _ _ _ _ => rfl) (fun b G w hb ho => exec_nil rfl (ev_on hLo 1 rfl HS6.1 rfl (hb 1 (by rfl))))) ?_
    refine steps_cons (st_run 3 _ rfl rfl hLo rfl rfl (fun _ _ _ _ => rfl) (fun b G w hb ho => exec_field rfl (ev_on hLo 2 rfl HS6.1 rfl (hb 2 (by rfl))) (by kernel_rfl))) ?_
    refine steps_cons (st_read 4 0 _ _ rfl rfl rfl hLo rfl rfl (fun _ _ _ _ => rfl) (by rfl) (by rfl) (fun b G w hb ho hr => exec_cell hr (Nat.le_of_ble_eq_true rfl) Try.underlying9 rfl rfl (ev_on hLo 3 rfl HS6.1 rfl (hb 3 (by rfl))))) ?_
    refine steps_cons (st_run 5 _ rfl rfl hLo rfl rfl (fun _ _ _ _ => rfl) (fun b G w hb ho => exec_move (.inl rfl) (ev_off rfl (HS6.get 1 rfl)))) ?_
    refine steps_cons (st_run 6 _ rfl rfl hLo rfl rfl (fun _ _ _ _ => rfl) (fun b G w hb ho => exec_slice rfl (ev_on hLo 4 rfl HS6.1 rfl (hb 4 (by rfl))) rfl (congrArg some (ev_on hLo 5 rfl HS6.1 rfl (hb 5 (by rfl)))) rfl (rs_hi Try.underlying9 (by omega) _))) ?_
    refine steps_cons (st_run 7 _ rfl rfl hLo rfl rfl (fun _ _ _ _ => rfl) (fun b G w hb ho => exec_nil rfl (ev_on hLo 0 rfl HS6.1 rfl (hb 0 (by rfl))))) ?_
    refine steps_cons (st_run 8 _ rfl rfl hLo rfl rfl (fun _ _ _ _ => rfl) (fun b G w hb ho => exec_field rfl (ev_on hLo 7 rfl HS6.1 rfl (hb 7 (by rfl))) (by kernel_rfl))) ?_
    refine steps_cons (st_put 0 _ rfl rfl rfl rfl (fun _ _ _ _ => rfl) rfl rfl rfl (by rfl) (fun b G w hb ho hr => exec_put1 hr (Nat.le_of_ble_eq_true rfl) (by kernel_rfl) rfl (ev_on hLo 8 rfl HS6.1 rfl (hb 8 (by rfl))) (ev_on hLo 6 rfl HS6.1 rfl (hb 6 (by rfl))))) ?_
    exact steps_nil
  clear hLo
  intro G a7 w7 hS hH
  have HS7 : Sl a7 63 [(4, .slice (A3) (rs.length) (c3)), (5, .int .i64 (((cat ls).size : Int))), (6, .bool true), (0, .pointer (some ⟨g, 0, none⟩)), (2, .slice (none) (0) (0)), (3, .int .i64 (0)), (11, .bool false), (27, .bool false), (34, .bool true)] := hS
  have HH7 : Held ⟨w3, [g]⟩ w7 [⟨g, (), 6, upd (rpC ⟨safe, waits, true, acts, inn, keep⟩) 0 (.s ((safe).extract 0 ((cat ls).size))), 51⟩] := hH
  clear hS hH HS6 HH6
  refine then_ ?_
  have hLo : LOk [(0, 44, .val (.pointer (some ⟨g, 0, none⟩))), (1, 45, .val (.pointer (some ⟨g, 0, none⟩))), (2, 46, .val (.pointer (some ⟨g, 1, none⟩)))] := lok (by rfl) (by rfl)
  refine plain_ (wE := ⟨w3, [g]⟩) (sz := 63) (n := 4) [0, 1, 3, 7] [(4, .val (.slice (A3) (rs.length) (c3))), (5, .val (.int .i64 (((cat ls).size : Int)))), (6, .val (.bool true)), (0, .val (.pointer (some ⟨g, 0, none⟩))), (2, .val (.slice (none) (0) (0))), (3, .val (.int .i64 (0))), (11, .val (.bool false)), (27, .val (.bool false)), (34, .val (.bool true))] [(0, 44, .val (.pointer (some ⟨g, 0, none⟩))), (1, 45, .val (.pointer (some ⟨g, 0, none⟩))), (2, 46, .val (.pointer (some ⟨g, 1, none⟩)))] [⟨g, none, some 3, (), 6, upd (rpC ⟨safe, waits, true, acts, inn, keep⟩) 0 (.s ((safe).extract 0 ((cat ls).size))), upd (upd (rpC ⟨safe, waits, true, acts, inn, keep⟩) 0 (.s ((safe).extract 0 ((cat ls).size)))) 1 (.s (ByteArray.empty)), 51⟩] rfl (by rfl) HH7 rfl rfl hLo rfl HS7 (slS 0 rfl rfl (slS 1 rfl rfl (slS 2 rfl rfl (slS 3 rfl rfl (slS 4 rfl rfl (slS 5 rfl rfl (slS 6 rfl rfl (slS 7 rfl rfl (slS 8 rfl rfl (trivial)))))))))) ?_ ?_
  · show ∀ i ∈ [0, 1, 2, 3], _
    refine steps_cons (st_run 0 _ rfl rfl hLo rfl rfl (fun _ _ _ _ => rfl) (fun b G w hb ho => exec_move (.inl rfl) (ev_off rfl (HS7.get 3 rfl)))) ?_
    refine steps_cons (st_run 1 _ rfl rfl hLo rfl rfl (fun _ _ _ _ => rfl) (fun b G w hb ho => exec_nil rfl (ev_on hLo 0 rfl HS7.1 rfl (hb 0 (by rfl))))) ?_
    refine steps_cons (st_run 2 _ rfl rfl hLo rfl rfl (fun _ _ _ _ => rfl) (fun b G w hb ho => exec_field rfl (ev_on hLo 1 rfl HS7.1 rfl (hb 1 (by rfl))) (by kernel_rfl))) ?_
    refine steps_cons (st_put 0 _ rfl rfl rfl rfl (fun _ _ _ _ => rfl) rfl rfl rfl (by rfl) (fun b G w hb ho hr => exec_put1 hr (Nat.le_of_ble_eq_true rfl) (by kernel_rfl) rfl (ev_on hLo 2 rfl HS7.1 rfl (hb 2 (by rfl))) (rfl))) ?_
    exact steps_nil
  clear hLo
  intro G a8 w8 hS hH
  have HS8 : Sl a8 63 [(4, .slice (A3) (rs.length) (c3)), (5, .int .i64 (((cat ls).size : Int))), (6, .bool true), (0, .pointer (some ⟨g, 0, none⟩)), (2, .slice (none) (0) (0)), (3, .int .i64 (0)), (11, .bool false), (27, .bool false), (34, .bool true)] := hS
  have HH8 : Held ⟨w3, [g]⟩ w8 [⟨g, (), 6, upd (upd (rpC ⟨safe, waits, true, acts, inn, keep⟩) 0 (.s ((safe).extract 0 ((cat ls).size)))) 1 (.s (ByteArray.empty)), 51⟩] := hH
  clear hS hH HS7 HH7
  refine then_ ?_
  refine wp_seq ?_
  have hLo : LOk [(0, 62, .val (.slice (A3) (rs.length) (c3))), (1, 2, .val (.slice (A3) (rs.length) (c3))), (2, 3, .val (.int .i64 (0)))] := lok (by rfl) (by rfl)
  refine plain_ (wE := ⟨w3, [g]⟩) (sz := 63) (n := 3) [0, 1, 3] [(4, .val (.slice (A3) (rs.length) (c3))), (5, .val (.int .i64 (((cat ls).size : Int)))), (6, .val (.bool true)), (0, .val (.pointer (some ⟨g, 0, none⟩))), (11, .val (.bool false)), (27, .val (.bool false)), (34, .val (.bool true)), (2, .val (.slice (A3) (rs.length) (c3))), (3, .val (.int .i64 (0)))] [(0, 62, .val (.slice (A3) (rs.length) (c3))), (1, 2, .val (.slice (A3) (rs.length) (c3))), (2, 3, .val (.int .i64 (0)))] [⟨g, none, none, (), 6, upd (upd (rpC ⟨safe, waits, true, acts, inn, keep⟩) 0 (.s ((safe).extract 0 ((cat ls).size)))) 1 (.s (ByteArray.empty)), upd (upd (rpC ⟨safe, waits, true, acts, inn, keep⟩) 0 (.s ((safe).extract 0 ((cat ls).size)))) 1 (.s (ByteArray.empty)), 51⟩] rfl (by rfl) HH8 rfl rfl hLo rfl HS8 (slS 0 rfl rfl (slS 1 rfl rfl (slS 2 rfl rfl (slS 3 rfl rfl (slS 6 rfl rfl (slS 7 rfl rfl (slS 8 rfl rfl (slL 1 (d := 1) rfl (slL 2 (d := 2) rfl (trivial)))))))))) ?_ ?_
  · show ∀ i ∈ [0, 1, 2], _
    refine steps_cons (st_run 0 _ rfl rfl hLo rfl rfl (fun _ _ _ _ => rfl) (fun b G w hb ho => exec_move (.inl rfl) (ev_off rfl (HS8.get 0 rfl)))) ?_
    refine steps_cons (st_run 1 _ rfl rfl hLo rfl rfl (fun _ _ _ _ => rfl) (fun b G w hb ho => exec_move (.inr rfl) (ev_on hLo 0 rfl HS8.1 rfl (hb 0 (by rfl))))) ?_
    refine steps_cons (st_run 2 _ rfl rfl hLo rfl rfl (fun _ _ _ _ => rfl) (fun b G w hb ho => exec_move (.inr rfl) (rfl))) ?_
    exact steps_nil
  clear hLo
  intro G a9 w9 hS hH
  have HS9 : Sl a9 63 [(4, .slice (A3) (rs.length) (c3)), (5, .int .i64 (((cat ls).size : Int))), (6, .bool true), (0, .pointer (some ⟨g, 0, none⟩)), (11, .bool false), (27, .bool false), (34, .bool true), (2, .slice (A3) (rs.length) (c3)), (3, .int .i64 (0))] := hS
  have HH9 : Held ⟨w3, [g]⟩ w9 [⟨g, (), 6, upd (upd (rpC ⟨safe, waits, true, acts, inn, keep⟩) 0 (.s ((safe).extract 0 ((cat ls).size)))) 1 (.s (ByteArray.empty)), 51⟩] := hH
  clear hS hH HS8 HH8
  refine then_ ?_
  refine wp_ret ?_
  repeat (first | refine then_ret ?_ | refine inBlock_ret' ?_)
  exact b_tmp2 rfl HS9.2.1 (HS9.get 7 rfl) (HS9.get 8 rfl) ⟨⟨A3, c3, rfl, hT3.over HH9.1 (allLt1 (by omega))⟩, Row.norm (HH9.row 0 rfl) (six ⟨rfl, rfl, rfl, rfl, rfl, rfl⟩), fr_join2 hr hF0_4 HH9.1⟩
theorem ropen_high {w : World} {g : Nat} {safe waits : ByteArray} {acts inn : Nat} {keep : Int} {ls : List ByteArray} {tl : ByteArray} {rs : List ByteArray} (hr : Row w g () 6 (rpC ⟨safe, waits, true, acts, inn, keep⟩) 51) (hC : Cuts (safe ++ waits) ls tl) (hsw : safe.size + waits.size ≤ 4194304) (hrec : recs ls = some rs) (hlo : safe.size ≤ (cat ls).size) : Calls Try.prog 26 #[.pointer (some ⟨g, 0, none⟩)] w fun e w' => (∃ A c, e = .returned (.tuple #[.slice A rs.length c, .int .i64 0]) ∧ TX w' w.heap.size (.slice A rs.length c) rs) ∧ Row w' g () 6 (rpC ⟨safe, waits.extract 0 ((cat ls).size - safe.size), true, acts, inn, keep⟩) 51 ∧ Fr ⟨w, [g]⟩ w' := by
  have hal : (safe ++ waits).size ≤ 4194304 := by rw [ByteArray.size_append]; exact hsw
  have hcl : (cat ls).size ≤ (safe ++ waits).size := by rw [hC.eq, ByteArray.size_append]; omega
  rw [ByteArray.size_append] at hcl
  have hF0 := Fr.refl w [g]
  have hgl := hr.lt
  refine enter_ 63 Try.func26 rfl rfl (fun a0 hS => ?_)
  have HS0 : Sl a0 63 [(0, .pointer (some ⟨g, 0, none⟩))] := hS
  have HH0 : Held ⟨w, [g]⟩ w [⟨g, (), 6, rpC ⟨safe, waits, true, acts, inn, keep⟩, 51⟩] := Held.one hr
  clear hS
  refine wp_seq ?_
  have hLo : LOk [(0, 2, .val (.slice (none) (0) (0))), (1, 3, .val (.int .i64 (0)))] := lok (by rfl) (by rfl)
  refine plain_ (wE := ⟨w, [g]⟩) (sz := 63) (n := 2) [0, 1] [(0, .val (.pointer (some ⟨g, 0, none⟩))), (2, .val (.slice (none) (0) (0))), (3, .val (.int .i64 (0)))] [(0, 2, .val (.slice (none) (0) (0))), (1, 3, .val (.int .i64 (0)))] [⟨g, none, none, (), 6, rpC ⟨safe, waits, true, acts, inn, keep⟩, rpC ⟨safe, waits, true, acts, inn, keep⟩, 51⟩] rfl (by rfl) HH0 rfl rfl hLo rfl HS0 (slS 0 rfl rfl (slL 0 (d := 0) rfl (slL 1 (d := 1) rfl (trivial)))) ?_ ?_
  · show ∀ i ∈ [0, 1], _
    refine steps_cons (st_run 0 _ rfl rfl hLo rfl rfl (fun _ _ _ _ => rfl) (fun b G w hb ho => exec_move (.inr rfl) (rfl))) ?_
    refine steps_cons (st_run 1 _ rfl rfl hLo rfl rfl (fun _ _ _ _ => rfl) (fun b G w hb ho => exec_move (.inr rfl) (rfl))) ?_
    exact steps_nil
  clear hLo
  intro G a1 w1 hS hH
  have HS1 : Sl a1 63 [(0, .pointer (some ⟨g, 0, none⟩)), (2, .slice (none) (0) (0)), (3, .int .i64 (0))] := hS
  have HH1 : Held ⟨w, [g]⟩ w1 [⟨g, (), 6, rpC ⟨safe, waits, true, acts, inn, keep⟩, 51⟩] := hH
  clear hS hH HS0 HH0
  refine then_ ?_
  refine wp_seq ?_
  refine wp_seq ?_
  have hLo : LOk [(0, 7, .val (.pointer (some ⟨g, 0, none⟩))), (1, 8, .val (.pointer (some ⟨g, 0, none⟩))), (2, 9, .val (.pointer (some ⟨g, 2, none⟩))), (3, 10, .val (.bool true)), (4, 11, .val (.bool false))] := lok (by rfl) (by rfl)
  refine plain_ (wE := ⟨w, [g]⟩) (sz := 63) (n := 5) [0, 1, 3, 7, 15] [(0, .val (.pointer (some ⟨g, 0, none⟩))), (2, .val (.slice (none) (0) (0))), (3, .val (.int .i64 (0))), (11, .val (.bool false))] [(0, 7, .val (.pointer (some ⟨g, 0, none⟩))), (1, 8, .val (.pointer (some ⟨g, 0, none⟩))), (2, 9, .val (.pointer (some ⟨g, 2, none⟩))), (3, 10, .val (.bool true)), (4, 11, .val (.bool false))] [⟨g, none, none, (), 6, rpC ⟨safe, waits, true, acts, inn, keep⟩, rpC ⟨safe, waits, true, acts, inn, keep⟩, 51⟩] rfl (by rfl) HH1 rfl rfl hLo rfl HS1 (slS 0 rfl rfl (slS 1 rfl rfl (slS 2 rfl rfl (slL 4 (d := 4) rfl (trivial))))) ?_ ?_
  · show ∀ i ∈ [0, 1, 2, 3, 4], _
    refine steps_cons (st_run 0 _ rfl rfl hLo rfl rfl (fun _ _ _ _ => rfl) (fun b G w hb ho => exec_move (.inl rfl) (ev_off rfl (HS1.get 0 rfl)))) ?_
    refine steps_cons (st_run 1 _ rfl rfl hLo rfl rfl (fun _ _ _ _ => rfl) (fun b G w hb ho => exec_nil rfl (ev_on hLo 0 rfl HS1.1 rfl (hb 0 (by rfl))))) ?_
    refine steps_cons (st_run 2 _ rfl rfl hLo rfl rfl (fun _ _ _ _ => rfl) (fun b G w hb ho => exec_field rfl (ev_on hLo 1 rfl HS1.1 rfl (hb 1 (by rfl))) (by kernel_rfl))) ?_
    refine steps_cons (st_read 3 0 _ _ rfl rfl rfl hLo rfl rfl (fun _ _ _ _ => rfl) (by rfl) (by rfl) (fun b G w hb ho hr => exec_cell hr (Nat.le_of_ble_eq_true rfl) Try.underlying4 rfl rfl (ev_on hLo 2 rfl HS1.1 rfl (hb 2 (by rfl))))) ?_
    refine steps_cons (st_run 4 _ rfl rfl hLo rfl rfl (fun _ _ _ _ => rfl) (fun b G w hb ho => exec_un rfl (ev_on hLo 3 rfl HS1.1 rfl (hb 3 (by rfl))) (ru_not _))) ?_
    exact steps_nil
  clear hLo
  intro G a2 w2 hS hH
  have HS2 : Sl a2 63 [(0, .pointer (some ⟨g, 0, none⟩)), (2, .slice (none) (0) (0)), (3, .int .i64 (0)), (11, .bool false)] := hS
  have HH2 : Held ⟨w, [g]⟩ w2 [⟨g, (), 6, rpC ⟨safe, waits, true, acts, inn, keep⟩, 51⟩] := hH
  clear hS hH HS1 HH1
  refine then_ ?_
  refine wp_cond_false (HS2.get 3 rfl) ?_
  refine wp_skip ?_
  refine then_ ?_
  refine wp_seq ?_
  refine regionF_ (sz := 63) (n := 17) (B := [0, 1, 3, 7, 0, 16, 48, 112, 255, 511, 1023, 2047, 2047, 2047, 4095, 24575, 65535]) [0, 1, 2, 3, 4, 5, 6, 7, 8, 9, 10, 11, 12, 13, 14, 15, 16] [(0, 13), (1, 14), (2, 15), (3, 16), (4, 17), (5, 18), (6, 19), (7, 20), (8, 21), (9, 22), (10, 12), (11, 23), (12, 24), (13, 25), (14, 4), (15, 5), (16, 6)] (GT ⟨w, [g]⟩ [some (.pointer (some ⟨g, 0, none⟩)), some (.pointer (some ⟨g, 0, none⟩)), some (.pointer (some ⟨g, 0, none⟩)), some (.string safe), some (.pointer (some ⟨g, 0, none⟩)), some (.pointer (some ⟨g, 0, none⟩)), some (.pointer (some ⟨g, 1, none⟩)), some (.string waits), some (.string (safe ++ waits)), none, none, none, none, none, none, none, none] [none, none, none, none, none, none, none, none, none, none, some 3, some 0, some 1, some 2, some 0, some 1, some 2] 9 rs ((cat ls).size : Int) true g 6 (rpC ⟨safe, waits, true, acts, inn, keep⟩) 51) (by rfl) rfl tabxmhi3 bitsxmhi3 (by kernel_rfl) (by kernel_rfl) (by rfl) ⟨rfl, rfl⟩ HS2 (fun V => GT.first V HH2) ?_ ?_
  · show ∀ i ∈ [0, 1, 2, 3, 4, 5, 6, 7, 8, 9, 10, 11, 12, 13, 14, 15, 16], _
    refine steps_cons (gt_run 0 _ ⟨rfl, rfl⟩ rfl rfl rfl (fun _ _ => rfl) rfl rfl rfl (fun V b w hF hbi hon hoff => exec_move (.inl rfl) (cf_off rfl (HS2.get 0 rfl)))) ?_
    refine steps_cons (gt_run 1 _ ⟨rfl, rfl⟩ rfl rfl rfl (fun _ _ => rfl) rfl rfl rfl (fun V b w hF hbi hon hoff => exec_nil rfl ((cf_on ⟨rfl, rfl⟩ 0 rfl HS2.1 rfl (hon 0 (by rfl))).trans (hF.vs 0 _ rfl (hon 0 (by rfl)))))) ?_
    refine steps_cons (gt_run 2 _ ⟨rfl, rfl⟩ rfl rfl rfl (fun _ _ => rfl) rfl rfl rfl (fun V b w hF hbi hon hoff => exec_field rfl ((cf_on ⟨rfl, rfl⟩ 1 rfl HS2.1 rfl (hon 1 (by rfl))).trans (hF.vs 1 _ rfl (hon 1 (by rfl)))) (by kernel_rfl))) ?_
    refine steps_cons (gt_run 3 _ ⟨rfl, rfl⟩ rfl rfl rfl (fun _ _ => rfl) rfl rfl rfl (fun V b w hF hbi hon hoff => exec_cell hF.row (Nat.le_of_ble_eq_true rfl) Try.underlying9 rfl rfl ((cf_on ⟨rfl, rfl⟩ 2 rfl HS2.1 rfl (hon 2 (by rfl))).trans (hF.vs 2 _ rfl (hon 2 (by rfl)))))) ?_
    refine steps_cons (gt_run 4 _ ⟨rfl, rfl⟩ rfl rfl rfl (fun _ _ => rfl) rfl rfl rfl (fun V b w hF hbi hon hoff => exec_move (.inl rfl) (cf_off rfl (HS2.get 0 rfl)))) ?_
    refine steps_cons (gt_run 5 _ ⟨rfl, rfl⟩ rfl rfl rfl (fun _ _ => rfl) rfl rfl rfl (fun V b w hF hbi hon hoff => exec_nil rfl ((cf_on ⟨rfl, rfl⟩ 4 rfl HS2.1 rfl (hon 4 (by rfl))).trans (hF.vs 4 _ rfl (hon 4 (by rfl)))))) ?_
    refine steps_cons (gt_run 6 _ ⟨rfl, rfl⟩ rfl rfl rfl (fun _ _ => rfl) rfl rfl rfl (fun V b w hF hbi hon hoff => exec_field rfl ((cf_on ⟨rfl, rfl⟩ 5 rfl HS2.1 rfl (hon 5 (by rfl))).trans (hF.vs 5 _ rfl (hon 5 (by rfl)))) (by kernel_rfl))) ?_
    refine steps_cons (gt_run 7 _ ⟨rfl, rfl⟩ rfl rfl rfl (fun _ _ => rfl) rfl rfl rfl (fun V b w hF hbi hon hoff => exec_cell hF.row (Nat.le_of_ble_eq_true rfl) Try.underlying9 rfl rfl ((cf_on ⟨rfl, rfl⟩ 6 rfl HS2.1 rfl (hon 6 (by rfl))).trans (hF.vs 6 _ rfl (hon 6 (by rfl)))))) ?_
    refine steps_cons (gt_run 8 _ ⟨rfl, rfl⟩ rfl rfl rfl (fun _ _ => rfl) rfl rfl rfl (fun V b w hF hbi hon hoff => exec_bin rfl ((cf_on ⟨rfl, rfl⟩ 3 rfl HS2.1 rfl (hon 3 (by rfl))).trans (hF.vs 3 _ rfl (hon 3 (by rfl)))) ((cf_on ⟨rfl, rfl⟩ 7 rfl HS2.1 rfl (hon 7 (by rfl))).trans (hF.vs 7 _ rfl (hon 7 (by rfl)))) (rb_sadd (by omega) _ _ _))) ?_
    refine steps_cons (gt_call 9 ⟨rfl, rfl⟩ rfl rfl rfl rfl (fun _ _ => rfl) rfl rfl rfl (dep_off (by rfl)) Try.func11 rfl rfl (fun V b w hF hbi hon hoff => ⟨_, args1 ((cf_on ⟨rfl, rfl⟩ 8 rfl HS2.1 rfl (hon 8 (by rfl))).trans (hF.vs 8 _ rfl (hon 8 (by rfl)))), records_some hC (by omega) hrec⟩)) ?_
    refine steps_cons (gt_dep 10 3 ⟨rfl, rfl⟩ rfl rfl rfl (fun _ _ => rfl) rfl rfl rfl (fun V b w hF hbi hon hoff => exec_move (.inl rfl) (cf_on ⟨rfl, rfl⟩ 9 rfl HS2.1 rfl (hon 9 (by rfl))))) ?_
    refine steps_cons (gt_dep 11 0 ⟨rfl, rfl⟩ rfl rfl rfl (fun _ _ => rfl) rfl rfl rfl (fun V b w hF hbi hon hoff => dep_ext hF 0 (by decide) rfl ((cf_on ⟨rfl, rfl⟩ 10 rfl HS2.1 rfl (hon 10 (by rfl))).trans (hF.ds 10 _ rfl (hon 10 (by rfl)))) (hon 9 (by rfl)))) ?_
    refine steps_cons (gt_dep 12 1 ⟨rfl, rfl⟩ rfl rfl rfl (fun _ _ => rfl) rfl rfl rfl (fun V b w hF hbi hon hoff => dep_ext hF 1 (by decide) rfl ((cf_on ⟨rfl, rfl⟩ 10 rfl HS2.1 rfl (hon 10 (by rfl))).trans (hF.ds 10 _ rfl (hon 10 (by rfl)))) (hon 9 (by rfl)))) ?_
    refine steps_cons (gt_dep 13 2 ⟨rfl, rfl⟩ rfl rfl rfl (fun _ _ => rfl) rfl rfl rfl (fun V b w hF hbi hon hoff => dep_ext hF 2 (by decide) rfl ((cf_on ⟨rfl, rfl⟩ 10 rfl HS2.1 rfl (hon 10 (by rfl))).trans (hF.ds 10 _ rfl (hon 10 (by rfl)))) (hon 9 (by rfl)))) ?_
    refine steps_cons (gt_dep 14 0 ⟨rfl, rfl⟩ rfl rfl rfl (fun _ _ => rfl) rfl rfl rfl (fun V b w hF hbi hon hoff => exec_move (.inr rfl) ((cf_on ⟨rfl, rfl⟩ 11 rfl HS2.1 rfl (hon 11 (by rfl))).trans (hF.ds 11 _ rfl (hon 11 (by rfl)))))) ?_
    refine steps_cons (gt_dep 15 1 ⟨rfl, rfl⟩ rfl rfl rfl (fun _ _ => rfl) rfl rfl rfl (fun V b w hF hbi hon hoff => exec_move (.inr rfl) ((cf_on ⟨rfl, rfl⟩ 12 rfl HS2.1 rfl (hon 12 (by rfl))).trans (hF.ds 12 _ rfl (hon 12 (by rfl)))))) ?_
    refine steps_cons (gt_dep 16 2 ⟨rfl, rfl⟩ rfl rfl rfl (fun _ _ => rfl) rfl rfl rfl (fun V b w hF hbi hon hoff => exec_move (.inr rfl) ((cf_on ⟨rfl, rfl⟩ 13 rfl HS2.1 rfl (hon 13 (by rfl))).trans (hF.ds 13 _ rfl (hon 13 (by rfl)))))) ?_
    exact steps_nil
  intro V b3 a3 w3 hall hF hS
  obtain ⟨A3, c3, hV3, hT3⟩ := hF.rc (hall 9 rfl)
  have hv10 := hF.ds 10 _ rfl (hall 10 rfl)
  rw [hV3] at hv10
  have hv11 := hF.ds 11 _ rfl (hall 11 rfl)
  rw [hV3] at hv11
  have hv12 := hF.ds 12 _ rfl (hall 12 rfl)
  rw [hV3] at hv12
  have hv13 := hF.ds 13 _ rfl (hall 13 rfl)
  rw [hV3] at hv13
  have hv14 := hF.ds 14 _ rfl (hall 14 rfl)
  rw [hV3] at hv14
  have hv15 := hF.ds 15 _ rfl (hall 15 rfl)
  rw [hV3] at hv15
  have hv16 := hF.ds 16 _ rfl (hall 16 rfl)
  rw [hV3] at hv16
  have hSx := sl_keep (S' := [(4, V 14), (5, V 15), (6, V 16), (0, .pointer (some ⟨g, 0, none⟩)), (2, .slice (none) (0) (0)), (3, .int .i64 (0)), (11, .bool false)]) hS [14, 15, 16, 17, 18, 19, 20] (by rfl)
  rw [hv14, hv15, hv16] at hSx
  have HS3 : Sl a3 63 [(4, .slice (A3) (rs.length) (c3)), (5, .int .i64 (((cat ls).size : Int))), (6, .bool true), (0, .pointer (some ⟨g, 0, none⟩)), (2, .slice (none) (0) (0)), (3, .int .i64 (0)), (11, .bool false)] := hSx
  have HH3 : Held ⟨w, [g]⟩ w3 [⟨g, (), 6, rpC ⟨safe, waits, true, acts, inn, keep⟩, 51⟩] := ⟨hF.fr, fun r hr => by rw [List.mem_singleton] at hr; subst hr; exact ⟨hF.fresh, hF.row⟩, by simp⟩
  clear hS hSx hF hall
  have hF0_4 := fr_join2 hr hF0 HH3.1
  have HH4 : Held ⟨w3, [g]⟩ w3 [⟨g, (), 6, rpC ⟨safe, waits, true, acts, inn, keep⟩, 51⟩] := HH3.anew
  refine then_ ?_
  refine wp_seq ?_
  refine wp_seq ?_
  have hLo : LOk [(0, 26, .val (.bool true)), (1, 27, .val (.bool false))] := lok (by rfl) (by rfl)
  refine plain_ (wE := ⟨w3, [g]⟩) (sz := 63) (n := 2) [0, 1] [(4, .val (.slice (A3) (rs.length) (c3))), (5, .val (.int .i64 (((cat ls).size : Int)))), (6, .val (.bool true)), (0, .val (.pointer (some ⟨g, 0, none⟩))), (2, .val (.slice (none) (0) (0))), (3, .val (.int .i64 (0))), (11, .val (.bool false)), (27, .val (.bool false))] [(0, 26, .val (.bool true)), (1, 27, .val (.bool false))] [⟨g, none, none, (), 6, rpC ⟨safe, waits, true, acts, inn, keep⟩, rpC ⟨safe, waits, true, acts, inn, keep⟩, 51⟩] rfl (by rfl) HH4 rfl rfl hLo rfl HS3 (slS 0 rfl rfl (slS 1 rfl rfl (slS 2 rfl rfl (slS 3 rfl rfl (slS 4 rfl rfl (slS 5 rfl rfl (slS 6 rfl rfl (slL 1 (d := 1) rfl (trivial))))))))) ?_ ?_
  · show ∀ i ∈ [0, 1], _
    refine steps_cons (st_run 0 _ rfl rfl hLo rfl rfl (fun _ _ _ _ => rfl) (fun b G w hb ho => exec_move (.inl rfl) (ev_off rfl (HS3.get 2 rfl)))) ?_
    refine steps_cons (st_run 1 _ rfl rfl hLo rfl rfl (fun _ _ _ _ => rfl) (fun b G w hb ho => exec_un rfl (ev_on hLo 0 rfl HS3.1 rfl (hb 0 (by rfl))) (ru_not _))) ?_
    exact steps_nil
  clear hLo
  intro G a5 w5 hS hH
  have HS5 : Sl a5 63 [(4, .slice (A3) (rs.length) (c3)), (5, .int .i64 (((cat ls).size : Int))), (6, .bool true), (0, .pointer (some ⟨g, 0, none⟩)), (2, .slice (none) (0) (0)), (3, .int .i64 (0)), (11, .bool false), (27, .bool false)] := hS
  have HH5 : Held ⟨w3, [g]⟩ w5 [⟨g, (), 6, rpC ⟨safe, waits, true, acts, inn, keep⟩, 51⟩] := hH
  clear hS hH HS3 HH4
  refine then_ ?_
  refine wp_cond_false (HS5.get 7 rfl) ?_
  refine wp_skip ?_
  refine then_ ?_
  refine wp_seq ?_
  refine wp_seq ?_
  have hLo : LOk [(0, 28, .val (.int .i64 (((cat ls).size : Int)))), (1, 29, .val (.pointer (some ⟨g, 0, none⟩))), (2, 30, .val (.pointer (some ⟨g, 0, none⟩))), (3, 31, .val (.pointer (some ⟨g, 0, none⟩))), (4, 32, .val (.string (safe))), (5, 33, .val (.int .i64 (((safe).size : Int)))), (6, 34, .val (.bool false))] := lok (by rfl) (by rfl)
  refine plain_ (wE := ⟨w3, [g]⟩) (sz := 63) (n := 7) [0, 1, 3, 7, 15, 31, 63] [(4, .val (.slice (A3) (rs.length) (c3))), (5, .val (.int .i64 (((cat ls).size : Int)))), (6, .val (.bool true)), (0, .val (.pointer (some ⟨g, 0, none⟩))), (2, .val (.slice (none) (0) (0))), (3, .val (.int .i64 (0))), (11, .val (.bool false)), (27, .val (.bool false)), (34, .val (.bool false))] [(0, 28, .val (.int .i64 (((cat ls).size : Int)))), (1, 29, .val (.pointer (some ⟨g, 0, none⟩))), (2, 30, .val (.pointer (some ⟨g, 0, none⟩))), (3, 31, .val (.pointer (some ⟨g, 0, none⟩))), (4, 32, .val (.string (safe))), (5, 33, .val (.int .i64 (((safe).size : Int)))), (6, 34, .val (.bool false))] [⟨g, none, none, (), 6, rpC ⟨safe, waits, true, acts, inn, keep⟩, rpC ⟨safe, waits, true, acts, inn, keep⟩, 51⟩] rfl (by rfl) HH5 rfl rfl hLo rfl HS5 (slS 0 rfl rfl (slS 1 rfl rfl (slS 2 rfl rfl (slS 3 rfl rfl (slS 4 rfl rfl (slS 5 rfl rfl (slS 6 rfl rfl (slS 7 rfl rfl (slL 6 (d := 6) rfl (trivial)))))))))) ?_ ?_
  · show ∀ i ∈ [0, 1, 2, 3, 4, 5, 6], _
    refine steps_cons (st_run 0 _ rfl rfl hLo rfl rfl (fun _ _ _ _ => rfl) (fun b G w hb ho => exec_move (.inl rfl) (ev_off rfl (HS5.get 1 rfl)))) ?_
    refine steps_cons (st_run 1 _ rfl rfl hLo rfl rfl (fun _ _ _ _ => rfl) (fun b G w hb ho => exec_move (.inl rfl) (ev_off rfl (HS5.get 3 rfl)))) ?_
    refine steps_cons (st_run 2 _ rfl rfl hLo rfl rfl (fun _ _ _ _ => rfl) (fun b G w hb ho => exec_nil rfl (ev_on hLo 1 rfl HS5.1 rfl (hb 1 (by rfl))))) ?_
    refine steps_cons (st_run 3 _ rfl rfl hLo rfl rfl (fun _ _ _ _ => rfl) (fun b G w hb ho => exec_field rfl (ev_on hLo 2 rfl HS5.1 rfl (hb 2 (by rfl))) (by kernel_rfl))) ?_
    refine steps_cons (st_read 4 0 _ _ rfl rfl rfl hLo rfl rfl (fun _ _ _ _ => rfl) (by rfl) (by rfl) (fun b G w hb ho hr => exec_cell hr (Nat.le_of_ble_eq_true rfl) Try.underlying9 rfl rfl (ev_on hLo 3 rfl HS5.1 rfl (hb 3 (by rfl))))) ?_
    refine steps_cons (st_run 5 _ rfl rfl hLo rfl rfl (fun _ _ _ _ => rfl) (fun b G w hb ho => exec_lenS Try.underlying9 rfl (ev_on hLo 4 rfl HS5.1 rfl (hb 4 (by rfl))))) ?_
    refine steps_cons (st_run 6 _ rfl rfl hLo rfl rfl (fun _ _ _ _ => rfl) (fun b G w hb ho => exec_bin rfl (ev_on hLo 0 rfl HS5.1 rfl (hb 0 (by rfl))) (ev_on hLo 5 rfl HS5.1 rfl (hb 5 (by rfl))) (rb_lss (decide_eq_false (by omega)) _ _ _))) ?_
    exact steps_nil
  clear hLo
  intro G a6 w6 hS hH
  have HS6 : Sl a6 63 [(4, .slice (A3) (rs.length) (c3)), (5, .int .i64 (((cat ls).size : Int))), (6, .bool true), (0, .pointer (some ⟨g, 0, none⟩)), (2, .slice (none) (0) (0)), (3, .int .i64 (0)), (11, .bool false), (27, .bool false), (34, .bool false)] := hS
  have HH6 : Held ⟨w3, [g]⟩ w6 [⟨g, (), 6, rpC ⟨safe, waits, true, acts, inn, keep⟩, 51⟩] := hH
  clear hS hH HS5 HH5
  refine then_ ?_
  refine wp_cond_false (HS6.get 8 rfl) ?_
  have hLo : LOk [(0, 47, .val (.pointer (some ⟨g, 0, none⟩))), (1, 48, .val (.pointer (some ⟨g, 0, none⟩))), (2, 49, .val (.pointer (some ⟨g, 0, none⟩))), (3, 50, .val (.pointer (some ⟨g, 1, none⟩))), (4, 51, .val (.string (waits))), (5, 52, .val (.int .i64 (((cat ls).size : Int)))), (6, 53, .val (.pointer (some ⟨g, 0, none⟩))), (7, 54, .val (.pointer (some ⟨g, 0, none⟩))), (8, 55, .val (.pointer (some ⟨g, 0, none⟩))), (9, 56, .val (.string (safe))), (10, 57, .val (.int .i64 (((safe).size : Int)))), (11, 58, .val (.int .i64 ((((cat ls).size - safe.size : Nat) : Int)))), (12, 59, .val (.string ((waits).extract 0 ((cat ls).size - safe.size)))), (13, 60, .val (.pointer (some ⟨g, 0, none⟩))), (14, 61, .val (.pointer (some ⟨g, 1, none⟩)))] := lok (by rfl) (by rfl)
  refine region_ (wE := ⟨w3, [g]⟩) (sz := 63) (n := 16) (B := [0, 0, 2, 6, 14, 0, 0, 64, 192, 448, 960, 2016, 4094, 8191, 16383, 32767]) [0, 1, 2, 3, 4, 5, 6, 7, 8, 9, 10, 11, 12, 13, 14, 15] [(4, .val (.slice (A3) (rs.length) (c3))), (5, .val (.int .i64 (((cat ls).size : Int)))), (6, .val (.bool true)), (0, .val (.pointer (some ⟨g, 0, none⟩))), (2, .val (.slice (none) (0) (0))), (3, .val (.int .i64 (0))), (11, .val (.bool false)), (27, .val (.bool false)), (34, .val (.bool false))] [(0, 47, .val (.pointer (some ⟨g, 0, none⟩))), (1, 48, .val (.pointer (some ⟨g, 0, none⟩))), (2, 49, .val (.pointer (some ⟨g, 0, none⟩))), (3, 50, .val (.pointer (some ⟨g, 1, none⟩))), (4, 51, .val (.string (waits))), (5, 52, .val (.int .i64 (((cat ls).size : Int)))), (6, 53, .val (.pointer (some ⟨g, 0, none⟩))), (7, 54, .val (.pointer (some ⟨g, 0, none⟩))), (8, 55, .val (.pointer (some ⟨g, 0, none⟩))), (9, 56, .val (.string (safe))), (10, 57, .val (.int .i64 (((safe).size : Int)))), (11, 58, .val (.int .i64 ((((cat ls).size - safe.size : Nat) : Int)))), (12, 59, .val (.string ((waits).extract 0 ((cat ls).size - safe.size)))), (13, 60, .val (.pointer (some ⟨g, 0, none⟩))), (14, 61, .val (.pointer (some ⟨g, 1, none⟩)))] [⟨g, none, some 15, (), 6, rpC ⟨safe, waits, true, acts, inn, keep⟩, upd (rpC ⟨safe, waits, true, acts, inn, keep⟩) 1 (.s ((waits).extract 0 ((cat ls).size - safe.size))), 51⟩] (by rfl) rfl tabxmhi9 bitsxmhi9 (by kernel_rfl) (by kernel_rfl) HH6 rfl rfl hLo rfl HS6 (slS 0 rfl rfl (slS 1 rfl rfl (slS 2 rfl rfl (slS 3 rfl rfl (slS 4 rfl rfl (slS 5 rfl rfl (slS 6 rfl rfl (slS 7 rfl rfl (slS 8 rfl rfl (trivial)))))))))) ?_ ?_
  · show ∀ i ∈ [0, 1, 2, 3, 4, 5, 6, 7, 8, 9, 10, 11, 12, 13, 14, 15], _
    refine steps_cons (st_run 0 _ rfl rfl hLo rfl rfl (fun _ _ _ _ => rfl) (fun b G w hb ho => exec_move (.inl rfl) (ev_off rfl (HS6.get 3 rfl)))) ?_
    refine steps_cons (st_run 1 _ rfl rfl hLo rfl rfl (fun _ _ _ _ => rfl) (fun b G w hb ho => exec_move (.inl rfl) (ev_off rfl (HS6.get 3 rfl)))) ?_
    refine steps_cons (st_run 2 _ rfl rfl hLo rfl rfl (fun _ _ _ _ => rfl) (fun b G w hb ho => exec_nil rfl (ev_on hLo 1 rfl HS6.1 rfl (hb 1 (by rfl))))) ?_
    refine steps_cons (st_run 3 _ rfl rfl hLo rfl rfl (fun _ _ _ _ => rfl) (fun b G w hb ho => exec_field rfl (ev_on hLo 2 rfl HS6.1 rfl (hb 2 (by rfl))) (by kernel_rfl))) ?_
    refine steps_cons (st_read 4 0 _ _ rfl rfl rfl hLo rfl rfl (fun _ _ _ _ => rfl) (by rfl) (by rfl) (fun b G w hb ho hr => exec_cell hr (Nat.le_of_ble_eq_true rfl) Try.underlying9 rfl rfl (ev_on hLo 3 rfl HS6.1 rfl (hb 3 (by rfl))))) ?_
    refine steps_cons (st_run 5 _ rfl rfl hLo rfl rfl (fun _ _ _ _ => rfl) (fun b G w hb ho => exec_move (.inl rfl) (ev_off rfl (HS6.get 1 rfl)))) ?_
    refine steps_cons (st_run 6 _ rfl rfl hLo rfl rfl (fun _ _ _ _ => rfl) (fun b G w hb ho => exec_move (.inl rfl) (ev_off rfl (HS6.get 3 rfl)))) ?_
    refine steps_cons (st_run 7 _ rfl rfl hLo rfl rfl (fun _ _ _ _ => rfl) (fun b G w hb ho => exec_nil rfl (ev_on hLo 6 rfl HS6.1 rfl (hb 6 (by rfl))))) ?_
    refine steps_cons (st_run 8 _ rfl rfl hLo rfl rfl (fun _ _ _ _ => rfl) (fun b G w hb ho => exec_field rfl (ev_on hLo 7 rfl HS6.1 rfl (hb 7 (by rfl))) (by kernel_rfl))) ?_
    refine steps_cons (st_read 9 0 _ _ rfl rfl rfl hLo rfl rfl (fun _ _ _ _ => rfl) (by rfl) (by rfl) (fun b G w hb ho hr => exec_cell hr (Nat.le_of_ble_eq_true rfl) Try.underlying9 rfl rfl (ev_on hLo 8 rfl HS6.1 rfl (hb 8 (by rfl))))) ?_
    refine steps_cons (st_run 10 _ rfl rfl hLo rfl rfl (fun _ _ _ _ => rfl) (fun b G w hb ho => exec_lenS Try.underlying9 rfl (ev_on hLo 9 rfl HS6.1 rfl (hb 9 (by rfl))))) ?_
    refine steps_cons (st_run 11 _ rfl rfl hLo rfl rfl (fun _ _ _ _ => rfl) (fun b G w hb ho => exec_bin rfl (ev_on hLo 5 rfl HS6.1 rfl (hb 5 (by rfl))) (ev_on hLo 10 rfl HS6.1 rfl (hb 10 (by rfl))) (rb_sub (w_nat (by omega) (by omega)) _ _ _))) ?_
    refine steps_cons (st_run 12 _ rfl rfl hLo rfl rfl (fun _ _ _ _ => rfl) (fun b G w hb ho => exec_slice rfl (ev_on hLo 4 rfl HS6.1 rfl (hb 4 (by rfl))) rfl (congrArg some (ev_on hLo 11 rfl HS6.1 rfl (hb 11 (by rfl)))) rfl (rs_hi Try.underlying9 (by omega) _))) ?_
    refine steps_cons (st_run 13 _ rfl rfl hLo rfl rfl (fun _ _ _ _ => rfl) (fun b G w hb ho => exec_nil rfl (ev_on hLo 0 rfl HS6.1 rfl (hb 0 (by rfl))))) ?_
    refine steps_cons (st_run 14 _ rfl rfl hLo rfl rfl (fun _ _ _ _ => rfl) (fun b G w hb ho => exec_field rfl (ev_on hLo 13 rfl HS6.1 rfl (hb 13 (by rfl))) (by kernel_rfl))) ?_
    refine steps_cons (st_put 0 _ rfl rfl rfl rfl (fun _ _ _ _ => rfl) rfl rfl rfl (by rfl) (fun b G w hb ho hr => exec_put1 hr (Nat.le_of_ble_eq_true rfl) (by kernel_rfl) rfl (ev_on hLo 14 rfl HS6.1 rfl (hb 14 (by rfl))) (ev_on hLo 12 rfl HS6.1 rfl (hb 12 (by rfl))))) ?_
    exact steps_nil
  clear hLo
  intro G a7 w7 hS hH
  have HS7 : Sl a7 63 [(4, .slice (A3) (rs.length) (c3)), (5, .int .i64 (((cat ls).size : Int))), (6, .bool true), (0, .pointer (some ⟨g, 0, none⟩)), (2, .slice (none) (0) (0)), (3, .int .i64 (0)), (11, .bool false), (27, .bool false), (34, .bool false)] := hS
  have HH7 : Held ⟨w3, [g]⟩ w7 [⟨g, (), 6, upd (rpC ⟨safe, waits, true, acts, inn, keep⟩) 1 (.s ((waits).extract 0 ((cat ls).size - safe.size))), 51⟩] := hH
  clear hS hH HS6 HH6
  refine then_ ?_
  refine wp_seq ?_
  have hLo : LOk [(0, 62, .val (.slice (A3) (rs.length) (c3))), (1, 2, .val (.slice (A3) (rs.length) (c3))), (2, 3, .val (.int .i64 (0)))] := lok (by rfl) (by rfl)
  refine plain_ (wE := ⟨w3, [g]⟩) (sz := 63) (n := 3) [0, 1, 3] [(4, .val (.slice (A3) (rs.length) (c3))), (5, .val (.int .i64 (((cat ls).size : Int)))), (6, .val (.bool true)), (0, .val (.pointer (some ⟨g, 0, none⟩))), (11, .val (.bool false)), (27, .val (.bool false)), (34, .val (.bool false)), (2, .val (.slice (A3) (rs.length) (c3))), (3, .val (.int .i64 (0)))] [(0, 62, .val (.slice (A3) (rs.length) (c3))), (1, 2, .val (.slice (A3) (rs.length) (c3))), (2, 3, .val (.int .i64 (0)))] [⟨g, none, none, (), 6, upd (rpC ⟨safe, waits, true, acts, inn, keep⟩) 1 (.s ((waits).extract 0 ((cat ls).size - safe.size))), upd (rpC ⟨safe, waits, true, acts, inn, keep⟩) 1 (.s ((waits).extract 0 ((cat ls).size - safe.size))), 51⟩] rfl (by rfl) HH7 rfl rfl hLo rfl HS7 (slS 0 rfl rfl (slS 1 rfl rfl (slS 2 rfl rfl (slS 3 rfl rfl (slS 6 rfl rfl (slS 7 rfl rfl (slS 8 rfl rfl (slL 1 (d := 1) rfl (slL 2 (d := 2) rfl (trivial)))))))))) ?_ ?_
  · show ∀ i ∈ [0, 1, 2], _
    refine steps_cons (st_run 0 _ rfl rfl hLo rfl rfl (fun _ _ _ _ => rfl) (fun b G w hb ho => exec_move (.inl rfl) (ev_off rfl (HS7.get 0 rfl)))) ?_
    refine steps_cons (st_run 1 _ rfl rfl hLo rfl rfl (fun _ _ _ _ => rfl) (fun b G w hb ho => exec_move (.inr rfl) (ev_on hLo 0 rfl HS7.1 rfl (hb 0 (by rfl))))) ?_
    refine steps_cons (st_run 2 _ rfl rfl hLo rfl rfl (fun _ _ _ _ => rfl) (fun b G w hb ho => exec_move (.inr rfl) (rfl))) ?_
    exact steps_nil
  clear hLo
  intro G a8 w8 hS hH
  have HS8 : Sl a8 63 [(4, .slice (A3) (rs.length) (c3)), (5, .int .i64 (((cat ls).size : Int))), (6, .bool true), (0, .pointer (some ⟨g, 0, none⟩)), (11, .bool false), (27, .bool false), (34, .bool false), (2, .slice (A3) (rs.length) (c3)), (3, .int .i64 (0))] := hS
  have HH8 : Held ⟨w3, [g]⟩ w8 [⟨g, (), 6, upd (rpC ⟨safe, waits, true, acts, inn, keep⟩) 1 (.s ((waits).extract 0 ((cat ls).size - safe.size))), 51⟩] := hH
  clear hS hH HS7 HH7
  refine then_ ?_
  refine wp_ret ?_
  repeat (first | refine then_ret ?_ | refine inBlock_ret' ?_)
  exact b_tmp2 rfl HS8.2.1 (HS8.get 7 rfl) (HS8.get 8 rfl) ⟨⟨A3, c3, rfl, hT3.over HH8.1 (allLt1 (by omega))⟩, Row.norm (HH8.row 0 rfl) (six ⟨rfl, rfl, rfl, rfl, rfl, rfl⟩), fr_join2 hr hF0_4 HH8.1⟩
theorem ready_nil (w : World) : Calls Try.prog 29 #[.pointer none] w fun e w' => e = .returned (.int .i64 2) ∧ Below w.heap.size w w' := by
  refine enter_ 11 Try.func29 rfl rfl (fun a0 hS => ?_)
  have HS0 : Sl a0 11 [(0, .pointer none)] := hS
  have HH0 : Held ⟨w, []⟩ w [] := Held.first w []
  clear hS
  refine wp_seq ?_
  have hLo : LOk [(0, 2, .val (.int .i64 (0)))] := lok (by rfl) (by rfl)
  refine plain_ (wE := ⟨w, []⟩) (sz := 11) (n := 1) [0] [(0, .val (.pointer none)), (2, .val (.int .i64 (0)))] [(0, 2, .val (.int .i64 (0)))] [] rfl (by rfl) HH0 rfl rfl hLo rfl HS0 (slS 0 rfl rfl (slL 0 (d := 0) rfl (trivial))) ?_ ?_
  · show ∀ i ∈ [0], _
    refine steps_cons (st_run 0 _ rfl rfl hLo rfl rfl (fun _ _ _ _ => rfl) (fun b G w hb ho => exec_move (.inr rfl) (rfl))) ?_
    exact steps_nil
  clear hLo
  intro G a1 w1 hS hH
  have HS1 : Sl a1 11 [(0, .pointer none), (2, .int .i64 (0))] := hS
  have HH1 : Held ⟨w, []⟩ w1 [] := hH
  clear hS hH HS0 HH0
  refine then_ ?_
  refine wp_seq ?_
  refine wp_block ?_
  refine wp_seq ?_
  have hLo : LOk [(0, 4, .val (.pointer none)), (1, 5, .val (.bool true)), (2, 3, .val (.bool true))] := lok (by rfl) (by rfl)
  refine plain_ (wE := ⟨w, []⟩) (sz := 11) (n := 3) [0, 1, 3] [(0, .val (.pointer none)), (2, .val (.int .i64 (0))), (3, .val (.bool true))] [(0, 4, .val (.pointer none)), (1, 5, .val (.bool true)), (2, 3, .val (.bool true))] [] rfl (by rfl) HH1 rfl rfl hLo rfl HS1 (slS 0 rfl rfl (slS 1 rfl rfl (slL 2 (d := 2) rfl (trivial)))) ?_ ?_
  · show ∀ i ∈ [0, 1, 2], _
    refine steps_cons (st_run 0 _ rfl rfl hLo rfl rfl (fun _ _ _ _ => rfl) (fun b G w hb ho => exec_move (.inl rfl) (ev_off rfl (HS1.get 0 rfl)))) ?_
    refine steps_cons (st_run 1 _ rfl rfl hLo rfl rfl (fun _ _ _ _ => rfl) (fun b G w hb ho => exec_bin rfl (ev_on hLo 0 rfl HS1.1 rfl (hb 0 (by rfl))) (rfl) (rp_eql ⟨_, Try.underlying23⟩ rfl _ _ _))) ?_
    refine steps_cons (st_run 2 _ rfl rfl hLo rfl rfl (fun _ _ _ _ => rfl) (fun b G w hb ho => exec_move (.inr rfl) (ev_on hLo 1 rfl HS1.1 rfl (hb 1 (by rfl))))) ?_
    exact steps_nil
  clear hLo
  intro G a2 w2 hS hH
  have HS2 : Sl a2 11 [(0, .pointer none), (2, .int .i64 (0)), (3, .bool true)] := hS
  have HH2 : Held ⟨w, []⟩ w2 [] := hH
  clear hS hH HS1 HH1
  refine then_ ?_
  refine wp_cond_true (HS2.get 2 rfl) ?_
  refine wp_seq ?_
  have hLo : LOk [(0, 2, .val (.int .i64 (2)))] := lok (by rfl) (by rfl)
  refine plain_ (wE := ⟨w, []⟩) (sz := 11) (n := 1) [0] [(0, .val (.pointer none)), (3, .val (.bool true)), (2, .val (.int .i64 (2)))] [(0, 2, .val (.int .i64 (2)))] [] rfl (by rfl) HH2 rfl rfl hLo rfl HS2 (slS 0 rfl rfl (slS 2 rfl rfl (slL 0 (d := 0) rfl (trivial)))) ?_ ?_
  · show ∀ i ∈ [0], _
    refine steps_cons (st_run 0 _ rfl rfl hLo rfl rfl (fun _ _ _ _ => rfl) (fun b G w hb ho => exec_move (.inr rfl) (rfl))) ?_
    exact steps_nil
  clear hLo
  intro G a3 w3 hS hH
  have HS3 : Sl a3 11 [(0, .pointer none), (3, .bool true), (2, .int .i64 (2))] := hS
  have HH3 : Held ⟨w, []⟩ w3 [] := hH
  clear hS hH HS2 HH2
  refine then_ ?_
  refine wp_ret ?_
  repeat (first | refine then_ret ?_ | refine inBlock_ret' ?_)
  exact b_tmp rfl HS3.2.1 (HS3.get 2 rfl) ⟨rfl, HH3.1.below⟩
theorem off_nil {k : Int} (w : World) : Calls Try.prog 18 #[.pointer none, .int .i64 (k)] w fun e w' => e = .returned (.tuple #[]) ∧ Below w.heap.size w w' := by
  refine enter_ 52 Try.func18 rfl rfl (fun a0 hS => ?_)
  have HS0 : Sl a0 52 [(0, .pointer none), (1, .int .i64 (k))] := hS
  have HH0 : Held ⟨w, []⟩ w [] := Held.first w []
  clear hS
  refine wp_seq ?_
  refine wp_seq ?_
  have hLo : LOk [(0, 4, .val (.pointer none)), (1, 5, .val (.bool true)), (2, 6, .val (.bool true)), (3, 7, .val (undef)), (4, 8, .val (undef)), (5, 9, .val (undef)), (6, 10, .val (undef)), (7, 11, .val (.bool true))] := lok (by rfl) (by rfl)
  refine plain_ (wE := ⟨w, []⟩) (sz := 52) (n := 8) [0, 1, 3, 7, 15, 31, 63, 127] [(0, .val (.pointer none)), (1, .val (.int .i64 (k))), (11, .val (.bool true))] [(0, 4, .val (.pointer none)), (1, 5, .val (.bool true)), (2, 6, .val (.bool true)), (3, 7, .val (undef)), (4, 8, .val (undef)), (5, 9, .val (undef)), (6, 10, .val (undef)), (7, 11, .val (.bool true))] [] rfl (by rfl) HH0 rfl rfl hLo rfl HS0 (slS 0 rfl rfl (slS 1 rfl rfl (slL 7 (d := 7) rfl (trivial)))) ?_ ?_
  · show ∀ i ∈ [0, 1, 2, 3, 4, 5, 6, 7], _
    refine steps_cons (st_run 0 _ rfl rfl hLo rfl rfl (fun _ _ _ _ => rfl) (fun b G w hb ho => exec_move (.inl rfl) (ev_off rfl (HS0.get 0 rfl)))) ?_
    refine steps_cons (st_run 1 _ rfl rfl hLo rfl rfl (fun _ _ _ _ => rfl) (fun b G w hb ho => exec_bin rfl (ev_on hLo 0 rfl HS0.1 rfl (hb 0 (by rfl))) (rfl) (rp_eql ⟨_, Try.underlying23⟩ rfl _ _ _))) ?_
    refine steps_cons (st_run 2 _ rfl rfl hLo rfl rfl (fun _ _ _ _ => rfl) (fun b G w hb ho => exec_move (.inl rfl) (ev_on hLo 1 rfl HS0.1 rfl (hb 1 (by rfl))))) ?_
    refine steps_cons (st_skip 3 rfl rfl hLo rfl rfl (fun b G hb ho => wanted_is rfl rfl rfl HS0.1 rfl (ev_on hLo 2 rfl HS0.1 rfl (hb 2 (by rfl))) rfl)) ?_
    refine steps_cons (st_skip 4 rfl rfl hLo rfl rfl (fun b G hb ho => wanted_is rfl rfl rfl HS0.1 rfl (ev_on hLo 2 rfl HS0.1 rfl (hb 2 (by rfl))) rfl)) ?_
    refine steps_cons (st_skip 5 rfl rfl hLo rfl rfl (fun b G hb ho => wanted_is rfl rfl rfl HS0.1 rfl (ev_on hLo 2 rfl HS0.1 rfl (hb 2 (by rfl))) rfl)) ?_
    refine steps_cons (st_skip 6 rfl rfl hLo rfl rfl (fun b G hb ho => wanted_is rfl rfl rfl HS0.1 rfl (ev_on hLo 2 rfl HS0.1 rfl (hb 2 (by rfl))) rfl)) ?_
    refine steps_cons (st_run 7 _ rfl rfl hLo rfl rfl (fun _ _ _ _ => rfl) (fun b G w hb ho => exec_pick rfl (ev_on hLo 2 rfl HS0.1 rfl (hb 2 (by rfl))) (rfl))) ?_
    exact steps_nil
  clear hLo
  intro G a1 w1 hS hH
  have HS1 : Sl a1 52 [(0, .pointer none), (1, .int .i64 (k)), (11, .bool true)] := hS
  have HH1 : Held ⟨w, []⟩ w1 [] := hH
  clear hS hH HS0 HH0
  refine then_ ?_
  refine wp_cond_true (HS1.get 2 rfl) ?_
  refine wp_ret ?_
  repeat (first | refine then_ret ?_ | refine inBlock_ret' ?_)
  exact b_none rfl HS1.2.1 ⟨rfl, HH1.1.below⟩
theorem on_nil (w : World) : Calls Try.prog 21 #[.pointer none] w fun e w' => e = .returned (.tuple #[]) ∧ Below w.heap.size w w' := by
  refine enter_ 7 Try.func21 rfl rfl (fun a0 hS => ?_)
  have HS0 : Sl a0 7 [(0, .pointer none)] := hS
  have HH0 : Held ⟨w, []⟩ w [] := Held.first w []
  clear hS
  refine wp_seq ?_
  have hLo : LOk [(0, 2, .val (.pointer none)), (1, 3, .val (.bool false))] := lok (by rfl) (by rfl)
  refine plain_ (wE := ⟨w, []⟩) (sz := 7) (n := 2) [0, 1] [(0, .val (.pointer none)), (3, .val (.bool false))] [(0, 2, .val (.pointer none)), (1, 3, .val (.bool false))] [] rfl (by rfl) HH0 rfl rfl hLo rfl HS0 (slS 0 rfl rfl (slL 1 (d := 1) rfl (trivial))) ?_ ?_
  · show ∀ i ∈ [0, 1], _
    refine steps_cons (st_run 0 _ rfl rfl hLo rfl rfl (fun _ _ _ _ => rfl) (fun b G w hb ho => exec_move (.inl rfl) (ev_off rfl (HS0.get 0 rfl)))) ?_
    refine steps_cons (st_run 1 _ rfl rfl hLo rfl rfl (fun _ _ _ _ => rfl) (fun b G w hb ho => exec_bin rfl (ev_on hLo 0 rfl HS0.1 rfl (hb 0 (by rfl))) (rfl) (rp_neq ⟨_, Try.underlying23⟩ rfl _ _ _))) ?_
    exact steps_nil
  clear hLo
  intro G a1 w1 hS hH
  have HS1 : Sl a1 7 [(0, .pointer none), (3, .bool false)] := hS
  have HH1 : Held ⟨w, []⟩ w1 [] := hH
  clear hS hH HS0 HH0
  refine then_ ?_
  refine wp_cond_false (HS1.get 1 rfl) ?_
  refine wp_skip ?_
  exact b_fall rfl HS1.2.1 ⟨rfl, HH1.1.below⟩
theorem arm_nil {n k : Int} (w : World) : Calls Try.prog 20 #[.pointer none, .int .i64 (n), .int .i64 (k)] w fun e w' => e = .returned (.tuple #[]) ∧ Below w.heap.size w w' := by
  refine enter_ 17 Try.func20 rfl rfl (fun a0 hS => ?_)
  have HS0 : Sl a0 17 [(0, .pointer none), (1, .int .i64 (n)), (2, .int .i64 (k))] := hS
  have HH0 : Held ⟨w, []⟩ w [] := Held.first w []
  clear hS
  refine wp_seq ?_
  have hLo : LOk [(0, 6, .val (.pointer none)), (1, 7, .val (.bool false))] := lok (by rfl) (by rfl)
  refine plain_ (wE := ⟨w, []⟩) (sz := 17) (n := 2) [0, 1] [(0, .val (.pointer none)), (1, .val (.int .i64 (n))), (2, .val (.int .i64 (k))), (7, .val (.bool false))] [(0, 6, .val (.pointer none)), (1, 7, .val (.bool false))] [] rfl (by rfl) HH0 rfl rfl hLo rfl HS0 (slS 0 rfl rfl (slS 1 rfl rfl (slS 2 rfl rfl (slL 1 (d := 1) rfl (trivial))))) ?_ ?_
  · show ∀ i ∈ [0, 1], _
    refine steps_cons (st_run 0 _ rfl rfl hLo rfl rfl (fun _ _ _ _ => rfl) (fun b G w hb ho => exec_move (.inl rfl) (ev_off rfl (HS0.get 0 rfl)))) ?_
    refine steps_cons (st_run 1 _ rfl rfl hLo rfl rfl (fun _ _ _ _ => rfl) (fun b G w hb ho => exec_bin rfl (ev_on hLo 0 rfl HS0.1 rfl (hb 0 (by rfl))) (rfl) (rp_neq ⟨_, Try.underlying23⟩ rfl _ _ _))) ?_
    exact steps_nil
  clear hLo
  intro G a1 w1 hS hH
  have HS1 : Sl a1 17 [(0, .pointer none), (1, .int .i64 (n)), (2, .int .i64 (k)), (7, .bool false)] := hS
  have HH1 : Held ⟨w, []⟩ w1 [] := hH
  clear hS hH HS0 HH0
  refine then_ ?_
  refine wp_cond_false (HS1.get 3 rfl) ?_
  refine wp_skip ?_
  exact b_fall rfl HS1.2.1 ⟨rfl, HH1.1.below⟩
theorem acts_nil (w : World) : Calls Try.prog 14 #[.pointer none] w fun e w' => e = .returned (.int .i64 0) ∧ Below w.heap.size w w' := by
  refine enter_ 9 Try.func14 rfl rfl (fun a0 hS => ?_)
  have HS0 : Sl a0 9 [(0, .pointer none)] := hS
  have HH0 : Held ⟨w, []⟩ w [] := Held.first w []
  clear hS
  refine wp_seq ?_
  have hLo : LOk [(0, 2, .val (.int .i64 (0)))] := lok (by rfl) (by rfl)
  refine plain_ (wE := ⟨w, []⟩) (sz := 9) (n := 1) [0] [(0, .val (.pointer none)), (2, .val (.int .i64 (0)))] [(0, 2, .val (.int .i64 (0)))] [] rfl (by rfl) HH0 rfl rfl hLo rfl HS0 (slS 0 rfl rfl (slL 0 (d := 0) rfl (trivial))) ?_ ?_
  · show ∀ i ∈ [0], _
    refine steps_cons (st_run 0 _ rfl rfl hLo rfl rfl (fun _ _ _ _ => rfl) (fun b G w hb ho => exec_move (.inr rfl) (rfl))) ?_
    exact steps_nil
  clear hLo
  intro G a1 w1 hS hH
  have HS1 : Sl a1 9 [(0, .pointer none), (2, .int .i64 (0))] := hS
  have HH1 : Held ⟨w, []⟩ w1 [] := hH
  clear hS hH HS0 HH0
  refine then_ ?_
  refine wp_seq ?_
  refine wp_seq ?_
  have hLo : LOk [(0, 3, .val (.pointer none)), (1, 4, .val (.bool true))] := lok (by rfl) (by rfl)
  refine plain_ (wE := ⟨w, []⟩) (sz := 9) (n := 2) [0, 1] [(0, .val (.pointer none)), (2, .val (.int .i64 (0))), (4, .val (.bool true))] [(0, 3, .val (.pointer none)), (1, 4, .val (.bool true))] [] rfl (by rfl) HH1 rfl rfl hLo rfl HS1 (slS 0 rfl rfl (slS 1 rfl rfl (slL 1 (d := 1) rfl (trivial)))) ?_ ?_
  · show ∀ i ∈ [0, 1], _
    refine steps_cons (st_run 0 _ rfl rfl hLo rfl rfl (fun _ _ _ _ => rfl) (fun b G w hb ho => exec_move (.inl rfl) (ev_off rfl (HS1.get 0 rfl)))) ?_
    refine steps_cons (st_run 1 _ rfl rfl hLo rfl rfl (fun _ _ _ _ => rfl) (fun b G w hb ho => exec_bin rfl (ev_on hLo 0 rfl HS1.1 rfl (hb 0 (by rfl))) (rfl) (rp_eql ⟨_, Try.underlying23⟩ rfl _ _ _))) ?_
    exact steps_nil
  clear hLo
  intro G a2 w2 hS hH
  have HS2 : Sl a2 9 [(0, .pointer none), (2, .int .i64 (0)), (4, .bool true)] := hS
  have HH2 : Held ⟨w, []⟩ w2 [] := hH
  clear hS hH HS1 HH1
  refine then_ ?_
  refine wp_cond_true (HS2.get 2 rfl) ?_
  refine wp_seq ?_
  have hLo : LOk [(0, 2, .val (.int .i64 (0)))] := lok (by rfl) (by rfl)
  refine plain_ (wE := ⟨w, []⟩) (sz := 9) (n := 1) [0] [(0, .val (.pointer none)), (4, .val (.bool true)), (2, .val (.int .i64 (0)))] [(0, 2, .val (.int .i64 (0)))] [] rfl (by rfl) HH2 rfl rfl hLo rfl HS2 (slS 0 rfl rfl (slS 2 rfl rfl (slL 0 (d := 0) rfl (trivial)))) ?_ ?_
  · show ∀ i ∈ [0], _
    refine steps_cons (st_run 0 _ rfl rfl hLo rfl rfl (fun _ _ _ _ => rfl) (fun b G w hb ho => exec_move (.inr rfl) (rfl))) ?_
    exact steps_nil
  clear hLo
  intro G a3 w3 hS hH
  have HS3 : Sl a3 9 [(0, .pointer none), (4, .bool true), (2, .int .i64 (0))] := hS
  have HH3 : Held ⟨w, []⟩ w3 [] := hH
  clear hS hH HS2 HH2
  refine then_ ?_
  refine wp_ret ?_
  repeat (first | refine then_ret ?_ | refine inBlock_ret' ?_)
  exact b_tmp rfl HS3.2.1 (HS3.get 2 rfl) ⟨rfl, HH3.1.below⟩
theorem down_nil (w : World) : Calls Try.prog 19 #[.pointer none] w fun e w' => e = .returned (.bool false) ∧ Below w.heap.size w w' := by
  refine enter_ 11 Try.func19 rfl rfl (fun a0 hS => ?_)
  have HS0 : Sl a0 11 [(0, .pointer none)] := hS
  have HH0 : Held ⟨w, []⟩ w [] := Held.first w []
  clear hS
  refine wp_seq ?_
  have hLo : LOk [(0, 2, .val (.bool false))] := lok (by rfl) (by rfl)
  refine plain_ (wE := ⟨w, []⟩) (sz := 11) (n := 1) [0] [(0, .val (.pointer none)), (2, .val (.bool false))] [(0, 2, .val (.bool false))] [] rfl (by rfl) HH0 rfl rfl hLo rfl HS0 (slS 0 rfl rfl (slL 0 (d := 0) rfl (trivial))) ?_ ?_
  · show ∀ i ∈ [0], _
    refine steps_cons (st_run 0 _ rfl rfl hLo rfl rfl (fun _ _ _ _ => rfl) (fun b G w hb ho => exec_move (.inr rfl) (rfl))) ?_
    exact steps_nil
  clear hLo
  intro G a1 w1 hS hH
  have HS1 : Sl a1 11 [(0, .pointer none), (2, .bool false)] := hS
  have HH1 : Held ⟨w, []⟩ w1 [] := hH
  clear hS hH HS0 HH0
  refine then_ ?_
  refine wp_seq ?_
  have hLo : LOk [(0, 3, .val (.pointer none)), (1, 4, .val (.bool false)), (2, 5, .val (.bool false)), (3, 6, .val (undef)), (4, 7, .val (undef)), (5, 8, .val (undef)), (6, 9, .val (undef)), (7, 10, .val (.bool false)), (8, 2, .val (.bool false))] := lok (by rfl) (by rfl)
  refine plain_ (wE := ⟨w, []⟩) (sz := 11) (n := 9) [0, 1, 3, 7, 15, 31, 63, 127, 255] [(0, .val (.pointer none)), (2, .val (.bool false))] [(0, 3, .val (.pointer none)), (1, 4, .val (.bool false)), (2, 5, .val (.bool false)), (3, 6, .val (undef)), (4, 7, .val (undef)), (5, 8, .val (undef)), (6, 9, .val (undef)), (7, 10, .val (.bool false)), (8, 2, .val (.bool false))] [] rfl (by rfl) HH1 rfl rfl hLo rfl HS1 (slS 0 rfl rfl (slL 8 (d := 8) rfl (trivial))) ?_ ?_
  · show ∀ i ∈ [0, 1, 2, 3, 4, 5, 6, 7, 8], _
    refine steps_cons (st_run 0 _ rfl rfl hLo rfl rfl (fun _ _ _ _ => rfl) (fun b G w hb ho => exec_move (.inl rfl) (ev_off rfl (HS1.get 0 rfl)))) ?_
    refine steps_cons (st_run 1 _ rfl rfl hLo rfl rfl (fun _ _ _ _ => rfl) (fun b G w hb ho => exec_bin rfl (ev_on hLo 0 rfl HS1.1 rfl (hb 0 (by rfl))) (rfl) (rp_neq ⟨_, Try.underlying23⟩ rfl _ _ _))) ?_
    refine steps_cons (st_run 2 _ rfl rfl hLo rfl rfl (fun _ _ _ _ => rfl) (fun b G w hb ho => exec_move (.inl rfl) (ev_on hLo 1 rfl HS1.1 rfl (hb 1 (by rfl))))) ?_
    refine steps_cons (st_skip 3 rfl rfl hLo rfl rfl (fun b G hb ho => wanted_is rfl rfl rfl HS1.1 rfl (ev_on hLo 2 rfl HS1.1 rfl (hb 2 (by rfl))) rfl)) ?_
    refine steps_cons (st_skip 4 rfl rfl hLo rfl rfl (fun b G hb ho => wanted_is rfl rfl rfl HS1.1 rfl (ev_on hLo 2 rfl HS1.1 rfl (hb 2 (by rfl))) rfl)) ?_
    refine steps_cons (st_skip 5 rfl rfl hLo rfl rfl (fun b G hb ho => wanted_is rfl rfl rfl HS1.1 rfl (ev_on hLo 2 rfl HS1.1 rfl (hb 2 (by rfl))) rfl)) ?_
    refine steps_cons (st_skip 6 rfl rfl hLo rfl rfl (fun b G hb ho => wanted_is rfl rfl rfl HS1.1 rfl (ev_on hLo 2 rfl HS1.1 rfl (hb 2 (by rfl))) rfl)) ?_
    refine steps_cons (st_run 7 _ rfl rfl hLo rfl rfl (fun _ _ _ _ => rfl) (fun b G w hb ho => exec_pick rfl (ev_on hLo 2 rfl HS1.1 rfl (hb 2 (by rfl))) (rfl))) ?_
    refine steps_cons (st_run 8 _ rfl rfl hLo rfl rfl (fun _ _ _ _ => rfl) (fun b G w hb ho => exec_move (.inr rfl) (ev_on hLo 7 rfl HS1.1 rfl (hb 7 (by rfl))))) ?_
    exact steps_nil
  clear hLo
  intro G a2 w2 hS hH
  have HS2 : Sl a2 11 [(0, .pointer none), (2, .bool false)] := hS
  have HH2 : Held ⟨w, []⟩ w2 [] := hH
  clear hS hH HS1 HH1
  refine then_ ?_
  refine wp_ret ?_
  repeat (first | refine then_ret ?_ | refine inBlock_ret' ?_)
  exact b_tmp rfl HS2.2.1 (HS2.get 1 rfl) ⟨rfl, HH2.1.below⟩
theorem bytes_nil (w : World) : Calls Try.prog 13 #[.pointer none] w fun e w' => e = .returned (.string ByteArray.empty) ∧ Below w.heap.size w w' := by
  refine enter_ 9 Try.func13 rfl rfl (fun a0 hS => ?_)
  have HS0 : Sl a0 9 [(0, .pointer none)] := hS
  have HH0 : Held ⟨w, []⟩ w [] := Held.first w []
  clear hS
  refine wp_seq ?_
  have hLo : LOk [(0, 2, .val (.string (ByteArray.empty)))] := lok (by rfl) (by rfl)
  refine plain_ (wE := ⟨w, []⟩) (sz := 9) (n := 1) [0] [(0, .val (.pointer none)), (2, .val (.string (ByteArray.empty)))] [(0, 2, .val (.string (ByteArray.empty)))] [] rfl (by rfl) HH0 rfl rfl hLo rfl HS0 (slS 0 rfl rfl (slL 0 (d := 0) rfl (trivial))) ?_ ?_
  · show ∀ i ∈ [0], _
    refine steps_cons (st_run 0 _ rfl rfl hLo rfl rfl (fun _ _ _ _ => rfl) (fun b G w hb ho => exec_move (.inr rfl) (rfl))) ?_
    exact steps_nil
  clear hLo
  intro G a1 w1 hS hH
  have HS1 : Sl a1 9 [(0, .pointer none), (2, .string (ByteArray.empty))] := hS
  have HH1 : Held ⟨w, []⟩ w1 [] := hH
  clear hS hH HS0 HH0
  refine then_ ?_
  refine wp_seq ?_
  refine wp_seq ?_
  have hLo : LOk [(0, 3, .val (.pointer none)), (1, 4, .val (.bool true))] := lok (by rfl) (by rfl)
  refine plain_ (wE := ⟨w, []⟩) (sz := 9) (n := 2) [0, 1] [(0, .val (.pointer none)), (2, .val (.string (ByteArray.empty))), (4, .val (.bool true))] [(0, 3, .val (.pointer none)), (1, 4, .val (.bool true))] [] rfl (by rfl) HH1 rfl rfl hLo rfl HS1 (slS 0 rfl rfl (slS 1 rfl rfl (slL 1 (d := 1) rfl (trivial)))) ?_ ?_
  · show ∀ i ∈ [0, 1], _
    refine steps_cons (st_run 0 _ rfl rfl hLo rfl rfl (fun _ _ _ _ => rfl) (fun b G w hb ho => exec_move (.inl rfl) (ev_off rfl (HS1.get 0 rfl)))) ?_
    refine steps_cons (st_run 1 _ rfl rfl hLo rfl rfl (fun _ _ _ _ => rfl) (fun b G w hb ho => exec_bin rfl (ev_on hLo 0 rfl HS1.1 rfl (hb 0 (by rfl))) (rfl) (rp_eql ⟨_, Try.underlying23⟩ rfl _ _ _))) ?_
    exact steps_nil
  clear hLo
  intro G a2 w2 hS hH
  have HS2 : Sl a2 9 [(0, .pointer none), (2, .string (ByteArray.empty)), (4, .bool true)] := hS
  have HH2 : Held ⟨w, []⟩ w2 [] := hH
  clear hS hH HS1 HH1
  refine then_ ?_
  refine wp_cond_true (HS2.get 2 rfl) ?_
  refine wp_seq ?_
  have hLo : LOk [(0, 2, .val (.string (ByteArray.empty)))] := lok (by rfl) (by rfl)
  refine plain_ (wE := ⟨w, []⟩) (sz := 9) (n := 1) [0] [(0, .val (.pointer none)), (4, .val (.bool true)), (2, .val (.string (ByteArray.empty)))] [(0, 2, .val (.string (ByteArray.empty)))] [] rfl (by rfl) HH2 rfl rfl hLo rfl HS2 (slS 0 rfl rfl (slS 2 rfl rfl (slL 0 (d := 0) rfl (trivial)))) ?_ ?_
  · show ∀ i ∈ [0], _
    refine steps_cons (st_run 0 _ rfl rfl hLo rfl rfl (fun _ _ _ _ => rfl) (fun b G w hb ho => exec_move (.inr rfl) (rfl))) ?_
    exact steps_nil
  clear hLo
  intro G a3 w3 hS hH
  have HS3 : Sl a3 9 [(0, .pointer none), (4, .bool true), (2, .string (ByteArray.empty))] := hS
  have HH3 : Held ⟨w, []⟩ w3 [] := hH
  clear hS hH HS2 HH2
  refine then_ ?_
  refine wp_ret ?_
  repeat (first | refine then_ret ?_ | refine inBlock_ret' ?_)
  exact b_tmp rfl HS3.2.1 (HS3.get 2 rfl) ⟨rfl, HH3.1.below⟩
theorem app_nil {r : ByteArray} (w : World) : Calls Try.prog 16 #[.pointer none, .string (r)] w fun e w' => e = .returned (.int .i64 2) ∧ Below w.heap.size w w' := by
  refine enter_ 35 Try.func16 rfl rfl (fun a0 hS => ?_)
  have HS0 : Sl a0 35 [(0, .pointer none), (1, .string (r))] := hS
  have HH0 : Held ⟨w, []⟩ w [] := Held.first w []
  clear hS
  refine wp_seq ?_
  have hLo : LOk [(0, 4, .val (.int .i64 (0)))] := lok (by rfl) (by rfl)
  refine plain_ (wE := ⟨w, []⟩) (sz := 35) (n := 1) [0] [(0, .val (.pointer none)), (1, .val (.string (r))), (4, .val (.int .i64 (0)))] [(0, 4, .val (.int .i64 (0)))] [] rfl (by rfl) HH0 rfl rfl hLo rfl HS0 (slS 0 rfl rfl (slS 1 rfl rfl (slL 0 (d := 0) rfl (trivial)))) ?_ ?_
  · show ∀ i ∈ [0], _
    refine steps_cons (st_run 0 _ rfl rfl hLo rfl rfl (fun _ _ _ _ => rfl) (fun b G w hb ho => exec_move (.inr rfl) (rfl))) ?_
    exact steps_nil
  clear hLo
  intro G a1 w1 hS hH
  have HS1 : Sl a1 35 [(0, .pointer none), (1, .string (r)), (4, .int .i64 (0))] := hS
  have HH1 : Held ⟨w, []⟩ w1 [] := hH
  clear hS hH HS0 HH0
  refine then_ ?_
  refine wp_seq ?_
  refine wp_seq ?_
  have hLo : LOk [(0, 6, .val (.pointer none)), (1, 7, .val (.int .i64 (2))), (2, 5, .val (.int .i64 (2)))] := lok (by rfl) (by rfl)
  refine plain_ (wE := ⟨w, []⟩) (sz := 35) (n := 3) [0, 1, 3] [(0, .val (.pointer none)), (1, .val (.string (r))), (4, .val (.int .i64 (0))), (5, .val (.int .i64 (2)))] [(0, 6, .val (.pointer none)), (1, 7, .val (.int .i64 (2))), (2, 5, .val (.int .i64 (2)))] [] rfl (by rfl) HH1 rfl rfl hLo rfl HS1 (slS 0 rfl rfl (slS 1 rfl rfl (slS 2 rfl rfl (slL 2 (d := 2) rfl (trivial))))) ?_ ?_
  · show ∀ i ∈ [0, 1, 2], _
    refine steps_cons (st_run 0 _ rfl rfl hLo rfl rfl (fun _ _ _ _ => rfl) (fun b G w hb ho => exec_move (.inl rfl) (ev_off rfl (HS1.get 0 rfl)))) ?_
    refine steps_cons (st_call 1 _ #[.pointer none] rfl rfl rfl (fun _ _ _ _ => rfl) hLo rfl rfl Try.func29 rfl rfl (fun b G hb ho => args1 (ev_on hLo 0 rfl HS1.1 rfl (hb 0 (by rfl)))) (fun w hw => ready_nil _)) ?_
    refine steps_cons (st_run 2 _ rfl rfl hLo rfl rfl (fun _ _ _ _ => rfl) (fun b G w hb ho => exec_move (.inr rfl) (ev_on hLo 1 rfl HS1.1 rfl (hb 1 (by rfl))))) ?_
    exact steps_nil
  clear hLo
  intro G a2 w2 hS hH
  have HS2 : Sl a2 35 [(0, .pointer none), (1, .string (r)), (4, .int .i64 (0)), (5, .int .i64 (2))] := hS
  have HH2 : Held ⟨w, []⟩ w2 [] := hH
  clear hS hH HS1 HH1
  refine then_ ?_
  refine wp_seq ?_
  have hLo : LOk [(0, 8, .val (.int .i64 (2))), (1, 9, .val (.bool true))] := lok (by rfl) (by rfl)
  refine plain_ (wE := ⟨w, []⟩) (sz := 35) (n := 2) [0, 1] [(0, .val (.pointer none)), (1, .val (.string (r))), (4, .val (.int .i64 (0))), (5, .val (.int .i64 (2))), (9, .val (.bool true))] [(0, 8, .val (.int .i64 (2))), (1, 9, .val (.bool true))] [] rfl (by rfl) HH2 rfl rfl hLo rfl HS2 (slS 0 rfl rfl (slS 1 rfl rfl (slS 2 rfl rfl (slS 3 rfl rfl (slL 1 (d := 1) rfl (trivial)))))) ?_ ?_
  · show ∀ i ∈ [0, 1], _
    refine steps_cons (st_run 0 _ rfl rfl hLo rfl rfl (fun _ _ _ _ => rfl) (fun b G w hb ho => exec_move (.inl rfl) (ev_off rfl (HS2.get 3 rfl)))) ?_
    refine steps_cons (st_run 1 _ rfl rfl hLo rfl rfl (fun _ _ _ _ => rfl) (fun b G w hb ho => exec_bin rfl (ev_on hLo 0 rfl HS2.1 rfl (hb 0 (by rfl))) (rfl) (rb_neq (rfl) _ _ _))) ?_
    exact steps_nil
  clear hLo
  intro G a3 w3 hS hH
  have HS3 : Sl a3 35 [(0, .pointer none), (1, .string (r)), (4, .int .i64 (0)), (5, .int .i64 (2)), (9, .bool true)] := hS
  have HH3 : Held ⟨w, []⟩ w3 [] := hH
  clear hS hH HS2 HH2
  refine then_ ?_
  refine wp_cond_true (HS3.get 4 rfl) ?_
  refine wp_seq ?_
  have hLo : LOk [(0, 10, .val (.int .i64 (2))), (1, 4, .val (.int .i64 (2)))] := lok (by rfl) (by rfl)
  refine plain_ (wE := ⟨w, []⟩) (sz := 35) (n := 2) [0, 1] [(0, .val (.pointer none)), (1, .val (.string (r))), (5, .val (.int .i64 (2))), (9, .val (.bool true)), (4, .val (.int .i64 (2)))] [(0, 10, .val (.int .i64 (2))), (1, 4, .val (.int .i64 (2)))] [] rfl (by rfl) HH3 rfl rfl hLo rfl HS3 (slS 0 rfl rfl (slS 1 rfl rfl (slS 3 rfl rfl (slS 4 rfl rfl (slL 1 (d := 1) rfl (trivial)))))) ?_ ?_
  · show ∀ i ∈ [0, 1], _
    refine steps_cons (st_run 0 _ rfl rfl hLo rfl rfl (fun _ _ _ _ => rfl) (fun b G w hb ho => exec_move (.inl rfl) (ev_off rfl (HS3.get 3 rfl)))) ?_
    refine steps_cons (st_run 1 _ rfl rfl hLo rfl rfl (fun _ _ _ _ => rfl) (fun b G w hb ho => exec_move (.inr rfl) (ev_on hLo 0 rfl HS3.1 rfl (hb 0 (by rfl))))) ?_
    exact steps_nil
  clear hLo
  intro G a4 w4 hS hH
  have HS4 : Sl a4 35 [(0, .pointer none), (1, .string (r)), (5, .int .i64 (2)), (9, .bool true), (4, .int .i64 (2))] := hS
  have HH4 : Held ⟨w, []⟩ w4 [] := hH
  clear hS hH HS3 HH3
  refine then_ ?_
  refine wp_ret ?_
  repeat (first | refine then_ret ?_ | refine inBlock_ret' ?_)
  exact b_tmp rfl HS4.2.1 (HS4.get 4 rfl) ⟨rfl, HH4.1.below⟩
theorem sync_nil (w : World) : Calls Try.prog 17 #[.pointer none] w fun e w' => e = .returned (.int .i64 2) ∧ Below w.heap.size w w' := by
  refine enter_ 20 Try.func17 rfl rfl (fun a0 hS => ?_)
  have HS0 : Sl a0 20 [(0, .pointer none)] := hS
  have HH0 : Held ⟨w, []⟩ w [] := Held.first w []
  clear hS
  refine wp_seq ?_
  have hLo : LOk [(0, 2, .val (.int .i64 (0)))] := lok (by rfl) (by rfl)
  refine plain_ (wE := ⟨w, []⟩) (sz := 20) (n := 1) [0] [(0, .val (.pointer none)), (2, .val (.int .i64 (0)))] [(0, 2, .val (.int .i64 (0)))] [] rfl (by rfl) HH0 rfl rfl hLo rfl HS0 (slS 0 rfl rfl (slL 0 (d := 0) rfl (trivial))) ?_ ?_
  · show ∀ i ∈ [0], _
    refine steps_cons (st_run 0 _ rfl rfl hLo rfl rfl (fun _ _ _ _ => rfl) (fun b G w hb ho => exec_move (.inr rfl) (rfl))) ?_
    exact steps_nil
  clear hLo
  intro G a1 w1 hS hH
  have HS1 : Sl a1 20 [(0, .pointer none), (2, .int .i64 (0))] := hS
  have HH1 : Held ⟨w, []⟩ w1 [] := hH
  clear hS hH HS0 HH0
  refine then_ ?_
  refine wp_seq ?_
  refine wp_seq ?_
  have hLo : LOk [(0, 4, .val (.pointer none)), (1, 5, .val (.int .i64 (2))), (2, 3, .val (.int .i64 (2)))] := lok (by rfl) (by rfl)
  refine plain_ (wE := ⟨w, []⟩) (sz := 20) (n := 3) [0, 1, 3] [(0, .val (.pointer none)), (2, .val (.int .i64 (0))), (3, .val (.int .i64 (2)))] [(0, 4, .val (.pointer none)), (1, 5, .val (.int .i64 (2))), (2, 3, .val (.int .i64 (2)))] [] rfl (by rfl) HH1 rfl rfl hLo rfl HS1 (slS 0 rfl rfl (slS 1 rfl rfl (slL 2 (d := 2) rfl (trivial)))) ?_ ?_
  · show ∀ i ∈ [0, 1, 2], _
    refine steps_cons (st_run 0 _ rfl rfl hLo rfl rfl (fun _ _ _ _ => rfl) (fun b G w hb ho => exec_move (.inl rfl) (ev_off rfl (HS1.get 0 rfl)))) ?_
    refine steps_cons (st_call 1 _ #[.pointer none] rfl rfl rfl (fun _ _ _ _ => rfl) hLo rfl rfl Try.func29 rfl rfl (fun b G hb ho => args1 (ev_on hLo 0 rfl HS1.1 rfl (hb 0 (by rfl)))) (fun w hw => ready_nil _)) ?_
    refine steps_cons (st_run 2 _ rfl rfl hLo rfl rfl (fun _ _ _ _ => rfl) (fun b G w hb ho => exec_move (.inr rfl) (ev_on hLo 1 rfl HS1.1 rfl (hb 1 (by rfl))))) ?_
    exact steps_nil
  clear hLo
  intro G a2 w2 hS hH
  have HS2 : Sl a2 20 [(0, .pointer none), (2, .int .i64 (0)), (3, .int .i64 (2))] := hS
  have HH2 : Held ⟨w, []⟩ w2 [] := hH
  clear hS hH HS1 HH1
  refine then_ ?_
  refine wp_seq ?_
  have hLo : LOk [(0, 6, .val (.int .i64 (2))), (1, 7, .val (.bool true))] := lok (by rfl) (by rfl)
  refine plain_ (wE := ⟨w, []⟩) (sz := 20) (n := 2) [0, 1] [(0, .val (.pointer none)), (2, .val (.int .i64 (0))), (3, .val (.int .i64 (2))), (7, .val (.bool true))] [(0, 6, .val (.int .i64 (2))), (1, 7, .val (.bool true))] [] rfl (by rfl) HH2 rfl rfl hLo rfl HS2 (slS 0 rfl rfl (slS 1 rfl rfl (slS 2 rfl rfl (slL 1 (d := 1) rfl (trivial))))) ?_ ?_
  · show ∀ i ∈ [0, 1], _
    refine steps_cons (st_run 0 _ rfl rfl hLo rfl rfl (fun _ _ _ _ => rfl) (fun b G w hb ho => exec_move (.inl rfl) (ev_off rfl (HS2.get 2 rfl)))) ?_
    refine steps_cons (st_run 1 _ rfl rfl hLo rfl rfl (fun _ _ _ _ => rfl) (fun b G w hb ho => exec_bin rfl (ev_on hLo 0 rfl HS2.1 rfl (hb 0 (by rfl))) (rfl) (rb_neq (rfl) _ _ _))) ?_
    exact steps_nil
  clear hLo
  intro G a3 w3 hS hH
  have HS3 : Sl a3 20 [(0, .pointer none), (2, .int .i64 (0)), (3, .int .i64 (2)), (7, .bool true)] := hS
  have HH3 : Held ⟨w, []⟩ w3 [] := hH
  clear hS hH HS2 HH2
  refine then_ ?_
  refine wp_cond_true (HS3.get 3 rfl) ?_
  refine wp_seq ?_
  have hLo : LOk [(0, 8, .val (.int .i64 (2))), (1, 2, .val (.int .i64 (2)))] := lok (by rfl) (by rfl)
  refine plain_ (wE := ⟨w, []⟩) (sz := 20) (n := 2) [0, 1] [(0, .val (.pointer none)), (3, .val (.int .i64 (2))), (7, .val (.bool true)), (2, .val (.int .i64 (2)))] [(0, 8, .val (.int .i64 (2))), (1, 2, .val (.int .i64 (2)))] [] rfl (by rfl) HH3 rfl rfl hLo rfl HS3 (slS 0 rfl rfl (slS 2 rfl rfl (slS 3 rfl rfl (slL 1 (d := 1) rfl (trivial))))) ?_ ?_
  · show ∀ i ∈ [0, 1], _
    refine steps_cons (st_run 0 _ rfl rfl hLo rfl rfl (fun _ _ _ _ => rfl) (fun b G w hb ho => exec_move (.inl rfl) (ev_off rfl (HS3.get 2 rfl)))) ?_
    refine steps_cons (st_run 1 _ rfl rfl hLo rfl rfl (fun _ _ _ _ => rfl) (fun b G w hb ho => exec_move (.inr rfl) (ev_on hLo 0 rfl HS3.1 rfl (hb 0 (by rfl))))) ?_
    exact steps_nil
  clear hLo
  intro G a4 w4 hS hH
  have HS4 : Sl a4 20 [(0, .pointer none), (3, .int .i64 (2)), (7, .bool true), (2, .int .i64 (2))] := hS
  have HH4 : Held ⟨w, []⟩ w4 [] := hH
  clear hS hH HS3 HH3
  refine then_ ?_
  refine wp_ret ?_
  repeat (first | refine then_ret ?_ | refine inBlock_ret' ?_)
  exact b_tmp rfl HS4.2.1 (HS4.get 3 rfl) ⟨rfl, HH4.1.below⟩
theorem open_nil (w : World) : Calls Try.prog 10 #[.pointer none] w fun e w' => e = .returned (.tuple #[.slice none 0 0, .int .i64 2]) ∧ Below w.heap.size w w' := by
  refine enterM_ 5 61 Try.func10 rfl rfl (fun a0 hS => ?_)
  have HS0 : Sl a0 61 [(0, .pointer none)] := hS
  have HH0 : Held ⟨w, []⟩ w [] := Held.first w []
  clear hS
  refine wp_seq ?_
  have hLo : LOk [(0, 2, .new 0 (fun g => .pointer (some ⟨g, 0, none⟩))), (1, 3, .new 1 (fun g => .pointer (some ⟨g, 0, none⟩)))] := lok (by rfl) (by rfl)
  refine plain_ (wE := ⟨w, []⟩) (sz := 61) (n := 2) [0, 1] [(0, .val (.pointer none)), (2, .new 0 (fun g => .pointer (some ⟨g, 0, none⟩))), (3, .new 1 (fun g => .pointer (some ⟨g, 0, none⟩)))] [(0, 2, .new 0 (fun g => .pointer (some ⟨g, 0, none⟩))), (1, 3, .new 1 (fun g => .pointer (some ⟨g, 0, none⟩)))] [⟨0, some 0, none, (), 1, lsc [.sl (none) (0) (0)], lsc [.sl (none) (0) (0)], 25⟩, ⟨0, some 1, none, (), 1, lsc [.i .i64 (0)], lsc [.i .i64 (0)], 26⟩] rfl (by rfl) HH0 rfl rfl hLo rfl HS0 (slS 0 rfl rfl (slL 0 (d := 0) rfl (slL 1 (d := 1) rfl (trivial)))) ?_ ?_
  · show ∀ i ∈ [0, 1], _
    refine steps_cons (st_alloc 0 0 () 1 25 none _ _ rfl rfl (fun _ _ _ _ => rfl) rfl hLo rfl rfl rfl rfl (by rfl) (fun b G w _ _ => by kernel_rfl)) ?_
    refine steps_cons (st_alloc 1 1 () 1 26 none _ _ rfl rfl (fun _ _ _ _ => rfl) rfl hLo rfl rfl rfl rfl (by rfl) (fun b G w _ _ => by kernel_rfl)) ?_
    exact steps_nil
  clear hLo
  intro G a1 w1 hS hH
  have HS1 : Sl a1 61 [(0, .pointer none), (2, .pointer (some ⟨(G 0), 0, none⟩)), (3, .pointer (some ⟨(G 1), 0, none⟩))] := hS
  have HH1 : Held ⟨w, []⟩ w1 [⟨(G 0), (), 1, lsc [.sl (none) (0) (0)], 25⟩, ⟨(G 1), (), 1, lsc [.i .i64 (0)], 26⟩] := hH
  clear hS hH HS0 HH0
  generalize G 0 = g1_0 at HS1 HH1
  generalize G 1 = g1_1 at HS1 HH1
  refine then_ ?_
  refine wp_seq ?_
  refine wp_seq ?_
  have hLo : LOk [(0, 10, .val (.pointer none)), (1, 11, .val (.int .i64 (2))), (2, 4, .val (.int .i64 (2)))] := lok (by rfl) (by rfl)
  refine plain_ (wE := ⟨w, []⟩) (sz := 61) (n := 3) [0, 1, 3] [(0, .val (.pointer none)), (2, .val (.pointer (some ⟨g1_0, 0, none⟩))), (3, .val (.pointer (some ⟨g1_1, 0, none⟩))), (4, .val (.int .i64 (2)))] [(0, 10, .val (.pointer none)), (1, 11, .val (.int .i64 (2))), (2, 4, .val (.int .i64 (2)))] [⟨g1_0, none, none, (), 1, lsc [.sl (none) (0) (0)], lsc [.sl (none) (0) (0)], 25⟩, ⟨g1_1, none, none, (), 1, lsc [.i .i64 (0)], lsc [.i .i64 (0)], 26⟩] rfl (by rfl) HH1 rfl rfl hLo rfl HS1 (slS 0 rfl rfl (slS 1 rfl rfl (slS 2 rfl rfl (slL 2 (d := 2) rfl (trivial))))) ?_ ?_
  · show ∀ i ∈ [0, 1, 2], _
    refine steps_cons (st_run 0 _ rfl rfl hLo rfl rfl (fun _ _ _ _ => rfl) (fun b G w hb ho => exec_move (.inl rfl) (ev_off rfl (HS1.get 0 rfl)))) ?_
    refine steps_cons (st_call 1 _ #[.pointer none] rfl rfl rfl (fun _ _ _ _ => rfl) hLo rfl rfl Try.func29 rfl rfl (fun b G hb ho => args1 (ev_on hLo 0 rfl HS1.1 rfl (hb 0 (by rfl)))) (fun w hw => ready_nil _)) ?_
    refine steps_cons (st_run 2 _ rfl rfl hLo rfl rfl (fun _ _ _ _ => rfl) (fun b G w hb ho => exec_move (.inr rfl) (ev_on hLo 1 rfl HS1.1 rfl (hb 1 (by rfl))))) ?_
    exact steps_nil
  clear hLo
  intro G a2 w2 hS hH
  have HS2 : Sl a2 61 [(0, .pointer none), (2, .pointer (some ⟨g1_0, 0, none⟩)), (3, .pointer (some ⟨g1_1, 0, none⟩)), (4, .int .i64 (2))] := hS
  have HH2 : Held ⟨w, []⟩ w2 [⟨g1_0, (), 1, lsc [.sl (none) (0) (0)], 25⟩, ⟨g1_1, (), 1, lsc [.i .i64 (0)], 26⟩] := hH
  clear hS hH HS1 HH1
  refine then_ ?_
  refine wp_seq ?_
  have hLo : LOk [(0, 12, .val (.int .i64 (2))), (1, 13, .val (.bool true))] := lok (by rfl) (by rfl)
  refine plain_ (wE := ⟨w, []⟩) (sz := 61) (n := 2) [0, 1] [(0, .val (.pointer none)), (2, .val (.pointer (some ⟨g1_0, 0, none⟩))), (3, .val (.pointer (some ⟨g1_1, 0, none⟩))), (4, .val (.int .i64 (2))), (13, .val (.bool true))] [(0, 12, .val (.int .i64 (2))), (1, 13, .val (.bool true))] [⟨g1_0, none, none, (), 1, lsc [.sl (none) (0) (0)], lsc [.sl (none) (0) (0)], 25⟩, ⟨g1_1, none, none, (), 1, lsc [.i .i64 (0)], lsc [.i .i64 (0)], 26⟩] rfl (by rfl) HH2 rfl rfl hLo rfl HS2 (slS 0 rfl rfl (slS 1 rfl rfl (slS 2 rfl rfl (slS 3 rfl rfl (slL 1 (d := 1) rfl (trivial)))))) ?_ ?_
  · show ∀ i ∈ [0, 1], _
    refine steps_cons (st_run 0 _ rfl rfl hLo rfl rfl (fun _ _ _ _ => rfl) (fun b G w hb ho => exec_move (.inl rfl) (ev_off rfl (HS2.get 3 rfl)))) ?_
    refine steps_cons (st_run 1 _ rfl rfl hLo rfl rfl (fun _ _ _ _ => rfl) (fun b G w hb ho => exec_bin rfl (ev_on hLo 0 rfl HS2.1 rfl (hb 0 (by rfl))) (rfl) (rb_neq (rfl) _ _ _))) ?_
    exact steps_nil
  clear hLo
  intro G a3 w3 hS hH
  have HS3 : Sl a3 61 [(0, .pointer none), (2, .pointer (some ⟨g1_0, 0, none⟩)), (3, .pointer (some ⟨g1_1, 0, none⟩)), (4, .int .i64 (2)), (13, .bool true)] := hS
  have HH3 : Held ⟨w, []⟩ w3 [⟨g1_0, (), 1, lsc [.sl (none) (0) (0)], 25⟩, ⟨g1_1, (), 1, lsc [.i .i64 (0)], 26⟩] := hH
  clear hS hH HS2 HH2
  refine then_ ?_
  refine wp_cond_true (HS3.get 4 rfl) ?_
  refine wp_seq ?_
  have hLo : LOk [(0, 14, .val (.int .i64 (2)))] := lok (by rfl) (by rfl)
  refine plain_ (wE := ⟨w, []⟩) (sz := 61) (n := 3) [0, 1, 3] [(0, .val (.pointer none)), (2, .val (.pointer (some ⟨g1_0, 0, none⟩))), (3, .val (.pointer (some ⟨g1_1, 0, none⟩))), (4, .val (.int .i64 (2))), (13, .val (.bool true))] [(0, 14, .val (.int .i64 (2)))] [⟨g1_0, none, some 1, (), 1, lsc [.sl (none) (0) (0)], upd (lsc [.sl (none) (0) (0)]) 0 (.sl (none) (0) (0)), 25⟩, ⟨g1_1, none, some 2, (), 1, lsc [.i .i64 (0)], upd (lsc [.i .i64 (0)]) 0 (.i .i64 (2)), 26⟩] rfl (by rfl) HH3 rfl rfl hLo rfl HS3 (slS 0 rfl rfl (slS 1 rfl rfl (slS 2 rfl rfl (slS 3 rfl rfl (slS 4 rfl rfl (trivial)))))) ?_ ?_
  · show ∀ i ∈ [0, 1, 2], _
    refine steps_cons (st_run 0 _ rfl rfl hLo rfl rfl (fun _ _ _ _ => rfl) (fun b G w hb ho => exec_move (.inl rfl) (ev_off rfl (HS3.get 3 rfl)))) ?_
    refine steps_cons (st_put 0 _ rfl rfl rfl rfl (fun _ _ _ _ => rfl) rfl rfl rfl (by rfl) (fun b G w hb ho hr => exec_put1 hr (Nat.le_of_ble_eq_true rfl) (by kernel_rfl) rfl (ev_off rfl (HS3.get 1 rfl)) (rfl))) ?_
    refine steps_cons (st_put 1 _ rfl rfl rfl rfl (fun _ _ _ _ => rfl) rfl rfl rfl (by rfl) (fun b G w hb ho hr => exec_put1 hr (Nat.le_of_ble_eq_true rfl) (by kernel_rfl) rfl (ev_off rfl (HS3.get 2 rfl)) (ev_on hLo 0 rfl HS3.1 rfl (hb 0 (by rfl))))) ?_
    exact steps_nil
  clear hLo
  intro G a4 w4 hS hH
  have HS4 : Sl a4 61 [(0, .pointer none), (2, .pointer (some ⟨g1_0, 0, none⟩)), (3, .pointer (some ⟨g1_1, 0, none⟩)), (4, .int .i64 (2)), (13, .bool true)] := hS
  have HH4 : Held ⟨w, []⟩ w4 [⟨g1_0, (), 1, upd (lsc [.sl (none) (0) (0)]) 0 (.sl (none) (0) (0)), 25⟩, ⟨g1_1, (), 1, upd (lsc [.i .i64 (0)]) 0 (.i .i64 (2)), 26⟩] := hH
  clear hS hH HS3 HH3
  refine then_ ?_
  refine wp_ret ?_
  repeat (first | refine then_ret ?_ | refine inBlock_ret' ?_)
  exact b_cells HS4.2.1 (results2 (by rfl) Try.underlying25 rfl Try.underlying26 rfl (HS4.get 1 rfl) (HS4.get 2 rfl) (HH4.row 0 rfl) (HH4.row 1 rfl)) ⟨rfl, HH4.1.below⟩
theorem open_off {w : World} {g : Nat} {al : ByteArray} {sy : Nat} {acts inn : Nat} {keep : Int} (hr : Row w g () 6 (spC ⟨al, sy, true, acts, inn, keep⟩) 53) : Calls Try.prog 10 #[.pointer (some ⟨g, 0, none⟩)] w fun e w' => e = .returned (.tuple #[.slice none 0 0, .int .i64 50]) ∧ Row w' g () 6 (spC ⟨al, sy, true, acts, inn, keep⟩) 53 ∧ Fr ⟨w, [g]⟩ w' := by
  refine enterM_ 5 61 Try.func10 rfl rfl (fun a0 hS => ?_)
  have HS0 : Sl a0 61 [(0, .pointer (some ⟨g, 0, none⟩))] := hS
  have HH0 : Held ⟨w, [g]⟩ w [⟨g, (), 6, spC ⟨al, sy, true, acts, inn, keep⟩, 53⟩] := Held.one hr
  clear hS
  refine wp_seq ?_
  have hLo : LOk [(0, 2, .new 0 (fun g => .pointer (some ⟨g, 0, none⟩))), (1, 3, .new 1 (fun g => .pointer (some ⟨g, 0, none⟩)))] := lok (by rfl) (by rfl)
  refine plain_ (wE := ⟨w, [g]⟩) (sz := 61) (n := 2) [0, 1] [(0, .val (.pointer (some ⟨g, 0, none⟩))), (2, .new 0 (fun g => .pointer (some ⟨g, 0, none⟩))), (3, .new 1 (fun g => .pointer (some ⟨g, 0, none⟩)))] [(0, 2, .new 0 (fun g => .pointer (some ⟨g, 0, none⟩))), (1, 3, .new 1 (fun g => .pointer (some ⟨g, 0, none⟩)))] [⟨g, none, none, (), 6, spC ⟨al, sy, true, acts, inn, keep⟩, spC ⟨al, sy, true, acts, inn, keep⟩, 53⟩, ⟨0, some 0, none, (), 1, lsc [.sl (none) (0) (0)], lsc [.sl (none) (0) (0)], 25⟩, ⟨0, some 1, none, (), 1, lsc [.i .i64 (0)], lsc [.i .i64 (0)], 26⟩] rfl (by rfl) HH0 rfl rfl hLo rfl HS0 (slS 0 rfl rfl (slL 0 (d := 0) rfl (slL 1 (d := 1) rfl (trivial)))) ?_ ?_
  · show ∀ i ∈ [0, 1], _
    refine steps_cons (st_alloc 0 1 () 1 25 none _ _ rfl rfl (fun _ _ _ _ => rfl) rfl hLo rfl rfl rfl rfl (by rfl) (fun b G w _ _ => by kernel_rfl)) ?_
    refine steps_cons (st_alloc 1 2 () 1 26 none _ _ rfl rfl (fun _ _ _ _ => rfl) rfl hLo rfl rfl rfl rfl (by rfl) (fun b G w _ _ => by kernel_rfl)) ?_
    exact steps_nil
  clear hLo
  intro G a1 w1 hS hH
  have HS1 : Sl a1 61 [(0, .pointer (some ⟨g, 0, none⟩)), (2, .pointer (some ⟨(G 0), 0, none⟩)), (3, .pointer (some ⟨(G 1), 0, none⟩))] := hS
  have HH1 : Held ⟨w, [g]⟩ w1 [⟨g, (), 6, spC ⟨al, sy, true, acts, inn, keep⟩, 53⟩, ⟨(G 0), (), 1, lsc [.sl (none) (0) (0)], 25⟩, ⟨(G 1), (), 1, lsc [.i .i64 (0)], 26⟩] := hH
  clear hS hH HS0 HH0
  generalize G 0 = g1_0 at HS1 HH1
  generalize G 1 = g1_1 at HS1 HH1
  refine then_ ?_
  refine wp_seq ?_
  refine wp_seq ?_
  have hLo : LOk [(0, 10, .val (.pointer (some ⟨g, 0, none⟩))), (1, 11, .val (.int .i64 (50))), (2, 4, .val (.int .i64 (50)))] := lok (by rfl) (by rfl)
  refine plain_ (wE := ⟨w, [g]⟩) (sz := 61) (n := 3) [0, 1, 3] [(0, .val (.pointer (some ⟨g, 0, none⟩))), (2, .val (.pointer (some ⟨g1_0, 0, none⟩))), (3, .val (.pointer (some ⟨g1_1, 0, none⟩))), (4, .val (.int .i64 (50)))] [(0, 10, .val (.pointer (some ⟨g, 0, none⟩))), (1, 11, .val (.int .i64 (50))), (2, 4, .val (.int .i64 (50)))] [⟨g, none, none, (), 6, spC ⟨al, sy, true, acts, inn, keep⟩, spC ⟨al, sy, true, acts, inn, keep⟩, 53⟩, ⟨g1_0, none, none, (), 1, lsc [.sl (none) (0) (0)], lsc [.sl (none) (0) (0)], 25⟩, ⟨g1_1, none, none, (), 1, lsc [.i .i64 (0)], lsc [.i .i64 (0)], 26⟩] rfl (by rfl) HH1 rfl rfl hLo rfl HS1 (slS 0 rfl rfl (slS 1 rfl rfl (slS 2 rfl rfl (slL 2 (d := 2) rfl (trivial))))) ?_ ?_
  · show ∀ i ∈ [0, 1, 2], _
    refine steps_cons (st_run 0 _ rfl rfl hLo rfl rfl (fun _ _ _ _ => rfl) (fun b G w hb ho => exec_move (.inl rfl) (ev_off rfl (HS1.get 0 rfl)))) ?_
    refine steps_cons (st_callRB 1 0 _ _ (fun G => #[.pointer (some ⟨g, 0, none⟩)]) rfl rfl rfl rfl (fun _ _ _ _ => rfl) hLo rfl rfl (by rfl) (by rfl) Try.func29 rfl rfl (fun b G hb ho => args1 (ev_on hLo 0 rfl HS1.1 rfl (hb 0 (by rfl)))) (fun G w hw hr => ready_off hr)) ?_
    refine steps_cons (st_run 2 _ rfl rfl hLo rfl rfl (fun _ _ _ _ => rfl) (fun b G w hb ho => exec_move (.inr rfl) (ev_on hLo 1 rfl HS1.1 rfl (hb 1 (by rfl))))) ?_
    exact steps_nil
  clear hLo
  intro G a2 w2 hS hH
  have HS2 : Sl a2 61 [(0, .pointer (some ⟨g, 0, none⟩)), (2, .pointer (some ⟨g1_0, 0, none⟩)), (3, .pointer (some ⟨g1_1, 0, none⟩)), (4, .int .i64 (50))] := hS
  have HH2 : Held ⟨w, [g]⟩ w2 [⟨g, (), 6, spC ⟨al, sy, true, acts, inn, keep⟩, 53⟩, ⟨g1_0, (), 1, lsc [.sl (none) (0) (0)], 25⟩, ⟨g1_1, (), 1, lsc [.i .i64 (0)], 26⟩] := hH
  clear hS hH HS1 HH1
  refine then_ ?_
  refine wp_seq ?_
  have hLo : LOk [(0, 12, .val (.int .i64 (50))), (1, 13, .val (.bool true))] := lok (by rfl) (by rfl)
  refine plain_ (wE := ⟨w, [g]⟩) (sz := 61) (n := 2) [0, 1] [(0, .val (.pointer (some ⟨g, 0, none⟩))), (2, .val (.pointer (some ⟨g1_0, 0, none⟩))), (3, .val (.pointer (some ⟨g1_1, 0, none⟩))), (4, .val (.int .i64 (50))), (13, .val (.bool true))] [(0, 12, .val (.int .i64 (50))), (1, 13, .val (.bool true))] [⟨g, none, none, (), 6, spC ⟨al, sy, true, acts, inn, keep⟩, spC ⟨al, sy, true, acts, inn, keep⟩, 53⟩, ⟨g1_0, none, none, (), 1, lsc [.sl (none) (0) (0)], lsc [.sl (none) (0) (0)], 25⟩, ⟨g1_1, none, none, (), 1, lsc [.i .i64 (0)], lsc [.i .i64 (0)], 26⟩] rfl (by rfl) HH2 rfl rfl hLo rfl HS2 (slS 0 rfl rfl (slS 1 rfl rfl (slS 2 rfl rfl (slS 3 rfl rfl (slL 1 (d := 1) rfl (trivial)))))) ?_ ?_
  · show ∀ i ∈ [0, 1], _
    refine steps_cons (st_run 0 _ rfl rfl hLo rfl rfl (fun _ _ _ _ => rfl) (fun b G w hb ho => exec_move (.inl rfl) (ev_off rfl (HS2.get 3 rfl)))) ?_
    refine steps_cons (st_run 1 _ rfl rfl hLo rfl rfl (fun _ _ _ _ => rfl) (fun b G w hb ho => exec_bin rfl (ev_on hLo 0 rfl HS2.1 rfl (hb 0 (by rfl))) (rfl) (rb_neq (rfl) _ _ _))) ?_
    exact steps_nil
  clear hLo
  intro G a3 w3 hS hH
  have HS3 : Sl a3 61 [(0, .pointer (some ⟨g, 0, none⟩)), (2, .pointer (some ⟨g1_0, 0, none⟩)), (3, .pointer (some ⟨g1_1, 0, none⟩)), (4, .int .i64 (50)), (13, .bool true)] := hS
  have HH3 : Held ⟨w, [g]⟩ w3 [⟨g, (), 6, spC ⟨al, sy, true, acts, inn, keep⟩, 53⟩, ⟨g1_0, (), 1, lsc [.sl (none) (0) (0)], 25⟩, ⟨g1_1, (), 1, lsc [.i .i64 (0)], 26⟩] := hH
  clear hS hH HS2 HH2
  refine then_ ?_
  refine wp_cond_true (HS3.get 4 rfl) ?_
  refine wp_seq ?_
  have hLo : LOk [(0, 14, .val (.int .i64 (50)))] := lok (by rfl) (by rfl)
  refine plain_ (wE := ⟨w, [g]⟩) (sz := 61) (n := 3) [0, 1, 3] [(0, .val (.pointer (some ⟨g, 0, none⟩))), (2, .val (.pointer (some ⟨g1_0, 0, none⟩))), (3, .val (.pointer (some ⟨g1_1, 0, none⟩))), (4, .val (.int .i64 (50))), (13, .val (.bool true))] [(0, 14, .val (.int .i64 (50)))] [⟨g, none, none, (), 6, spC ⟨al, sy, true, acts, inn, keep⟩, spC ⟨al, sy, true, acts, inn, keep⟩, 53⟩, ⟨g1_0, none, some 1, (), 1, lsc [.sl (none) (0) (0)], upd (lsc [.sl (none) (0) (0)]) 0 (.sl (none) (0) (0)), 25⟩, ⟨g1_1, none, some 2, (), 1, lsc [.i .i64 (0)], upd (lsc [.i .i64 (0)]) 0 (.i .i64 (50)), 26⟩] rfl (by rfl) HH3 rfl rfl hLo rfl HS3 (slS 0 rfl rfl (slS 1 rfl rfl (slS 2 rfl rfl (slS 3 rfl rfl (slS 4 rfl rfl (trivial)))))) ?_ ?_
  · show ∀ i ∈ [0, 1, 2], _
    refine steps_cons (st_run 0 _ rfl rfl hLo rfl rfl (fun _ _ _ _ => rfl) (fun b G w hb ho => exec_move (.inl rfl) (ev_off rfl (HS3.get 3 rfl)))) ?_
    refine steps_cons (st_put 1 _ rfl rfl rfl rfl (fun _ _ _ _ => rfl) rfl rfl rfl (by rfl) (fun b G w hb ho hr => exec_put1 hr (Nat.le_of_ble_eq_true rfl) (by kernel_rfl) rfl (ev_off rfl (HS3.get 1 rfl)) (rfl))) ?_
    refine steps_cons (st_put 2 _ rfl rfl rfl rfl (fun _ _ _ _ => rfl) rfl rfl rfl (by rfl) (fun b G w hb ho hr => exec_put1 hr (Nat.le_of_ble_eq_true rfl) (by kernel_rfl) rfl (ev_off rfl (HS3.get 2 rfl)) (ev_on hLo 0 rfl HS3.1 rfl (hb 0 (by rfl))))) ?_
    exact steps_nil
  clear hLo
  intro G a4 w4 hS hH
  have HS4 : Sl a4 61 [(0, .pointer (some ⟨g, 0, none⟩)), (2, .pointer (some ⟨g1_0, 0, none⟩)), (3, .pointer (some ⟨g1_1, 0, none⟩)), (4, .int .i64 (50)), (13, .bool true)] := hS
  have HH4 : Held ⟨w, [g]⟩ w4 [⟨g, (), 6, spC ⟨al, sy, true, acts, inn, keep⟩, 53⟩, ⟨g1_0, (), 1, upd (lsc [.sl (none) (0) (0)]) 0 (.sl (none) (0) (0)), 25⟩, ⟨g1_1, (), 1, upd (lsc [.i .i64 (0)]) 0 (.i .i64 (50)), 26⟩] := hH
  clear hS hH HS3 HH3
  refine then_ ?_
  refine wp_ret ?_
  repeat (first | refine then_ret ?_ | refine inBlock_ret' ?_)
  exact b_cells HS4.2.1 (results2 (by rfl) Try.underlying25 rfl Try.underlying26 rfl (HS4.get 1 rfl) (HS4.get 2 rfl) (HH4.row 1 rfl) (HH4.row 2 rfl)) ⟨rfl, Row.norm (HH4.row 0 rfl) (six ⟨rfl, rfl, rfl, rfl, rfl, rfl⟩), HH4.1⟩
end Go.Proofs.Ytdleomeiojlooaa.P
end

section
namespace Go.Proofs.Ytdleomeiojlooaa.P
open Go.RowKit Go.Proofs.YtdleomeiojlooaaW.PrintWords Go.Proofs.YtdleomeiojlooaaW.PrintLast Go.Proofs.YtdleomeiojlooaaW.PrintMore
set_option linter.unusedVariables false
set_option linter.unusedSimpArgs false
def hustingslaw19_great.l0 : Nat → List (S49) → Int → List (S49) → Int → Int → Option (Bool)
  | 0, _, _, _, _, _ => none
  | k + 1, x1, x5, x10, x11, x12 => if x12 < x11 then (if 0 ≤ x12 then (if x12 < (x10.length : Int) then (if (wrap64 (x5 + (((rd_T49 x10 x12).f3).size : Int))) > 16384 then (some true) else (hustingslaw19_great.l0 k x1 (wrap64 (x5 + (((rd_T49 x10 x12).f3).size : Int))) x10 x11 (wrap64 (x12 + 1)))) else (none)) else (none)) else (if (x1.length : Int) > 60 then (some true) else (some (decide (x5 > 16384))))
def hustingslaw19_great.f (k : Nat) (a0 : ByteArray) (l1 : List (S49)) : Option (Bool) := hustingslaw19_great.l0 k l1 (a0.size : Int) l1 (l1.length : Int) 0
theorem hustingslaw19_great.mono_l : ∀ k, (∀ y0 y1 y2 y3 y4, LeO (hustingslaw19_great.l0 k y0 y1 y2 y3 y4) (hustingslaw19_great.l0 (k + 1) y0 y1 y2 y3 y4))
  | 0 => fun _ _ _ _ _ r h => by simp [hustingslaw19_great.l0] at h
  | k + 1 => by
    have ih0 := hustingslaw19_great.mono_l k
    · intro y0 y1 y2 y3 y4
      unfold hustingslaw19_great.l0
      repeat' first
      | (with_reducible exact ih0 _ _ _ _ _)
      | (with_reducible exact LeO.refl _)
      | (with_reducible exact LeO.none _)
      | (with_reducible refine LeO.ite ?_ ?_)
      | (with_reducible refine LeO.bind ?_ (fun _ => ?_))
      | exact ih0 _ _ _ _ _
      | exact LeO.none _
      | refine LeO.ite ?_ ?_
      | refine LeO.bind ?_ (fun _ => ?_)
theorem hustingslaw19_great.mono : ∀ a0 a1 k, LeO (hustingslaw19_great.f k a0 a1) (hustingslaw19_great.f (k + 1) a0 a1) := by
  intro a0 a1 k
  have ih0 := hustingslaw19_great.mono_l k
  unfold hustingslaw19_great.f
  repeat' first
      | (with_reducible exact ih0 _ _ _ _ _)
      | (with_reducible exact LeO.refl _)
      | (with_reducible exact LeO.none _)
      | (with_reducible refine LeO.ite ?_ ?_)
      | (with_reducible refine LeO.bind ?_ (fun _ => ?_))
      | exact ih0 _ _ _ _ _
      | exact LeO.none _
      | refine LeO.ite ?_ ?_
      | refine LeO.bind ?_ (fun _ => ?_)
set_option maxHeartbeats 8000000 in
set_option maxRecDepth 100000 in
theorem hustingslaw19_great.calls (k : Nat) (a0 : ByteArray) (A1 : Option Addr) (c1 : Nat) (l1 : List (S49)) (r : Bool) (w : World) (hr1 : Kd.C k49 w A1 l1.length l1) (hc1 : l1.length ≤ c1) (h : hustingslaw19_great.f k a0 l1 = some r) :
    Calls Try.prog 22 #[.string a0, .slice A1 l1.length c1] w fun e w' => e = .returned (.bool r) ∧ Below w.heap.size w w' := by
  have hu49 := Try.underlying49
  have HR1 := Aside0.mk hr1
  have HC1 := Aside0.mk hc1
  clear hr1 hc1
  have HB := Aside0.mk (Below.refl w.heap.size w)
  have H : (hustingslaw19_great.l0 k l1 (a0.size : Int) l1 (l1.length : Int) 0) = some r := h
  clear h
  have H' := Aside0.mk H
  clear H
  go_enter Try.func22, Try.ntmps22
  go_wp2
  go_loopg [5, 12] k (fun kq v5 v12 w' => ∃ (x5_1 : Int) (x12_1 : Int), v5 = .int .i64 x5_1 ∧ v12 = .int .i64 x12_1 ∧ Aside0 (hustingslaw19_great.l0 kq l1 x5_1 l1 (l1.length : Int) x12_1 = some r) ∧ Aside0 (kq ≤ k) ∧ Aside0 (Below w.heap.size w w'))
  case atStart => exact ⟨((a0.size : Int)), (0), (by first | rfl | (simp; done) | (simp [*]; done)), (by first | rfl | (simp; done) | (simp [*]; done)), H', ⟨Nat.le_refl _⟩, ⟨by repeat (first | (with_reducible first | exact HB.out | apply below_alloc | apply pw_below_drewN | apply below_drew1) | exact HB.out)⟩⟩
  case round =>
    clear H'
    try clear c1
    try clear c2
    try clear p2
    obtain ⟨x5_1, x12_1, rfl, rfl, HA, HK1, HB⟩ := hrel
    cases gk with
    | zero => exact absurd HA.out (by simp [hustingslaw19_great.l0])
    | succ k1 =>
      have H := HA.out
      clear HA
      simp only [hustingslaw19_great.l0] at H
      by_cases c3 : x12_1 < (l1.length : Int)
      · rw [if_pos c3] at H
        have c3b0 : decide (x12_1 < (l1.length : Int)) = true := decide_eq_true c3
        clear c3
        by_cases c4 : 0 ≤ x12_1
        · rw [if_pos c4] at H
          have c4b0 : decide (0 ≤ x12_1) = true := decide_eq_true c4
          clear c4
          by_cases c5 : x12_1 < (l1.length : Int)
          · rw [if_pos c5] at H
            have c5b0 : decide (x12_1 < (l1.length : Int)) = true := decide_eq_true c5
            clear c5
            by_cases c6 : (wrap64 (x5_1 + (((rd_T49 l1 x12_1).f3).size : Int))) > 16384
            · rw [if_pos c6] at H
              have c6b0 : decide (16384 < (wrap64 (x5_1 + (((rd_T49 l1 x12_1).f3).size : Int)))) = true := decide_eq_true c6
              clear c6
              obtain rfl := Option.some.inj H
              have p22001 : 0 ≤ (x12_1 : Int) := of_decide_eq_true (by first | (with_reducible assumption) | assumption)
              have q22001 : x12_1 < (l1.length : Int) := of_decide_eq_true (by first | (with_reducible assumption) | assumption)
              obtain ⟨ad22001, e22001, hx22001_0, hx22001_1, hx22001_2, hx22001_3⟩ := at_T49 HR1.out x12_1 p22001 q22001
              cases e22001
              replace hx22001_0 := (HB.out.cell (World.block_lt_of_cell? w _ hx22001_0)).trans hx22001_0
              replace hx22001_1 := (HB.out.cell (World.block_lt_of_cell? w _ hx22001_1)).trans hx22001_1
              replace hx22001_2 := (HB.out.cell (World.block_lt_of_cell? w _ hx22001_2)).trans hx22001_2
              replace hx22001_3 := (HB.out.cell (World.block_lt_of_cell? w _ hx22001_3)).trans hx22001_3
              replace p22001 := eq_true p22001
              replace q22001 := eq_true q22001
              go_wp2_with (first | ((with_reducible refine gate_dst (N := 7) rfl ?_); refine box_event ?hg (N := 7) ?hd (cs := #[.int .i64 0, .int .i64 0, .int .i64 0, .string (⟨#[]⟩ : ByteArray)]) (t := 49) ?hr ?_; (case hd => rfl); (case hg => rfl); (case hr => first | (go_simp; done) | (go_simp; rfl)); intro gb22002 hg w7 hbox hb; have n0_ := Aside0.mk (below_step (by repeat (first | (with_reducible first | exact HB.out | apply below_alloc | apply pw_below_drewN | apply below_drew1) | exact HB.out)) hb); have n1_ := Aside0.mk (hbox); have n2_ := Aside0.mk ((by rw [hg]; exact (below_size (by repeat (first | (with_reducible first | exact HB.out | apply below_alloc | apply pw_below_drewN | apply below_drew1) | exact HB.out))) : w.heap.size ≤ gb22002)); have n3_ := Aside0.mk ((by rw [hg]; exact (below_size (by repeat (first | (with_reducible first | exact HB.out | apply below_alloc | apply pw_below_drewN | apply below_drew1) | exact HB.out))) : w.heap.size ≤ gb22002)); clear HB; have HB := n0_; have BK22002 := n1_; have GW22002 := n2_; have GE22002 := n3_; clear n0_ n1_ n2_ n3_; clear hb hbox hg; have hcz8_0 : w7.cell? ⟨gb22002, 0, none⟩ = some (.int .i64 0) := (blk_cell BK22002.out 0).trans rfl; have hcz8_1 : w7.cell? ⟨gb22002, 1, none⟩ = some (.int .i64 0) := (blk_cell BK22002.out 1).trans rfl; have hcz8_2 : w7.cell? ⟨gb22002, 2, none⟩ = some (.int .i64 0) := (blk_cell BK22002.out 2).trans rfl; have hcz8_3 : w7.cell? ⟨gb22002, 3, none⟩ = some (.string (⟨#[]⟩ : ByteArray)) := (blk_cell BK22002.out 3).trans rfl; have hfz8_0 := blk_frozen BK22002.out 0; have hfz8_1 := blk_frozen BK22002.out 1; have hfz8_2 := blk_frozen BK22002.out 2; have hfz8_3 := blk_frozen BK22002.out 3))
              go_ret
              exact ⟨by first | rfl | (simp [errW_none, errW_some] <;> rfl) | (simp [*, errW_none, errW_some] <;> rfl), by repeat (first | (with_reducible first | exact HB.out | apply below_alloc | apply pw_below_drewN | apply below_drew1 | refine below_set ?_ GE22002.out) | exact HB.out)⟩
            · rw [if_neg c6] at H
              have c6b0 : decide (16384 < (wrap64 (x5_1 + (((rd_T49 l1 x12_1).f3).size : Int)))) = false := decide_eq_false c6
              clear c6
              have H' := Aside0.mk H
              clear H
              have p22001 : 0 ≤ (x12_1 : Int) := of_decide_eq_true (by first | (with_reducible assumption) | assumption)
              have q22001 : x12_1 < (l1.length : Int) := of_decide_eq_true (by first | (with_reducible assumption) | assumption)
              obtain ⟨ad22001, e22001, hx22001_0, hx22001_1, hx22001_2, hx22001_3⟩ := at_T49 HR1.out x12_1 p22001 q22001
              cases e22001
              replace hx22001_0 := (HB.out.cell (World.block_lt_of_cell? w _ hx22001_0)).trans hx22001_0
              replace hx22001_1 := (HB.out.cell (World.block_lt_of_cell? w _ hx22001_1)).trans hx22001_1
              replace hx22001_2 := (HB.out.cell (World.block_lt_of_cell? w _ hx22001_2)).trans hx22001_2
              replace hx22001_3 := (HB.out.cell (World.block_lt_of_cell? w _ hx22001_3)).trans hx22001_3
              replace p22001 := eq_true p22001
              replace q22001 := eq_true q22001
              go_wp2_with (first | ((with_reducible refine gate_dst (N := 7) rfl ?_); refine box_event ?hg (N := 7) ?hd (cs := #[.int .i64 0, .int .i64 0, .int .i64 0, .string (⟨#[]⟩ : ByteArray)]) (t := 49) ?hr ?_; (case hd => rfl); (case hg => rfl); (case hr => first | (go_simp; done) | (go_simp; rfl)); intro gb22002 hg w9 hbox hb; have n0_ := Aside0.mk (below_step (by repeat (first | (with_reducible first | exact HB.out | apply below_alloc | apply pw_below_drewN | apply below_drew1) | exact HB.out)) hb); have n1_ := Aside0.mk (hbox); have n2_ := Aside0.mk ((by rw [hg]; exact (below_size (by repeat (first | (with_reducible first | exact HB.out | apply below_alloc | apply pw_below_drewN | apply below_drew1) | exact HB.out))) : w.heap.size ≤ gb22002)); have n3_ := Aside0.mk ((by rw [hg]; exact (below_size (by repeat (first | (with_reducible first | exact HB.out | apply below_alloc | apply pw_below_drewN | apply below_drew1) | exact HB.out))) : w.heap.size ≤ gb22002)); clear HB; have HB := n0_; have BK22002 := n1_; have GW22002 := n2_; have GE22002 := n3_; clear n0_ n1_ n2_ n3_; clear hb hbox hg; have hcz10_0 : w9.cell? ⟨gb22002, 0, none⟩ = some (.int .i64 0) := (blk_cell BK22002.out 0).trans rfl; have hcz10_1 : w9.cell? ⟨gb22002, 1, none⟩ = some (.int .i64 0) := (blk_cell BK22002.out 1).trans rfl; have hcz10_2 : w9.cell? ⟨gb22002, 2, none⟩ = some (.int .i64 0) := (blk_cell BK22002.out 2).trans rfl; have hcz10_3 : w9.cell? ⟨gb22002, 3, none⟩ = some (.string (⟨#[]⟩ : ByteArray)) := (blk_cell BK22002.out 3).trans rfl; have hfz10_0 := blk_frozen BK22002.out 0; have hfz10_1 := blk_frozen BK22002.out 1; have hfz10_2 := blk_frozen BK22002.out 2; have hfz10_3 := blk_frozen BK22002.out 3))
              go_roundg k1
              case measure => have := HK1.out; omega
              case rel => exact ⟨(wrap64 (x5_1 + (((rd_T49 l1 x12_1).f3).size : Int))), (wrap64 (x12_1 + 1)), (by first | rfl | (simp; done) | (simp [*]; done)), (by first | rfl | (simp; done) | (simp [*]; done)), H', ⟨by have := HK1.out; omega⟩, ⟨by repeat (first | (with_reducible first | exact HB.out | apply below_alloc | apply pw_below_drewN | apply below_drew1 | refine below_set ?_ GE22002.out) | exact HB.out)⟩⟩
          · rw [if_neg c5] at H
            exact absurd H (by simp)
        · rw [if_neg c4] at H
          exact absurd H (by simp)
      · rw [if_neg c3] at H
        have c3b0 : decide (x12_1 < (l1.length : Int)) = false := decide_eq_false c3
        clear c3
        by_cases c11 : (l1.length : Int) > 60
        · rw [if_pos c11] at H
          have c11b0 : decide (60 < (l1.length : Int)) = true := decide_eq_true c11
          have c11b1 : decide (60 < l1.length) = true := decide_eq_true (by omega)
          clear c11
          obtain rfl := Option.some.inj H
          go_wp2
          go_ret
          exact ⟨by first | rfl | (simp [errW_none, errW_some] <;> rfl) | (simp [*, errW_none, errW_some] <;> rfl), by repeat (first | (with_reducible first | exact HB.out | apply below_alloc | apply pw_below_drewN | apply below_drew1) | exact HB.out)⟩
        · rw [if_neg c11] at H
          have c11b0 : decide (60 < (l1.length : Int)) = false := decide_eq_false c11
          have c11b1 : decide (60 < l1.length) = false := decide_eq_false (by omega)
          clear c11
          obtain rfl := Option.some.inj H
          go_wp2
          go_ret
          exact ⟨by first | rfl | (simp [errW_none, errW_some] <;> rfl) | (simp [*, errW_none, errW_some] <;> rfl), by repeat (first | (with_reducible first | exact HB.out | apply below_alloc | apply pw_below_drewN | apply below_drew1) | exact HB.out)⟩
end Go.Proofs.Ytdleomeiojlooaa.P
end

section
namespace Go.Proofs.Ytdleomeiojlooaa.P
set_option linter.unusedVariables false
set_option linter.unusedSimpArgs false
open Go.RowKit Go.ChangeShapes Go.WideShapes Go.Proofs.YtdleomeiojlooaaW.PrintWords Go.Proofs.YtdleomeiojlooaaW.PrintLast Go.Proofs.YtdleomeiojlooaaW.PrintMore Go.Proofs.Ytdleomeiojlooaa.L
structure Sim (m : Sp) (d : Rp) : Prop where
  s_al : m.al = d.safe ++ d.waits
  s_sy : m.sy = d.safe.size
  s_off : m.off = !d.power
  s_acts : m.acts = d.acts
  s_inn : m.inn = d.inn
  s_keep : m.keep = d.keep
structure OKa (n : Nat) (m : Sp) : Prop where
  q_sy : m.sy ≤ m.al.size
  q_al : m.al.size ≤ 4194304
  q_ac : m.acts ≤ n
  q_in : m.inn < 9223372036854775808
theorem OKa.ok {n : Nat} {m : Sp} (h : OKa n m) (hn : n ≤ 1000000) : OKs m := ⟨h.q_sy, h.q_al, Nat.le_trans h.q_ac hn, h.q_in⟩
theorem OKa.up {n : Nat} {m : Sp} (h : OKa n m) : OKa (n + 1) m := ⟨h.q_sy, h.q_al, Nat.le_succ_of_le h.q_ac, h.q_in⟩
def roffS (d : Rp) (k : Int) : Rp := if d.power then ⟨d.safe ++ d.waits.extract 0 (kp k d.waits.size), ByteArray.empty, false, d.acts, 0, d.keep⟩ else d
def ractS (d : Rp) : Rp := if d.inn = 1 then roffS { d with acts := d.acts + 1 } d.keep else { d with acts := d.acts + 1, inn := d.inn - 1 }
def rappS (d : Rp) (r : ByteArray) : Rp × Int := if d.power then (if 4194304 < d.safe.size + d.waits.size + (lineS r).size then (d, 51) else (ractS { d with waits := d.waits ++ lineS r }, if d.inn = 1 then 50 else 0)) else (d, 50)
def rsyncS (d : Rp) : Rp × Int := if d.power then (if d.inn = 1 then (ractS d, 50) else ({ ractS d with safe := d.safe ++ d.waits, waits := ByteArray.empty }, 0)) else (d, 50)
def armS (m : Sp) (n k : Int) : Sp := { m with inn := n.toNat, keep := k }
def rarmS (d : Rp) (n k : Int) : Rp := { d with inn := n.toNat, keep := k }
def onS (m : Sp) : Sp := { m with off := false }
def ronS (d : Rp) : Rp := { d with power := true }
def openS (m : Sp) (ls : List ByteArray) : Sp := { m with al := cat ls, sy := min m.sy (cat ls).size }
def ropenS (d : Rp) (ls : List ByteArray) : Rp := if (cat ls).size < d.safe.size then { d with safe := d.safe.extract 0 (cat ls).size, waits := ByteArray.empty } else { d with waits := d.waits.extract 0 ((cat ls).size - d.safe.size) }
section
variable {m : Sp} {d : Rp} {n : Nat}
theorem ext_mid (a b : ByteArray) (j : Nat) : (a ++ b).extract 0 (a.size + j) = a ++ b.extract 0 j := by
  apply bl_inj
  rw [bl_extract, bl_append, bl_append, bl_extract, List.drop_zero, List.drop_zero, Nat.sub_zero, Nat.sub_zero, List.take_append, List.take_of_length_le (by rw [bl_len]; omega), bl_len, Nat.add_sub_cancel_left]
theorem ext_low (a b : ByteArray) (j : Nat) (h : j ≤ a.size) : (a ++ b).extract 0 j = a.extract 0 j := by
  apply bl_inj
  rw [bl_extract, bl_append, bl_extract, List.drop_zero, List.drop_zero, Nat.sub_zero, List.take_append, bl_len, show j - a.size = 0 by omega, List.take_zero, List.append_nil]
theorem ext_size (a : ByteArray) (j : Nat) (h : j ≤ a.size) : (a.extract 0 j).size = j := by rw [ByteArray.size_extract]; omega
theorem app_empty (a : ByteArray) : a ++ ByteArray.empty = a := ByteArray.append_empty
theorem Sim.sizes (h : Sim m d) : m.al.size = d.safe.size + d.waits.size := by rw [h.s_al, ByteArray.size_append]
theorem off_sim (h : Sim m d) (ho : OKa n m) (k : Int) : Sim (offS m k) (roffS d k) ∧ OKa n (offS m k) := by
  obtain ⟨al, sy, off, acts, inn, keep⟩ := m
  obtain ⟨safe, waits, power, ac2, in2, ke2⟩ := d
  obtain ⟨h1, h2, h3, h4, h5, h6⟩ := h
  dsimp only at h1 h2 h3 h4 h5 h6
  subst h1; subst h2; subst h3; subst h4; subst h5; subst h6
  cases power
  · exact ⟨⟨rfl, rfl, rfl, rfl, rfl, rfl⟩, ho⟩
  · have hk := kp_le k waits.size
    have e : (safe ++ waits).size - safe.size = waits.size := by rw [ByteArray.size_append]; omega
    have hz : (safe ++ waits.extract 0 (kp k waits.size)).size = safe.size + kp k waits.size := by rw [ByteArray.size_append, ext_size _ _ hk]
    have e1 : offS ⟨safe ++ waits, safe.size, !true, acts, inn, keep⟩ k = ⟨safe ++ waits.extract 0 (kp k waits.size), safe.size + kp k waits.size, true, acts, 0, keep⟩ := by
      unfold offS
      simp only [Bool.not_true, Bool.false_eq_true, if_false, e, ext_mid]
    rw [e1]
    refine ⟨⟨?_, ?_, rfl, rfl, rfl, rfl⟩, ⟨?_, ?_, ho.q_ac, by show (0 : Nat) < 9223372036854775808; omega⟩⟩
    · show _ = (safe ++ waits.extract 0 (kp k waits.size)) ++ ByteArray.empty
      rw [app_empty]
    · exact hz.symm
    · exact Nat.le_of_eq hz.symm
    · have := ho.q_al
      show (safe ++ waits.extract 0 (kp k waits.size)).size ≤ 4194304
      rw [hz]
      have h7 : (safe ++ waits).size ≤ 4194304 := this
      rw [ByteArray.size_append] at h7
      omega
def mOf (d : Rp) : Sp := ⟨d.safe ++ d.waits, d.safe.size, !d.power, d.acts, d.inn, d.keep⟩
theorem Sim.eq (h : Sim m d) : m = mOf d := by
  obtain ⟨al, sy, off, acts, inn, keep⟩ := m
  obtain ⟨h1, h2, h3, h4, h5, h6⟩ := h
  dsimp only at h1 h2 h3 h4 h5 h6
  subst h1; subst h2; subst h3; subst h4; subst h5; subst h6
  rfl
theorem mOf_sim (d : Rp) : Sim (mOf d) d := ⟨rfl, rfl, rfl, rfl, rfl, rfl⟩
theorem act_sim (ho : OKa n (mOf d)) : Sim (actS (mOf d)) (ractS d) ∧ OKa (n + 1) (actS (mOf d)) := by
  by_cases h1 : d.inn = 1
  · have e1 : actS (mOf d) = offS (mOf { d with acts := d.acts + 1 }) d.keep := by unfold actS; rw [if_pos (show (mOf d).inn = 1 from h1)]; rfl
    have e2 : ractS d = roffS { d with acts := d.acts + 1 } d.keep := by unfold ractS; rw [if_pos h1]
    rw [e1, e2]
    exact off_sim (d := { d with acts := d.acts + 1 }) (n := n + 1) (mOf_sim _) ⟨ho.q_sy, ho.q_al, Nat.succ_le_succ ho.q_ac, ho.q_in⟩ _
  · have e1 : actS (mOf d) = mOf { d with acts := d.acts + 1, inn := d.inn - 1 } := by unfold actS; rw [if_neg (show ¬ (mOf d).inn = 1 from h1)]; rfl
    have e2 : ractS d = { d with acts := d.acts + 1, inn := d.inn - 1 } := by unfold ractS; rw [if_neg h1]
    rw [e1, e2]
    exact ⟨mOf_sim _, ⟨ho.q_sy, ho.q_al, Nat.succ_le_succ ho.q_ac, by have : d.inn < 9223372036854775808 := ho.q_in; show d.inn - 1 < _; omega⟩⟩
theorem app_sim (h : Sim m d) (ho : OKa n m) (r : ByteArray) : Sim (appS m r).1 (rappS d r).1 ∧ OKa (n + 1) (appS m r).1 ∧ (appS m r).2 = (rappS d r).2 := by
  have hz := h.sizes
  have hl := lineS_size r
  have he := h.eq
  subst he
  cases hp : d.power
  · have e1 : appS (mOf d) r = (mOf d, 50) := by unfold appS; rw [if_pos (show (mOf d).off = true by show (!d.power) = true; rw [hp]; rfl)]
    have e2 : rappS d r = (d, 50) := by unfold rappS; rw [if_neg (by rw [hp]; decide)]
    rw [e1, e2]
    exact ⟨mOf_sim d, ho.up, rfl⟩
  · have hoff : ¬ (mOf d).off = true := by show ¬ (!d.power) = true; rw [hp]; decide
    by_cases hf : 4194304 ≤ encLen r.size + (mOf d).al.size
    · have e1 : appS (mOf d) r = (mOf d, 51) := by unfold appS; rw [if_neg hoff, if_pos hf]
      have e2 : rappS d r = (d, 51) := by unfold rappS; rw [if_pos hp, if_pos (show 4194304 < d.safe.size + d.waits.size + (lineS r).size by omega)]
      rw [e1, e2]
      exact ⟨mOf_sim d, ho.up, rfl⟩
    · have e1 : appS (mOf d) r = (actS (mOf { d with waits := d.waits ++ lineS r }), if d.inn = 1 then 50 else 0) := by
        unfold appS; rw [if_neg hoff, if_neg hf]
        have : (mOf d).al ++ lineS r = d.safe ++ (d.waits ++ lineS r) := ByteArray.append_assoc
        rw [this]; rfl
      have e2 : rappS d r = (ractS { d with waits := d.waits ++ lineS r }, if d.inn = 1 then 50 else 0) := by unfold rappS; rw [if_pos hp, if_neg (show ¬ 4194304 < d.safe.size + d.waits.size + (lineS r).size by omega)]
      rw [e1, e2]
      have ha : (mOf { d with waits := d.waits ++ lineS r }).al.size = d.safe.size + d.waits.size + (lineS r).size := by
        show (d.safe ++ (d.waits ++ lineS r)).size = _
        rw [ByteArray.size_append, ByteArray.size_append]; omega
      have h2 := act_sim (d := { d with waits := d.waits ++ lineS r }) (n := n) ⟨by rw [ha]; show d.safe.size ≤ _; omega, by rw [ha]; omega, ho.q_ac, ho.q_in⟩
      exact ⟨h2.1, h2.2, rfl⟩
theorem sync_sim (h : Sim m d) (ho : OKa n m) : Sim (syncS m).1 (rsyncS d).1 ∧ OKa (n + 1) (syncS m).1 ∧ (syncS m).2 = (rsyncS d).2 := by
  have he := h.eq
  subst he
  cases hp : d.power
  · have e1 : syncS (mOf d) = (mOf d, 50) := by unfold syncS; rw [if_pos (show (mOf d).off = true by show (!d.power) = true; rw [hp]; rfl)]
    have e2 : rsyncS d = (d, 50) := by unfold rsyncS; rw [if_neg (by rw [hp]; decide)]
    rw [e1, e2]
    exact ⟨mOf_sim d, ho.up, rfl⟩
  · have hoff : ¬ (mOf d).off = true := by show ¬ (!d.power) = true; rw [hp]; decide
    by_cases h1 : d.inn = 1
    · have e1 : syncS (mOf d) = (actS (mOf d), 50) := by unfold syncS; rw [if_neg hoff, if_pos (show (mOf d).inn = 1 from h1)]
      have e2 : rsyncS d = (ractS d, 50) := by unfold rsyncS; rw [if_pos hp, if_pos h1]
      rw [e1, e2]
      have h2 := act_sim ho
      exact ⟨h2.1, h2.2, rfl⟩
    · have e1 : syncS (mOf d) = (⟨d.safe ++ d.waits, (d.safe ++ d.waits).size, !d.power, d.acts + 1, d.inn - 1, d.keep⟩, 0) := by unfold syncS actS; rw [if_neg hoff, if_neg (show ¬ (mOf d).inn = 1 from h1), if_neg (show ¬ (mOf d).inn = 1 from h1)]; rfl
      have e2 : rsyncS d = (⟨d.safe ++ d.waits, ByteArray.empty, d.power, d.acts + 1, d.inn - 1, d.keep⟩, 0) := by unfold rsyncS ractS; rw [if_pos hp, if_neg h1, if_neg h1]
      rw [e1, e2]
      exact ⟨⟨(app_empty _).symm, rfl, rfl, rfl, rfl, rfl⟩, ⟨Nat.le_refl _, ho.q_al, Nat.succ_le_succ ho.q_ac, by have : d.inn < 9223372036854775808 := ho.q_in; show d.inn - 1 < _; omega⟩, rfl⟩
theorem on_sim (h : Sim m d) (ho : OKa n m) : Sim (onS m) (ronS d) ∧ OKa n (onS m) := ⟨⟨h.s_al, h.s_sy, rfl, h.s_acts, h.s_inn, h.s_keep⟩, ⟨ho.q_sy, ho.q_al, ho.q_ac, ho.q_in⟩⟩
theorem arm_sim (h : Sim m d) (ho : OKa n m) {a k : Int} (ha : a < 9223372036854775808) : Sim (armS m a k) (rarmS d a k) ∧ OKa n (armS m a k) := ⟨⟨h.s_al, h.s_sy, h.s_off, h.s_acts, rfl, rfl⟩, ⟨ho.q_sy, ho.q_al, ho.q_ac, by show a.toNat < _; omega⟩⟩
theorem open_sim (h : Sim m d) (ho : OKa n m) {ls : List ByteArray} {tl : ByteArray} (hC : Cuts m.al ls tl) : Sim (openS m ls) (ropenS d ls) ∧ OKa n (openS m ls) := by
  have he : m.al.extract 0 (cat ls).size = cat ls := by rw [hC.eq]; exact ext_left _ _
  have hle : (cat ls).size ≤ m.al.size := by rw [hC.eq, ByteArray.size_append]; omega
  have hok : OKa n (openS m ls) := ⟨Nat.min_le_right _ _, Nat.le_trans hle ho.q_al, ho.q_ac, ho.q_in⟩
  have hz := h.sizes
  refine ⟨?_, hok⟩
  unfold ropenS openS
  rw [h.s_al] at he
  by_cases hl : (cat ls).size < d.safe.size
  · rw [if_pos hl]
    refine ⟨?_, ?_, h.s_off, h.s_acts, h.s_inn, h.s_keep⟩
    · show cat ls = d.safe.extract 0 (cat ls).size ++ ByteArray.empty
      rw [app_empty, ← ext_low d.safe d.waits _ (by omega), he]
    · show min m.sy (cat ls).size = (d.safe.extract 0 (cat ls).size).size
      rw [ext_size _ _ (by omega), h.s_sy]; omega
  · rw [if_neg hl]
    refine ⟨?_, ?_, h.s_off, h.s_acts, h.s_inn, h.s_keep⟩
    · show cat ls = d.safe ++ d.waits.extract 0 ((cat ls).size - d.safe.size)
      rw [← ext_mid, show d.safe.size + ((cat ls).size - d.safe.size) = (cat ls).size by omega, he]
    · show min m.sy (cat ls).size = d.safe.size
      rw [h.s_sy]; omega
theorem new_sim (b : ByteArray) (hb : b.size ≤ 4194304) : Sim ⟨b, b.size, false, 0, 0, 0⟩ ⟨b, ByteArray.empty, true, 0, 0, 0⟩ ∧ OKa 0 ⟨b, b.size, false, 0, 0, 0⟩ := ⟨⟨(app_empty b).symm, rfl, rfl, rfl, rfl, rfl⟩, ⟨Nat.le_refl _, hb, Nat.le_refl _, by show (0 : Nat) < 9223372036854775808; omega⟩⟩
end
section
variable {w : World} {g : Nat} {m : Sp} {d : Rp} {n : Nat}
abbrev TRp : TypeId := 51
theorem rapp_calls (h : Sim m d) (ho : OKa n m) (hn : n ≤ 1000000) {r : ByteArray} (hs : r.size ≤ 1073741824) (hr : Row w g () 6 (rpC d) TRp) : Calls Try.prog 24 #[.pointer (some ⟨g, 0, none⟩), .string r] w fun e w' => e = .returned (.int .i64 (rappS d r).2) ∧ Row w' g () 6 (rpC (rappS d r).1) TRp ∧ Fr ⟨w, [g]⟩ w' := by
  have hz := h.sizes
  have hal := ho.q_al
  have hac := ho.q_ac
  rw [h.s_acts] at hac
  have hin := ho.q_in
  rw [h.s_inn] at hin
  have hl := lineS_size r
  have hel := encLen_le r.size
  obtain ⟨safe, waits, power, acts, inn, keep⟩ := d
  dsimp only at hz hac hin
  cases power
  · exact rapp_off hr
  · by_cases hf : 4194304 < safe.size + waits.size + (lineS r).size
    · have e : rappS ⟨safe, waits, true, acts, inn, keep⟩ r = (⟨safe, waits, true, acts, inn, keep⟩, 51) := by unfold rappS; rw [if_pos rfl, if_pos hf]
      rw [e]
      exact rapp_full (safe := safe) (waits := waits) hr (by omega) hs (by omega) hf
    · by_cases h1 : inn = 1
      · subst h1
        have e : rappS ⟨safe, waits, true, acts, 1, keep⟩ r = (roffS ⟨safe, waits ++ lineS r, true, acts + 1, 1, keep⟩ keep, 50) := by unfold rappS ractS; rw [if_pos rfl, if_neg hf]; rfl
        rw [e]
        exact rapp_goes (safe := safe) (waits := waits) hr hs (by omega) (by omega) (by rw [ByteArray.size_append]; omega)
      · have e : rappS ⟨safe, waits, true, acts, inn, keep⟩ r = (⟨safe, waits ++ lineS r, true, acts + 1, inn - 1, keep⟩, 0) := by unfold rappS ractS; rw [if_pos rfl, if_neg hf]; simp only [if_neg h1]
        rw [e]
        exact rapp_stays (safe := safe) (waits := waits) hr hs (by omega) (by omega) hin h1
theorem rsync_calls (h : Sim m d) (ho : OKa n m) (hn : n ≤ 1000000) (hr : Row w g () 6 (rpC d) TRp) : Calls Try.prog 25 #[.pointer (some ⟨g, 0, none⟩)] w fun e w' => e = .returned (.int .i64 (rsyncS d).2) ∧ Row w' g () 6 (rpC (rsyncS d).1) TRp ∧ Fr ⟨w, [g]⟩ w' := by
  have hz := h.sizes
  have hal := ho.q_al
  have hac := ho.q_ac
  rw [h.s_acts] at hac
  have hin := ho.q_in
  rw [h.s_inn] at hin
  obtain ⟨safe, waits, power, acts, inn, keep⟩ := d
  dsimp only at hz hac hin
  cases power
  · exact rsync_off hr
  · by_cases h1 : inn = 1
    · subst h1
      have e : rsyncS ⟨safe, waits, true, acts, 1, keep⟩ = (roffS ⟨safe, waits, true, acts + 1, 1, keep⟩ keep, 50) := by unfold rsyncS ractS; rw [if_pos rfl, if_pos rfl]; rfl
      rw [e]
      exact rsync_goes (safe := safe) (waits := waits) hr (by omega) (by omega)
    · have e : rsyncS ⟨safe, waits, true, acts, inn, keep⟩ = (⟨safe ++ waits, ByteArray.empty, true, acts + 1, inn - 1, keep⟩, 0) := by unfold rsyncS ractS; rw [if_pos rfl]; simp only [if_neg h1]
      rw [e]
      exact rsync_stays (safe := safe) (waits := waits) hr (by omega) (by omega) hin h1
theorem roff_calls (h : Sim m d) (ho : OKa n m) {k : Int} (hr : Row w g () 6 (rpC d) TRp) : Calls Try.prog 27 #[.pointer (some ⟨g, 0, none⟩), .int .i64 k] w fun e w' => e = .returned (.tuple #[]) ∧ Row w' g () 6 (rpC (roffS d k)) TRp ∧ Fr ⟨w, [g]⟩ w' := by
  have hz := h.sizes
  have hal := ho.q_al
  obtain ⟨safe, waits, power, acts, inn, keep⟩ := d
  dsimp only at hz
  cases power
  · exact roff_off hr
  · exact roff_on (safe := safe) (waits := waits) hr (by omega)
variable {ls rs : List ByteArray} {tl : ByteArray}
theorem openM_off (h : m.off = true) (hr : Row w g () 6 (spC m) TSp) : Calls Try.prog 10 #[.pointer (some ⟨g, 0, none⟩)] w fun e w' => e = .returned (.tuple #[.slice none 0 0, .int .i64 50]) ∧ Row w' g () 6 (spC m) TSp ∧ Fr ⟨w, [g]⟩ w' := by
  obtain ⟨al, sy, off, acts, inn, keep⟩ := m
  dsimp only at h
  subst h
  exact open_off hr
theorem openM_none (h : m.off = false) (ho : OKa n m) (hC : Cuts m.al ls tl) (hrec : recs ls = none) (hr : Row w g () 6 (spC m) TSp) : Calls Try.prog 10 #[.pointer (some ⟨g, 0, none⟩)] w fun e w' => e = .returned (.tuple #[.slice none 0 0, .int .i64 4]) ∧ Row w' g () 6 (spC m) TSp ∧ Fr ⟨w, [g]⟩ w' := by
  obtain ⟨al, sy, off, acts, inn, keep⟩ := m
  dsimp only at h
  subst h
  exact open_none hC ho.q_al hrec hr
theorem openM_some (h : m.off = false) (ho : OKa n m) (hC : Cuts m.al ls tl) (hrec : recs ls = some rs) (hr : Row w g () 6 (spC m) TSp) : Calls Try.prog 10 #[.pointer (some ⟨g, 0, none⟩)] w fun e w' => (∃ A c, e = .returned (.tuple #[.slice A rs.length c, .int .i64 0]) ∧ TX w' w.heap.size (.slice A rs.length c) rs) ∧ Row w' g () 6 (spC (openS m ls)) TSp ∧ Fr ⟨w, [g]⟩ w' := by
  obtain ⟨al, sy, off, acts, inn, keep⟩ := m
  dsimp only at h
  subst h
  exact open_some hC ho.q_al hrec hr
theorem ropenM_off (h : d.power = false) (hr : Row w g () 6 (rpC d) TRp) : Calls Try.prog 26 #[.pointer (some ⟨g, 0, none⟩)] w fun e w' => e = .returned (.tuple #[.slice none 0 0, .int .i64 50]) ∧ Row w' g () 6 (rpC d) TRp ∧ Fr ⟨w, [g]⟩ w' := by
  obtain ⟨safe, waits, power, acts, inn, keep⟩ := d
  dsimp only at h
  subst h
  exact ropen_off hr
theorem ropenM_none (h : d.power = true) (hs : Sim m d) (ho : OKa n m) (hC : Cuts m.al ls tl) (hrec : recs ls = none) (hr : Row w g () 6 (rpC d) TRp) : Calls Try.prog 26 #[.pointer (some ⟨g, 0, none⟩)] w fun e w' => e = .returned (.tuple #[.slice none 0 0, .int .i64 4]) ∧ Row w' g () 6 (rpC d) TRp ∧ Fr ⟨w, [g]⟩ w' := by
  have hz := hs.sizes
  have hal := ho.q_al
  rw [hs.s_al] at hC
  obtain ⟨safe, waits, power, acts, inn, keep⟩ := d
  dsimp only at h hz
  subst h
  exact ropen_none (safe := safe) (waits := waits) hr hC (by omega) hrec
theorem ropenM_some (h : d.power = true) (hs : Sim m d) (ho : OKa n m) (hC : Cuts m.al ls tl) (hrec : recs ls = some rs) (hr : Row w g () 6 (rpC d) TRp) : Calls Try.prog 26 #[.pointer (some ⟨g, 0, none⟩)] w fun e w' => (∃ A c, e = .returned (.tuple #[.slice A rs.length c, .int .i64 0]) ∧ TX w' w.heap.size (.slice A rs.length c) rs) ∧ Row w' g () 6 (rpC (ropenS d ls)) TRp ∧ Fr ⟨w, [g]⟩ w' := by
  have hz := hs.sizes
  have hal := ho.q_al
  rw [hs.s_al] at hC
  obtain ⟨safe, waits, power, acts, inn, keep⟩ := d
  dsimp only at h hz
  subst h
  unfold ropenS
  by_cases hl : (cat ls).size < safe.size
  · rw [if_pos hl]
    exact ropen_low (safe := safe) (waits := waits) hr hC (by omega) hrec hl
  · rw [if_neg hl]
    exact ropen_high (safe := safe) (waits := waits) hr hC (by omega) hrec (by omega)
end
theorem call_cells {w : World} {a : Option Addr} {n i : Nat} {l : List S49} {x : S49} (h : Kd.C k49 w a n l) (hx : l[i]? = some x) : ∃ ad, a = some ad ∧ ∀ j, j < 4 → w.cell? ((ad.add (i * 4)).add j) = some (mkc () (lsc [.i .i64 x.f0, .i .i64 x.f1, .i .i64 x.f2, .s x.f3] j)) := by
  have hi := (List.getElem?_eq_some_iff.1 hx).1
  obtain ⟨ad, he, hc⟩ := h.2.2 (by have := h.1; omega)
  obtain ⟨c, h1, h2, h3⟩ := hc i x hx
  have h2 := k49_open h2
  subst h2
  refine ⟨ad, he, fun j hj => ?_⟩
  rw [Go.Deep.add_add]
  match j, hj with
  | 0, _ => exact h3 0 _ rfl
  | 1, _ => exact h3 1 _ rfl
  | 2, _ => exact h3 2 _ rfl
  | 3, _ => exact h3 3 _ rfl
theorem lit_range {z : Int} (h : (Lit.int .i64 z).wf = true) : -9223372036854775808 ≤ z ∧ z < 9223372036854775808 := by
  simp [Lit.wf, IntKind.min, IntKind.max, IntKind.bits, IntKind.signed] at h
  omega
end Go.Proofs.Ytdleomeiojlooaa.P
end
