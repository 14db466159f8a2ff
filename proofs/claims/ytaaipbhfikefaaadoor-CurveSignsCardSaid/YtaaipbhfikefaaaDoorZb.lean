/- The curve: the laws CurveLaws, CurveSigns, CurveTimes. Printed by genLb.py. -/
import Derived.Test.YtaaipbhfikefaaaDoorZa
namespace Go.Proofs.YtaaipbhfikefaaaDoor.P
set_option linter.unusedVariables false
set_option linter.unusedSimpArgs false
open Go.RowKit Go.ChangeShapes Go.WideShapes Go.Proofs.YtaaipbhfikefaaaDoorW.PrintWords Go.Proofs.YtaaipbhfikefaaaDoorW.PrintLast Go.Proofs.YtaaipbhfikefaaaDoorW.PrintMore
open Go.Proofs.YtaaipbhfikefaaaDoor.P.Fd
theorem xor128_run (x : Int) (w : World) (p q : Operand) : (do eqGuard .xor 5 p q (.int .u8 x) (.int .u8 128); binOp .xor 5 (.int .u8 x) (.int .u8 128) : Sem Value).run Tryd.prog w = .ok (.int .u8 (Go.bits .xor .u8 x 128)) w := by go_simp
theorem toU_run {n : Int} (h : 0 ≤ n ∧ n < 256) (w : World) : (convert 5 52 (.int .u8 n)).run Tryd.prog w = .ok (.int .u64 n) w := by
  have e : IntKind.u64.wrap n = n := by show n % 18446744073709551616 = n; omega
  go_simp
  try exact e
theorem addU_run {a b s : Int} (h : a + b = s) (hs : 0 ≤ s ∧ s < 18446744073709551616) (w : World) (p q : Operand) : (do eqGuard .add 52 p q (.int .u64 a) (.int .u64 b); binOp .add 52 (.int .u64 a) (.int .u64 b) : Sem Value).run Tryd.prog w = .ok (.int .u64 s) w := by
  subst h
  have e : IntKind.u64.wrap (a + b) = a + b := by show (a + b) % 18446744073709551616 = a + b; omega
  go_simp
  try exact e
theorem shr8U_run {s v : Int} (h : s / 256 = v) (w : World) (p q : Operand) : (do eqGuard .shr 52 p q (.int .u64 s) (.int .u64 8); binOp .shr 52 (.int .u64 s) (.int .u64 8) : Sem Value).run Tryd.prog w = .ok (.int .u64 v) w := by
  subst h
  go_simp
theorem ofU_run {s u : Int} (h : s % 256 = u) (w : World) : (convert 52 5 (.int .u64 s)).run Tryd.prog w = .ok (.int .u8 u) w := by
  have e : IntKind.u8.wrap s = u := h
  go_simp
  try exact e
theorem tabcl_8 : rtab .any (opsOf Tryd.f5 8) = (true, [([], []), ([], []), ([0, 1], [0, 1]), ([], []), ([], []), ([3, 4, 2], [3, 4]), ([2, 5, 5], [2, 5]), ([6, 6], [6]), ([7], [7]), ([7], [7]), ([8, 9, 7, 7], [7, 8, 9]), ([7], [7]), ([10, 11, 10, 7], [7, 10, 11]), ([7], [7]), ([7], [7]), ([7], [7]), ([14, 15, 12, 7], [7, 14, 15]), ([13, 16, 16, 7], [7, 13, 16]), ([12, 17, 17, 7], [7, 12, 17]), ([7, 18], [7, 18]), ([19, 18], [19]), ([20], [20]), ([20, 20], [20]), ([21, 22, 22, 20], [20, 21, 22]), ([20], [20]), ([23, 24, 23, 20], [20, 23, 24]), ([20, 25], [20, 25]), ([26, 25], [26]), ([27], [27]), ([27], [27]), ([29, 27, 27], [27, 29]), ([28, 30, 30, 27], [27, 28, 30]), ([31, 27], [27]), ([31, 32, 32, 27], [27, 31, 32]), ([27, 33], [27, 33]), ([34, 33], [34]), ([35], [35]), ([36, 35, 35], [35, 36]), ([37, 37, 35], [35, 37]), ([35], [35]), ([38, 39, 38, 35], [35, 38, 39]), ([35, 40], [35, 40]), ([41, 40, 0, 1, 2, 3, 4, 5, 6, 7, 8, 9, 10, 11, 12, 13, 14, 15, 16, 17, 18, 19, 20, 21, 22, 23, 24, 25, 26, 27, 28, 29, 30, 31, 32, 33, 34, 35, 36, 37, 38, 39, 40, 41], [41])]) := by kernel_rfl
theorem bitscl_8 : waitsOk [([], []), ([], []), ([0, 1], [0, 1]), ([], []), ([], []), ([3, 4, 2], [3, 4]), ([2, 5, 5], [2, 5]), ([6, 6], [6]), ([7], [7]), ([7], [7]), ([8, 9, 7, 7], [7, 8, 9]), ([7], [7]), ([10, 11, 10, 7], [7, 10, 11]), ([7], [7]), ([7], [7]), ([7], [7]), ([14, 15, 12, 7], [7, 14, 15]), ([13, 16, 16, 7], [7, 13, 16]), ([12, 17, 17, 7], [7, 12, 17]), ([7, 18], [7, 18]), ([19, 18], [19]), ([20], [20]), ([20, 20], [20]), ([21, 22, 22, 20], [20, 21, 22]), ([20], [20]), ([23, 24, 23, 20], [20, 23, 24]), ([20, 25], [20, 25]), ([26, 25], [26]), ([27], [27]), ([27], [27]), ([29, 27, 27], [27, 29]), ([28, 30, 30, 27], [27, 28, 30]), ([31, 27], [27]), ([31, 32, 32, 27], [27, 31, 32]), ([27, 33], [27, 33]), ([34, 33], [34]), ([35], [35]), ([36, 35, 35], [35, 36]), ([37, 37, 35], [35, 37]), ([35], [35]), ([38, 39, 38, 35], [35, 38, 39]), ([35, 40], [35, 40]), ([41, 40, 0, 1, 2, 3, 4, 5, 6, 7, 8, 9, 10, 11, 12, 13, 14, 15, 16, 17, 18, 19, 20, 21, 22, 23, 24, 25, 26, 27, 28, 29, 30, 31, 32, 33, 34, 35, 36, 37, 38, 39, 40, 41], [41])] [0, 0, 3, 0, 0, 31, 63, 127, 255, 255, 1023, 255, 4095, 255, 255, 255, 57343, 131071, 262143, 524287, 1048575, 2097151, 2097151, 8388607, 2097151, 33554431, 67108863, 134217727, 268435455, 268435455, 805306367, 2147483647, 4294967295, 8589934591, 17179869183, 34359738367, 68719476735, 137438953471, 274877906943, 68719476735, 1099511627775, 2199023255551, 4398046511103] = true := by kernel_rfl

theorem tabcs_8 : rtab .any (opsOf Tryd.f6 8) = (true, [([], []), ([0], [0]), ([1], [1]), ([2], [2]), ([3, 2, 2], [2, 3]), ([2], [2]), ([4, 5, 4, 2], [2, 4, 5]), ([2, 6], [2, 6]), ([7, 6, 0, 1, 2, 3, 4, 5, 6, 7], [7])]) := by kernel_rfl
theorem bitscs_8 : waitsOk [([], []), ([0], [0]), ([1], [1]), ([2], [2]), ([3, 2, 2], [2, 3]), ([2], [2]), ([4, 5, 4, 2], [2, 4, 5]), ([2, 6], [2, 6]), ([7, 6, 0, 1, 2, 3, 4, 5, 6, 7], [7])] [0, 1, 3, 7, 15, 7, 63, 127, 255] = true := by kernel_rfl

theorem tabcs_9 : rtab .any (opsOf Tryd.f6 9) = (true, [([], []), ([0], [0]), ([], []), ([1, 2, 1], [1, 2])]) := by kernel_rfl
theorem bitscs_9 : waitsOk [([], []), ([0], [0]), ([], []), ([1, 2, 1], [1, 2])] [0, 1, 0, 7] = true := by kernel_rfl

theorem tabcs_11 : rtab .any (opsOf Tryd.f6 11) = (true, [([], []), ([0], [0]), ([1], [1]), ([1], [1]), ([3, 1, 1], [1, 3]), ([2, 4, 4, 1], [1, 2, 4]), ([1, 5], [1, 5]), ([6, 5], [6]), ([7], [7]), ([7], [7]), ([8, 9, 7, 7], [7, 8, 9]), ([10, 7], [7]), ([10, 11, 11, 7], [7, 10, 11]), ([7, 12], [7, 12]), ([13, 12, 0, 1, 2, 3, 4, 5, 6, 7, 8, 9, 10, 11, 12, 13], [13])]) := by kernel_rfl
theorem bitscs_11 : waitsOk [([], []), ([0], [0]), ([1], [1]), ([1], [1]), ([3, 1, 1], [1, 3]), ([2, 4, 4, 1], [1, 2, 4]), ([1, 5], [1, 5]), ([6, 5], [6]), ([7], [7]), ([7], [7]), ([8, 9, 7, 7], [7, 8, 9]), ([10, 7], [7]), ([10, 11, 11, 7], [7, 10, 11]), ([7, 12], [7, 12]), ([13, 12, 0, 1, 2, 3, 4, 5, 6, 7, 8, 9, 10, 11, 12, 13], [13])] [0, 1, 3, 3, 11, 31, 63, 127, 255, 255, 1023, 2047, 4095, 8191, 16383] = true := by kernel_rfl

theorem tabct_7 : rtab .any (opsOf Tryd.f8 7) = (true, [([], []), ([], []), ([1], [1]), ([0, 2], [0, 2]), ([], []), ([], []), ([5], [5]), ([4, 6, 3], [4, 6]), ([3, 7, 7], [3, 7]), ([], []), ([], []), ([10], [10]), ([], []), ([12], [12]), ([13], [13]), ([11, 14], [11, 14]), ([9, 15, 8], [9, 15]), ([8, 16, 16], [8, 16]), ([17, 17], [17]), ([18], [18]), ([18], [18]), ([19, 20, 18, 18], [18, 19, 20]), ([21, 18], [18]), ([21, 22, 22, 18], [18, 21, 22]), ([18, 23], [18, 23]), ([24, 23], [24]), ([25], [25]), ([25], [25]), ([26, 27, 25, 25], [25, 26, 27]), ([25], [25]), ([28, 29, 28, 25], [25, 28, 29]), ([25, 30], [25, 30]), ([31, 30], [31]), ([32], [32]), ([32], [32]), ([33, 34, 32, 32], [32, 33, 34]), ([32], [32]), ([32], [32]), ([36, 37, 35, 32], [32, 36, 37]), ([35, 38, 38, 32], [32, 35, 38]), ([32, 39], [32, 39]), ([40, 39, 0, 1, 2, 3, 4, 5, 6, 7, 8, 9, 10, 11, 12, 13, 14, 15, 16, 17, 18, 19, 20, 21, 22, 23, 24, 25, 26, 27, 28, 29, 30, 31, 32, 33, 34, 35, 36, 37, 38, 39, 40], [40])]) := by kernel_rfl
theorem bitsct_7 : waitsOk [([], []), ([], []), ([1], [1]), ([0, 2], [0, 2]), ([], []), ([], []), ([5], [5]), ([4, 6, 3], [4, 6]), ([3, 7, 7], [3, 7]), ([], []), ([], []), ([10], [10]), ([], []), ([12], [12]), ([13], [13]), ([11, 14], [11, 14]), ([9, 15, 8], [9, 15]), ([8, 16, 16], [8, 16]), ([17, 17], [17]), ([18], [18]), ([18], [18]), ([19, 20, 18, 18], [18, 19, 20]), ([21, 18], [18]), ([21, 22, 22, 18], [18, 21, 22]), ([18, 23], [18, 23]), ([24, 23], [24]), ([25], [25]), ([25], [25]), ([26, 27, 25, 25], [25, 26, 27]), ([25], [25]), ([28, 29, 28, 25], [25, 28, 29]), ([25, 30], [25, 30]), ([31, 30], [31]), ([32], [32]), ([32], [32]), ([33, 34, 32, 32], [32, 33, 34]), ([32], [32]), ([32], [32]), ([36, 37, 35, 32], [32, 36, 37]), ([35, 38, 38, 32], [32, 35, 38]), ([32, 39], [32, 39]), ([40, 39, 0, 1, 2, 3, 4, 5, 6, 7, 8, 9, 10, 11, 12, 13, 14, 15, 16, 17, 18, 19, 20, 21, 22, 23, 24, 25, 26, 27, 28, 29, 30, 31, 32, 33, 34, 35, 36, 37, 38, 39, 40], [40])] [0, 0, 2, 7, 0, 0, 32, 127, 255, 0, 0, 1024, 0, 4096, 12288, 31744, 65535, 131071, 262143, 524287, 524287, 2097151, 4194303, 8388607, 16777215, 33554431, 67108863, 67108863, 268435455, 67108863, 1073741823, 2147483647, 4294967295, 8589934591, 8589934591, 34359738367, 8589934591, 8589934591, 274877906943, 549755813887, 1099511627775, 2199023255551] = true := by kernel_rfl

theorem CurveLaws_walk (a b c : Nat → Int) (w : World) (hT : TabD w) (w0 : ∀ i, i < 32 → (Lit.int .u8 (a i)).wf = true) (w1 : ∀ i, i < 32 → (Lit.int .u8 (b i)).wf = true) (w2 : ∀ i, i < 32 → (Lit.int .u8 (c i)).wf = true) : Calls Tryd.prog 5 #[.agg (FR .u8 32 a), .agg (FR .u8 32 b), .agg (FR .u8 32 c)] w fun e w' => e = .returned (.bool true) ∧ Below w.heap.size w w' := by
  have ha := By_wf w0
  have hb := By_wf w1
  have hc := By_wf w2
  obtain ⟨Xa, hXa⟩ : ∃ X, decP a = X := ⟨_, rfl⟩
  obtain ⟨Ya, hYa⟩ : ∃ X, decRP a = X := ⟨_, rfl⟩
  obtain ⟨ra, hra⟩ : ∃ r, decOk a = r := ⟨_, rfl⟩
  have hrra := (decOk_eq ha).symm.trans hra
  obtain ⟨Xb, hXb⟩ : ∃ X, decP b = X := ⟨_, rfl⟩
  obtain ⟨Yb, hYb⟩ : ∃ X, decRP b = X := ⟨_, rfl⟩
  obtain ⟨rb, hrb⟩ : ∃ r, decOk b = r := ⟨_, rfl⟩
  have hrrb := (decOk_eq hb).symm.trans hrb
  obtain ⟨Xc, hXc⟩ : ∃ X, decP c = X := ⟨_, rfl⟩
  obtain ⟨Yc, hYc⟩ : ∃ X, decRP c = X := ⟨_, rfl⟩
  obtain ⟨rc, hrc⟩ : ∃ r, decOk c = r := ⟨_, rfl⟩
  have hrrc := (decOk_eq hc).symm.trans hrc
  refine enter_ 82 Tryd.func5 rfl rfl (fun a0 hS => ?_)
  have HS0 : Sl a0 82 [(0, .agg (FR .u8 32 a)), (1, .agg (FR .u8 32 b)), (2, .agg (FR .u8 32 c))] := hS
  have HH0 : Held w w [] := Held.first w
  clear hS
  refine wp_seq ?_
  have hLo : LOk [(0, 3, .ptr 0 0), (1, 4, .ptr 1 0), (2, 5, .ptr 2 0), (3, 6, .val (.bool false))] := ⟨show ([0, 1, 2, 3] : List Nat).Nodup by decide, show ([3, 4, 5, 6] : List Nat).Nodup by decide⟩
  refine plain_ (wE := w) (sz := 82) (n := 4) [0, 1, 3, 7] [(3, .ptr 0 0), (4, .ptr 1 0), (5, .ptr 2 0)] [(0, 3, .ptr 0 0), (1, 4, .ptr 1 0), (2, 5, .ptr 2 0), (3, 6, .val (.bool false))] [⟨0, some 0, none, .u8, 32, a, a, 22⟩, ⟨0, some 1, none, .u8, 32, b, b, 22⟩, ⟨0, some 2, none, .u8, 32, c, c, 22⟩] rfl (by rfl) HH0 rfl rfl hLo rfl HS0 (slL 0 (d := 0) rfl (slL 1 (d := 1) rfl (slL 2 (d := 2) rfl (trivial)))) ?_ ?_
  · show ∀ i ∈ [0, 1, 2, 3], _
    refine steps_cons (st_alloc 0 0 .u8 32 22 none _ _ rfl rfl (fun _ _ _ _ => rfl) rfl hLo rfl rfl rfl rfl (by rfl) (fun b G w hb ho => exec_box rfl (ev_off rfl (HS0.get 0 rfl)) (by kernel_rfl))) ?_
    refine steps_cons (st_alloc 1 1 .u8 32 22 none _ _ rfl rfl (fun _ _ _ _ => rfl) rfl hLo rfl rfl rfl rfl (by rfl) (fun b G w hb ho => exec_box rfl (ev_off rfl (HS0.get 1 rfl)) (by kernel_rfl))) ?_
    refine steps_cons (st_alloc 2 2 .u8 32 22 none _ _ rfl rfl (fun _ _ _ _ => rfl) rfl hLo rfl rfl rfl rfl (by rfl) (fun b G w hb ho => exec_box rfl (ev_off rfl (HS0.get 2 rfl)) (by kernel_rfl))) ?_
    refine steps_cons (st_run 3 _ rfl rfl hLo rfl rfl (fun _ _ _ _ => rfl) (fun b G w hb ho => exec_move (.inr rfl) (rfl))) ?_
    exact steps_nil
  clear hLo
  intro G a1 w1 hS hH
  have HS1 : Sl a1 82 [(3, .pointer (some ⟨(G 0), 0, none⟩)), (4, .pointer (some ⟨(G 1), 0, none⟩)), (5, .pointer (some ⟨(G 2), 0, none⟩))] := hS
  have HH1 : Held w w1 [⟨(G 0), .u8, 32, a, 22⟩, ⟨(G 1), .u8, 32, b, 22⟩, ⟨(G 2), .u8, 32, c, 22⟩] := hH
  clear hS hH HS0 HH0
  generalize G 0 = g1_0 at HS1 HH1
  generalize G 1 = g1_1 at HS1 HH1
  generalize G 2 = g1_2 at HS1 HH1
  refine then_ ?_
  refine wp_seq ?_
  refine wp_seq ?_
  have hLo : LOk [(0, 13, .val (.bool true)), (1, 14, .val (.bool false))] := ⟨show ([0, 1] : List Nat).Nodup by decide, show ([13, 14] : List Nat).Nodup by decide⟩
  refine plain_ (wE := w) (sz := 82) (n := 2) [0, 1] [(3, .val (.pointer (some ⟨g1_0, 0, none⟩))), (4, .val (.pointer (some ⟨g1_1, 0, none⟩))), (5, .val (.pointer (some ⟨g1_2, 0, none⟩))), (14, .val (.bool false))] [(0, 13, .val (.bool true)), (1, 14, .val (.bool false))] [⟨g1_0, none, none, .u8, 32, a, a, 22⟩, ⟨g1_1, none, none, .u8, 32, b, b, 22⟩, ⟨g1_2, none, none, .u8, 32, c, c, 22⟩] rfl (by rfl) HH1 rfl rfl hLo rfl HS1 (slS 0 rfl rfl (slS 1 rfl rfl (slS 2 rfl rfl (slL 1 (d := 1) rfl (trivial))))) ?_ ?_
  · show ∀ i ∈ [0, 1], _
    refine steps_cons (st_call 0 _ #[] rfl rfl rfl (fun _ _ _ _ => rfl) hLo rfl rfl Tryd.func17 rfl rfl (fun b G hb ho => args0 ) (fun w hw => alive_calls w (hT.to hw))) ?_
    refine steps_cons (st_run 1 _ rfl rfl hLo rfl rfl (fun _ _ _ _ => rfl) (fun b G w hb ho => exec_un rfl (ev_on hLo 0 rfl HS1.1 rfl (hb 0 (by rfl))) (by rfl))) ?_
    exact steps_nil
  clear hLo
  intro G a2 w2 hS hH
  have HS2 : Sl a2 82 [(3, .pointer (some ⟨g1_0, 0, none⟩)), (4, .pointer (some ⟨g1_1, 0, none⟩)), (5, .pointer (some ⟨g1_2, 0, none⟩)), (14, .bool false)] := hS
  have HH2 : Held w w2 [⟨g1_0, .u8, 32, a, 22⟩, ⟨g1_1, .u8, 32, b, 22⟩, ⟨g1_2, .u8, 32, c, 22⟩] := hH
  clear hS hH HS1 HH1
  refine then_ ?_
  refine wp_cond_false (HS2.get 3 rfl) ?_
  refine wp_skip ?_
  refine then_ ?_
  refine wp_seq ?_
  have hLo : LOk [(0, 16, .val (.agg (FR .u8 32 (a)))), (1, 17, .val (.tuple #[.agg (FR .u64 20 (Xa)), .bool ra])), (2, 15, .val (.tuple #[.agg (FR .u64 20 (Xa)), .bool ra])), (3, 18, .val (.agg (FR .u64 20 (Xa)))), (4, 19, .val (.bool ra)), (5, 7, .ptr 5 0), (7, 8, .val (.bool ra))] := ⟨show ([0, 1, 2, 3, 4, 5, 7] : List Nat).Nodup by decide, show ([16, 17, 15, 18, 19, 7, 8] : List Nat).Nodup by decide⟩
  refine plain_ (wE := w) (sz := 82) (n := 8) [0, 1, 3, 7, 15, 31, 63, 127] [(4, .val (.pointer (some ⟨g1_1, 0, none⟩))), (5, .val (.pointer (some ⟨g1_2, 0, none⟩))), (7, .ptr 5 0), (8, .val (.bool ra))] [(0, 16, .val (.agg (FR .u8 32 (a)))), (1, 17, .val (.tuple #[.agg (FR .u64 20 (Xa)), .bool ra])), (2, 15, .val (.tuple #[.agg (FR .u64 20 (Xa)), .bool ra])), (3, 18, .val (.agg (FR .u64 20 (Xa)))), (4, 19, .val (.bool ra)), (5, 7, .ptr 5 0), (7, 8, .val (.bool ra))] [⟨g1_0, none, none, .u8, 32, a, a, 22⟩, ⟨g1_1, none, none, .u8, 32, b, b, 22⟩, ⟨g1_2, none, none, .u8, 32, c, c, 22⟩, ⟨0, some 5, some 6, .u64, 20, fun _ => 0, Xa, 28⟩] rfl (by rfl) HH2 rfl rfl hLo rfl HS2 (slS 1 rfl rfl (slS 2 rfl rfl (slL 5 (d := 5) rfl (slL 6 (d := 7) rfl (trivial))))) ?_ ?_
  · show ∀ i ∈ [0, 1, 2, 3, 4, 5, 6, 7], _
    refine steps_cons (st_row0 0 0 _ rfl rfl rfl rfl (fun _ _ _ _ => rfl) hLo rfl rfl rfl (by rfl) Tryd.underlying22 infoB3 rfl (fun b G hb ho => ev_off rfl (HS2.get 0 rfl))) ?_
    refine steps_cons (st_call 1 _ #[.agg (FR .u8 32 (a))] rfl rfl rfl (fun _ _ _ _ => rfl) hLo rfl rfl Tryd.func12 rfl rfl (fun b G hb ho => args1 (ev_on hLo 0 rfl HS2.1 rfl (hb 0 (by rfl)))) (fun w hw => dec_as hXa hra w (hT.to hw) ha)) ?_
    refine steps_cons (st_run 2 _ rfl rfl hLo rfl rfl (fun _ _ _ _ => rfl) (fun b G w hb ho => exec_move (.inl rfl) (ev_on hLo 1 rfl HS2.1 rfl (hb 1 (by rfl))))) ?_
    refine steps_cons (st_run 3 _ rfl rfl hLo rfl rfl (fun _ _ _ _ => rfl) (fun b G w hb ho => exec_extract rfl (ev_on hLo 2 rfl HS2.1 rfl (hb 2 (by rfl))) (by rfl))) ?_
    refine steps_cons (st_run 4 _ rfl rfl hLo rfl rfl (fun _ _ _ _ => rfl) (fun b G w hb ho => exec_extract rfl (ev_on hLo 2 rfl HS2.1 rfl (hb 2 (by rfl))) (by rfl))) ?_
    refine steps_cons (st_alloc 5 3 .u64 20 28 (some 6) _ _ rfl rfl (fun _ _ _ _ => rfl) rfl hLo rfl rfl rfl rfl (by rfl) (fun b G w _ _ => by kernel_rfl)) ?_
    refine steps_cons (st_store 3 _ rfl rfl rfl rfl rfl (fun _ _ _ _ => rfl) rfl rfl rfl (by rfl) infoPt (fun b G hb ho => ev_on hLo 5 rfl HS2.1 rfl (hb 5 (by rfl))) (fun b G hb ho => ev_on hLo 3 rfl HS2.1 rfl (hb 3 (by rfl)))) ?_
    refine steps_cons (st_run 6 _ rfl rfl hLo rfl rfl (fun _ _ _ _ => rfl) (fun b G w hb ho => exec_move (.inr rfl) (ev_on hLo 4 rfl HS2.1 rfl (hb 4 (by rfl))))) ?_
    exact steps_nil
  clear hLo
  intro G a3 w3 hS hH
  have HS3 : Sl a3 82 [(4, .pointer (some ⟨g1_1, 0, none⟩)), (5, .pointer (some ⟨g1_2, 0, none⟩)), (7, .pointer (some ⟨(G 5), 0, none⟩)), (8, .bool ra)] := hS
  have HH3 : Held w w3 [⟨g1_0, .u8, 32, a, 22⟩, ⟨g1_1, .u8, 32, b, 22⟩, ⟨g1_2, .u8, 32, c, 22⟩, ⟨(G 5), .u64, 20, Xa, 28⟩] := hH
  clear hS hH HS2 HH2
  generalize G 5 = g3_5 at HS3 HH3
  refine then_ ?_
  refine wp_seq ?_
  have hLo : LOk [(0, 21, .val (.agg (FR .u8 32 (b)))), (1, 22, .val (.tuple #[.agg (FR .u64 20 (Xb)), .bool rb])), (2, 20, .val (.tuple #[.agg (FR .u64 20 (Xb)), .bool rb])), (3, 23, .val (.agg (FR .u64 20 (Xb)))), (4, 24, .val (.bool rb)), (5, 9, .ptr 5 0), (7, 10, .val (.bool rb))] := ⟨show ([0, 1, 2, 3, 4, 5, 7] : List Nat).Nodup by decide, show ([21, 22, 20, 23, 24, 9, 10] : List Nat).Nodup by decide⟩
  refine plain_ (wE := w) (sz := 82) (n := 8) [0, 1, 3, 7, 15, 31, 63, 127] [(5, .val (.pointer (some ⟨g1_2, 0, none⟩))), (7, .val (.pointer (some ⟨g3_5, 0, none⟩))), (8, .val (.bool ra)), (9, .ptr 5 0), (10, .val (.bool rb))] [(0, 21, .val (.agg (FR .u8 32 (b)))), (1, 22, .val (.tuple #[.agg (FR .u64 20 (Xb)), .bool rb])), (2, 20, .val (.tuple #[.agg (FR .u64 20 (Xb)), .bool rb])), (3, 23, .val (.agg (FR .u64 20 (Xb)))), (4, 24, .val (.bool rb)), (5, 9, .ptr 5 0), (7, 10, .val (.bool rb))] [⟨g1_0, none, none, .u8, 32, a, a, 22⟩, ⟨g1_1, none, none, .u8, 32, b, b, 22⟩, ⟨g1_2, none, none, .u8, 32, c, c, 22⟩, ⟨g3_5, none, none, .u64, 20, Xa, Xa, 28⟩, ⟨0, some 5, some 6, .u64, 20, fun _ => 0, Xb, 28⟩] rfl (by rfl) HH3 rfl rfl hLo rfl HS3 (slS 1 rfl rfl (slS 2 rfl rfl (slS 3 rfl rfl (slL 5 (d := 5) rfl (slL 6 (d := 7) rfl (trivial)))))) ?_ ?_
  · show ∀ i ∈ [0, 1, 2, 3, 4, 5, 6, 7], _
    refine steps_cons (st_row0 0 1 _ rfl rfl rfl rfl (fun _ _ _ _ => rfl) hLo rfl rfl rfl (by rfl) Tryd.underlying22 infoB3 rfl (fun b G hb ho => ev_off rfl (HS3.get 0 rfl))) ?_
    refine steps_cons (st_call 1 _ #[.agg (FR .u8 32 (b))] rfl rfl rfl (fun _ _ _ _ => rfl) hLo rfl rfl Tryd.func12 rfl rfl (fun b G hb ho => args1 (ev_on hLo 0 rfl HS3.1 rfl (hb 0 (by rfl)))) (fun w hw => dec_as hXb hrb w (hT.to hw) hb)) ?_
    refine steps_cons (st_run 2 _ rfl rfl hLo rfl rfl (fun _ _ _ _ => rfl) (fun b G w hb ho => exec_move (.inl rfl) (ev_on hLo 1 rfl HS3.1 rfl (hb 1 (by rfl))))) ?_
    refine steps_cons (st_run 3 _ rfl rfl hLo rfl rfl (fun _ _ _ _ => rfl) (fun b G w hb ho => exec_extract rfl (ev_on hLo 2 rfl HS3.1 rfl (hb 2 (by rfl))) (by rfl))) ?_
    refine steps_cons (st_run 4 _ rfl rfl hLo rfl rfl (fun _ _ _ _ => rfl) (fun b G w hb ho => exec_extract rfl (ev_on hLo 2 rfl HS3.1 rfl (hb 2 (by rfl))) (by rfl))) ?_
    refine steps_cons (st_alloc 5 4 .u64 20 28 (some 6) _ _ rfl rfl (fun _ _ _ _ => rfl) rfl hLo rfl rfl rfl rfl (by rfl) (fun b G w _ _ => by kernel_rfl)) ?_
    refine steps_cons (st_store 4 _ rfl rfl rfl rfl rfl (fun _ _ _ _ => rfl) rfl rfl rfl (by rfl) infoPt (fun b G hb ho => ev_on hLo 5 rfl HS3.1 rfl (hb 5 (by rfl))) (fun b G hb ho => ev_on hLo 3 rfl HS3.1 rfl (hb 3 (by rfl)))) ?_
    refine steps_cons (st_run 6 _ rfl rfl hLo rfl rfl (fun _ _ _ _ => rfl) (fun b G w hb ho => exec_move (.inr rfl) (ev_on hLo 4 rfl HS3.1 rfl (hb 4 (by rfl))))) ?_
    exact steps_nil
  clear hLo
  intro G a4 w4 hS hH
  have HS4 : Sl a4 82 [(5, .pointer (some ⟨g1_2, 0, none⟩)), (7, .pointer (some ⟨g3_5, 0, none⟩)), (8, .bool ra), (9, .pointer (some ⟨(G 5), 0, none⟩)), (10, .bool rb)] := hS
  have HH4 : Held w w4 [⟨g1_0, .u8, 32, a, 22⟩, ⟨g1_1, .u8, 32, b, 22⟩, ⟨g1_2, .u8, 32, c, 22⟩, ⟨g3_5, .u64, 20, Xa, 28⟩, ⟨(G 5), .u64, 20, Xb, 28⟩] := hH
  clear hS hH HS3 HH3
  generalize G 5 = g4_5 at HS4 HH4
  refine then_ ?_
  refine wp_seq ?_
  have hLo : LOk [(0, 26, .val (.agg (FR .u8 32 (c)))), (1, 27, .val (.tuple #[.agg (FR .u64 20 (Xc)), .bool rc])), (2, 25, .val (.tuple #[.agg (FR .u64 20 (Xc)), .bool rc])), (3, 28, .val (.agg (FR .u64 20 (Xc)))), (4, 29, .val (.bool rc)), (5, 11, .ptr 5 0), (7, 12, .val (.bool rc))] := ⟨show ([0, 1, 2, 3, 4, 5, 7] : List Nat).Nodup by decide, show ([26, 27, 25, 28, 29, 11, 12] : List Nat).Nodup by decide⟩
  refine plain_ (wE := w) (sz := 82) (n := 8) [0, 1, 3, 7, 15, 31, 63, 127] [(7, .val (.pointer (some ⟨g3_5, 0, none⟩))), (8, .val (.bool ra)), (9, .val (.pointer (some ⟨g4_5, 0, none⟩))), (10, .val (.bool rb)), (11, .ptr 5 0), (12, .val (.bool rc))] [(0, 26, .val (.agg (FR .u8 32 (c)))), (1, 27, .val (.tuple #[.agg (FR .u64 20 (Xc)), .bool rc])), (2, 25, .val (.tuple #[.agg (FR .u64 20 (Xc)), .bool rc])), (3, 28, .val (.agg (FR .u64 20 (Xc)))), (4, 29, .val (.bool rc)), (5, 11, .ptr 5 0), (7, 12, .val (.bool rc))] [⟨g1_0, none, none, .u8, 32, a, a, 22⟩, ⟨g1_1, none, none, .u8, 32, b, b, 22⟩, ⟨g1_2, none, none, .u8, 32, c, c, 22⟩, ⟨g3_5, none, none, .u64, 20, Xa, Xa, 28⟩, ⟨g4_5, none, none, .u64, 20, Xb, Xb, 28⟩, ⟨0, some 5, some 6, .u64, 20, fun _ => 0, Xc, 28⟩] rfl (by rfl) HH4 rfl rfl hLo rfl HS4 (slS 1 rfl rfl (slS 2 rfl rfl (slS 3 rfl rfl (slS 4 rfl rfl (slL 5 (d := 5) rfl (slL 6 (d := 7) rfl (trivial))))))) ?_ ?_
  · show ∀ i ∈ [0, 1, 2, 3, 4, 5, 6, 7], _
    refine steps_cons (st_row0 0 2 _ rfl rfl rfl rfl (fun _ _ _ _ => rfl) hLo rfl rfl rfl (by rfl) Tryd.underlying22 infoB3 rfl (fun b G hb ho => ev_off rfl (HS4.get 0 rfl))) ?_
    refine steps_cons (st_call 1 _ #[.agg (FR .u8 32 (c))] rfl rfl rfl (fun _ _ _ _ => rfl) hLo rfl rfl Tryd.func12 rfl rfl (fun b G hb ho => args1 (ev_on hLo 0 rfl HS4.1 rfl (hb 0 (by rfl)))) (fun w hw => dec_as hXc hrc w (hT.to hw) hc)) ?_
    refine steps_cons (st_run 2 _ rfl rfl hLo rfl rfl (fun _ _ _ _ => rfl) (fun b G w hb ho => exec_move (.inl rfl) (ev_on hLo 1 rfl HS4.1 rfl (hb 1 (by rfl))))) ?_
    refine steps_cons (st_run 3 _ rfl rfl hLo rfl rfl (fun _ _ _ _ => rfl) (fun b G w hb ho => exec_extract rfl (ev_on hLo 2 rfl HS4.1 rfl (hb 2 (by rfl))) (by rfl))) ?_
    refine steps_cons (st_run 4 _ rfl rfl hLo rfl rfl (fun _ _ _ _ => rfl) (fun b G w hb ho => exec_extract rfl (ev_on hLo 2 rfl HS4.1 rfl (hb 2 (by rfl))) (by rfl))) ?_
    refine steps_cons (st_alloc 5 5 .u64 20 28 (some 6) _ _ rfl rfl (fun _ _ _ _ => rfl) rfl hLo rfl rfl rfl rfl (by rfl) (fun b G w _ _ => by kernel_rfl)) ?_
    refine steps_cons (st_store 5 _ rfl rfl rfl rfl rfl (fun _ _ _ _ => rfl) rfl rfl rfl (by rfl) infoPt (fun b G hb ho => ev_on hLo 5 rfl HS4.1 rfl (hb 5 (by rfl))) (fun b G hb ho => ev_on hLo 3 rfl HS4.1 rfl (hb 3 (by rfl)))) ?_
    refine steps_cons (st_run 6 _ rfl rfl hLo rfl rfl (fun _ _ _ _ => rfl) (fun b G w hb ho => exec_move (.inr rfl) (ev_on hLo 4 rfl HS4.1 rfl (hb 4 (by rfl))))) ?_
    exact steps_nil
  clear hLo
  intro G a5 w5 hS hH
  have HS5 : Sl a5 82 [(7, .pointer (some ⟨g3_5, 0, none⟩)), (8, .bool ra), (9, .pointer (some ⟨g4_5, 0, none⟩)), (10, .bool rb), (11, .pointer (some ⟨(G 5), 0, none⟩)), (12, .bool rc)] := hS
  have HH5 : Held w w5 [⟨g1_0, .u8, 32, a, 22⟩, ⟨g1_1, .u8, 32, b, 22⟩, ⟨g1_2, .u8, 32, c, 22⟩, ⟨g3_5, .u64, 20, Xa, 28⟩, ⟨g4_5, .u64, 20, Xb, 28⟩, ⟨(G 5), .u64, 20, Xc, 28⟩] := hH
  clear hS hH HS4 HH4
  generalize G 5 = g5_5 at HS5 HH5
  refine then_ ?_
  cases ra
  · skip
    refine wp_seq ?_
    refine wp_seq ?_
    have hLo : LOk [(0, 30, .val (.bool false)), (1, 31, .val (.bool true)), (2, 32, .val (.bool true)), (3, 33, .val (undef)), (4, 34, .val (undef)), (5, 35, .val (.bool true)), (6, 36, .val (.bool true)), (7, 37, .val (undef)), (8, 38, .val (undef)), (9, 39, .val (.bool true))] := ⟨show ([0, 1, 2, 3, 4, 5, 6, 7, 8, 9] : List Nat).Nodup by decide, show ([30, 31, 32, 33, 34, 35, 36, 37, 38, 39] : List Nat).Nodup by decide⟩
    refine plain_ (wE := w) (sz := 82) (n := 10) [0, 1, 3, 7, 15, 31, 63, 127, 255, 511] [(39, .val (.bool true))] [(0, 30, .val (.bool false)), (1, 31, .val (.bool true)), (2, 32, .val (.bool true)), (3, 33, .val (undef)), (4, 34, .val (undef)), (5, 35, .val (.bool true)), (6, 36, .val (.bool true)), (7, 37, .val (undef)), (8, 38, .val (undef)), (9, 39, .val (.bool true))] [⟨g1_0, none, none, .u8, 32, a, a, 22⟩, ⟨g1_1, none, none, .u8, 32, b, b, 22⟩, ⟨g1_2, none, none, .u8, 32, c, c, 22⟩, ⟨g3_5, none, none, .u64, 20, Xa, Xa, 28⟩, ⟨g4_5, none, none, .u64, 20, Xb, Xb, 28⟩, ⟨g5_5, none, none, .u64, 20, Xc, Xc, 28⟩] rfl (by rfl) HH5 rfl rfl hLo rfl HS5 (slL 9 (d := 9) rfl (trivial)) ?_ ?_
    · show ∀ i ∈ [0, 1, 2, 3, 4, 5, 6, 7, 8, 9], _
      refine steps_cons (st_run 0 _ rfl rfl hLo rfl rfl (fun _ _ _ _ => rfl) (fun b G w hb ho => exec_move (.inl rfl) (ev_off rfl (HS5.get 1 rfl)))) ?_
      refine steps_cons (st_run 1 _ rfl rfl hLo rfl rfl (fun _ _ _ _ => rfl) (fun b G w hb ho => exec_un rfl (ev_on hLo 0 rfl HS5.1 rfl (hb 0 (by rfl))) (by rfl))) ?_
      refine steps_cons (st_run 2 _ rfl rfl hLo rfl rfl (fun _ _ _ _ => rfl) (fun b G w hb ho => exec_move (.inl rfl) (ev_on hLo 1 rfl HS5.1 rfl (hb 1 (by rfl))))) ?_
      refine steps_cons (st_skip 3 rfl rfl hLo rfl rfl (fun b G hb ho => wanted_is rfl rfl rfl HS5.1 rfl (ev_on hLo 2 rfl HS5.1 rfl (hb 2 (by rfl))) rfl)) ?_
      refine steps_cons (st_skip 4 rfl rfl hLo rfl rfl (fun b G hb ho => wanted_is rfl rfl rfl HS5.1 rfl (ev_on hLo 2 rfl HS5.1 rfl (hb 2 (by rfl))) rfl)) ?_
      refine steps_cons (st_run 5 _ rfl rfl hLo rfl rfl (fun _ _ _ _ => rfl) (fun b G w hb ho => exec_pick rfl (ev_on hLo 2 rfl HS5.1 rfl (hb 2 (by rfl))) (rfl))) ?_
      refine steps_cons (st_run 6 _ rfl rfl hLo rfl rfl (fun _ _ _ _ => rfl) (fun b G w hb ho => exec_move (.inl rfl) (ev_on hLo 5 rfl HS5.1 rfl (hb 5 (by rfl))))) ?_
      refine steps_cons (st_skip 7 rfl rfl hLo rfl rfl (fun b G hb ho => wanted_is rfl rfl rfl HS5.1 rfl (ev_on hLo 6 rfl HS5.1 rfl (hb 6 (by rfl))) rfl)) ?_
      refine steps_cons (st_skip 8 rfl rfl hLo rfl rfl (fun b G hb ho => wanted_is rfl rfl rfl HS5.1 rfl (ev_on hLo 6 rfl HS5.1 rfl (hb 6 (by rfl))) rfl)) ?_
      refine steps_cons (st_run 9 _ rfl rfl hLo rfl rfl (fun _ _ _ _ => rfl) (fun b G w hb ho => exec_pick rfl (ev_on hLo 6 rfl HS5.1 rfl (hb 6 (by rfl))) (rfl))) ?_
      exact steps_nil
    clear hLo
    intro G a6 w6 hS hH
    have HS6 : Sl a6 82 [(39, .bool true)] := hS
    have HH6 : Held w w6 [⟨g1_0, .u8, 32, a, 22⟩, ⟨g1_1, .u8, 32, b, 22⟩, ⟨g1_2, .u8, 32, c, 22⟩, ⟨g3_5, .u64, 20, Xa, 28⟩, ⟨g4_5, .u64, 20, Xb, 28⟩, ⟨g5_5, .u64, 20, Xc, 28⟩] := hH
    clear hS hH HS5 HH5
    refine then_ ?_
    refine wp_cond_true (HS6.get 0 rfl) ?_
    refine wp_seq ?_
    have hLo : LOk [(0, 6, .val (.bool true))] := ⟨show ([0] : List Nat).Nodup by decide, show ([6] : List Nat).Nodup by decide⟩
    refine plain_ (wE := w) (sz := 82) (n := 1) [0] [(6, .val (.bool true))] [(0, 6, .val (.bool true))] [⟨g1_0, none, none, .u8, 32, a, a, 22⟩, ⟨g1_1, none, none, .u8, 32, b, b, 22⟩, ⟨g1_2, none, none, .u8, 32, c, c, 22⟩, ⟨g3_5, none, none, .u64, 20, Xa, Xa, 28⟩, ⟨g4_5, none, none, .u64, 20, Xb, Xb, 28⟩, ⟨g5_5, none, none, .u64, 20, Xc, Xc, 28⟩] rfl (by rfl) HH6 rfl rfl hLo rfl HS6 (slL 0 (d := 0) rfl (trivial)) ?_ ?_
    · show ∀ i ∈ [0], _
      refine steps_cons (st_run 0 _ rfl rfl hLo rfl rfl (fun _ _ _ _ => rfl) (fun b G w hb ho => exec_move (.inr rfl) (rfl))) ?_
      exact steps_nil
    clear hLo
    intro G a7 w7 hS hH
    have HS7 : Sl a7 82 [(6, .bool true)] := hS
    have HH7 : Held w w7 [⟨g1_0, .u8, 32, a, 22⟩, ⟨g1_1, .u8, 32, b, 22⟩, ⟨g1_2, .u8, 32, c, 22⟩, ⟨g3_5, .u64, 20, Xa, 28⟩, ⟨g4_5, .u64, 20, Xb, 28⟩, ⟨g5_5, .u64, 20, Xc, 28⟩] := hH
    clear hS hH HS6 HH6
    refine then_ ?_
    refine wp_ret ?_
    repeat refine then_ret ?_
    exact b_tmp rfl HS7.2.1 (HS7.get 0 rfl) ⟨rfl, HH7.1⟩
  · skip
    obtain ⟨Pa, hPa⟩ : ∃ P, decPt a ha hra = P := ⟨_, rfl⟩
    have rXa : PRep Xa Pa := by rw [← hXa, ← hPa]; exact dec_prep ha hra
    have rYa : RRep Ya Pa := by rw [← hYa, ← hPa]; exact dec_rrep ha hra
    cases rb
    · skip
      refine wp_seq ?_
      refine wp_seq ?_
      have hLo : LOk [(0, 30, .val (.bool true)), (1, 31, .val (.bool false)), (2, 32, .val (.bool false)), (3, 33, .val (.bool false)), (4, 34, .val (.bool true)), (5, 35, .val (.bool true)), (6, 36, .val (.bool true)), (7, 37, .val (undef)), (8, 38, .val (undef)), (9, 39, .val (.bool true))] := ⟨show ([0, 1, 2, 3, 4, 5, 6, 7, 8, 9] : List Nat).Nodup by decide, show ([30, 31, 32, 33, 34, 35, 36, 37, 38, 39] : List Nat).Nodup by decide⟩
      refine plain_ (wE := w) (sz := 82) (n := 10) [0, 1, 3, 7, 15, 31, 63, 127, 255, 511] [(39, .val (.bool true))] [(0, 30, .val (.bool true)), (1, 31, .val (.bool false)), (2, 32, .val (.bool false)), (3, 33, .val (.bool false)), (4, 34, .val (.bool true)), (5, 35, .val (.bool true)), (6, 36, .val (.bool true)), (7, 37, .val (undef)), (8, 38, .val (undef)), (9, 39, .val (.bool true))] [⟨g1_0, none, none, .u8, 32, a, a, 22⟩, ⟨g1_1, none, none, .u8, 32, b, b, 22⟩, ⟨g1_2, none, none, .u8, 32, c, c, 22⟩, ⟨g3_5, none, none, .u64, 20, Xa, Xa, 28⟩, ⟨g4_5, none, none, .u64, 20, Xb, Xb, 28⟩, ⟨g5_5, none, none, .u64, 20, Xc, Xc, 28⟩] rfl (by rfl) HH5 rfl rfl hLo rfl HS5 (slL 9 (d := 9) rfl (trivial)) ?_ ?_
      · show ∀ i ∈ [0, 1, 2, 3, 4, 5, 6, 7, 8, 9], _
        refine steps_cons (st_run 0 _ rfl rfl hLo rfl rfl (fun _ _ _ _ => rfl) (fun b G w hb ho => exec_move (.inl rfl) (ev_off rfl (HS5.get 1 rfl)))) ?_
        refine steps_cons (st_run 1 _ rfl rfl hLo rfl rfl (fun _ _ _ _ => rfl) (fun b G w hb ho => exec_un rfl (ev_on hLo 0 rfl HS5.1 rfl (hb 0 (by rfl))) (by rfl))) ?_
        refine steps_cons (st_run 2 _ rfl rfl hLo rfl rfl (fun _ _ _ _ => rfl) (fun b G w hb ho => exec_move (.inl rfl) (ev_on hLo 1 rfl HS5.1 rfl (hb 1 (by rfl))))) ?_
        refine steps_cons (st_run 3 _ rfl rfl hLo rfl rfl (fun b G hb ho => wanted_is rfl rfl rfl HS5.1 rfl (ev_on hLo 2 rfl HS5.1 rfl (hb 2 (by rfl))) rfl) (fun b G w hb ho => exec_move (.inl rfl) (ev_off rfl (HS5.get 3 rfl)))) ?_
        refine steps_cons (st_run 4 _ rfl rfl hLo rfl rfl (fun b G hb ho => wanted_is rfl rfl rfl HS5.1 rfl (ev_on hLo 2 rfl HS5.1 rfl (hb 2 (by rfl))) rfl) (fun b G w hb ho => exec_un rfl (ev_on hLo 3 rfl HS5.1 rfl (hb 3 (by rfl))) (by rfl))) ?_
        refine steps_cons (st_run 5 _ rfl rfl hLo rfl rfl (fun _ _ _ _ => rfl) (fun b G w hb ho => exec_pick rfl (ev_on hLo 2 rfl HS5.1 rfl (hb 2 (by rfl))) (ev_on hLo 4 rfl HS5.1 rfl (hb 4 (by rfl))))) ?_
        refine steps_cons (st_run 6 _ rfl rfl hLo rfl rfl (fun _ _ _ _ => rfl) (fun b G w hb ho => exec_move (.inl rfl) (ev_on hLo 5 rfl HS5.1 rfl (hb 5 (by rfl))))) ?_
        refine steps_cons (st_skip 7 rfl rfl hLo rfl rfl (fun b G hb ho => wanted_is rfl rfl rfl HS5.1 rfl (ev_on hLo 6 rfl HS5.1 rfl (hb 6 (by rfl))) rfl)) ?_
        refine steps_cons (st_skip 8 rfl rfl hLo rfl rfl (fun b G hb ho => wanted_is rfl rfl rfl HS5.1 rfl (ev_on hLo 6 rfl HS5.1 rfl (hb 6 (by rfl))) rfl)) ?_
        refine steps_cons (st_run 9 _ rfl rfl hLo rfl rfl (fun _ _ _ _ => rfl) (fun b G w hb ho => exec_pick rfl (ev_on hLo 6 rfl HS5.1 rfl (hb 6 (by rfl))) (rfl))) ?_
        exact steps_nil
      clear hLo
      intro G a8 w8 hS hH
      have HS8 : Sl a8 82 [(39, .bool true)] := hS
      have HH8 : Held w w8 [⟨g1_0, .u8, 32, a, 22⟩, ⟨g1_1, .u8, 32, b, 22⟩, ⟨g1_2, .u8, 32, c, 22⟩, ⟨g3_5, .u64, 20, Xa, 28⟩, ⟨g4_5, .u64, 20, Xb, 28⟩, ⟨g5_5, .u64, 20, Xc, 28⟩] := hH
      clear hS hH HS5 HH5
      refine then_ ?_
      refine wp_cond_true (HS8.get 0 rfl) ?_
      refine wp_seq ?_
      have hLo : LOk [(0, 6, .val (.bool true))] := ⟨show ([0] : List Nat).Nodup by decide, show ([6] : List Nat).Nodup by decide⟩
      refine plain_ (wE := w) (sz := 82) (n := 1) [0] [(6, .val (.bool true))] [(0, 6, .val (.bool true))] [⟨g1_0, none, none, .u8, 32, a, a, 22⟩, ⟨g1_1, none, none, .u8, 32, b, b, 22⟩, ⟨g1_2, none, none, .u8, 32, c, c, 22⟩, ⟨g3_5, none, none, .u64, 20, Xa, Xa, 28⟩, ⟨g4_5, none, none, .u64, 20, Xb, Xb, 28⟩, ⟨g5_5, none, none, .u64, 20, Xc, Xc, 28⟩] rfl (by rfl) HH8 rfl rfl hLo rfl HS8 (slL 0 (d := 0) rfl (trivial)) ?_ ?_
      · show ∀ i ∈ [0], _
        refine steps_cons (st_run 0 _ rfl rfl hLo rfl rfl (fun _ _ _ _ => rfl) (fun b G w hb ho => exec_move (.inr rfl) (rfl))) ?_
        exact steps_nil
      clear hLo
      intro G a9 w9 hS hH
      have HS9 : Sl a9 82 [(6, .bool true)] := hS
      have HH9 : Held w w9 [⟨g1_0, .u8, 32, a, 22⟩, ⟨g1_1, .u8, 32, b, 22⟩, ⟨g1_2, .u8, 32, c, 22⟩, ⟨g3_5, .u64, 20, Xa, 28⟩, ⟨g4_5, .u64, 20, Xb, 28⟩, ⟨g5_5, .u64, 20, Xc, 28⟩] := hH
      clear hS hH HS8 HH8
      refine then_ ?_
      refine wp_ret ?_
      repeat refine then_ret ?_
      exact b_tmp rfl HS9.2.1 (HS9.get 0 rfl) ⟨rfl, HH9.1⟩
    · skip
      obtain ⟨Pb, hPb⟩ : ∃ P, decPt b hb hrb = P := ⟨_, rfl⟩
      have rXb : PRep Xb Pb := by rw [← hXb, ← hPb]; exact dec_prep hb hrb
      have rYb : RRep Yb Pb := by rw [← hYb, ← hPb]; exact dec_rrep hb hrb
      cases rc
      · skip
        refine wp_seq ?_
        refine wp_seq ?_
        have hLo : LOk [(0, 30, .val (.bool true)), (1, 31, .val (.bool false)), (2, 32, .val (.bool false)), (3, 33, .val (.bool true)), (4, 34, .val (.bool false)), (5, 35, .val (.bool false)), (6, 36, .val (.bool false)), (7, 37, .val (.bool false)), (8, 38, .val (.bool true)), (9, 39, .val (.bool true))] := ⟨show ([0, 1, 2, 3, 4, 5, 6, 7, 8, 9] : List Nat).Nodup by decide, show ([30, 31, 32, 33, 34, 35, 36, 37, 38, 39] : List Nat).Nodup by decide⟩
        refine plain_ (wE := w) (sz := 82) (n := 10) [0, 1, 3, 7, 15, 31, 63, 127, 255, 511] [(39, .val (.bool true))] [(0, 30, .val (.bool true)), (1, 31, .val (.bool false)), (2, 32, .val (.bool false)), (3, 33, .val (.bool true)), (4, 34, .val (.bool false)), (5, 35, .val (.bool false)), (6, 36, .val (.bool false)), (7, 37, .val (.bool false)), (8, 38, .val (.bool true)), (9, 39, .val (.bool true))] [⟨g1_0, none, none, .u8, 32, a, a, 22⟩, ⟨g1_1, none, none, .u8, 32, b, b, 22⟩, ⟨g1_2, none, none, .u8, 32, c, c, 22⟩, ⟨g3_5, none, none, .u64, 20, Xa, Xa, 28⟩, ⟨g4_5, none, none, .u64, 20, Xb, Xb, 28⟩, ⟨g5_5, none, none, .u64, 20, Xc, Xc, 28⟩] rfl (by rfl) HH5 rfl rfl hLo rfl HS5 (slL 9 (d := 9) rfl (trivial)) ?_ ?_
        · show ∀ i ∈ [0, 1, 2, 3, 4, 5, 6, 7, 8, 9], _
          refine steps_cons (st_run 0 _ rfl rfl hLo rfl rfl (fun _ _ _ _ => rfl) (fun b G w hb ho => exec_move (.inl rfl) (ev_off rfl (HS5.get 1 rfl)))) ?_
          refine steps_cons (st_run 1 _ rfl rfl hLo rfl rfl (fun _ _ _ _ => rfl) (fun b G w hb ho => exec_un rfl (ev_on hLo 0 rfl HS5.1 rfl (hb 0 (by rfl))) (by rfl))) ?_
          refine steps_cons (st_run 2 _ rfl rfl hLo rfl rfl (fun _ _ _ _ => rfl) (fun b G w hb ho => exec_move (.inl rfl) (ev_on hLo 1 rfl HS5.1 rfl (hb 1 (by rfl))))) ?_
          refine steps_cons (st_run 3 _ rfl rfl hLo rfl rfl (fun b G hb ho => wanted_is rfl rfl rfl HS5.1 rfl (ev_on hLo 2 rfl HS5.1 rfl (hb 2 (by rfl))) rfl) (fun b G w hb ho => exec_move (.inl rfl) (ev_off rfl (HS5.get 3 rfl)))) ?_
          refine steps_cons (st_run 4 _ rfl rfl hLo rfl rfl (fun b G hb ho => wanted_is rfl rfl rfl HS5.1 rfl (ev_on hLo 2 rfl HS5.1 rfl (hb 2 (by rfl))) rfl) (fun b G w hb ho => exec_un rfl (ev_on hLo 3 rfl HS5.1 rfl (hb 3 (by rfl))) (by rfl))) ?_
          refine steps_cons (st_run 5 _ rfl rfl hLo rfl rfl (fun _ _ _ _ => rfl) (fun b G w hb ho => exec_pick rfl (ev_on hLo 2 rfl HS5.1 rfl (hb 2 (by rfl))) (ev_on hLo 4 rfl HS5.1 rfl (hb 4 (by rfl))))) ?_
          refine steps_cons (st_run 6 _ rfl rfl hLo rfl rfl (fun _ _ _ _ => rfl) (fun b G w hb ho => exec_move (.inl rfl) (ev_on hLo 5 rfl HS5.1 rfl (hb 5 (by rfl))))) ?_
          refine steps_cons (st_run 7 _ rfl rfl hLo rfl rfl (fun b G hb ho => wanted_is rfl rfl rfl HS5.1 rfl (ev_on hLo 6 rfl HS5.1 rfl (hb 6 (by rfl))) rfl) (fun b G w hb ho => exec_move (.inl rfl) (ev_off rfl (HS5.get 5 rfl)))) ?_
          refine steps_cons (st_run 8 _ rfl rfl hLo rfl rfl (fun b G hb ho => wanted_is rfl rfl rfl HS5.1 rfl (ev_on hLo 6 rfl HS5.1 rfl (hb 6 (by rfl))) rfl) (fun b G w hb ho => exec_un rfl (ev_on hLo 7 rfl HS5.1 rfl (hb 7 (by rfl))) (by rfl))) ?_
          refine steps_cons (st_run 9 _ rfl rfl hLo rfl rfl (fun _ _ _ _ => rfl) (fun b G w hb ho => exec_pick rfl (ev_on hLo 6 rfl HS5.1 rfl (hb 6 (by rfl))) (ev_on hLo 8 rfl HS5.1 rfl (hb 8 (by rfl))))) ?_
          exact steps_nil
        clear hLo
        intro G a10 w10 hS hH
        have HS10 : Sl a10 82 [(39, .bool true)] := hS
        have HH10 : Held w w10 [⟨g1_0, .u8, 32, a, 22⟩, ⟨g1_1, .u8, 32, b, 22⟩, ⟨g1_2, .u8, 32, c, 22⟩, ⟨g3_5, .u64, 20, Xa, 28⟩, ⟨g4_5, .u64, 20, Xb, 28⟩, ⟨g5_5, .u64, 20, Xc, 28⟩] := hH
        clear hS hH HS5 HH5
        refine then_ ?_
        refine wp_cond_true (HS10.get 0 rfl) ?_
        refine wp_seq ?_
        have hLo : LOk [(0, 6, .val (.bool true))] := ⟨show ([0] : List Nat).Nodup by decide, show ([6] : List Nat).Nodup by decide⟩
        refine plain_ (wE := w) (sz := 82) (n := 1) [0] [(6, .val (.bool true))] [(0, 6, .val (.bool true))] [⟨g1_0, none, none, .u8, 32, a, a, 22⟩, ⟨g1_1, none, none, .u8, 32, b, b, 22⟩, ⟨g1_2, none, none, .u8, 32, c, c, 22⟩, ⟨g3_5, none, none, .u64, 20, Xa, Xa, 28⟩, ⟨g4_5, none, none, .u64, 20, Xb, Xb, 28⟩, ⟨g5_5, none, none, .u64, 20, Xc, Xc, 28⟩] rfl (by rfl) HH10 rfl rfl hLo rfl HS10 (slL 0 (d := 0) rfl (trivial)) ?_ ?_
        · show ∀ i ∈ [0], _
          refine steps_cons (st_run 0 _ rfl rfl hLo rfl rfl (fun _ _ _ _ => rfl) (fun b G w hb ho => exec_move (.inr rfl) (rfl))) ?_
          exact steps_nil
        clear hLo
        intro G a11 w11 hS hH
        have HS11 : Sl a11 82 [(6, .bool true)] := hS
        have HH11 : Held w w11 [⟨g1_0, .u8, 32, a, 22⟩, ⟨g1_1, .u8, 32, b, 22⟩, ⟨g1_2, .u8, 32, c, 22⟩, ⟨g3_5, .u64, 20, Xa, 28⟩, ⟨g4_5, .u64, 20, Xb, 28⟩, ⟨g5_5, .u64, 20, Xc, 28⟩] := hH
        clear hS hH HS10 HH10
        refine then_ ?_
        refine wp_ret ?_
        repeat refine then_ret ?_
        exact b_tmp rfl HS11.2.1 (HS11.get 0 rfl) ⟨rfl, HH11.1⟩
      · skip
        obtain ⟨Pc, hPc⟩ : ∃ P, decPt c hc hrc = P := ⟨_, rfl⟩
        have rXc : PRep Xc Pc := by rw [← hXc, ← hPc]; exact dec_prep hc hrc
        have rYc : RRep Yc Pc := by rw [← hYc, ← hPc]; exact dec_rrep hc hrc
        refine wp_seq ?_
        refine wp_seq ?_
        have hLo : LOk [(0, 30, .val (.bool true)), (1, 31, .val (.bool false)), (2, 32, .val (.bool false)), (3, 33, .val (.bool true)), (4, 34, .val (.bool false)), (5, 35, .val (.bool false)), (6, 36, .val (.bool false)), (7, 37, .val (.bool true)), (8, 38, .val (.bool false)), (9, 39, .val (.bool false))] := ⟨show ([0, 1, 2, 3, 4, 5, 6, 7, 8, 9] : List Nat).Nodup by decide, show ([30, 31, 32, 33, 34, 35, 36, 37, 38, 39] : List Nat).Nodup by decide⟩
        refine plain_ (wE := w) (sz := 82) (n := 10) [0, 1, 3, 7, 15, 31, 63, 127, 255, 511] [(7, .val (.pointer (some ⟨g3_5, 0, none⟩))), (9, .val (.pointer (some ⟨g4_5, 0, none⟩))), (11, .val (.pointer (some ⟨g5_5, 0, none⟩))), (39, .val (.bool false))] [(0, 30, .val (.bool true)), (1, 31, .val (.bool false)), (2, 32, .val (.bool false)), (3, 33, .val (.bool true)), (4, 34, .val (.bool false)), (5, 35, .val (.bool false)), (6, 36, .val (.bool false)), (7, 37, .val (.bool true)), (8, 38, .val (.bool false)), (9, 39, .val (.bool false))] [⟨g1_0, none, none, .u8, 32, a, a, 22⟩, ⟨g1_1, none, none, .u8, 32, b, b, 22⟩, ⟨g1_2, none, none, .u8, 32, c, c, 22⟩, ⟨g3_5, none, none, .u64, 20, Xa, Xa, 28⟩, ⟨g4_5, none, none, .u64, 20, Xb, Xb, 28⟩, ⟨g5_5, none, none, .u64, 20, Xc, Xc, 28⟩] rfl (by rfl) HH5 rfl rfl hLo rfl HS5 (slS 0 rfl rfl (slS 2 rfl rfl (slS 4 rfl rfl (slL 9 (d := 9) rfl (trivial))))) ?_ ?_
        · show ∀ i ∈ [0, 1, 2, 3, 4, 5, 6, 7, 8, 9], _
          refine steps_cons (st_run 0 _ rfl rfl hLo rfl rfl (fun _ _ _ _ => rfl) (fun b G w hb ho => exec_move (.inl rfl) (ev_off rfl (HS5.get 1 rfl)))) ?_
          refine steps_cons (st_run 1 _ rfl rfl hLo rfl rfl (fun _ _ _ _ => rfl) (fun b G w hb ho => exec_un rfl (ev_on hLo 0 rfl HS5.1 rfl (hb 0 (by rfl))) (by rfl))) ?_
          refine steps_cons (st_run 2 _ rfl rfl hLo rfl rfl (fun _ _ _ _ => rfl) (fun b G w hb ho => exec_move (.inl rfl) (ev_on hLo 1 rfl HS5.1 rfl (hb 1 (by rfl))))) ?_
          refine steps_cons (st_run 3 _ rfl rfl hLo rfl rfl (fun b G hb ho => wanted_is rfl rfl rfl HS5.1 rfl (ev_on hLo 2 rfl HS5.1 rfl (hb 2 (by rfl))) rfl) (fun b G w hb ho => exec_move (.inl rfl) (ev_off rfl (HS5.get 3 rfl)))) ?_
          refine steps_cons (st_run 4 _ rfl rfl hLo rfl rfl (fun b G hb ho => wanted_is rfl rfl rfl HS5.1 rfl (ev_on hLo 2 rfl HS5.1 rfl (hb 2 (by rfl))) rfl) (fun b G w hb ho => exec_un rfl (ev_on hLo 3 rfl HS5.1 rfl (hb 3 (by rfl))) (by rfl))) ?_
          refine steps_cons (st_run 5 _ rfl rfl hLo rfl rfl (fun _ _ _ _ => rfl) (fun b G w hb ho => exec_pick rfl (ev_on hLo 2 rfl HS5.1 rfl (hb 2 (by rfl))) (ev_on hLo 4 rfl HS5.1 rfl (hb 4 (by rfl))))) ?_
          refine steps_cons (st_run 6 _ rfl rfl hLo rfl rfl (fun _ _ _ _ => rfl) (fun b G w hb ho => exec_move (.inl rfl) (ev_on hLo 5 rfl HS5.1 rfl (hb 5 (by rfl))))) ?_
          refine steps_cons (st_run 7 _ rfl rfl hLo rfl rfl (fun b G hb ho => wanted_is rfl rfl rfl HS5.1 rfl (ev_on hLo 6 rfl HS5.1 rfl (hb 6 (by rfl))) rfl) (fun b G w hb ho => exec_move (.inl rfl) (ev_off rfl (HS5.get 5 rfl)))) ?_
          refine steps_cons (st_run 8 _ rfl rfl hLo rfl rfl (fun b G hb ho => wanted_is rfl rfl rfl HS5.1 rfl (ev_on hLo 6 rfl HS5.1 rfl (hb 6 (by rfl))) rfl) (fun b G w hb ho => exec_un rfl (ev_on hLo 7 rfl HS5.1 rfl (hb 7 (by rfl))) (by rfl))) ?_
          refine steps_cons (st_run 9 _ rfl rfl hLo rfl rfl (fun _ _ _ _ => rfl) (fun b G w hb ho => exec_pick rfl (ev_on hLo 6 rfl HS5.1 rfl (hb 6 (by rfl))) (ev_on hLo 8 rfl HS5.1 rfl (hb 8 (by rfl))))) ?_
          exact steps_nil
        clear hLo
        intro G a12 w12 hS hH
        have HS12 : Sl a12 82 [(7, .pointer (some ⟨g3_5, 0, none⟩)), (9, .pointer (some ⟨g4_5, 0, none⟩)), (11, .pointer (some ⟨g5_5, 0, none⟩)), (39, .bool false)] := hS
        have HH12 : Held w w12 [⟨g1_0, .u8, 32, a, 22⟩, ⟨g1_1, .u8, 32, b, 22⟩, ⟨g1_2, .u8, 32, c, 22⟩, ⟨g3_5, .u64, 20, Xa, 28⟩, ⟨g4_5, .u64, 20, Xb, 28⟩, ⟨g5_5, .u64, 20, Xc, 28⟩] := hH
        clear hS hH HS5 HH5
        refine then_ ?_
        refine wp_cond_false (HS12.get 3 rfl) ?_
        refine wp_skip ?_
        refine then_ ?_
        obtain ⟨S1, hS1, rS1⟩ : ∃ S, addP Xa Xb = S ∧ PRep S (Pt.add fld (Pa) (Pb)) := ⟨_, rfl, rXa.add rXb⟩
        obtain ⟨S2, hS2, rS2⟩ : ∃ S, addP Xb Xa = S ∧ PRep S (Pt.add fld (Pb) (Pa)) := ⟨_, rfl, rXb.add rXa⟩
        obtain ⟨S3, hS3, rS3⟩ : ∃ S, addP S1 Xc = S ∧ PRep S (Pt.add fld (Pt.add fld (Pa) (Pb)) (Pc)) := ⟨_, rfl, rS1.add rXc⟩
        obtain ⟨S4, hS4, rS4⟩ : ∃ S, addP Xb Xc = S ∧ PRep S (Pt.add fld (Pb) (Pc)) := ⟨_, rfl, rXb.add rXc⟩
        obtain ⟨S5, hS5, rS5⟩ : ∃ S, addP Xa S4 = S ∧ PRep S (Pt.add fld (Pa) (Pt.add fld (Pb) (Pc))) := ⟨_, rfl, rXa.add rS4⟩
        obtain ⟨Z6, hZ6, rZ6⟩ : ∃ S, zeroP = S ∧ PRep S (Pt.zero dF) := ⟨_, rfl, PRep.zero⟩
        obtain ⟨S7, hS7, rS7⟩ : ∃ S, addP Xa Z6 = S ∧ PRep S (Pt.add fld (Pa) (Pt.zero dF)) := ⟨_, rfl, rXa.add rZ6⟩
        obtain ⟨N8, hN8, rN8⟩ : ∃ S, negP Xa = S ∧ PRep S (Pt.neg (Pa)) := ⟨_, rfl, rXa.neg⟩
        obtain ⟨S9, hS9, rS9⟩ : ∃ S, addP Xa N8 = S ∧ PRep S (Pt.add fld (Pa) (Pt.neg (Pa))) := ⟨_, rfl, rXa.add rN8⟩
        obtain ⟨N10, hN10, rN10⟩ : ∃ S, negP N8 = S ∧ PRep S (Pt.neg (Pt.neg (Pa))) := ⟨_, rfl, rN8.neg⟩
        refine wp_seq ?_
        have hLo : LOk [(0, 40, .val (.agg (FR .u64 20 (Xa)))), (1, 41, .val (.agg (FR .u64 20 (Xb)))), (2, 42, .val (.agg (FR .u64 20 (S1)))), (3, 43, .val (.agg (FR .u64 20 (Xb)))), (4, 44, .val (.agg (FR .u64 20 (Xa)))), (5, 45, .val (.agg (FR .u64 20 (S2)))), (6, 46, .val (.bool true)), (7, 47, .val (.bool true)), (8, 48, .val (.agg (FR .u64 20 (Xa)))), (9, 49, .val (.agg (FR .u64 20 (Xb)))), (10, 50, .val (.agg (FR .u64 20 (S1)))), (11, 51, .val (.agg (FR .u64 20 (Xc)))), (12, 52, .val (.agg (FR .u64 20 (S3)))), (13, 53, .val (.agg (FR .u64 20 (Xa)))), (14, 54, .val (.agg (FR .u64 20 (Xb)))), (15, 55, .val (.agg (FR .u64 20 (Xc)))), (16, 56, .val (.agg (FR .u64 20 (S4)))), (17, 57, .val (.agg (FR .u64 20 (S5)))), (18, 58, .val (.bool true)), (19, 59, .val (.bool true)), (20, 60, .val (.bool true)), (21, 61, .val (.agg (FR .u64 20 (Xa)))), (22, 62, .val (.agg (FR .u64 20 (Z6)))), (23, 63, .val (.agg (FR .u64 20 (S7)))), (24, 64, .val (.agg (FR .u64 20 (Xa)))), (25, 65, .val (.bool true)), (26, 66, .val (.bool true)), (27, 67, .val (.bool true)), (28, 68, .val (.agg (FR .u64 20 (Xa)))), (29, 69, .val (.agg (FR .u64 20 (Xa)))), (30, 70, .val (.agg (FR .u64 20 (N8)))), (31, 71, .val (.agg (FR .u64 20 (S9)))), (32, 72, .val (.agg (FR .u64 20 (Z6)))), (33, 73, .val (.bool true)), (34, 74, .val (.bool true)), (35, 75, .val (.bool true)), (36, 76, .val (.agg (FR .u64 20 (Xa)))), (37, 77, .val (.agg (FR .u64 20 (N8)))), (38, 78, .val (.agg (FR .u64 20 (N10)))), (39, 79, .val (.agg (FR .u64 20 (Xa)))), (40, 80, .val (.bool true)), (41, 81, .val (.bool true)), (42, 6, .val (.bool true))] := ⟨show ([0, 1, 2, 3, 4, 5, 6, 7, 8, 9, 10, 11, 12, 13, 14, 15, 16, 17, 18, 19, 20, 21, 22, 23, 24, 25, 26, 27, 28, 29, 30, 31, 32, 33, 34, 35, 36, 37, 38, 39, 40, 41, 42] : List Nat).Nodup by decide, show ([40, 41, 42, 43, 44, 45, 46, 47, 48, 49, 50, 51, 52, 53, 54, 55, 56, 57, 58, 59, 60, 61, 62, 63, 64, 65, 66, 67, 68, 69, 70, 71, 72, 73, 74, 75, 76, 77, 78, 79, 80, 81, 6] : List Nat).Nodup by decide⟩
        refine region_ (wE := w) (sz := 82) (n := 43) (B := [0, 0, 3, 0, 0, 31, 63, 127, 255, 255, 1023, 255, 4095, 255, 255, 255, 57343, 131071, 262143, 524287, 1048575, 2097151, 2097151, 8388607, 2097151, 33554431, 67108863, 134217727, 268435455, 268435455, 805306367, 2147483647, 4294967295, 8589934591, 17179869183, 34359738367, 68719476735, 137438953471, 274877906943, 68719476735, 1099511627775, 2199023255551, 4398046511103]) [0, 1, 2, 3, 4, 5, 6, 7, 8, 9, 10, 11, 12, 13, 14, 15, 16, 17, 18, 19, 20, 21, 22, 23, 24, 25, 26, 27, 28, 29, 30, 31, 32, 33, 34, 35, 36, 37, 38, 39, 40, 41, 42] [(6, .val (.bool true))] [(0, 40, .val (.agg (FR .u64 20 (Xa)))), (1, 41, .val (.agg (FR .u64 20 (Xb)))), (2, 42, .val (.agg (FR .u64 20 (S1)))), (3, 43, .val (.agg (FR .u64 20 (Xb)))), (4, 44, .val (.agg (FR .u64 20 (Xa)))), (5, 45, .val (.agg (FR .u64 20 (S2)))), (6, 46, .val (.bool true)), (7, 47, .val (.bool true)), (8, 48, .val (.agg (FR .u64 20 (Xa)))), (9, 49, .val (.agg (FR .u64 20 (Xb)))), (10, 50, .val (.agg (FR .u64 20 (S1)))), (11, 51, .val (.agg (FR .u64 20 (Xc)))), (12, 52, .val (.agg (FR .u64 20 (S3)))), (13, 53, .val (.agg (FR .u64 20 (Xa)))), (14, 54, .val (.agg (FR .u64 20 (Xb)))), (15, 55, .val (.agg (FR .u64 20 (Xc)))), (16, 56, .val (.agg (FR .u64 20 (S4)))), (17, 57, .val (.agg (FR .u64 20 (S5)))), (18, 58, .val (.bool true)), (19, 59, .val (.bool true)), (20, 60, .val (.bool true)), (21, 61, .val (.agg (FR .u64 20 (Xa)))), (22, 62, .val (.agg (FR .u64 20 (Z6)))), (23, 63, .val (.agg (FR .u64 20 (S7)))), (24, 64, .val (.agg (FR .u64 20 (Xa)))), (25, 65, .val (.bool true)), (26, 66, .val (.bool true)), (27, 67, .val (.bool true)), (28, 68, .val (.agg (FR .u64 20 (Xa)))), (29, 69, .val (.agg (FR .u64 20 (Xa)))), (30, 70, .val (.agg (FR .u64 20 (N8)))), (31, 71, .val (.agg (FR .u64 20 (S9)))), (32, 72, .val (.agg (FR .u64 20 (Z6)))), (33, 73, .val (.bool true)), (34, 74, .val (.bool true)), (35, 75, .val (.bool true)), (36, 76, .val (.agg (FR .u64 20 (Xa)))), (37, 77, .val (.agg (FR .u64 20 (N8)))), (38, 78, .val (.agg (FR .u64 20 (N10)))), (39, 79, .val (.agg (FR .u64 20 (Xa)))), (40, 80, .val (.bool true)), (41, 81, .val (.bool true)), (42, 6, .val (.bool true))] [⟨g1_0, none, none, .u8, 32, a, a, 22⟩, ⟨g1_1, none, none, .u8, 32, b, b, 22⟩, ⟨g1_2, none, none, .u8, 32, c, c, 22⟩, ⟨g3_5, none, none, .u64, 20, Xa, Xa, 28⟩, ⟨g4_5, none, none, .u64, 20, Xb, Xb, 28⟩, ⟨g5_5, none, none, .u64, 20, Xc, Xc, 28⟩] (by rfl) rfl tabcl_8 bitscl_8 (by kernel_rfl) (by kernel_rfl) HH12 rfl rfl hLo rfl HS12 (slL 42 (d := 42) rfl (trivial)) ?_ ?_
        · show ∀ i ∈ [0, 1, 2, 3, 4, 5, 6, 7, 8, 9, 10, 11, 12, 13, 14, 15, 16, 17, 18, 19, 20, 21, 22, 23, 24, 25, 26, 27, 28, 29, 30, 31, 32, 33, 34, 35, 36, 37, 38, 39, 40, 41, 42], _
          refine steps_cons (st_row0 0 3 _ rfl rfl rfl rfl (fun _ _ _ _ => rfl) hLo rfl rfl rfl (by rfl) Tryd.underlying28 infoPt rfl (fun b G hb ho => ev_off rfl (HS12.get 0 rfl))) ?_
          refine steps_cons (st_row0 1 4 _ rfl rfl rfl rfl (fun _ _ _ _ => rfl) hLo rfl rfl rfl (by rfl) Tryd.underlying28 infoPt rfl (fun b G hb ho => ev_off rfl (HS12.get 1 rfl))) ?_
          refine steps_cons (st_call 2 _ #[.agg (FR .u64 20 (Xa)), .agg (FR .u64 20 (Xb))] rfl rfl rfl (fun _ _ _ _ => rfl) hLo rfl rfl Tryd.func18 rfl rfl (fun b G hb ho => args2 (ev_on hLo 0 rfl HS12.1 rfl (hb 0 (by rfl))) (ev_on hLo 1 rfl HS12.1 rfl (hb 1 (by rfl)))) (fun w hw => add_as hS1 w (hT.to hw) rXa.1 rXb.1)) ?_
          refine steps_cons (st_row0 3 4 _ rfl rfl rfl rfl (fun _ _ _ _ => rfl) hLo rfl rfl rfl (by rfl) Tryd.underlying28 infoPt rfl (fun b G hb ho => ev_off rfl (HS12.get 1 rfl))) ?_
          refine steps_cons (st_row0 4 3 _ rfl rfl rfl rfl (fun _ _ _ _ => rfl) hLo rfl rfl rfl (by rfl) Tryd.underlying28 infoPt rfl (fun b G hb ho => ev_off rfl (HS12.get 0 rfl))) ?_
          refine steps_cons (st_call 5 _ #[.agg (FR .u64 20 (Xb)), .agg (FR .u64 20 (Xa))] rfl rfl rfl (fun _ _ _ _ => rfl) hLo rfl rfl Tryd.func18 rfl rfl (fun b G hb ho => args2 (ev_on hLo 3 rfl HS12.1 rfl (hb 3 (by rfl))) (ev_on hLo 4 rfl HS12.1 rfl (hb 4 (by rfl)))) (fun w hw => add_as hS2 w (hT.to hw) rXb.1 rXa.1)) ?_
          refine steps_cons (st_call 6 _ #[.agg (FR .u64 20 (S1)), .agg (FR .u64 20 (S2))] rfl rfl rfl (fun _ _ _ _ => rfl) hLo rfl rfl Tryd.func16 rfl rfl (fun b G hb ho => args2 (ev_on hLo 2 rfl HS12.1 rfl (hb 2 (by rfl))) (ev_on hLo 5 rfl HS12.1 rfl (hb 5 (by rfl)))) (fun w hw => is_as (is_same rS1 rS2 (Pt.comm fld _ _)) w rS1.1 rS2.1)) ?_
          refine steps_cons (st_run 7 _ rfl rfl hLo rfl rfl (fun _ _ _ _ => rfl) (fun b G w hb ho => exec_move (.inl rfl) (ev_on hLo 6 rfl HS12.1 rfl (hb 6 (by rfl))))) ?_
          refine steps_cons (st_row0 8 3 _ rfl rfl rfl rfl (fun b G hb ho => wanted_is rfl rfl rfl HS12.1 rfl (ev_on hLo 7 rfl HS12.1 rfl (hb 7 (by rfl))) rfl) hLo rfl rfl rfl (by rfl) Tryd.underlying28 infoPt rfl (fun b G hb ho => ev_off rfl (HS12.get 0 rfl))) ?_
          refine steps_cons (st_row0 9 4 _ rfl rfl rfl rfl (fun b G hb ho => wanted_is rfl rfl rfl HS12.1 rfl (ev_on hLo 7 rfl HS12.1 rfl (hb 7 (by rfl))) rfl) hLo rfl rfl rfl (by rfl) Tryd.underlying28 infoPt rfl (fun b G hb ho => ev_off rfl (HS12.get 1 rfl))) ?_
          refine steps_cons (st_call 10 _ #[.agg (FR .u64 20 (Xa)), .agg (FR .u64 20 (Xb))] rfl rfl rfl (fun b G hb ho => wanted_is rfl rfl rfl HS12.1 rfl (ev_on hLo 7 rfl HS12.1 rfl (hb 7 (by rfl))) rfl) hLo rfl rfl Tryd.func18 rfl rfl (fun b G hb ho => args2 (ev_on hLo 8 rfl HS12.1 rfl (hb 8 (by rfl))) (ev_on hLo 9 rfl HS12.1 rfl (hb 9 (by rfl)))) (fun w hw => add_as hS1 w (hT.to hw) rXa.1 rXb.1)) ?_
          refine steps_cons (st_row0 11 5 _ rfl rfl rfl rfl (fun b G hb ho => wanted_is rfl rfl rfl HS12.1 rfl (ev_on hLo 7 rfl HS12.1 rfl (hb 7 (by rfl))) rfl) hLo rfl rfl rfl (by rfl) Tryd.underlying28 infoPt rfl (fun b G hb ho => ev_off rfl (HS12.get 2 rfl))) ?_
          refine steps_cons (st_call 12 _ #[.agg (FR .u64 20 (S1)), .agg (FR .u64 20 (Xc))] rfl rfl rfl (fun b G hb ho => wanted_is rfl rfl rfl HS12.1 rfl (ev_on hLo 7 rfl HS12.1 rfl (hb 7 (by rfl))) rfl) hLo rfl rfl Tryd.func18 rfl rfl (fun b G hb ho => args2 (ev_on hLo 10 rfl HS12.1 rfl (hb 10 (by rfl))) (ev_on hLo 11 rfl HS12.1 rfl (hb 11 (by rfl)))) (fun w hw => add_as hS3 w (hT.to hw) rS1.1 rXc.1)) ?_
          refine steps_cons (st_row0 13 3 _ rfl rfl rfl rfl (fun b G hb ho => wanted_is rfl rfl rfl HS12.1 rfl (ev_on hLo 7 rfl HS12.1 rfl (hb 7 (by rfl))) rfl) hLo rfl rfl rfl (by rfl) Tryd.underlying28 infoPt rfl (fun b G hb ho => ev_off rfl (HS12.get 0 rfl))) ?_
          refine steps_cons (st_row0 14 4 _ rfl rfl rfl rfl (fun b G hb ho => wanted_is rfl rfl rfl HS12.1 rfl (ev_on hLo 7 rfl HS12.1 rfl (hb 7 (by rfl))) rfl) hLo rfl rfl rfl (by rfl) Tryd.underlying28 infoPt rfl (fun b G hb ho => ev_off rfl (HS12.get 1 rfl))) ?_
          refine steps_cons (st_row0 15 5 _ rfl rfl rfl rfl (fun b G hb ho => wanted_is rfl rfl rfl HS12.1 rfl (ev_on hLo 7 rfl HS12.1 rfl (hb 7 (by rfl))) rfl) hLo rfl rfl rfl (by rfl) Tryd.underlying28 infoPt rfl (fun b G hb ho => ev_off rfl (HS12.get 2 rfl))) ?_
          refine steps_cons (st_call 16 _ #[.agg (FR .u64 20 (Xb)), .agg (FR .u64 20 (Xc))] rfl rfl rfl (fun b G hb ho => wanted_is rfl rfl rfl HS12.1 rfl (ev_on hLo 7 rfl HS12.1 rfl (hb 7 (by rfl))) rfl) hLo rfl rfl Tryd.func18 rfl rfl (fun b G hb ho => args2 (ev_on hLo 14 rfl HS12.1 rfl (hb 14 (by rfl))) (ev_on hLo 15 rfl HS12.1 rfl (hb 15 (by rfl)))) (fun w hw => add_as hS4 w (hT.to hw) rXb.1 rXc.1)) ?_
          refine steps_cons (st_call 17 _ #[.agg (FR .u64 20 (Xa)), .agg (FR .u64 20 (S4))] rfl rfl rfl (fun b G hb ho => wanted_is rfl rfl rfl HS12.1 rfl (ev_on hLo 7 rfl HS12.1 rfl (hb 7 (by rfl))) rfl) hLo rfl rfl Tryd.func18 rfl rfl (fun b G hb ho => args2 (ev_on hLo 13 rfl HS12.1 rfl (hb 13 (by rfl))) (ev_on hLo 16 rfl HS12.1 rfl (hb 16 (by rfl)))) (fun w hw => add_as hS5 w (hT.to hw) rXa.1 rS4.1)) ?_
          refine steps_cons (st_call 18 _ #[.agg (FR .u64 20 (S3)), .agg (FR .u64 20 (S5))] rfl rfl rfl (fun b G hb ho => wanted_is rfl rfl rfl HS12.1 rfl (ev_on hLo 7 rfl HS12.1 rfl (hb 7 (by rfl))) rfl) hLo rfl rfl Tryd.func16 rfl rfl (fun b G hb ho => args2 (ev_on hLo 12 rfl HS12.1 rfl (hb 12 (by rfl))) (ev_on hLo 17 rfl HS12.1 rfl (hb 17 (by rfl)))) (fun w hw => is_as (is_same rS3 rS5 (Pt.assoc fld _ _ _)) w rS3.1 rS5.1)) ?_
          refine steps_cons (st_run 19 _ rfl rfl hLo rfl rfl (fun _ _ _ _ => rfl) (fun b G w hb ho => exec_pick rfl (ev_on hLo 7 rfl HS12.1 rfl (hb 7 (by rfl))) (ev_on hLo 18 rfl HS12.1 rfl (hb 18 (by rfl))))) ?_
          refine steps_cons (st_run 20 _ rfl rfl hLo rfl rfl (fun _ _ _ _ => rfl) (fun b G w hb ho => exec_move (.inl rfl) (ev_on hLo 19 rfl HS12.1 rfl (hb 19 (by rfl))))) ?_
          refine steps_cons (st_row0 21 3 _ rfl rfl rfl rfl (fun b G hb ho => wanted_is rfl rfl rfl HS12.1 rfl (ev_on hLo 20 rfl HS12.1 rfl (hb 20 (by rfl))) rfl) hLo rfl rfl rfl (by rfl) Tryd.underlying28 infoPt rfl (fun b G hb ho => ev_off rfl (HS12.get 0 rfl))) ?_
          refine steps_cons (st_call 22 _ #[] rfl rfl rfl (fun b G hb ho => wanted_is rfl rfl rfl HS12.1 rfl (ev_on hLo 20 rfl HS12.1 rfl (hb 20 (by rfl))) rfl) hLo rfl rfl Tryd.func10 rfl rfl (fun b G hb ho => args0 ) (fun w hw => zero_as hZ6 w)) ?_
          refine steps_cons (st_call 23 _ #[.agg (FR .u64 20 (Xa)), .agg (FR .u64 20 (Z6))] rfl rfl rfl (fun b G hb ho => wanted_is rfl rfl rfl HS12.1 rfl (ev_on hLo 20 rfl HS12.1 rfl (hb 20 (by rfl))) rfl) hLo rfl rfl Tryd.func18 rfl rfl (fun b G hb ho => args2 (ev_on hLo 21 rfl HS12.1 rfl (hb 21 (by rfl))) (ev_on hLo 22 rfl HS12.1 rfl (hb 22 (by rfl)))) (fun w hw => add_as hS7 w (hT.to hw) rXa.1 rZ6.1)) ?_
          refine steps_cons (st_row0 24 3 _ rfl rfl rfl rfl (fun b G hb ho => wanted_is rfl rfl rfl HS12.1 rfl (ev_on hLo 20 rfl HS12.1 rfl (hb 20 (by rfl))) rfl) hLo rfl rfl rfl (by rfl) Tryd.underlying28 infoPt rfl (fun b G hb ho => ev_off rfl (HS12.get 0 rfl))) ?_
          refine steps_cons (st_call 25 _ #[.agg (FR .u64 20 (S7)), .agg (FR .u64 20 (Xa))] rfl rfl rfl (fun b G hb ho => wanted_is rfl rfl rfl HS12.1 rfl (ev_on hLo 20 rfl HS12.1 rfl (hb 20 (by rfl))) rfl) hLo rfl rfl Tryd.func16 rfl rfl (fun b G hb ho => args2 (ev_on hLo 23 rfl HS12.1 rfl (hb 23 (by rfl))) (ev_on hLo 24 rfl HS12.1 rfl (hb 24 (by rfl)))) (fun w hw => is_as (is_same rS7 rXa (Pt.add_zero fld _)) w rS7.1 rXa.1)) ?_
          refine steps_cons (st_run 26 _ rfl rfl hLo rfl rfl (fun _ _ _ _ => rfl) (fun b G w hb ho => exec_pick rfl (ev_on hLo 20 rfl HS12.1 rfl (hb 20 (by rfl))) (ev_on hLo 25 rfl HS12.1 rfl (hb 25 (by rfl))))) ?_
          refine steps_cons (st_run 27 _ rfl rfl hLo rfl rfl (fun _ _ _ _ => rfl) (fun b G w hb ho => exec_move (.inl rfl) (ev_on hLo 26 rfl HS12.1 rfl (hb 26 (by rfl))))) ?_
          refine steps_cons (st_row0 28 3 _ rfl rfl rfl rfl (fun b G hb ho => wanted_is rfl rfl rfl HS12.1 rfl (ev_on hLo 27 rfl HS12.1 rfl (hb 27 (by rfl))) rfl) hLo rfl rfl rfl (by rfl) Tryd.underlying28 infoPt rfl (fun b G hb ho => ev_off rfl (HS12.get 0 rfl))) ?_
          refine steps_cons (st_row0 29 3 _ rfl rfl rfl rfl (fun b G hb ho => wanted_is rfl rfl rfl HS12.1 rfl (ev_on hLo 27 rfl HS12.1 rfl (hb 27 (by rfl))) rfl) hLo rfl rfl rfl (by rfl) Tryd.underlying28 infoPt rfl (fun b G hb ho => ev_off rfl (HS12.get 0 rfl))) ?_
          refine steps_cons (st_call 30 _ #[.agg (FR .u64 20 (Xa))] rfl rfl rfl (fun b G hb ho => wanted_is rfl rfl rfl HS12.1 rfl (ev_on hLo 27 rfl HS12.1 rfl (hb 27 (by rfl))) rfl) hLo rfl rfl Tryd.func20 rfl rfl (fun b G hb ho => args1 (ev_on hLo 29 rfl HS12.1 rfl (hb 29 (by rfl)))) (fun w hw => ptneg_as hN8 w rXa.1)) ?_
          refine steps_cons (st_call 31 _ #[.agg (FR .u64 20 (Xa)), .agg (FR .u64 20 (N8))] rfl rfl rfl (fun b G hb ho => wanted_is rfl rfl rfl HS12.1 rfl (ev_on hLo 27 rfl HS12.1 rfl (hb 27 (by rfl))) rfl) hLo rfl rfl Tryd.func18 rfl rfl (fun b G hb ho => args2 (ev_on hLo 28 rfl HS12.1 rfl (hb 28 (by rfl))) (ev_on hLo 30 rfl HS12.1 rfl (hb 30 (by rfl)))) (fun w hw => add_as hS9 w (hT.to hw) rXa.1 rN8.1)) ?_
          refine steps_cons (st_call 32 _ #[] rfl rfl rfl (fun b G hb ho => wanted_is rfl rfl rfl HS12.1 rfl (ev_on hLo 27 rfl HS12.1 rfl (hb 27 (by rfl))) rfl) hLo rfl rfl Tryd.func10 rfl rfl (fun b G hb ho => args0 ) (fun w hw => zero_as hZ6 w)) ?_
          refine steps_cons (st_call 33 _ #[.agg (FR .u64 20 (S9)), .agg (FR .u64 20 (Z6))] rfl rfl rfl (fun b G hb ho => wanted_is rfl rfl rfl HS12.1 rfl (ev_on hLo 27 rfl HS12.1 rfl (hb 27 (by rfl))) rfl) hLo rfl rfl Tryd.func16 rfl rfl (fun b G hb ho => args2 (ev_on hLo 31 rfl HS12.1 rfl (hb 31 (by rfl))) (ev_on hLo 32 rfl HS12.1 rfl (hb 32 (by rfl)))) (fun w hw => is_as (is_same rS9 rZ6 (Pt.add_neg fld _)) w rS9.1 rZ6.1)) ?_
          refine steps_cons (st_run 34 _ rfl rfl hLo rfl rfl (fun _ _ _ _ => rfl) (fun b G w hb ho => exec_pick rfl (ev_on hLo 27 rfl HS12.1 rfl (hb 27 (by rfl))) (ev_on hLo 33 rfl HS12.1 rfl (hb 33 (by rfl))))) ?_
          refine steps_cons (st_run 35 _ rfl rfl hLo rfl rfl (fun _ _ _ _ => rfl) (fun b G w hb ho => exec_move (.inl rfl) (ev_on hLo 34 rfl HS12.1 rfl (hb 34 (by rfl))))) ?_
          refine steps_cons (st_row0 36 3 _ rfl rfl rfl rfl (fun b G hb ho => wanted_is rfl rfl rfl HS12.1 rfl (ev_on hLo 35 rfl HS12.1 rfl (hb 35 (by rfl))) rfl) hLo rfl rfl rfl (by rfl) Tryd.underlying28 infoPt rfl (fun b G hb ho => ev_off rfl (HS12.get 0 rfl))) ?_
          refine steps_cons (st_call 37 _ #[.agg (FR .u64 20 (Xa))] rfl rfl rfl (fun b G hb ho => wanted_is rfl rfl rfl HS12.1 rfl (ev_on hLo 35 rfl HS12.1 rfl (hb 35 (by rfl))) rfl) hLo rfl rfl Tryd.func20 rfl rfl (fun b G hb ho => args1 (ev_on hLo 36 rfl HS12.1 rfl (hb 36 (by rfl)))) (fun w hw => ptneg_as hN8 w rXa.1)) ?_
          refine steps_cons (st_call 38 _ #[.agg (FR .u64 20 (N8))] rfl rfl rfl (fun b G hb ho => wanted_is rfl rfl rfl HS12.1 rfl (ev_on hLo 35 rfl HS12.1 rfl (hb 35 (by rfl))) rfl) hLo rfl rfl Tryd.func20 rfl rfl (fun b G hb ho => args1 (ev_on hLo 37 rfl HS12.1 rfl (hb 37 (by rfl)))) (fun w hw => ptneg_as hN10 w rN8.1)) ?_
          refine steps_cons (st_row0 39 3 _ rfl rfl rfl rfl (fun b G hb ho => wanted_is rfl rfl rfl HS12.1 rfl (ev_on hLo 35 rfl HS12.1 rfl (hb 35 (by rfl))) rfl) hLo rfl rfl rfl (by rfl) Tryd.underlying28 infoPt rfl (fun b G hb ho => ev_off rfl (HS12.get 0 rfl))) ?_
          refine steps_cons (st_call 40 _ #[.agg (FR .u64 20 (N10)), .agg (FR .u64 20 (Xa))] rfl rfl rfl (fun b G hb ho => wanted_is rfl rfl rfl HS12.1 rfl (ev_on hLo 35 rfl HS12.1 rfl (hb 35 (by rfl))) rfl) hLo rfl rfl Tryd.func16 rfl rfl (fun b G hb ho => args2 (ev_on hLo 38 rfl HS12.1 rfl (hb 38 (by rfl))) (ev_on hLo 39 rfl HS12.1 rfl (hb 39 (by rfl)))) (fun w hw => is_as (is_same rN10 rXa (Pt.neg_neg _)) w rN10.1 rXa.1)) ?_
          refine steps_cons (st_run 41 _ rfl rfl hLo rfl rfl (fun _ _ _ _ => rfl) (fun b G w hb ho => exec_pick rfl (ev_on hLo 35 rfl HS12.1 rfl (hb 35 (by rfl))) (ev_on hLo 40 rfl HS12.1 rfl (hb 40 (by rfl))))) ?_
          refine steps_cons (st_run 42 _ rfl rfl hLo rfl rfl (fun _ _ _ _ => rfl) (fun b G w hb ho => exec_move (.inr rfl) (ev_on hLo 41 rfl HS12.1 rfl (hb 41 (by rfl))))) ?_
          exact steps_nil
        clear hLo
        intro G a13 w13 hS hH
        have HS13 : Sl a13 82 [(6, .bool true)] := hS
        have HH13 : Held w w13 [⟨g1_0, .u8, 32, a, 22⟩, ⟨g1_1, .u8, 32, b, 22⟩, ⟨g1_2, .u8, 32, c, 22⟩, ⟨g3_5, .u64, 20, Xa, 28⟩, ⟨g4_5, .u64, 20, Xb, 28⟩, ⟨g5_5, .u64, 20, Xc, 28⟩] := hH
        clear hS hH HS12 HH12
        refine then_ ?_
        refine wp_ret ?_
        repeat refine then_ret ?_
        exact b_tmp rfl HS13.2.1 (HS13.get 0 rfl) ⟨rfl, HH13.1⟩
theorem CurveSigns_walk (b : Nat → Int) (w : World) (hT : TabD w) (w0 : ∀ i, i < 32 → (Lit.int .u8 (b i)).wf = true) : Calls Tryd.prog 6 #[.agg (FR .u8 32 b)] w fun e w' => e = .returned (.bool true) ∧ Below w.heap.size w w' := by
  have hb := By_wf w0
  obtain ⟨Xb, hXb⟩ : ∃ X, decP b = X := ⟨_, rfl⟩
  obtain ⟨Yb, hYb⟩ : ∃ X, decRP b = X := ⟨_, rfl⟩
  obtain ⟨rb, hrb⟩ : ∃ r, decOk b = r := ⟨_, rfl⟩
  have hrrb := (decOk_eq hb).symm.trans hrb
  obtain ⟨c, hce⟩ : ∃ c, upd b 31 (Go.bits .xor .u8 (b 31) 128) = c := ⟨_, rfl⟩
  have hcf : c = flipB b := by rw [← hce, xor128 _ (hb 31 (by decide))]; rfl
  have hbc : ∀ j, j < 32 → c j = flipB b j := fun j _ => by rw [hcf]
  have hc : By c := by rw [hcf]; exact flipB_By hb
  clear hcf
  obtain ⟨Xc, hXc⟩ : ∃ X, decP c = X := ⟨_, rfl⟩
  obtain ⟨Yc, hYc⟩ : ∃ X, decRP c = X := ⟨_, rfl⟩
  obtain ⟨rc, hrc⟩ : ∃ r, decOk c = r := ⟨_, rfl⟩
  have hrrc := (decOk_eq hc).symm.trans hrc
  refine enter_ 55 Tryd.func6 rfl rfl (fun a0 hS => ?_)
  have HS0 : Sl a0 55 [(0, .agg (FR .u8 32 b))] := hS
  have HH0 : Held w w [] := Held.first w
  clear hS
  refine wp_seq ?_
  have hLo : LOk [(0, 1, .ptr 0 0), (1, 2, .val (.bool false))] := ⟨show ([0, 1] : List Nat).Nodup by decide, show ([1, 2] : List Nat).Nodup by decide⟩
  refine plain_ (wE := w) (sz := 55) (n := 2) [0, 1] [(1, .ptr 0 0)] [(0, 1, .ptr 0 0), (1, 2, .val (.bool false))] [⟨0, some 0, none, .u8, 32, b, b, 22⟩] rfl (by rfl) HH0 rfl rfl hLo rfl HS0 (slL 0 (d := 0) rfl (trivial)) ?_ ?_
  · show ∀ i ∈ [0, 1], _
    refine steps_cons (st_alloc 0 0 .u8 32 22 none _ _ rfl rfl (fun _ _ _ _ => rfl) rfl hLo rfl rfl rfl rfl (by rfl) (fun b G w hb ho => exec_box rfl (ev_off rfl (HS0.get 0 rfl)) (by kernel_rfl))) ?_
    refine steps_cons (st_run 1 _ rfl rfl hLo rfl rfl (fun _ _ _ _ => rfl) (fun b G w hb ho => exec_move (.inr rfl) (rfl))) ?_
    exact steps_nil
  clear hLo
  intro G a1 w1 hS hH
  have HS1 : Sl a1 55 [(1, .pointer (some ⟨(G 0), 0, none⟩))] := hS
  have HH1 : Held w w1 [⟨(G 0), .u8, 32, b, 22⟩] := hH
  clear hS hH HS0 HH0
  generalize G 0 = g1_0 at HS1 HH1
  refine then_ ?_
  refine wp_seq ?_
  refine wp_seq ?_
  have hLo : LOk [(0, 8, .val (.bool true)), (1, 9, .val (.bool false))] := ⟨show ([0, 1] : List Nat).Nodup by decide, show ([8, 9] : List Nat).Nodup by decide⟩
  refine plain_ (wE := w) (sz := 55) (n := 2) [0, 1] [(1, .val (.pointer (some ⟨g1_0, 0, none⟩))), (9, .val (.bool false))] [(0, 8, .val (.bool true)), (1, 9, .val (.bool false))] [⟨g1_0, none, none, .u8, 32, b, b, 22⟩] rfl (by rfl) HH1 rfl rfl hLo rfl HS1 (slS 0 rfl rfl (slL 1 (d := 1) rfl (trivial))) ?_ ?_
  · show ∀ i ∈ [0, 1], _
    refine steps_cons (st_call 0 _ #[] rfl rfl rfl (fun _ _ _ _ => rfl) hLo rfl rfl Tryd.func17 rfl rfl (fun b G hb ho => args0 ) (fun w hw => alive_calls w (hT.to hw))) ?_
    refine steps_cons (st_run 1 _ rfl rfl hLo rfl rfl (fun _ _ _ _ => rfl) (fun b G w hb ho => exec_un rfl (ev_on hLo 0 rfl HS1.1 rfl (hb 0 (by rfl))) (by rfl))) ?_
    exact steps_nil
  clear hLo
  intro G a2 w2 hS hH
  have HS2 : Sl a2 55 [(1, .pointer (some ⟨g1_0, 0, none⟩)), (9, .bool false)] := hS
  have HH2 : Held w w2 [⟨g1_0, .u8, 32, b, 22⟩] := hH
  clear hS hH HS1 HH1
  refine then_ ?_
  refine wp_cond_false (HS2.get 1 rfl) ?_
  refine wp_skip ?_
  refine then_ ?_
  refine wp_seq ?_
  have hLo : LOk [(0, 11, .val (.agg (FR .u8 32 (b)))), (1, 12, .val (.tuple #[.agg (FR .u64 20 (Xb)), .bool rb])), (2, 10, .val (.tuple #[.agg (FR .u64 20 (Xb)), .bool rb])), (3, 13, .val (.agg (FR .u64 20 (Xb)))), (4, 14, .val (.bool rb)), (5, 3, .ptr 5 0), (7, 4, .val (.bool rb))] := ⟨show ([0, 1, 2, 3, 4, 5, 7] : List Nat).Nodup by decide, show ([11, 12, 10, 13, 14, 3, 4] : List Nat).Nodup by decide⟩
  refine plain_ (wE := w) (sz := 55) (n := 8) [0, 1, 3, 7, 15, 31, 63, 127] [(1, .val (.pointer (some ⟨g1_0, 0, none⟩))), (3, .ptr 5 0), (4, .val (.bool rb))] [(0, 11, .val (.agg (FR .u8 32 (b)))), (1, 12, .val (.tuple #[.agg (FR .u64 20 (Xb)), .bool rb])), (2, 10, .val (.tuple #[.agg (FR .u64 20 (Xb)), .bool rb])), (3, 13, .val (.agg (FR .u64 20 (Xb)))), (4, 14, .val (.bool rb)), (5, 3, .ptr 5 0), (7, 4, .val (.bool rb))] [⟨g1_0, none, none, .u8, 32, b, b, 22⟩, ⟨0, some 5, some 6, .u64, 20, fun _ => 0, Xb, 28⟩] rfl (by rfl) HH2 rfl rfl hLo rfl HS2 (slS 0 rfl rfl (slL 5 (d := 5) rfl (slL 6 (d := 7) rfl (trivial)))) ?_ ?_
  · show ∀ i ∈ [0, 1, 2, 3, 4, 5, 6, 7], _
    refine steps_cons (st_row0 0 0 _ rfl rfl rfl rfl (fun _ _ _ _ => rfl) hLo rfl rfl rfl (by rfl) Tryd.underlying22 infoB3 rfl (fun b G hb ho => ev_off rfl (HS2.get 0 rfl))) ?_
    refine steps_cons (st_call 1 _ #[.agg (FR .u8 32 (b))] rfl rfl rfl (fun _ _ _ _ => rfl) hLo rfl rfl Tryd.func12 rfl rfl (fun b G hb ho => args1 (ev_on hLo 0 rfl HS2.1 rfl (hb 0 (by rfl)))) (fun w hw => dec_as hXb hrb w (hT.to hw) hb)) ?_
    refine steps_cons (st_run 2 _ rfl rfl hLo rfl rfl (fun _ _ _ _ => rfl) (fun b G w hb ho => exec_move (.inl rfl) (ev_on hLo 1 rfl HS2.1 rfl (hb 1 (by rfl))))) ?_
    refine steps_cons (st_run 3 _ rfl rfl hLo rfl rfl (fun _ _ _ _ => rfl) (fun b G w hb ho => exec_extract rfl (ev_on hLo 2 rfl HS2.1 rfl (hb 2 (by rfl))) (by rfl))) ?_
    refine steps_cons (st_run 4 _ rfl rfl hLo rfl rfl (fun _ _ _ _ => rfl) (fun b G w hb ho => exec_extract rfl (ev_on hLo 2 rfl HS2.1 rfl (hb 2 (by rfl))) (by rfl))) ?_
    refine steps_cons (st_alloc 5 1 .u64 20 28 (some 6) _ _ rfl rfl (fun _ _ _ _ => rfl) rfl hLo rfl rfl rfl rfl (by rfl) (fun b G w _ _ => by kernel_rfl)) ?_
    refine steps_cons (st_store 1 _ rfl rfl rfl rfl rfl (fun _ _ _ _ => rfl) rfl rfl rfl (by rfl) infoPt (fun b G hb ho => ev_on hLo 5 rfl HS2.1 rfl (hb 5 (by rfl))) (fun b G hb ho => ev_on hLo 3 rfl HS2.1 rfl (hb 3 (by rfl)))) ?_
    refine steps_cons (st_run 6 _ rfl rfl hLo rfl rfl (fun _ _ _ _ => rfl) (fun b G w hb ho => exec_move (.inr rfl) (ev_on hLo 4 rfl HS2.1 rfl (hb 4 (by rfl))))) ?_
    exact steps_nil
  clear hLo
  intro G a3 w3 hS hH
  have HS3 : Sl a3 55 [(1, .pointer (some ⟨g1_0, 0, none⟩)), (3, .pointer (some ⟨(G 5), 0, none⟩)), (4, .bool rb)] := hS
  have HH3 : Held w w3 [⟨g1_0, .u8, 32, b, 22⟩, ⟨(G 5), .u64, 20, Xb, 28⟩] := hH
  clear hS hH HS2 HH2
  generalize G 5 = g3_5 at HS3 HH3
  refine then_ ?_
  refine wp_seq ?_
  have hLo : LOk [(0, 15, .val (.agg (FR .u8 32 (b)))), (1, 5, .ptr 1 0)] := ⟨show ([0, 1] : List Nat).Nodup by decide, show ([15, 5] : List Nat).Nodup by decide⟩
  refine plain_ (wE := w) (sz := 55) (n := 3) [0, 1, 3] [(3, .val (.pointer (some ⟨g3_5, 0, none⟩))), (4, .val (.bool rb)), (5, .ptr 1 0)] [(0, 15, .val (.agg (FR .u8 32 (b)))), (1, 5, .ptr 1 0)] [⟨g1_0, none, none, .u8, 32, b, b, 22⟩, ⟨g3_5, none, none, .u64, 20, Xb, Xb, 28⟩, ⟨0, some 1, some 2, .u8, 32, fun _ => 0, b, 22⟩] rfl (by rfl) HH3 rfl rfl hLo rfl HS3 (slS 1 rfl rfl (slS 2 rfl rfl (slL 1 (d := 1) rfl (trivial)))) ?_ ?_
  · show ∀ i ∈ [0, 1, 2], _
    refine steps_cons (st_row0 0 0 _ rfl rfl rfl rfl (fun _ _ _ _ => rfl) hLo rfl rfl rfl (by rfl) Tryd.underlying22 infoB3 rfl (fun b G hb ho => ev_off rfl (HS3.get 0 rfl))) ?_
    refine steps_cons (st_alloc 1 2 .u8 32 22 (some 2) _ _ rfl rfl (fun _ _ _ _ => rfl) rfl hLo rfl rfl rfl rfl (by rfl) (fun b G w _ _ => by kernel_rfl)) ?_
    refine steps_cons (st_store 2 _ rfl rfl rfl rfl rfl (fun _ _ _ _ => rfl) rfl rfl rfl (by rfl) infoB3 (fun b G hb ho => ev_on hLo 1 rfl HS3.1 rfl (hb 1 (by rfl))) (fun b G hb ho => ev_on hLo 0 rfl HS3.1 rfl (hb 0 (by rfl)))) ?_
    exact steps_nil
  clear hLo
  intro G a4 w4 hS hH
  have HS4 : Sl a4 55 [(3, .pointer (some ⟨g3_5, 0, none⟩)), (4, .bool rb), (5, .pointer (some ⟨(G 1), 0, none⟩))] := hS
  have HH4 : Held w w4 [⟨g1_0, .u8, 32, b, 22⟩, ⟨g3_5, .u64, 20, Xb, 28⟩, ⟨(G 1), .u8, 32, b, 22⟩] := hH
  clear hS hH HS3 HH3
  generalize G 1 = g4_1 at HS4 HH4
  refine then_ ?_
  refine wp_seq ?_
  have hLo : LOk [(0, 16, .val (.pointer (some ⟨g4_1, 31, none⟩))), (1, 17, .val (.int .u8 ((b) 31))), (2, 18, .val (.int .u8 (Go.bits .xor .u8 (b 31) 128))), (3, 19, .val (.pointer (some ⟨g4_1, 31, none⟩)))] := ⟨show ([0, 1, 2, 3] : List Nat).Nodup by decide, show ([16, 17, 18, 19] : List Nat).Nodup by decide⟩
  refine plain_ (wE := w) (sz := 55) (n := 5) [0, 1, 3, 7, 15] [(3, .val (.pointer (some ⟨g3_5, 0, none⟩))), (4, .val (.bool rb)), (5, .val (.pointer (some ⟨g4_1, 0, none⟩)))] [(0, 16, .val (.pointer (some ⟨g4_1, 31, none⟩))), (1, 17, .val (.int .u8 ((b) 31))), (2, 18, .val (.int .u8 (Go.bits .xor .u8 (b 31) 128))), (3, 19, .val (.pointer (some ⟨g4_1, 31, none⟩)))] [⟨g1_0, none, none, .u8, 32, b, b, 22⟩, ⟨g3_5, none, none, .u64, 20, Xb, Xb, 28⟩, ⟨g4_1, none, some 4, .u8, 32, b, upd (b) 31 ((Go.bits .xor .u8 (b 31) 128)), 22⟩] rfl (by rfl) HH4 rfl rfl hLo rfl HS4 (slS 0 rfl rfl (slS 1 rfl rfl (slS 2 rfl rfl (trivial)))) ?_ ?_
  · show ∀ i ∈ [0, 1, 2, 3, 4], _
    refine steps_cons (st_run 0 _ rfl rfl hLo rfl rfl (fun _ _ _ _ => rfl) (fun b G w hb ho => exec_indexAddr rfl (ev_off rfl (HS4.get 2 rfl)) (rfl) (by kernel_rfl))) ?_
    refine steps_cons (st_read 1 2 _ _ rfl rfl rfl hLo rfl rfl (fun _ _ _ _ => rfl) (by rfl) (by rfl) (fun b G w hb ho hr => exec_cell hr (Nat.le_of_ble_eq_true rfl) Tryd.underlying5 rfl rfl (ev_on hLo 0 rfl HS4.1 rfl (hb 0 (by rfl))))) ?_
    refine steps_cons (st_run 2 _ rfl rfl hLo rfl rfl (fun _ _ _ _ => rfl) (fun b G w hb ho => exec_bin rfl (ev_on hLo 1 rfl HS4.1 rfl (hb 1 (by rfl))) (rfl) (xor128_run _ _ _ _))) ?_
    refine steps_cons (st_run 3 _ rfl rfl hLo rfl rfl (fun _ _ _ _ => rfl) (fun b G w hb ho => exec_indexAddr rfl (ev_off rfl (HS4.get 2 rfl)) (rfl) (by kernel_rfl))) ?_
    refine steps_cons (st_put 2 _ rfl rfl rfl rfl (fun _ _ _ _ => rfl) rfl rfl rfl (by rfl) (fun b G w hb ho hr => exec_put1 hr (Nat.le_of_ble_eq_true rfl) Fd.info5s rfl (ev_on hLo 3 rfl HS4.1 rfl (hb 3 (by rfl))) (ev_on hLo 2 rfl HS4.1 rfl (hb 2 (by rfl))))) ?_
    exact steps_nil
  clear hLo
  intro G a5 w5 hS hH
  have HS5 : Sl a5 55 [(3, .pointer (some ⟨g3_5, 0, none⟩)), (4, .bool rb), (5, .pointer (some ⟨g4_1, 0, none⟩))] := hS
  have HH5 : Held w w5 [⟨g1_0, .u8, 32, b, 22⟩, ⟨g3_5, .u64, 20, Xb, 28⟩, ⟨g4_1, .u8, 32, upd (b) 31 ((Go.bits .xor .u8 (b 31) 128)), 22⟩] := hH
  clear hS hH HS4 HH4
  refine then_ ?_
  rw [hce] at HH5
  refine wp_seq ?_
  have hLo : LOk [(0, 21, .val (.agg (FR .u8 32 (c)))), (1, 22, .val (.tuple #[.agg (FR .u64 20 (Xc)), .bool rc])), (2, 20, .val (.tuple #[.agg (FR .u64 20 (Xc)), .bool rc])), (3, 23, .val (.agg (FR .u64 20 (Xc)))), (4, 24, .val (.bool rc)), (5, 6, .ptr 5 0), (7, 7, .val (.bool rc))] := ⟨show ([0, 1, 2, 3, 4, 5, 7] : List Nat).Nodup by decide, show ([21, 22, 20, 23, 24, 6, 7] : List Nat).Nodup by decide⟩
  refine plain_ (wE := w) (sz := 55) (n := 8) [0, 1, 3, 7, 15, 31, 63, 127] [(3, .val (.pointer (some ⟨g3_5, 0, none⟩))), (4, .val (.bool rb)), (6, .ptr 5 0), (7, .val (.bool rc))] [(0, 21, .val (.agg (FR .u8 32 (c)))), (1, 22, .val (.tuple #[.agg (FR .u64 20 (Xc)), .bool rc])), (2, 20, .val (.tuple #[.agg (FR .u64 20 (Xc)), .bool rc])), (3, 23, .val (.agg (FR .u64 20 (Xc)))), (4, 24, .val (.bool rc)), (5, 6, .ptr 5 0), (7, 7, .val (.bool rc))] [⟨g1_0, none, none, .u8, 32, b, b, 22⟩, ⟨g3_5, none, none, .u64, 20, Xb, Xb, 28⟩, ⟨g4_1, none, none, .u8, 32, c, c, 22⟩, ⟨0, some 5, some 6, .u64, 20, fun _ => 0, Xc, 28⟩] rfl (by rfl) HH5 rfl rfl hLo rfl HS5 (slS 0 rfl rfl (slS 1 rfl rfl (slL 5 (d := 5) rfl (slL 6 (d := 7) rfl (trivial))))) ?_ ?_
  · show ∀ i ∈ [0, 1, 2, 3, 4, 5, 6, 7], _
    refine steps_cons (st_row0 0 2 _ rfl rfl rfl rfl (fun _ _ _ _ => rfl) hLo rfl rfl rfl (by rfl) Tryd.underlying22 infoB3 rfl (fun b G hb ho => ev_off rfl (HS5.get 2 rfl))) ?_
    refine steps_cons (st_call 1 _ #[.agg (FR .u8 32 (c))] rfl rfl rfl (fun _ _ _ _ => rfl) hLo rfl rfl Tryd.func12 rfl rfl (fun b G hb ho => args1 (ev_on hLo 0 rfl HS5.1 rfl (hb 0 (by rfl)))) (fun w hw => dec_as hXc hrc w (hT.to hw) hc)) ?_
    refine steps_cons (st_run 2 _ rfl rfl hLo rfl rfl (fun _ _ _ _ => rfl) (fun b G w hb ho => exec_move (.inl rfl) (ev_on hLo 1 rfl HS5.1 rfl (hb 1 (by rfl))))) ?_
    refine steps_cons (st_run 3 _ rfl rfl hLo rfl rfl (fun _ _ _ _ => rfl) (fun b G w hb ho => exec_extract rfl (ev_on hLo 2 rfl HS5.1 rfl (hb 2 (by rfl))) (by rfl))) ?_
    refine steps_cons (st_run 4 _ rfl rfl hLo rfl rfl (fun _ _ _ _ => rfl) (fun b G w hb ho => exec_extract rfl (ev_on hLo 2 rfl HS5.1 rfl (hb 2 (by rfl))) (by rfl))) ?_
    refine steps_cons (st_alloc 5 3 .u64 20 28 (some 6) _ _ rfl rfl (fun _ _ _ _ => rfl) rfl hLo rfl rfl rfl rfl (by rfl) (fun b G w _ _ => by kernel_rfl)) ?_
    refine steps_cons (st_store 3 _ rfl rfl rfl rfl rfl (fun _ _ _ _ => rfl) rfl rfl rfl (by rfl) infoPt (fun b G hb ho => ev_on hLo 5 rfl HS5.1 rfl (hb 5 (by rfl))) (fun b G hb ho => ev_on hLo 3 rfl HS5.1 rfl (hb 3 (by rfl)))) ?_
    refine steps_cons (st_run 6 _ rfl rfl hLo rfl rfl (fun _ _ _ _ => rfl) (fun b G w hb ho => exec_move (.inr rfl) (ev_on hLo 4 rfl HS5.1 rfl (hb 4 (by rfl))))) ?_
    exact steps_nil
  clear hLo
  intro G a6 w6 hS hH
  have HS6 : Sl a6 55 [(3, .pointer (some ⟨g3_5, 0, none⟩)), (4, .bool rb), (6, .pointer (some ⟨(G 5), 0, none⟩)), (7, .bool rc)] := hS
  have HH6 : Held w w6 [⟨g1_0, .u8, 32, b, 22⟩, ⟨g3_5, .u64, 20, Xb, 28⟩, ⟨g4_1, .u8, 32, c, 22⟩, ⟨(G 5), .u64, 20, Xc, 28⟩] := hH
  clear hS hH HS5 HH5
  generalize G 5 = g6_5 at HS6 HH6
  refine then_ ?_
  cases rb
  · skip
    refine wp_seq ?_
    refine wp_seq ?_
    have hLo : LOk [(0, 25, .val (.bool false)), (1, 26, .val (.bool true))] := ⟨show ([0, 1] : List Nat).Nodup by decide, show ([25, 26] : List Nat).Nodup by decide⟩
    refine plain_ (wE := w) (sz := 55) (n := 2) [0, 1] [(3, .val (.pointer (some ⟨g3_5, 0, none⟩))), (6, .val (.pointer (some ⟨g6_5, 0, none⟩))), (7, .val (.bool rc)), (26, .val (.bool true))] [(0, 25, .val (.bool false)), (1, 26, .val (.bool true))] [⟨g1_0, none, none, .u8, 32, b, b, 22⟩, ⟨g3_5, none, none, .u64, 20, Xb, Xb, 28⟩, ⟨g4_1, none, none, .u8, 32, c, c, 22⟩, ⟨g6_5, none, none, .u64, 20, Xc, Xc, 28⟩] rfl (by rfl) HH6 rfl rfl hLo rfl HS6 (slS 0 rfl rfl (slS 2 rfl rfl (slS 3 rfl rfl (slL 1 (d := 1) rfl (trivial))))) ?_ ?_
    · show ∀ i ∈ [0, 1], _
      refine steps_cons (st_run 0 _ rfl rfl hLo rfl rfl (fun _ _ _ _ => rfl) (fun b G w hb ho => exec_move (.inl rfl) (ev_off rfl (HS6.get 1 rfl)))) ?_
      refine steps_cons (st_run 1 _ rfl rfl hLo rfl rfl (fun _ _ _ _ => rfl) (fun b G w hb ho => exec_un rfl (ev_on hLo 0 rfl HS6.1 rfl (hb 0 (by rfl))) (by rfl))) ?_
      exact steps_nil
    clear hLo
    intro G a7 w7 hS hH
    have HS7 : Sl a7 55 [(3, .pointer (some ⟨g3_5, 0, none⟩)), (6, .pointer (some ⟨g6_5, 0, none⟩)), (7, .bool rc), (26, .bool true)] := hS
    have HH7 : Held w w7 [⟨g1_0, .u8, 32, b, 22⟩, ⟨g3_5, .u64, 20, Xb, 28⟩, ⟨g4_1, .u8, 32, c, 22⟩, ⟨g6_5, .u64, 20, Xc, 28⟩] := hH
    clear hS hH HS6 HH6
    refine then_ ?_
    refine wp_cond_true (HS7.get 3 rfl) ?_
    cases rc
    · skip
      refine wp_seq ?_
      have hLo : LOk [(0, 27, .val (.bool false)), (1, 28, .val (.bool true)), (2, 29, .val (.bool true)), (3, 30, .val (undef)), (4, 31, .val (undef)), (5, 32, .val (undef)), (6, 33, .val (undef)), (7, 34, .val (.bool true)), (8, 2, .val (.bool true))] := ⟨show ([0, 1, 2, 3, 4, 5, 6, 7, 8] : List Nat).Nodup by decide, show ([27, 28, 29, 30, 31, 32, 33, 34, 2] : List Nat).Nodup by decide⟩
      refine region_ (wE := w) (sz := 55) (n := 9) (B := [0, 1, 3, 7, 15, 7, 63, 127, 255]) [0, 1, 2, 3, 4, 5, 6, 7, 8] [(2, .val (.bool true))] [(0, 27, .val (.bool false)), (1, 28, .val (.bool true)), (2, 29, .val (.bool true)), (3, 30, .val (undef)), (4, 31, .val (undef)), (5, 32, .val (undef)), (6, 33, .val (undef)), (7, 34, .val (.bool true)), (8, 2, .val (.bool true))] [⟨g1_0, none, none, .u8, 32, b, b, 22⟩, ⟨g3_5, none, none, .u64, 20, Xb, Xb, 28⟩, ⟨g4_1, none, none, .u8, 32, c, c, 22⟩, ⟨g6_5, none, none, .u64, 20, Xc, Xc, 28⟩] (by rfl) rfl tabcs_8 bitscs_8 (by kernel_rfl) (by kernel_rfl) HH7 rfl rfl hLo rfl HS7 (slL 8 (d := 8) rfl (trivial)) ?_ ?_
      · show ∀ i ∈ [0, 1, 2, 3, 4, 5, 6, 7, 8], _
        refine steps_cons (st_run 0 _ rfl rfl hLo rfl rfl (fun _ _ _ _ => rfl) (fun b G w hb ho => exec_move (.inl rfl) (ev_off rfl (HS7.get 2 rfl)))) ?_
        refine steps_cons (st_run 1 _ rfl rfl hLo rfl rfl (fun _ _ _ _ => rfl) (fun b G w hb ho => exec_un rfl (ev_on hLo 0 rfl HS7.1 rfl (hb 0 (by rfl))) (by rfl))) ?_
        refine steps_cons (st_run 2 _ rfl rfl hLo rfl rfl (fun _ _ _ _ => rfl) (fun b G w hb ho => exec_move (.inl rfl) (ev_on hLo 1 rfl HS7.1 rfl (hb 1 (by rfl))))) ?_
        refine steps_cons (st_skip 3 rfl rfl hLo rfl rfl (fun b G hb ho => wanted_is rfl rfl rfl HS7.1 rfl (ev_on hLo 2 rfl HS7.1 rfl (hb 2 (by rfl))) rfl)) ?_
        refine steps_cons (st_skip 4 rfl rfl hLo rfl rfl (fun b G hb ho => wanted_is rfl rfl rfl HS7.1 rfl (ev_on hLo 2 rfl HS7.1 rfl (hb 2 (by rfl))) rfl)) ?_
        refine steps_cons (st_skip 5 rfl rfl hLo rfl rfl (fun b G hb ho => wanted_is rfl rfl rfl HS7.1 rfl (ev_on hLo 2 rfl HS7.1 rfl (hb 2 (by rfl))) rfl)) ?_
        refine steps_cons (st_skip 6 rfl rfl hLo rfl rfl (fun b G hb ho => wanted_is rfl rfl rfl HS7.1 rfl (ev_on hLo 2 rfl HS7.1 rfl (hb 2 (by rfl))) rfl)) ?_
        refine steps_cons (st_run 7 _ rfl rfl hLo rfl rfl (fun _ _ _ _ => rfl) (fun b G w hb ho => exec_pick rfl (ev_on hLo 2 rfl HS7.1 rfl (hb 2 (by rfl))) (rfl))) ?_
        refine steps_cons (st_run 8 _ rfl rfl hLo rfl rfl (fun _ _ _ _ => rfl) (fun b G w hb ho => exec_move (.inr rfl) (ev_on hLo 7 rfl HS7.1 rfl (hb 7 (by rfl))))) ?_
        exact steps_nil
      clear hLo
      intro G a8 w8 hS hH
      have HS8 : Sl a8 55 [(2, .bool true)] := hS
      have HH8 : Held w w8 [⟨g1_0, .u8, 32, b, 22⟩, ⟨g3_5, .u64, 20, Xb, 28⟩, ⟨g4_1, .u8, 32, c, 22⟩, ⟨g6_5, .u64, 20, Xc, 28⟩] := hH
      clear hS hH HS7 HH7
      refine then_ ?_
      refine wp_ret ?_
      repeat refine then_ret ?_
      exact b_tmp rfl HS8.2.1 (HS8.get 0 rfl) ⟨rfl, HH8.1⟩
    · skip
      obtain ⟨Pc, hPc⟩ : ∃ P, decPt c hc hrc = P := ⟨_, rfl⟩
      have rXc : PRep Xc Pc := by rw [← hXc, ← hPc]; exact dec_prep hc hrc
      have rYc : RRep Yc Pc := by rw [← hYc, ← hPc]; exact dec_rrep hc hrc
      obtain ⟨N11, hN11, rN11⟩ : ∃ S, negP Xc = S ∧ PRep S (Pt.neg (Pc)) := ⟨_, rfl, rXc.neg⟩
      refine wp_seq ?_
      have hLo : LOk [(0, 27, .val (.bool true)), (1, 28, .val (.bool false)), (2, 29, .val (.bool false)), (3, 30, .val (.agg (FR .u64 20 (Xc)))), (4, 31, .val (.agg (FR .u64 20 (N11)))), (5, 32, .val (.agg (FR .u64 20 (Xc)))), (6, 33, .val (.bool true)), (7, 34, .val (.bool true)), (8, 2, .val (.bool true))] := ⟨show ([0, 1, 2, 3, 4, 5, 6, 7, 8] : List Nat).Nodup by decide, show ([27, 28, 29, 30, 31, 32, 33, 34, 2] : List Nat).Nodup by decide⟩
      refine region_ (wE := w) (sz := 55) (n := 9) (B := [0, 1, 3, 7, 15, 7, 63, 127, 255]) [0, 1, 2, 3, 4, 5, 6, 7, 8] [(2, .val (.bool true))] [(0, 27, .val (.bool true)), (1, 28, .val (.bool false)), (2, 29, .val (.bool false)), (3, 30, .val (.agg (FR .u64 20 (Xc)))), (4, 31, .val (.agg (FR .u64 20 (N11)))), (5, 32, .val (.agg (FR .u64 20 (Xc)))), (6, 33, .val (.bool true)), (7, 34, .val (.bool true)), (8, 2, .val (.bool true))] [⟨g1_0, none, none, .u8, 32, b, b, 22⟩, ⟨g3_5, none, none, .u64, 20, Xb, Xb, 28⟩, ⟨g4_1, none, none, .u8, 32, c, c, 22⟩, ⟨g6_5, none, none, .u64, 20, Xc, Xc, 28⟩] (by rfl) rfl tabcs_8 bitscs_8 (by kernel_rfl) (by kernel_rfl) HH7 rfl rfl hLo rfl HS7 (slL 8 (d := 8) rfl (trivial)) ?_ ?_
      · show ∀ i ∈ [0, 1, 2, 3, 4, 5, 6, 7, 8], _
        refine steps_cons (st_run 0 _ rfl rfl hLo rfl rfl (fun _ _ _ _ => rfl) (fun b G w hb ho => exec_move (.inl rfl) (ev_off rfl (HS7.get 2 rfl)))) ?_
        refine steps_cons (st_run 1 _ rfl rfl hLo rfl rfl (fun _ _ _ _ => rfl) (fun b G w hb ho => exec_un rfl (ev_on hLo 0 rfl HS7.1 rfl (hb 0 (by rfl))) (by rfl))) ?_
        refine steps_cons (st_run 2 _ rfl rfl hLo rfl rfl (fun _ _ _ _ => rfl) (fun b G w hb ho => exec_move (.inl rfl) (ev_on hLo 1 rfl HS7.1 rfl (hb 1 (by rfl))))) ?_
        refine steps_cons (st_row0 3 3 _ rfl rfl rfl rfl (fun b G hb ho => wanted_is rfl rfl rfl HS7.1 rfl (ev_on hLo 2 rfl HS7.1 rfl (hb 2 (by rfl))) rfl) hLo rfl rfl rfl (by rfl) Tryd.underlying28 infoPt rfl (fun b G hb ho => ev_off rfl (HS7.get 1 rfl))) ?_
        refine steps_cons (st_call 4 _ #[.agg (FR .u64 20 (Xc))] rfl rfl rfl (fun b G hb ho => wanted_is rfl rfl rfl HS7.1 rfl (ev_on hLo 2 rfl HS7.1 rfl (hb 2 (by rfl))) rfl) hLo rfl rfl Tryd.func20 rfl rfl (fun b G hb ho => args1 (ev_on hLo 3 rfl HS7.1 rfl (hb 3 (by rfl)))) (fun w hw => ptneg_as hN11 w rXc.1)) ?_
        refine steps_cons (st_row0 5 3 _ rfl rfl rfl rfl (fun b G hb ho => wanted_is rfl rfl rfl HS7.1 rfl (ev_on hLo 2 rfl HS7.1 rfl (hb 2 (by rfl))) rfl) hLo rfl rfl rfl (by rfl) Tryd.underlying28 infoPt rfl (fun b G hb ho => ev_off rfl (HS7.get 1 rfl))) ?_
        refine steps_cons (st_call 6 _ #[.agg (FR .u64 20 (N11)), .agg (FR .u64 20 (Xc))] rfl rfl rfl (fun b G hb ho => wanted_is rfl rfl rfl HS7.1 rfl (ev_on hLo 2 rfl HS7.1 rfl (hb 2 (by rfl))) rfl) hLo rfl rfl Tryd.func16 rfl rfl (fun b G hb ho => args2 (ev_on hLo 4 rfl HS7.1 rfl (hb 4 (by rfl))) (ev_on hLo 5 rfl HS7.1 rfl (hb 5 (by rfl)))) (fun w hw => is_as (is_same rN11 rXc (signs1 hb hc hbc hrb hrc hPc)) w rN11.1 rXc.1)) ?_
        refine steps_cons (st_run 7 _ rfl rfl hLo rfl rfl (fun _ _ _ _ => rfl) (fun b G w hb ho => exec_pick rfl (ev_on hLo 2 rfl HS7.1 rfl (hb 2 (by rfl))) (ev_on hLo 6 rfl HS7.1 rfl (hb 6 (by rfl))))) ?_
        refine steps_cons (st_run 8 _ rfl rfl hLo rfl rfl (fun _ _ _ _ => rfl) (fun b G w hb ho => exec_move (.inr rfl) (ev_on hLo 7 rfl HS7.1 rfl (hb 7 (by rfl))))) ?_
        exact steps_nil
      clear hLo
      intro G a9 w9 hS hH
      have HS9 : Sl a9 55 [(2, .bool true)] := hS
      have HH9 : Held w w9 [⟨g1_0, .u8, 32, b, 22⟩, ⟨g3_5, .u64, 20, Xb, 28⟩, ⟨g4_1, .u8, 32, c, 22⟩, ⟨g6_5, .u64, 20, Xc, 28⟩] := hH
      clear hS hH HS7 HH7
      refine then_ ?_
      refine wp_ret ?_
      repeat refine then_ret ?_
      exact b_tmp rfl HS9.2.1 (HS9.get 0 rfl) ⟨rfl, HH9.1⟩
  · skip
    obtain ⟨Pb, hPb⟩ : ∃ P, decPt b hb hrb = P := ⟨_, rfl⟩
    have rXb : PRep Xb Pb := by rw [← hXb, ← hPb]; exact dec_prep hb hrb
    have rYb : RRep Yb Pb := by rw [← hYb, ← hPb]; exact dec_rrep hb hrb
    refine wp_seq ?_
    refine wp_seq ?_
    have hLo : LOk [(0, 25, .val (.bool true)), (1, 26, .val (.bool false))] := ⟨show ([0, 1] : List Nat).Nodup by decide, show ([25, 26] : List Nat).Nodup by decide⟩
    refine plain_ (wE := w) (sz := 55) (n := 2) [0, 1] [(3, .val (.pointer (some ⟨g3_5, 0, none⟩))), (6, .val (.pointer (some ⟨g6_5, 0, none⟩))), (7, .val (.bool rc)), (26, .val (.bool false))] [(0, 25, .val (.bool true)), (1, 26, .val (.bool false))] [⟨g1_0, none, none, .u8, 32, b, b, 22⟩, ⟨g3_5, none, none, .u64, 20, Xb, Xb, 28⟩, ⟨g4_1, none, none, .u8, 32, c, c, 22⟩, ⟨g6_5, none, none, .u64, 20, Xc, Xc, 28⟩] rfl (by rfl) HH6 rfl rfl hLo rfl HS6 (slS 0 rfl rfl (slS 2 rfl rfl (slS 3 rfl rfl (slL 1 (d := 1) rfl (trivial))))) ?_ ?_
    · show ∀ i ∈ [0, 1], _
      refine steps_cons (st_run 0 _ rfl rfl hLo rfl rfl (fun _ _ _ _ => rfl) (fun b G w hb ho => exec_move (.inl rfl) (ev_off rfl (HS6.get 1 rfl)))) ?_
      refine steps_cons (st_run 1 _ rfl rfl hLo rfl rfl (fun _ _ _ _ => rfl) (fun b G w hb ho => exec_un rfl (ev_on hLo 0 rfl HS6.1 rfl (hb 0 (by rfl))) (by rfl))) ?_
      exact steps_nil
    clear hLo
    intro G a10 w10 hS hH
    have HS10 : Sl a10 55 [(3, .pointer (some ⟨g3_5, 0, none⟩)), (6, .pointer (some ⟨g6_5, 0, none⟩)), (7, .bool rc), (26, .bool false)] := hS
    have HH10 : Held w w10 [⟨g1_0, .u8, 32, b, 22⟩, ⟨g3_5, .u64, 20, Xb, 28⟩, ⟨g4_1, .u8, 32, c, 22⟩, ⟨g6_5, .u64, 20, Xc, 28⟩] := hH
    clear hS hH HS6 HH6
    refine then_ ?_
    refine wp_cond_false (HS10.get 3 rfl) ?_
    refine wp_skip ?_
    refine then_ ?_
    by_cases hn : Pb.neg = Pb
    · skip
      obtain rfl : rc = false := hrc.symm.trans (signs2 hb hc hbc hrb hPb hn)
      refine wp_seq ?_
      obtain ⟨N12, hN12, rN12⟩ : ∃ S, negP Xb = S ∧ PRep S (Pt.neg (Pb)) := ⟨_, rfl, rXb.neg⟩
      refine wp_seq ?_
      have hLo : LOk [(0, 35, .val (.agg (FR .u64 20 (Xb)))), (1, 36, .val (.agg (FR .u64 20 (N12)))), (2, 37, .val (.agg (FR .u64 20 (Xb)))), (3, 38, .val (.bool true))] := ⟨show ([0, 1, 2, 3] : List Nat).Nodup by decide, show ([35, 36, 37, 38] : List Nat).Nodup by decide⟩
      refine region_ (wE := w) (sz := 55) (n := 4) (B := [0, 1, 0, 7]) [0, 1, 2, 3] [(7, .val (.bool false)), (38, .val (.bool true))] [(0, 35, .val (.agg (FR .u64 20 (Xb)))), (1, 36, .val (.agg (FR .u64 20 (N12)))), (2, 37, .val (.agg (FR .u64 20 (Xb)))), (3, 38, .val (.bool true))] [⟨g1_0, none, none, .u8, 32, b, b, 22⟩, ⟨g3_5, none, none, .u64, 20, Xb, Xb, 28⟩, ⟨g4_1, none, none, .u8, 32, c, c, 22⟩, ⟨g6_5, none, none, .u64, 20, Xc, Xc, 28⟩] (by rfl) rfl tabcs_9 bitscs_9 (by kernel_rfl) (by kernel_rfl) HH10 rfl rfl hLo rfl HS10 (slS 2 rfl rfl (slL 3 (d := 3) rfl (trivial))) ?_ ?_
      · show ∀ i ∈ [0, 1, 2, 3], _
        refine steps_cons (st_row0 0 1 _ rfl rfl rfl rfl (fun _ _ _ _ => rfl) hLo rfl rfl rfl (by rfl) Tryd.underlying28 infoPt rfl (fun b G hb ho => ev_off rfl (HS10.get 0 rfl))) ?_
        refine steps_cons (st_call 1 _ #[.agg (FR .u64 20 (Xb))] rfl rfl rfl (fun _ _ _ _ => rfl) hLo rfl rfl Tryd.func20 rfl rfl (fun b G hb ho => args1 (ev_on hLo 0 rfl HS10.1 rfl (hb 0 (by rfl)))) (fun w hw => ptneg_as hN12 w rXb.1)) ?_
        refine steps_cons (st_row0 2 1 _ rfl rfl rfl rfl (fun _ _ _ _ => rfl) hLo rfl rfl rfl (by rfl) Tryd.underlying28 infoPt rfl (fun b G hb ho => ev_off rfl (HS10.get 0 rfl))) ?_
        refine steps_cons (st_call 3 _ #[.agg (FR .u64 20 (N12)), .agg (FR .u64 20 (Xb))] rfl rfl rfl (fun _ _ _ _ => rfl) hLo rfl rfl Tryd.func16 rfl rfl (fun b G hb ho => args2 (ev_on hLo 1 rfl HS10.1 rfl (hb 1 (by rfl))) (ev_on hLo 2 rfl HS10.1 rfl (hb 2 (by rfl)))) (fun w hw => is_as (is_same rN12 rXb hn) w rN12.1 rXb.1)) ?_
        exact steps_nil
      clear hLo
      intro G a11 w11 hS hH
      have HS11 : Sl a11 55 [(7, .bool false), (38, .bool true)] := hS
      have HH11 : Held w w11 [⟨g1_0, .u8, 32, b, 22⟩, ⟨g3_5, .u64, 20, Xb, 28⟩, ⟨g4_1, .u8, 32, c, 22⟩, ⟨g6_5, .u64, 20, Xc, 28⟩] := hH
      clear hS hH HS10 HH10
      refine then_ ?_
      refine wp_cond_true (HS11.get 1 rfl) ?_
      refine wp_seq ?_
      have hLo : LOk [(0, 39, .val (.bool false)), (1, 40, .val (.bool true)), (2, 2, .val (.bool true))] := ⟨show ([0, 1, 2] : List Nat).Nodup by decide, show ([39, 40, 2] : List Nat).Nodup by decide⟩
      refine plain_ (wE := w) (sz := 55) (n := 3) [0, 1, 3] [(2, .val (.bool true))] [(0, 39, .val (.bool false)), (1, 40, .val (.bool true)), (2, 2, .val (.bool true))] [⟨g1_0, none, none, .u8, 32, b, b, 22⟩, ⟨g3_5, none, none, .u64, 20, Xb, Xb, 28⟩, ⟨g4_1, none, none, .u8, 32, c, c, 22⟩, ⟨g6_5, none, none, .u64, 20, Xc, Xc, 28⟩] rfl (by rfl) HH11 rfl rfl hLo rfl HS11 (slL 2 (d := 2) rfl (trivial)) ?_ ?_
      · show ∀ i ∈ [0, 1, 2], _
        refine steps_cons (st_run 0 _ rfl rfl hLo rfl rfl (fun _ _ _ _ => rfl) (fun b G w hb ho => exec_move (.inl rfl) (ev_off rfl (HS11.get 0 rfl)))) ?_
        refine steps_cons (st_run 1 _ rfl rfl hLo rfl rfl (fun _ _ _ _ => rfl) (fun b G w hb ho => exec_un rfl (ev_on hLo 0 rfl HS11.1 rfl (hb 0 (by rfl))) (by rfl))) ?_
        refine steps_cons (st_run 2 _ rfl rfl hLo rfl rfl (fun _ _ _ _ => rfl) (fun b G w hb ho => exec_move (.inr rfl) (ev_on hLo 1 rfl HS11.1 rfl (hb 1 (by rfl))))) ?_
        exact steps_nil
      clear hLo
      intro G a12 w12 hS hH
      have HS12 : Sl a12 55 [(2, .bool true)] := hS
      have HH12 : Held w w12 [⟨g1_0, .u8, 32, b, 22⟩, ⟨g3_5, .u64, 20, Xb, 28⟩, ⟨g4_1, .u8, 32, c, 22⟩, ⟨g6_5, .u64, 20, Xc, 28⟩] := hH
      clear hS hH HS11 HH11
      refine then_ ?_
      refine wp_ret ?_
      repeat refine then_ret ?_
      exact b_tmp rfl HS12.2.1 (HS12.get 0 rfl) ⟨rfl, HH12.1⟩
    · skip
      obtain ⟨okc, hPc⟩ := signs3 hb hc hbc hrb hPb hn
      obtain rfl : rc = true := hrc.symm.trans okc
      have rXc : PRep Xc Pb.neg := by rw [← hXc, ← hPc]; exact dec_prep hc okc
      refine wp_seq ?_
      obtain ⟨N13, hN13, rN13⟩ : ∃ S, negP Xb = S ∧ PRep S (Pt.neg (Pb)) := ⟨_, rfl, rXb.neg⟩
      refine wp_seq ?_
      have hLo : LOk [(0, 35, .val (.agg (FR .u64 20 (Xb)))), (1, 36, .val (.agg (FR .u64 20 (N13)))), (2, 37, .val (.agg (FR .u64 20 (Xb)))), (3, 38, .val (.bool false))] := ⟨show ([0, 1, 2, 3] : List Nat).Nodup by decide, show ([35, 36, 37, 38] : List Nat).Nodup by decide⟩
      refine region_ (wE := w) (sz := 55) (n := 4) (B := [0, 1, 0, 7]) [0, 1, 2, 3] [(3, .val (.pointer (some ⟨g3_5, 0, none⟩))), (6, .val (.pointer (some ⟨g6_5, 0, none⟩))), (7, .val (.bool true)), (38, .val (.bool false))] [(0, 35, .val (.agg (FR .u64 20 (Xb)))), (1, 36, .val (.agg (FR .u64 20 (N13)))), (2, 37, .val (.agg (FR .u64 20 (Xb)))), (3, 38, .val (.bool false))] [⟨g1_0, none, none, .u8, 32, b, b, 22⟩, ⟨g3_5, none, none, .u64, 20, Xb, Xb, 28⟩, ⟨g4_1, none, none, .u8, 32, c, c, 22⟩, ⟨g6_5, none, none, .u64, 20, Xc, Xc, 28⟩] (by rfl) rfl tabcs_9 bitscs_9 (by kernel_rfl) (by kernel_rfl) HH10 rfl rfl hLo rfl HS10 (slS 0 rfl rfl (slS 1 rfl rfl (slS 2 rfl rfl (slL 3 (d := 3) rfl (trivial))))) ?_ ?_
      · show ∀ i ∈ [0, 1, 2, 3], _
        refine steps_cons (st_row0 0 1 _ rfl rfl rfl rfl (fun _ _ _ _ => rfl) hLo rfl rfl rfl (by rfl) Tryd.underlying28 infoPt rfl (fun b G hb ho => ev_off rfl (HS10.get 0 rfl))) ?_
        refine steps_cons (st_call 1 _ #[.agg (FR .u64 20 (Xb))] rfl rfl rfl (fun _ _ _ _ => rfl) hLo rfl rfl Tryd.func20 rfl rfl (fun b G hb ho => args1 (ev_on hLo 0 rfl HS10.1 rfl (hb 0 (by rfl)))) (fun w hw => ptneg_as hN13 w rXb.1)) ?_
        refine steps_cons (st_row0 2 1 _ rfl rfl rfl rfl (fun _ _ _ _ => rfl) hLo rfl rfl rfl (by rfl) Tryd.underlying28 infoPt rfl (fun b G hb ho => ev_off rfl (HS10.get 0 rfl))) ?_
        refine steps_cons (st_call 3 _ #[.agg (FR .u64 20 (N13)), .agg (FR .u64 20 (Xb))] rfl rfl rfl (fun _ _ _ _ => rfl) hLo rfl rfl Tryd.func16 rfl rfl (fun b G hb ho => args2 (ev_on hLo 1 rfl HS10.1 rfl (hb 1 (by rfl))) (ev_on hLo 2 rfl HS10.1 rfl (hb 2 (by rfl)))) (fun w hw => is_as (is_eq rN13 rXb ⟨fun e => absurd e hn, fun e => absurd e (by decide)⟩) w rN13.1 rXb.1)) ?_
        exact steps_nil
      clear hLo
      intro G a13 w13 hS hH
      have HS13 : Sl a13 55 [(3, .pointer (some ⟨g3_5, 0, none⟩)), (6, .pointer (some ⟨g6_5, 0, none⟩)), (7, .bool true), (38, .bool false)] := hS
      have HH13 : Held w w13 [⟨g1_0, .u8, 32, b, 22⟩, ⟨g3_5, .u64, 20, Xb, 28⟩, ⟨g4_1, .u8, 32, c, 22⟩, ⟨g6_5, .u64, 20, Xc, 28⟩] := hH
      clear hS hH HS10 HH10
      refine then_ ?_
      refine wp_cond_false (HS13.get 3 rfl) ?_
      refine wp_skip ?_
      refine then_ ?_
      obtain ⟨S14, hS14, rS14⟩ : ∃ S, addP Xb Xc = S ∧ PRep S (Pt.add fld (Pb) (Pb.neg)) := ⟨_, rfl, rXb.add rXc⟩
      obtain ⟨Z15, hZ15, rZ15⟩ : ∃ S, zeroP = S ∧ PRep S (Pt.zero dF) := ⟨_, rfl, PRep.zero⟩
      refine wp_seq ?_
      have hLo : LOk [(0, 41, .val (.bool true)), (1, 42, .val (.bool true)), (2, 43, .val (.agg (FR .u64 20 (Xc)))), (3, 44, .val (.agg (FR .u64 20 (Xb)))), (4, 45, .val (.agg (FR .u64 20 (N13)))), (5, 46, .val (.bool true)), (6, 47, .val (.bool true)), (7, 48, .val (.bool true)), (8, 49, .val (.agg (FR .u64 20 (Xb)))), (9, 50, .val (.agg (FR .u64 20 (Xc)))), (10, 51, .val (.agg (FR .u64 20 (S14)))), (11, 52, .val (.agg (FR .u64 20 (Z15)))), (12, 53, .val (.bool true)), (13, 54, .val (.bool true)), (14, 2, .val (.bool true))] := ⟨show ([0, 1, 2, 3, 4, 5, 6, 7, 8, 9, 10, 11, 12, 13, 14] : List Nat).Nodup by decide, show ([41, 42, 43, 44, 45, 46, 47, 48, 49, 50, 51, 52, 53, 54, 2] : List Nat).Nodup by decide⟩
      refine region_ (wE := w) (sz := 55) (n := 15) (B := [0, 1, 3, 3, 11, 31, 63, 127, 255, 255, 1023, 2047, 4095, 8191, 16383]) [0, 1, 2, 3, 4, 5, 6, 7, 8, 9, 10, 11, 12, 13, 14] [(2, .val (.bool true))] [(0, 41, .val (.bool true)), (1, 42, .val (.bool true)), (2, 43, .val (.agg (FR .u64 20 (Xc)))), (3, 44, .val (.agg (FR .u64 20 (Xb)))), (4, 45, .val (.agg (FR .u64 20 (N13)))), (5, 46, .val (.bool true)), (6, 47, .val (.bool true)), (7, 48, .val (.bool true)), (8, 49, .val (.agg (FR .u64 20 (Xb)))), (9, 50, .val (.agg (FR .u64 20 (Xc)))), (10, 51, .val (.agg (FR .u64 20 (S14)))), (11, 52, .val (.agg (FR .u64 20 (Z15)))), (12, 53, .val (.bool true)), (13, 54, .val (.bool true)), (14, 2, .val (.bool true))] [⟨g1_0, none, none, .u8, 32, b, b, 22⟩, ⟨g3_5, none, none, .u64, 20, Xb, Xb, 28⟩, ⟨g4_1, none, none, .u8, 32, c, c, 22⟩, ⟨g6_5, none, none, .u64, 20, Xc, Xc, 28⟩] (by rfl) rfl tabcs_11 bitscs_11 (by kernel_rfl) (by kernel_rfl) HH13 rfl rfl hLo rfl HS13 (slL 14 (d := 14) rfl (trivial)) ?_ ?_
      · show ∀ i ∈ [0, 1, 2, 3, 4, 5, 6, 7, 8, 9, 10, 11, 12, 13, 14], _
        refine steps_cons (st_run 0 _ rfl rfl hLo rfl rfl (fun _ _ _ _ => rfl) (fun b G w hb ho => exec_move (.inl rfl) (ev_off rfl (HS13.get 2 rfl)))) ?_
        refine steps_cons (st_run 1 _ rfl rfl hLo rfl rfl (fun _ _ _ _ => rfl) (fun b G w hb ho => exec_move (.inl rfl) (ev_on hLo 0 rfl HS13.1 rfl (hb 0 (by rfl))))) ?_
        refine steps_cons (st_row0 2 3 _ rfl rfl rfl rfl (fun b G hb ho => wanted_is rfl rfl rfl HS13.1 rfl (ev_on hLo 1 rfl HS13.1 rfl (hb 1 (by rfl))) rfl) hLo rfl rfl rfl (by rfl) Tryd.underlying28 infoPt rfl (fun b G hb ho => ev_off rfl (HS13.get 1 rfl))) ?_
        refine steps_cons (st_row0 3 1 _ rfl rfl rfl rfl (fun b G hb ho => wanted_is rfl rfl rfl HS13.1 rfl (ev_on hLo 1 rfl HS13.1 rfl (hb 1 (by rfl))) rfl) hLo rfl rfl rfl (by rfl) Tryd.underlying28 infoPt rfl (fun b G hb ho => ev_off rfl (HS13.get 0 rfl))) ?_
        refine steps_cons (st_call 4 _ #[.agg (FR .u64 20 (Xb))] rfl rfl rfl (fun b G hb ho => wanted_is rfl rfl rfl HS13.1 rfl (ev_on hLo 1 rfl HS13.1 rfl (hb 1 (by rfl))) rfl) hLo rfl rfl Tryd.func20 rfl rfl (fun b G hb ho => args1 (ev_on hLo 3 rfl HS13.1 rfl (hb 3 (by rfl)))) (fun w hw => ptneg_as hN13 w rXb.1)) ?_
        refine steps_cons (st_call 5 _ #[.agg (FR .u64 20 (Xc)), .agg (FR .u64 20 (N13))] rfl rfl rfl (fun b G hb ho => wanted_is rfl rfl rfl HS13.1 rfl (ev_on hLo 1 rfl HS13.1 rfl (hb 1 (by rfl))) rfl) hLo rfl rfl Tryd.func16 rfl rfl (fun b G hb ho => args2 (ev_on hLo 2 rfl HS13.1 rfl (hb 2 (by rfl))) (ev_on hLo 4 rfl HS13.1 rfl (hb 4 (by rfl)))) (fun w hw => is_as (is_same rXc rN13 rfl) w rXc.1 rN13.1)) ?_
        refine steps_cons (st_run 6 _ rfl rfl hLo rfl rfl (fun _ _ _ _ => rfl) (fun b G w hb ho => exec_pick rfl (ev_on hLo 1 rfl HS13.1 rfl (hb 1 (by rfl))) (ev_on hLo 5 rfl HS13.1 rfl (hb 5 (by rfl))))) ?_
        refine steps_cons (st_run 7 _ rfl rfl hLo rfl rfl (fun _ _ _ _ => rfl) (fun b G w hb ho => exec_move (.inl rfl) (ev_on hLo 6 rfl HS13.1 rfl (hb 6 (by rfl))))) ?_
        refine steps_cons (st_row0 8 1 _ rfl rfl rfl rfl (fun b G hb ho => wanted_is rfl rfl rfl HS13.1 rfl (ev_on hLo 7 rfl HS13.1 rfl (hb 7 (by rfl))) rfl) hLo rfl rfl rfl (by rfl) Tryd.underlying28 infoPt rfl (fun b G hb ho => ev_off rfl (HS13.get 0 rfl))) ?_
        refine steps_cons (st_row0 9 3 _ rfl rfl rfl rfl (fun b G hb ho => wanted_is rfl rfl rfl HS13.1 rfl (ev_on hLo 7 rfl HS13.1 rfl (hb 7 (by rfl))) rfl) hLo rfl rfl rfl (by rfl) Tryd.underlying28 infoPt rfl (fun b G hb ho => ev_off rfl (HS13.get 1 rfl))) ?_
        refine steps_cons (st_call 10 _ #[.agg (FR .u64 20 (Xb)), .agg (FR .u64 20 (Xc))] rfl rfl rfl (fun b G hb ho => wanted_is rfl rfl rfl HS13.1 rfl (ev_on hLo 7 rfl HS13.1 rfl (hb 7 (by rfl))) rfl) hLo rfl rfl Tryd.func18 rfl rfl (fun b G hb ho => args2 (ev_on hLo 8 rfl HS13.1 rfl (hb 8 (by rfl))) (ev_on hLo 9 rfl HS13.1 rfl (hb 9 (by rfl)))) (fun w hw => add_as hS14 w (hT.to hw) rXb.1 rXc.1)) ?_
        refine steps_cons (st_call 11 _ #[] rfl rfl rfl (fun b G hb ho => wanted_is rfl rfl rfl HS13.1 rfl (ev_on hLo 7 rfl HS13.1 rfl (hb 7 (by rfl))) rfl) hLo rfl rfl Tryd.func10 rfl rfl (fun b G hb ho => args0 ) (fun w hw => zero_as hZ15 w)) ?_
        refine steps_cons (st_call 12 _ #[.agg (FR .u64 20 (S14)), .agg (FR .u64 20 (Z15))] rfl rfl rfl (fun b G hb ho => wanted_is rfl rfl rfl HS13.1 rfl (ev_on hLo 7 rfl HS13.1 rfl (hb 7 (by rfl))) rfl) hLo rfl rfl Tryd.func16 rfl rfl (fun b G hb ho => args2 (ev_on hLo 10 rfl HS13.1 rfl (hb 10 (by rfl))) (ev_on hLo 11 rfl HS13.1 rfl (hb 11 (by rfl)))) (fun w hw => is_as (is_same rS14 rZ15 (Pt.add_neg fld _)) w rS14.1 rZ15.1)) ?_
        refine steps_cons (st_run 13 _ rfl rfl hLo rfl rfl (fun _ _ _ _ => rfl) (fun b G w hb ho => exec_pick rfl (ev_on hLo 7 rfl HS13.1 rfl (hb 7 (by rfl))) (ev_on hLo 12 rfl HS13.1 rfl (hb 12 (by rfl))))) ?_
        refine steps_cons (st_run 14 _ rfl rfl hLo rfl rfl (fun _ _ _ _ => rfl) (fun b G w hb ho => exec_move (.inr rfl) (ev_on hLo 13 rfl HS13.1 rfl (hb 13 (by rfl))))) ?_
        exact steps_nil
      clear hLo
      intro G a14 w14 hS hH
      have HS14 : Sl a14 55 [(2, .bool true)] := hS
      have HH14 : Held w w14 [⟨g1_0, .u8, 32, b, 22⟩, ⟨g3_5, .u64, 20, Xb, 28⟩, ⟨g4_1, .u8, 32, c, 22⟩, ⟨g6_5, .u64, 20, Xc, 28⟩] := hH
      clear hS hH HS13 HH13
      refine then_ ?_
      refine wp_ret ?_
      repeat refine then_ret ?_
      exact b_tmp rfl HS14.2.1 (HS14.get 0 rfl) ⟨rfl, HH14.1⟩
theorem CurveTimes_walk (a : Nat → Int) (n m : Int) (w : World) (hT : TabD w) (w0 : ∀ i, i < 32 → (Lit.int .u8 (a i)).wf = true) (w1 : (Lit.int .u8 n).wf = true) (w2 : (Lit.int .u8 m).wf = true) : Calls Tryd.prog 8 #[.agg (FR .u8 32 a), .int .u8 n, .int .u8 m] w fun e w' => e = .returned (.bool true) ∧ Below w.heap.size w w' := by
  have ha := By_wf w0
  have h_n := u8b w1
  have h_m := u8b w2
  obtain ⟨Xa, hXa⟩ : ∃ X, decP a = X := ⟨_, rfl⟩
  obtain ⟨Ya, hYa⟩ : ∃ X, decRP a = X := ⟨_, rfl⟩
  obtain ⟨ra, hra⟩ : ∃ r, decOk a = r := ⟨_, rfl⟩
  have hrra := (decOk_eq ha).symm.trans hra
  obtain ⟨s, hs⟩ : ∃ s, n + m = s := ⟨_, rfl⟩
  obtain ⟨u, hu⟩ : ∃ u, s % 256 = u := ⟨_, rfl⟩
  obtain ⟨v, hv⟩ : ∃ v, s / 256 = v := ⟨_, rfl⟩
  have h_u : 0 ≤ u ∧ u < 256 := by omega
  have h_v : 0 ≤ v ∧ v < 256 := by omega
  refine enter_ 65 Tryd.func8 rfl rfl (fun a0 hS => ?_)
  have HS0 : Sl a0 65 [(0, .agg (FR .u8 32 a)), (1, .int .u8 n), (2, .int .u8 m)] := hS
  have HH0 : Held w w [] := Held.first w
  clear hS
  refine wp_seq ?_
  have hLo : LOk [(0, 3, .ptr 0 0), (1, 6, .val (.bool false))] := ⟨show ([0, 1] : List Nat).Nodup by decide, show ([3, 6] : List Nat).Nodup by decide⟩
  refine plain_ (wE := w) (sz := 65) (n := 2) [0, 1] [(1, .val (.int .u8 n)), (2, .val (.int .u8 m)), (3, .ptr 0 0)] [(0, 3, .ptr 0 0), (1, 6, .val (.bool false))] [⟨0, some 0, none, .u8, 32, a, a, 22⟩] rfl (by rfl) HH0 rfl rfl hLo rfl HS0 (slS 1 rfl rfl (slS 2 rfl rfl (slL 0 (d := 0) rfl (trivial)))) ?_ ?_
  · show ∀ i ∈ [0, 1], _
    refine steps_cons (st_alloc 0 0 .u8 32 22 none _ _ rfl rfl (fun _ _ _ _ => rfl) rfl hLo rfl rfl rfl rfl (by rfl) (fun b G w hb ho => exec_box rfl (ev_off rfl (HS0.get 0 rfl)) (by kernel_rfl))) ?_
    refine steps_cons (st_run 1 _ rfl rfl hLo rfl rfl (fun _ _ _ _ => rfl) (fun b G w hb ho => exec_move (.inr rfl) (rfl))) ?_
    exact steps_nil
  clear hLo
  intro G a1 w1 hS hH
  have HS1 : Sl a1 65 [(1, .int .u8 n), (2, .int .u8 m), (3, .pointer (some ⟨(G 0), 0, none⟩))] := hS
  have HH1 : Held w w1 [⟨(G 0), .u8, 32, a, 22⟩] := hH
  clear hS hH HS0 HH0
  generalize G 0 = g1_0 at HS1 HH1
  refine then_ ?_
  refine wp_seq ?_
  refine wp_seq ?_
  have hLo : LOk [(0, 10, .val (.bool true)), (1, 11, .val (.bool false))] := ⟨show ([0, 1] : List Nat).Nodup by decide, show ([10, 11] : List Nat).Nodup by decide⟩
  refine plain_ (wE := w) (sz := 65) (n := 2) [0, 1] [(1, .val (.int .u8 n)), (2, .val (.int .u8 m)), (3, .val (.pointer (some ⟨g1_0, 0, none⟩))), (11, .val (.bool false))] [(0, 10, .val (.bool true)), (1, 11, .val (.bool false))] [⟨g1_0, none, none, .u8, 32, a, a, 22⟩] rfl (by rfl) HH1 rfl rfl hLo rfl HS1 (slS 0 rfl rfl (slS 1 rfl rfl (slS 2 rfl rfl (slL 1 (d := 1) rfl (trivial))))) ?_ ?_
  · show ∀ i ∈ [0, 1], _
    refine steps_cons (st_call 0 _ #[] rfl rfl rfl (fun _ _ _ _ => rfl) hLo rfl rfl Tryd.func17 rfl rfl (fun b G hb ho => args0 ) (fun w hw => alive_calls w (hT.to hw))) ?_
    refine steps_cons (st_run 1 _ rfl rfl hLo rfl rfl (fun _ _ _ _ => rfl) (fun b G w hb ho => exec_un rfl (ev_on hLo 0 rfl HS1.1 rfl (hb 0 (by rfl))) (by rfl))) ?_
    exact steps_nil
  clear hLo
  intro G a2 w2 hS hH
  have HS2 : Sl a2 65 [(1, .int .u8 n), (2, .int .u8 m), (3, .pointer (some ⟨g1_0, 0, none⟩)), (11, .bool false)] := hS
  have HH2 : Held w w2 [⟨g1_0, .u8, 32, a, 22⟩] := hH
  clear hS hH HS1 HH1
  refine then_ ?_
  refine wp_cond_false (HS2.get 3 rfl) ?_
  refine wp_skip ?_
  refine then_ ?_
  refine wp_seq ?_
  have hLo : LOk [(0, 13, .val (.agg (FR .u8 32 (a)))), (1, 14, .val (.tuple #[.agg (FR .u64 20 (Xa)), .bool ra])), (2, 12, .val (.tuple #[.agg (FR .u64 20 (Xa)), .bool ra])), (3, 15, .val (.agg (FR .u64 20 (Xa)))), (4, 16, .val (.bool ra)), (5, 7, .ptr 5 0), (7, 8, .val (.bool ra))] := ⟨show ([0, 1, 2, 3, 4, 5, 7] : List Nat).Nodup by decide, show ([13, 14, 12, 15, 16, 7, 8] : List Nat).Nodup by decide⟩
  refine plain_ (wE := w) (sz := 65) (n := 8) [0, 1, 3, 7, 15, 31, 63, 127] [(1, .val (.int .u8 n)), (2, .val (.int .u8 m)), (7, .ptr 5 0), (8, .val (.bool ra))] [(0, 13, .val (.agg (FR .u8 32 (a)))), (1, 14, .val (.tuple #[.agg (FR .u64 20 (Xa)), .bool ra])), (2, 12, .val (.tuple #[.agg (FR .u64 20 (Xa)), .bool ra])), (3, 15, .val (.agg (FR .u64 20 (Xa)))), (4, 16, .val (.bool ra)), (5, 7, .ptr 5 0), (7, 8, .val (.bool ra))] [⟨g1_0, none, none, .u8, 32, a, a, 22⟩, ⟨0, some 5, some 6, .u64, 20, fun _ => 0, Xa, 28⟩] rfl (by rfl) HH2 rfl rfl hLo rfl HS2 (slS 0 rfl rfl (slS 1 rfl rfl (slL 5 (d := 5) rfl (slL 6 (d := 7) rfl (trivial))))) ?_ ?_
  · show ∀ i ∈ [0, 1, 2, 3, 4, 5, 6, 7], _
    refine steps_cons (st_row0 0 0 _ rfl rfl rfl rfl (fun _ _ _ _ => rfl) hLo rfl rfl rfl (by rfl) Tryd.underlying22 infoB3 rfl (fun b G hb ho => ev_off rfl (HS2.get 2 rfl))) ?_
    refine steps_cons (st_call 1 _ #[.agg (FR .u8 32 (a))] rfl rfl rfl (fun _ _ _ _ => rfl) hLo rfl rfl Tryd.func12 rfl rfl (fun b G hb ho => args1 (ev_on hLo 0 rfl HS2.1 rfl (hb 0 (by rfl)))) (fun w hw => dec_as hXa hra w (hT.to hw) ha)) ?_
    refine steps_cons (st_run 2 _ rfl rfl hLo rfl rfl (fun _ _ _ _ => rfl) (fun b G w hb ho => exec_move (.inl rfl) (ev_on hLo 1 rfl HS2.1 rfl (hb 1 (by rfl))))) ?_
    refine steps_cons (st_run 3 _ rfl rfl hLo rfl rfl (fun _ _ _ _ => rfl) (fun b G w hb ho => exec_extract rfl (ev_on hLo 2 rfl HS2.1 rfl (hb 2 (by rfl))) (by rfl))) ?_
    refine steps_cons (st_run 4 _ rfl rfl hLo rfl rfl (fun _ _ _ _ => rfl) (fun b G w hb ho => exec_extract rfl (ev_on hLo 2 rfl HS2.1 rfl (hb 2 (by rfl))) (by rfl))) ?_
    refine steps_cons (st_alloc 5 1 .u64 20 28 (some 6) _ _ rfl rfl (fun _ _ _ _ => rfl) rfl hLo rfl rfl rfl rfl (by rfl) (fun b G w _ _ => by kernel_rfl)) ?_
    refine steps_cons (st_store 1 _ rfl rfl rfl rfl rfl (fun _ _ _ _ => rfl) rfl rfl rfl (by rfl) infoPt (fun b G hb ho => ev_on hLo 5 rfl HS2.1 rfl (hb 5 (by rfl))) (fun b G hb ho => ev_on hLo 3 rfl HS2.1 rfl (hb 3 (by rfl)))) ?_
    refine steps_cons (st_run 6 _ rfl rfl hLo rfl rfl (fun _ _ _ _ => rfl) (fun b G w hb ho => exec_move (.inr rfl) (ev_on hLo 4 rfl HS2.1 rfl (hb 4 (by rfl))))) ?_
    exact steps_nil
  clear hLo
  intro G a3 w3 hS hH
  have HS3 : Sl a3 65 [(1, .int .u8 n), (2, .int .u8 m), (7, .pointer (some ⟨(G 5), 0, none⟩)), (8, .bool ra)] := hS
  have HH3 : Held w w3 [⟨g1_0, .u8, 32, a, 22⟩, ⟨(G 5), .u64, 20, Xa, 28⟩] := hH
  clear hS hH HS2 HH2
  generalize G 5 = g3_5 at HS3 HH3
  refine then_ ?_
  cases ra
  · skip
    refine wp_seq ?_
    refine wp_seq ?_
    have hLo : LOk [(0, 17, .val (.bool false)), (1, 18, .val (.bool true))] := ⟨show ([0, 1] : List Nat).Nodup by decide, show ([17, 18] : List Nat).Nodup by decide⟩
    refine plain_ (wE := w) (sz := 65) (n := 2) [0, 1] [(18, .val (.bool true))] [(0, 17, .val (.bool false)), (1, 18, .val (.bool true))] [⟨g1_0, none, none, .u8, 32, a, a, 22⟩, ⟨g3_5, none, none, .u64, 20, Xa, Xa, 28⟩] rfl (by rfl) HH3 rfl rfl hLo rfl HS3 (slL 1 (d := 1) rfl (trivial)) ?_ ?_
    · show ∀ i ∈ [0, 1], _
      refine steps_cons (st_run 0 _ rfl rfl hLo rfl rfl (fun _ _ _ _ => rfl) (fun b G w hb ho => exec_move (.inl rfl) (ev_off rfl (HS3.get 3 rfl)))) ?_
      refine steps_cons (st_run 1 _ rfl rfl hLo rfl rfl (fun _ _ _ _ => rfl) (fun b G w hb ho => exec_un rfl (ev_on hLo 0 rfl HS3.1 rfl (hb 0 (by rfl))) (by rfl))) ?_
      exact steps_nil
    clear hLo
    intro G a4 w4 hS hH
    have HS4 : Sl a4 65 [(18, .bool true)] := hS
    have HH4 : Held w w4 [⟨g1_0, .u8, 32, a, 22⟩, ⟨g3_5, .u64, 20, Xa, 28⟩] := hH
    clear hS hH HS3 HH3
    refine then_ ?_
    refine wp_cond_true (HS4.get 0 rfl) ?_
    refine wp_seq ?_
    have hLo : LOk [(0, 6, .val (.bool true))] := ⟨show ([0] : List Nat).Nodup by decide, show ([6] : List Nat).Nodup by decide⟩
    refine plain_ (wE := w) (sz := 65) (n := 1) [0] [(6, .val (.bool true))] [(0, 6, .val (.bool true))] [⟨g1_0, none, none, .u8, 32, a, a, 22⟩, ⟨g3_5, none, none, .u64, 20, Xa, Xa, 28⟩] rfl (by rfl) HH4 rfl rfl hLo rfl HS4 (slL 0 (d := 0) rfl (trivial)) ?_ ?_
    · show ∀ i ∈ [0], _
      refine steps_cons (st_run 0 _ rfl rfl hLo rfl rfl (fun _ _ _ _ => rfl) (fun b G w hb ho => exec_move (.inr rfl) (rfl))) ?_
      exact steps_nil
    clear hLo
    intro G a5 w5 hS hH
    have HS5 : Sl a5 65 [(6, .bool true)] := hS
    have HH5 : Held w w5 [⟨g1_0, .u8, 32, a, 22⟩, ⟨g3_5, .u64, 20, Xa, 28⟩] := hH
    clear hS hH HS4 HH4
    refine then_ ?_
    refine wp_ret ?_
    repeat refine then_ret ?_
    exact b_tmp rfl HS5.2.1 (HS5.get 0 rfl) ⟨rfl, HH5.1⟩
  · skip
    obtain ⟨Pa, hPa⟩ : ∃ P, decPt a ha hra = P := ⟨_, rfl⟩
    have rXa : PRep Xa Pa := by rw [← hXa, ← hPa]; exact dec_prep ha hra
    have rYa : RRep Ya Pa := by rw [← hYa, ← hPa]; exact dec_rrep ha hra
    refine wp_seq ?_
    refine wp_seq ?_
    have hLo : LOk [(0, 17, .val (.bool true)), (1, 18, .val (.bool false))] := ⟨show ([0, 1] : List Nat).Nodup by decide, show ([17, 18] : List Nat).Nodup by decide⟩
    refine plain_ (wE := w) (sz := 65) (n := 2) [0, 1] [(1, .val (.int .u8 n)), (2, .val (.int .u8 m)), (7, .val (.pointer (some ⟨g3_5, 0, none⟩))), (18, .val (.bool false))] [(0, 17, .val (.bool true)), (1, 18, .val (.bool false))] [⟨g1_0, none, none, .u8, 32, a, a, 22⟩, ⟨g3_5, none, none, .u64, 20, Xa, Xa, 28⟩] rfl (by rfl) HH3 rfl rfl hLo rfl HS3 (slS 0 rfl rfl (slS 1 rfl rfl (slS 2 rfl rfl (slL 1 (d := 1) rfl (trivial))))) ?_ ?_
    · show ∀ i ∈ [0, 1], _
      refine steps_cons (st_run 0 _ rfl rfl hLo rfl rfl (fun _ _ _ _ => rfl) (fun b G w hb ho => exec_move (.inl rfl) (ev_off rfl (HS3.get 3 rfl)))) ?_
      refine steps_cons (st_run 1 _ rfl rfl hLo rfl rfl (fun _ _ _ _ => rfl) (fun b G w hb ho => exec_un rfl (ev_on hLo 0 rfl HS3.1 rfl (hb 0 (by rfl))) (by rfl))) ?_
      exact steps_nil
    clear hLo
    intro G a6 w6 hS hH
    have HS6 : Sl a6 65 [(1, .int .u8 n), (2, .int .u8 m), (7, .pointer (some ⟨g3_5, 0, none⟩)), (18, .bool false)] := hS
    have HH6 : Held w w6 [⟨g1_0, .u8, 32, a, 22⟩, ⟨g3_5, .u64, 20, Xa, 28⟩] := hH
    clear hS hH HS3 HH3
    refine then_ ?_
    refine wp_cond_false (HS6.get 3 rfl) ?_
    refine wp_skip ?_
    refine then_ ?_
    refine wp_seq ?_
    have hLo : LOk [(0, 19, .val (.int .u8 n)), (1, 20, .val (.int .u64 n)), (2, 21, .val (.int .u8 m)), (3, 22, .val (.int .u64 m)), (4, 23, .val (.int .u64 s)), (5, 9, .val (.int .u64 s))] := ⟨show ([0, 1, 2, 3, 4, 5] : List Nat).Nodup by decide, show ([19, 20, 21, 22, 23, 9] : List Nat).Nodup by decide⟩
    refine plain_ (wE := w) (sz := 65) (n := 6) [0, 1, 3, 7, 15, 31] [(1, .val (.int .u8 n)), (2, .val (.int .u8 m)), (7, .val (.pointer (some ⟨g3_5, 0, none⟩))), (9, .val (.int .u64 s))] [(0, 19, .val (.int .u8 n)), (1, 20, .val (.int .u64 n)), (2, 21, .val (.int .u8 m)), (3, 22, .val (.int .u64 m)), (4, 23, .val (.int .u64 s)), (5, 9, .val (.int .u64 s))] [⟨g1_0, none, none, .u8, 32, a, a, 22⟩, ⟨g3_5, none, none, .u64, 20, Xa, Xa, 28⟩] rfl (by rfl) HH6 rfl rfl hLo rfl HS6 (slS 0 rfl rfl (slS 1 rfl rfl (slS 2 rfl rfl (slL 5 (d := 5) rfl (trivial))))) ?_ ?_
    · show ∀ i ∈ [0, 1, 2, 3, 4, 5], _
      refine steps_cons (st_run 0 _ rfl rfl hLo rfl rfl (fun _ _ _ _ => rfl) (fun b G w hb ho => exec_move (.inl rfl) (ev_off rfl (HS6.get 0 rfl)))) ?_
      refine steps_cons (st_run 1 _ rfl rfl hLo rfl rfl (fun _ _ _ _ => rfl) (fun b G w hb ho => exec_convert rfl (ev_on hLo 0 rfl HS6.1 rfl (hb 0 (by rfl))) (toU_run h_n _))) ?_
      refine steps_cons (st_run 2 _ rfl rfl hLo rfl rfl (fun _ _ _ _ => rfl) (fun b G w hb ho => exec_move (.inl rfl) (ev_off rfl (HS6.get 1 rfl)))) ?_
      refine steps_cons (st_run 3 _ rfl rfl hLo rfl rfl (fun _ _ _ _ => rfl) (fun b G w hb ho => exec_convert rfl (ev_on hLo 2 rfl HS6.1 rfl (hb 2 (by rfl))) (toU_run h_m _))) ?_
      refine steps_cons (st_run 4 _ rfl rfl hLo rfl rfl (fun _ _ _ _ => rfl) (fun b G w hb ho => exec_bin rfl (ev_on hLo 1 rfl HS6.1 rfl (hb 1 (by rfl))) (ev_on hLo 3 rfl HS6.1 rfl (hb 3 (by rfl))) (addU_run hs (by omega) _ _ _))) ?_
      refine steps_cons (st_run 5 _ rfl rfl hLo rfl rfl (fun _ _ _ _ => rfl) (fun b G w hb ho => exec_move (.inr rfl) (ev_on hLo 4 rfl HS6.1 rfl (hb 4 (by rfl))))) ?_
      exact steps_nil
    clear hLo
    intro G a7 w7 hS hH
    have HS7 : Sl a7 65 [(1, .int .u8 n), (2, .int .u8 m), (7, .pointer (some ⟨g3_5, 0, none⟩)), (9, .int .u64 s)] := hS
    have HH7 : Held w w7 [⟨g1_0, .u8, 32, a, 22⟩, ⟨g3_5, .u64, 20, Xa, 28⟩] := hH
    clear hS hH HS6 HH6
    refine then_ ?_
    obtain ⟨M16, hM16, rM16⟩ : ∃ S, mulP Xa (smL n) = S ∧ PRep S (Pt.mul fld (Pa) (NZ (smL n))) := ⟨_, rfl, rXa.mul (smE_By (n := n) h_n)⟩
    obtain ⟨M17, hM17, rM17⟩ : ∃ S, mulP Xa (smL m) = S ∧ PRep S (Pt.mul fld (Pa) (NZ (smL m))) := ⟨_, rfl, rXa.mul (smE_By (n := m) h_m)⟩
    obtain ⟨S18, hS18, rS18⟩ : ∃ S, addP M16 M17 = S ∧ PRep S (Pt.add fld (Pt.mul fld (Pa) (NZ (smL n))) (Pt.mul fld (Pa) (NZ (smL m)))) := ⟨_, rfl, rM16.add rM17⟩
    obtain ⟨M19, hM19, rM19⟩ : ∃ S, mulP Xa (sm2 u v) = S ∧ PRep S (Pt.mul fld (Pa) (NZ (sm2 u v))) := ⟨_, rfl, rXa.mul (sm2_By h_u h_v)⟩
    obtain ⟨M20, hM20, rM20⟩ : ∃ S, mulP Xa (fun _ => 0) = S ∧ PRep S (Pt.mul fld (Pa) (NZ (fun _ => 0))) := ⟨_, rfl, rXa.mul zeroE_By⟩
    obtain ⟨Z21, hZ21, rZ21⟩ : ∃ S, zeroP = S ∧ PRep S (Pt.zero dF) := ⟨_, rfl, PRep.zero⟩
    obtain ⟨M22, hM22, rM22⟩ : ∃ S, mulP Xa (smL 1) = S ∧ PRep S (Pt.mul fld (Pa) (NZ (smL 1))) := ⟨_, rfl, rXa.mul (smE_By (n := 1) (by decide))⟩
    obtain ⟨M23, hM23, rM23⟩ : ∃ S, mulP Xa (smL 2) = S ∧ PRep S (Pt.mul fld (Pa) (NZ (smL 2))) := ⟨_, rfl, rXa.mul (smE_By (n := 2) (by decide))⟩
    obtain ⟨S24, hS24, rS24⟩ : ∃ S, addP Xa Xa = S ∧ PRep S (Pt.add fld (Pa) (Pa)) := ⟨_, rfl, rXa.add rXa⟩
    refine wp_seq ?_
    have hLo : LOk [(0, 24, .val (.agg (FR .u64 20 (Xa)))), (1, 25, .val (.int .u8 n)), (2, 26, .val (.agg (FR .u8 32 (smL n)))), (3, 27, .val (.agg (FR .u64 20 (M16)))), (4, 28, .val (.agg (FR .u64 20 (Xa)))), (5, 29, .val (.int .u8 m)), (6, 30, .val (.agg (FR .u8 32 (smL m)))), (7, 31, .val (.agg (FR .u64 20 (M17)))), (8, 32, .val (.agg (FR .u64 20 (S18)))), (9, 33, .val (.agg (FR .u64 20 (Xa)))), (10, 34, .val (.int .u64 s)), (11, 35, .val (.int .u8 u)), (12, 36, .val (.int .u64 s)), (13, 37, .val (.int .u64 v)), (14, 38, .val (.int .u8 v)), (15, 39, .val (.agg (FR .u8 32 (sm2 u v)))), (16, 40, .val (.agg (FR .u64 20 (M19)))), (17, 41, .val (.bool true)), (18, 42, .val (.bool true)), (19, 43, .val (.agg (FR .u64 20 (Xa)))), (20, 44, .val (.agg (FR .u8 32 (fun _ => 0)))), (21, 45, .val (.agg (FR .u64 20 (M20)))), (22, 46, .val (.agg (FR .u64 20 (Z21)))), (23, 47, .val (.bool true)), (24, 48, .val (.bool true)), (25, 49, .val (.bool true)), (26, 50, .val (.agg (FR .u64 20 (Xa)))), (27, 51, .val (.agg (FR .u8 32 (smL 1)))), (28, 52, .val (.agg (FR .u64 20 (M22)))), (29, 53, .val (.agg (FR .u64 20 (Xa)))), (30, 54, .val (.bool true)), (31, 55, .val (.bool true)), (32, 56, .val (.bool true)), (33, 57, .val (.agg (FR .u64 20 (Xa)))), (34, 58, .val (.agg (FR .u8 32 (smL 2)))), (35, 59, .val (.agg (FR .u64 20 (M23)))), (36, 60, .val (.agg (FR .u64 20 (Xa)))), (37, 61, .val (.agg (FR .u64 20 (Xa)))), (38, 62, .val (.agg (FR .u64 20 (S24)))), (39, 63, .val (.bool true)), (40, 64, .val (.bool true)), (41, 6, .val (.bool true))] := ⟨show ([0, 1, 2, 3, 4, 5, 6, 7, 8, 9, 10, 11, 12, 13, 14, 15, 16, 17, 18, 19, 20, 21, 22, 23, 24, 25, 26, 27, 28, 29, 30, 31, 32, 33, 34, 35, 36, 37, 38, 39, 40, 41] : List Nat).Nodup by decide, show ([24, 25, 26, 27, 28, 29, 30, 31, 32, 33, 34, 35, 36, 37, 38, 39, 40, 41, 42, 43, 44, 45, 46, 47, 48, 49, 50, 51, 52, 53, 54, 55, 56, 57, 58, 59, 60, 61, 62, 63, 64, 6] : List Nat).Nodup by decide⟩
    refine region_ (wE := w) (sz := 65) (n := 42) (B := [0, 0, 2, 7, 0, 0, 32, 127, 255, 0, 0, 1024, 0, 4096, 12288, 31744, 65535, 131071, 262143, 524287, 524287, 2097151, 4194303, 8388607, 16777215, 33554431, 67108863, 67108863, 268435455, 67108863, 1073741823, 2147483647, 4294967295, 8589934591, 8589934591, 34359738367, 8589934591, 8589934591, 274877906943, 549755813887, 1099511627775, 2199023255551]) [0, 1, 2, 3, 4, 5, 6, 7, 8, 9, 10, 11, 12, 13, 14, 15, 16, 17, 18, 19, 20, 21, 22, 23, 24, 25, 26, 27, 28, 29, 30, 31, 32, 33, 34, 35, 36, 37, 38, 39, 40, 41] [(6, .val (.bool true))] [(0, 24, .val (.agg (FR .u64 20 (Xa)))), (1, 25, .val (.int .u8 n)), (2, 26, .val (.agg (FR .u8 32 (smL n)))), (3, 27, .val (.agg (FR .u64 20 (M16)))), (4, 28, .val (.agg (FR .u64 20 (Xa)))), (5, 29, .val (.int .u8 m)), (6, 30, .val (.agg (FR .u8 32 (smL m)))), (7, 31, .val (.agg (FR .u64 20 (M17)))), (8, 32, .val (.agg (FR .u64 20 (S18)))), (9, 33, .val (.agg (FR .u64 20 (Xa)))), (10, 34, .val (.int .u64 s)), (11, 35, .val (.int .u8 u)), (12, 36, .val (.int .u64 s)), (13, 37, .val (.int .u64 v)), (14, 38, .val (.int .u8 v)), (15, 39, .val (.agg (FR .u8 32 (sm2 u v)))), (16, 40, .val (.agg (FR .u64 20 (M19)))), (17, 41, .val (.bool true)), (18, 42, .val (.bool true)), (19, 43, .val (.agg (FR .u64 20 (Xa)))), (20, 44, .val (.agg (FR .u8 32 (fun _ => 0)))), (21, 45, .val (.agg (FR .u64 20 (M20)))), (22, 46, .val (.agg (FR .u64 20 (Z21)))), (23, 47, .val (.bool true)), (24, 48, .val (.bool true)), (25, 49, .val (.bool true)), (26, 50, .val (.agg (FR .u64 20 (Xa)))), (27, 51, .val (.agg (FR .u8 32 (smL 1)))), (28, 52, .val (.agg (FR .u64 20 (M22)))), (29, 53, .val (.agg (FR .u64 20 (Xa)))), (30, 54, .val (.bool true)), (31, 55, .val (.bool true)), (32, 56, .val (.bool true)), (33, 57, .val (.agg (FR .u64 20 (Xa)))), (34, 58, .val (.agg (FR .u8 32 (smL 2)))), (35, 59, .val (.agg (FR .u64 20 (M23)))), (36, 60, .val (.agg (FR .u64 20 (Xa)))), (37, 61, .val (.agg (FR .u64 20 (Xa)))), (38, 62, .val (.agg (FR .u64 20 (S24)))), (39, 63, .val (.bool true)), (40, 64, .val (.bool true)), (41, 6, .val (.bool true))] [⟨g1_0, none, none, .u8, 32, a, a, 22⟩, ⟨g3_5, none, none, .u64, 20, Xa, Xa, 28⟩] (by rfl) rfl tabct_7 bitsct_7 (by kernel_rfl) (by kernel_rfl) HH7 rfl rfl hLo rfl HS7 (slL 41 (d := 41) rfl (trivial)) ?_ ?_
    · show ∀ i ∈ [0, 1, 2, 3, 4, 5, 6, 7, 8, 9, 10, 11, 12, 13, 14, 15, 16, 17, 18, 19, 20, 21, 22, 23, 24, 25, 26, 27, 28, 29, 30, 31, 32, 33, 34, 35, 36, 37, 38, 39, 40, 41], _
      refine steps_cons (st_row0 0 1 _ rfl rfl rfl rfl (fun _ _ _ _ => rfl) hLo rfl rfl rfl (by rfl) Tryd.underlying28 infoPt rfl (fun b G hb ho => ev_off rfl (HS7.get 2 rfl))) ?_
      refine steps_cons (st_run 1 _ rfl rfl hLo rfl rfl (fun _ _ _ _ => rfl) (fun b G w hb ho => exec_move (.inl rfl) (ev_off rfl (HS7.get 0 rfl)))) ?_
      refine steps_cons (st_run 2 _ rfl rfl hLo rfl rfl (fun _ _ _ _ => rfl) (fun b G w hb ho => exec_build rfl (parts1 (ev_on hLo 1 rfl HS7.1 rfl (hb 1 (by rfl)))) (build1_run _ _))) ?_
      refine steps_cons (st_call 3 _ #[.agg (FR .u64 20 (Xa)), .agg (FR .u8 32 (smL n))] rfl rfl rfl (fun _ _ _ _ => rfl) hLo rfl rfl Tryd.func22 rfl rfl (fun b G hb ho => args2 (ev_on hLo 0 rfl HS7.1 rfl (hb 0 (by rfl))) (ev_on hLo 2 rfl HS7.1 rfl (hb 2 (by rfl)))) (fun w hw => mul_as hM16 w (hT.to hw) rXa.1 (smE_By (n := n) h_n))) ?_
      refine steps_cons (st_row0 4 1 _ rfl rfl rfl rfl (fun _ _ _ _ => rfl) hLo rfl rfl rfl (by rfl) Tryd.underlying28 infoPt rfl (fun b G hb ho => ev_off rfl (HS7.get 2 rfl))) ?_
      refine steps_cons (st_run 5 _ rfl rfl hLo rfl rfl (fun _ _ _ _ => rfl) (fun b G w hb ho => exec_move (.inl rfl) (ev_off rfl (HS7.get 1 rfl)))) ?_
      refine steps_cons (st_run 6 _ rfl rfl hLo rfl rfl (fun _ _ _ _ => rfl) (fun b G w hb ho => exec_build rfl (parts1 (ev_on hLo 5 rfl HS7.1 rfl (hb 5 (by rfl)))) (build1_run _ _))) ?_
      refine steps_cons (st_call 7 _ #[.agg (FR .u64 20 (Xa)), .agg (FR .u8 32 (smL m))] rfl rfl rfl (fun _ _ _ _ => rfl) hLo rfl rfl Tryd.func22 rfl rfl (fun b G hb ho => args2 (ev_on hLo 4 rfl HS7.1 rfl (hb 4 (by rfl))) (ev_on hLo 6 rfl HS7.1 rfl (hb 6 (by rfl)))) (fun w hw => mul_as hM17 w (hT.to hw) rXa.1 (smE_By (n := m) h_m))) ?_
      refine steps_cons (st_call 8 _ #[.agg (FR .u64 20 (M16)), .agg (FR .u64 20 (M17))] rfl rfl rfl (fun _ _ _ _ => rfl) hLo rfl rfl Tryd.func18 rfl rfl (fun b G hb ho => args2 (ev_on hLo 3 rfl HS7.1 rfl (hb 3 (by rfl))) (ev_on hLo 7 rfl HS7.1 rfl (hb 7 (by rfl)))) (fun w hw => add_as hS18 w (hT.to hw) rM16.1 rM17.1)) ?_
      refine steps_cons (st_row0 9 1 _ rfl rfl rfl rfl (fun _ _ _ _ => rfl) hLo rfl rfl rfl (by rfl) Tryd.underlying28 infoPt rfl (fun b G hb ho => ev_off rfl (HS7.get 2 rfl))) ?_
      refine steps_cons (st_run 10 _ rfl rfl hLo rfl rfl (fun _ _ _ _ => rfl) (fun b G w hb ho => exec_move (.inl rfl) (ev_off rfl (HS7.get 3 rfl)))) ?_
      refine steps_cons (st_run 11 _ rfl rfl hLo rfl rfl (fun _ _ _ _ => rfl) (fun b G w hb ho => exec_convert rfl (ev_on hLo 10 rfl HS7.1 rfl (hb 10 (by rfl))) (ofU_run hu _))) ?_
      refine steps_cons (st_run 12 _ rfl rfl hLo rfl rfl (fun _ _ _ _ => rfl) (fun b G w hb ho => exec_move (.inl rfl) (ev_off rfl (HS7.get 3 rfl)))) ?_
      refine steps_cons (st_run 13 _ rfl rfl hLo rfl rfl (fun _ _ _ _ => rfl) (fun b G w hb ho => exec_bin rfl (ev_on hLo 12 rfl HS7.1 rfl (hb 12 (by rfl))) (rfl) (shr8U_run hv _ _ _))) ?_
      refine steps_cons (st_run 14 _ rfl rfl hLo rfl rfl (fun _ _ _ _ => rfl) (fun b G w hb ho => exec_convert rfl (ev_on hLo 13 rfl HS7.1 rfl (hb 13 (by rfl))) (ofU_run (show v % 256 = v by omega) _))) ?_
      refine steps_cons (st_run 15 _ rfl rfl hLo rfl rfl (fun _ _ _ _ => rfl) (fun b G w hb ho => exec_build rfl (parts2 (ev_on hLo 11 rfl HS7.1 rfl (hb 11 (by rfl))) (ev_on hLo 14 rfl HS7.1 rfl (hb 14 (by rfl)))) (build2_run _ _ _))) ?_
      refine steps_cons (st_call 16 _ #[.agg (FR .u64 20 (Xa)), .agg (FR .u8 32 (sm2 u v))] rfl rfl rfl (fun _ _ _ _ => rfl) hLo rfl rfl Tryd.func22 rfl rfl (fun b G hb ho => args2 (ev_on hLo 9 rfl HS7.1 rfl (hb 9 (by rfl))) (ev_on hLo 15 rfl HS7.1 rfl (hb 15 (by rfl)))) (fun w hw => mul_as hM19 w (hT.to hw) rXa.1 (sm2_By h_u h_v))) ?_
      refine steps_cons (st_call 17 _ #[.agg (FR .u64 20 (S18)), .agg (FR .u64 20 (M19))] rfl rfl rfl (fun _ _ _ _ => rfl) hLo rfl rfl Tryd.func16 rfl rfl (fun b G hb ho => args2 (ev_on hLo 8 rfl HS7.1 rfl (hb 8 (by rfl))) (ev_on hLo 16 rfl HS7.1 rfl (hb 16 (by rfl)))) (fun w hw => is_as (is_same rS18 rM19 (by rw [← Pt.mul_add, NZ_smL, NZ_smL, NZ_sm2 h_u.1 h_v.1]; congr 1; omega)) w rS18.1 rM19.1)) ?_
      refine steps_cons (st_run 18 _ rfl rfl hLo rfl rfl (fun _ _ _ _ => rfl) (fun b G w hb ho => exec_move (.inl rfl) (ev_on hLo 17 rfl HS7.1 rfl (hb 17 (by rfl))))) ?_
      refine steps_cons (st_row0 19 1 _ rfl rfl rfl rfl (fun b G hb ho => wanted_is rfl rfl rfl HS7.1 rfl (ev_on hLo 18 rfl HS7.1 rfl (hb 18 (by rfl))) rfl) hLo rfl rfl rfl (by rfl) Tryd.underlying28 infoPt rfl (fun b G hb ho => ev_off rfl (HS7.get 2 rfl))) ?_
      refine steps_cons (st_run 20 _ rfl rfl hLo rfl rfl (fun b G hb ho => wanted_is rfl rfl rfl HS7.1 rfl (ev_on hLo 18 rfl HS7.1 rfl (hb 18 (by rfl))) rfl) (fun b G w hb ho => exec_build rfl (parts0 ) (build0_run _))) ?_
      refine steps_cons (st_call 21 _ #[.agg (FR .u64 20 (Xa)), .agg (FR .u8 32 (fun _ => 0))] rfl rfl rfl (fun b G hb ho => wanted_is rfl rfl rfl HS7.1 rfl (ev_on hLo 18 rfl HS7.1 rfl (hb 18 (by rfl))) rfl) hLo rfl rfl Tryd.func22 rfl rfl (fun b G hb ho => args2 (ev_on hLo 19 rfl HS7.1 rfl (hb 19 (by rfl))) (ev_on hLo 20 rfl HS7.1 rfl (hb 20 (by rfl)))) (fun w hw => mul_as hM20 w (hT.to hw) rXa.1 zeroE_By)) ?_
      refine steps_cons (st_call 22 _ #[] rfl rfl rfl (fun b G hb ho => wanted_is rfl rfl rfl HS7.1 rfl (ev_on hLo 18 rfl HS7.1 rfl (hb 18 (by rfl))) rfl) hLo rfl rfl Tryd.func10 rfl rfl (fun b G hb ho => args0 ) (fun w hw => zero_as hZ21 w)) ?_
      refine steps_cons (st_call 23 _ #[.agg (FR .u64 20 (M20)), .agg (FR .u64 20 (Z21))] rfl rfl rfl (fun b G hb ho => wanted_is rfl rfl rfl HS7.1 rfl (ev_on hLo 18 rfl HS7.1 rfl (hb 18 (by rfl))) rfl) hLo rfl rfl Tryd.func16 rfl rfl (fun b G hb ho => args2 (ev_on hLo 21 rfl HS7.1 rfl (hb 21 (by rfl))) (ev_on hLo 22 rfl HS7.1 rfl (hb 22 (by rfl)))) (fun w hw => is_as (is_same rM20 rZ21 (by rw [NZ_zero]; rfl)) w rM20.1 rZ21.1)) ?_
      refine steps_cons (st_run 24 _ rfl rfl hLo rfl rfl (fun _ _ _ _ => rfl) (fun b G w hb ho => exec_pick rfl (ev_on hLo 18 rfl HS7.1 rfl (hb 18 (by rfl))) (ev_on hLo 23 rfl HS7.1 rfl (hb 23 (by rfl))))) ?_
      refine steps_cons (st_run 25 _ rfl rfl hLo rfl rfl (fun _ _ _ _ => rfl) (fun b G w hb ho => exec_move (.inl rfl) (ev_on hLo 24 rfl HS7.1 rfl (hb 24 (by rfl))))) ?_
      refine steps_cons (st_row0 26 1 _ rfl rfl rfl rfl (fun b G hb ho => wanted_is rfl rfl rfl HS7.1 rfl (ev_on hLo 25 rfl HS7.1 rfl (hb 25 (by rfl))) rfl) hLo rfl rfl rfl (by rfl) Tryd.underlying28 infoPt rfl (fun b G hb ho => ev_off rfl (HS7.get 2 rfl))) ?_
      refine steps_cons (st_run 27 _ rfl rfl hLo rfl rfl (fun b G hb ho => wanted_is rfl rfl rfl HS7.1 rfl (ev_on hLo 25 rfl HS7.1 rfl (hb 25 (by rfl))) rfl) (fun b G w hb ho => exec_build rfl (parts1 (rfl)) (build1_run _ _))) ?_
      refine steps_cons (st_call 28 _ #[.agg (FR .u64 20 (Xa)), .agg (FR .u8 32 (smL 1))] rfl rfl rfl (fun b G hb ho => wanted_is rfl rfl rfl HS7.1 rfl (ev_on hLo 25 rfl HS7.1 rfl (hb 25 (by rfl))) rfl) hLo rfl rfl Tryd.func22 rfl rfl (fun b G hb ho => args2 (ev_on hLo 26 rfl HS7.1 rfl (hb 26 (by rfl))) (ev_on hLo 27 rfl HS7.1 rfl (hb 27 (by rfl)))) (fun w hw => mul_as hM22 w (hT.to hw) rXa.1 (smE_By (n := 1) (by decide)))) ?_
      refine steps_cons (st_row0 29 1 _ rfl rfl rfl rfl (fun b G hb ho => wanted_is rfl rfl rfl HS7.1 rfl (ev_on hLo 25 rfl HS7.1 rfl (hb 25 (by rfl))) rfl) hLo rfl rfl rfl (by rfl) Tryd.underlying28 infoPt rfl (fun b G hb ho => ev_off rfl (HS7.get 2 rfl))) ?_
      refine steps_cons (st_call 30 _ #[.agg (FR .u64 20 (M22)), .agg (FR .u64 20 (Xa))] rfl rfl rfl (fun b G hb ho => wanted_is rfl rfl rfl HS7.1 rfl (ev_on hLo 25 rfl HS7.1 rfl (hb 25 (by rfl))) rfl) hLo rfl rfl Tryd.func16 rfl rfl (fun b G hb ho => args2 (ev_on hLo 28 rfl HS7.1 rfl (hb 28 (by rfl))) (ev_on hLo 29 rfl HS7.1 rfl (hb 29 (by rfl)))) (fun w hw => is_as (is_same rM22 rXa (by rw [NZ_smL]; exact Pt.mul_one fld _)) w rM22.1 rXa.1)) ?_
      refine steps_cons (st_run 31 _ rfl rfl hLo rfl rfl (fun _ _ _ _ => rfl) (fun b G w hb ho => exec_pick rfl (ev_on hLo 25 rfl HS7.1 rfl (hb 25 (by rfl))) (ev_on hLo 30 rfl HS7.1 rfl (hb 30 (by rfl))))) ?_
      refine steps_cons (st_run 32 _ rfl rfl hLo rfl rfl (fun _ _ _ _ => rfl) (fun b G w hb ho => exec_move (.inl rfl) (ev_on hLo 31 rfl HS7.1 rfl (hb 31 (by rfl))))) ?_
      refine steps_cons (st_row0 33 1 _ rfl rfl rfl rfl (fun b G hb ho => wanted_is rfl rfl rfl HS7.1 rfl (ev_on hLo 32 rfl HS7.1 rfl (hb 32 (by rfl))) rfl) hLo rfl rfl rfl (by rfl) Tryd.underlying28 infoPt rfl (fun b G hb ho => ev_off rfl (HS7.get 2 rfl))) ?_
      refine steps_cons (st_run 34 _ rfl rfl hLo rfl rfl (fun b G hb ho => wanted_is rfl rfl rfl HS7.1 rfl (ev_on hLo 32 rfl HS7.1 rfl (hb 32 (by rfl))) rfl) (fun b G w hb ho => exec_build rfl (parts1 (rfl)) (build1_run _ _))) ?_
      refine steps_cons (st_call 35 _ #[.agg (FR .u64 20 (Xa)), .agg (FR .u8 32 (smL 2))] rfl rfl rfl (fun b G hb ho => wanted_is rfl rfl rfl HS7.1 rfl (ev_on hLo 32 rfl HS7.1 rfl (hb 32 (by rfl))) rfl) hLo rfl rfl Tryd.func22 rfl rfl (fun b G hb ho => args2 (ev_on hLo 33 rfl HS7.1 rfl (hb 33 (by rfl))) (ev_on hLo 34 rfl HS7.1 rfl (hb 34 (by rfl)))) (fun w hw => mul_as hM23 w (hT.to hw) rXa.1 (smE_By (n := 2) (by decide)))) ?_
      refine steps_cons (st_row0 36 1 _ rfl rfl rfl rfl (fun b G hb ho => wanted_is rfl rfl rfl HS7.1 rfl (ev_on hLo 32 rfl HS7.1 rfl (hb 32 (by rfl))) rfl) hLo rfl rfl rfl (by rfl) Tryd.underlying28 infoPt rfl (fun b G hb ho => ev_off rfl (HS7.get 2 rfl))) ?_
      refine steps_cons (st_row0 37 1 _ rfl rfl rfl rfl (fun b G hb ho => wanted_is rfl rfl rfl HS7.1 rfl (ev_on hLo 32 rfl HS7.1 rfl (hb 32 (by rfl))) rfl) hLo rfl rfl rfl (by rfl) Tryd.underlying28 infoPt rfl (fun b G hb ho => ev_off rfl (HS7.get 2 rfl))) ?_
      refine steps_cons (st_call 38 _ #[.agg (FR .u64 20 (Xa)), .agg (FR .u64 20 (Xa))] rfl rfl rfl (fun b G hb ho => wanted_is rfl rfl rfl HS7.1 rfl (ev_on hLo 32 rfl HS7.1 rfl (hb 32 (by rfl))) rfl) hLo rfl rfl Tryd.func18 rfl rfl (fun b G hb ho => args2 (ev_on hLo 36 rfl HS7.1 rfl (hb 36 (by rfl))) (ev_on hLo 37 rfl HS7.1 rfl (hb 37 (by rfl)))) (fun w hw => add_as hS24 w (hT.to hw) rXa.1 rXa.1)) ?_
      refine steps_cons (st_call 39 _ #[.agg (FR .u64 20 (M23)), .agg (FR .u64 20 (S24))] rfl rfl rfl (fun b G hb ho => wanted_is rfl rfl rfl HS7.1 rfl (ev_on hLo 32 rfl HS7.1 rfl (hb 32 (by rfl))) rfl) hLo rfl rfl Tryd.func16 rfl rfl (fun b G hb ho => args2 (ev_on hLo 35 rfl HS7.1 rfl (hb 35 (by rfl))) (ev_on hLo 38 rfl HS7.1 rfl (hb 38 (by rfl)))) (fun w hw => is_as (is_same rM23 rS24 (by rw [NZ_smL]; exact Pt.mul_two fld _)) w rM23.1 rS24.1)) ?_
      refine steps_cons (st_run 40 _ rfl rfl hLo rfl rfl (fun _ _ _ _ => rfl) (fun b G w hb ho => exec_pick rfl (ev_on hLo 32 rfl HS7.1 rfl (hb 32 (by rfl))) (ev_on hLo 39 rfl HS7.1 rfl (hb 39 (by rfl))))) ?_
      refine steps_cons (st_run 41 _ rfl rfl hLo rfl rfl (fun _ _ _ _ => rfl) (fun b G w hb ho => exec_move (.inr rfl) (ev_on hLo 40 rfl HS7.1 rfl (hb 40 (by rfl))))) ?_
      exact steps_nil
    clear hLo
    intro G a8 w8 hS hH
    have HS8 : Sl a8 65 [(6, .bool true)] := hS
    have HH8 : Held w w8 [⟨g1_0, .u8, 32, a, 22⟩, ⟨g3_5, .u64, 20, Xa, 28⟩] := hH
    clear hS hH HS7 HH7
    refine then_ ?_
    refine wp_ret ?_
    repeat refine then_ret ?_
    exact b_tmp rfl HS8.2.1 (HS8.get 0 rfl) ⟨rfl, HH8.1⟩
end Go.Proofs.YtaaipbhfikefaaaDoor.P
