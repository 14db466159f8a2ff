/- Merged of the texts: Wk, G12, Xe, Xg, Xh, Xi, Xj, Wq (trim.py). -/
import Derived.ChangeArms
import Derived.ChangeShapes
import Derived.Lib.SmallJoins
import Derived.DataReads
import Derived.Deep.Slices
import Derived.SizedLaws
import Derived.Test.YtdleomeiojlooaaYc3
section
namespace Go.Proofs.Ytdleomeiojlooaa.P
set_option linter.unusedVariables false
set_option linter.unusedSimpArgs false
open Go.RowKit Go.ChangeShapes Go.WideShapes Go.Proofs.YtdleomeiojlooaaW.PrintWords Go.Proofs.YtdleomeiojlooaaW.PrintLast Go.Proofs.YtdleomeiojlooaaW.PrintMore Go.Proofs.Ytdleomeiojlooaa.L
theorem tabab4 : rtab .any (opsOf Try.f16 4) = (true, [([], []), ([0], [0]), ([1], [1]), ([], []), ([3], [3]), ([4], [4]), ([5], [5]), ([6], [6]), ([7], [7]), ([2, 8], [2, 8])]) := by kernel_rfl
theorem bitsab4 : waitsOk [([], []), ([0], [0]), ([1], [1]), ([], []), ([3], [3]), ([4], [4]), ([5], [5]), ([6], [6]), ([7], [7]), ([2, 8], [2, 8])] [0, 1, 3, 0, 8, 24, 56, 120, 248, 511] = true := by kernel_rfl
theorem tabac4 : rtab .any (opsOf Try.f16 4) = (true, [([], []), ([0], [0]), ([1], [1]), ([], []), ([3], [3]), ([4], [4]), ([5], [5]), ([6], [6]), ([7], [7]), ([2, 8], [2, 8])]) := by kernel_rfl
theorem bitsac4 : waitsOk [([], []), ([0], [0]), ([1], [1]), ([], []), ([3], [3]), ([4], [4]), ([5], [5]), ([6], [6]), ([7], [7]), ([2, 8], [2, 8])] [0, 1, 3, 0, 8, 24, 56, 120, 248, 511] = true := by kernel_rfl
theorem tabac6 : rtab .any (opsOf Try.f16 6) = (true, [([], []), ([0], [0]), ([1], [1]), ([2], [2]), ([], []), ([4], [4]), ([5], [5]), ([6], [6]), ([3, 7], [3, 7]), ([0, 0, 1, 2, 3, 4, 5, 6, 7, 8], [0]), ([9, 0, 1, 2, 3, 4, 5, 6, 7, 8], [9]), ([10, 8, 6, 0, 1, 2, 3, 4, 5, 6, 7, 8], [8, 10])]) := by kernel_rfl
theorem bitsac6 : waitsOk [([], []), ([0], [0]), ([1], [1]), ([2], [2]), ([], []), ([4], [4]), ([5], [5]), ([6], [6]), ([3, 7], [3, 7]), ([0, 0, 1, 2, 3, 4, 5, 6, 7, 8], [0]), ([9, 0, 1, 2, 3, 4, 5, 6, 7, 8], [9]), ([10, 8, 6, 0, 1, 2, 3, 4, 5, 6, 7, 8], [8, 10])] [0, 1, 3, 7, 0, 16, 48, 112, 255, 511, 1023, 2047] = true := by kernel_rfl
theorem tabad4 : rtab .any (opsOf Try.f16 4) = (true, [([], []), ([0], [0]), ([1], [1]), ([], []), ([3], [3]), ([4], [4]), ([5], [5]), ([6], [6]), ([7], [7]), ([2, 8], [2, 8])]) := by kernel_rfl
theorem bitsad4 : waitsOk [([], []), ([0], [0]), ([1], [1]), ([], []), ([3], [3]), ([4], [4]), ([5], [5]), ([6], [6]), ([7], [7]), ([2, 8], [2, 8])] [0, 1, 3, 0, 8, 24, 56, 120, 248, 511] = true := by kernel_rfl
theorem tabad6 : rtab .any (opsOf Try.f16 6) = (true, [([], []), ([0], [0]), ([1], [1]), ([2], [2]), ([], []), ([4], [4]), ([5], [5]), ([6], [6]), ([3, 7], [3, 7]), ([0, 0, 1, 2, 3, 4, 5, 6, 7, 8], [0]), ([9, 0, 1, 2, 3, 4, 5, 6, 7, 8], [9]), ([10, 8, 6, 0, 1, 2, 3, 4, 5, 6, 7, 8], [8, 10])]) := by kernel_rfl
theorem bitsad6 : waitsOk [([], []), ([0], [0]), ([1], [1]), ([2], [2]), ([], []), ([4], [4]), ([5], [5]), ([6], [6]), ([3, 7], [3, 7]), ([0, 0, 1, 2, 3, 4, 5, 6, 7, 8], [0]), ([9, 0, 1, 2, 3, 4, 5, 6, 7, 8], [9]), ([10, 8, 6, 0, 1, 2, 3, 4, 5, 6, 7, 8], [8, 10])] [0, 1, 3, 7, 0, 16, 48, 112, 255, 511, 1023, 2047] = true := by kernel_rfl
theorem app_off {w : World} {g : Nat} {al : ByteArray} {sy : Nat} {acts inn : Nat} {keep : Int} {r : ByteArray} (hr : Row w g () 6 (spC ⟨al, sy, true, acts, inn, keep⟩) 53) : Calls Try.prog 16 #[.pointer (some ⟨g, 0, none⟩), .string (r)] w fun e w' => e = .returned (.int .i64 50) ∧ Row w' g () 6 (spC ⟨al, sy, true, acts, inn, keep⟩) 53 ∧ Fr ⟨w, [g]⟩ w' := by
  refine enter_ 35 Try.func16 rfl rfl (fun a0 hS => ?_)
  have HS0 : Sl a0 35 [(0, .pointer (some ⟨g, 0, none⟩)), (1, .string (r))] := hS
  have HH0 : Held ⟨w, [g]⟩ w [⟨g, (), 6, spC ⟨al, sy, true, acts, inn, keep⟩, 53⟩] := Held.one hr
  clear hS
  refine wp_seq ?_
  have hLo : LOk [(0, 4, .val (.int .i64 (0)))] := lok (by rfl) (by rfl)
  refine plain_ (wE := ⟨w, [g]⟩) (sz := 35) (n := 1) [0] [(0, .val (.pointer (some ⟨g, 0, none⟩))), (1, .val (.string (r))), (4, .val (.int .i64 (0)))] [(0, 4, .val (.int .i64 (0)))] [⟨g, none, none, (), 6, spC ⟨al, sy, true, acts, inn, keep⟩, spC ⟨al, sy, true, acts, inn, keep⟩, 53⟩] rfl (by rfl) HH0 rfl rfl hLo rfl HS0 (slS 0 rfl rfl (slS 1 rfl rfl (slL 0 (d := 0) rfl (trivial)))) ?_ ?_
  · show ∀ i ∈ [0], _
    refine steps_cons (st_run 0 _ rfl rfl hLo rfl rfl (fun _ _ _ _ => rfl) (fun b G w hb ho => exec_move (.inr rfl) (rfl))) ?_
    exact steps_nil
  clear hLo
  intro G a1 w1 hS hH
  have HS1 : Sl a1 35 [(0, .pointer (some ⟨g, 0, none⟩)), (1, .string (r)), (4, .int .i64 (0))] := hS
  have HH1 : Held ⟨w, [g]⟩ w1 [⟨g, (), 6, spC ⟨al, sy, true, acts, inn, keep⟩, 53⟩] := hH
  clear hS hH HS0 HH0
  refine then_ ?_
  refine wp_seq ?_
  refine wp_seq ?_
  have hLo : LOk [(0, 6, .val (.pointer (some ⟨g, 0, none⟩))), (1, 7, .val (.int .i64 (50))), (2, 5, .val (.int .i64 (50)))] := lok (by rfl) (by rfl)
  refine plain_ (wE := ⟨w, [g]⟩) (sz := 35) (n := 3) [0, 1, 3] [(0, .val (.pointer (some ⟨g, 0, none⟩))), (1, .val (.string (r))), (4, .val (.int .i64 (0))), (5, .val (.int .i64 (50)))] [(0, 6, .val (.pointer (some ⟨g, 0, none⟩))), (1, 7, .val (.int .i64 (50))), (2, 5, .val (.int .i64 (50)))] [⟨g, none, none, (), 6, spC ⟨al, sy, true, acts, inn, keep⟩, spC ⟨al, sy, true, acts, inn, keep⟩, 53⟩] rfl (by rfl) HH1 rfl rfl hLo rfl HS1 (slS 0 rfl rfl (slS 1 rfl rfl (slS 2 rfl rfl (slL 2 (d := 2) rfl (trivial))))) ?_ ?_
  · show ∀ i ∈ [0, 1, 2], _
    refine steps_cons (st_run 0 _ rfl rfl hLo rfl rfl (fun _ _ _ _ => rfl) (fun b G w hb ho => exec_move (.inl rfl) (ev_off rfl (HS1.get 0 rfl)))) ?_
    refine steps_cons (st_callRB 1 0 _ _ (fun G => #[.pointer (some ⟨g, 0, none⟩)]) rfl rfl rfl rfl (fun _ _ _ _ => rfl) hLo rfl rfl (by rfl) (by rfl) Try.func29 rfl rfl (fun b G hb ho => args1 (ev_on hLo 0 rfl HS1.1 rfl (hb 0 (by rfl)))) (fun G w hw hr => ready_off hr)) ?_
    refine steps_cons (st_run 2 _ rfl rfl hLo rfl rfl (fun _ _ _ _ => rfl) (fun b G w hb ho => exec_move (.inr rfl) (ev_on hLo 1 rfl HS1.1 rfl (hb 1 (by rfl))))) ?_
    exact steps_nil
  clear hLo
  intro G a2 w2 hS hH
  have HS2 : Sl a2 35 [(0, .pointer (some ⟨g, 0, none⟩)), (1, .string (r)), (4, .int .i64 (0)), (5, .int .i64 (50))] := hS
  have HH2 : Held ⟨w, [g]⟩ w2 [⟨g, (), 6, spC ⟨al, sy, true, acts, inn, keep⟩, 53⟩] := hH
  clear hS hH HS1 HH1
  refine then_ ?_
  refine wp_seq ?_
  have hLo : LOk [(0, 8, .val (.int .i64 (50))), (1, 9, .val (.bool true))] := lok (by rfl) (by rfl)
  refine plain_ (wE := ⟨w, [g]⟩) (sz := 35) (n := 2) [0, 1] [(0, .val (.pointer (some ⟨g, 0, none⟩))), (1, .val (.string (r))), (4, .val (.int .i64 (0))), (5, .val (.int .i64 (50))), (9, .val (.bool true))] [(0, 8, .val (.int .i64 (50))), (1, 9, .val (.bool true))] [⟨g, none, none, (), 6, spC ⟨al, sy, true, acts, inn, keep⟩, spC ⟨al, sy, true, acts, inn, keep⟩, 53⟩] rfl (by rfl) HH2 rfl rfl hLo rfl HS2 (slS 0 rfl rfl (slS 1 rfl rfl (slS 2 rfl rfl (slS 3 rfl rfl (slL 1 (d := 1) rfl (trivial)))))) ?_ ?_
  · show ∀ i ∈ [0, 1], _
    refine steps_cons (st_run 0 _ rfl rfl hLo rfl rfl (fun _ _ _ _ => rfl) (fun b G w hb ho => exec_move (.inl rfl) (ev_off rfl (HS2.get 3 rfl)))) ?_
    refine steps_cons (st_run 1 _ rfl rfl hLo rfl rfl (fun _ _ _ _ => rfl) (fun b G w hb ho => exec_bin rfl (ev_on hLo 0 rfl HS2.1 rfl (hb 0 (by rfl))) (rfl) (rb_neq (rfl) _ _ _))) ?_
    exact steps_nil
  clear hLo
  intro G a3 w3 hS hH
  have HS3 : Sl a3 35 [(0, .pointer (some ⟨g, 0, none⟩)), (1, .string (r)), (4, .int .i64 (0)), (5, .int .i64 (50)), (9, .bool true)] := hS
  have HH3 : Held ⟨w, [g]⟩ w3 [⟨g, (), 6, spC ⟨al, sy, true, acts, inn, keep⟩, 53⟩] := hH
  clear hS hH HS2 HH2
  refine then_ ?_
  refine wp_cond_true (HS3.get 4 rfl) ?_
  refine wp_seq ?_
  have hLo : LOk [(0, 10, .val (.int .i64 (50))), (1, 4, .val (.int .i64 (50)))] := lok (by rfl) (by rfl)
  refine plain_ (wE := ⟨w, [g]⟩) (sz := 35) (n := 2) [0, 1] [(0, .val (.pointer (some ⟨g, 0, none⟩))), (1, .val (.string (r))), (5, .val (.int .i64 (50))), (9, .val (.bool true)), (4, .val (.int .i64 (50)))] [(0, 10, .val (.int .i64 (50))), (1, 4, .val (.int .i64 (50)))] [⟨g, none, none, (), 6, spC ⟨al, sy, true, acts, inn, keep⟩, spC ⟨al, sy, true, acts, inn, keep⟩, 53⟩] rfl (by rfl) HH3 rfl rfl hLo rfl HS3 (slS 0 rfl rfl (slS 1 rfl rfl (slS 3 rfl rfl (slS 4 rfl rfl (slL 1 (d := 1) rfl (trivial)))))) ?_ ?_
  · show ∀ i ∈ [0, 1], _
    refine steps_cons (st_run 0 _ rfl rfl hLo rfl rfl (fun _ _ _ _ => rfl) (fun b G w hb ho => exec_move (.inl rfl) (ev_off rfl (HS3.get 3 rfl)))) ?_
    refine steps_cons (st_run 1 _ rfl rfl hLo rfl rfl (fun _ _ _ _ => rfl) (fun b G w hb ho => exec_move (.inr rfl) (ev_on hLo 0 rfl HS3.1 rfl (hb 0 (by rfl))))) ?_
    exact steps_nil
  clear hLo
  intro G a4 w4 hS hH
  have HS4 : Sl a4 35 [(0, .pointer (some ⟨g, 0, none⟩)), (1, .string (r)), (5, .int .i64 (50)), (9, .bool true), (4, .int .i64 (50))] := hS
  have HH4 : Held ⟨w, [g]⟩ w4 [⟨g, (), 6, spC ⟨al, sy, true, acts, inn, keep⟩, 53⟩] := hH
  clear hS hH HS3 HH3
  refine then_ ?_
  refine wp_ret ?_
  repeat (first | refine then_ret ?_ | refine inBlock_ret' ?_)
  exact b_tmp rfl HS4.2.1 (HS4.get 4 rfl) ⟨rfl, Row.norm (HH4.row 0 rfl) (six ⟨rfl, rfl, rfl, rfl, rfl, rfl⟩), HH4.1⟩
theorem app_full {w : World} {g : Nat} {al : ByteArray} {sy : Nat} {acts inn : Nat} {keep : Int} {r : ByteArray} (hr : Row w g () 6 (spC ⟨al, sy, false, acts, inn, keep⟩) 53) (hal : al.size ≤ 4194304) (hs : r.size ≤ 1073741824) (hf : 4194304 ≤ encLen r.size + al.size) : Calls Try.prog 16 #[.pointer (some ⟨g, 0, none⟩), .string (r)] w fun e w' => e = .returned (.int .i64 51) ∧ Row w' g () 6 (spC ⟨al, sy, false, acts, inn, keep⟩) 53 ∧ Fr ⟨w, [g]⟩ w' := by
  refine enter_ 35 Try.func16 rfl rfl (fun a0 hS => ?_)
  have HS0 : Sl a0 35 [(0, .pointer (some ⟨g, 0, none⟩)), (1, .string (r))] := hS
  have HH0 : Held ⟨w, [g]⟩ w [⟨g, (), 6, spC ⟨al, sy, false, acts, inn, keep⟩, 53⟩] := Held.one hr
  clear hS
  refine wp_seq ?_
  have hLo : LOk [(0, 4, .val (.int .i64 (0)))] := lok (by rfl) (by rfl)
  refine plain_ (wE := ⟨w, [g]⟩) (sz := 35) (n := 1) [0] [(0, .val (.pointer (some ⟨g, 0, none⟩))), (1, .val (.string (r))), (4, .val (.int .i64 (0)))] [(0, 4, .val (.int .i64 (0)))] [⟨g, none, none, (), 6, spC ⟨al, sy, false, acts, inn, keep⟩, spC ⟨al, sy, false, acts, inn, keep⟩, 53⟩] rfl (by rfl) HH0 rfl rfl hLo rfl HS0 (slS 0 rfl rfl (slS 1 rfl rfl (slL 0 (d := 0) rfl (trivial)))) ?_ ?_
  · show ∀ i ∈ [0], _
    refine steps_cons (st_run 0 _ rfl rfl hLo rfl rfl (fun _ _ _ _ => rfl) (fun b G w hb ho => exec_move (.inr rfl) (rfl))) ?_
    exact steps_nil
  clear hLo
  intro G a1 w1 hS hH
  have HS1 : Sl a1 35 [(0, .pointer (some ⟨g, 0, none⟩)), (1, .string (r)), (4, .int .i64 (0))] := hS
  have HH1 : Held ⟨w, [g]⟩ w1 [⟨g, (), 6, spC ⟨al, sy, false, acts, inn, keep⟩, 53⟩] := hH
  clear hS hH HS0 HH0
  refine then_ ?_
  refine wp_seq ?_
  refine wp_seq ?_
  have hLo : LOk [(0, 6, .val (.pointer (some ⟨g, 0, none⟩))), (1, 7, .val (.int .i64 (0))), (2, 5, .val (.int .i64 (0)))] := lok (by rfl) (by rfl)
  refine plain_ (wE := ⟨w, [g]⟩) (sz := 35) (n := 3) [0, 1, 3] [(0, .val (.pointer (some ⟨g, 0, none⟩))), (1, .val (.string (r))), (4, .val (.int .i64 (0))), (5, .val (.int .i64 (0)))] [(0, 6, .val (.pointer (some ⟨g, 0, none⟩))), (1, 7, .val (.int .i64 (0))), (2, 5, .val (.int .i64 (0)))] [⟨g, none, none, (), 6, spC ⟨al, sy, false, acts, inn, keep⟩, spC ⟨al, sy, false, acts, inn, keep⟩, 53⟩] rfl (by rfl) HH1 rfl rfl hLo rfl HS1 (slS 0 rfl rfl (slS 1 rfl rfl (slS 2 rfl rfl (slL 2 (d := 2) rfl (trivial))))) ?_ ?_
  · show ∀ i ∈ [0, 1, 2], _
    refine steps_cons (st_run 0 _ rfl rfl hLo rfl rfl (fun _ _ _ _ => rfl) (fun b G w hb ho => exec_move (.inl rfl) (ev_off rfl (HS1.get 0 rfl)))) ?_
    refine steps_cons (st_callRB 1 0 _ _ (fun G => #[.pointer (some ⟨g, 0, none⟩)]) rfl rfl rfl rfl (fun _ _ _ _ => rfl) hLo rfl rfl (by rfl) (by rfl) Try.func29 rfl rfl (fun b G hb ho => args1 (ev_on hLo 0 rfl HS1.1 rfl (hb 0 (by rfl)))) (fun G w hw hr => ready_on hr)) ?_
    refine steps_cons (st_run 2 _ rfl rfl hLo rfl rfl (fun _ _ _ _ => rfl) (fun b G w hb ho => exec_move (.inr rfl) (ev_on hLo 1 rfl HS1.1 rfl (hb 1 (by rfl))))) ?_
    exact steps_nil
  clear hLo
  intro G a2 w2 hS hH
  have HS2 : Sl a2 35 [(0, .pointer (some ⟨g, 0, none⟩)), (1, .string (r)), (4, .int .i64 (0)), (5, .int .i64 (0))] := hS
  have HH2 : Held ⟨w, [g]⟩ w2 [⟨g, (), 6, spC ⟨al, sy, false, acts, inn, keep⟩, 53⟩] := hH
  clear hS hH HS1 HH1
  refine then_ ?_
  refine wp_seq ?_
  have hLo : LOk [(0, 8, .val (.int .i64 (0))), (1, 9, .val (.bool false))] := lok (by rfl) (by rfl)
  refine plain_ (wE := ⟨w, [g]⟩) (sz := 35) (n := 2) [0, 1] [(0, .val (.pointer (some ⟨g, 0, none⟩))), (1, .val (.string (r))), (4, .val (.int .i64 (0))), (5, .val (.int .i64 (0))), (9, .val (.bool false))] [(0, 8, .val (.int .i64 (0))), (1, 9, .val (.bool false))] [⟨g, none, none, (), 6, spC ⟨al, sy, false, acts, inn, keep⟩, spC ⟨al, sy, false, acts, inn, keep⟩, 53⟩] rfl (by rfl) HH2 rfl rfl hLo rfl HS2 (slS 0 rfl rfl (slS 1 rfl rfl (slS 2 rfl rfl (slS 3 rfl rfl (slL 1 (d := 1) rfl (trivial)))))) ?_ ?_
  · show ∀ i ∈ [0, 1], _
    refine steps_cons (st_run 0 _ rfl rfl hLo rfl rfl (fun _ _ _ _ => rfl) (fun b G w hb ho => exec_move (.inl rfl) (ev_off rfl (HS2.get 3 rfl)))) ?_
    refine steps_cons (st_run 1 _ rfl rfl hLo rfl rfl (fun _ _ _ _ => rfl) (fun b G w hb ho => exec_bin rfl (ev_on hLo 0 rfl HS2.1 rfl (hb 0 (by rfl))) (rfl) (rb_neq (rfl) _ _ _))) ?_
    exact steps_nil
  clear hLo
  intro G a3 w3 hS hH
  have HS3 : Sl a3 35 [(0, .pointer (some ⟨g, 0, none⟩)), (1, .string (r)), (4, .int .i64 (0)), (5, .int .i64 (0)), (9, .bool false)] := hS
  have HH3 : Held ⟨w, [g]⟩ w3 [⟨g, (), 6, spC ⟨al, sy, false, acts, inn, keep⟩, 53⟩] := hH
  clear hS hH HS2 HH2
  refine then_ ?_
  refine wp_cond_false (HS3.get 4 rfl) ?_
  refine wp_skip ?_
  refine then_ ?_
  refine wp_seq ?_
  refine wp_seq ?_
  have hLo : LOk [(0, 11, .val (.string (r))), (1, 12, .val (.int .i64 (((r).size : Int)))), (2, 13, .val (.int .i64 ((encLen r.size : Int)))), (3, 14, .val (.pointer (some ⟨g, 0, none⟩))), (4, 15, .val (.pointer (some ⟨g, 0, none⟩))), (5, 16, .val (.pointer (some ⟨g, 0, none⟩))), (6, 17, .val (.string (al))), (7, 18, .val (.int .i64 (((al).size : Int)))), (8, 19, .val (.int .i64 ((4194304 : Int) - (al.size : Int)))), (9, 20, .val (.bool true))] := lok (by rfl) (by rfl)
  refine region_ (wE := ⟨w, [g]⟩) (sz := 35) (n := 10) (B := [0, 1, 3, 0, 8, 24, 56, 120, 248, 511]) [0, 1, 2, 3, 4, 5, 6, 7, 8, 9] [(0, .val (.pointer (some ⟨g, 0, none⟩))), (1, .val (.string (r))), (4, .val (.int .i64 (0))), (5, .val (.int .i64 (0))), (9, .val (.bool false)), (20, .val (.bool true))] [(0, 11, .val (.string (r))), (1, 12, .val (.int .i64 (((r).size : Int)))), (2, 13, .val (.int .i64 ((encLen r.size : Int)))), (3, 14, .val (.pointer (some ⟨g, 0, none⟩))), (4, 15, .val (.pointer (some ⟨g, 0, none⟩))), (5, 16, .val (.pointer (some ⟨g, 0, none⟩))), (6, 17, .val (.string (al))), (7, 18, .val (.int .i64 (((al).size : Int)))), (8, 19, .val (.int .i64 ((4194304 : Int) - (al.size : Int)))), (9, 20, .val (.bool true))] [⟨g, none, none, (), 6, spC ⟨al, sy, false, acts, inn, keep⟩, spC ⟨al, sy, false, acts, inn, keep⟩, 53⟩] (by rfl) rfl tabab4 bitsab4 (by kernel_rfl) (by kernel_rfl) HH3 rfl rfl hLo rfl HS3 (slS 0 rfl rfl (slS 1 rfl rfl (slS 2 rfl rfl (slS 3 rfl rfl (slS 4 rfl rfl (slL 9 (d := 9) rfl (trivial))))))) ?_ ?_
  · show ∀ i ∈ [0, 1, 2, 3, 4, 5, 6, 7, 8, 9], _
    refine steps_cons (st_run 0 _ rfl rfl hLo rfl rfl (fun _ _ _ _ => rfl) (fun b G w hb ho => exec_move (.inl rfl) (ev_off rfl (HS3.get 1 rfl)))) ?_
    refine steps_cons (st_run 1 _ rfl rfl hLo rfl rfl (fun _ _ _ _ => rfl) (fun b G w hb ho => exec_lenS Try.underlying9 rfl (ev_on hLo 0 rfl HS3.1 rfl (hb 0 (by rfl))))) ?_
    refine steps_cons (st_call 2 _ #[.int .i64 (((r).size : Int))] rfl rfl rfl (fun _ _ _ _ => rfl) hLo rfl rfl Try.func36 rfl rfl (fun b G hb ho => args1 (ev_on hLo 1 rfl HS3.1 rfl (hb 1 (by rfl)))) (fun w hw => len_calls (by omega) _)) ?_
    refine steps_cons (st_run 3 _ rfl rfl hLo rfl rfl (fun _ _ _ _ => rfl) (fun b G w hb ho => exec_move (.inl rfl) (ev_off rfl (HS3.get 0 rfl)))) ?_
    refine steps_cons (st_run 4 _ rfl rfl hLo rfl rfl (fun _ _ _ _ => rfl) (fun b G w hb ho => exec_nil rfl (ev_on hLo 3 rfl HS3.1 rfl (hb 3 (by rfl))))) ?_
    refine steps_cons (st_run 5 _ rfl rfl hLo rfl rfl (fun _ _ _ _ => rfl) (fun b G w hb ho => exec_field rfl (ev_on hLo 4 rfl HS3.1 rfl (hb 4 (by rfl))) (by kernel_rfl))) ?_
    refine steps_cons (st_read 6 0 _ _ rfl rfl rfl hLo rfl rfl (fun _ _ _ _ => rfl) (by rfl) (by rfl) (fun b G w hb ho hr => exec_cell hr (Nat.le_of_ble_eq_true rfl) Try.underlying9 rfl rfl (ev_on hLo 5 rfl HS3.1 rfl (hb 5 (by rfl))))) ?_
    refine steps_cons (st_run 7 _ rfl rfl hLo rfl rfl (fun _ _ _ _ => rfl) (fun b G w hb ho => exec_lenS Try.underlying9 rfl (ev_on hLo 6 rfl HS3.1 rfl (hb 6 (by rfl))))) ?_
    refine steps_cons (st_run 8 _ rfl rfl hLo rfl rfl (fun _ _ _ _ => rfl) (fun b G w hb ho => exec_bin rfl (rfl) (ev_on hLo 7 rfl HS3.1 rfl (hb 7 (by rfl))) (rb_sub (w_int (by omega) (by omega)) _ _ _))) ?_
    refine steps_cons (st_run 9 _ rfl rfl hLo rfl rfl (fun _ _ _ _ => rfl) (fun b G w hb ho => exec_bin rfl (ev_on hLo 2 rfl HS3.1 rfl (hb 2 (by rfl))) (ev_on hLo 8 rfl HS3.1 rfl (hb 8 (by rfl))) (rb_geq (decide_eq_true (by omega)) _ _ _))) ?_
    exact steps_nil
  clear hLo
  intro G a4 w4 hS hH
  have HS4 : Sl a4 35 [(0, .pointer (some ⟨g, 0, none⟩)), (1, .string (r)), (4, .int .i64 (0)), (5, .int .i64 (0)), (9, .bool false), (20, .bool true)] := hS
  have HH4 : Held ⟨w, [g]⟩ w4 [⟨g, (), 6, spC ⟨al, sy, false, acts, inn, keep⟩, 53⟩] := hH
  clear hS hH HS3 HH3
  refine then_ ?_
  refine wp_cond_true (HS4.get 5 rfl) ?_
  refine wp_seq ?_
  have hLo : LOk [(0, 4, .val (.int .i64 (51)))] := lok (by rfl) (by rfl)
  refine plain_ (wE := ⟨w, [g]⟩) (sz := 35) (n := 1) [0] [(0, .val (.pointer (some ⟨g, 0, none⟩))), (1, .val (.string (r))), (5, .val (.int .i64 (0))), (9, .val (.bool false)), (20, .val (.bool true)), (4, .val (.int .i64 (51)))] [(0, 4, .val (.int .i64 (51)))] [⟨g, none, none, (), 6, spC ⟨al, sy, false, acts, inn, keep⟩, spC ⟨al, sy, false, acts, inn, keep⟩, 53⟩] rfl (by rfl) HH4 rfl rfl hLo rfl HS4 (slS 0 rfl rfl (slS 1 rfl rfl (slS 3 rfl rfl (slS 4 rfl rfl (slS 5 rfl rfl (slL 0 (d := 0) rfl (trivial))))))) ?_ ?_
  · show ∀ i ∈ [0], _
    refine steps_cons (st_run 0 _ rfl rfl hLo rfl rfl (fun _ _ _ _ => rfl) (fun b G w hb ho => exec_move (.inr rfl) (rfl))) ?_
    exact steps_nil
  clear hLo
  intro G a5 w5 hS hH
  have HS5 : Sl a5 35 [(0, .pointer (some ⟨g, 0, none⟩)), (1, .string (r)), (5, .int .i64 (0)), (9, .bool false), (20, .bool true), (4, .int .i64 (51))] := hS
  have HH5 : Held ⟨w, [g]⟩ w5 [⟨g, (), 6, spC ⟨al, sy, false, acts, inn, keep⟩, 53⟩] := hH
  clear hS hH HS4 HH4
  refine then_ ?_
  refine wp_ret ?_
  repeat (first | refine then_ret ?_ | refine inBlock_ret' ?_)
  exact b_tmp rfl HS5.2.1 (HS5.get 5 rfl) ⟨rfl, Row.norm (HH5.row 0 rfl) (six ⟨rfl, rfl, rfl, rfl, rfl, rfl⟩), HH5.1⟩
theorem app_goes {w : World} {g : Nat} {al : ByteArray} {sy : Nat} {acts : Nat} {keep : Int} {r : ByteArray} (hr : Row w g () 6 (spC ⟨al, sy, false, acts, 1, keep⟩) 53) (hs : r.size ≤ 1073741824) (hf : encLen r.size + al.size < 4194304) (hac : acts ≤ 1000000) (hsy : sy ≤ al.size) : Calls Try.prog 16 #[.pointer (some ⟨g, 0, none⟩), .string (r)] w fun e w' => e = .returned (.int .i64 50) ∧ Row w' g () 6 (spC ⟨(al ++ lineS r).extract 0 (sy + kp keep ((al ++ lineS r).size - sy)), sy + kp keep ((al ++ lineS r).size - sy), true, acts + 1, 0, keep⟩) 53 ∧ Fr ⟨w, [g]⟩ w' := by
  refine enter_ 35 Try.func16 rfl rfl (fun a0 hS => ?_)
  have HS0 : Sl a0 35 [(0, .pointer (some ⟨g, 0, none⟩)), (1, .string (r))] := hS
  have HH0 : Held ⟨w, [g]⟩ w [⟨g, (), 6, spC ⟨al, sy, false, acts, 1, keep⟩, 53⟩] := Held.one hr
  clear hS
  refine wp_seq ?_
  have hLo : LOk [(0, 4, .val (.int .i64 (0)))] := lok (by rfl) (by rfl)
  refine plain_ (wE := ⟨w, [g]⟩) (sz := 35) (n := 1) [0] [(0, .val (.pointer (some ⟨g, 0, none⟩))), (1, .val (.string (r))), (4, .val (.int .i64 (0)))] [(0, 4, .val (.int .i64 (0)))] [⟨g, none, none, (), 6, spC ⟨al, sy, false, acts, 1, keep⟩, spC ⟨al, sy, false, acts, 1, keep⟩, 53⟩] rfl (by rfl) HH0 rfl rfl hLo rfl HS0 (slS 0 rfl rfl (slS 1 rfl rfl (slL 0 (d := 0) rfl (trivial)))) ?_ ?_
  · show ∀ i ∈ [0], _
    refine steps_cons (st_run 0 _ rfl rfl hLo rfl rfl (fun _ _ _ _ => rfl) (fun b G w hb ho => exec_move (.inr rfl) (rfl))) ?_
    exact steps_nil
  clear hLo
  intro G a1 w1 hS hH
  have HS1 : Sl a1 35 [(0, .pointer (some ⟨g, 0, none⟩)), (1, .string (r)), (4, .int .i64 (0))] := hS
  have HH1 : Held ⟨w, [g]⟩ w1 [⟨g, (), 6, spC ⟨al, sy, false, acts, 1, keep⟩, 53⟩] := hH
  clear hS hH HS0 HH0
  refine then_ ?_
  refine wp_seq ?_
  refine wp_seq ?_
  have hLo : LOk [(0, 6, .val (.pointer (some ⟨g, 0, none⟩))), (1, 7, .val (.int .i64 (0))), (2, 5, .val (.int .i64 (0)))] := lok (by rfl) (by rfl)
  refine plain_ (wE := ⟨w, [g]⟩) (sz := 35) (n := 3) [0, 1, 3] [(0, .val (.pointer (some ⟨g, 0, none⟩))), (1, .val (.string (r))), (4, .val (.int .i64 (0))), (5, .val (.int .i64 (0)))] [(0, 6, .val (.pointer (some ⟨g, 0, none⟩))), (1, 7, .val (.int .i64 (0))), (2, 5, .val (.int .i64 (0)))] [⟨g, none, none, (), 6, spC ⟨al, sy, false, acts, 1, keep⟩, spC ⟨al, sy, false, acts, 1, keep⟩, 53⟩] rfl (by rfl) HH1 rfl rfl hLo rfl HS1 (slS 0 rfl rfl (slS 1 rfl rfl (slS 2 rfl rfl (slL 2 (d := 2) rfl (trivial))))) ?_ ?_
  · show ∀ i ∈ [0, 1, 2], _
    refine steps_cons (st_run 0 _ rfl rfl hLo rfl rfl (fun _ _ _ _ => rfl) (fun b G w hb ho => exec_move (.inl rfl) (ev_off rfl (HS1.get 0 rfl)))) ?_
    refine steps_cons (st_callRB 1 0 _ _ (fun G => #[.pointer (some ⟨g, 0, none⟩)]) rfl rfl rfl rfl (fun _ _ _ _ => rfl) hLo rfl rfl (by rfl) (by rfl) Try.func29 rfl rfl (fun b G hb ho => args1 (ev_on hLo 0 rfl HS1.1 rfl (hb 0 (by rfl)))) (fun G w hw hr => ready_on hr)) ?_
    refine steps_cons (st_run 2 _ rfl rfl hLo rfl rfl (fun _ _ _ _ => rfl) (fun b G w hb ho => exec_move (.inr rfl) (ev_on hLo 1 rfl HS1.1 rfl (hb 1 (by rfl))))) ?_
    exact steps_nil
  clear hLo
  intro G a2 w2 hS hH
  have HS2 : Sl a2 35 [(0, .pointer (some ⟨g, 0, none⟩)), (1, .string (r)), (4, .int .i64 (0)), (5, .int .i64 (0))] := hS
  have HH2 : Held ⟨w, [g]⟩ w2 [⟨g, (), 6, spC ⟨al, sy, false, acts, 1, keep⟩, 53⟩] := hH
  clear hS hH HS1 HH1
  refine then_ ?_
  refine wp_seq ?_
  have hLo : LOk [(0, 8, .val (.int .i64 (0))), (1, 9, .val (.bool false))] := lok (by rfl) (by rfl)
  refine plain_ (wE := ⟨w, [g]⟩) (sz := 35) (n := 2) [0, 1] [(0, .val (.pointer (some ⟨g, 0, none⟩))), (1, .val (.string (r))), (4, .val (.int .i64 (0))), (5, .val (.int .i64 (0))), (9, .val (.bool false))] [(0, 8, .val (.int .i64 (0))), (1, 9, .val (.bool false))] [⟨g, none, none, (), 6, spC ⟨al, sy, false, acts, 1, keep⟩, spC ⟨al, sy, false, acts, 1, keep⟩, 53⟩] rfl (by rfl) HH2 rfl rfl hLo rfl HS2 (slS 0 rfl rfl (slS 1 rfl rfl (slS 2 rfl rfl (slS 3 rfl rfl (slL 1 (d := 1) rfl (trivial)))))) ?_ ?_
  · show ∀ i ∈ [0, 1], _
    refine steps_cons (st_run 0 _ rfl rfl hLo rfl rfl (fun _ _ _ _ => rfl) (fun b G w hb ho => exec_move (.inl rfl) (ev_off rfl (HS2.get 3 rfl)))) ?_
    refine steps_cons (st_run 1 _ rfl rfl hLo rfl rfl (fun _ _ _ _ => rfl) (fun b G w hb ho => exec_bin rfl (ev_on hLo 0 rfl HS2.1 rfl (hb 0 (by rfl))) (rfl) (rb_neq (rfl) _ _ _))) ?_
    exact steps_nil
  clear hLo
  intro G a3 w3 hS hH
  have HS3 : Sl a3 35 [(0, .pointer (some ⟨g, 0, none⟩)), (1, .string (r)), (4, .int .i64 (0)), (5, .int .i64 (0)), (9, .bool false)] := hS
  have HH3 : Held ⟨w, [g]⟩ w3 [⟨g, (), 6, spC ⟨al, sy, false, acts, 1, keep⟩, 53⟩] := hH
  clear hS hH HS2 HH2
  refine then_ ?_
  refine wp_cond_false (HS3.get 4 rfl) ?_
  refine wp_skip ?_
  refine then_ ?_
  refine wp_seq ?_
  refine wp_seq ?_
  have hLo : LOk [(0, 11, .val (.string (r))), (1, 12, .val (.int .i64 (((r).size : Int)))), (2, 13, .val (.int .i64 ((encLen r.size : Int)))), (3, 14, .val (.pointer (some ⟨g, 0, none⟩))), (4, 15, .val (.pointer (some ⟨g, 0, none⟩))), (5, 16, .val (.pointer (some ⟨g, 0, none⟩))), (6, 17, .val (.string (al))), (7, 18, .val (.int .i64 (((al).size : Int)))), (8, 19, .val (.int .i64 ((4194304 : Int) - (al.size : Int)))), (9, 20, .val (.bool false))] := lok (by rfl) (by rfl)
  refine region_ (wE := ⟨w, [g]⟩) (sz := 35) (n := 10) (B := [0, 1, 3, 0, 8, 24, 56, 120, 248, 511]) [0, 1, 2, 3, 4, 5, 6, 7, 8, 9] [(0, .val (.pointer (some ⟨g, 0, none⟩))), (1, .val (.string (r))), (4, .val (.int .i64 (0))), (5, .val (.int .i64 (0))), (9, .val (.bool false)), (20, .val (.bool false))] [(0, 11, .val (.string (r))), (1, 12, .val (.int .i64 (((r).size : Int)))), (2, 13, .val (.int .i64 ((encLen r.size : Int)))), (3, 14, .val (.pointer (some ⟨g, 0, none⟩))), (4, 15, .val (.pointer (some ⟨g, 0, none⟩))), (5, 16, .val (.pointer (some ⟨g, 0, none⟩))), (6, 17, .val (.string (al))), (7, 18, .val (.int .i64 (((al).size : Int)))), (8, 19, .val (.int .i64 ((4194304 : Int) - (al.size : Int)))), (9, 20, .val (.bool false))] [⟨g, none, none, (), 6, spC ⟨al, sy, false, acts, 1, keep⟩, spC ⟨al, sy, false, acts, 1, keep⟩, 53⟩] (by rfl) rfl tabac4 bitsac4 (by kernel_rfl) (by kernel_rfl) HH3 rfl rfl hLo rfl HS3 (slS 0 rfl rfl (slS 1 rfl rfl (slS 2 rfl rfl (slS 3 rfl rfl (slS 4 rfl rfl (slL 9 (d := 9) rfl (trivial))))))) ?_ ?_
  · show ∀ i ∈ [0, 1, 2, 3, 4, 5, 6, 7, 8, 9], _
    refine steps_cons (st_run 0 _ rfl rfl hLo rfl rfl (fun _ _ _ _ => rfl) (fun b G w hb ho => exec_move (.inl rfl) (ev_off rfl (HS3.get 1 rfl)))) ?_
    refine steps_cons (st_run 1 _ rfl rfl hLo rfl rfl (fun _ _ _ _ => rfl) (fun b G w hb ho => exec_lenS Try.underlying9 rfl (ev_on hLo 0 rfl HS3.1 rfl (hb 0 (by rfl))))) ?_
    refine steps_cons (st_call 2 _ #[.int .i64 (((r).size : Int))] rfl rfl rfl (fun _ _ _ _ => rfl) hLo rfl rfl Try.func36 rfl rfl (fun b G hb ho => args1 (ev_on hLo 1 rfl HS3.1 rfl (hb 1 (by rfl)))) (fun w hw => len_calls (by omega) _)) ?_
    refine steps_cons (st_run 3 _ rfl rfl hLo rfl rfl (fun _ _ _ _ => rfl) (fun b G w hb ho => exec_move (.inl rfl) (ev_off rfl (HS3.get 0 rfl)))) ?_
    refine steps_cons (st_run 4 _ rfl rfl hLo rfl rfl (fun _ _ _ _ => rfl) (fun b G w hb ho => exec_nil rfl (ev_on hLo 3 rfl HS3.1 rfl (hb 3 (by rfl))))) ?_
    refine steps_cons (st_run 5 _ rfl rfl hLo rfl rfl (fun _ _ _ _ => rfl) (fun b G w hb ho => exec_field rfl (ev_on hLo 4 rfl HS3.1 rfl (hb 4 (by rfl))) (by kernel_rfl))) ?_
    refine steps_cons (st_read 6 0 _ _ rfl rfl rfl hLo rfl rfl (fun _ _ _ _ => rfl) (by rfl) (by rfl) (fun b G w hb ho hr => exec_cell hr (Nat.le_of_ble_eq_true rfl) Try.underlying9 rfl rfl (ev_on hLo 5 rfl HS3.1 rfl (hb 5 (by rfl))))) ?_
    refine steps_cons (st_run 7 _ rfl rfl hLo rfl rfl (fun _ _ _ _ => rfl) (fun b G w hb ho => exec_lenS Try.underlying9 rfl (ev_on hLo 6 rfl HS3.1 rfl (hb 6 (by rfl))))) ?_
    refine steps_cons (st_run 8 _ rfl rfl hLo rfl rfl (fun _ _ _ _ => rfl) (fun b G w hb ho => exec_bin rfl (rfl) (ev_on hLo 7 rfl HS3.1 rfl (hb 7 (by rfl))) (rb_sub (w_int (by omega) (by omega)) _ _ _))) ?_
    refine steps_cons (st_run 9 _ rfl rfl hLo rfl rfl (fun _ _ _ _ => rfl) (fun b G w hb ho => exec_bin rfl (ev_on hLo 2 rfl HS3.1 rfl (hb 2 (by rfl))) (ev_on hLo 8 rfl HS3.1 rfl (hb 8 (by rfl))) (rb_geq (decide_eq_false (by omega)) _ _ _))) ?_
    exact steps_nil
  clear hLo
  intro G a4 w4 hS hH
  have HS4 : Sl a4 35 [(0, .pointer (some ⟨g, 0, none⟩)), (1, .string (r)), (4, .int .i64 (0)), (5, .int .i64 (0)), (9, .bool false), (20, .bool false)] := hS
  have HH4 : Held ⟨w, [g]⟩ w4 [⟨g, (), 6, spC ⟨al, sy, false, acts, 1, keep⟩, 53⟩] := hH
  clear hS hH HS3 HH3
  refine then_ ?_
  refine wp_cond_false (HS4.get 5 rfl) ?_
  refine wp_skip ?_
  refine then_ ?_
  refine wp_seq ?_
  refine regionF_ (sz := 35) (n := 12) (B := [0, 1, 3, 7, 0, 16, 48, 112, 255, 511, 1023, 2047]) [0, 1, 2, 3, 4, 5, 6, 7, 8, 9, 10, 11] [(0, 21), (1, 22), (2, 23), (3, 24), (4, 25), (5, 26), (6, 27), (7, 28), (8, 29), (9, 30), (10, 31)] (FT ⟨w, [g]⟩ [some (.pointer (some ⟨g, 0, none⟩)), some (.pointer (some ⟨g, 0, none⟩)), some (.pointer (some ⟨g, 0, none⟩)), some (.string al), some (.string r), none, some (.string (encS (bytesOf r) true)), some (.string (lineS r)), some (.string (al ++ lineS r)), some (.pointer (some ⟨g, 0, none⟩)), some (.pointer (some ⟨g, 0, none⟩)), none] 5 r g 6 11 (spC ⟨al, sy, false, acts, 1, keep⟩) (upd (spC ⟨al, sy, false, acts, 1, keep⟩) 0 (.s (al ++ lineS r))) 53) (by rfl) rfl tabac6 bitsac6 (by kernel_rfl) (by kernel_rfl) (by rfl) ⟨rfl, rfl⟩ HS4 (fun V => FT.first V HH4) ?_ ?_
  · show ∀ i ∈ [0, 1, 2, 3, 4, 5, 6, 7, 8, 9, 10, 11], _
    refine steps_cons (ft_run 0 _ ⟨rfl, rfl⟩ rfl rfl rfl (fun _ _ => rfl) rfl rfl rfl (fun V b w hF hbi hon hoff => exec_move (.inl rfl) (cf_off rfl (HS4.get 0 rfl)))) ?_
    refine steps_cons (ft_run 1 _ ⟨rfl, rfl⟩ rfl rfl rfl (fun _ _ => rfl) rfl rfl rfl (fun V b w hF hbi hon hoff => exec_nil rfl ((cf_on ⟨rfl, rfl⟩ 0 rfl HS4.1 rfl (hon 0 (by rfl))).trans (hF.vs 0 _ rfl (hon 0 (by rfl)))))) ?_
    refine steps_cons (ft_run 2 _ ⟨rfl, rfl⟩ rfl rfl rfl (fun _ _ => rfl) rfl rfl rfl (fun V b w hF hbi hon hoff => exec_field rfl ((cf_on ⟨rfl, rfl⟩ 1 rfl HS4.1 rfl (hon 1 (by rfl))).trans (hF.vs 1 _ rfl (hon 1 (by rfl)))) (by kernel_rfl))) ?_
    refine steps_cons (ft_run 3 _ ⟨rfl, rfl⟩ rfl rfl rfl (fun _ _ => rfl) rfl rfl rfl (fun V b w hF hbi hon hoff => exec_cell (hF.row0 (hoff 11 (by rfl))) (Nat.le_of_ble_eq_true rfl) Try.underlying9 rfl rfl ((cf_on ⟨rfl, rfl⟩ 2 rfl HS4.1 rfl (hon 2 (by rfl))).trans (hF.vs 2 _ rfl (hon 2 (by rfl)))))) ?_
    refine steps_cons (ft_run 4 _ ⟨rfl, rfl⟩ rfl rfl rfl (fun _ _ => rfl) rfl rfl rfl (fun V b w hF hbi hon hoff => exec_move (.inl rfl) (cf_off rfl (HS4.get 1 rfl)))) ?_
    refine steps_cons (ft_bytes 5 ⟨rfl, rfl⟩ rfl rfl rfl (fun _ _ => rfl) rfl rfl rfl rfl Try.underlying9 Try.underlying58 Try.underlying5 hs (fun V b w hF hbi hon hoff => ((cf_on ⟨rfl, rfl⟩ 4 rfl HS4.1 rfl (hon 4 (by rfl))).trans (hF.vs 4 _ rfl (hon 4 (by rfl)))))) ?_
    refine steps_cons (ft_call 6 _ ⟨rfl, rfl⟩ rfl rfl rfl rfl (fun _ _ => rfl) rfl rfl rfl Try.func37 rfl rfl (fun V b w hF hbi hon hoff => ⟨_, args2 (cf_on ⟨rfl, rfl⟩ 5 rfl HS4.1 rfl (hon 5 (by rfl))) rfl, br_enc (hF.br (hoff 11 (by rfl)) (hon 5 (by rfl))) hs⟩)) ?_
    refine steps_cons (ft_run 7 _ ⟨rfl, rfl⟩ rfl rfl rfl (fun _ _ => rfl) rfl rfl rfl (fun V b w hF hbi hon hoff => exec_bin rfl ((cf_on ⟨rfl, rfl⟩ 6 rfl HS4.1 rfl (hon 6 (by rfl))).trans (hF.vs 6 _ rfl (hon 6 (by rfl)))) rfl (rb_sadd (by rw [enc_size]; show encLen r.size + 1 ≤ _; omega) _ _ _))) ?_
    refine steps_cons (ft_run 8 _ ⟨rfl, rfl⟩ rfl rfl rfl (fun _ _ => rfl) rfl rfl rfl (fun V b w hF hbi hon hoff => exec_bin rfl ((cf_on ⟨rfl, rfl⟩ 3 rfl HS4.1 rfl (hon 3 (by rfl))).trans (hF.vs 3 _ rfl (hon 3 (by rfl)))) ((cf_on ⟨rfl, rfl⟩ 7 rfl HS4.1 rfl (hon 7 (by rfl))).trans (hF.vs 7 _ rfl (hon 7 (by rfl)))) (rb_sadd (by rw [lineS_size]; omega) _ _ _))) ?_
    refine steps_cons (ft_run 9 _ ⟨rfl, rfl⟩ rfl rfl rfl (fun _ _ => rfl) rfl rfl rfl (fun V b w hF hbi hon hoff => exec_nil rfl ((cf_on ⟨rfl, rfl⟩ 0 rfl HS4.1 rfl (hon 0 (by rfl))).trans (hF.vs 0 _ rfl (hon 0 (by rfl)))))) ?_
    refine steps_cons (ft_run 10 _ ⟨rfl, rfl⟩ rfl rfl rfl (fun _ _ => rfl) rfl rfl rfl (fun V b w hF hbi hon hoff => exec_field rfl ((cf_on ⟨rfl, rfl⟩ 9 rfl HS4.1 rfl (hon 9 (by rfl))).trans (hF.vs 9 _ rfl (hon 9 (by rfl)))) (by kernel_rfl))) ?_
    refine steps_cons (ft_put rfl rfl (by rfl) (fun _ _ => rfl) rfl rfl rfl (fun V b w hF hbi hon hoff hrw => exec_put1 hrw (Nat.le_of_ble_eq_true rfl) (by kernel_rfl) rfl ((cf_on ⟨rfl, rfl⟩ 10 rfl HS4.1 rfl (hon 10 (by rfl))).trans (hF.vs 10 _ rfl (hon 10 (by rfl)))) ((cf_on ⟨rfl, rfl⟩ 8 rfl HS4.1 rfl (hon 8 (by rfl))).trans (hF.vs 8 _ rfl (hon 8 (by rfl)))))) ?_
    exact steps_nil
  intro V b5 a5 w5 hall hF hS
  have HS5 : Sl a5 35 [(0, .pointer (some ⟨g, 0, none⟩)), (1, .string (r)), (4, .int .i64 (0)), (5, .int .i64 (0)), (9, .bool false), (20, .bool false)] := sl_keep hS [11, 12, 13, 14, 15, 16] (by rfl)
  have HH5 : Held ⟨w, [g]⟩ w5 [⟨g, (), 6, upd (spC ⟨al, sy, false, acts, 1, keep⟩) 0 (.s (al ++ lineS r)), 53⟩] := hF.held (hall 11 rfl)
  clear hS hF hall
  refine then_ ?_
  refine wp_seq ?_
  refine wp_seq ?_
  have hLo : LOk [(0, 32, .val (.pointer (some ⟨g, 0, none⟩))), (1, 33, .val (.bool false)), (2, 34, .val (.bool true))] := lok (by rfl) (by rfl)
  refine plain_ (wE := ⟨w, [g]⟩) (sz := 35) (n := 3) [0, 1, 3] [(0, .val (.pointer (some ⟨g, 0, none⟩))), (1, .val (.string (r))), (4, .val (.int .i64 (0))), (5, .val (.int .i64 (0))), (9, .val (.bool false)), (20, .val (.bool false)), (34, .val (.bool true))] [(0, 32, .val (.pointer (some ⟨g, 0, none⟩))), (1, 33, .val (.bool false)), (2, 34, .val (.bool true))] [⟨g, none, some 1, (), 6, upd (spC ⟨al, sy, false, acts, 1, keep⟩) 0 (.s (al ++ lineS r)), spC ⟨(al ++ lineS r).extract 0 (sy + kp keep ((al ++ lineS r).size - sy)), sy + kp keep ((al ++ lineS r).size - sy), true, acts + 1, 0, keep⟩, 53⟩] rfl (by rfl) HH5 rfl rfl hLo rfl HS5 (slS 0 rfl rfl (slS 1 rfl rfl (slS 2 rfl rfl (slS 3 rfl rfl (slS 4 rfl rfl (slS 5 rfl rfl (slL 2 (d := 2) rfl (trivial)))))))) ?_ ?_
  · show ∀ i ∈ [0, 1, 2], _
    refine steps_cons (st_run 0 _ rfl rfl hLo rfl rfl (fun _ _ _ _ => rfl) (fun b G w hb ho => exec_move (.inl rfl) (ev_off rfl (HS5.get 0 rfl)))) ?_
    refine steps_cons (st_callM 1 0 _ _ (fun G => #[.pointer (some ⟨g, 0, none⟩)]) rfl rfl rfl rfl rfl (fun _ _ _ _ => rfl) hLo rfl (by rfl) (by rfl) (by rfl) Try.func38 rfl rfl (fun b G hb ho => args1 (ev_on hLo 0 rfl HS5.1 rfl (hb 0 (by rfl)))) (fun G w hw hr => act_goes (hr.norm (six ⟨rfl, rfl, rfl, rfl, rfl, rfl⟩)) (by rw [ByteArray.size_append]; omega) (by rw [ByteArray.size_append, lineS_size]; omega) hac)) ?_
    refine steps_cons (st_run 2 _ rfl rfl hLo rfl rfl (fun _ _ _ _ => rfl) (fun b G w hb ho => exec_un rfl (ev_on hLo 1 rfl HS5.1 rfl (hb 1 (by rfl))) (ru_not _))) ?_
    exact steps_nil
  clear hLo
  intro G a6 w6 hS hH
  have HS6 : Sl a6 35 [(0, .pointer (some ⟨g, 0, none⟩)), (1, .string (r)), (4, .int .i64 (0)), (5, .int .i64 (0)), (9, .bool false), (20, .bool false), (34, .bool true)] := hS
  have HH6 : Held ⟨w, [g]⟩ w6 [⟨g, (), 6, spC ⟨(al ++ lineS r).extract 0 (sy + kp keep ((al ++ lineS r).size - sy)), sy + kp keep ((al ++ lineS r).size - sy), true, acts + 1, 0, keep⟩, 53⟩] := hH
  clear hS hH HS5 HH5
  refine then_ ?_
  refine wp_cond_true (HS6.get 6 rfl) ?_
  refine wp_seq ?_
  have hLo : LOk [(0, 4, .val (.int .i64 (50)))] := lok (by rfl) (by rfl)
  refine plain_ (wE := ⟨w, [g]⟩) (sz := 35) (n := 1) [0] [(0, .val (.pointer (some ⟨g, 0, none⟩))), (1, .val (.string (r))), (5, .val (.int .i64 (0))), (9, .val (.bool false)), (20, .val (.bool false)), (34, .val (.bool true)), (4, .val (.int .i64 (50)))] [(0, 4, .val (.int .i64 (50)))] [⟨g, none, none, (), 6, spC ⟨(al ++ lineS r).extract 0 (sy + kp keep ((al ++ lineS r).size - sy)), sy + kp keep ((al ++ lineS r).size - sy), true, acts + 1, 0, keep⟩, spC ⟨(al ++ lineS r).extract 0 (sy + kp keep ((al ++ lineS r).size - sy)), sy + kp keep ((al ++ lineS r).size - sy), true, acts + 1, 0, keep⟩, 53⟩] rfl (by rfl) HH6 rfl rfl hLo rfl HS6 (slS 0 rfl rfl (slS 1 rfl rfl (slS 3 rfl rfl (slS 4 rfl rfl (slS 5 rfl rfl (slS 6 rfl rfl (slL 0 (d := 0) rfl (trivial)))))))) ?_ ?_
  · show ∀ i ∈ [0], _
    refine steps_cons (st_run 0 _ rfl rfl hLo rfl rfl (fun _ _ _ _ => rfl) (fun b G w hb ho => exec_move (.inr rfl) (rfl))) ?_
    exact steps_nil
  clear hLo
  intro G a7 w7 hS hH
  have HS7 : Sl a7 35 [(0, .pointer (some ⟨g, 0, none⟩)), (1, .string (r)), (5, .int .i64 (0)), (9, .bool false), (20, .bool false), (34, .bool true), (4, .int .i64 (50))] := hS
  have HH7 : Held ⟨w, [g]⟩ w7 [⟨g, (), 6, spC ⟨(al ++ lineS r).extract 0 (sy + kp keep ((al ++ lineS r).size - sy)), sy + kp keep ((al ++ lineS r).size - sy), true, acts + 1, 0, keep⟩, 53⟩] := hH
  clear hS hH HS6 HH6
  refine then_ ?_
  refine wp_ret ?_
  repeat (first | refine then_ret ?_ | refine inBlock_ret' ?_)
  exact b_tmp rfl HS7.2.1 (HS7.get 6 rfl) ⟨rfl, Row.norm (HH7.row 0 rfl) (six ⟨rfl, rfl, rfl, rfl, rfl, rfl⟩), HH7.1⟩
theorem app_stays {w : World} {g : Nat} {al : ByteArray} {sy : Nat} {acts inn : Nat} {keep : Int} {r : ByteArray} (hr : Row w g () 6 (spC ⟨al, sy, false, acts, inn, keep⟩) 53) (hs : r.size ≤ 1073741824) (hf : encLen r.size + al.size < 4194304) (hac : acts ≤ 1000000) (hin : inn < 9223372036854775808) (hi1 : inn ≠ 1) : Calls Try.prog 16 #[.pointer (some ⟨g, 0, none⟩), .string (r)] w fun e w' => e = .returned (.int .i64 0) ∧ Row w' g () 6 (spC ⟨(al ++ lineS r), sy, false, acts + 1, inn - 1, keep⟩) 53 ∧ Fr ⟨w, [g]⟩ w' := by
  refine enter_ 35 Try.func16 rfl rfl (fun a0 hS => ?_)
  have HS0 : Sl a0 35 [(0, .pointer (some ⟨g, 0, none⟩)), (1, .string (r))] := hS
  have HH0 : Held ⟨w, [g]⟩ w [⟨g, (), 6, spC ⟨al, sy, false, acts, inn, keep⟩, 53⟩] := Held.one hr
  clear hS
  refine wp_seq ?_
  have hLo : LOk [(0, 4, .val (.int .i64 (0)))] := lok (by rfl) (by rfl)
  refine plain_ (wE := ⟨w, [g]⟩) (sz := 35) (n := 1) [0] [(0, .val (.pointer (some ⟨g, 0, none⟩))), (1, .val (.string (r))), (4, .val (.int .i64 (0)))] [(0, 4, .val (.int .i64 (0)))] [⟨g, none, none, (), 6, spC ⟨al, sy, false, acts, inn, keep⟩, spC ⟨al, sy, false, acts, inn, keep⟩, 53⟩] rfl (by rfl) HH0 rfl rfl hLo rfl HS0 (slS 0 rfl rfl (slS 1 rfl rfl (slL 0 (d := 0) rfl (trivial)))) ?_ ?_
  · show ∀ i ∈ [0], _
    refine steps_cons (st_run 0 _ rfl rfl hLo rfl rfl (fun _ _ _ _ => rfl) (fun b G w hb ho => exec_move (.inr rfl) (rfl))) ?_
    exact steps_nil
  clear hLo
  intro G a1 w1 hS hH
  have HS1 : Sl a1 35 [(0, .pointer (some ⟨g, 0, none⟩)), (1, .string (r)), (4, .int .i64 (0))] := hS
  have HH1 : Held ⟨w, [g]⟩ w1 [⟨g, (), 6, spC ⟨al, sy, false, acts, inn, keep⟩, 53⟩] := hH
  clear hS hH HS0 HH0
  refine then_ ?_
  refine wp_seq ?_
  refine wp_seq ?_
  have hLo : LOk [(0, 6, .val (.pointer (some ⟨g, 0, none⟩))), (1, 7, .val (.int .i64 (0))), (2, 5, .val (.int .i64 (0)))] := lok (by rfl) (by rfl)
  refine plain_ (wE := ⟨w, [g]⟩) (sz := 35) (n := 3) [0, 1, 3] [(0, .val (.pointer (some ⟨g, 0, none⟩))), (1, .val (.string (r))), (4, .val (.int .i64 (0))), (5, .val (.int .i64 (0)))] [(0, 6, .val (.pointer (some ⟨g, 0, none⟩))), (1, 7, .val (.int .i64 (0))), (2, 5, .val (.int .i64 (0)))] [⟨g, none, none, (), 6, spC ⟨al, sy, false, acts, inn, keep⟩, spC ⟨al, sy, false, acts, inn, keep⟩, 53⟩] rfl (by rfl) HH1 rfl rfl hLo rfl HS1 (slS 0 rfl rfl (slS 1 rfl rfl (slS 2 rfl rfl (slL 2 (d := 2) rfl (trivial))))) ?_ ?_
  · show ∀ i ∈ [0, 1, 2], _
    refine steps_cons (st_run 0 _ rfl rfl hLo rfl rfl (fun _ _ _ _ => rfl) (fun b G w hb ho => exec_move (.inl rfl) (ev_off rfl (HS1.get 0 rfl)))) ?_
    refine steps_cons (st_callRB 1 0 _ _ (fun G => #[.pointer (some ⟨g, 0, none⟩)]) rfl rfl rfl rfl (fun _ _ _ _ => rfl) hLo rfl rfl (by rfl) (by rfl) Try.func29 rfl rfl (fun b G hb ho => args1 (ev_on hLo 0 rfl HS1.1 rfl (hb 0 (by rfl)))) (fun G w hw hr => ready_on hr)) ?_
    refine steps_cons (st_run 2 _ rfl rfl hLo rfl rfl (fun _ _ _ _ => rfl) (fun b G w hb ho => exec_move (.inr rfl) (ev_on hLo 1 rfl HS1.1 rfl (hb 1 (by rfl))))) ?_
    exact steps_nil
  clear hLo
  intro G a2 w2 hS hH
  have HS2 : Sl a2 35 [(0, .pointer (some ⟨g, 0, none⟩)), (1, .string (r)), (4, .int .i64 (0)), (5, .int .i64 (0))] := hS
  have HH2 : Held ⟨w, [g]⟩ w2 [⟨g, (), 6, spC ⟨al, sy, false, acts, inn, keep⟩, 53⟩] := hH
  clear hS hH HS1 HH1
  refine then_ ?_
  refine wp_seq ?_
  have hLo : LOk [(0, 8, .val (.int .i64 (0))), (1, 9, .val (.bool false))] := lok (by rfl) (by rfl)
  refine plain_ (wE := ⟨w, [g]⟩) (sz := 35) (n := 2) [0, 1] [(0, .val (.pointer (some ⟨g, 0, none⟩))), (1, .val (.string (r))), (4, .val (.int .i64 (0))), (5, .val (.int .i64 (0))), (9, .val (.bool false))] [(0, 8, .val (.int .i64 (0))), (1, 9, .val (.bool false))] [⟨g, none, none, (), 6, spC ⟨al, sy, false, acts, inn, keep⟩, spC ⟨al, sy, false, acts, inn, keep⟩, 53⟩] rfl (by rfl) HH2 rfl rfl hLo rfl HS2 (slS 0 rfl rfl (slS 1 rfl rfl (slS 2 rfl rfl (slS 3 rfl rfl (slL 1 (d := 1) rfl (trivial)))))) ?_ ?_
  · show ∀ i ∈ [0, 1], _
    refine steps_cons (st_run 0 _ rfl rfl hLo rfl rfl (fun _ _ _ _ => rfl) (fun b G w hb ho => exec_move (.inl rfl) (ev_off rfl (HS2.get 3 rfl)))) ?_
    refine steps_cons (st_run 1 _ rfl rfl hLo rfl rfl (fun _ _ _ _ => rfl) (fun b G w hb ho => exec_bin rfl (ev_on hLo 0 rfl HS2.1 rfl (hb 0 (by rfl))) (rfl) (rb_neq (rfl) _ _ _))) ?_
    exact steps_nil
  clear hLo
  intro G a3 w3 hS hH
  have HS3 : Sl a3 35 [(0, .pointer (some ⟨g, 0, none⟩)), (1, .string (r)), (4, .int .i64 (0)), (5, .int .i64 (0)), (9, .bool false)] := hS
  have HH3 : Held ⟨w, [g]⟩ w3 [⟨g, (), 6, spC ⟨al, sy, false, acts, inn, keep⟩, 53⟩] := hH
  clear hS hH HS2 HH2
  refine then_ ?_
  refine wp_cond_false (HS3.get 4 rfl) ?_
  refine wp_skip ?_
  refine then_ ?_
  refine wp_seq ?_
  refine wp_seq ?_
  have hLo : LOk [(0, 11, .val (.string (r))), (1, 12, .val (.int .i64 (((r).size : Int)))), (2, 13, .val (.int .i64 ((encLen r.size : Int)))), (3, 14, .val (.pointer (some ⟨g, 0, none⟩))), (4, 15, .val (.pointer (some ⟨g, 0, none⟩))), (5, 16, .val (.pointer (some ⟨g, 0, none⟩))), (6, 17, .val (.string (al))), (7, 18, .val (.int .i64 (((al).size : Int)))), (8, 19, .val (.int .i64 ((4194304 : Int) - (al.size : Int)))), (9, 20, .val (.bool false))] := lok (by rfl) (by rfl)
  refine region_ (wE := ⟨w, [g]⟩) (sz := 35) (n := 10) (B := [0, 1, 3, 0, 8, 24, 56, 120, 248, 511]) [0, 1, 2, 3, 4, 5, 6, 7, 8, 9] [(0, .val (.pointer (some ⟨g, 0, none⟩))), (1, .val (.string (r))), (4, .val (.int .i64 (0))), (5, .val (.int .i64 (0))), (9, .val (.bool false)), (20, .val (.bool false))] [(0, 11, .val (.string (r))), (1, 12, .val (.int .i64 (((r).size : Int)))), (2, 13, .val (.int .i64 ((encLen r.size : Int)))), (3, 14, .val (.pointer (some ⟨g, 0, none⟩))), (4, 15, .val (.pointer (some ⟨g, 0, none⟩))), (5, 16, .val (.pointer (some ⟨g, 0, none⟩))), (6, 17, .val (.string (al))), (7, 18, .val (.int .i64 (((al).size : Int)))), (8, 19, .val (.int .i64 ((4194304 : Int) - (al.size : Int)))), (9, 20, .val (.bool false))] [⟨g, none, none, (), 6, spC ⟨al, sy, false, acts, inn, keep⟩, spC ⟨al, sy, false, acts, inn, keep⟩, 53⟩] (by rfl) rfl tabad4 bitsad4 (by kernel_rfl) (by kernel_rfl) HH3 rfl rfl hLo rfl HS3 (slS 0 rfl rfl (slS 1 rfl rfl (slS 2 rfl rfl (slS 3 rfl rfl (slS 4 rfl rfl (slL 9 (d := 9) rfl (trivial))))))) ?_ ?_
  · show ∀ i ∈ [0, 1, 2, 3, 4, 5, 6, 7, 8, 9], _
    refine steps_cons (st_run 0 _ rfl rfl hLo rfl rfl (fun _ _ _ _ => rfl) (fun b G w hb ho => exec_move (.inl rfl) (ev_off rfl (HS3.get 1 rfl)))) ?_
    refine steps_cons (st_run 1 _ rfl rfl hLo rfl rfl (fun _ _ _ _ => rfl) (fun b G w hb ho => exec_lenS Try.underlying9 rfl (ev_on hLo 0 rfl HS3.1 rfl (hb 0 (by rfl))))) ?_
    refine steps_cons (st_call 2 _ #[.int .i64 (((r).size : Int))] rfl rfl rfl (fun _ _ _ _ => rfl) hLo rfl rfl Try.func36 rfl rfl (fun b G hb ho => args1 (ev_on hLo 1 rfl HS3.1 rfl (hb 1 (by rfl)))) (fun w hw => len_calls (by omega) _)) ?_
    refine steps_cons (st_run 3 _ rfl rfl hLo rfl rfl (fun _ _ _ _ => rfl) (fun b G w hb ho => exec_move (.inl rfl) (ev_off rfl (HS3.get 0 rfl)))) ?_
    refine steps_cons (st_run 4 _ rfl rfl hLo rfl rfl (fun _ _ _ _ => rfl) (fun b G w hb ho => exec_nil rfl (ev_on hLo 3 rfl HS3.1 rfl (hb 3 (by rfl))))) ?_
    refine steps_cons (st_run 5 _ rfl rfl hLo rfl rfl (fun _ _ _ _ => rfl) (fun b G w hb ho => exec_field rfl (ev_on hLo 4 rfl HS3.1 rfl (hb 4 (by rfl))) (by kernel_rfl))) ?_
    refine steps_cons (st_read 6 0 _ _ rfl rfl rfl hLo rfl rfl (fun _ _ _ _ => rfl) (by rfl) (by rfl) (fun b G w hb ho hr => exec_cell hr (Nat.le_of_ble_eq_true rfl) Try.underlying9 rfl rfl (ev_on hLo 5 rfl HS3.1 rfl (hb 5 (by rfl))))) ?_
    refine steps_cons (st_run 7 _ rfl rfl hLo rfl rfl (fun _ _ _ _ => rfl) (fun b G w hb ho => exec_lenS Try.underlying9 rfl (ev_on hLo 6 rfl HS3.1 rfl (hb 6 (by rfl))))) ?_
    refine steps_cons (st_run 8 _ rfl rfl hLo rfl rfl (fun _ _ _ _ => rfl) (fun b G w hb ho => exec_bin rfl (rfl) (ev_on hLo 7 rfl HS3.1 rfl (hb 7 (by rfl))) (rb_sub (w_int (by omega) (by omega)) _ _ _))) ?_
    refine steps_cons (st_run 9 _ rfl rfl hLo rfl rfl (fun _ _ _ _ => rfl) (fun b G w hb ho => exec_bin rfl (ev_on hLo 2 rfl HS3.1 rfl (hb 2 (by rfl))) (ev_on hLo 8 rfl HS3.1 rfl (hb 8 (by rfl))) (rb_geq (decide_eq_false (by omega)) _ _ _))) ?_
    exact steps_nil
  clear hLo
  intro G a4 w4 hS hH
  have HS4 : Sl a4 35 [(0, .pointer (some ⟨g, 0, none⟩)), (1, .string (r)), (4, .int .i64 (0)), (5, .int .i64 (0)), (9, .bool false), (20, .bool false)] := hS
  have HH4 : Held ⟨w, [g]⟩ w4 [⟨g, (), 6, spC ⟨al, sy, false, acts, inn, keep⟩, 53⟩] := hH
  clear hS hH HS3 HH3
  refine then_ ?_
  refine wp_cond_false (HS4.get 5 rfl) ?_
  refine wp_skip ?_
  refine then_ ?_
  refine wp_seq ?_
  refine regionF_ (sz := 35) (n := 12) (B := [0, 1, 3, 7, 0, 16, 48, 112, 255, 511, 1023, 2047]) [0, 1, 2, 3, 4, 5, 6, 7, 8, 9, 10, 11] [(0, 21), (1, 22), (2, 23), (3, 24), (4, 25), (5, 26), (6, 27), (7, 28), (8, 29), (9, 30), (10, 31)] (FT ⟨w, [g]⟩ [some (.pointer (some ⟨g, 0, none⟩)), some (.pointer (some ⟨g, 0, none⟩)), some (.pointer (some ⟨g, 0, none⟩)), some (.string al), some (.string r), none, some (.string (encS (bytesOf r) true)), some (.string (lineS r)), some (.string (al ++ lineS r)), some (.pointer (some ⟨g, 0, none⟩)), some (.pointer (some ⟨g, 0, none⟩)), none] 5 r g 6 11 (spC ⟨al, sy, false, acts, inn, keep⟩) (upd (spC ⟨al, sy, false, acts, inn, keep⟩) 0 (.s (al ++ lineS r))) 53) (by rfl) rfl tabad6 bitsad6 (by kernel_rfl) (by kernel_rfl) (by rfl) ⟨rfl, rfl⟩ HS4 (fun V => FT.first V HH4) ?_ ?_
  · show ∀ i ∈ [0, 1, 2, 3, 4, 5, 6, 7, 8, 9, 10, 11], _
    refine steps_cons (ft_run 0 _ ⟨rfl, rfl⟩ rfl rfl rfl (fun _ _ => rfl) rfl rfl rfl (fun V b w hF hbi hon hoff => exec_move (.inl rfl) (cf_off rfl (HS4.get 0 rfl)))) ?_
    refine steps_cons (ft_run 1 _ ⟨rfl, rfl⟩ rfl rfl rfl (fun _ _ => rfl) rfl rfl rfl (fun V b w hF hbi hon hoff => exec_nil rfl ((cf_on ⟨rfl, rfl⟩ 0 rfl HS4.1 rfl (hon 0 (by rfl))).trans (hF.vs 0 _ rfl (hon 0 (by rfl)))))) ?_
    refine steps_cons (ft_run 2 _ ⟨rfl, rfl⟩ rfl rfl rfl (fun _ _ => rfl) rfl rfl rfl (fun V b w hF hbi hon hoff => exec_field rfl ((cf_on ⟨rfl, rfl⟩ 1 rfl HS4.1 rfl (hon 1 (by rfl))).trans (hF.vs 1 _ rfl (hon 1 (by rfl)))) (by kernel_rfl))) ?_
    refine steps_cons (ft_run 3 _ ⟨rfl, rfl⟩ rfl rfl rfl (fun _ _ => rfl) rfl rfl rfl (fun V b w hF hbi hon hoff => exec_cell (hF.row0 (hoff 11 (by rfl))) (Nat.le_of_ble_eq_true rfl) Try.underlying9 rfl rfl ((cf_on ⟨rfl, rfl⟩ 2 rfl HS4.1 rfl (hon 2 (by rfl))).trans (hF.vs 2 _ rfl (hon 2 (by rfl)))))) ?_
    refine steps_cons (ft_run 4 _ ⟨rfl, rfl⟩ rfl rfl rfl (fun _ _ => rfl) rfl rfl rfl (fun V b w hF hbi hon hoff => exec_move (.inl rfl) (cf_off rfl (HS4.get 1 rfl)))) ?_
    refine steps_cons (ft_bytes 5 ⟨rfl, rfl⟩ rfl rfl rfl (fun _ _ => rfl) rfl rfl rfl rfl Try.underlying9 Try.underlying58 Try.underlying5 hs (fun V b w hF hbi hon hoff => ((cf_on ⟨rfl, rfl⟩ 4 rfl HS4.1 rfl (hon 4 (by rfl))).trans (hF.vs 4 _ rfl (hon 4 (by rfl)))))) ?_
    refine steps_cons (ft_call 6 _ ⟨rfl, rfl⟩ rfl rfl rfl rfl (fun _ _ => rfl) rfl rfl rfl Try.func37 rfl rfl (fun V b w hF hbi hon hoff => ⟨_, args2 (cf_on ⟨rfl, rfl⟩ 5 rfl HS4.1 rfl (hon 5 (by rfl))) rfl, br_enc (hF.br (hoff 11 (by rfl)) (hon 5 (by rfl))) hs⟩)) ?_
    refine steps_cons (ft_run 7 _ ⟨rfl, rfl⟩ rfl rfl rfl (fun _ _ => rfl) rfl rfl rfl (fun V b w hF hbi hon hoff => exec_bin rfl ((cf_on ⟨rfl, rfl⟩ 6 rfl HS4.1 rfl (hon 6 (by rfl))).trans (hF.vs 6 _ rfl (hon 6 (by rfl)))) rfl (rb_sadd (by rw [enc_size]; show encLen r.size + 1 ≤ _; omega) _ _ _))) ?_
    refine steps_cons (ft_run 8 _ ⟨rfl, rfl⟩ rfl rfl rfl (fun _ _ => rfl) rfl rfl rfl (fun V b w hF hbi hon hoff => exec_bin rfl ((cf_on ⟨rfl, rfl⟩ 3 rfl HS4.1 rfl (hon 3 (by rfl))).trans (hF.vs 3 _ rfl (hon 3 (by rfl)))) ((cf_on ⟨rfl, rfl⟩ 7 rfl HS4.1 rfl (hon 7 (by rfl))).trans (hF.vs 7 _ rfl (hon 7 (by rfl)))) (rb_sadd (by rw [lineS_size]; omega) _ _ _))) ?_
    refine steps_cons (ft_run 9 _ ⟨rfl, rfl⟩ rfl rfl rfl (fun _ _ => rfl) rfl rfl rfl (fun V b w hF hbi hon hoff => exec_nil rfl ((cf_on ⟨rfl, rfl⟩ 0 rfl HS4.1 rfl (hon 0 (by rfl))).trans (hF.vs 0 _ rfl (hon 0 (by rfl)))))) ?_
    refine steps_cons (ft_run 10 _ ⟨rfl, rfl⟩ rfl rfl rfl (fun _ _ => rfl) rfl rfl rfl (fun V b w hF hbi hon hoff => exec_field rfl ((cf_on ⟨rfl, rfl⟩ 9 rfl HS4.1 rfl (hon 9 (by rfl))).trans (hF.vs 9 _ rfl (hon 9 (by rfl)))) (by kernel_rfl))) ?_
    refine steps_cons (ft_put rfl rfl (by rfl) (fun _ _ => rfl) rfl rfl rfl (fun V b w hF hbi hon hoff hrw => exec_put1 hrw (Nat.le_of_ble_eq_true rfl) (by kernel_rfl) rfl ((cf_on ⟨rfl, rfl⟩ 10 rfl HS4.1 rfl (hon 10 (by rfl))).trans (hF.vs 10 _ rfl (hon 10 (by rfl)))) ((cf_on ⟨rfl, rfl⟩ 8 rfl HS4.1 rfl (hon 8 (by rfl))).trans (hF.vs 8 _ rfl (hon 8 (by rfl)))))) ?_
    exact steps_nil
  intro V b5 a5 w5 hall hF hS
  have HS5 : Sl a5 35 [(0, .pointer (some ⟨g, 0, none⟩)), (1, .string (r)), (4, .int .i64 (0)), (5, .int .i64 (0)), (9, .bool false), (20, .bool false)] := sl_keep hS [11, 12, 13, 14, 15, 16] (by rfl)
  have HH5 : Held ⟨w, [g]⟩ w5 [⟨g, (), 6, upd (spC ⟨al, sy, false, acts, inn, keep⟩) 0 (.s (al ++ lineS r)), 53⟩] := hF.held (hall 11 rfl)
  clear hS hF hall
  refine then_ ?_
  refine wp_seq ?_
  refine wp_seq ?_
  have hLo : LOk [(0, 32, .val (.pointer (some ⟨g, 0, none⟩))), (1, 33, .val (.bool true)), (2, 34, .val (.bool false))] := lok (by rfl) (by rfl)
  refine plain_ (wE := ⟨w, [g]⟩) (sz := 35) (n := 3) [0, 1, 3] [(0, .val (.pointer (some ⟨g, 0, none⟩))), (1, .val (.string (r))), (4, .val (.int .i64 (0))), (5, .val (.int .i64 (0))), (9, .val (.bool false)), (20, .val (.bool false)), (34, .val (.bool false))] [(0, 32, .val (.pointer (some ⟨g, 0, none⟩))), (1, 33, .val (.bool true)), (2, 34, .val (.bool false))] [⟨g, none, some 1, (), 6, upd (spC ⟨al, sy, false, acts, inn, keep⟩) 0 (.s (al ++ lineS r)), spC ⟨(al ++ lineS r), sy, false, acts + 1, inn - 1, keep⟩, 53⟩] rfl (by rfl) HH5 rfl rfl hLo rfl HS5 (slS 0 rfl rfl (slS 1 rfl rfl (slS 2 rfl rfl (slS 3 rfl rfl (slS 4 rfl rfl (slS 5 rfl rfl (slL 2 (d := 2) rfl (trivial)))))))) ?_ ?_
  · show ∀ i ∈ [0, 1, 2], _
    refine steps_cons (st_run 0 _ rfl rfl hLo rfl rfl (fun _ _ _ _ => rfl) (fun b G w hb ho => exec_move (.inl rfl) (ev_off rfl (HS5.get 0 rfl)))) ?_
    refine steps_cons (st_callM 1 0 _ _ (fun G => #[.pointer (some ⟨g, 0, none⟩)]) rfl rfl rfl rfl rfl (fun _ _ _ _ => rfl) hLo rfl (by rfl) (by rfl) (by rfl) Try.func38 rfl rfl (fun b G hb ho => args1 (ev_on hLo 0 rfl HS5.1 rfl (hb 0 (by rfl)))) (fun G w hw hr => act_stays (hr.norm (six ⟨rfl, rfl, rfl, rfl, rfl, rfl⟩)) hac hin hi1)) ?_
    refine steps_cons (st_run 2 _ rfl rfl hLo rfl rfl (fun _ _ _ _ => rfl) (fun b G w hb ho => exec_un rfl (ev_on hLo 1 rfl HS5.1 rfl (hb 1 (by rfl))) (ru_not _))) ?_
    exact steps_nil
  clear hLo
  intro G a6 w6 hS hH
  have HS6 : Sl a6 35 [(0, .pointer (some ⟨g, 0, none⟩)), (1, .string (r)), (4, .int .i64 (0)), (5, .int .i64 (0)), (9, .bool false), (20, .bool false), (34, .bool false)] := hS
  have HH6 : Held ⟨w, [g]⟩ w6 [⟨g, (), 6, spC ⟨(al ++ lineS r), sy, false, acts + 1, inn - 1, keep⟩, 53⟩] := hH
  clear hS hH HS5 HH5
  refine then_ ?_
  refine wp_cond_false (HS6.get 6 rfl) ?_
  refine wp_skip ?_
  refine then_ ?_
  refine wp_seq ?_
  have hLo : LOk [(0, 4, .val (.int .i64 (0)))] := lok (by rfl) (by rfl)
  refine plain_ (wE := ⟨w, [g]⟩) (sz := 35) (n := 1) [0] [(0, .val (.pointer (some ⟨g, 0, none⟩))), (1, .val (.string (r))), (5, .val (.int .i64 (0))), (9, .val (.bool false)), (20, .val (.bool false)), (34, .val (.bool false)), (4, .val (.int .i64 (0)))] [(0, 4, .val (.int .i64 (0)))] [⟨g, none, none, (), 6, spC ⟨(al ++ lineS r), sy, false, acts + 1, inn - 1, keep⟩, spC ⟨(al ++ lineS r), sy, false, acts + 1, inn - 1, keep⟩, 53⟩] rfl (by rfl) HH6 rfl rfl hLo rfl HS6 (slS 0 rfl rfl (slS 1 rfl rfl (slS 3 rfl rfl (slS 4 rfl rfl (slS 5 rfl rfl (slS 6 rfl rfl (slL 0 (d := 0) rfl (trivial)))))))) ?_ ?_
  · show ∀ i ∈ [0], _
    refine steps_cons (st_run 0 _ rfl rfl hLo rfl rfl (fun _ _ _ _ => rfl) (fun b G w hb ho => exec_move (.inr rfl) (rfl))) ?_
    exact steps_nil
  clear hLo
  intro G a7 w7 hS hH
  have HS7 : Sl a7 35 [(0, .pointer (some ⟨g, 0, none⟩)), (1, .string (r)), (5, .int .i64 (0)), (9, .bool false), (20, .bool false), (34, .bool false), (4, .int .i64 (0))] := hS
  have HH7 : Held ⟨w, [g]⟩ w7 [⟨g, (), 6, spC ⟨(al ++ lineS r), sy, false, acts + 1, inn - 1, keep⟩, 53⟩] := hH
  clear hS hH HS6 HH6
  refine then_ ?_
  refine wp_ret ?_
  repeat (first | refine then_ret ?_ | refine inBlock_ret' ?_)
  exact b_tmp rfl HS7.2.1 (HS7.get 6 rfl) ⟨rfl, Row.norm (HH7.row 0 rfl) (six ⟨rfl, rfl, rfl, rfl, rfl, rfl⟩), HH7.1⟩
end Go.Proofs.Ytdleomeiojlooaa.P
end

section
namespace Go.Proofs.Ytdleomeiojlooaa.P
open Go.RowKit Go.Proofs.YtdleomeiojlooaaW.PrintWords Go.Proofs.YtdleomeiojlooaaW.PrintLast Go.Proofs.YtdleomeiojlooaaW.PrintMore
set_option linter.unusedVariables false
set_option linter.unusedSimpArgs false
def hustingsref19_Same.l0 : Nat → List ByteArray → List ByteArray → Int → Int → Option (Bool)
  | 0, _, _, _, _ => none
  | k + 1, x0, x1, x12, x13 => if x13 < x12 then (if 0 ≤ x13 then (if x13 < (x0.length : Int) then (if x13 < (x1.length : Int) then (if (rdOf ByteArray.empty x0 x13).toList = (rdOf ByteArray.empty x1 x13).toList then (hustingsref19_Same.l0 k x0 x1 x12 (wrap64 (x13 + 1))) else (some false)) else (none)) else (none)) else (none)) else (some true)
def hustingsref19_Same.f (k : Nat) (l0 : List ByteArray) (l1 : List ByteArray) : Option (Bool) := if (l0.length : Int) = (l1.length : Int) then (hustingsref19_Same.l0 k l0 l1 (l0.length : Int) 0) else (some false)
theorem hustingsref19_Same.mono_l : ∀ k, (∀ y0 y1 y2 y3, LeO (hustingsref19_Same.l0 k y0 y1 y2 y3) (hustingsref19_Same.l0 (k + 1) y0 y1 y2 y3))
  | 0 => fun _ _ _ _ r h => by simp [hustingsref19_Same.l0] at h
  | k + 1 => by
    have ih0 := hustingsref19_Same.mono_l k
    · intro y0 y1 y2 y3
      unfold hustingsref19_Same.l0
      repeat' first
      | (with_reducible exact ih0 _ _ _ _)
      | (with_reducible exact LeO.refl _)
      | (with_reducible exact LeO.none _)
      | (with_reducible refine LeO.ite ?_ ?_)
      | (with_reducible refine LeO.bind ?_ (fun _ => ?_))
      | exact ih0 _ _ _ _
      | exact LeO.none _
      | refine LeO.ite ?_ ?_
      | refine LeO.bind ?_ (fun _ => ?_)
theorem hustingsref19_Same.mono : ∀ a0 a1 k, LeO (hustingsref19_Same.f k a0 a1) (hustingsref19_Same.f (k + 1) a0 a1) := by
  intro a0 a1 k
  have ih0 := hustingsref19_Same.mono_l k
  unfold hustingsref19_Same.f
  repeat' first
      | (with_reducible exact ih0 _ _ _ _)
      | (with_reducible exact LeO.refl _)
      | (with_reducible exact LeO.none _)
      | (with_reducible refine LeO.ite ?_ ?_)
      | (with_reducible refine LeO.bind ?_ (fun _ => ?_))
      | exact ih0 _ _ _ _
      | exact LeO.none _
      | refine LeO.ite ?_ ?_
      | refine LeO.bind ?_ (fun _ => ?_)
set_option maxHeartbeats 8000000 in
set_option maxRecDepth 100000 in
theorem hustingsref19_Same.calls (k : Nat) (A0 : Option Addr) (c0 : Nat) (l0 : List ByteArray) (A1 : Option Addr) (c1 : Nat) (l1 : List ByteArray) (r : Bool) (w : World) (hr0 : Kd.C Kd.string w A0 l0.length l0) (hc0 : l0.length ≤ c0) (hr1 : Kd.C Kd.string w A1 l1.length l1) (hc1 : l1.length ≤ c1) (h : hustingsref19_Same.f k l0 l1 = some r) :
    Calls Try.prog 12 #[.slice A0 l0.length c0, .slice A1 l1.length c1] w fun e w' => e = .returned (.bool r) ∧ Drawn0 w w' := by
  have HR0 := Aside0.mk hr0
  have HC0 := Aside0.mk hc0
  clear hr0 hc0
  have HR1 := Aside0.mk hr1
  have HC1 := Aside0.mk hc1
  clear hr1 hc1
  have H : (if (l0.length : Int) = (l1.length : Int) then (hustingsref19_Same.l0 k l0 l1 (l0.length : Int) 0) else (some false)) = some r := h
  clear h
  by_cases c3 : (l0.length : Int) = (l1.length : Int)
  · rw [if_pos c3] at H
    have c3b0 : ((l0.length : Int) == (l1.length : Int)) = true := beq_iff_eq.mpr c3
    have c3b1 : ((l0.length : Int) != (l1.length : Int)) = false := bne_eq_false_iff_eq.mpr c3
    have c3b2 : (l0.length == l1.length) = true := by first | simpa using c3 | (simp at c3 ⊢; omega)
    clear c3
    have H' := Aside0.mk H
    clear H
    go_enter Try.func12, Try.ntmps12
    go_wp2
    repeat (go_quiet (fail); try go_wp2)
    go_loopg [13] k (fun kq v13 w' => ∃ (x13_1 : Int), v13 = .int .i64 x13_1 ∧ Aside0 (hustingsref19_Same.l0 kq l0 l1 (l0.length : Int) x13_1 = some r) ∧ Aside0 (kq ≤ k) ∧ Drawn0 w w')
    case atStart => exact ⟨(0), (by first | rfl | (simp; done) | (simp [*]; done)), H', ⟨Nat.le_refl _⟩, by repeat (first | exact Drawn0.refl _ | apply Drawn0.step)⟩
    case round =>
      clear H'
      try clear c1
      try clear p2
      try clear c3
      try clear c3b0
      try clear c3b1
      try clear c3b2
      obtain ⟨x13_1, rfl, HA, HK1, ⟨m1, rfl⟩⟩ := hrel
      cases gk with
      | zero => exact absurd HA.out (by simp [hustingsref19_Same.l0])
      | succ k1 =>
        have H := HA.out
        clear HA
        simp only [hustingsref19_Same.l0] at H
        by_cases c4 : x13_1 < (l0.length : Int)
        · rw [if_pos c4] at H
          have c4b0 : decide (x13_1 < (l0.length : Int)) = true := decide_eq_true c4
          clear c4
          by_cases c5 : 0 ≤ x13_1
          · rw [if_pos c5] at H
            have c5b0 : decide (0 ≤ x13_1) = true := decide_eq_true c5
            clear c5
            by_cases c6 : x13_1 < (l0.length : Int)
            · rw [if_pos c6] at H
              have c6b0 : decide (x13_1 < (l0.length : Int)) = true := decide_eq_true c6
              clear c6
              by_cases c7 : x13_1 < (l1.length : Int)
              · rw [if_pos c7] at H
                have c7b0 : decide (x13_1 < (l1.length : Int)) = true := decide_eq_true c7
                clear c7
                by_cases c8 : (rdOf ByteArray.empty l0 x13_1).toList = (rdOf ByteArray.empty l1 x13_1).toList
                · rw [if_pos c8] at H
                  have c8b0 : ((rdOf ByteArray.empty l0 x13_1).toList == (rdOf ByteArray.empty l1 x13_1).toList) = true := beq_iff_eq.mpr c8
                  have c8b1 : ((rdOf ByteArray.empty l0 x13_1).toList != (rdOf ByteArray.empty l1 x13_1).toList) = false := bne_eq_false_iff_eq.mpr c8
                  clear c8
                  have H' := Aside0.mk H
                  clear H
                  have p12001 : 0 ≤ (x13_1 : Int) := of_decide_eq_true (by first | (with_reducible assumption) | assumption)
                  have q12001 : x13_1 < (l0.length : Int) := of_decide_eq_true (by first | (with_reducible assumption) | assumption)
                  obtain ⟨ad12001, e12001, hx12001_0⟩ := Kd.at_string HR0.out x13_1 p12001 q12001
                  cases e12001
                  replace p12001 := eq_true p12001
                  replace q12001 := eq_true q12001
                  have p12002 : 0 ≤ (x13_1 : Int) := of_decide_eq_true (by first | (with_reducible assumption) | assumption)
                  have q12002 : x13_1 < (l1.length : Int) := of_decide_eq_true (by first | (with_reducible assumption) | assumption)
                  obtain ⟨ad12002, e12002, hx12002_0⟩ := Kd.at_string HR1.out x13_1 p12002 q12002
                  cases e12002
                  replace p12002 := eq_true p12002
                  replace q12002 := eq_true q12002
                  go_wp2
                  repeat (go_quiet (fail); try go_wp2)
                  go_roundg k1
                  case measure => have := HK1.out; omega
                  case rel => exact ⟨(wrap64 (x13_1 + 1)), (by first | rfl | (simp; done) | (simp [*]; done)), H', ⟨by have := HK1.out; omega⟩, by repeat (first | exact Drawn0.refl _ | apply Drawn0.step)⟩
                · rw [if_neg c8] at H
                  have c8b0 : ((rdOf ByteArray.empty l0 x13_1).toList == (rdOf ByteArray.empty l1 x13_1).toList) = false := beq_eq_false_iff_ne.mpr c8
                  have c8b1 : ((rdOf ByteArray.empty l0 x13_1).toList != (rdOf ByteArray.empty l1 x13_1).toList) = true := bne_iff_ne.mpr c8
                  obtain rfl := Option.some.inj H
                  have p12001 : 0 ≤ (x13_1 : Int) := of_decide_eq_true (by first | (with_reducible assumption) | assumption)
                  have q12001 : x13_1 < (l0.length : Int) := of_decide_eq_true (by first | (with_reducible assumption) | assumption)
                  obtain ⟨ad12001, e12001, hx12001_0⟩ := Kd.at_string HR0.out x13_1 p12001 q12001
                  cases e12001
                  replace p12001 := eq_true p12001
                  replace q12001 := eq_true q12001
                  have p12002 : 0 ≤ (x13_1 : Int) := of_decide_eq_true (by first | (with_reducible assumption) | assumption)
                  have q12002 : x13_1 < (l1.length : Int) := of_decide_eq_true (by first | (with_reducible assumption) | assumption)
                  obtain ⟨ad12002, e12002, hx12002_0⟩ := Kd.at_string HR1.out x13_1 p12002 q12002
                  cases e12002
                  replace p12002 := eq_true p12002
                  replace q12002 := eq_true q12002
                  go_wp2
                  repeat (go_quiet (fail); try go_wp2)
                  go_ret
                  exact ⟨by first | rfl | (simp; done) | (simp [*]; done), by repeat (first | exact Drawn0.refl _ | apply Drawn0.step)⟩
              · rw [if_neg c7] at H
                exact absurd H (by simp)
            · rw [if_neg c6] at H
              exact absurd H (by simp)
          · rw [if_neg c5] at H
            exact absurd H (by simp)
        · rw [if_neg c4] at H
          have c4b0 : decide (x13_1 < (l0.length : Int)) = false := decide_eq_false c4
          clear c4
          obtain rfl := Option.some.inj H
          go_wp2
          repeat (go_quiet (fail); try go_wp2)
          go_ret
          exact ⟨by first | rfl | (simp; done) | (simp [*]; done), by repeat (first | exact Drawn0.refl _ | apply Drawn0.step)⟩
  · rw [if_neg c3] at H
    have c3b0 : ((l0.length : Int) == (l1.length : Int)) = false := beq_eq_false_iff_ne.mpr c3
    have c3b1 : ((l0.length : Int) != (l1.length : Int)) = true := bne_iff_ne.mpr c3
    have c3b2 : (l0.length == l1.length) = false := by first | simpa using c3 | (simp at c3 ⊢; omega)
    obtain rfl := Option.some.inj H
    go_enter Try.func12, Try.ntmps12
    go_wp2
    repeat (go_quiet (fail); try go_wp2)
    go_ret
    exact ⟨by first | rfl | (simp; done) | (simp [*]; done), by repeat (first | exact Drawn0.refl _ | apply Drawn0.step)⟩
end Go.Proofs.Ytdleomeiojlooaa.P
end

section
namespace Go.Proofs.Ytdleomeiojlooaa.P
set_option linter.unusedVariables false
set_option linter.unusedSimpArgs false
open Go.RowKit Go.ChangeShapes Go.WideShapes Go.Proofs.YtdleomeiojlooaaW.PrintWords Go.Proofs.YtdleomeiojlooaaW.PrintLast Go.Proofs.YtdleomeiojlooaaW.PrintMore Go.Proofs.Ytdleomeiojlooaa.L
structure OKs (m : Sp) : Prop where
  k_sy : m.sy ≤ m.al.size
  k_al : m.al.size ≤ 4194304
  k_ac : m.acts ≤ 1000000
  k_in : m.inn < 9223372036854775808
def offS (m : Sp) (k : Int) : Sp := if m.off then m else ⟨m.al.extract 0 (m.sy + kp k (m.al.size - m.sy)), m.sy + kp k (m.al.size - m.sy), true, m.acts, 0, m.keep⟩
def actS (m : Sp) : Sp := if m.inn = 1 then offS { m with acts := m.acts + 1 } m.keep else { m with acts := m.acts + 1, inn := m.inn - 1 }
def appS (m : Sp) (r : ByteArray) : Sp × Int := if m.off then (m, 50) else if 4194304 ≤ encLen r.size + m.al.size then (m, 51) else (actS { m with al := m.al ++ lineS r }, if m.inn = 1 then 50 else 0)
def syncS (m : Sp) : Sp × Int := if m.off then (m, 50) else if m.inn = 1 then (actS m, 50) else ({ actS m with sy := m.al.size }, 0)
section
variable {w : World} {g : Nat} {m : Sp}
theorem off_calls (hv : OKs m) {k : Int} (hr : Row w g () 6 (spC m) 53) : Calls Try.prog 18 #[.pointer (some ⟨g, 0, none⟩), .int .i64 k] w fun e w' => e = .returned (.tuple #[]) ∧ Row w' g () 6 (spC (offS m k)) 53 ∧ Fr ⟨w, [g]⟩ w' := by
  obtain ⟨al, sy, off, acts, inn, keep⟩ := m
  cases off
  · exact off_on hr hv.k_sy hv.k_al
  · exact off_off hr
theorem app_calls (hv : OKs m) {r : ByteArray} (hs : r.size ≤ 1073741824) (hr : Row w g () 6 (spC m) 53) : Calls Try.prog 16 #[.pointer (some ⟨g, 0, none⟩), .string r] w fun e w' => e = .returned (.int .i64 (appS m r).2) ∧ Row w' g () 6 (spC (appS m r).1) 53 ∧ Fr ⟨w, [g]⟩ w' := by
  obtain ⟨al, sy, off, acts, inn, keep⟩ := m
  cases off
  · by_cases hf : 4194304 ≤ encLen r.size + al.size
    · have e : appS ⟨al, sy, false, acts, inn, keep⟩ r = (⟨al, sy, false, acts, inn, keep⟩, 51) := by unfold appS; rw [if_neg (by simp), if_pos hf]
      rw [e]
      exact app_full hr hv.k_al hs hf
    · by_cases h1 : inn = 1
      · subst h1
        have e : appS ⟨al, sy, false, acts, 1, keep⟩ r = (offS ⟨al ++ lineS r, sy, false, acts + 1, 1, keep⟩ keep, 50) := by unfold appS actS; rw [if_neg (by simp), if_neg hf]; rfl
        rw [e]
        exact app_goes hr hs (by omega) hv.k_ac hv.k_sy
      · have e : appS ⟨al, sy, false, acts, inn, keep⟩ r = (⟨al ++ lineS r, sy, false, acts + 1, inn - 1, keep⟩, 0) := by unfold appS actS; rw [if_neg (by simp), if_neg hf]; simp only [if_neg h1]
        rw [e]
        exact app_stays hr hs (by omega) hv.k_ac hv.k_in h1
  · exact app_off hr
theorem sync_calls (hv : OKs m) (hr : Row w g () 6 (spC m) 53) : Calls Try.prog 17 #[.pointer (some ⟨g, 0, none⟩)] w fun e w' => e = .returned (.int .i64 (syncS m).2) ∧ Row w' g () 6 (spC (syncS m).1) 53 ∧ Fr ⟨w, [g]⟩ w' := by
  obtain ⟨al, sy, off, acts, inn, keep⟩ := m
  cases off
  · by_cases h1 : inn = 1
    · subst h1
      have e : syncS ⟨al, sy, false, acts, 1, keep⟩ = (offS ⟨al, sy, false, acts + 1, 1, keep⟩ keep, 50) := by unfold syncS actS; rw [if_neg (by simp), if_pos rfl]; rfl
      rw [e]
      exact sync_goes hr hv.k_sy hv.k_al hv.k_ac
    · have e : syncS ⟨al, sy, false, acts, inn, keep⟩ = (⟨al, al.size, false, acts + 1, inn - 1, keep⟩, 0) := by unfold syncS actS; rw [if_neg (by simp)]; simp only [if_neg h1]
      rw [e]
      exact sync_stays hr hv.k_ac hv.k_in h1
  · exact sync_off hr
end
abbrev TX (w : World) (B : Nat) (v : Value) (l : List ByteArray) : Prop := Kd.R Kd.string 9 w B (fun _ => True) v l
theorem TX.over {w w' : World} {B : Nat} {v : Value} {l : List ByteArray} {X : List Nat} (h : TX w B v l) (f : Fr ⟨w, X⟩ w') (hX : ∀ x ∈ X, x < B) : TX w' B v l :=
  Kd.R_mono (Kd.R_step (Kd.R_bound h) fun k hk hlt => f.block k hlt fun hm => by have := hX k hm; have := hk.2.1; omega) fun _ _ => trivial
theorem bel_over {n : Nat} {w w' W : World} {X : List Nat} (h : Below n W w) (f : Fr ⟨w, X⟩ w') (hn : n ≤ w.heap.size) (hX : ∀ x ∈ X, n ≤ x) : Below n W w' :=
  ⟨f.os.trans h.os, f.tape.trans h.tape, f.output.trans h.output, Nat.le_trans h.size f.size, fun k hk => (f.block k (Nat.lt_of_lt_of_le hk hn) fun hm => by have := hX k hm; omega).trans (h.block k hk)⟩
section
variable {w : World} {g : Nat} {al : ByteArray} {sy acts inn : Nat} {keep : Int} {ls rs : List ByteArray} {tl : ByteArray}
theorem open_some (hC : Cuts al ls tl) (hal : al.size ≤ 4194304) (hrec : recs ls = some rs) (hr : Row w g () 6 (spC ⟨al, sy, false, acts, inn, keep⟩) 53) : Calls Try.prog 10 #[.pointer (some ⟨g, 0, none⟩)] w fun e w' =>
    (∃ A c, e = .returned (.tuple #[.slice A rs.length c, .int .i64 0]) ∧ TX w' w.heap.size (.slice A rs.length c) rs) ∧ Row w' g () 6 (spC ⟨cat ls, min sy (cat ls).size, false, acts, inn, keep⟩) 53 ∧ Fr ⟨w, [g]⟩ w' :=
  (open_calls hC hal hr).mono fun e w' h => by
    unfold OpenPost at h
    rw [hrec] at h
    obtain ⟨v, he, hR, hr2, hf⟩ := h
    obtain ⟨A, c, rfl⟩ := Kd.R_slice hR
    exact ⟨⟨A, c, he, hR⟩, hr2, hf⟩
theorem open_none (hC : Cuts al ls tl) (hal : al.size ≤ 4194304) (hrec : recs ls = none) (hr : Row w g () 6 (spC ⟨al, sy, false, acts, inn, keep⟩) 53) : Calls Try.prog 10 #[.pointer (some ⟨g, 0, none⟩)] w fun e w' =>
    e = .returned (.tuple #[.slice none 0 0, .int .i64 4]) ∧ Row w' g () 6 (spC ⟨al, sy, false, acts, inn, keep⟩) 53 ∧ Fr ⟨w, [g]⟩ w' :=
  (open_calls hC hal hr).mono fun e w' h => by
    unfold OpenPost at h
    rw [hrec] at h
    exact h
end
theorem cuts_list : ∀ l : List UInt8, ∃ ls tl, l = bl (cat ls) ++ tl ∧ (∀ x ∈ ls, NoN x) ∧ ∀ b ∈ tl, b ≠ 10
  | [] => ⟨[], [], rfl, (fun x hx => by cases hx), (fun b hb => by cases hb)⟩
  | b :: t => by
    obtain ⟨ls, tl, he, hn, ht⟩ := cuts_list t
    by_cases hb : b = 10
    · subst hb
      refine ⟨ByteArray.empty :: ls, tl, ?_, fun x hx => ?_, ht⟩
      · rw [bl_cat, he]; rfl
      · rcases List.mem_cons.1 hx with rfl | hx
        · intro c hc; cases hc
        · exact hn x hx
    · cases ls with
      | nil =>
        refine ⟨[], b :: tl, by rw [he]; rfl, (fun x hx => by cases hx), fun c hc => ?_⟩
        rcases List.mem_cons.1 hc with rfl | hc
        · exact hb
        · exact ht c hc
      | cons x r =>
        refine ⟨(⟨#[b]⟩ ++ x) :: r, tl, ?_, fun y hy => ?_, ht⟩
        · rw [bl_cat, bl_append, he, bl_cat]; rfl
        · rcases List.mem_cons.1 hy with rfl | hy
          · intro c hc
            rw [bl_append] at hc
            rcases List.mem_append.1 hc with hc | hc
            · have : c = b := by simpa [bl] using hc
              subst this; exact hb
            · exact hn x List.mem_cons_self c hc
          · exact hn y (List.mem_cons_of_mem _ hy)
theorem cuts_of (al : ByteArray) : ∃ ls tl, Cuts al ls tl := by
  obtain ⟨ls, tl, he, hn, ht⟩ := cuts_list (bl al)
  refine ⟨ls, ⟨tl.toArray⟩, ⟨?_, hn, ?_⟩⟩
  · apply bl_inj
    rw [bl_append, he]
  · intro b hb
    exact ht b (by simpa [bl] using hb)
theorem same_go (a : List ByteArray) (hl : a.length ≤ 1073741824) : ∀ (d i : Nat), i + d = a.length → hustingsref19_Same.l0 (d + 1) a a (a.length : Int) (i : Int) = some true
  | 0, i, h => by
    rw [hustingsref19_Same.l0, if_neg (by omega)]
  | d + 1, i, h => by
    have ih := same_go a hl d (i + 1) (by omega)
    rw [hustingsref19_Same.l0, if_pos (by omega), if_pos (by omega), if_pos (by omega), if_pos (by omega), if_pos rfl, w64 _ (by omega)]
    exact ih
theorem tx_nil (w : World) (B : Nat) : TX w B (.slice none 0 0) [] := Kd.R_nil _ _ _ _ _
theorem Held.add {wE : WX} {w w' : World} {R : List RowD} {g n : Nat} {f : Nat → SC} {t : TypeId} (h : Held wE w R) (hb : Below w.heap.size w w') (hg : w.heap.size ≤ g) (hr : Row w' g () n f t) : Held wE w' (R ++ [⟨g, (), n, f, t⟩]) := by
  have h' := h.call hb
  refine ⟨h'.1, fun r hm => ?_, ?_⟩
  · rcases List.mem_append.1 hm with hm | hm
    · exact h'.2.1 r hm
    · rw [List.mem_singleton] at hm; subst hm
      exact ⟨.inl (Nat.le_trans h.1.size hg), hr⟩
  · rw [List.map_append, List.nodup_append]
    refine ⟨h.2.2, by simp, fun a ha b hb' => ?_⟩
    obtain ⟨r, hr1, rfl⟩ := List.mem_map.1 ha
    simp at hb'
    subst hb'
    have := (h.2.1 r hr1).2.lt
    omega
theorem Held.turn {wE : WX} {w w' : World} {R : List RowD} (h : Held wE w R) (k : Nat) {r : RowD} {n : Nat} {f : Nat → SC} {t : TypeId} (hk : R[k]? = some r) (hf : Fr ⟨w, [r.g]⟩ w') (hr : Row w' r.g () n f t) : Held wE w' (R.set k ⟨r.g, (), n, f, t⟩) := by
  have hrm := h.2.1 r (List.mem_of_getElem? hk)
  have hkl := (List.getElem?_eq_some_iff.1 hk).1
  have hke := (List.getElem?_eq_some_iff.1 hk).2
  refine ⟨h.1.touch hf hrm.1, fun q hq => ?_, ?_⟩
  · obtain ⟨j, hj⟩ := List.getElem?_of_mem hq
    by_cases hjk : k = j
    · subst hjk
      rw [List.getElem?_set_self hkl] at hj
      cases hj
      exact ⟨hrm.1, hr⟩
    · rw [List.getElem?_set_ne hjk] at hj
      have hqm := h.2.1 q (List.mem_of_getElem? hj)
      refine ⟨hqm.1, hqm.2.fr hf ?_⟩
      rw [List.mem_singleton]
      intro e
      obtain ⟨hjl, hje⟩ := List.getElem?_eq_some_iff.1 hj
      have hnd := h.2.2
      have h1 : (R.map RowD.g)[j]'(by rw [List.length_map]; exact hjl) = (R.map RowD.g)[k]'(by rw [List.length_map]; exact hkl) := by
        rw [List.getElem_map, List.getElem_map, hje, hke]; exact e
      have hp := List.pairwise_iff_getElem.1 hnd
      rcases Nat.lt_or_gt_of_ne hjk with hlt | hlt
      · exact hp k j (by rw [List.length_map]; exact hkl) (by rw [List.length_map]; exact hjl) hlt h1.symm
      · exact hp j k (by rw [List.length_map]; exact hjl) (by rw [List.length_map]; exact hkl) hlt h1
  · have e : (R.set k ⟨r.g, (), n, f, t⟩).map RowD.g = R.map RowD.g := by
      apply List.ext_getElem?
      intro j
      rw [List.getElem?_map, List.getElem?_map]
      by_cases hj : k = j
      · subst hj
        rw [List.getElem?_set_self hkl, hk]; rfl
      · rw [List.getElem?_set_ne hj]
    rw [e]; exact h.2.2
theorem Held.anew {wE : WX} {w : World} {R : List RowD} (h : Held wE w R) : Held ⟨w, R.map RowD.g⟩ w R := ⟨Fr.refl _ _, fun r hr => ⟨.inr (List.mem_map_of_mem hr), (h.2.1 r hr).2⟩, h.2.2⟩
theorem same_no (x : ByteArray) : (!decide (x = x)) = false := by simp
theorem allLt1 {n a : Nat} (h : a < n) : ∀ x ∈ [a], x < n := fun x hx => by rw [List.mem_singleton] at hx; subst hx; exact h
theorem allLe2 {n a b : Nat} (h : n ≤ a) (k : n ≤ b) : ∀ x ∈ [a, b], n ≤ x := fun x hx => by
  rcases List.mem_cons.1 hx with rfl | hx
  · exact h
  · rw [List.mem_singleton] at hx; subst hx; exact k
theorem allLt2 {n a b : Nat} (h : a < n) (k : b < n) : ∀ x ∈ [a, b], x < n := fun x hx => by
  rcases List.mem_cons.1 hx with rfl | hx
  · exact h
  · rw [List.mem_singleton] at hx; subst hx; exact k
def zg : ByteArray := ⟨#[90, 103, 10]⟩
def zh : ByteArray := ⟨#[90, 103]⟩
theorem line_f : lineS ⟨#[102]⟩ = zg := by decide +kernel
section
variable {w : World} {g : Nat}
theorem app_f (hr : Row w g () 6 (spC ⟨ByteArray.empty, 0, false, 0, 0, 0⟩) 53) : Calls Try.prog 16 #[.pointer (some ⟨g, 0, none⟩), .string ⟨#[102]⟩] w fun e w' => e = .returned (.int .i64 0) ∧ Row w' g () 6 (spC ⟨zg, 0, false, 1, 0, 0⟩) 53 ∧ Fr ⟨w, [g]⟩ w' := by
  have h := app_stays (r := ⟨#[102]⟩) hr (by decide) (by decide) (by decide) (by decide) (by decide)
  have e : ByteArray.empty ++ lineS ⟨#[102]⟩ = zg := by rw [line_f]; rfl
  rw [e] at h
  exact h
theorem off_f (hr : Row w g () 6 (spC ⟨zg, 0, false, 1, 0, 0⟩) 53) : Calls Try.prog 18 #[.pointer (some ⟨g, 0, none⟩), .int .i64 2] w fun e w' => e = .returned (.tuple #[]) ∧ Row w' g () 6 (spC ⟨zh, 2, true, 1, 0, 0⟩) 53 ∧ Fr ⟨w, [g]⟩ w' := by
  have h := off_on (k := 2) hr (by decide) (by decide)
  have e : (0 + kp 2 (zg.size - 0)) = 2 := by decide
  have e2 : zg.extract 0 2 = zh := by decide +kernel
  rw [e, e2] at h
  exact h
theorem cuts_zh : Cuts zh [] zh := ⟨(ByteArray.empty_append ..).symm, (fun x hx => by cases hx), by show ∀ b ∈ bl zh, b ≠ 10; decide +kernel⟩
theorem open_f (hr : Row w g () 6 (spC ⟨zh, 2, false, 1, 0, 0⟩) 53) : Calls Try.prog 10 #[.pointer (some ⟨g, 0, none⟩)] w fun e w' => (∃ A c, e = .returned (.tuple #[.slice A 0 c, .int .i64 0])) ∧ Row w' g () 6 (spC ⟨ByteArray.empty, 0, false, 1, 0, 0⟩) 53 ∧ Fr ⟨w, [g]⟩ w' :=
  (open_some cuts_zh (by decide) rfl hr).mono fun e w' ⟨⟨A, c, he, _⟩, h2, h3⟩ => ⟨⟨A, c, he⟩, h2, h3⟩
end
theorem alive_calls (w : World) : Calls Try.prog 8 #[] w fun e w' => e = .returned (.bool true) ∧ Below w.heap.size w w' := by
  have hB := Below.refl w.heap.size w
  refine enter_ 43 Try.func8 rfl rfl (fun a0 hS => ?_)
  have HS0 : Sl a0 43 [] := hS
  have HH0 : Held ⟨w, []⟩ w [] := Held.first w []
  clear hS
  refine wp_seq ?_
  have hLo : LOk [(0, 0, .val (.bool false))] := lok (by rfl) (by rfl)
  refine plain_ (wE := ⟨w, []⟩) (sz := 43) (n := 1) [0] [(0, .val (.bool false))] [(0, 0, .val (.bool false))] [] rfl (by rfl) HH0 rfl rfl hLo rfl HS0 (slL 0 (d := 0) rfl (trivial)) ?_ ?_
  · show ∀ i ∈ [0], _
    refine steps_cons (st_run 0 _ rfl rfl hLo rfl rfl (fun _ _ _ _ => rfl) (fun b G w hb ho => exec_move (.inr rfl) (rfl))) ?_
    exact steps_nil
  clear hLo
  intro G a1 w1 hS hH
  have HS1 : Sl a1 43 [(0, .bool false)] := hS
  have HH1 : Held ⟨w, []⟩ w1 [] := hH
  clear hS hH HS0 HH0
  refine then_ ?_
  refine wp_seq ?_
  refine whole_ ?_
  refine cut_call _ rfl rfl rfl rfl Try.func9 rfl rfl (args1 rfl) (new_calls (by decide)) HS1 rfl ?_
  rintro e2 w2 ⟨g, rfl, hng, hrg, hbg⟩
  refine ⟨_, rfl, fun a2 hS => ?_⟩
  have hwg : w.heap.size ≤ g := Nat.le_trans (Nat.le_trans hB.size HH1.1.size) hng
  have HS3 : Sl a2 43 [(4, .pointer (some ⟨g, 0, none⟩)), (0, .bool false)] := hS
  have HH3 : Held ⟨w, []⟩ w2 [⟨g, (), 6, spC ⟨ByteArray.empty, 0, false, 0, 0, 0⟩, 53⟩] := HH1.add hbg hng hrg
  clear hS
  have hLo : LOk [(1, 1, .val (.pointer (some ⟨g, 0, none⟩)))] := lok (by rfl) (by rfl)
  refine part_ (wE := ⟨w, []⟩) (sz := 43) (n := 2) 1 2 [0, 1] [(0, .val (.bool false)), (1, .val (.pointer (some ⟨g, 0, none⟩)))] [(1, 1, .val (.pointer (some ⟨g, 0, none⟩)))] [⟨g, none, none, (), 6, spC ⟨ByteArray.empty, 0, false, 0, 0, 0⟩, spC ⟨ByteArray.empty, 0, false, 0, 0, 0⟩, 53⟩] rfl rfl (by rfl) HH3 rfl rfl hLo rfl HS3 (slS 1 rfl rfl (slL 0 (d := 1) rfl (trivial))) ?_ ?_
  · show ∀ i ∈ [1], _
    refine steps_cons (st_run 0 _ rfl rfl hLo rfl rfl (fun _ _ _ _ => rfl) (fun b G w hb ho => exec_move (.inr rfl) (ev_off rfl (HS3.get 0 rfl)))) ?_
    exact steps_nil
  clear hLo
  intro G a4 w4 hS hH
  have HS4 : Sl a4 43 [(0, .bool false), (1, .pointer (some ⟨g, 0, none⟩))] := hS
  have HH4 : Held ⟨w, []⟩ w4 [⟨g, (), 6, spC ⟨ByteArray.empty, 0, false, 0, 0, 0⟩, 53⟩] := hH
  clear hS hH HS3 HH3
  refine end_ rfl ?_
  refine then_ ?_
  refine wp_seq ?_
  refine wp_seq ?_
  refine whole_ ?_
  have hLo : LOk [(0, 5, .val (.pointer (some ⟨g, 0, none⟩))), (1, 6, .val (.bool false)), (2, 7, .val (.bool false)), (3, 8, .val (.pointer (some ⟨g, 0, none⟩))), (4, 9, .val (.int .i64 (0)))] := lok (by rfl) (by rfl)
  refine part_ (wE := ⟨w, []⟩) (sz := 43) (n := 12) 0 5 [0, 1, 3, 7, 15, 31, 63, 127, 255, 511, 1023, 2047] [(0, .val (.bool false)), (1, .val (.pointer (some ⟨g, 0, none⟩))), (7, .val (.bool false)), (9, .val (.int .i64 (0)))] [(0, 5, .val (.pointer (some ⟨g, 0, none⟩))), (1, 6, .val (.bool false)), (2, 7, .val (.bool false)), (3, 8, .val (.pointer (some ⟨g, 0, none⟩))), (4, 9, .val (.int .i64 (0)))] [⟨g, none, some 4, (), 6, spC ⟨ByteArray.empty, 0, false, 0, 0, 0⟩, spC ⟨zg, 0, false, 1, 0, 0⟩, 53⟩] rfl rfl (by rfl) HH4 rfl rfl hLo rfl HS4 (slS 0 rfl rfl (slS 1 rfl rfl (slL 2 (d := 2) rfl (slL 4 (d := 4) rfl (trivial))))) ?_ ?_
  · show ∀ i ∈ [0, 1, 2, 3, 4], _
    refine steps_cons (st_run 0 _ rfl rfl hLo rfl rfl (fun _ _ _ _ => rfl) (fun b G w hb ho => exec_move (.inl rfl) (ev_off rfl (HS4.get 1 rfl)))) ?_
    refine steps_cons (st_run 1 _ rfl rfl hLo rfl rfl (fun _ _ _ _ => rfl) (fun b G w hb ho => exec_bin rfl (ev_on hLo 0 rfl HS4.1 rfl (hb 0 (by rfl))) (rfl) (rp_eql ⟨_, Try.underlying23⟩ rfl _ _ _))) ?_
    refine steps_cons (st_run 2 _ rfl rfl hLo rfl rfl (fun _ _ _ _ => rfl) (fun b G w hb ho => exec_move (.inl rfl) (ev_on hLo 1 rfl HS4.1 rfl (hb 1 (by rfl))))) ?_
    refine steps_cons (st_run 3 _ rfl rfl hLo rfl rfl (fun b G hb ho => wanted_is rfl rfl rfl HS4.1 rfl (ev_on hLo 2 rfl HS4.1 rfl (hb 2 (by rfl))) rfl) (fun b G w hb ho => exec_move (.inl rfl) (ev_off rfl (HS4.get 1 rfl)))) ?_
    refine steps_cons (st_callM 4 0 _ _ (fun G => #[.pointer (some ⟨g, 0, none⟩), .string (⟨#[102]⟩)]) rfl rfl rfl rfl rfl (fun b G hb ho => wanted_is rfl rfl rfl HS4.1 rfl (ev_on hLo 2 rfl HS4.1 rfl (hb 2 (by rfl))) rfl) hLo rfl (by rfl) (by rfl) (by rfl) Try.func16 rfl rfl (fun b G hb ho => args2 (ev_on hLo 3 rfl HS4.1 rfl (hb 3 (by rfl))) (rfl)) (fun G w hw hr => app_f hr)) ?_
    exact steps_nil
  clear hLo
  intro G a5 w5 hS hH
  have HS5 : Sl a5 43 [(0, .bool false), (1, .pointer (some ⟨g, 0, none⟩)), (7, .bool false), (9, .int .i64 (0))] := hS
  have HH5 : Held ⟨w, []⟩ w5 [⟨g, (), 6, spC ⟨zg, 0, false, 1, 0, 0⟩, 53⟩] := hH
  clear hS hH HS4 HH4
  have hLo : LOk [(5, 10, .val (.bool false)), (6, 11, .val (.bool false)), (7, 12, .val (.bool false)), (8, 13, .val (.pointer (some ⟨g, 0, none⟩))), (9, 14, .val (.string (zg))), (10, 15, .val (.bool false)), (11, 16, .val (.bool false))] := lok (by rfl) (by rfl)
  refine part_ (wE := ⟨w, []⟩) (sz := 43) (n := 12) 5 12 [0, 1, 3, 7, 15, 31, 63, 127, 255, 511, 1023, 2047] [(0, .val (.bool false)), (1, .val (.pointer (some ⟨g, 0, none⟩))), (16, .val (.bool false))] [(5, 10, .val (.bool false)), (6, 11, .val (.bool false)), (7, 12, .val (.bool false)), (8, 13, .val (.pointer (some ⟨g, 0, none⟩))), (9, 14, .val (.string (zg))), (10, 15, .val (.bool false)), (11, 16, .val (.bool false))] [⟨g, none, none, (), 6, spC ⟨zg, 0, false, 1, 0, 0⟩, spC ⟨zg, 0, false, 1, 0, 0⟩, 53⟩] rfl rfl (by rfl) HH5 rfl rfl hLo rfl HS5 (slS 0 rfl rfl (slS 1 rfl rfl (slL 6 (d := 11) rfl (trivial)))) ?_ ?_
  · show ∀ i ∈ [5, 6, 7, 8, 9, 10, 11], _
    refine steps_cons (st_run 0 _ rfl rfl hLo rfl rfl (fun b G hb ho => wanted_is rfl rfl rfl HS5.1 rfl (ev_off rfl (HS5.get 2 rfl)) rfl) (fun b G w hb ho => exec_bin rfl (ev_off rfl (HS5.get 3 rfl)) (rfl) (rb_neq (rfl) _ _ _))) ?_
    refine steps_cons (st_run 1 _ rfl rfl hLo rfl rfl (fun _ _ _ _ => rfl) (fun b G w hb ho => exec_pick rfl (ev_off rfl (HS5.get 2 rfl)) (ev_on hLo 0 rfl HS5.1 rfl (hb 5 (by rfl))))) ?_
    refine steps_cons (st_run 2 _ rfl rfl hLo rfl rfl (fun _ _ _ _ => rfl) (fun b G w hb ho => exec_move (.inl rfl) (ev_on hLo 1 rfl HS5.1 rfl (hb 6 (by rfl))))) ?_
    refine steps_cons (st_run 3 _ rfl rfl hLo rfl rfl (fun b G hb ho => wanted_is rfl rfl rfl HS5.1 rfl (ev_on hLo 2 rfl HS5.1 rfl (hb 7 (by rfl))) rfl) (fun b G w hb ho => exec_move (.inl rfl) (ev_off rfl (HS5.get 1 rfl)))) ?_
    refine steps_cons (st_callRB 4 0 _ _ (fun G => #[.pointer (some ⟨g, 0, none⟩)]) rfl rfl rfl rfl (fun b G hb ho => wanted_is rfl rfl rfl HS5.1 rfl (ev_on hLo 2 rfl HS5.1 rfl (hb 7 (by rfl))) rfl) hLo rfl rfl (by rfl) (by rfl) Try.func13 rfl rfl (fun b G hb ho => args1 (ev_on hLo 3 rfl HS5.1 rfl (hb 8 (by rfl)))) (fun G w hw hr => bytes_calls hr)) ?_
    refine steps_cons (st_run 5 _ rfl rfl hLo rfl rfl (fun b G hb ho => wanted_is rfl rfl rfl HS5.1 rfl (ev_on hLo 2 rfl HS5.1 rfl (hb 7 (by rfl))) rfl) (fun b G w hb ho => exec_bin rfl (ev_on hLo 4 rfl HS5.1 rfl (hb 9 (by rfl))) (rfl) (rb_sneq (same_no _) _ _ _))) ?_
    refine steps_cons (st_run 6 _ rfl rfl hLo rfl rfl (fun _ _ _ _ => rfl) (fun b G w hb ho => exec_pick rfl (ev_on hLo 2 rfl HS5.1 rfl (hb 7 (by rfl))) (ev_on hLo 5 rfl HS5.1 rfl (hb 10 (by rfl))))) ?_
    exact steps_nil
  clear hLo
  intro G a6 w6 hS hH
  have HS6 : Sl a6 43 [(0, .bool false), (1, .pointer (some ⟨g, 0, none⟩)), (16, .bool false)] := hS
  have HH6 : Held ⟨w, []⟩ w6 [⟨g, (), 6, spC ⟨zg, 0, false, 1, 0, 0⟩, 53⟩] := hH
  clear hS hH HS5 HH5
  refine end_ rfl ?_
  refine then_ ?_
  refine wp_cond_false (HS6.get 2 rfl) ?_
  refine wp_skip ?_
  refine then_ ?_
  refine wp_seq ?_
  have hLo : LOk [(0, 17, .val (.pointer (some ⟨g, 0, none⟩))), (1, 18, .val (.tuple #[]))] := lok (by rfl) (by rfl)
  refine plain_ (wE := ⟨w, []⟩) (sz := 43) (n := 2) [0, 1] [(0, .val (.bool false)), (1, .val (.pointer (some ⟨g, 0, none⟩))), (16, .val (.bool false))] [(0, 17, .val (.pointer (some ⟨g, 0, none⟩))), (1, 18, .val (.tuple #[]))] [⟨g, none, some 1, (), 6, spC ⟨zg, 0, false, 1, 0, 0⟩, spC ⟨zh, 2, true, 1, 0, 0⟩, 53⟩] rfl (by rfl) HH6 rfl rfl hLo rfl HS6 (slS 0 rfl rfl (slS 1 rfl rfl (slS 2 rfl rfl (trivial)))) ?_ ?_
  · show ∀ i ∈ [0, 1], _
    refine steps_cons (st_run 0 _ rfl rfl hLo rfl rfl (fun _ _ _ _ => rfl) (fun b G w hb ho => exec_move (.inl rfl) (ev_off rfl (HS6.get 1 rfl)))) ?_
    refine steps_cons (st_callM 1 0 _ _ (fun G => #[.pointer (some ⟨g, 0, none⟩), .int .i64 (2)]) rfl rfl rfl rfl rfl (fun _ _ _ _ => rfl) hLo rfl (by rfl) (by rfl) (by rfl) Try.func18 rfl rfl (fun b G hb ho => args2 (ev_on hLo 0 rfl HS6.1 rfl (hb 0 (by rfl))) (rfl)) (fun G w hw hr => off_f hr)) ?_
    exact steps_nil
  clear hLo
  intro G a7 w7 hS hH
  have HS7 : Sl a7 43 [(0, .bool false), (1, .pointer (some ⟨g, 0, none⟩)), (16, .bool false)] := hS
  have HH7 : Held ⟨w, []⟩ w7 [⟨g, (), 6, spC ⟨zh, 2, true, 1, 0, 0⟩, 53⟩] := hH
  clear hS hH HS6 HH6
  refine then_ ?_
  refine wp_seq ?_
  have hLo : LOk [(0, 19, .val (.pointer (some ⟨g, 0, none⟩))), (1, 20, .val (.tuple #[]))] := lok (by rfl) (by rfl)
  refine plain_ (wE := ⟨w, []⟩) (sz := 43) (n := 2) [0, 1] [(0, .val (.bool false)), (1, .val (.pointer (some ⟨g, 0, none⟩))), (16, .val (.bool false))] [(0, 19, .val (.pointer (some ⟨g, 0, none⟩))), (1, 20, .val (.tuple #[]))] [⟨g, none, some 1, (), 6, spC ⟨zh, 2, true, 1, 0, 0⟩, spC ⟨zh, 2, false, 1, 0, 0⟩, 53⟩] rfl (by rfl) HH7 rfl rfl hLo rfl HS7 (slS 0 rfl rfl (slS 1 rfl rfl (slS 2 rfl rfl (trivial)))) ?_ ?_
  · show ∀ i ∈ [0, 1], _
    refine steps_cons (st_run 0 _ rfl rfl hLo rfl rfl (fun _ _ _ _ => rfl) (fun b G w hb ho => exec_move (.inl rfl) (ev_off rfl (HS7.get 1 rfl)))) ?_
    refine steps_cons (st_callM 1 0 _ _ (fun G => #[.pointer (some ⟨g, 0, none⟩)]) rfl rfl rfl rfl rfl (fun _ _ _ _ => rfl) hLo rfl (by rfl) (by rfl) (by rfl) Try.func21 rfl rfl (fun b G hb ho => args1 (ev_on hLo 0 rfl HS7.1 rfl (hb 0 (by rfl)))) (fun G w hw hr => on_calls hr)) ?_
    exact steps_nil
  clear hLo
  intro G a8 w8 hS hH
  have HS8 : Sl a8 43 [(0, .bool false), (1, .pointer (some ⟨g, 0, none⟩)), (16, .bool false)] := hS
  have HH8 : Held ⟨w, []⟩ w8 [⟨g, (), 6, spC ⟨zh, 2, false, 1, 0, 0⟩, 53⟩] := hH
  clear hS hH HS7 HH7
  refine then_ ?_
  refine wp_seq ?_
  refine whole_ ?_
  have hLo : LOk [(0, 22, .val (.pointer (some ⟨g, 0, none⟩)))] := lok (by rfl) (by rfl)
  refine part_ (wE := ⟨w, []⟩) (sz := 43) (n := 7) 0 1 [0, 1, 3, 7, 15, 31, 63] [(0, .val (.bool false)), (1, .val (.pointer (some ⟨g, 0, none⟩))), (16, .val (.bool false)), (22, .val (.pointer (some ⟨g, 0, none⟩)))] [(0, 22, .val (.pointer (some ⟨g, 0, none⟩)))] [⟨g, none, none, (), 6, spC ⟨zh, 2, false, 1, 0, 0⟩, spC ⟨zh, 2, false, 1, 0, 0⟩, 53⟩] rfl rfl (by rfl) HH8 rfl rfl hLo rfl HS8 (slS 0 rfl rfl (slS 1 rfl rfl (slS 2 rfl rfl (slL 0 (d := 0) rfl (trivial))))) ?_ ?_
  · show ∀ i ∈ [0], _
    refine steps_cons (st_run 0 _ rfl rfl hLo rfl rfl (fun _ _ _ _ => rfl) (fun b G w hb ho => exec_move (.inl rfl) (ev_off rfl (HS8.get 1 rfl)))) ?_
    exact steps_nil
  clear hLo
  intro G a9 w9 hS hH
  have HS9 : Sl a9 43 [(0, .bool false), (1, .pointer (some ⟨g, 0, none⟩)), (16, .bool false), (22, .pointer (some ⟨g, 0, none⟩))] := hS
  have HH9 : Held ⟨w, []⟩ w9 [⟨g, (), 6, spC ⟨zh, 2, false, 1, 0, 0⟩, 53⟩] := hH
  clear hS hH HS8 HH8
  have hrw := HH9.row 0 rfl
  refine cut_call _ rfl rfl rfl rfl Try.func10 rfl rfl (args1 (HS9.get 3 rfl)) (open_f hrw) HS9 rfl ?_
  rintro e10 w10 ⟨⟨A1, c1, rfl⟩, hr1, hf1⟩
  refine ⟨_, rfl, fun a10 hS => ?_⟩
  have HS11 : Sl a10 43 [(23, .tuple #[.slice (A1) (0) (c1), .int .i64 (0)]), (0, .bool false), (1, .pointer (some ⟨g, 0, none⟩)), (16, .bool false), (22, .pointer (some ⟨g, 0, none⟩))] := hS
  have HH11 : Held ⟨w, []⟩ w10 [⟨g, (), 6, spC ⟨ByteArray.empty, 0, false, 1, 0, 0⟩, 53⟩] := HH9.turn 0 rfl hf1 hr1
  clear hS
  have hLo : LOk [(2, 21, .val (.tuple #[.slice (A1) (0) (c1), .int .i64 (0)])), (3, 24, .val (.slice (A1) (0) (c1))), (4, 25, .val (.int .i64 (0))), (5, 2, .val (.slice (A1) (0) (c1))), (6, 3, .val (.int .i64 (0)))] := lok (by rfl) (by rfl)
  refine part_ (wE := ⟨w, []⟩) (sz := 43) (n := 7) 2 7 [0, 1, 3, 7, 15, 31, 63] [(0, .val (.bool false)), (1, .val (.pointer (some ⟨g, 0, none⟩))), (16, .val (.bool false)), (2, .val (.slice (A1) (0) (c1))), (3, .val (.int .i64 (0)))] [(2, 21, .val (.tuple #[.slice (A1) (0) (c1), .int .i64 (0)])), (3, 24, .val (.slice (A1) (0) (c1))), (4, 25, .val (.int .i64 (0))), (5, 2, .val (.slice (A1) (0) (c1))), (6, 3, .val (.int .i64 (0)))] [⟨g, none, none, (), 6, spC ⟨ByteArray.empty, 0, false, 1, 0, 0⟩, spC ⟨ByteArray.empty, 0, false, 1, 0, 0⟩, 53⟩] rfl rfl (by rfl) HH11 rfl rfl hLo rfl HS11 (slS 1 rfl rfl (slS 2 rfl rfl (slS 3 rfl rfl (slL 3 (d := 5) rfl (slL 4 (d := 6) rfl (trivial)))))) ?_ ?_
  · show ∀ i ∈ [2, 3, 4, 5, 6], _
    refine steps_cons (st_run 0 _ rfl rfl hLo rfl rfl (fun _ _ _ _ => rfl) (fun b G w hb ho => exec_move (.inl rfl) (ev_off rfl (HS11.get 0 rfl)))) ?_
    refine steps_cons (st_run 1 _ rfl rfl hLo rfl rfl (fun _ _ _ _ => rfl) (fun b G w hb ho => exec_extract rfl (ev_on hLo 0 rfl HS11.1 rfl (hb 2 (by rfl))) (by rfl))) ?_
    refine steps_cons (st_run 2 _ rfl rfl hLo rfl rfl (fun _ _ _ _ => rfl) (fun b G w hb ho => exec_extract rfl (ev_on hLo 0 rfl HS11.1 rfl (hb 2 (by rfl))) (by rfl))) ?_
    refine steps_cons (st_run 3 _ rfl rfl hLo rfl rfl (fun _ _ _ _ => rfl) (fun b G w hb ho => exec_move (.inr rfl) (ev_on hLo 1 rfl HS11.1 rfl (hb 3 (by rfl))))) ?_
    refine steps_cons (st_run 4 _ rfl rfl hLo rfl rfl (fun _ _ _ _ => rfl) (fun b G w hb ho => exec_move (.inr rfl) (ev_on hLo 2 rfl HS11.1 rfl (hb 4 (by rfl))))) ?_
    exact steps_nil
  clear hLo
  intro G a12 w12 hS hH
  have HS12 : Sl a12 43 [(0, .bool false), (1, .pointer (some ⟨g, 0, none⟩)), (16, .bool false), (2, .slice (A1) (0) (c1)), (3, .int .i64 (0))] := hS
  have HH12 : Held ⟨w, []⟩ w12 [⟨g, (), 6, spC ⟨ByteArray.empty, 0, false, 1, 0, 0⟩, 53⟩] := hH
  clear hS hH HS11 HH11
  refine end_ rfl ?_
  refine then_ ?_
  refine wp_seq ?_
  have hLo : LOk [(0, 26, .val (.slice (A1) (0) (c1))), (1, 27, .val (.int .i64 (0))), (2, 28, .val (.bool true)), (3, 29, .val (.bool true)), (4, 30, .val (.int .i64 (0))), (5, 31, .val (.bool true)), (6, 32, .val (.bool true)), (7, 33, .val (.bool true)), (8, 34, .val (.pointer (some ⟨g, 0, none⟩))), (9, 35, .val (.string (ByteArray.empty))), (10, 36, .val (.bool true)), (11, 37, .val (.bool true)), (12, 38, .val (.bool true)), (13, 39, .val (.pointer (some ⟨g, 0, none⟩))), (14, 40, .val (.int .i64 (((1 : Nat) : Int)))), (15, 41, .val (.bool true)), (16, 42, .val (.bool true)), (17, 0, .val (.bool true))] := lok (by rfl) (by rfl)
  refine plain_ (wE := ⟨w, []⟩) (sz := 43) (n := 18) [0, 1, 3, 7, 15, 31, 63, 127, 255, 511, 1023, 2047, 4095, 8191, 16383, 32767, 65535, 131071] [(1, .val (.pointer (some ⟨g, 0, none⟩))), (16, .val (.bool false)), (2, .val (.slice (A1) (0) (c1))), (3, .val (.int .i64 (0))), (0, .val (.bool true))] [(0, 26, .val (.slice (A1) (0) (c1))), (1, 27, .val (.int .i64 (0))), (2, 28, .val (.bool true)), (3, 29, .val (.bool true)), (4, 30, .val (.int .i64 (0))), (5, 31, .val (.bool true)), (6, 32, .val (.bool true)), (7, 33, .val (.bool true)), (8, 34, .val (.pointer (some ⟨g, 0, none⟩))), (9, 35, .val (.string (ByteArray.empty))), (10, 36, .val (.bool true)), (11, 37, .val (.bool true)), (12, 38, .val (.bool true)), (13, 39, .val (.pointer (some ⟨g, 0, none⟩))), (14, 40, .val (.int .i64 (((1 : Nat) : Int)))), (15, 41, .val (.bool true)), (16, 42, .val (.bool true)), (17, 0, .val (.bool true))] [⟨g, none, none, (), 6, spC ⟨ByteArray.empty, 0, false, 1, 0, 0⟩, spC ⟨ByteArray.empty, 0, false, 1, 0, 0⟩, 53⟩] rfl (by rfl) HH12 rfl rfl hLo rfl HS12 (slS 1 rfl rfl (slS 2 rfl rfl (slS 3 rfl rfl (slS 4 rfl rfl (slL 17 (d := 17) rfl (trivial)))))) ?_ ?_
  · show ∀ i ∈ [0, 1, 2, 3, 4, 5, 6, 7, 8, 9, 10, 11, 12, 13, 14, 15, 16, 17], _
    refine steps_cons (st_run 0 _ rfl rfl hLo rfl rfl (fun _ _ _ _ => rfl) (fun b G w hb ho => exec_move (.inl rfl) (ev_off rfl (HS12.get 3 rfl)))) ?_
    refine steps_cons (st_run 1 _ rfl rfl hLo rfl rfl (fun _ _ _ _ => rfl) (fun b G w hb ho => exec_lenL Try.underlying25 rfl (ev_on hLo 0 rfl HS12.1 rfl (hb 0 (by rfl))))) ?_
    refine steps_cons (st_run 2 _ rfl rfl hLo rfl rfl (fun _ _ _ _ => rfl) (fun b G w hb ho => exec_bin rfl (ev_on hLo 1 rfl HS12.1 rfl (hb 1 (by rfl))) (rfl) (rb_eql (rfl) _ _ _))) ?_
    refine steps_cons (st_run 3 _ rfl rfl hLo rfl rfl (fun _ _ _ _ => rfl) (fun b G w hb ho => exec_move (.inl rfl) (ev_on hLo 2 rfl HS12.1 rfl (hb 2 (by rfl))))) ?_
    refine steps_cons (st_run 4 _ rfl rfl hLo rfl rfl (fun b G hb ho => wanted_is rfl rfl rfl HS12.1 rfl (ev_on hLo 3 rfl HS12.1 rfl (hb 3 (by rfl))) rfl) (fun b G w hb ho => exec_move (.inl rfl) (ev_off rfl (HS12.get 4 rfl)))) ?_
    refine steps_cons (st_run 5 _ rfl rfl hLo rfl rfl (fun b G hb ho => wanted_is rfl rfl rfl HS12.1 rfl (ev_on hLo 3 rfl HS12.1 rfl (hb 3 (by rfl))) rfl) (fun b G w hb ho => exec_bin rfl (ev_on hLo 4 rfl HS12.1 rfl (hb 4 (by rfl))) (rfl) (rb_eql (rfl) _ _ _))) ?_
    refine steps_cons (st_run 6 _ rfl rfl hLo rfl rfl (fun _ _ _ _ => rfl) (fun b G w hb ho => exec_pick rfl (ev_on hLo 3 rfl HS12.1 rfl (hb 3 (by rfl))) (ev_on hLo 5 rfl HS12.1 rfl (hb 5 (by rfl))))) ?_
    refine steps_cons (st_run 7 _ rfl rfl hLo rfl rfl (fun _ _ _ _ => rfl) (fun b G w hb ho => exec_move (.inl rfl) (ev_on hLo 6 rfl HS12.1 rfl (hb 6 (by rfl))))) ?_
    refine steps_cons (st_run 8 _ rfl rfl hLo rfl rfl (fun b G hb ho => wanted_is rfl rfl rfl HS12.1 rfl (ev_on hLo 7 rfl HS12.1 rfl (hb 7 (by rfl))) rfl) (fun b G w hb ho => exec_move (.inl rfl) (ev_off rfl (HS12.get 1 rfl)))) ?_
    refine steps_cons (st_callRB 9 0 _ _ (fun G => #[.pointer (some ⟨g, 0, none⟩)]) rfl rfl rfl rfl (fun b G hb ho => wanted_is rfl rfl rfl HS12.1 rfl (ev_on hLo 7 rfl HS12.1 rfl (hb 7 (by rfl))) rfl) hLo rfl rfl (by rfl) (by rfl) Try.func13 rfl rfl (fun b G hb ho => args1 (ev_on hLo 8 rfl HS12.1 rfl (hb 8 (by rfl)))) (fun G w hw hr => bytes_calls hr)) ?_
    refine steps_cons (st_run 10 _ rfl rfl hLo rfl rfl (fun b G hb ho => wanted_is rfl rfl rfl HS12.1 rfl (ev_on hLo 7 rfl HS12.1 rfl (hb 7 (by rfl))) rfl) (fun b G w hb ho => exec_bin rfl (ev_on hLo 9 rfl HS12.1 rfl (hb 9 (by rfl))) (rfl) (rb_seql (decide_eq_true rfl) _ _ _))) ?_
    refine steps_cons (st_run 11 _ rfl rfl hLo rfl rfl (fun _ _ _ _ => rfl) (fun b G w hb ho => exec_pick rfl (ev_on hLo 7 rfl HS12.1 rfl (hb 7 (by rfl))) (ev_on hLo 10 rfl HS12.1 rfl (hb 10 (by rfl))))) ?_
    refine steps_cons (st_run 12 _ rfl rfl hLo rfl rfl (fun _ _ _ _ => rfl) (fun b G w hb ho => exec_move (.inl rfl) (ev_on hLo 11 rfl HS12.1 rfl (hb 11 (by rfl))))) ?_
    refine steps_cons (st_run 13 _ rfl rfl hLo rfl rfl (fun b G hb ho => wanted_is rfl rfl rfl HS12.1 rfl (ev_on hLo 12 rfl HS12.1 rfl (hb 12 (by rfl))) rfl) (fun b G w hb ho => exec_move (.inl rfl) (ev_off rfl (HS12.get 1 rfl)))) ?_
    refine steps_cons (st_callRB 14 0 _ _ (fun G => #[.pointer (some ⟨g, 0, none⟩)]) rfl rfl rfl rfl (fun b G hb ho => wanted_is rfl rfl rfl HS12.1 rfl (ev_on hLo 12 rfl HS12.1 rfl (hb 12 (by rfl))) rfl) hLo rfl rfl (by rfl) (by rfl) Try.func14 rfl rfl (fun b G hb ho => args1 (ev_on hLo 13 rfl HS12.1 rfl (hb 13 (by rfl)))) (fun G w hw hr => acts_calls hr)) ?_
    refine steps_cons (st_run 15 _ rfl rfl hLo rfl rfl (fun b G hb ho => wanted_is rfl rfl rfl HS12.1 rfl (ev_on hLo 12 rfl HS12.1 rfl (hb 12 (by rfl))) rfl) (fun b G w hb ho => exec_bin rfl (ev_on hLo 14 rfl HS12.1 rfl (hb 14 (by rfl))) (rfl) (rb_eql (rfl) _ _ _))) ?_
    refine steps_cons (st_run 16 _ rfl rfl hLo rfl rfl (fun _ _ _ _ => rfl) (fun b G w hb ho => exec_pick rfl (ev_on hLo 12 rfl HS12.1 rfl (hb 12 (by rfl))) (ev_on hLo 15 rfl HS12.1 rfl (hb 15 (by rfl))))) ?_
    refine steps_cons (st_run 17 _ rfl rfl hLo rfl rfl (fun _ _ _ _ => rfl) (fun b G w hb ho => exec_move (.inr rfl) (ev_on hLo 16 rfl HS12.1 rfl (hb 16 (by rfl))))) ?_
    exact steps_nil
  clear hLo
  intro G a13 w13 hS hH
  have HS13 : Sl a13 43 [(1, .pointer (some ⟨g, 0, none⟩)), (16, .bool false), (2, .slice (A1) (0) (c1)), (3, .int .i64 (0)), (0, .bool true)] := hS
  have HH13 : Held ⟨w, []⟩ w13 [⟨g, (), 6, spC ⟨ByteArray.empty, 0, false, 1, 0, 0⟩, 53⟩] := hH
  clear hS hH HS12 HH12
  refine then_ ?_
  refine wp_ret ?_
  repeat (first | refine then_ret ?_ | refine inBlock_ret' ?_)
  exact b_tmp rfl HS13.2.1 (HS13.get 4 rfl) ⟨rfl, HH13.1.below⟩
section
variable {w : World} {al tl : ByteArray} {ls rs : List ByteArray}
theorem records_some (hC : Cuts al ls tl) (hal : al.size ≤ 1073741824) (hrec : recs ls = some rs) : Calls Try.prog 11 #[.string al] w fun e w' => (∃ A c, e = .returned (.tuple #[.slice A rs.length c, .int .i64 ((cat ls).size : Int), .bool true]) ∧ TX w' w.heap.size (.slice A rs.length c) rs) ∧ Below w.heap.size w w' :=
  (records_calls hC hal w).mono fun e w' ⟨v, he, hR, hb⟩ => by
    rw [hrec] at he hR
    obtain ⟨A, c, rfl⟩ := Kd.R_slice hR
    exact ⟨⟨A, c, he, hR⟩, hb⟩
theorem records_none (hC : Cuts al ls tl) (hal : al.size ≤ 1073741824) (hrec : recs ls = none) : Calls Try.prog 11 #[.string al] w fun e w' => (∃ A c, e = .returned (.tuple #[.slice A ([] : List ByteArray).length c, .int .i64 0, .bool false]) ∧ TX w' w.heap.size (.slice A ([] : List ByteArray).length c) []) ∧ Below w.heap.size w w' :=
  (records_calls hC hal w).mono fun e w' ⟨v, he, hR, hb⟩ => by
    rw [hrec] at he hR
    obtain ⟨A, c, rfl⟩ := Kd.R_slice hR
    exact ⟨⟨A, c, he, hR⟩, hb⟩
end
end Go.Proofs.Ytdleomeiojlooaa.P
end

section
namespace Go.Proofs.Ytdleomeiojlooaa.P
set_option linter.unusedVariables false
set_option linter.unusedSimpArgs false
open Go.ChangeShapes Go.WideShapes Go.RowKit Go.Deep Go.Joins Go.Proofs.YtdleomeiojlooaaW.PrintWords Go.Proofs.YtdleomeiojlooaaW.PrintLast Go.Proofs.YtdleomeiojlooaaW.PrintMore
abbrev reach47 : Nat := 140737488351232
section
variable {H : Type} {enc : TypeId × Value → H} {P : Program} {W : World} {held : Bool}
theorem weightsAll_mem {e : TypeId} {x : Nat} {d : DataW H} : ∀ {ds : List (DataW H)}, d ∈ ds → x ∈ d.weights P e → x ∈ DataW.weightsAll P e ds
  | [], h, _ => by cases h
  | a :: r, h, hx => by
    unfold DataW.weightsAll
    rcases List.mem_cons.1 h with rfl | h
    · exact List.mem_append_left _ hx
    · exact List.mem_append_right _ (weightsAll_mem h hx)
theorem weightsEach_mem {t : TypeId} {x : Nat} {d : DataW H} : ∀ {ts : List TypeId} {ds : List (DataW H)} {j : Nat}, ts[j]? = some t → ds[j]? = some d → x ∈ d.weights P t → x ∈ DataW.weightsEach P ts ds
  | [], _, j, h, _, _ => by cases h
  | _ :: _, [], j, _, h, _ => by cases h
  | a :: ts, b :: ds, 0, h1, h2, hx => by
    unfold DataW.weightsEach
    injection h1 with h1; injection h2 with h2; subst h1; subst h2
    exact List.mem_append_left _ hx
  | a :: ts, b :: ds, j + 1, h1, h2, hx => by
    unfold DataW.weightsEach
    exact List.mem_append_right _ (weightsEach_mem (ts := ts) (ds := ds) (j := j) h1 h2 hx)
theorem fld {fs : Array Field} {L : List (TypeId × Nat)} (h : fs.toList.map (fun f => (f.type, f.offset)) = L) {i : Nat} {p : TypeId × Nat} (hp : L[i]? = some p) : ∃ f, fs[i]? = some f ∧ f.type = p.1 ∧ f.offset = p.2 := by
  subst h
  rw [List.getElem?_map] at hp
  cases e : fs.toList[i]? with
  | none => rw [e] at hp; cases hp
  | some f =>
    rw [e] at hp
    injection hp with hp
    subst hp
    exact ⟨f, by rw [← e]; exact Array.getElem?_toList.symm, rfl, rfl⟩
theorem fldN {fs : Array Field} {L : List (TypeId × Nat)} (h : fs.toList.map (fun f => (f.type, f.offset)) = L) : fs.size = L.length := by
  subst h; simp
structure InL {α : Type} (d : Kd α) (ok : α → Prop) (w : World) (a : Option Addr) (len cap : Nat) (l : List α) : Prop where
  z_len : l.length = len
  z_cap : len ≤ cap
  z_C : Kd.C d w a len l
  z_ok : ∀ x ∈ l, ok x
  z_max : len ≤ reach47
theorem choose_list {α : Type} {p : Nat → α → Prop} : ∀ n, (∀ i, i < n → ∃ u, p i u) → ∃ l : List α, l.length = n ∧ ∀ i u, l[i]? = some u → p i u
  | 0, _ => ⟨[], rfl, fun i u h => by cases h⟩
  | n + 1, h => by
    obtain ⟨l, hl, hp⟩ := choose_list n (fun i hi => h i (by omega))
    obtain ⟨u, hu⟩ := h n (by omega)
    refine ⟨l ++ [u], by simp [hl], fun i v hv => ?_⟩
    by_cases hi : i < n
    · rw [List.getElem?_append_left (by omega)] at hv; exact hp i v hv
    · rw [List.getElem?_append_right (by omega)] at hv
      have h2 := (List.getElem?_eq_some_iff.1 hv).1
      simp at h2
      have h3 : i = n := by omega
      subst h3
      rw [hl, Nat.sub_self] at hv
      cases hv
      exact hu
theorem open_list {α : Type} (d : Kd α) (ok : α → Prop) {t e : TypeId} {v : Value} {ts : List TypeId} {ds : List (DataW H)} {j : Nat} {dd : DataW H} {ps : List MemPlace} {r : Reach} {b0 : Nat}
    (hsz : (DataW.weightsEach P ts ds).all (· ≤ reachBytes) = true) (htj : ts[j]? = some t) (hdj : ds[j]? = some dd) (ht : P.underlying t = some (.slice e)) (ce : P.cellsOf e = d.sz) (hbe : 0 < P.bytesOf e) (hv : Value.okWide P W r b0 t v) (h : DataW.Trod enc P W 0 (fun _ => true) held t v dd ps)
    (each : ∀ fuel cs (de : DataW H) pe, DataW.trod enc P W 0 (fun _ => true) held fuel e cs = some (de, pe) → (∀ x ∈ de.weights P e, x ≤ reach47) → ∃ x, d.K W x cs ∧ ok x) : ∃ a len cap l, v = .slice a len cap ∧ InL d ok W a len cap l := by
  obtain ⟨fuel, hf⟩ := h
  have hw : ∀ x ∈ dd.weights P t, x ≤ reach47 := fun x hx => of_decide_eq_true (List.all_eq_true.1 hsz x (weightsEach_mem htj hdj hx))
  obtain ⟨a, len, cap, rfl⟩ := okWide_slice ht hv
  rcases DataW.trod_slice ht hf with ⟨h0, _⟩ | ⟨x, l0, c0, elems, rest, m, rfl, hcs, hy, hb, hl, hm, hle, hel, hsp, _⟩
  · have h0' : [Value.slice a len cap] = [.slice none 0 0] := h0
    injection h0' with h0' _
    injection h0' with h1 h2 h3
    subst h1; subst h2; subst h3
    exact ⟨none, 0, 0, [], rfl, rfl, Nat.le_refl _, ⟨rfl, by omega, fun h => absurd h (by omega)⟩, (fun x hx => by cases hx), by decide⟩
  · have hcs' : [Value.slice a len cap] = [.slice (some x) l0 c0] := hcs
    injection hcs' with hcs' _
    injection hcs' with h1 h2 h3
    subst h1; subst h2; subst h3
    obtain ⟨hy, _⟩ := Prod.mk.inj hy
    rw [hy] at hw
    unfold DataW.weights at hw
    rw [ht] at hw
    have el : ∀ i, i < len → ∃ u : α, (∃ cs, cs.length = d.sz ∧ d.K W u cs ∧ ∀ j v, cs[j]? = some v → W.cell? (x.add (i * d.sz + j)) = some v) ∧ ok u := by
      intro i hi
      have h1 := hel i hi
      have hs : elems[i]? = some (elems[i]'(by omega)) := List.getElem?_eq_getElem (by omega)
      rw [hs, Option.bind_eq_some_iff] at h1
      obtain ⟨cs, h2, h3⟩ := h1
      rw [ce] at h2
      obtain ⟨_, h5, h6⟩ := World.cells?_some h2
      obtain ⟨u, h7, h8⟩ := each m cs (elems[i]'(by omega)).1 (elems[i]'(by omega)).2 h3 (fun y hy2 => hw y (List.mem_cons_of_mem _ (List.mem_append_left _ (weightsAll_mem (List.mem_map.2 ⟨_, List.getElem_mem _, rfl⟩) hy2))))
      refine ⟨u, ⟨cs, h5, h7, fun j v hv => ?_⟩, h8⟩
      have hj : j < d.sz := by rw [← h5]; exact (List.getElem?_eq_some_iff.1 hv).1
      rw [← Go.Deep.add_add, h6 j hj, hv]
    obtain ⟨l, hll, hlp⟩ := choose_list len el
    refine ⟨some x, len, cap, l, rfl, hll, hl, ⟨hll, by have := hm; unfold maxLen at this; omega, fun _ => ⟨x, rfl, fun j p hp => ?_⟩⟩, fun u hu => ?_, ?_⟩
    · obtain ⟨cs, q1, q2, q3⟩ := (hlp j p hp).1
      exact ⟨cs, q1, q2, q3⟩
    · obtain ⟨i, hi⟩ := List.getElem?_of_mem hu
      exact (hlp i u hi).2
    · have h9 := hw _ List.mem_cons_self
      simp only [List.length_map] at h9
      exact Nat.le_trans (by omega : len ≤ elems.length + rest.length) (Nat.le_trans (Nat.le_mul_of_pos_right _ hbe) h9)
theorem str_size {s : ByteArray} {e : TypeId} {d : DataW H} (hd : d = .lit (.string s.data.toList)) (hw : ∀ x ∈ d.weights P e, x ≤ reach47) : s.size ≤ reach47 := by
  subst hd
  have := hw s.data.toList.length (by unfold DataW.weights; exact List.mem_cons_self)
  rw [Array.length_toList] at this
  exact this
def CallOk (c : S49) : Prop := (Lit.int .i64 c.f0).wf = true ∧ (Lit.int .i64 c.f1).wf = true ∧ (Lit.int .i64 c.f2).wf = true ∧ c.f3.size ≤ reach47
theorem each_call {e tI tS : TypeId} {fs : Array Field} (he : P.underlying e = some (.struct fs)) (hi : P.underlying tI = some (.int .i64)) (hs : P.underlying tS = some .string) (hf : fs.toList.map (fun f => (f.type, f.offset)) = [(tI, 0), (tI, 1), (tI, 2), (tS, 3)]) (ce : P.cellsOf e = 4) (ci : P.cellsOf tI = 1) (cs_ : P.cellsOf tS = 1) :
    ∀ fuel cs (de : DataW H) pe, DataW.trod enc P W 0 (fun _ => true) held fuel e cs = some (de, pe) → (∀ x ∈ de.weights P e, x ≤ reach47) → ∃ x, k49.K W x cs ∧ CallOk x := by
  intro fuel cs de pe h hw
  obtain ⟨us, n2, rfl, hu, hlen, hul, hf2⟩ := DataW.trod_struct he h
  obtain ⟨hu, _⟩ := Prod.mk.inj hu
  rw [hu] at hw
  unfold DataW.weights at hw
  simp only [he] at hw
  rw [fldN hf] at hul
  rw [ce] at hlen
  obtain ⟨u0, u1, u2, u3, rfl⟩ : ∃ a b c d, cs = [a, b, c, d] := by
    match cs, hlen with
    | [a, b, c, d], _ => exact ⟨a, b, c, d, rfl⟩
  have part2 : ∀ (i : Nat) (p : TypeId × Nat), [(tI, 0), (tI, 1), (tI, 2), (tS, 3)][i]? = some p → ∃ y : DataW H × List MemPlace, DataW.trod enc P W 0 (fun _ => true) held n2 p.1 (([u0, u1, u2, u3].drop p.2).take (P.cellsOf p.1)) = some y ∧ ∀ x ∈ y.1.weights P p.1, x ≤ reach47 := by
    intro i p hp
    obtain ⟨f, k1, k2, k3⟩ := fld hf hp
    have k4 := hf2 i f k1
    rw [k2, k3] at k4
    have hi : i < us.length := by
      rw [hul]
      exact (List.getElem?_eq_some_iff.1 hp).1
    refine ⟨us[i], by rw [k4]; exact List.getElem?_eq_getElem hi, fun x hx2 => hw x ?_⟩
    refine weightsEach_mem (t := p.1) (d := us[i].1) (j := i) ?_ ?_ hx2
    · rw [List.getElem?_map, Array.getElem?_toList, k1, ← k2]; rfl
    · rw [List.getElem?_map, List.getElem?_eq_getElem hi]; rfl
  obtain ⟨r0, s0, _⟩ := part2 0 _ rfl
  obtain ⟨r1, s1, _⟩ := part2 1 _ rfl
  obtain ⟨r2, s2, _⟩ := part2 2 _ rfl
  obtain ⟨r3, s3, ws3⟩ := part2 3 _ rfl
  simp only [ci, cs_, List.drop_succ_cons, List.drop_zero, List.take_succ_cons, List.take_zero] at s0 s1 s2 s3
  obtain ⟨z0, e0, _, q0⟩ := DataW.trod_int hi s0
  obtain ⟨z1, e1, _, q1⟩ := DataW.trod_int hi s1
  obtain ⟨z2, e2, _, q2⟩ := DataW.trod_int hi s2
  obtain ⟨z3, e3, y3e, _⟩ := DataW.trod_string hs s3
  obtain ⟨rfl⟩ := List.cons.inj e0 |>.1
  obtain ⟨rfl⟩ := List.cons.inj e1 |>.1
  obtain ⟨rfl⟩ := List.cons.inj e2 |>.1
  obtain ⟨rfl⟩ := List.cons.inj e3 |>.1
  exact ⟨⟨z0, z1, z2, z3⟩, k49_mk W ⟨z0, z1, z2, z3⟩, q0, q1, q2, str_size (by rw [y3e]) ws3⟩
end
theorem same_callsC {w : World} {l : List ByteArray} {A1 A2 : Option Addr} {c1 c2 n1 n2 : Nat} (h1 : Kd.C Kd.string w A1 n1 l) (k1 : n1 ≤ c1) (h2 : Kd.C Kd.string w A2 n2 l) (k2 : n2 ≤ c2) (hl : l.length ≤ 1073741824) : Calls Try.prog 12 #[.slice A1 n1 c1, .slice A2 n2 c2] w fun e w' => e = .returned (.bool true) ∧ Below w.heap.size w w' := by
  have e1 := h1.1
  have e2 := h2.1
  subst e1
  subst e2
  refine (hustingsref19_Same.calls (l.length + 1) A1 c1 l A2 c2 l true w h1 k1 h2 k2 ?_).mono fun e w' h => ⟨h.1, h.2.below⟩
  unfold hustingsref19_Same.f
  rw [if_pos rfl]
  exact same_go l hl l.length 0 (by omega)
theorem TX.C {w : World} {B n c : Nat} {A : Option Addr} {l : List ByteArray} (h : TX w B (.slice A n c) l) : Kd.C Kd.string w A n l ∧ n ≤ c := by
  obtain ⟨rfl, a2, a3⟩ := Kd.R_reads' h
  exact ⟨a3, a2⟩
end Go.Proofs.Ytdleomeiojlooaa.P
end

section
namespace Go.Proofs.Ytdleomeiojlooaa.P
set_option linter.unusedVariables false
set_option linter.unusedSimpArgs false
open Go.RowKit Go.ChangeShapes Go.WideShapes Go.Proofs.YtdleomeiojlooaaW.PrintWords Go.Proofs.YtdleomeiojlooaaW.PrintLast Go.Proofs.YtdleomeiojlooaaW.PrintMore Go.Proofs.Ytdleomeiojlooaa.L
theorem wxc {n : Nat} {w W : World} {X : List Nat} {ad : Addr} {v : Value} (h : w.cell? ad = some v) (hn : w.heap.size = n) (hB : Below n w W) (hX : ∀ x ∈ X, n ≤ x) : WX.cell? ⟨W, X⟩ ad = some v := by
  have hl := cell_lt h
  unfold WX.cell?
  rw [if_neg (fun hm => by have := hX _ hm; omega)]
  exact (hB.cell (by omega)).trans h
end Go.Proofs.Ytdleomeiojlooaa.P
end

section
namespace Go.Proofs.Ytdleomeiojlooaa.P
set_option linter.unusedVariables false
set_option linter.unusedSimpArgs false
open Go.RowKit Go.ChangeShapes Go.WideShapes Go.Proofs.YtdleomeiojlooaaW.PrintWords Go.Proofs.YtdleomeiojlooaaW.PrintLast Go.Proofs.YtdleomeiojlooaaW.PrintMore
theorem tabro5 : rtab .any (opsOf Try.f27 5) = (true, [([], []), ([], []), ([1], [1]), ([2], [2]), ([3], [3]), ([], []), ([5], [5]), ([6], [6]), ([7], [7]), ([], []), ([8, 9], [8, 9]), ([4, 10], [4, 10]), ([0, 0, 1, 2, 3, 4, 5, 6, 7, 8, 9, 10, 11], [0]), ([12, 0, 1, 2, 3, 4, 5, 6, 7, 8, 9, 10, 11], [12]), ([13, 11, 0, 1, 2, 3, 4, 5, 6, 7, 8, 9, 10, 11], [11, 13])]) := by kernel_rfl
theorem bitsro5 : waitsOk [([], []), ([], []), ([1], [1]), ([2], [2]), ([3], [3]), ([], []), ([5], [5]), ([6], [6]), ([7], [7]), ([], []), ([8, 9], [8, 9]), ([4, 10], [4, 10]), ([0, 0, 1, 2, 3, 4, 5, 6, 7, 8, 9, 10, 11], [0]), ([12, 0, 1, 2, 3, 4, 5, 6, 7, 8, 9, 10, 11], [12]), ([13, 11, 0, 1, 2, 3, 4, 5, 6, 7, 8, 9, 10, 11], [11, 13])] [0, 0, 2, 6, 14, 0, 32, 96, 224, 0, 992, 2046, 4095, 8191, 16383] = true := by kernel_rfl
theorem tabre3 : rtab .any (opsOf Try.f25 3) = (true, [([], []), ([], []), ([1], [1]), ([2], [2]), ([3], [3]), ([], []), ([5], [5]), ([6], [6]), ([7], [7]), ([4, 8], [4, 8]), ([0, 0, 1, 2, 3, 4, 5, 6, 7, 8, 9], [0]), ([10, 0, 1, 2, 3, 4, 5, 6, 7, 8, 9], [10]), ([11, 9, 0, 1, 2, 3, 4, 5, 6, 7, 8, 9], [9, 11])]) := by kernel_rfl
theorem bitsre3 : waitsOk [([], []), ([], []), ([1], [1]), ([2], [2]), ([3], [3]), ([], []), ([5], [5]), ([6], [6]), ([7], [7]), ([4, 8], [4, 8]), ([0, 0, 1, 2, 3, 4, 5, 6, 7, 8, 9], [0]), ([10, 0, 1, 2, 3, 4, 5, 6, 7, 8, 9], [10]), ([11, 9, 0, 1, 2, 3, 4, 5, 6, 7, 8, 9], [9, 11])] [0, 0, 2, 6, 14, 0, 32, 96, 224, 510, 1023, 2047, 4095] = true := by kernel_rfl
theorem roff_on {w : World} {g : Nat} {safe waits : ByteArray} {acts inn : Nat} {keep : Int} {k : Int} (hr : Row w g () 6 (rpC ⟨safe, waits, true, acts, inn, keep⟩) 51) (hsw : safe.size + waits.size ≤ 4194304) : Calls Try.prog 27 #[.pointer (some ⟨g, 0, none⟩), .int .i64 (k)] w fun e w' => e = .returned (.tuple #[]) ∧ Row w' g () 6 (rpC ⟨(safe ++ waits.extract 0 (kp k waits.size)), ByteArray.empty, false, acts, 0, keep⟩) 51 ∧ Fr ⟨w, [g]⟩ w' := by
  refine enter_ 46 Try.func27 rfl rfl (fun a0 hS => ?_)
  have HS0 : Sl a0 46 [(0, .pointer (some ⟨g, 0, none⟩)), (1, .int .i64 (k))] := hS
  have HH0 : Held ⟨w, [g]⟩ w [⟨g, (), 6, rpC ⟨safe, waits, true, acts, inn, keep⟩, 51⟩] := Held.one hr
  clear hS
  refine wp_seq ?_
  refine wp_seq ?_
  have hLo : LOk [(0, 4, .val (.pointer (some ⟨g, 0, none⟩))), (1, 5, .val (.pointer (some ⟨g, 0, none⟩))), (2, 6, .val (.pointer (some ⟨g, 2, none⟩))), (3, 7, .val (.bool true)), (4, 8, .val (.bool false))] := lok (by rfl) (by rfl)
  refine plain_ (wE := ⟨w, [g]⟩) (sz := 46) (n := 5) [0, 1, 3, 7, 15] [(0, .val (.pointer (some ⟨g, 0, none⟩))), (1, .val (.int .i64 (k))), (8, .val (.bool false))] [(0, 4, .val (.pointer (some ⟨g, 0, none⟩))), (1, 5, .val (.pointer (some ⟨g, 0, none⟩))), (2, 6, .val (.pointer (some ⟨g, 2, none⟩))), (3, 7, .val (.bool true)), (4, 8, .val (.bool false))] [⟨g, none, none, (), 6, rpC ⟨safe, waits, true, acts, inn, keep⟩, rpC ⟨safe, waits, true, acts, inn, keep⟩, 51⟩] rfl (by rfl) HH0 rfl rfl hLo rfl HS0 (slS 0 rfl rfl (slS 1 rfl rfl (slL 4 (d := 4) rfl (trivial)))) ?_ ?_
  · show ∀ i ∈ [0, 1, 2, 3, 4], _
    refine steps_cons (st_run 0 _ rfl rfl hLo rfl rfl (fun _ _ _ _ => rfl) (fun b G w hb ho => exec_move (.inl rfl) (ev_off rfl (HS0.get 0 rfl)))) ?_
    refine steps_cons (st_run 1 _ rfl rfl hLo rfl rfl (fun _ _ _ _ => rfl) (fun b G w hb ho => exec_nil rfl (ev_on hLo 0 rfl HS0.1 rfl (hb 0 (by rfl))))) ?_
    refine steps_cons (st_run 2 _ rfl rfl hLo rfl rfl (fun _ _ _ _ => rfl) (fun b G w hb ho => exec_field rfl (ev_on hLo 1 rfl HS0.1 rfl (hb 1 (by rfl))) (by kernel_rfl))) ?_
    refine steps_cons (st_read 3 0 _ _ rfl rfl rfl hLo rfl rfl (fun _ _ _ _ => rfl) (by rfl) (by rfl) (fun b G w hb ho hr => exec_cell hr (Nat.le_of_ble_eq_true rfl) Try.underlying4 rfl rfl (ev_on hLo 2 rfl HS0.1 rfl (hb 2 (by rfl))))) ?_
    refine steps_cons (st_run 4 _ rfl rfl hLo rfl rfl (fun _ _ _ _ => rfl) (fun b G w hb ho => exec_un rfl (ev_on hLo 3 rfl HS0.1 rfl (hb 3 (by rfl))) (ru_not _))) ?_
    exact steps_nil
  clear hLo
  intro G a1 w1 hS hH
  have HS1 : Sl a1 46 [(0, .pointer (some ⟨g, 0, none⟩)), (1, .int .i64 (k)), (8, .bool false)] := hS
  have HH1 : Held ⟨w, [g]⟩ w1 [⟨g, (), 6, rpC ⟨safe, waits, true, acts, inn, keep⟩, 51⟩] := hH
  clear hS hH HS0 HH0
  refine then_ ?_
  refine wp_cond_false (HS1.get 2 rfl) ?_
  refine wp_skip ?_
  refine then_ ?_
  refine wp_seq ?_
  obtain ⟨r1, hr1⟩ : ∃ r : Bool, (decide ((k : Int) < 0)) = r := ⟨_, rfl⟩
  refine wp_seq ?_
  have hLo : LOk [(0, 9, .val (.int .i64 (k))), (1, 10, .val (.bool r1))] := lok (by rfl) (by rfl)
  refine plain_ (wE := ⟨w, [g]⟩) (sz := 46) (n := 2) [0, 1] [(0, .val (.pointer (some ⟨g, 0, none⟩))), (1, .val (.int .i64 (k))), (8, .val (.bool false)), (10, .val (.bool r1))] [(0, 9, .val (.int .i64 (k))), (1, 10, .val (.bool r1))] [⟨g, none, none, (), 6, rpC ⟨safe, waits, true, acts, inn, keep⟩, rpC ⟨safe, waits, true, acts, inn, keep⟩, 51⟩] rfl (by rfl) HH1 rfl rfl hLo rfl HS1 (slS 0 rfl rfl (slS 1 rfl rfl (slS 2 rfl rfl (slL 1 (d := 1) rfl (trivial))))) ?_ ?_
  · show ∀ i ∈ [0, 1], _
    refine steps_cons (st_run 0 _ rfl rfl hLo rfl rfl (fun _ _ _ _ => rfl) (fun b G w hb ho => exec_move (.inl rfl) (ev_off rfl (HS1.get 1 rfl)))) ?_
    refine steps_cons (st_run 1 _ rfl rfl hLo rfl rfl (fun _ _ _ _ => rfl) (fun b G w hb ho => exec_bin rfl (ev_on hLo 0 rfl HS1.1 rfl (hb 0 (by rfl))) (rfl) (rb_lss hr1 _ _ _))) ?_
    exact steps_nil
  clear hLo
  intro G a2 w2 hS hH
  have HS2 : Sl a2 46 [(0, .pointer (some ⟨g, 0, none⟩)), (1, .int .i64 (k)), (8, .bool false), (10, .bool r1)] := hS
  have HH2 : Held ⟨w, [g]⟩ w2 [⟨g, (), 6, rpC ⟨safe, waits, true, acts, inn, keep⟩, 51⟩] := hH
  clear hS hH HS1 HH1
  refine then_ ?_
  cases r1
  · skip
    refine wp_cond_false (HS2.get 3 rfl) ?_
    refine wp_skip ?_
    refine then_ ?_
    refine wp_seq ?_
    obtain ⟨r2, hr2⟩ : ∃ r : Bool, (decide ((((waits).size : Int) : Int) < k)) = r := ⟨_, rfl⟩
    refine wp_seq ?_
    have hLo : LOk [(0, 11, .val (.int .i64 (k))), (1, 12, .val (.pointer (some ⟨g, 0, none⟩))), (2, 13, .val (.pointer (some ⟨g, 0, none⟩))), (3, 14, .val (.pointer (some ⟨g, 1, none⟩))), (4, 15, .val (.string (waits))), (5, 16, .val (.int .i64 (((waits).size : Int)))), (6, 17, .val (.bool r2))] := lok (by rfl) (by rfl)
    refine plain_ (wE := ⟨w, [g]⟩) (sz := 46) (n := 7) [0, 1, 3, 7, 15, 31, 63] [(0, .val (.pointer (some ⟨g, 0, none⟩))), (1, .val (.int .i64 (k))), (8, .val (.bool false)), (10, .val (.bool false)), (17, .val (.bool r2))] [(0, 11, .val (.int .i64 (k))), (1, 12, .val (.pointer (some ⟨g, 0, none⟩))), (2, 13, .val (.pointer (some ⟨g, 0, none⟩))), (3, 14, .val (.pointer (some ⟨g, 1, none⟩))), (4, 15, .val (.string (waits))), (5, 16, .val (.int .i64 (((waits).size : Int)))), (6, 17, .val (.bool r2))] [⟨g, none, none, (), 6, rpC ⟨safe, waits, true, acts, inn, keep⟩, rpC ⟨safe, waits, true, acts, inn, keep⟩, 51⟩] rfl (by rfl) HH2 rfl rfl hLo rfl HS2 (slS 0 rfl rfl (slS 1 rfl rfl (slS 2 rfl rfl (slS 3 rfl rfl (slL 6 (d := 6) rfl (trivial)))))) ?_ ?_
    · show ∀ i ∈ [0, 1, 2, 3, 4, 5, 6], _
      refine steps_cons (st_run 0 _ rfl rfl hLo rfl rfl (fun _ _ _ _ => rfl) (fun b G w hb ho => exec_move (.inl rfl) (ev_off rfl (HS2.get 1 rfl)))) ?_
      refine steps_cons (st_run 1 _ rfl rfl hLo rfl rfl (fun _ _ _ _ => rfl) (fun b G w hb ho => exec_move (.inl rfl) (ev_off rfl (HS2.get 0 rfl)))) ?_
      refine steps_cons (st_run 2 _ rfl rfl hLo rfl rfl (fun _ _ _ _ => rfl) (fun b G w hb ho => exec_nil rfl (ev_on hLo 1 rfl HS2.1 rfl (hb 1 (by rfl))))) ?_
      refine steps_cons (st_run 3 _ rfl rfl hLo rfl rfl (fun _ _ _ _ => rfl) (fun b G w hb ho => exec_field rfl (ev_on hLo 2 rfl HS2.1 rfl (hb 2 (by rfl))) (by kernel_rfl))) ?_
      refine steps_cons (st_read 4 0 _ _ rfl rfl rfl hLo rfl rfl (fun _ _ _ _ => rfl) (by rfl) (by rfl) (fun b G w hb ho hr => exec_cell hr (Nat.le_of_ble_eq_true rfl) Try.underlying9 rfl rfl (ev_on hLo 3 rfl HS2.1 rfl (hb 3 (by rfl))))) ?_
      refine steps_cons (st_run 5 _ rfl rfl hLo rfl rfl (fun _ _ _ _ => rfl) (fun b G w hb ho => exec_lenS Try.underlying9 rfl (ev_on hLo 4 rfl HS2.1 rfl (hb 4 (by rfl))))) ?_
      refine steps_cons (st_run 6 _ rfl rfl hLo rfl rfl (fun _ _ _ _ => rfl) (fun b G w hb ho => exec_bin rfl (ev_on hLo 0 rfl HS2.1 rfl (hb 0 (by rfl))) (ev_on hLo 5 rfl HS2.1 rfl (hb 5 (by rfl))) (rb_gtr hr2 _ _ _))) ?_
      exact steps_nil
    clear hLo
    intro G a3 w3 hS hH
    have HS3 : Sl a3 46 [(0, .pointer (some ⟨g, 0, none⟩)), (1, .int .i64 (k)), (8, .bool false), (10, .bool false), (17, .bool r2)] := hS
    have HH3 : Held ⟨w, [g]⟩ w3 [⟨g, (), 6, rpC ⟨safe, waits, true, acts, inn, keep⟩, 51⟩] := hH
    clear hS hH HS2 HH2
    refine then_ ?_
    cases r2
    · skip
      refine wp_cond_false (HS3.get 4 rfl) ?_
      refine wp_skip ?_
      refine then_ ?_
      refine wp_seq ?_
      have hLo : LOk [(0, 23, .val (.pointer (some ⟨g, 0, none⟩))), (1, 24, .val (.pointer (some ⟨g, 0, none⟩))), (2, 25, .val (.pointer (some ⟨g, 0, none⟩))), (3, 26, .val (.pointer (some ⟨g, 0, none⟩))), (4, 27, .val (.string (safe))), (5, 28, .val (.pointer (some ⟨g, 0, none⟩))), (6, 29, .val (.pointer (some ⟨g, 0, none⟩))), (7, 30, .val (.pointer (some ⟨g, 1, none⟩))), (8, 31, .val (.string (waits))), (9, 32, .val (.int .i64 (k))), (10, 33, .val (.string ((waits).extract 0 (k.toNat)))), (11, 34, .val (.string ((safe) ++ ((waits).extract 0 (k.toNat))))), (12, 35, .val (.pointer (some ⟨g, 0, none⟩))), (13, 36, .val (.pointer (some ⟨g, 0, none⟩)))] := lok (by rfl) (by rfl)
      refine region_ (wE := ⟨w, [g]⟩) (sz := 46) (n := 15) (B := [0, 0, 2, 6, 14, 0, 32, 96, 224, 0, 992, 2046, 4095, 8191, 16383]) [0, 1, 2, 3, 4, 5, 6, 7, 8, 9, 10, 11, 12, 13, 14] [(0, .val (.pointer (some ⟨g, 0, none⟩))), (1, .val (.int .i64 (k))), (8, .val (.bool false)), (10, .val (.bool false)), (17, .val (.bool false))] [(0, 23, .val (.pointer (some ⟨g, 0, none⟩))), (1, 24, .val (.pointer (some ⟨g, 0, none⟩))), (2, 25, .val (.pointer (some ⟨g, 0, none⟩))), (3, 26, .val (.pointer (some ⟨g, 0, none⟩))), (4, 27, .val (.string (safe))), (5, 28, .val (.pointer (some ⟨g, 0, none⟩))), (6, 29, .val (.pointer (some ⟨g, 0, none⟩))), (7, 30, .val (.pointer (some ⟨g, 1, none⟩))), (8, 31, .val (.string (waits))), (9, 32, .val (.int .i64 (k))), (10, 33, .val (.string ((waits).extract 0 (k.toNat)))), (11, 34, .val (.string ((safe) ++ ((waits).extract 0 (k.toNat))))), (12, 35, .val (.pointer (some ⟨g, 0, none⟩))), (13, 36, .val (.pointer (some ⟨g, 0, none⟩)))] [⟨g, none, some 14, (), 6, rpC ⟨safe, waits, true, acts, inn, keep⟩, upd (rpC ⟨safe, waits, true, acts, inn, keep⟩) 0 (.s ((safe) ++ ((waits).extract 0 (k.toNat)))), 51⟩] (by rfl) rfl tabro5 bitsro5 (by kernel_rfl) (by kernel_rfl) HH3 rfl rfl hLo rfl HS3 (slS 0 rfl rfl (slS 1 rfl rfl (slS 2 rfl rfl (slS 3 rfl rfl (slS 4 rfl rfl (trivial)))))) ?_ ?_
      · show ∀ i ∈ [0, 1, 2, 3, 4, 5, 6, 7, 8, 9, 10, 11, 12, 13, 14], _
        refine steps_cons (st_run 0 _ rfl rfl hLo rfl rfl (fun _ _ _ _ => rfl) (fun b G w hb ho => exec_move (.inl rfl) (ev_off rfl (HS3.get 0 rfl)))) ?_
        refine steps_cons (st_run 1 _ rfl rfl hLo rfl rfl (fun _ _ _ _ => rfl) (fun b G w hb ho => exec_move (.inl rfl) (ev_off rfl (HS3.get 0 rfl)))) ?_
        refine steps_cons (st_run 2 _ rfl rfl hLo rfl rfl (fun _ _ _ _ => rfl) (fun b G w hb ho => exec_nil rfl (ev_on hLo 1 rfl HS3.1 rfl (hb 1 (by rfl))))) ?_
        refine steps_cons (st_run 3 _ rfl rfl hLo rfl rfl (fun _ _ _ _ => rfl) (fun b G w hb ho => exec_field rfl (ev_on hLo 2 rfl HS3.1 rfl (hb 2 (by rfl))) (by kernel_rfl))) ?_
        refine steps_cons (st_read 4 0 _ _ rfl rfl rfl hLo rfl rfl (fun _ _ _ _ => rfl) (by rfl) (by rfl) (fun b G w hb ho hr => exec_cell hr (Nat.le_of_ble_eq_true rfl) Try.underlying9 rfl rfl (ev_on hLo 3 rfl HS3.1 rfl (hb 3 (by rfl))))) ?_
        refine steps_cons (st_run 5 _ rfl rfl hLo rfl rfl (fun _ _ _ _ => rfl) (fun b G w hb ho => exec_move (.inl rfl) (ev_off rfl (HS3.get 0 rfl)))) ?_
        refine steps_cons (st_run 6 _ rfl rfl hLo rfl rfl (fun _ _ _ _ => rfl) (fun b G w hb ho => exec_nil rfl (ev_on hLo 5 rfl HS3.1 rfl (hb 5 (by rfl))))) ?_
        refine steps_cons (st_run 7 _ rfl rfl hLo rfl rfl (fun _ _ _ _ => rfl) (fun b G w hb ho => exec_field rfl (ev_on hLo 6 rfl HS3.1 rfl (hb 6 (by rfl))) (by kernel_rfl))) ?_
        refine steps_cons (st_read 8 0 _ _ rfl rfl rfl hLo rfl rfl (fun _ _ _ _ => rfl) (by rfl) (by rfl) (fun b G w hb ho hr => exec_cell hr (Nat.le_of_ble_eq_true rfl) Try.underlying9 rfl rfl (ev_on hLo 7 rfl HS3.1 rfl (hb 7 (by rfl))))) ?_
        refine steps_cons (st_run 9 _ rfl rfl hLo rfl rfl (fun _ _ _ _ => rfl) (fun b G w hb ho => exec_move (.inl rfl) (ev_off rfl (HS3.get 1 rfl)))) ?_
        refine steps_cons (st_run 10 _ rfl rfl hLo rfl rfl (fun _ _ _ _ => rfl) (fun b G w hb ho => exec_slice rfl (ev_on hLo 8 rfl HS3.1 rfl (hb 8 (by rfl))) rfl (congrArg some (ev_on hLo 9 rfl HS3.1 rfl (hb 9 (by rfl)))) rfl (rs_hiz ((by have := of_decide_eq_false hr1; omega)) Try.underlying9 ((by have := of_decide_eq_false hr1; have := of_decide_eq_false hr2; omega)) _))) ?_
        refine steps_cons (st_run 11 _ rfl rfl hLo rfl rfl (fun _ _ _ _ => rfl) (fun b G w hb ho => exec_bin rfl (ev_on hLo 4 rfl HS3.1 rfl (hb 4 (by rfl))) (ev_on hLo 10 rfl HS3.1 rfl (hb 10 (by rfl))) (rb_sadd ((by rw [ByteArray.size_extract]; omega)) _ _ _))) ?_
        refine steps_cons (st_run 12 _ rfl rfl hLo rfl rfl (fun _ _ _ _ => rfl) (fun b G w hb ho => exec_nil rfl (ev_on hLo 0 rfl HS3.1 rfl (hb 0 (by rfl))))) ?_
        refine steps_cons (st_run 13 _ rfl rfl hLo rfl rfl (fun _ _ _ _ => rfl) (fun b G w hb ho => exec_field rfl (ev_on hLo 12 rfl HS3.1 rfl (hb 12 (by rfl))) (by kernel_rfl))) ?_
        refine steps_cons (st_put 0 _ rfl rfl rfl rfl (fun _ _ _ _ => rfl) rfl rfl rfl (by rfl) (fun b G w hb ho hr => exec_put1 hr (Nat.le_of_ble_eq_true rfl) (by kernel_rfl) rfl (ev_on hLo 13 rfl HS3.1 rfl (hb 13 (by rfl))) (ev_on hLo 11 rfl HS3.1 rfl (hb 11 (by rfl))))) ?_
        exact steps_nil
      clear hLo
      intro G a4 w4 hS hH
      have HS4 : Sl a4 46 [(0, .pointer (some ⟨g, 0, none⟩)), (1, .int .i64 (k)), (8, .bool false), (10, .bool false), (17, .bool false)] := hS
      have HH4 : Held ⟨w, [g]⟩ w4 [⟨g, (), 6, upd (rpC ⟨safe, waits, true, acts, inn, keep⟩) 0 (.s ((safe) ++ ((waits).extract 0 (k.toNat)))), 51⟩] := hH
      clear hS hH HS3 HH3
      refine then_ ?_
      refine wp_seq ?_
      have hLo : LOk [(0, 37, .val (.pointer (some ⟨g, 0, none⟩))), (1, 38, .val (.pointer (some ⟨g, 0, none⟩))), (2, 39, .val (.pointer (some ⟨g, 1, none⟩)))] := lok (by rfl) (by rfl)
      refine plain_ (wE := ⟨w, [g]⟩) (sz := 46) (n := 4) [0, 1, 3, 7] [(0, .val (.pointer (some ⟨g, 0, none⟩))), (1, .val (.int .i64 (k))), (8, .val (.bool false)), (10, .val (.bool false)), (17, .val (.bool false))] [(0, 37, .val (.pointer (some ⟨g, 0, none⟩))), (1, 38, .val (.pointer (some ⟨g, 0, none⟩))), (2, 39, .val (.pointer (some ⟨g, 1, none⟩)))] [⟨g, none, some 3, (), 6, upd (rpC ⟨safe, waits, true, acts, inn, keep⟩) 0 (.s ((safe) ++ ((waits).extract 0 (k.toNat)))), upd (upd (rpC ⟨safe, waits, true, acts, inn, keep⟩) 0 (.s ((safe) ++ ((waits).extract 0 (k.toNat))))) 1 (.s (ByteArray.empty)), 51⟩] rfl (by rfl) HH4 rfl rfl hLo rfl HS4 (slS 0 rfl rfl (slS 1 rfl rfl (slS 2 rfl rfl (slS 3 rfl rfl (slS 4 rfl rfl (trivial)))))) ?_ ?_
      · show ∀ i ∈ [0, 1, 2, 3], _
        refine steps_cons (st_run 0 _ rfl rfl hLo rfl rfl (fun _ _ _ _ => rfl) (fun b G w hb ho => exec_move (.inl rfl) (ev_off rfl (HS4.get 0 rfl)))) ?_
        refine steps_cons (st_run 1 _ rfl rfl hLo rfl rfl (fun _ _ _ _ => rfl) (fun b G w hb ho => exec_nil rfl (ev_on hLo 0 rfl HS4.1 rfl (hb 0 (by rfl))))) ?_
        refine steps_cons (st_run 2 _ rfl rfl hLo rfl rfl (fun _ _ _ _ => rfl) (fun b G w hb ho => exec_field rfl (ev_on hLo 1 rfl HS4.1 rfl (hb 1 (by rfl))) (by kernel_rfl))) ?_
        refine steps_cons (st_put 0 _ rfl rfl rfl rfl (fun _ _ _ _ => rfl) rfl rfl rfl (by rfl) (fun b G w hb ho hr => exec_put1 hr (Nat.le_of_ble_eq_true rfl) (by kernel_rfl) rfl (ev_on hLo 2 rfl HS4.1 rfl (hb 2 (by rfl))) (rfl))) ?_
        exact steps_nil
      clear hLo
      intro G a5 w5 hS hH
      have HS5 : Sl a5 46 [(0, .pointer (some ⟨g, 0, none⟩)), (1, .int .i64 (k)), (8, .bool false), (10, .bool false), (17, .bool false)] := hS
      have HH5 : Held ⟨w, [g]⟩ w5 [⟨g, (), 6, upd (upd (rpC ⟨safe, waits, true, acts, inn, keep⟩) 0 (.s ((safe) ++ ((waits).extract 0 (k.toNat))))) 1 (.s (ByteArray.empty)), 51⟩] := hH
      clear hS hH HS4 HH4
      refine then_ ?_
      refine wp_seq ?_
      have hLo : LOk [(0, 40, .val (.pointer (some ⟨g, 0, none⟩))), (1, 41, .val (.pointer (some ⟨g, 0, none⟩))), (2, 42, .val (.pointer (some ⟨g, 2, none⟩)))] := lok (by rfl) (by rfl)
      refine plain_ (wE := ⟨w, [g]⟩) (sz := 46) (n := 4) [0, 1, 3, 7] [(0, .val (.pointer (some ⟨g, 0, none⟩))), (1, .val (.int .i64 (k))), (8, .val (.bool false)), (10, .val (.bool false)), (17, .val (.bool false))] [(0, 40, .val (.pointer (some ⟨g, 0, none⟩))), (1, 41, .val (.pointer (some ⟨g, 0, none⟩))), (2, 42, .val (.pointer (some ⟨g, 2, none⟩)))] [⟨g, none, some 3, (), 6, upd (upd (rpC ⟨safe, waits, true, acts, inn, keep⟩) 0 (.s ((safe) ++ ((waits).extract 0 (k.toNat))))) 1 (.s (ByteArray.empty)), upd (upd (upd (rpC ⟨safe, waits, true, acts, inn, keep⟩) 0 (.s ((safe) ++ ((waits).extract 0 (k.toNat))))) 1 (.s (ByteArray.empty))) 2 (.b (false)), 51⟩] rfl (by rfl) HH5 rfl rfl hLo rfl HS5 (slS 0 rfl rfl (slS 1 rfl rfl (slS 2 rfl rfl (slS 3 rfl rfl (slS 4 rfl rfl (trivial)))))) ?_ ?_
      · show ∀ i ∈ [0, 1, 2, 3], _
        refine steps_cons (st_run 0 _ rfl rfl hLo rfl rfl (fun _ _ _ _ => rfl) (fun b G w hb ho => exec_move (.inl rfl) (ev_off rfl (HS5.get 0 rfl)))) ?_
        refine steps_cons (st_run 1 _ rfl rfl hLo rfl rfl (fun _ _ _ _ => rfl) (fun b G w hb ho => exec_nil rfl (ev_on hLo 0 rfl HS5.1 rfl (hb 0 (by rfl))))) ?_
        refine steps_cons (st_run 2 _ rfl rfl hLo rfl rfl (fun _ _ _ _ => rfl) (fun b G w hb ho => exec_field rfl (ev_on hLo 1 rfl HS5.1 rfl (hb 1 (by rfl))) (by kernel_rfl))) ?_
        refine steps_cons (st_put 0 _ rfl rfl rfl rfl (fun _ _ _ _ => rfl) rfl rfl rfl (by rfl) (fun b G w hb ho hr => exec_put1 hr (Nat.le_of_ble_eq_true rfl) (by kernel_rfl) rfl (ev_on hLo 2 rfl HS5.1 rfl (hb 2 (by rfl))) (rfl))) ?_
        exact steps_nil
      clear hLo
      intro G a6 w6 hS hH
      have HS6 : Sl a6 46 [(0, .pointer (some ⟨g, 0, none⟩)), (1, .int .i64 (k)), (8, .bool false), (10, .bool false), (17, .bool false)] := hS
      have HH6 : Held ⟨w, [g]⟩ w6 [⟨g, (), 6, upd (upd (upd (rpC ⟨safe, waits, true, acts, inn, keep⟩) 0 (.s ((safe) ++ ((waits).extract 0 (k.toNat))))) 1 (.s (ByteArray.empty))) 2 (.b (false)), 51⟩] := hH
      clear hS hH HS5 HH5
      refine then_ ?_
      have hLo : LOk [(0, 43, .val (.pointer (some ⟨g, 0, none⟩))), (1, 44, .val (.pointer (some ⟨g, 0, none⟩))), (2, 45, .val (.pointer (some ⟨g, 4, none⟩)))] := lok (by rfl) (by rfl)
      refine plain_ (wE := ⟨w, [g]⟩) (sz := 46) (n := 4) [0, 1, 3, 7] [(0, .val (.pointer (some ⟨g, 0, none⟩))), (1, .val (.int .i64 (k))), (8, .val (.bool false)), (10, .val (.bool false)), (17, .val (.bool false))] [(0, 43, .val (.pointer (some ⟨g, 0, none⟩))), (1, 44, .val (.pointer (some ⟨g, 0, none⟩))), (2, 45, .val (.pointer (some ⟨g, 4, none⟩)))] [⟨g, none, some 3, (), 6, upd (upd (upd (rpC ⟨safe, waits, true, acts, inn, keep⟩) 0 (.s ((safe) ++ ((waits).extract 0 (k.toNat))))) 1 (.s (ByteArray.empty))) 2 (.b (false)), upd (upd (upd (upd (rpC ⟨safe, waits, true, acts, inn, keep⟩) 0 (.s ((safe) ++ ((waits).extract 0 (k.toNat))))) 1 (.s (ByteArray.empty))) 2 (.b (false))) 4 (.i .i64 (0)), 51⟩] rfl (by rfl) HH6 rfl rfl hLo rfl HS6 (slS 0 rfl rfl (slS 1 rfl rfl (slS 2 rfl rfl (slS 3 rfl rfl (slS 4 rfl rfl (trivial)))))) ?_ ?_
      · show ∀ i ∈ [0, 1, 2, 3], _
        refine steps_cons (st_run 0 _ rfl rfl hLo rfl rfl (fun _ _ _ _ => rfl) (fun b G w hb ho => exec_move (.inl rfl) (ev_off rfl (HS6.get 0 rfl)))) ?_
        refine steps_cons (st_run 1 _ rfl rfl hLo rfl rfl (fun _ _ _ _ => rfl) (fun b G w hb ho => exec_nil rfl (ev_on hLo 0 rfl HS6.1 rfl (hb 0 (by rfl))))) ?_
        refine steps_cons (st_run 2 _ rfl rfl hLo rfl rfl (fun _ _ _ _ => rfl) (fun b G w hb ho => exec_field rfl (ev_on hLo 1 rfl HS6.1 rfl (hb 1 (by rfl))) (by kernel_rfl))) ?_
        refine steps_cons (st_put 0 _ rfl rfl rfl rfl (fun _ _ _ _ => rfl) rfl rfl rfl (by rfl) (fun b G w hb ho hr => exec_put1 hr (Nat.le_of_ble_eq_true rfl) (by kernel_rfl) rfl (ev_on hLo 2 rfl HS6.1 rfl (hb 2 (by rfl))) (rfl))) ?_
        exact steps_nil
      clear hLo
      intro G a7 w7 hS hH
      have HS7 : Sl a7 46 [(0, .pointer (some ⟨g, 0, none⟩)), (1, .int .i64 (k)), (8, .bool false), (10, .bool false), (17, .bool false)] := hS
      have HH7 : Held ⟨w, [g]⟩ w7 [⟨g, (), 6, upd (upd (upd (upd (rpC ⟨safe, waits, true, acts, inn, keep⟩) 0 (.s ((safe) ++ ((waits).extract 0 (k.toNat))))) 1 (.s (ByteArray.empty))) 2 (.b (false))) 4 (.i .i64 (0)), 51⟩] := hH
      clear hS hH HS6 HH6
      exact b_fall rfl HS7.2.1 ⟨rfl, Row.norm (HH7.row 0 rfl) (six ⟨congrArg (fun n => SC.s (safe ++ waits.extract 0 n)) (by unfold kp; simp at *; omega), rfl, rfl, rfl, rfl, rfl⟩), HH7.1⟩
    · skip
      refine wp_cond_true (HS3.get 4 rfl) ?_
      have hLo : LOk [(0, 18, .val (.pointer (some ⟨g, 0, none⟩))), (1, 19, .val (.pointer (some ⟨g, 0, none⟩))), (2, 20, .val (.pointer (some ⟨g, 1, none⟩))), (3, 21, .val (.string (waits))), (4, 22, .val (.int .i64 (((waits).size : Int)))), (5, 1, .val (.int .i64 (((waits).size : Int))))] := lok (by rfl) (by rfl)
      refine plain_ (wE := ⟨w, [g]⟩) (sz := 46) (n := 6) [0, 1, 3, 7, 15, 31] [(0, .val (.pointer (some ⟨g, 0, none⟩))), (8, .val (.bool false)), (10, .val (.bool false)), (17, .val (.bool true)), (1, .val (.int .i64 (((waits).size : Int))))] [(0, 18, .val (.pointer (some ⟨g, 0, none⟩))), (1, 19, .val (.pointer (some ⟨g, 0, none⟩))), (2, 20, .val (.pointer (some ⟨g, 1, none⟩))), (3, 21, .val (.string (waits))), (4, 22, .val (.int .i64 (((waits).size : Int)))), (5, 1, .val (.int .i64 (((waits).size : Int))))] [⟨g, none, none, (), 6, rpC ⟨safe, waits, true, acts, inn, keep⟩, rpC ⟨safe, waits, true, acts, inn, keep⟩, 51⟩] rfl (by rfl) HH3 rfl rfl hLo rfl HS3 (slS 0 rfl rfl (slS 2 rfl rfl (slS 3 rfl rfl (slS 4 rfl rfl (slL 5 (d := 5) rfl (trivial)))))) ?_ ?_
      · show ∀ i ∈ [0, 1, 2, 3, 4, 5], _
        refine steps_cons (st_run 0 _ rfl rfl hLo rfl rfl (fun _ _ _ _ => rfl) (fun b G w hb ho => exec_move (.inl rfl) (ev_off rfl (HS3.get 0 rfl)))) ?_
        refine steps_cons (st_run 1 _ rfl rfl hLo rfl rfl (fun _ _ _ _ => rfl) (fun b G w hb ho => exec_nil rfl (ev_on hLo 0 rfl HS3.1 rfl (hb 0 (by rfl))))) ?_
        refine steps_cons (st_run 2 _ rfl rfl hLo rfl rfl (fun _ _ _ _ => rfl) (fun b G w hb ho => exec_field rfl (ev_on hLo 1 rfl HS3.1 rfl (hb 1 (by rfl))) (by kernel_rfl))) ?_
        refine steps_cons (st_read 3 0 _ _ rfl rfl rfl hLo rfl rfl (fun _ _ _ _ => rfl) (by rfl) (by rfl) (fun b G w hb ho hr => exec_cell hr (Nat.le_of_ble_eq_true rfl) Try.underlying9 rfl rfl (ev_on hLo 2 rfl HS3.1 rfl (hb 2 (by rfl))))) ?_
        refine steps_cons (st_run 4 _ rfl rfl hLo rfl rfl (fun _ _ _ _ => rfl) (fun b G w hb ho => exec_lenS Try.underlying9 rfl (ev_on hLo 3 rfl HS3.1 rfl (hb 3 (by rfl))))) ?_
        refine steps_cons (st_run 5 _ rfl rfl hLo rfl rfl (fun _ _ _ _ => rfl) (fun b G w hb ho => exec_move (.inr rfl) (ev_on hLo 4 rfl HS3.1 rfl (hb 4 (by rfl))))) ?_
        exact steps_nil
      clear hLo
      intro G a8 w8 hS hH
      have HS8 : Sl a8 46 [(0, .pointer (some ⟨g, 0, none⟩)), (8, .bool false), (10, .bool false), (17, .bool true), (1, .int .i64 (((waits).size : Int)))] := hS
      have HH8 : Held ⟨w, [g]⟩ w8 [⟨g, (), 6, rpC ⟨safe, waits, true, acts, inn, keep⟩, 51⟩] := hH
      clear hS hH HS3 HH3
      refine then_ ?_
      refine wp_seq ?_
      have hLo : LOk [(0, 23, .val (.pointer (some ⟨g, 0, none⟩))), (1, 24, .val (.pointer (some ⟨g, 0, none⟩))), (2, 25, .val (.pointer (some ⟨g, 0, none⟩))), (3, 26, .val (.pointer (some ⟨g, 0, none⟩))), (4, 27, .val (.string (safe))), (5, 28, .val (.pointer (some ⟨g, 0, none⟩))), (6, 29, .val (.pointer (some ⟨g, 0, none⟩))), (7, 30, .val (.pointer (some ⟨g, 1, none⟩))), (8, 31, .val (.string (waits))), (9, 32, .val (.int .i64 (((waits).size : Int)))), (10, 33, .val (.string ((waits).extract 0 (waits.size)))), (11, 34, .val (.string ((safe) ++ ((waits).extract 0 (waits.size))))), (12, 35, .val (.pointer (some ⟨g, 0, none⟩))), (13, 36, .val (.pointer (some ⟨g, 0, none⟩)))] := lok (by rfl) (by rfl)
      refine region_ (wE := ⟨w, [g]⟩) (sz := 46) (n := 15) (B := [0, 0, 2, 6, 14, 0, 32, 96, 224, 0, 992, 2046, 4095, 8191, 16383]) [0, 1, 2, 3, 4, 5, 6, 7, 8, 9, 10, 11, 12, 13, 14] [(0, .val (.pointer (some ⟨g, 0, none⟩))), (8, .val (.bool false)), (10, .val (.bool false)), (17, .val (.bool true)), (1, .val (.int .i64 (((waits).size : Int))))] [(0, 23, .val (.pointer (some ⟨g, 0, none⟩))), (1, 24, .val (.pointer (some ⟨g, 0, none⟩))), (2, 25, .val (.pointer (some ⟨g, 0, none⟩))), (3, 26, .val (.pointer (some ⟨g, 0, none⟩))), (4, 27, .val (.string (safe))), (5, 28, .val (.pointer (some ⟨g, 0, none⟩))), (6, 29, .val (.pointer (some ⟨g, 0, none⟩))), (7, 30, .val (.pointer (some ⟨g, 1, none⟩))), (8, 31, .val (.string (waits))), (9, 32, .val (.int .i64 (((waits).size : Int)))), (10, 33, .val (.string ((waits).extract 0 (waits.size)))), (11, 34, .val (.string ((safe) ++ ((waits).extract 0 (waits.size))))), (12, 35, .val (.pointer (some ⟨g, 0, none⟩))), (13, 36, .val (.pointer (some ⟨g, 0, none⟩)))] [⟨g, none, some 14, (), 6, rpC ⟨safe, waits, true, acts, inn, keep⟩, upd (rpC ⟨safe, waits, true, acts, inn, keep⟩) 0 (.s ((safe) ++ ((waits).extract 0 (waits.size)))), 51⟩] (by rfl) rfl tabro5 bitsro5 (by kernel_rfl) (by kernel_rfl) HH8 rfl rfl hLo rfl HS8 (slS 0 rfl rfl (slS 1 rfl rfl (slS 2 rfl rfl (slS 3 rfl rfl (slS 4 rfl rfl (trivial)))))) ?_ ?_
      · show ∀ i ∈ [0, 1, 2, 3, 4, 5, 6, 7, 8, 9, 10, 11, 12, 13, 14], _
        refine steps_cons (st_run 0 _ rfl rfl hLo rfl rfl (fun _ _ _ _ => rfl) (fun b G w hb ho => exec_move (.inl rfl) (ev_off rfl (HS8.get 0 rfl)))) ?_
        refine steps_cons (st_run 1 _ rfl rfl hLo rfl rfl (fun _ _ _ _ => rfl) (fun b G w hb ho => exec_move (.inl rfl) (ev_off rfl (HS8.get 0 rfl)))) ?_
        refine steps_cons (st_run 2 _ rfl rfl hLo rfl rfl (fun _ _ _ _ => rfl) (fun b G w hb ho => exec_nil rfl (ev_on hLo 1 rfl HS8.1 rfl (hb 1 (by rfl))))) ?_
        refine steps_cons (st_run 3 _ rfl rfl hLo rfl rfl (fun _ _ _ _ => rfl) (fun b G w hb ho => exec_field rfl (ev_on hLo 2 rfl HS8.1 rfl (hb 2 (by rfl))) (by kernel_rfl))) ?_
        refine steps_cons (st_read 4 0 _ _ rfl rfl rfl hLo rfl rfl (fun _ _ _ _ => rfl) (by rfl) (by rfl) (fun b G w hb ho hr => exec_cell hr (Nat.le_of_ble_eq_true rfl) Try.underlying9 rfl rfl (ev_on hLo 3 rfl HS8.1 rfl (hb 3 (by rfl))))) ?_
        refine steps_cons (st_run 5 _ rfl rfl hLo rfl rfl (fun _ _ _ _ => rfl) (fun b G w hb ho => exec_move (.inl rfl) (ev_off rfl (HS8.get 0 rfl)))) ?_
        refine steps_cons (st_run 6 _ rfl rfl hLo rfl rfl (fun _ _ _ _ => rfl) (fun b G w hb ho => exec_nil rfl (ev_on hLo 5 rfl HS8.1 rfl (hb 5 (by rfl))))) ?_
        refine steps_cons (st_run 7 _ rfl rfl hLo rfl rfl (fun _ _ _ _ => rfl) (fun b G w hb ho => exec_field rfl (ev_on hLo 6 rfl HS8.1 rfl (hb 6 (by rfl))) (by kernel_rfl))) ?_
        refine steps_cons (st_read 8 0 _ _ rfl rfl rfl hLo rfl rfl (fun _ _ _ _ => rfl) (by rfl) (by rfl) (fun b G w hb ho hr => exec_cell hr (Nat.le_of_ble_eq_true rfl) Try.underlying9 rfl rfl (ev_on hLo 7 rfl HS8.1 rfl (hb 7 (by rfl))))) ?_
        refine steps_cons (st_run 9 _ rfl rfl hLo rfl rfl (fun _ _ _ _ => rfl) (fun b G w hb ho => exec_move (.inl rfl) (ev_off rfl (HS8.get 4 rfl)))) ?_
        refine steps_cons (st_run 10 _ rfl rfl hLo rfl rfl (fun _ _ _ _ => rfl) (fun b G w hb ho => exec_slice rfl (ev_on hLo 8 rfl HS8.1 rfl (hb 8 (by rfl))) rfl (congrArg some (ev_on hLo 9 rfl HS8.1 rfl (hb 9 (by rfl)))) rfl (rs_hi Try.underlying9 ((Nat.le_refl _)) _))) ?_
        refine steps_cons (st_run 11 _ rfl rfl hLo rfl rfl (fun _ _ _ _ => rfl) (fun b G w hb ho => exec_bin rfl (ev_on hLo 4 rfl HS8.1 rfl (hb 4 (by rfl))) (ev_on hLo 10 rfl HS8.1 rfl (hb 10 (by rfl))) (rb_sadd ((by rw [ByteArray.size_extract]; omega)) _ _ _))) ?_
        refine steps_cons (st_run 12 _ rfl rfl hLo rfl rfl (fun _ _ _ _ => rfl) (fun b G w hb ho => exec_nil rfl (ev_on hLo 0 rfl HS8.1 rfl (hb 0 (by rfl))))) ?_
        refine steps_cons (st_run 13 _ rfl rfl hLo rfl rfl (fun _ _ _ _ => rfl) (fun b G w hb ho => exec_field rfl (ev_on hLo 12 rfl HS8.1 rfl (hb 12 (by rfl))) (by kernel_rfl))) ?_
        refine steps_cons (st_put 0 _ rfl rfl rfl rfl (fun _ _ _ _ => rfl) rfl rfl rfl (by rfl) (fun b G w hb ho hr => exec_put1 hr (Nat.le_of_ble_eq_true rfl) (by kernel_rfl) rfl (ev_on hLo 13 rfl HS8.1 rfl (hb 13 (by rfl))) (ev_on hLo 11 rfl HS8.1 rfl (hb 11 (by rfl))))) ?_
        exact steps_nil
      clear hLo
      intro G a9 w9 hS hH
      have HS9 : Sl a9 46 [(0, .pointer (some ⟨g, 0, none⟩)), (8, .bool false), (10, .bool false), (17, .bool true), (1, .int .i64 (((waits).size : Int)))] := hS
      have HH9 : Held ⟨w, [g]⟩ w9 [⟨g, (), 6, upd (rpC ⟨safe, waits, true, acts, inn, keep⟩) 0 (.s ((safe) ++ ((waits).extract 0 (waits.size)))), 51⟩] := hH
      clear hS hH HS8 HH8
      refine then_ ?_
      refine wp_seq ?_
      have hLo : LOk [(0, 37, .val (.pointer (some ⟨g, 0, none⟩))), (1, 38, .val (.pointer (some ⟨g, 0, none⟩))), (2, 39, .val (.pointer (some ⟨g, 1, none⟩)))] := lok (by rfl) (by rfl)
      refine plain_ (wE := ⟨w, [g]⟩) (sz := 46) (n := 4) [0, 1, 3, 7] [(0, .val (.pointer (some ⟨g, 0, none⟩))), (8, .val (.bool false)), (10, .val (.bool false)), (17, .val (.bool true)), (1, .val (.int .i64 (((waits).size : Int))))] [(0, 37, .val (.pointer (some ⟨g, 0, none⟩))), (1, 38, .val (.pointer (some ⟨g, 0, none⟩))), (2, 39, .val (.pointer (some ⟨g, 1, none⟩)))] [⟨g, none, some 3, (), 6, upd (rpC ⟨safe, waits, true, acts, inn, keep⟩) 0 (.s ((safe) ++ ((waits).extract 0 (waits.size)))), upd (upd (rpC ⟨safe, waits, true, acts, inn, keep⟩) 0 (.s ((safe) ++ ((waits).extract 0 (waits.size))))) 1 (.s (ByteArray.empty)), 51⟩] rfl (by rfl) HH9 rfl rfl hLo rfl HS9 (slS 0 rfl rfl (slS 1 rfl rfl (slS 2 rfl rfl (slS 3 rfl rfl (slS 4 rfl rfl (trivial)))))) ?_ ?_
      · show ∀ i ∈ [0, 1, 2, 3], _
        refine steps_cons (st_run 0 _ rfl rfl hLo rfl rfl (fun _ _ _ _ => rfl) (fun b G w hb ho => exec_move (.inl rfl) (ev_off rfl (HS9.get 0 rfl)))) ?_
        refine steps_cons (st_run 1 _ rfl rfl hLo rfl rfl (fun _ _ _ _ => rfl) (fun b G w hb ho => exec_nil rfl (ev_on hLo 0 rfl HS9.1 rfl (hb 0 (by rfl))))) ?_
        refine steps_cons (st_run 2 _ rfl rfl hLo rfl rfl (fun _ _ _ _ => rfl) (fun b G w hb ho => exec_field rfl (ev_on hLo 1 rfl HS9.1 rfl (hb 1 (by rfl))) (by kernel_rfl))) ?_
        refine steps_cons (st_put 0 _ rfl rfl rfl rfl (fun _ _ _ _ => rfl) rfl rfl rfl (by rfl) (fun b G w hb ho hr => exec_put1 hr (Nat.le_of_ble_eq_true rfl) (by kernel_rfl) rfl (ev_on hLo 2 rfl HS9.1 rfl (hb 2 (by rfl))) (rfl))) ?_
        exact steps_nil
      clear hLo
      intro G a10 w10 hS hH
      have HS10 : Sl a10 46 [(0, .pointer (some ⟨g, 0, none⟩)), (8, .bool false), (10, .bool false), (17, .bool true), (1, .int .i64 (((waits).size : Int)))] := hS
      have HH10 : Held ⟨w, [g]⟩ w10 [⟨g, (), 6, upd (upd (rpC ⟨safe, waits, true, acts, inn, keep⟩) 0 (.s ((safe) ++ ((waits).extract 0 (waits.size))))) 1 (.s (ByteArray.empty)), 51⟩] := hH
      clear hS hH HS9 HH9
      refine then_ ?_
      refine wp_seq ?_
      have hLo : LOk [(0, 40, .val (.pointer (some ⟨g, 0, none⟩))), (1, 41, .val (.pointer (some ⟨g, 0, none⟩))), (2, 42, .val (.pointer (some ⟨g, 2, none⟩)))] := lok (by rfl) (by rfl)
      refine plain_ (wE := ⟨w, [g]⟩) (sz := 46) (n := 4) [0, 1, 3, 7] [(0, .val (.pointer (some ⟨g, 0, none⟩))), (8, .val (.bool false)), (10, .val (.bool false)), (17, .val (.bool true)), (1, .val (.int .i64 (((waits).size : Int))))] [(0, 40, .val (.pointer (some ⟨g, 0, none⟩))), (1, 41, .val (.pointer (some ⟨g, 0, none⟩))), (2, 42, .val (.pointer (some ⟨g, 2, none⟩)))] [⟨g, none, some 3, (), 6, upd (upd (rpC ⟨safe, waits, true, acts, inn, keep⟩) 0 (.s ((safe) ++ ((waits).extract 0 (waits.size))))) 1 (.s (ByteArray.empty)), upd (upd (upd (rpC ⟨safe, waits, true, acts, inn, keep⟩) 0 (.s ((safe) ++ ((waits).extract 0 (waits.size))))) 1 (.s (ByteArray.empty))) 2 (.b (false)), 51⟩] rfl (by rfl) HH10 rfl rfl hLo rfl HS10 (slS 0 rfl rfl (slS 1 rfl rfl (slS 2 rfl rfl (slS 3 rfl rfl (slS 4 rfl rfl (trivial)))))) ?_ ?_
      · show ∀ i ∈ [0, 1, 2, 3], _
        refine steps_cons (st_run 0 _ rfl rfl hLo rfl rfl (fun _ _ _ _ => rfl) (fun b G w hb ho => exec_move (.inl rfl) (ev_off rfl (HS10.get 0 rfl)))) ?_
        refine steps_cons (st_run 1 _ rfl rfl hLo rfl rfl (fun _ _ _ _ => rfl) (fun b G w hb ho => exec_nil rfl (ev_on hLo 0 rfl HS10.1 rfl (hb 0 (by rfl))))) ?_
        refine steps_cons (st_run 2 _ rfl rfl hLo rfl rfl (fun _ _ _ _ => rfl) (fun b G w hb ho => exec_field rfl (ev_on hLo 1 rfl HS10.1 rfl (hb 1 (by rfl))) (by kernel_rfl))) ?_
        refine steps_cons (st_put 0 _ rfl rfl rfl rfl (fun _ _ _ _ => rfl) rfl rfl rfl (by rfl) (fun b G w hb ho hr => exec_put1 hr (Nat.le_of_ble_eq_true rfl) (by kernel_rfl) rfl (ev_on hLo 2 rfl HS10.1 rfl (hb 2 (by rfl))) (rfl))) ?_
        exact steps_nil
      clear hLo
      intro G a11 w11 hS hH
      have HS11 : Sl a11 46 [(0, .pointer (some ⟨g, 0, none⟩)), (8, .bool false), (10, .bool false), (17, .bool true), (1, .int .i64 (((waits).size : Int)))] := hS
      have HH11 : Held ⟨w, [g]⟩ w11 [⟨g, (), 6, upd (upd (upd (rpC ⟨safe, waits, true, acts, inn, keep⟩) 0 (.s ((safe) ++ ((waits).extract 0 (waits.size))))) 1 (.s (ByteArray.empty))) 2 (.b (false)), 51⟩] := hH
      clear hS hH HS10 HH10
      refine then_ ?_
      have hLo : LOk [(0, 43, .val (.pointer (some ⟨g, 0, none⟩))), (1, 44, .val (.pointer (some ⟨g, 0, none⟩))), (2, 45, .val (.pointer (some ⟨g, 4, none⟩)))] := lok (by rfl) (by rfl)
      refine plain_ (wE := ⟨w, [g]⟩) (sz := 46) (n := 4) [0, 1, 3, 7] [(0, .val (.pointer (some ⟨g, 0, none⟩))), (8, .val (.bool false)), (10, .val (.bool false)), (17, .val (.bool true)), (1, .val (.int .i64 (((waits).size : Int))))] [(0, 43, .val (.pointer (some ⟨g, 0, none⟩))), (1, 44, .val (.pointer (some ⟨g, 0, none⟩))), (2, 45, .val (.pointer (some ⟨g, 4, none⟩)))] [⟨g, none, some 3, (), 6, upd (upd (upd (rpC ⟨safe, waits, true, acts, inn, keep⟩) 0 (.s ((safe) ++ ((waits).extract 0 (waits.size))))) 1 (.s (ByteArray.empty))) 2 (.b (false)), upd (upd (upd (upd (rpC ⟨safe, waits, true, acts, inn, keep⟩) 0 (.s ((safe) ++ ((waits).extract 0 (waits.size))))) 1 (.s (ByteArray.empty))) 2 (.b (false))) 4 (.i .i64 (0)), 51⟩] rfl (by rfl) HH11 rfl rfl hLo rfl HS11 (slS 0 rfl rfl (slS 1 rfl rfl (slS 2 rfl rfl (slS 3 rfl rfl (slS 4 rfl rfl (trivial)))))) ?_ ?_
      · show ∀ i ∈ [0, 1, 2, 3], _
        refine steps_cons (st_run 0 _ rfl rfl hLo rfl rfl (fun _ _ _ _ => rfl) (fun b G w hb ho => exec_move (.inl rfl) (ev_off rfl (HS11.get 0 rfl)))) ?_
        refine steps_cons (st_run 1 _ rfl rfl hLo rfl rfl (fun _ _ _ _ => rfl) (fun b G w hb ho => exec_nil rfl (ev_on hLo 0 rfl HS11.1 rfl (hb 0 (by rfl))))) ?_
        refine steps_cons (st_run 2 _ rfl rfl hLo rfl rfl (fun _ _ _ _ => rfl) (fun b G w hb ho => exec_field rfl (ev_on hLo 1 rfl HS11.1 rfl (hb 1 (by rfl))) (by kernel_rfl))) ?_
        refine steps_cons (st_put 0 _ rfl rfl rfl rfl (fun _ _ _ _ => rfl) rfl rfl rfl (by rfl) (fun b G w hb ho hr => exec_put1 hr (Nat.le_of_ble_eq_true rfl) (by kernel_rfl) rfl (ev_on hLo 2 rfl HS11.1 rfl (hb 2 (by rfl))) (rfl))) ?_
        exact steps_nil
      clear hLo
      intro G a12 w12 hS hH
      have HS12 : Sl a12 46 [(0, .pointer (some ⟨g, 0, none⟩)), (8, .bool false), (10, .bool false), (17, .bool true), (1, .int .i64 (((waits).size : Int)))] := hS
      have HH12 : Held ⟨w, [g]⟩ w12 [⟨g, (), 6, upd (upd (upd (upd (rpC ⟨safe, waits, true, acts, inn, keep⟩) 0 (.s ((safe) ++ ((waits).extract 0 (waits.size))))) 1 (.s (ByteArray.empty))) 2 (.b (false))) 4 (.i .i64 (0)), 51⟩] := hH
      clear hS hH HS11 HH11
      exact b_fall rfl HS12.2.1 ⟨rfl, Row.norm (HH12.row 0 rfl) (six ⟨congrArg (fun n => SC.s (safe ++ waits.extract 0 n)) (by unfold kp; simp at *; omega), rfl, rfl, rfl, rfl, rfl⟩), HH12.1⟩
  · skip
    refine wp_cond_true (HS2.get 3 rfl) ?_
    have hLo : LOk [(0, 1, .val (.int .i64 (0)))] := lok (by rfl) (by rfl)
    refine plain_ (wE := ⟨w, [g]⟩) (sz := 46) (n := 1) [0] [(0, .val (.pointer (some ⟨g, 0, none⟩))), (8, .val (.bool false)), (10, .val (.bool true)), (1, .val (.int .i64 (0)))] [(0, 1, .val (.int .i64 (0)))] [⟨g, none, none, (), 6, rpC ⟨safe, waits, true, acts, inn, keep⟩, rpC ⟨safe, waits, true, acts, inn, keep⟩, 51⟩] rfl (by rfl) HH2 rfl rfl hLo rfl HS2 (slS 0 rfl rfl (slS 2 rfl rfl (slS 3 rfl rfl (slL 0 (d := 0) rfl (trivial))))) ?_ ?_
    · show ∀ i ∈ [0], _
      refine steps_cons (st_run 0 _ rfl rfl hLo rfl rfl (fun _ _ _ _ => rfl) (fun b G w hb ho => exec_move (.inr rfl) (rfl))) ?_
      exact steps_nil
    clear hLo
    intro G a13 w13 hS hH
    have HS13 : Sl a13 46 [(0, .pointer (some ⟨g, 0, none⟩)), (8, .bool false), (10, .bool true), (1, .int .i64 (0))] := hS
    have HH13 : Held ⟨w, [g]⟩ w13 [⟨g, (), 6, rpC ⟨safe, waits, true, acts, inn, keep⟩, 51⟩] := hH
    clear hS hH HS2 HH2
    refine then_ ?_
    refine wp_seq ?_
    obtain ⟨r3, hr3⟩ : ∃ r : Bool, (decide ((((waits).size : Int) : Int) < 0)) = r := ⟨_, rfl⟩
    refine wp_seq ?_
    have hLo : LOk [(0, 11, .val (.int .i64 (0))), (1, 12, .val (.pointer (some ⟨g, 0, none⟩))), (2, 13, .val (.pointer (some ⟨g, 0, none⟩))), (3, 14, .val (.pointer (some ⟨g, 1, none⟩))), (4, 15, .val (.string (waits))), (5, 16, .val (.int .i64 (((waits).size : Int)))), (6, 17, .val (.bool r3))] := lok (by rfl) (by rfl)
    refine plain_ (wE := ⟨w, [g]⟩) (sz := 46) (n := 7) [0, 1, 3, 7, 15, 31, 63] [(0, .val (.pointer (some ⟨g, 0, none⟩))), (8, .val (.bool false)), (10, .val (.bool true)), (1, .val (.int .i64 (0))), (17, .val (.bool r3))] [(0, 11, .val (.int .i64 (0))), (1, 12, .val (.pointer (some ⟨g, 0, none⟩))), (2, 13, .val (.pointer (some ⟨g, 0, none⟩))), (3, 14, .val (.pointer (some ⟨g, 1, none⟩))), (4, 15, .val (.string (waits))), (5, 16, .val (.int .i64 (((waits).size : Int)))), (6, 17, .val (.bool r3))] [⟨g, none, none, (), 6, rpC ⟨safe, waits, true, acts, inn, keep⟩, rpC ⟨safe, waits, true, acts, inn, keep⟩, 51⟩] rfl (by rfl) HH13 rfl rfl hLo rfl HS13 (slS 0 rfl rfl (slS 1 rfl rfl (slS 2 rfl rfl (slS 3 rfl rfl (slL 6 (d := 6) rfl (trivial)))))) ?_ ?_
    · show ∀ i ∈ [0, 1, 2, 3, 4, 5, 6], _
      refine steps_cons (st_run 0 _ rfl rfl hLo rfl rfl (fun _ _ _ _ => rfl) (fun b G w hb ho => exec_move (.inl rfl) (ev_off rfl (HS13.get 3 rfl)))) ?_
      refine steps_cons (st_run 1 _ rfl rfl hLo rfl rfl (fun _ _ _ _ => rfl) (fun b G w hb ho => exec_move (.inl rfl) (ev_off rfl (HS13.get 0 rfl)))) ?_
      refine steps_cons (st_run 2 _ rfl rfl hLo rfl rfl (fun _ _ _ _ => rfl) (fun b G w hb ho => exec_nil rfl (ev_on hLo 1 rfl HS13.1 rfl (hb 1 (by rfl))))) ?_
      refine steps_cons (st_run 3 _ rfl rfl hLo rfl rfl (fun _ _ _ _ => rfl) (fun b G w hb ho => exec_field rfl (ev_on hLo 2 rfl HS13.1 rfl (hb 2 (by rfl))) (by kernel_rfl))) ?_
      refine steps_cons (st_read 4 0 _ _ rfl rfl rfl hLo rfl rfl (fun _ _ _ _ => rfl) (by rfl) (by rfl) (fun b G w hb ho hr => exec_cell hr (Nat.le_of_ble_eq_true rfl) Try.underlying9 rfl rfl (ev_on hLo 3 rfl HS13.1 rfl (hb 3 (by rfl))))) ?_
      refine steps_cons (st_run 5 _ rfl rfl hLo rfl rfl (fun _ _ _ _ => rfl) (fun b G w hb ho => exec_lenS Try.underlying9 rfl (ev_on hLo 4 rfl HS13.1 rfl (hb 4 (by rfl))))) ?_
      refine steps_cons (st_run 6 _ rfl rfl hLo rfl rfl (fun _ _ _ _ => rfl) (fun b G w hb ho => exec_bin rfl (ev_on hLo 0 rfl HS13.1 rfl (hb 0 (by rfl))) (ev_on hLo 5 rfl HS13.1 rfl (hb 5 (by rfl))) (rb_gtr hr3 _ _ _))) ?_
      exact steps_nil
    clear hLo
    intro G a14 w14 hS hH
    have HS14 : Sl a14 46 [(0, .pointer (some ⟨g, 0, none⟩)), (8, .bool false), (10, .bool true), (1, .int .i64 (0)), (17, .bool r3)] := hS
    have HH14 : Held ⟨w, [g]⟩ w14 [⟨g, (), 6, rpC ⟨safe, waits, true, acts, inn, keep⟩, 51⟩] := hH
    clear hS hH HS13 HH13
    refine then_ ?_
    cases r3
    · skip
      refine wp_cond_false (HS14.get 4 rfl) ?_
      refine wp_skip ?_
      refine then_ ?_
      refine wp_seq ?_
      have hLo : LOk [(0, 23, .val (.pointer (some ⟨g, 0, none⟩))), (1, 24, .val (.pointer (some ⟨g, 0, none⟩))), (2, 25, .val (.pointer (some ⟨g, 0, none⟩))), (3, 26, .val (.pointer (some ⟨g, 0, none⟩))), (4, 27, .val (.string (safe))), (5, 28, .val (.pointer (some ⟨g, 0, none⟩))), (6, 29, .val (.pointer (some ⟨g, 0, none⟩))), (7, 30, .val (.pointer (some ⟨g, 1, none⟩))), (8, 31, .val (.string (waits))), (9, 32, .val (.int .i64 (0))), (10, 33, .val (.string ((waits).extract 0 (0)))), (11, 34, .val (.string ((safe) ++ ((waits).extract 0 (0))))), (12, 35, .val (.pointer (some ⟨g, 0, none⟩))), (13, 36, .val (.pointer (some ⟨g, 0, none⟩)))] := lok (by rfl) (by rfl)
      refine region_ (wE := ⟨w, [g]⟩) (sz := 46) (n := 15) (B := [0, 0, 2, 6, 14, 0, 32, 96, 224, 0, 992, 2046, 4095, 8191, 16383]) [0, 1, 2, 3, 4, 5, 6, 7, 8, 9, 10, 11, 12, 13, 14] [(0, .val (.pointer (some ⟨g, 0, none⟩))), (8, .val (.bool false)), (10, .val (.bool true)), (1, .val (.int .i64 (0))), (17, .val (.bool false))] [(0, 23, .val (.pointer (some ⟨g, 0, none⟩))), (1, 24, .val (.pointer (some ⟨g, 0, none⟩))), (2, 25, .val (.pointer (some ⟨g, 0, none⟩))), (3, 26, .val (.pointer (some ⟨g, 0, none⟩))), (4, 27, .val (.string (safe))), (5, 28, .val (.pointer (some ⟨g, 0, none⟩))), (6, 29, .val (.pointer (some ⟨g, 0, none⟩))), (7, 30, .val (.pointer (some ⟨g, 1, none⟩))), (8, 31, .val (.string (waits))), (9, 32, .val (.int .i64 (0))), (10, 33, .val (.string ((waits).extract 0 (0)))), (11, 34, .val (.string ((safe) ++ ((waits).extract 0 (0))))), (12, 35, .val (.pointer (some ⟨g, 0, none⟩))), (13, 36, .val (.pointer (some ⟨g, 0, none⟩)))] [⟨g, none, some 14, (), 6, rpC ⟨safe, waits, true, acts, inn, keep⟩, upd (rpC ⟨safe, waits, true, acts, inn, keep⟩) 0 (.s ((safe) ++ ((waits).extract 0 (0)))), 51⟩] (by rfl) rfl tabro5 bitsro5 (by kernel_rfl) (by kernel_rfl) HH14 rfl rfl hLo rfl HS14 (slS 0 rfl rfl (slS 1 rfl rfl (slS 2 rfl rfl (slS 3 rfl rfl (slS 4 rfl rfl (trivial)))))) ?_ ?_
      · show ∀ i ∈ [0, 1, 2, 3, 4, 5, 6, 7, 8, 9, 10, 11, 12, 13, 14], _
        refine steps_cons (st_run 0 _ rfl rfl hLo rfl rfl (fun _ _ _ _ => rfl) (fun b G w hb ho => exec_move (.inl rfl) (ev_off rfl (HS14.get 0 rfl)))) ?_
        refine steps_cons (st_run 1 _ rfl rfl hLo rfl rfl (fun _ _ _ _ => rfl) (fun b G w hb ho => exec_move (.inl rfl) (ev_off rfl (HS14.get 0 rfl)))) ?_
        refine steps_cons (st_run 2 _ rfl rfl hLo rfl rfl (fun _ _ _ _ => rfl) (fun b G w hb ho => exec_nil rfl (ev_on hLo 1 rfl HS14.1 rfl (hb 1 (by rfl))))) ?_
        refine steps_cons (st_run 3 _ rfl rfl hLo rfl rfl (fun _ _ _ _ => rfl) (fun b G w hb ho => exec_field rfl (ev_on hLo 2 rfl HS14.1 rfl (hb 2 (by rfl))) (by kernel_rfl))) ?_
        refine steps_cons (st_read 4 0 _ _ rfl rfl rfl hLo rfl rfl (fun _ _ _ _ => rfl) (by rfl) (by rfl) (fun b G w hb ho hr => exec_cell hr (Nat.le_of_ble_eq_true rfl) Try.underlying9 rfl rfl (ev_on hLo 3 rfl HS14.1 rfl (hb 3 (by rfl))))) ?_
        refine steps_cons (st_run 5 _ rfl rfl hLo rfl rfl (fun _ _ _ _ => rfl) (fun b G w hb ho => exec_move (.inl rfl) (ev_off rfl (HS14.get 0 rfl)))) ?_
        refine steps_cons (st_run 6 _ rfl rfl hLo rfl rfl (fun _ _ _ _ => rfl) (fun b G w hb ho => exec_nil rfl (ev_on hLo 5 rfl HS14.1 rfl (hb 5 (by rfl))))) ?_
        refine steps_cons (st_run 7 _ rfl rfl hLo rfl rfl (fun _ _ _ _ => rfl) (fun b G w hb ho => exec_field rfl (ev_on hLo 6 rfl HS14.1 rfl (hb 6 (by rfl))) (by kernel_rfl))) ?_
        refine steps_cons (st_read 8 0 _ _ rfl rfl rfl hLo rfl rfl (fun _ _ _ _ => rfl) (by rfl) (by rfl) (fun b G w hb ho hr => exec_cell hr (Nat.le_of_ble_eq_true rfl) Try.underlying9 rfl rfl (ev_on hLo 7 rfl HS14.1 rfl (hb 7 (by rfl))))) ?_
        refine steps_cons (st_run 9 _ rfl rfl hLo rfl rfl (fun _ _ _ _ => rfl) (fun b G w hb ho => exec_move (.inl rfl) (ev_off rfl (HS14.get 3 rfl)))) ?_
        refine steps_cons (st_run 10 _ rfl rfl hLo rfl rfl (fun _ _ _ _ => rfl) (fun b G w hb ho => exec_slice rfl (ev_on hLo 8 rfl HS14.1 rfl (hb 8 (by rfl))) rfl (congrArg some (ev_on hLo 9 rfl HS14.1 rfl (hb 9 (by rfl)))) rfl (rs_hi Try.underlying9 ((Nat.zero_le _)) _))) ?_
        refine steps_cons (st_run 11 _ rfl rfl hLo rfl rfl (fun _ _ _ _ => rfl) (fun b G w hb ho => exec_bin rfl (ev_on hLo 4 rfl HS14.1 rfl (hb 4 (by rfl))) (ev_on hLo 10 rfl HS14.1 rfl (hb 10 (by rfl))) (rb_sadd ((by rw [ByteArray.size_extract]; omega)) _ _ _))) ?_
        refine steps_cons (st_run 12 _ rfl rfl hLo rfl rfl (fun _ _ _ _ => rfl) (fun b G w hb ho => exec_nil rfl (ev_on hLo 0 rfl HS14.1 rfl (hb 0 (by rfl))))) ?_
        refine steps_cons (st_run 13 _ rfl rfl hLo rfl rfl (fun _ _ _ _ => rfl) (fun b G w hb ho => exec_field rfl (ev_on hLo 12 rfl HS14.1 rfl (hb 12 (by rfl))) (by kernel_rfl))) ?_
        refine steps_cons (st_put 0 _ rfl rfl rfl rfl (fun _ _ _ _ => rfl) rfl rfl rfl (by rfl) (fun b G w hb ho hr => exec_put1 hr (Nat.le_of_ble_eq_true rfl) (by kernel_rfl) rfl (ev_on hLo 13 rfl HS14.1 rfl (hb 13 (by rfl))) (ev_on hLo 11 rfl HS14.1 rfl (hb 11 (by rfl))))) ?_
        exact steps_nil
      clear hLo
      intro G a15 w15 hS hH
      have HS15 : Sl a15 46 [(0, .pointer (some ⟨g, 0, none⟩)), (8, .bool false), (10, .bool true), (1, .int .i64 (0)), (17, .bool false)] := hS
      have HH15 : Held ⟨w, [g]⟩ w15 [⟨g, (), 6, upd (rpC ⟨safe, waits, true, acts, inn, keep⟩) 0 (.s ((safe) ++ ((waits).extract 0 (0)))), 51⟩] := hH
      clear hS hH HS14 HH14
      refine then_ ?_
      refine wp_seq ?_
      have hLo : LOk [(0, 37, .val (.pointer (some ⟨g, 0, none⟩))), (1, 38, .val (.pointer (some ⟨g, 0, none⟩))), (2, 39, .val (.pointer (some ⟨g, 1, none⟩)))] := lok (by rfl) (by rfl)
      refine plain_ (wE := ⟨w, [g]⟩) (sz := 46) (n := 4) [0, 1, 3, 7] [(0, .val (.pointer (some ⟨g, 0, none⟩))), (8, .val (.bool false)), (10, .val (.bool true)), (1, .val (.int .i64 (0))), (17, .val (.bool false))] [(0, 37, .val (.pointer (some ⟨g, 0, none⟩))), (1, 38, .val (.pointer (some ⟨g, 0, none⟩))), (2, 39, .val (.pointer (some ⟨g, 1, none⟩)))] [⟨g, none, some 3, (), 6, upd (rpC ⟨safe, waits, true, acts, inn, keep⟩) 0 (.s ((safe) ++ ((waits).extract 0 (0)))), upd (upd (rpC ⟨safe, waits, true, acts, inn, keep⟩) 0 (.s ((safe) ++ ((waits).extract 0 (0))))) 1 (.s (ByteArray.empty)), 51⟩] rfl (by rfl) HH15 rfl rfl hLo rfl HS15 (slS 0 rfl rfl (slS 1 rfl rfl (slS 2 rfl rfl (slS 3 rfl rfl (slS 4 rfl rfl (trivial)))))) ?_ ?_
      · show ∀ i ∈ [0, 1, 2, 3], _
        refine steps_cons (st_run 0 _ rfl rfl hLo rfl rfl (fun _ _ _ _ => rfl) (fun b G w hb ho => exec_move (.inl rfl) (ev_off rfl (HS15.get 0 rfl)))) ?_
        refine steps_cons (st_run 1 _ rfl rfl hLo rfl rfl (fun _ _ _ _ => rfl) (fun b G w hb ho => exec_nil rfl (ev_on hLo 0 rfl HS15.1 rfl (hb 0 (by rfl))))) ?_
        refine steps_cons (st_run 2 _ rfl rfl hLo rfl rfl (fun _ _ _ _ => rfl) (fun b G w hb ho => exec_field rfl (ev_on hLo 1 rfl HS15.1 rfl (hb 1 (by rfl))) (by kernel_rfl))) ?_
        refine steps_cons (st_put 0 _ rfl rfl rfl rfl (fun _ _ _ _ => rfl) rfl rfl rfl (by rfl) (fun b G w hb ho hr => exec_put1 hr (Nat.le_of_ble_eq_true rfl) (by kernel_rfl) rfl (ev_on hLo 2 rfl HS15.1 rfl (hb 2 (by rfl))) (rfl))) ?_
        exact steps_nil
      clear hLo
      intro G a16 w16 hS hH
      have HS16 : Sl a16 46 [(0, .pointer (some ⟨g, 0, none⟩)), (8, .bool false), (10, .bool true), (1, .int .i64 (0)), (17, .bool false)] := hS
      have HH16 : Held ⟨w, [g]⟩ w16 [⟨g, (), 6, upd (upd (rpC ⟨safe, waits, true, acts, inn, keep⟩) 0 (.s ((safe) ++ ((waits).extract 0 (0))))) 1 (.s (ByteArray.empty)), 51⟩] := hH
      clear hS hH HS15 HH15
      refine then_ ?_
      refine wp_seq ?_
      have hLo : LOk [(0, 40, .val (.pointer (some ⟨g, 0, none⟩))), (1, 41, .val (.pointer (some ⟨g, 0, none⟩))), (2, 42, .val (.pointer (some ⟨g, 2, none⟩)))] := lok (by rfl) (by rfl)
      refine plain_ (wE := ⟨w, [g]⟩) (sz := 46) (n := 4) [0, 1, 3, 7] [(0, .val (.pointer (some ⟨g, 0, none⟩))), (8, .val (.bool false)), (10, .val (.bool true)), (1, .val (.int .i64 (0))), (17, .val (.bool false))] [(0, 40, .val (.pointer (some ⟨g, 0, none⟩))), (1, 41, .val (.pointer (some ⟨g, 0, none⟩))), (2, 42, .val (.pointer (some ⟨g, 2, none⟩)))] [⟨g, none, some 3, (), 6, upd (upd (rpC ⟨safe, waits, true, acts, inn, keep⟩) 0 (.s ((safe) ++ ((waits).extract 0 (0))))) 1 (.s (ByteArray.empty)), upd (upd (upd (rpC ⟨safe, waits, true, acts, inn, keep⟩) 0 (.s ((safe) ++ ((waits).extract 0 (0))))) 1 (.s (ByteArray.empty))) 2 (.b (false)), 51⟩] rfl (by rfl) HH16 rfl rfl hLo rfl HS16 (slS 0 rfl rfl (slS 1 rfl rfl (slS 2 rfl rfl (slS 3 rfl rfl (slS 4 rfl rfl (trivial)))))) ?_ ?_
      · show ∀ i ∈ [0, 1, 2, 3], _
        refine steps_cons (st_run 0 _ rfl rfl hLo rfl rfl (fun _ _ _ _ => rfl) (fun b G w hb ho => exec_move (.inl rfl) (ev_off rfl (HS16.get 0 rfl)))) ?_
        refine steps_cons (st_run 1 _ rfl rfl hLo rfl rfl (fun _ _ _ _ => rfl) (fun b G w hb ho => exec_nil rfl (ev_on hLo 0 rfl HS16.1 rfl (hb 0 (by rfl))))) ?_
        refine steps_cons (st_run 2 _ rfl rfl hLo rfl rfl (fun _ _ _ _ => rfl) (fun b G w hb ho => exec_field rfl (ev_on hLo 1 rfl HS16.1 rfl (hb 1 (by rfl))) (by kernel_rfl))) ?_
        refine steps_cons (st_put 0 _ rfl rfl rfl rfl (fun _ _ _ _ => rfl) rfl rfl rfl (by rfl) (fun b G w hb ho hr => exec_put1 hr (Nat.le_of_ble_eq_true rfl) (by kernel_rfl) rfl (ev_on hLo 2 rfl HS16.1 rfl (hb 2 (by rfl))) (rfl))) ?_
        exact steps_nil
      clear hLo
      intro G a17 w17 hS hH
      have HS17 : Sl a17 46 [(0, .pointer (some ⟨g, 0, none⟩)), (8, .bool false), (10, .bool true), (1, .int .i64 (0)), (17, .bool false)] := hS
      have HH17 : Held ⟨w, [g]⟩ w17 [⟨g, (), 6, upd (upd (upd (rpC ⟨safe, waits, true, acts, inn, keep⟩) 0 (.s ((safe) ++ ((waits).extract 0 (0))))) 1 (.s (ByteArray.empty))) 2 (.b (false)), 51⟩] := hH
      clear hS hH HS16 HH16
      refine then_ ?_
      have hLo : LOk [(0, 43, .val (.pointer (some ⟨g, 0, none⟩))), (1, 44, .val (.pointer (some ⟨g, 0, none⟩))), (2, 45, .val (.pointer (some ⟨g, 4, none⟩)))] := lok (by rfl) (by rfl)
      refine plain_ (wE := ⟨w, [g]⟩) (sz := 46) (n := 4) [0, 1, 3, 7] [(0, .val (.pointer (some ⟨g, 0, none⟩))), (8, .val (.bool false)), (10, .val (.bool true)), (1, .val (.int .i64 (0))), (17, .val (.bool false))] [(0, 43, .val (.pointer (some ⟨g, 0, none⟩))), (1, 44, .val (.pointer (some ⟨g, 0, none⟩))), (2, 45, .val (.pointer (some ⟨g, 4, none⟩)))] [⟨g, none, some 3, (), 6, upd (upd (upd (rpC ⟨safe, waits, true, acts, inn, keep⟩) 0 (.s ((safe) ++ ((waits).extract 0 (0))))) 1 (.s (ByteArray.empty))) 2 (.b (false)), upd (upd (upd (upd (rpC ⟨safe, waits, true, acts, inn, keep⟩) 0 (.s ((safe) ++ ((waits).extract 0 (0))))) 1 (.s (ByteArray.empty))) 2 (.b (false))) 4 (.i .i64 (0)), 51⟩] rfl (by rfl) HH17 rfl rfl hLo rfl HS17 (slS 0 rfl rfl (slS 1 rfl rfl (slS 2 rfl rfl (slS 3 rfl rfl (slS 4 rfl rfl (trivial)))))) ?_ ?_
      · show ∀ i ∈ [0, 1, 2, 3], _
        refine steps_cons (st_run 0 _ rfl rfl hLo rfl rfl (fun _ _ _ _ => rfl) (fun b G w hb ho => exec_move (.inl rfl) (ev_off rfl (HS17.get 0 rfl)))) ?_
        refine steps_cons (st_run 1 _ rfl rfl hLo rfl rfl (fun _ _ _ _ => rfl) (fun b G w hb ho => exec_nil rfl (ev_on hLo 0 rfl HS17.1 rfl (hb 0 (by rfl))))) ?_
        refine steps_cons (st_run 2 _ rfl rfl hLo rfl rfl (fun _ _ _ _ => rfl) (fun b G w hb ho => exec_field rfl (ev_on hLo 1 rfl HS17.1 rfl (hb 1 (by rfl))) (by kernel_rfl))) ?_
        refine steps_cons (st_put 0 _ rfl rfl rfl rfl (fun _ _ _ _ => rfl) rfl rfl rfl (by rfl) (fun b G w hb ho hr => exec_put1 hr (Nat.le_of_ble_eq_true rfl) (by kernel_rfl) rfl (ev_on hLo 2 rfl HS17.1 rfl (hb 2 (by rfl))) (rfl))) ?_
        exact steps_nil
      clear hLo
      intro G a18 w18 hS hH
      have HS18 : Sl a18 46 [(0, .pointer (some ⟨g, 0, none⟩)), (8, .bool false), (10, .bool true), (1, .int .i64 (0)), (17, .bool false)] := hS
      have HH18 : Held ⟨w, [g]⟩ w18 [⟨g, (), 6, upd (upd (upd (upd (rpC ⟨safe, waits, true, acts, inn, keep⟩) 0 (.s ((safe) ++ ((waits).extract 0 (0))))) 1 (.s (ByteArray.empty))) 2 (.b (false))) 4 (.i .i64 (0)), 51⟩] := hH
      clear hS hH HS17 HH17
      exact b_fall rfl HS18.2.1 ⟨rfl, Row.norm (HH18.row 0 rfl) (six ⟨congrArg (fun n => SC.s (safe ++ waits.extract 0 n)) (by unfold kp; simp at *; omega), rfl, rfl, rfl, rfl, rfl⟩), HH18.1⟩
    · skip
      refine wp_cond_true (HS14.get 4 rfl) ?_
      have hLo : LOk [(0, 18, .val (.pointer (some ⟨g, 0, none⟩))), (1, 19, .val (.pointer (some ⟨g, 0, none⟩))), (2, 20, .val (.pointer (some ⟨g, 1, none⟩))), (3, 21, .val (.string (waits))), (4, 22, .val (.int .i64 (((waits).size : Int)))), (5, 1, .val (.int .i64 (((waits).size : Int))))] := lok (by rfl) (by rfl)
      refine plain_ (wE := ⟨w, [g]⟩) (sz := 46) (n := 6) [0, 1, 3, 7, 15, 31] [(0, .val (.pointer (some ⟨g, 0, none⟩))), (8, .val (.bool false)), (10, .val (.bool true)), (17, .val (.bool true)), (1, .val (.int .i64 (((waits).size : Int))))] [(0, 18, .val (.pointer (some ⟨g, 0, none⟩))), (1, 19, .val (.pointer (some ⟨g, 0, none⟩))), (2, 20, .val (.pointer (some ⟨g, 1, none⟩))), (3, 21, .val (.string (waits))), (4, 22, .val (.int .i64 (((waits).size : Int)))), (5, 1, .val (.int .i64 (((waits).size : Int))))] [⟨g, none, none, (), 6, rpC ⟨safe, waits, true, acts, inn, keep⟩, rpC ⟨safe, waits, true, acts, inn, keep⟩, 51⟩] rfl (by rfl) HH14 rfl rfl hLo rfl HS14 (slS 0 rfl rfl (slS 1 rfl rfl (slS 2 rfl rfl (slS 4 rfl rfl (slL 5 (d := 5) rfl (trivial)))))) ?_ ?_
      · show ∀ i ∈ [0, 1, 2, 3, 4, 5], _
        refine steps_cons (st_run 0 _ rfl rfl hLo rfl rfl (fun _ _ _ _ => rfl) (fun b G w hb ho => exec_move (.inl rfl) (ev_off rfl (HS14.get 0 rfl)))) ?_
        refine steps_cons (st_run 1 _ rfl rfl hLo rfl rfl (fun _ _ _ _ => rfl) (fun b G w hb ho => exec_nil rfl (ev_on hLo 0 rfl HS14.1 rfl (hb 0 (by rfl))))) ?_
        refine steps_cons (st_run 2 _ rfl rfl hLo rfl rfl (fun _ _ _ _ => rfl) (fun b G w hb ho => exec_field rfl (ev_on hLo 1 rfl HS14.1 rfl (hb 1 (by rfl))) (by kernel_rfl))) ?_
        refine steps_cons (st_read 3 0 _ _ rfl rfl rfl hLo rfl rfl (fun _ _ _ _ => rfl) (by rfl) (by rfl) (fun b G w hb ho hr => exec_cell hr (Nat.le_of_ble_eq_true rfl) Try.underlying9 rfl rfl (ev_on hLo 2 rfl HS14.1 rfl (hb 2 (by rfl))))) ?_
        refine steps_cons (st_run 4 _ rfl rfl hLo rfl rfl (fun _ _ _ _ => rfl) (fun b G w hb ho => exec_lenS Try.underlying9 rfl (ev_on hLo 3 rfl HS14.1 rfl (hb 3 (by rfl))))) ?_
        refine steps_cons (st_run 5 _ rfl rfl hLo rfl rfl (fun _ _ _ _ => rfl) (fun b G w hb ho => exec_move (.inr rfl) (ev_on hLo 4 rfl HS14.1 rfl (hb 4 (by rfl))))) ?_
        exact steps_nil
      clear hLo
      intro G a19 w19 hS hH
      have HS19 : Sl a19 46 [(0, .pointer (some ⟨g, 0, none⟩)), (8, .bool false), (10, .bool true), (17, .bool true), (1, .int .i64 (((waits).size : Int)))] := hS
      have HH19 : Held ⟨w, [g]⟩ w19 [⟨g, (), 6, rpC ⟨safe, waits, true, acts, inn, keep⟩, 51⟩] := hH
      clear hS hH HS14 HH14
      refine then_ ?_
      refine wp_seq ?_
      have hLo : LOk [(0, 23, .val (.pointer (some ⟨g, 0, none⟩))), (1, 24, .val (.pointer (some ⟨g, 0, none⟩))), (2, 25, .val (.pointer (some ⟨g, 0, none⟩))), (3, 26, .val (.pointer (some ⟨g, 0, none⟩))), (4, 27, .val (.string (safe))), (5, 28, .val (.pointer (some ⟨g, 0, none⟩))), (6, 29, .val (.pointer (some ⟨g, 0, none⟩))), (7, 30, .val (.pointer (some ⟨g, 1, none⟩))), (8, 31, .val (.string (waits))), (9, 32, .val (.int .i64 (((waits).size : Int)))), (10, 33, .val (.string ((waits).extract 0 (waits.size)))), (11, 34, .val (.string ((safe) ++ ((waits).extract 0 (waits.size))))), (12, 35, .val (.pointer (some ⟨g, 0, none⟩))), (13, 36, .val (.pointer (some ⟨g, 0, none⟩)))] := lok (by rfl) (by rfl)
      refine region_ (wE := ⟨w, [g]⟩) (sz := 46) (n := 15) (B := [0, 0, 2, 6, 14, 0, 32, 96, 224, 0, 992, 2046, 4095, 8191, 16383]) [0, 1, 2, 3, 4, 5, 6, 7, 8, 9, 10, 11, 12, 13, 14] [(0, .val (.pointer (some ⟨g, 0, none⟩))), (8, .val (.bool false)), (10, .val (.bool true)), (17, .val (.bool true)), (1, .val (.int .i64 (((waits).size : Int))))] [(0, 23, .val (.pointer (some ⟨g, 0, none⟩))), (1, 24, .val (.pointer (some ⟨g, 0, none⟩))), (2, 25, .val (.pointer (some ⟨g, 0, none⟩))), (3, 26, .val (.pointer (some ⟨g, 0, none⟩))), (4, 27, .val (.string (safe))), (5, 28, .val (.pointer (some ⟨g, 0, none⟩))), (6, 29, .val (.pointer (some ⟨g, 0, none⟩))), (7, 30, .val (.pointer (some ⟨g, 1, none⟩))), (8, 31, .val (.string (waits))), (9, 32, .val (.int .i64 (((waits).size : Int)))), (10, 33, .val (.string ((waits).extract 0 (waits.size)))), (11, 34, .val (.string ((safe) ++ ((waits).extract 0 (waits.size))))), (12, 35, .val (.pointer (some ⟨g, 0, none⟩))), (13, 36, .val (.pointer (some ⟨g, 0, none⟩)))] [⟨g, none, some 14, (), 6, rpC ⟨safe, waits, true, acts, inn, keep⟩, upd (rpC ⟨safe, waits, true, acts, inn, keep⟩) 0 (.s ((safe) ++ ((waits).extract 0 (waits.size)))), 51⟩] (by rfl) rfl tabro5 bitsro5 (by kernel_rfl) (by kernel_rfl) HH19 rfl rfl hLo rfl HS19 (slS 0 rfl rfl (slS 1 rfl rfl (slS 2 rfl rfl (slS 3 rfl rfl (slS 4 rfl rfl (trivial)))))) ?_ ?_
      · show ∀ i ∈ [0, 1, 2, 3, 4, 5, 6, 7, 8, 9, 10, 11, 12, 13, 14], _
        refine steps_cons (st_run 0 _ rfl rfl hLo rfl rfl (fun _ _ _ _ => rfl) (fun b G w hb ho => exec_move (.inl rfl) (ev_off rfl (HS19.get 0 rfl)))) ?_
        refine steps_cons (st_run 1 _ rfl rfl hLo rfl rfl (fun _ _ _ _ => rfl) (fun b G w hb ho => exec_move (.inl rfl) (ev_off rfl (HS19.get 0 rfl)))) ?_
        refine steps_cons (st_run 2 _ rfl rfl hLo rfl rfl (fun _ _ _ _ => rfl) (fun b G w hb ho => exec_nil rfl (ev_on hLo 1 rfl HS19.1 rfl (hb 1 (by rfl))))) ?_
        refine steps_cons (st_run 3 _ rfl rfl hLo rfl rfl (fun _ _ _ _ => rfl) (fun b G w hb ho => exec_field rfl (ev_on hLo 2 rfl HS19.1 rfl (hb 2 (by rfl))) (by kernel_rfl))) ?_
        refine steps_cons (st_read 4 0 _ _ rfl rfl rfl hLo rfl rfl (fun _ _ _ _ => rfl) (by rfl) (by rfl) (fun b G w hb ho hr => exec_cell hr (Nat.le_of_ble_eq_true rfl) Try.underlying9 rfl rfl (ev_on hLo 3 rfl HS19.1 rfl (hb 3 (by rfl))))) ?_
        refine steps_cons (st_run 5 _ rfl rfl hLo rfl rfl (fun _ _ _ _ => rfl) (fun b G w hb ho => exec_move (.inl rfl) (ev_off rfl (HS19.get 0 rfl)))) ?_
        refine steps_cons (st_run 6 _ rfl rfl hLo rfl rfl (fun _ _ _ _ => rfl) (fun b G w hb ho => exec_nil rfl (ev_on hLo 5 rfl HS19.1 rfl (hb 5 (by rfl))))) ?_
        refine steps_cons (st_run 7 _ rfl rfl hLo rfl rfl (fun _ _ _ _ => rfl) (fun b G w hb ho => exec_field rfl (ev_on hLo 6 rfl HS19.1 rfl (hb 6 (by rfl))) (by kernel_rfl))) ?_
        refine steps_cons (st_read 8 0 _ _ rfl rfl rfl hLo rfl rfl (fun _ _ _ _ => rfl) (by rfl) (by rfl) (fun b G w hb ho hr => exec_cell hr (Nat.le_of_ble_eq_true rfl) Try.underlying9 rfl rfl (ev_on hLo 7 rfl HS19.1 rfl (hb 7 (by rfl))))) ?_
        refine steps_cons (st_run 9 _ rfl rfl hLo rfl rfl (fun _ _ _ _ => rfl) (fun b G w hb ho => exec_move (.inl rfl) (ev_off rfl (HS19.get 4 rfl)))) ?_
        refine steps_cons (st_run 10 _ rfl rfl hLo rfl rfl (fun _ _ _ _ => rfl) (fun b G w hb ho => exec_slice rfl (ev_on hLo 8 rfl HS19.1 rfl (hb 8 (by rfl))) rfl (congrArg some (ev_on hLo 9 rfl HS19.1 rfl (hb 9 (by rfl)))) rfl (rs_hi Try.underlying9 ((Nat.le_refl _)) _))) ?_
        refine steps_cons (st_run 11 _ rfl rfl hLo rfl rfl (fun _ _ _ _ => rfl) (fun b G w hb ho => exec_bin rfl (ev_on hLo 4 rfl HS19.1 rfl (hb 4 (by rfl))) (ev_on hLo 10 rfl HS19.1 rfl (hb 10 (by rfl))) (rb_sadd ((by rw [ByteArray.size_extract]; omega)) _ _ _))) ?_
        refine steps_cons (st_run 12 _ rfl rfl hLo rfl rfl (fun _ _ _ _ => rfl) (fun b G w hb ho => exec_nil rfl (ev_on hLo 0 rfl HS19.1 rfl (hb 0 (by rfl))))) ?_
        refine steps_cons (st_run 13 _ rfl rfl hLo rfl rfl (fun _ _ _ _ => rfl) (fun b G w hb ho => exec_field rfl (ev_on hLo 12 rfl HS19.1 rfl (hb 12 (by rfl))) (by kernel_rfl))) ?_
        refine steps_cons (st_put 0 _ rfl rfl rfl rfl (fun _ _ _ _ => rfl) rfl rfl rfl (by rfl) (fun b G w hb ho hr => exec_put1 hr (Nat.le_of_ble_eq_true rfl) (by kernel_rfl) rfl (ev_on hLo 13 rfl HS19.1 rfl (hb 13 (by rfl))) (ev_on hLo 11 rfl HS19.1 rfl (hb 11 (by rfl))))) ?_
        exact steps_nil
      clear hLo
      intro G a20 w20 hS hH
      have HS20 : Sl a20 46 [(0, .pointer (some ⟨g, 0, none⟩)), (8, .bool false), (10, .bool true), (17, .bool true), (1, .int .i64 (((waits).size : Int)))] := hS
      have HH20 : Held ⟨w, [g]⟩ w20 [⟨g, (), 6, upd (rpC ⟨safe, waits, true, acts, inn, keep⟩) 0 (.s ((safe) ++ ((waits).extract 0 (waits.size)))), 51⟩] := hH
      clear hS hH HS19 HH19
      refine then_ ?_
      refine wp_seq ?_
      have hLo : LOk [(0, 37, .val (.pointer (some ⟨g, 0, none⟩))), (1, 38, .val (.pointer (some ⟨g, 0, none⟩))), (2, 39, .val (.pointer (some ⟨g, 1, none⟩)))] := lok (by rfl) (by rfl)
      refine plain_ (wE := ⟨w, [g]⟩) (sz := 46) (n := 4) [0, 1, 3, 7] [(0, .val (.pointer (some ⟨g, 0, none⟩))), (8, .val (.bool false)), (10, .val (.bool true)), (17, .val (.bool true)), (1, .val (.int .i64 (((waits).size : Int))))] [(0, 37, .val (.pointer (some ⟨g, 0, none⟩))), (1, 38, .val (.pointer (some ⟨g, 0, none⟩))), (2, 39, .val (.pointer (some ⟨g, 1, none⟩)))] [⟨g, none, some 3, (), 6, upd (rpC ⟨safe, waits, true, acts, inn, keep⟩) 0 (.s ((safe) ++ ((waits).extract 0 (waits.size)))), upd (upd (rpC ⟨safe, waits, true, acts, inn, keep⟩) 0 (.s ((safe) ++ ((waits).extract 0 (waits.size))))) 1 (.s (ByteArray.empty)), 51⟩] rfl (by rfl) HH20 rfl rfl hLo rfl HS20 (slS 0 rfl rfl (slS 1 rfl rfl (slS 2 rfl rfl (slS 3 rfl rfl (slS 4 rfl rfl (trivial)))))) ?_ ?_
      · show ∀ i ∈ [0, 1, 2, 3], _
        refine steps_cons (st_run 0 _ rfl rfl hLo rfl rfl (fun _ _ _ _ => rfl) (fun b G w hb ho => exec_move (.inl rfl) (ev_off rfl (HS20.get 0 rfl)))) ?_
        refine steps_cons (st_run 1 _ rfl rfl hLo rfl rfl (fun _ _ _ _ => rfl) (fun b G w hb ho => exec_nil rfl (ev_on hLo 0 rfl HS20.1 rfl (hb 0 (by rfl))))) ?_
        refine steps_cons (st_run 2 _ rfl rfl hLo rfl rfl (fun _ _ _ _ => rfl) (fun b G w hb ho => exec_field rfl (ev_on hLo 1 rfl HS20.1 rfl (hb 1 (by rfl))) (by kernel_rfl))) ?_
        refine steps_cons (st_put 0 _ rfl rfl rfl rfl (fun _ _ _ _ => rfl) rfl rfl rfl (by rfl) (fun b G w hb ho hr => exec_put1 hr (Nat.le_of_ble_eq_true rfl) (by kernel_rfl) rfl (ev_on hLo 2 rfl HS20.1 rfl (hb 2 (by rfl))) (rfl))) ?_
        exact steps_nil
      clear hLo
      intro G a21 w21 hS hH
      have HS21 : Sl a21 46 [(0, .pointer (some ⟨g, 0, none⟩)), (8, .bool false), (10, .bool true), (17, .bool true), (1, .int .i64 (((waits).size : Int)))] := hS
      have HH21 : Held ⟨w, [g]⟩ w21 [⟨g, (), 6, upd (upd (rpC ⟨safe, waits, true, acts, inn, keep⟩) 0 (.s ((safe) ++ ((waits).extract 0 (waits.size))))) 1 (.s (ByteArray.empty)), 51⟩] := hH
      clear hS hH HS20 HH20
      refine then_ ?_
      refine wp_seq ?_
      have hLo : LOk [(0, 40, .val (.pointer (some ⟨g, 0, none⟩))), (1, 41, .val (.pointer (some ⟨g, 0, none⟩))), (2, 42, .val (.pointer (some ⟨g, 2, none⟩)))] := lok (by rfl) (by rfl)
      refine plain_ (wE := ⟨w, [g]⟩) (sz := 46) (n := 4) [0, 1, 3, 7] [(0, .val (.pointer (some ⟨g, 0, none⟩))), (8, .val (.bool false)), (10, .val (.bool true)), (17, .val (.bool true)), (1, .val (.int .i64 (((waits).size : Int))))] [(0, 40, .val (.pointer (some ⟨g, 0, none⟩))), (1, 41, .val (.pointer (some ⟨g, 0, none⟩))), (2, 42, .val (.pointer (some ⟨g, 2, none⟩)))] [⟨g, none, some 3, (), 6, upd (upd (rpC ⟨safe, waits, true, acts, inn, keep⟩) 0 (.s ((safe) ++ ((waits).extract 0 (waits.size))))) 1 (.s (ByteArray.empty)), upd (upd (upd (rpC ⟨safe, waits, true, acts, inn, keep⟩) 0 (.s ((safe) ++ ((waits).extract 0 (waits.size))))) 1 (.s (ByteArray.empty))) 2 (.b (false)), 51⟩] rfl (by rfl) HH21 rfl rfl hLo rfl HS21 (slS 0 rfl rfl (slS 1 rfl rfl (slS 2 rfl rfl (slS 3 rfl rfl (slS 4 rfl rfl (trivial)))))) ?_ ?_
      · show ∀ i ∈ [0, 1, 2, 3], _
        refine steps_cons (st_run 0 _ rfl rfl hLo rfl rfl (fun _ _ _ _ => rfl) (fun b G w hb ho => exec_move (.inl rfl) (ev_off rfl (HS21.get 0 rfl)))) ?_
        refine steps_cons (st_run 1 _ rfl rfl hLo rfl rfl (fun _ _ _ _ => rfl) (fun b G w hb ho => exec_nil rfl (ev_on hLo 0 rfl HS21.1 rfl (hb 0 (by rfl))))) ?_
        refine steps_cons (st_run 2 _ rfl rfl hLo rfl rfl (fun _ _ _ _ => rfl) (fun b G w hb ho => exec_field rfl (ev_on hLo 1 rfl HS21.1 rfl (hb 1 (by rfl))) (by kernel_rfl))) ?_
        refine steps_cons (st_put 0 _ rfl rfl rfl rfl (fun _ _ _ _ => rfl) rfl rfl rfl (by rfl) (fun b G w hb ho hr => exec_put1 hr (Nat.le_of_ble_eq_true rfl) (by kernel_rfl) rfl (ev_on hLo 2 rfl HS21.1 rfl (hb 2 (by rfl))) (rfl))) ?_
        exact steps_nil
      clear hLo
      intro G a22 w22 hS hH
      have HS22 : Sl a22 46 [(0, .pointer (some ⟨g, 0, none⟩)), (8, .bool false), (10, .bool true), (17, .bool true), (1, .int .i64 (((waits).size : Int)))] := hS
      have HH22 : Held ⟨w, [g]⟩ w22 [⟨g, (), 6, upd (upd (upd (rpC ⟨safe, waits, true, acts, inn, keep⟩) 0 (.s ((safe) ++ ((waits).extract 0 (waits.size))))) 1 (.s (ByteArray.empty))) 2 (.b (false)), 51⟩] := hH
      clear hS hH HS21 HH21
      refine then_ ?_
      have hLo : LOk [(0, 43, .val (.pointer (some ⟨g, 0, none⟩))), (1, 44, .val (.pointer (some ⟨g, 0, none⟩))), (2, 45, .val (.pointer (some ⟨g, 4, none⟩)))] := lok (by rfl) (by rfl)
      refine plain_ (wE := ⟨w, [g]⟩) (sz := 46) (n := 4) [0, 1, 3, 7] [(0, .val (.pointer (some ⟨g, 0, none⟩))), (8, .val (.bool false)), (10, .val (.bool true)), (17, .val (.bool true)), (1, .val (.int .i64 (((waits).size : Int))))] [(0, 43, .val (.pointer (some ⟨g, 0, none⟩))), (1, 44, .val (.pointer (some ⟨g, 0, none⟩))), (2, 45, .val (.pointer (some ⟨g, 4, none⟩)))] [⟨g, none, some 3, (), 6, upd (upd (upd (rpC ⟨safe, waits, true, acts, inn, keep⟩) 0 (.s ((safe) ++ ((waits).extract 0 (waits.size))))) 1 (.s (ByteArray.empty))) 2 (.b (false)), upd (upd (upd (upd (rpC ⟨safe, waits, true, acts, inn, keep⟩) 0 (.s ((safe) ++ ((waits).extract 0 (waits.size))))) 1 (.s (ByteArray.empty))) 2 (.b (false))) 4 (.i .i64 (0)), 51⟩] rfl (by rfl) HH22 rfl rfl hLo rfl HS22 (slS 0 rfl rfl (slS 1 rfl rfl (slS 2 rfl rfl (slS 3 rfl rfl (slS 4 rfl rfl (trivial)))))) ?_ ?_
      · show ∀ i ∈ [0, 1, 2, 3], _
        refine steps_cons (st_run 0 _ rfl rfl hLo rfl rfl (fun _ _ _ _ => rfl) (fun b G w hb ho => exec_move (.inl rfl) (ev_off rfl (HS22.get 0 rfl)))) ?_
        refine steps_cons (st_run 1 _ rfl rfl hLo rfl rfl (fun _ _ _ _ => rfl) (fun b G w hb ho => exec_nil rfl (ev_on hLo 0 rfl HS22.1 rfl (hb 0 (by rfl))))) ?_
        refine steps_cons (st_run 2 _ rfl rfl hLo rfl rfl (fun _ _ _ _ => rfl) (fun b G w hb ho => exec_field rfl (ev_on hLo 1 rfl HS22.1 rfl (hb 1 (by rfl))) (by kernel_rfl))) ?_
        refine steps_cons (st_put 0 _ rfl rfl rfl rfl (fun _ _ _ _ => rfl) rfl rfl rfl (by rfl) (fun b G w hb ho hr => exec_put1 hr (Nat.le_of_ble_eq_true rfl) (by kernel_rfl) rfl (ev_on hLo 2 rfl HS22.1 rfl (hb 2 (by rfl))) (rfl))) ?_
        exact steps_nil
      clear hLo
      intro G a23 w23 hS hH
      have HS23 : Sl a23 46 [(0, .pointer (some ⟨g, 0, none⟩)), (8, .bool false), (10, .bool true), (17, .bool true), (1, .int .i64 (((waits).size : Int)))] := hS
      have HH23 : Held ⟨w, [g]⟩ w23 [⟨g, (), 6, upd (upd (upd (upd (rpC ⟨safe, waits, true, acts, inn, keep⟩) 0 (.s ((safe) ++ ((waits).extract 0 (waits.size))))) 1 (.s (ByteArray.empty))) 2 (.b (false))) 4 (.i .i64 (0)), 51⟩] := hH
      clear hS hH HS22 HH22
      exact b_fall rfl HS23.2.1 ⟨rfl, Row.norm (HH23.row 0 rfl) (six ⟨congrArg (fun n => SC.s (safe ++ waits.extract 0 n)) (by unfold kp; simp at *; omega), rfl, rfl, rfl, rfl, rfl⟩), HH23.1⟩
theorem roff_off {w : World} {g : Nat} {safe waits : ByteArray} {acts inn : Nat} {keep : Int} {k : Int} (hr : Row w g () 6 (rpC ⟨safe, waits, false, acts, inn, keep⟩) 51) : Calls Try.prog 27 #[.pointer (some ⟨g, 0, none⟩), .int .i64 (k)] w fun e w' => e = .returned (.tuple #[]) ∧ Row w' g () 6 (rpC ⟨safe, waits, false, acts, inn, keep⟩) 51 ∧ Fr ⟨w, [g]⟩ w' := by
  refine enter_ 46 Try.func27 rfl rfl (fun a0 hS => ?_)
  have HS0 : Sl a0 46 [(0, .pointer (some ⟨g, 0, none⟩)), (1, .int .i64 (k))] := hS
  have HH0 : Held ⟨w, [g]⟩ w [⟨g, (), 6, rpC ⟨safe, waits, false, acts, inn, keep⟩, 51⟩] := Held.one hr
  clear hS
  refine wp_seq ?_
  refine wp_seq ?_
  have hLo : LOk [(0, 4, .val (.pointer (some ⟨g, 0, none⟩))), (1, 5, .val (.pointer (some ⟨g, 0, none⟩))), (2, 6, .val (.pointer (some ⟨g, 2, none⟩))), (3, 7, .val (.bool false)), (4, 8, .val (.bool true))] := lok (by rfl) (by rfl)
  refine plain_ (wE := ⟨w, [g]⟩) (sz := 46) (n := 5) [0, 1, 3, 7, 15] [(0, .val (.pointer (some ⟨g, 0, none⟩))), (1, .val (.int .i64 (k))), (8, .val (.bool true))] [(0, 4, .val (.pointer (some ⟨g, 0, none⟩))), (1, 5, .val (.pointer (some ⟨g, 0, none⟩))), (2, 6, .val (.pointer (some ⟨g, 2, none⟩))), (3, 7, .val (.bool false)), (4, 8, .val (.bool true))] [⟨g, none, none, (), 6, rpC ⟨safe, waits, false, acts, inn, keep⟩, rpC ⟨safe, waits, false, acts, inn, keep⟩, 51⟩] rfl (by rfl) HH0 rfl rfl hLo rfl HS0 (slS 0 rfl rfl (slS 1 rfl rfl (slL 4 (d := 4) rfl (trivial)))) ?_ ?_
  · show ∀ i ∈ [0, 1, 2, 3, 4], _
    refine steps_cons (st_run 0 _ rfl rfl hLo rfl rfl (fun _ _ _ _ => rfl) (fun b G w hb ho => exec_move (.inl rfl) (ev_off rfl (HS0.get 0 rfl)))) ?_
    refine steps_cons (st_run 1 _ rfl rfl hLo rfl rfl (fun _ _ _ _ => rfl) (fun b G w hb ho => exec_nil rfl (ev_on hLo 0 rfl HS0.1 rfl (hb 0 (by rfl))))) ?_
    refine steps_cons (st_run 2 _ rfl rfl hLo rfl rfl (fun _ _ _ _ => rfl) (fun b G w hb ho => exec_field rfl (ev_on hLo 1 rfl HS0.1 rfl (hb 1 (by rfl))) (by kernel_rfl))) ?_
    refine steps_cons (st_read 3 0 _ _ rfl rfl rfl hLo rfl rfl (fun _ _ _ _ => rfl) (by rfl) (by rfl) (fun b G w hb ho hr => exec_cell hr (Nat.le_of_ble_eq_true rfl) Try.underlying4 rfl rfl (ev_on hLo 2 rfl HS0.1 rfl (hb 2 (by rfl))))) ?_
    refine steps_cons (st_run 4 _ rfl rfl hLo rfl rfl (fun _ _ _ _ => rfl) (fun b G w hb ho => exec_un rfl (ev_on hLo 3 rfl HS0.1 rfl (hb 3 (by rfl))) (ru_not _))) ?_
    exact steps_nil
  clear hLo
  intro G a1 w1 hS hH
  have HS1 : Sl a1 46 [(0, .pointer (some ⟨g, 0, none⟩)), (1, .int .i64 (k)), (8, .bool true)] := hS
  have HH1 : Held ⟨w, [g]⟩ w1 [⟨g, (), 6, rpC ⟨safe, waits, false, acts, inn, keep⟩, 51⟩] := hH
  clear hS hH HS0 HH0
  refine then_ ?_
  refine wp_cond_true (HS1.get 2 rfl) ?_
  refine wp_ret ?_
  repeat (first | refine then_ret ?_ | refine inBlock_ret' ?_)
  exact b_none rfl HS1.2.1 ⟨rfl, Row.norm (HH1.row 0 rfl) (six ⟨rfl, rfl, rfl, rfl, rfl, rfl⟩), HH1.1⟩
theorem ract_goes {w : World} {g : Nat} {safe waits : ByteArray} {acts : Nat} {keep : Int} (hr : Row w g () 6 (rpC ⟨safe, waits, true, acts, 1, keep⟩) 51) (hsw : safe.size + waits.size ≤ 4194304) (hac : acts ≤ 1000000) : Calls Try.prog 39 #[.pointer (some ⟨g, 0, none⟩)] w fun e w' => e = .returned (.bool true) ∧ Row w' g () 6 (rpC ⟨(safe ++ waits.extract 0 (kp keep waits.size)), ByteArray.empty, false, acts + 1, 0, keep⟩) 51 ∧ Fr ⟨w, [g]⟩ w' := by
  refine enter_ 35 Try.func39 rfl rfl (fun a0 hS => ?_)
  have HS0 : Sl a0 35 [(0, .pointer (some ⟨g, 0, none⟩))] := hS
  have HH0 : Held ⟨w, [g]⟩ w [⟨g, (), 6, rpC ⟨safe, waits, true, acts, 1, keep⟩, 51⟩] := Held.one hr
  clear hS
  refine wp_seq ?_
  have hLo : LOk [(0, 2, .val (.bool false))] := lok (by rfl) (by rfl)
  refine plain_ (wE := ⟨w, [g]⟩) (sz := 35) (n := 1) [0] [(0, .val (.pointer (some ⟨g, 0, none⟩))), (2, .val (.bool false))] [(0, 2, .val (.bool false))] [⟨g, none, none, (), 6, rpC ⟨safe, waits, true, acts, 1, keep⟩, rpC ⟨safe, waits, true, acts, 1, keep⟩, 51⟩] rfl (by rfl) HH0 rfl rfl hLo rfl HS0 (slS 0 rfl rfl (slL 0 (d := 0) rfl (trivial))) ?_ ?_
  · show ∀ i ∈ [0], _
    refine steps_cons (st_run 0 _ rfl rfl hLo rfl rfl (fun _ _ _ _ => rfl) (fun b G w hb ho => exec_move (.inr rfl) (rfl))) ?_
    exact steps_nil
  clear hLo
  intro G a1 w1 hS hH
  have HS1 : Sl a1 35 [(0, .pointer (some ⟨g, 0, none⟩)), (2, .bool false)] := hS
  have HH1 : Held ⟨w, [g]⟩ w1 [⟨g, (), 6, rpC ⟨safe, waits, true, acts, 1, keep⟩, 51⟩] := hH
  clear hS hH HS0 HH0
  refine then_ ?_
  refine wp_seq ?_
  have hLo : LOk [(0, 3, .val (.pointer (some ⟨g, 0, none⟩))), (1, 4, .val (.pointer (some ⟨g, 0, none⟩))), (2, 5, .val (.pointer (some ⟨g, 0, none⟩))), (3, 6, .val (.pointer (some ⟨g, 3, none⟩))), (4, 7, .val (.int .i64 (((acts : Nat) : Int)))), (5, 8, .val (.int .i64 (((acts + 1 : Nat) : Int)))), (6, 9, .val (.pointer (some ⟨g, 0, none⟩))), (7, 10, .val (.pointer (some ⟨g, 3, none⟩)))] := lok (by rfl) (by rfl)
  refine plain_ (wE := ⟨w, [g]⟩) (sz := 35) (n := 9) [0, 1, 3, 7, 15, 31, 63, 127, 255] [(0, .val (.pointer (some ⟨g, 0, none⟩))), (2, .val (.bool false))] [(0, 3, .val (.pointer (some ⟨g, 0, none⟩))), (1, 4, .val (.pointer (some ⟨g, 0, none⟩))), (2, 5, .val (.pointer (some ⟨g, 0, none⟩))), (3, 6, .val (.pointer (some ⟨g, 3, none⟩))), (4, 7, .val (.int .i64 (((acts : Nat) : Int)))), (5, 8, .val (.int .i64 (((acts + 1 : Nat) : Int)))), (6, 9, .val (.pointer (some ⟨g, 0, none⟩))), (7, 10, .val (.pointer (some ⟨g, 3, none⟩)))] [⟨g, none, some 8, (), 6, rpC ⟨safe, waits, true, acts, 1, keep⟩, upd (rpC ⟨safe, waits, true, acts, 1, keep⟩) 3 (.i .i64 (((acts + 1 : Nat) : Int))), 51⟩] rfl (by rfl) HH1 rfl rfl hLo rfl HS1 (slS 0 rfl rfl (slS 1 rfl rfl (trivial))) ?_ ?_
  · show ∀ i ∈ [0, 1, 2, 3, 4, 5, 6, 7, 8], _
    refine steps_cons (st_run 0 _ rfl rfl hLo rfl rfl (fun _ _ _ _ => rfl) (fun b G w hb ho => exec_move (.inl rfl) (ev_off rfl (HS1.get 0 rfl)))) ?_
    refine steps_cons (st_run 1 _ rfl rfl hLo rfl rfl (fun _ _ _ _ => rfl) (fun b G w hb ho => exec_move (.inl rfl) (ev_off rfl (HS1.get 0 rfl)))) ?_
    refine steps_cons (st_run 2 _ rfl rfl hLo rfl rfl (fun _ _ _ _ => rfl) (fun b G w hb ho => exec_nil rfl (ev_on hLo 1 rfl HS1.1 rfl (hb 1 (by rfl))))) ?_
    refine steps_cons (st_run 3 _ rfl rfl hLo rfl rfl (fun _ _ _ _ => rfl) (fun b G w hb ho => exec_field rfl (ev_on hLo 2 rfl HS1.1 rfl (hb 2 (by rfl))) (by kernel_rfl))) ?_
    refine steps_cons (st_read 4 0 _ _ rfl rfl rfl hLo rfl rfl (fun _ _ _ _ => rfl) (by rfl) (by rfl) (fun b G w hb ho hr => exec_cell hr (Nat.le_of_ble_eq_true rfl) Try.underlying3 rfl rfl (ev_on hLo 3 rfl HS1.1 rfl (hb 3 (by rfl))))) ?_
    refine steps_cons (st_run 5 _ rfl rfl hLo rfl rfl (fun _ _ _ _ => rfl) (fun b G w hb ho => exec_bin rfl (ev_on hLo 4 rfl HS1.1 rfl (hb 4 (by rfl))) (rfl) (rb_add (w_nat (by omega) (by omega)) _ _ _))) ?_
    refine steps_cons (st_run 6 _ rfl rfl hLo rfl rfl (fun _ _ _ _ => rfl) (fun b G w hb ho => exec_nil rfl (ev_on hLo 0 rfl HS1.1 rfl (hb 0 (by rfl))))) ?_
    refine steps_cons (st_run 7 _ rfl rfl hLo rfl rfl (fun _ _ _ _ => rfl) (fun b G w hb ho => exec_field rfl (ev_on hLo 6 rfl HS1.1 rfl (hb 6 (by rfl))) (by kernel_rfl))) ?_
    refine steps_cons (st_put 0 _ rfl rfl rfl rfl (fun _ _ _ _ => rfl) rfl rfl rfl (by rfl) (fun b G w hb ho hr => exec_put1 hr (Nat.le_of_ble_eq_true rfl) (by kernel_rfl) rfl (ev_on hLo 7 rfl HS1.1 rfl (hb 7 (by rfl))) (ev_on hLo 5 rfl HS1.1 rfl (hb 5 (by rfl))))) ?_
    exact steps_nil
  clear hLo
  intro G a2 w2 hS hH
  have HS2 : Sl a2 35 [(0, .pointer (some ⟨g, 0, none⟩)), (2, .bool false)] := hS
  have HH2 : Held ⟨w, [g]⟩ w2 [⟨g, (), 6, upd (rpC ⟨safe, waits, true, acts, 1, keep⟩) 3 (.i .i64 (((acts + 1 : Nat) : Int))), 51⟩] := hH
  clear hS hH HS1 HH1
  refine then_ ?_
  refine wp_seq ?_
  refine wp_seq ?_
  have hLo : LOk [(0, 11, .val (.pointer (some ⟨g, 0, none⟩))), (1, 12, .val (.pointer (some ⟨g, 0, none⟩))), (2, 13, .val (.pointer (some ⟨g, 4, none⟩))), (3, 14, .val (.int .i64 (((1 : Nat) : Int)))), (4, 15, .val (.bool true))] := lok (by rfl) (by rfl)
  refine plain_ (wE := ⟨w, [g]⟩) (sz := 35) (n := 5) [0, 1, 3, 7, 15] [(0, .val (.pointer (some ⟨g, 0, none⟩))), (2, .val (.bool false)), (15, .val (.bool true))] [(0, 11, .val (.pointer (some ⟨g, 0, none⟩))), (1, 12, .val (.pointer (some ⟨g, 0, none⟩))), (2, 13, .val (.pointer (some ⟨g, 4, none⟩))), (3, 14, .val (.int .i64 (((1 : Nat) : Int)))), (4, 15, .val (.bool true))] [⟨g, none, none, (), 6, upd (rpC ⟨safe, waits, true, acts, 1, keep⟩) 3 (.i .i64 (((acts + 1 : Nat) : Int))), upd (rpC ⟨safe, waits, true, acts, 1, keep⟩) 3 (.i .i64 (((acts + 1 : Nat) : Int))), 51⟩] rfl (by rfl) HH2 rfl rfl hLo rfl HS2 (slS 0 rfl rfl (slS 1 rfl rfl (slL 4 (d := 4) rfl (trivial)))) ?_ ?_
  · show ∀ i ∈ [0, 1, 2, 3, 4], _
    refine steps_cons (st_run 0 _ rfl rfl hLo rfl rfl (fun _ _ _ _ => rfl) (fun b G w hb ho => exec_move (.inl rfl) (ev_off rfl (HS2.get 0 rfl)))) ?_
    refine steps_cons (st_run 1 _ rfl rfl hLo rfl rfl (fun _ _ _ _ => rfl) (fun b G w hb ho => exec_nil rfl (ev_on hLo 0 rfl HS2.1 rfl (hb 0 (by rfl))))) ?_
    refine steps_cons (st_run 2 _ rfl rfl hLo rfl rfl (fun _ _ _ _ => rfl) (fun b G w hb ho => exec_field rfl (ev_on hLo 1 rfl HS2.1 rfl (hb 1 (by rfl))) (by kernel_rfl))) ?_
    refine steps_cons (st_read 3 0 _ _ rfl rfl rfl hLo rfl rfl (fun _ _ _ _ => rfl) (by rfl) (by rfl) (fun b G w hb ho hr => exec_cell hr (Nat.le_of_ble_eq_true rfl) Try.underlying3 rfl rfl (ev_on hLo 2 rfl HS2.1 rfl (hb 2 (by rfl))))) ?_
    refine steps_cons (st_run 4 _ rfl rfl hLo rfl rfl (fun _ _ _ _ => rfl) (fun b G w hb ho => exec_bin rfl (ev_on hLo 3 rfl HS2.1 rfl (hb 3 (by rfl))) (rfl) (rb_eql (rfl) _ _ _))) ?_
    exact steps_nil
  clear hLo
  intro G a3 w3 hS hH
  have HS3 : Sl a3 35 [(0, .pointer (some ⟨g, 0, none⟩)), (2, .bool false), (15, .bool true)] := hS
  have HH3 : Held ⟨w, [g]⟩ w3 [⟨g, (), 6, upd (rpC ⟨safe, waits, true, acts, 1, keep⟩) 3 (.i .i64 (((acts + 1 : Nat) : Int))), 51⟩] := hH
  clear hS hH HS2 HH2
  refine then_ ?_
  refine wp_cond_true (HS3.get 2 rfl) ?_
  refine wp_seq ?_
  have hLo : LOk [(0, 16, .val (.pointer (some ⟨g, 0, none⟩))), (1, 17, .val (.pointer (some ⟨g, 0, none⟩))), (2, 18, .val (.pointer (some ⟨g, 0, none⟩))), (3, 19, .val (.pointer (some ⟨g, 5, none⟩))), (4, 20, .val (.int .i64 (keep))), (5, 21, .val (.tuple #[]))] := lok (by rfl) (by rfl)
  refine plain_ (wE := ⟨w, [g]⟩) (sz := 35) (n := 6) [0, 1, 3, 7, 15, 31] [(0, .val (.pointer (some ⟨g, 0, none⟩))), (2, .val (.bool false)), (15, .val (.bool true))] [(0, 16, .val (.pointer (some ⟨g, 0, none⟩))), (1, 17, .val (.pointer (some ⟨g, 0, none⟩))), (2, 18, .val (.pointer (some ⟨g, 0, none⟩))), (3, 19, .val (.pointer (some ⟨g, 5, none⟩))), (4, 20, .val (.int .i64 (keep))), (5, 21, .val (.tuple #[]))] [⟨g, none, some 5, (), 6, upd (rpC ⟨safe, waits, true, acts, 1, keep⟩) 3 (.i .i64 (((acts + 1 : Nat) : Int))), rpC ⟨(safe ++ waits.extract 0 (kp keep waits.size)), ByteArray.empty, false, acts + 1, 0, keep⟩, 51⟩] rfl (by rfl) HH3 rfl rfl hLo rfl HS3 (slS 0 rfl rfl (slS 1 rfl rfl (slS 2 rfl rfl (trivial)))) ?_ ?_
  · show ∀ i ∈ [0, 1, 2, 3, 4, 5], _
    refine steps_cons (st_run 0 _ rfl rfl hLo rfl rfl (fun _ _ _ _ => rfl) (fun b G w hb ho => exec_move (.inl rfl) (ev_off rfl (HS3.get 0 rfl)))) ?_
    refine steps_cons (st_run 1 _ rfl rfl hLo rfl rfl (fun _ _ _ _ => rfl) (fun b G w hb ho => exec_move (.inl rfl) (ev_off rfl (HS3.get 0 rfl)))) ?_
    refine steps_cons (st_run 2 _ rfl rfl hLo rfl rfl (fun _ _ _ _ => rfl) (fun b G w hb ho => exec_nil rfl (ev_on hLo 1 rfl HS3.1 rfl (hb 1 (by rfl))))) ?_
    refine steps_cons (st_run 3 _ rfl rfl hLo rfl rfl (fun _ _ _ _ => rfl) (fun b G w hb ho => exec_field rfl (ev_on hLo 2 rfl HS3.1 rfl (hb 2 (by rfl))) (by kernel_rfl))) ?_
    refine steps_cons (st_read 4 0 _ _ rfl rfl rfl hLo rfl rfl (fun _ _ _ _ => rfl) (by rfl) (by rfl) (fun b G w hb ho hr => exec_cell hr (Nat.le_of_ble_eq_true rfl) Try.underlying3 rfl rfl (ev_on hLo 3 rfl HS3.1 rfl (hb 3 (by rfl))))) ?_
    refine steps_cons (st_callM 5 0 _ _ (fun G => #[.pointer (some ⟨g, 0, none⟩), .int .i64 (keep)]) rfl rfl rfl rfl rfl (fun _ _ _ _ => rfl) hLo rfl (by rfl) (by rfl) (by rfl) Try.func27 rfl rfl (fun b G hb ho => args2 (ev_on hLo 0 rfl HS3.1 rfl (hb 0 (by rfl))) (ev_on hLo 4 rfl HS3.1 rfl (hb 4 (by rfl)))) (fun G w hw hr => roff_on (k := keep) (hr.norm (six ⟨rfl, rfl, rfl, rfl, rfl, rfl⟩)) hsw)) ?_
    exact steps_nil
  clear hLo
  intro G a4 w4 hS hH
  have HS4 : Sl a4 35 [(0, .pointer (some ⟨g, 0, none⟩)), (2, .bool false), (15, .bool true)] := hS
  have HH4 : Held ⟨w, [g]⟩ w4 [⟨g, (), 6, rpC ⟨(safe ++ waits.extract 0 (kp keep waits.size)), ByteArray.empty, false, acts + 1, 0, keep⟩, 51⟩] := hH
  clear hS hH HS3 HH3
  refine then_ ?_
  refine wp_seq ?_
  have hLo : LOk [(0, 2, .val (.bool true))] := lok (by rfl) (by rfl)
  refine plain_ (wE := ⟨w, [g]⟩) (sz := 35) (n := 1) [0] [(0, .val (.pointer (some ⟨g, 0, none⟩))), (15, .val (.bool true)), (2, .val (.bool true))] [(0, 2, .val (.bool true))] [⟨g, none, none, (), 6, rpC ⟨(safe ++ waits.extract 0 (kp keep waits.size)), ByteArray.empty, false, acts + 1, 0, keep⟩, rpC ⟨(safe ++ waits.extract 0 (kp keep waits.size)), ByteArray.empty, false, acts + 1, 0, keep⟩, 51⟩] rfl (by rfl) HH4 rfl rfl hLo rfl HS4 (slS 0 rfl rfl (slS 2 rfl rfl (slL 0 (d := 0) rfl (trivial)))) ?_ ?_
  · show ∀ i ∈ [0], _
    refine steps_cons (st_run 0 _ rfl rfl hLo rfl rfl (fun _ _ _ _ => rfl) (fun b G w hb ho => exec_move (.inr rfl) (rfl))) ?_
    exact steps_nil
  clear hLo
  intro G a5 w5 hS hH
  have HS5 : Sl a5 35 [(0, .pointer (some ⟨g, 0, none⟩)), (15, .bool true), (2, .bool true)] := hS
  have HH5 : Held ⟨w, [g]⟩ w5 [⟨g, (), 6, rpC ⟨(safe ++ waits.extract 0 (kp keep waits.size)), ByteArray.empty, false, acts + 1, 0, keep⟩, 51⟩] := hH
  clear hS hH HS4 HH4
  refine then_ ?_
  refine wp_ret ?_
  repeat (first | refine then_ret ?_ | refine inBlock_ret' ?_)
  exact b_tmp rfl HS5.2.1 (HS5.get 2 rfl) ⟨rfl, Row.norm (HH5.row 0 rfl) (six ⟨rfl, rfl, rfl, rfl, rfl, rfl⟩), HH5.1⟩
theorem ract_stays {w : World} {g : Nat} {safe waits : ByteArray} {acts inn : Nat} {keep : Int} (hr : Row w g () 6 (rpC ⟨safe, waits, true, acts, inn, keep⟩) 51) (hac : acts ≤ 1000000) (hin : inn < 9223372036854775808) (hi1 : inn ≠ 1) : Calls Try.prog 39 #[.pointer (some ⟨g, 0, none⟩)] w fun e w' => e = .returned (.bool false) ∧ Row w' g () 6 (rpC ⟨safe, waits, true, acts + 1, inn - 1, keep⟩) 51 ∧ Fr ⟨w, [g]⟩ w' := by
  refine enter_ 35 Try.func39 rfl rfl (fun a0 hS => ?_)
  have HS0 : Sl a0 35 [(0, .pointer (some ⟨g, 0, none⟩))] := hS
  have HH0 : Held ⟨w, [g]⟩ w [⟨g, (), 6, rpC ⟨safe, waits, true, acts, inn, keep⟩, 51⟩] := Held.one hr
  clear hS
  refine wp_seq ?_
  have hLo : LOk [(0, 2, .val (.bool false))] := lok (by rfl) (by rfl)
  refine plain_ (wE := ⟨w, [g]⟩) (sz := 35) (n := 1) [0] [(0, .val (.pointer (some ⟨g, 0, none⟩))), (2, .val (.bool false))] [(0, 2, .val (.bool false))] [⟨g, none, none, (), 6, rpC ⟨safe, waits, true, acts, inn, keep⟩, rpC ⟨safe, waits, true, acts, inn, keep⟩, 51⟩] rfl (by rfl) HH0 rfl rfl hLo rfl HS0 (slS 0 rfl rfl (slL 0 (d := 0) rfl (trivial))) ?_ ?_
  · show ∀ i ∈ [0], _
    refine steps_cons (st_run 0 _ rfl rfl hLo rfl rfl (fun _ _ _ _ => rfl) (fun b G w hb ho => exec_move (.inr rfl) (rfl))) ?_
    exact steps_nil
  clear hLo
  intro G a1 w1 hS hH
  have HS1 : Sl a1 35 [(0, .pointer (some ⟨g, 0, none⟩)), (2, .bool false)] := hS
  have HH1 : Held ⟨w, [g]⟩ w1 [⟨g, (), 6, rpC ⟨safe, waits, true, acts, inn, keep⟩, 51⟩] := hH
  clear hS hH HS0 HH0
  refine then_ ?_
  refine wp_seq ?_
  have hLo : LOk [(0, 3, .val (.pointer (some ⟨g, 0, none⟩))), (1, 4, .val (.pointer (some ⟨g, 0, none⟩))), (2, 5, .val (.pointer (some ⟨g, 0, none⟩))), (3, 6, .val (.pointer (some ⟨g, 3, none⟩))), (4, 7, .val (.int .i64 (((acts : Nat) : Int)))), (5, 8, .val (.int .i64 (((acts + 1 : Nat) : Int)))), (6, 9, .val (.pointer (some ⟨g, 0, none⟩))), (7, 10, .val (.pointer (some ⟨g, 3, none⟩)))] := lok (by rfl) (by rfl)
  refine plain_ (wE := ⟨w, [g]⟩) (sz := 35) (n := 9) [0, 1, 3, 7, 15, 31, 63, 127, 255] [(0, .val (.pointer (some ⟨g, 0, none⟩))), (2, .val (.bool false))] [(0, 3, .val (.pointer (some ⟨g, 0, none⟩))), (1, 4, .val (.pointer (some ⟨g, 0, none⟩))), (2, 5, .val (.pointer (some ⟨g, 0, none⟩))), (3, 6, .val (.pointer (some ⟨g, 3, none⟩))), (4, 7, .val (.int .i64 (((acts : Nat) : Int)))), (5, 8, .val (.int .i64 (((acts + 1 : Nat) : Int)))), (6, 9, .val (.pointer (some ⟨g, 0, none⟩))), (7, 10, .val (.pointer (some ⟨g, 3, none⟩)))] [⟨g, none, some 8, (), 6, rpC ⟨safe, waits, true, acts, inn, keep⟩, upd (rpC ⟨safe, waits, true, acts, inn, keep⟩) 3 (.i .i64 (((acts + 1 : Nat) : Int))), 51⟩] rfl (by rfl) HH1 rfl rfl hLo rfl HS1 (slS 0 rfl rfl (slS 1 rfl rfl (trivial))) ?_ ?_
  · show ∀ i ∈ [0, 1, 2, 3, 4, 5, 6, 7, 8], _
    refine steps_cons (st_run 0 _ rfl rfl hLo rfl rfl (fun _ _ _ _ => rfl) (fun b G w hb ho => exec_move (.inl rfl) (ev_off rfl (HS1.get 0 rfl)))) ?_
    refine steps_cons (st_run 1 _ rfl rfl hLo rfl rfl (fun _ _ _ _ => rfl) (fun b G w hb ho => exec_move (.inl rfl) (ev_off rfl (HS1.get 0 rfl)))) ?_
    refine steps_cons (st_run 2 _ rfl rfl hLo rfl rfl (fun _ _ _ _ => rfl) (fun b G w hb ho => exec_nil rfl (ev_on hLo 1 rfl HS1.1 rfl (hb 1 (by rfl))))) ?_
    refine steps_cons (st_run 3 _ rfl rfl hLo rfl rfl (fun _ _ _ _ => rfl) (fun b G w hb ho => exec_field rfl (ev_on hLo 2 rfl HS1.1 rfl (hb 2 (by rfl))) (by kernel_rfl))) ?_
    refine steps_cons (st_read 4 0 _ _ rfl rfl rfl hLo rfl rfl (fun _ _ _ _ => rfl) (by rfl) (by rfl) (fun b G w hb ho hr => exec_cell hr (Nat.le_of_ble_eq_true rfl) Try.underlying3 rfl rfl (ev_on hLo 3 rfl HS1.1 rfl (hb 3 (by rfl))))) ?_
    refine steps_cons (st_run 5 _ rfl rfl hLo rfl rfl (fun _ _ _ _ => rfl) (fun b G w hb ho => exec_bin rfl (ev_on hLo 4 rfl HS1.1 rfl (hb 4 (by rfl))) (rfl) (rb_add (w_nat (by omega) (by omega)) _ _ _))) ?_
    refine steps_cons (st_run 6 _ rfl rfl hLo rfl rfl (fun _ _ _ _ => rfl) (fun b G w hb ho => exec_nil rfl (ev_on hLo 0 rfl HS1.1 rfl (hb 0 (by rfl))))) ?_
    refine steps_cons (st_run 7 _ rfl rfl hLo rfl rfl (fun _ _ _ _ => rfl) (fun b G w hb ho => exec_field rfl (ev_on hLo 6 rfl HS1.1 rfl (hb 6 (by rfl))) (by kernel_rfl))) ?_
    refine steps_cons (st_put 0 _ rfl rfl rfl rfl (fun _ _ _ _ => rfl) rfl rfl rfl (by rfl) (fun b G w hb ho hr => exec_put1 hr (Nat.le_of_ble_eq_true rfl) (by kernel_rfl) rfl (ev_on hLo 7 rfl HS1.1 rfl (hb 7 (by rfl))) (ev_on hLo 5 rfl HS1.1 rfl (hb 5 (by rfl))))) ?_
    exact steps_nil
  clear hLo
  intro G a2 w2 hS hH
  have HS2 : Sl a2 35 [(0, .pointer (some ⟨g, 0, none⟩)), (2, .bool false)] := hS
  have HH2 : Held ⟨w, [g]⟩ w2 [⟨g, (), 6, upd (rpC ⟨safe, waits, true, acts, inn, keep⟩) 3 (.i .i64 (((acts + 1 : Nat) : Int))), 51⟩] := hH
  clear hS hH HS1 HH1
  refine then_ ?_
  refine wp_seq ?_
  refine wp_seq ?_
  have hLo : LOk [(0, 11, .val (.pointer (some ⟨g, 0, none⟩))), (1, 12, .val (.pointer (some ⟨g, 0, none⟩))), (2, 13, .val (.pointer (some ⟨g, 4, none⟩))), (3, 14, .val (.int .i64 (((inn : Nat) : Int)))), (4, 15, .val (.bool false))] := lok (by rfl) (by rfl)
  refine plain_ (wE := ⟨w, [g]⟩) (sz := 35) (n := 5) [0, 1, 3, 7, 15] [(0, .val (.pointer (some ⟨g, 0, none⟩))), (2, .val (.bool false)), (15, .val (.bool false))] [(0, 11, .val (.pointer (some ⟨g, 0, none⟩))), (1, 12, .val (.pointer (some ⟨g, 0, none⟩))), (2, 13, .val (.pointer (some ⟨g, 4, none⟩))), (3, 14, .val (.int .i64 (((inn : Nat) : Int)))), (4, 15, .val (.bool false))] [⟨g, none, none, (), 6, upd (rpC ⟨safe, waits, true, acts, inn, keep⟩) 3 (.i .i64 (((acts + 1 : Nat) : Int))), upd (rpC ⟨safe, waits, true, acts, inn, keep⟩) 3 (.i .i64 (((acts + 1 : Nat) : Int))), 51⟩] rfl (by rfl) HH2 rfl rfl hLo rfl HS2 (slS 0 rfl rfl (slS 1 rfl rfl (slL 4 (d := 4) rfl (trivial)))) ?_ ?_
  · show ∀ i ∈ [0, 1, 2, 3, 4], _
    refine steps_cons (st_run 0 _ rfl rfl hLo rfl rfl (fun _ _ _ _ => rfl) (fun b G w hb ho => exec_move (.inl rfl) (ev_off rfl (HS2.get 0 rfl)))) ?_
    refine steps_cons (st_run 1 _ rfl rfl hLo rfl rfl (fun _ _ _ _ => rfl) (fun b G w hb ho => exec_nil rfl (ev_on hLo 0 rfl HS2.1 rfl (hb 0 (by rfl))))) ?_
    refine steps_cons (st_run 2 _ rfl rfl hLo rfl rfl (fun _ _ _ _ => rfl) (fun b G w hb ho => exec_field rfl (ev_on hLo 1 rfl HS2.1 rfl (hb 1 (by rfl))) (by kernel_rfl))) ?_
    refine steps_cons (st_read 3 0 _ _ rfl rfl rfl hLo rfl rfl (fun _ _ _ _ => rfl) (by rfl) (by rfl) (fun b G w hb ho hr => exec_cell hr (Nat.le_of_ble_eq_true rfl) Try.underlying3 rfl rfl (ev_on hLo 2 rfl HS2.1 rfl (hb 2 (by rfl))))) ?_
    refine steps_cons (st_run 4 _ rfl rfl hLo rfl rfl (fun _ _ _ _ => rfl) (fun b G w hb ho => exec_bin rfl (ev_on hLo 3 rfl HS2.1 rfl (hb 3 (by rfl))) (rfl) (rb_eql (beq_eq_false_iff_ne.2 (by omega)) _ _ _))) ?_
    exact steps_nil
  clear hLo
  intro G a3 w3 hS hH
  have HS3 : Sl a3 35 [(0, .pointer (some ⟨g, 0, none⟩)), (2, .bool false), (15, .bool false)] := hS
  have HH3 : Held ⟨w, [g]⟩ w3 [⟨g, (), 6, upd (rpC ⟨safe, waits, true, acts, inn, keep⟩) 3 (.i .i64 (((acts + 1 : Nat) : Int))), 51⟩] := hH
  clear hS hH HS2 HH2
  refine then_ ?_
  refine wp_cond_false (HS3.get 2 rfl) ?_
  refine wp_skip ?_
  refine then_ ?_
  refine wp_seq ?_
  obtain ⟨r1, hr1⟩ : ∃ r : Bool, (decide ((1 : Int) < ((inn : Nat) : Int))) = r := ⟨_, rfl⟩
  refine wp_seq ?_
  have hLo : LOk [(0, 22, .val (.pointer (some ⟨g, 0, none⟩))), (1, 23, .val (.pointer (some ⟨g, 0, none⟩))), (2, 24, .val (.pointer (some ⟨g, 4, none⟩))), (3, 25, .val (.int .i64 (((inn : Nat) : Int)))), (4, 26, .val (.bool r1))] := lok (by rfl) (by rfl)
  refine plain_ (wE := ⟨w, [g]⟩) (sz := 35) (n := 5) [0, 1, 3, 7, 15] [(0, .val (.pointer (some ⟨g, 0, none⟩))), (2, .val (.bool false)), (15, .val (.bool false)), (26, .val (.bool r1))] [(0, 22, .val (.pointer (some ⟨g, 0, none⟩))), (1, 23, .val (.pointer (some ⟨g, 0, none⟩))), (2, 24, .val (.pointer (some ⟨g, 4, none⟩))), (3, 25, .val (.int .i64 (((inn : Nat) : Int)))), (4, 26, .val (.bool r1))] [⟨g, none, none, (), 6, upd (rpC ⟨safe, waits, true, acts, inn, keep⟩) 3 (.i .i64 (((acts + 1 : Nat) : Int))), upd (rpC ⟨safe, waits, true, acts, inn, keep⟩) 3 (.i .i64 (((acts + 1 : Nat) : Int))), 51⟩] rfl (by rfl) HH3 rfl rfl hLo rfl HS3 (slS 0 rfl rfl (slS 1 rfl rfl (slS 2 rfl rfl (slL 4 (d := 4) rfl (trivial))))) ?_ ?_
  · show ∀ i ∈ [0, 1, 2, 3, 4], _
    refine steps_cons (st_run 0 _ rfl rfl hLo rfl rfl (fun _ _ _ _ => rfl) (fun b G w hb ho => exec_move (.inl rfl) (ev_off rfl (HS3.get 0 rfl)))) ?_
    refine steps_cons (st_run 1 _ rfl rfl hLo rfl rfl (fun _ _ _ _ => rfl) (fun b G w hb ho => exec_nil rfl (ev_on hLo 0 rfl HS3.1 rfl (hb 0 (by rfl))))) ?_
    refine steps_cons (st_run 2 _ rfl rfl hLo rfl rfl (fun _ _ _ _ => rfl) (fun b G w hb ho => exec_field rfl (ev_on hLo 1 rfl HS3.1 rfl (hb 1 (by rfl))) (by kernel_rfl))) ?_
    refine steps_cons (st_read 3 0 _ _ rfl rfl rfl hLo rfl rfl (fun _ _ _ _ => rfl) (by rfl) (by rfl) (fun b G w hb ho hr => exec_cell hr (Nat.le_of_ble_eq_true rfl) Try.underlying3 rfl rfl (ev_on hLo 2 rfl HS3.1 rfl (hb 2 (by rfl))))) ?_
    refine steps_cons (st_run 4 _ rfl rfl hLo rfl rfl (fun _ _ _ _ => rfl) (fun b G w hb ho => exec_bin rfl (ev_on hLo 3 rfl HS3.1 rfl (hb 3 (by rfl))) (rfl) (rb_gtr hr1 _ _ _))) ?_
    exact steps_nil
  clear hLo
  intro G a4 w4 hS hH
  have HS4 : Sl a4 35 [(0, .pointer (some ⟨g, 0, none⟩)), (2, .bool false), (15, .bool false), (26, .bool r1)] := hS
  have HH4 : Held ⟨w, [g]⟩ w4 [⟨g, (), 6, upd (rpC ⟨safe, waits, true, acts, inn, keep⟩) 3 (.i .i64 (((acts + 1 : Nat) : Int))), 51⟩] := hH
  clear hS hH HS3 HH3
  refine then_ ?_
  cases r1
  · skip
    refine wp_cond_false (HS4.get 3 rfl) ?_
    refine wp_skip ?_
    refine then_ ?_
    refine wp_seq ?_
    have hLo : LOk [(0, 2, .val (.bool false))] := lok (by rfl) (by rfl)
    refine plain_ (wE := ⟨w, [g]⟩) (sz := 35) (n := 1) [0] [(0, .val (.pointer (some ⟨g, 0, none⟩))), (15, .val (.bool false)), (26, .val (.bool false)), (2, .val (.bool false))] [(0, 2, .val (.bool false))] [⟨g, none, none, (), 6, upd (rpC ⟨safe, waits, true, acts, inn, keep⟩) 3 (.i .i64 (((acts + 1 : Nat) : Int))), upd (rpC ⟨safe, waits, true, acts, inn, keep⟩) 3 (.i .i64 (((acts + 1 : Nat) : Int))), 51⟩] rfl (by rfl) HH4 rfl rfl hLo rfl HS4 (slS 0 rfl rfl (slS 2 rfl rfl (slS 3 rfl rfl (slL 0 (d := 0) rfl (trivial))))) ?_ ?_
    · show ∀ i ∈ [0], _
      refine steps_cons (st_run 0 _ rfl rfl hLo rfl rfl (fun _ _ _ _ => rfl) (fun b G w hb ho => exec_move (.inr rfl) (rfl))) ?_
      exact steps_nil
    clear hLo
    intro G a5 w5 hS hH
    have HS5 : Sl a5 35 [(0, .pointer (some ⟨g, 0, none⟩)), (15, .bool false), (26, .bool false), (2, .bool false)] := hS
    have HH5 : Held ⟨w, [g]⟩ w5 [⟨g, (), 6, upd (rpC ⟨safe, waits, true, acts, inn, keep⟩) 3 (.i .i64 (((acts + 1 : Nat) : Int))), 51⟩] := hH
    clear hS hH HS4 HH4
    refine then_ ?_
    refine wp_ret ?_
    repeat (first | refine then_ret ?_ | refine inBlock_ret' ?_)
    exact b_tmp rfl HS5.2.1 (HS5.get 3 rfl) ⟨rfl, Row.norm (HH5.row 0 rfl) (six ⟨rfl, rfl, rfl, rfl, by first | rfl | exact congrArg (fun n : Nat => SC.i .i64 (n : Int)) (show inn = inn - 1 by have := of_decide_eq_false hr1; omega), rfl⟩), HH5.1⟩
  · skip
    refine wp_cond_true (HS4.get 3 rfl) ?_
    have hLo : LOk [(0, 27, .val (.pointer (some ⟨g, 0, none⟩))), (1, 28, .val (.pointer (some ⟨g, 0, none⟩))), (2, 29, .val (.pointer (some ⟨g, 0, none⟩))), (3, 30, .val (.pointer (some ⟨g, 4, none⟩))), (4, 31, .val (.int .i64 (((inn : Nat) : Int)))), (5, 32, .val (.int .i64 (((inn - 1 : Nat) : Int)))), (6, 33, .val (.pointer (some ⟨g, 0, none⟩))), (7, 34, .val (.pointer (some ⟨g, 4, none⟩)))] := lok (by rfl) (by rfl)
    refine plain_ (wE := ⟨w, [g]⟩) (sz := 35) (n := 9) [0, 1, 3, 7, 15, 31, 63, 127, 255] [(0, .val (.pointer (some ⟨g, 0, none⟩))), (2, .val (.bool false)), (15, .val (.bool false)), (26, .val (.bool true))] [(0, 27, .val (.pointer (some ⟨g, 0, none⟩))), (1, 28, .val (.pointer (some ⟨g, 0, none⟩))), (2, 29, .val (.pointer (some ⟨g, 0, none⟩))), (3, 30, .val (.pointer (some ⟨g, 4, none⟩))), (4, 31, .val (.int .i64 (((inn : Nat) : Int)))), (5, 32, .val (.int .i64 (((inn - 1 : Nat) : Int)))), (6, 33, .val (.pointer (some ⟨g, 0, none⟩))), (7, 34, .val (.pointer (some ⟨g, 4, none⟩)))] [⟨g, none, some 8, (), 6, upd (rpC ⟨safe, waits, true, acts, inn, keep⟩) 3 (.i .i64 (((acts + 1 : Nat) : Int))), upd (upd (rpC ⟨safe, waits, true, acts, inn, keep⟩) 3 (.i .i64 (((acts + 1 : Nat) : Int)))) 4 (.i .i64 (((inn - 1 : Nat) : Int))), 51⟩] rfl (by rfl) HH4 rfl rfl hLo rfl HS4 (slS 0 rfl rfl (slS 1 rfl rfl (slS 2 rfl rfl (slS 3 rfl rfl (trivial))))) ?_ ?_
    · show ∀ i ∈ [0, 1, 2, 3, 4, 5, 6, 7, 8], _
      refine steps_cons (st_run 0 _ rfl rfl hLo rfl rfl (fun _ _ _ _ => rfl) (fun b G w hb ho => exec_move (.inl rfl) (ev_off rfl (HS4.get 0 rfl)))) ?_
      refine steps_cons (st_run 1 _ rfl rfl hLo rfl rfl (fun _ _ _ _ => rfl) (fun b G w hb ho => exec_move (.inl rfl) (ev_off rfl (HS4.get 0 rfl)))) ?_
      refine steps_cons (st_run 2 _ rfl rfl hLo rfl rfl (fun _ _ _ _ => rfl) (fun b G w hb ho => exec_nil rfl (ev_on hLo 1 rfl HS4.1 rfl (hb 1 (by rfl))))) ?_
      refine steps_cons (st_run 3 _ rfl rfl hLo rfl rfl (fun _ _ _ _ => rfl) (fun b G w hb ho => exec_field rfl (ev_on hLo 2 rfl HS4.1 rfl (hb 2 (by rfl))) (by kernel_rfl))) ?_
      refine steps_cons (st_read 4 0 _ _ rfl rfl rfl hLo rfl rfl (fun _ _ _ _ => rfl) (by rfl) (by rfl) (fun b G w hb ho hr => exec_cell hr (Nat.le_of_ble_eq_true rfl) Try.underlying3 rfl rfl (ev_on hLo 3 rfl HS4.1 rfl (hb 3 (by rfl))))) ?_
      refine steps_cons (st_run 5 _ rfl rfl hLo rfl rfl (fun _ _ _ _ => rfl) (fun b G w hb ho => exec_bin rfl (ev_on hLo 4 rfl HS4.1 rfl (hb 4 (by rfl))) (rfl) (rb_sub (w_nat (by have := of_decide_eq_true hr1; omega) (by omega)) _ _ _))) ?_
      refine steps_cons (st_run 6 _ rfl rfl hLo rfl rfl (fun _ _ _ _ => rfl) (fun b G w hb ho => exec_nil rfl (ev_on hLo 0 rfl HS4.1 rfl (hb 0 (by rfl))))) ?_
      refine steps_cons (st_run 7 _ rfl rfl hLo rfl rfl (fun _ _ _ _ => rfl) (fun b G w hb ho => exec_field rfl (ev_on hLo 6 rfl HS4.1 rfl (hb 6 (by rfl))) (by kernel_rfl))) ?_
      refine steps_cons (st_put 0 _ rfl rfl rfl rfl (fun _ _ _ _ => rfl) rfl rfl rfl (by rfl) (fun b G w hb ho hr => exec_put1 hr (Nat.le_of_ble_eq_true rfl) (by kernel_rfl) rfl (ev_on hLo 7 rfl HS4.1 rfl (hb 7 (by rfl))) (ev_on hLo 5 rfl HS4.1 rfl (hb 5 (by rfl))))) ?_
      exact steps_nil
    clear hLo
    intro G a6 w6 hS hH
    have HS6 : Sl a6 35 [(0, .pointer (some ⟨g, 0, none⟩)), (2, .bool false), (15, .bool false), (26, .bool true)] := hS
    have HH6 : Held ⟨w, [g]⟩ w6 [⟨g, (), 6, upd (upd (rpC ⟨safe, waits, true, acts, inn, keep⟩) 3 (.i .i64 (((acts + 1 : Nat) : Int)))) 4 (.i .i64 (((inn - 1 : Nat) : Int))), 51⟩] := hH
    clear hS hH HS4 HH4
    refine then_ ?_
    refine wp_seq ?_
    have hLo : LOk [(0, 2, .val (.bool false))] := lok (by rfl) (by rfl)
    refine plain_ (wE := ⟨w, [g]⟩) (sz := 35) (n := 1) [0] [(0, .val (.pointer (some ⟨g, 0, none⟩))), (15, .val (.bool false)), (26, .val (.bool true)), (2, .val (.bool false))] [(0, 2, .val (.bool false))] [⟨g, none, none, (), 6, upd (upd (rpC ⟨safe, waits, true, acts, inn, keep⟩) 3 (.i .i64 (((acts + 1 : Nat) : Int)))) 4 (.i .i64 (((inn - 1 : Nat) : Int))), upd (upd (rpC ⟨safe, waits, true, acts, inn, keep⟩) 3 (.i .i64 (((acts + 1 : Nat) : Int)))) 4 (.i .i64 (((inn - 1 : Nat) : Int))), 51⟩] rfl (by rfl) HH6 rfl rfl hLo rfl HS6 (slS 0 rfl rfl (slS 2 rfl rfl (slS 3 rfl rfl (slL 0 (d := 0) rfl (trivial))))) ?_ ?_
    · show ∀ i ∈ [0], _
      refine steps_cons (st_run 0 _ rfl rfl hLo rfl rfl (fun _ _ _ _ => rfl) (fun b G w hb ho => exec_move (.inr rfl) (rfl))) ?_
      exact steps_nil
    clear hLo
    intro G a7 w7 hS hH
    have HS7 : Sl a7 35 [(0, .pointer (some ⟨g, 0, none⟩)), (15, .bool false), (26, .bool true), (2, .bool false)] := hS
    have HH7 : Held ⟨w, [g]⟩ w7 [⟨g, (), 6, upd (upd (rpC ⟨safe, waits, true, acts, inn, keep⟩) 3 (.i .i64 (((acts + 1 : Nat) : Int)))) 4 (.i .i64 (((inn - 1 : Nat) : Int))), 51⟩] := hH
    clear hS hH HS6 HH6
    refine then_ ?_
    refine wp_ret ?_
    repeat (first | refine then_ret ?_ | refine inBlock_ret' ?_)
    exact b_tmp rfl HS7.2.1 (HS7.get 3 rfl) ⟨rfl, Row.norm (HH7.row 0 rfl) (six ⟨rfl, rfl, rfl, rfl, by first | rfl | exact congrArg (fun n : Nat => SC.i .i64 (n : Int)) (show inn = inn - 1 by have := of_decide_eq_false hr1; omega), rfl⟩), HH7.1⟩
theorem rsync_off {w : World} {g : Nat} {safe waits : ByteArray} {acts inn : Nat} {keep : Int} (hr : Row w g () 6 (rpC ⟨safe, waits, false, acts, inn, keep⟩) 51) : Calls Try.prog 25 #[.pointer (some ⟨g, 0, none⟩)] w fun e w' => e = .returned (.int .i64 50) ∧ Row w' g () 6 (rpC ⟨safe, waits, false, acts, inn, keep⟩) 51 ∧ Fr ⟨w, [g]⟩ w' := by
  refine enter_ 27 Try.func25 rfl rfl (fun a0 hS => ?_)
  have HS0 : Sl a0 27 [(0, .pointer (some ⟨g, 0, none⟩))] := hS
  have HH0 : Held ⟨w, [g]⟩ w [⟨g, (), 6, rpC ⟨safe, waits, false, acts, inn, keep⟩, 51⟩] := Held.one hr
  clear hS
  refine wp_seq ?_
  have hLo : LOk [(0, 2, .val (.int .i64 (0)))] := lok (by rfl) (by rfl)
  refine plain_ (wE := ⟨w, [g]⟩) (sz := 27) (n := 1) [0] [(0, .val (.pointer (some ⟨g, 0, none⟩))), (2, .val (.int .i64 (0)))] [(0, 2, .val (.int .i64 (0)))] [⟨g, none, none, (), 6, rpC ⟨safe, waits, false, acts, inn, keep⟩, rpC ⟨safe, waits, false, acts, inn, keep⟩, 51⟩] rfl (by rfl) HH0 rfl rfl hLo rfl HS0 (slS 0 rfl rfl (slL 0 (d := 0) rfl (trivial))) ?_ ?_
  · show ∀ i ∈ [0], _
    refine steps_cons (st_run 0 _ rfl rfl hLo rfl rfl (fun _ _ _ _ => rfl) (fun b G w hb ho => exec_move (.inr rfl) (rfl))) ?_
    exact steps_nil
  clear hLo
  intro G a1 w1 hS hH
  have HS1 : Sl a1 27 [(0, .pointer (some ⟨g, 0, none⟩)), (2, .int .i64 (0))] := hS
  have HH1 : Held ⟨w, [g]⟩ w1 [⟨g, (), 6, rpC ⟨safe, waits, false, acts, inn, keep⟩, 51⟩] := hH
  clear hS hH HS0 HH0
  refine then_ ?_
  refine wp_seq ?_
  refine wp_seq ?_
  have hLo : LOk [(0, 3, .val (.pointer (some ⟨g, 0, none⟩))), (1, 4, .val (.pointer (some ⟨g, 0, none⟩))), (2, 5, .val (.pointer (some ⟨g, 2, none⟩))), (3, 6, .val (.bool false)), (4, 7, .val (.bool true)), (5, 8, .val (.bool true)), (6, 9, .val (undef)), (7, 10, .val (undef)), (8, 11, .val (.bool true))] := lok (by rfl) (by rfl)
  refine plain_ (wE := ⟨w, [g]⟩) (sz := 27) (n := 9) [0, 1, 3, 7, 15, 31, 63, 127, 255] [(0, .val (.pointer (some ⟨g, 0, none⟩))), (2, .val (.int .i64 (0))), (11, .val (.bool true))] [(0, 3, .val (.pointer (some ⟨g, 0, none⟩))), (1, 4, .val (.pointer (some ⟨g, 0, none⟩))), (2, 5, .val (.pointer (some ⟨g, 2, none⟩))), (3, 6, .val (.bool false)), (4, 7, .val (.bool true)), (5, 8, .val (.bool true)), (6, 9, .val (undef)), (7, 10, .val (undef)), (8, 11, .val (.bool true))] [⟨g, none, none, (), 6, rpC ⟨safe, waits, false, acts, inn, keep⟩, rpC ⟨safe, waits, false, acts, inn, keep⟩, 51⟩] rfl (by rfl) HH1 rfl rfl hLo rfl HS1 (slS 0 rfl rfl (slS 1 rfl rfl (slL 8 (d := 8) rfl (trivial)))) ?_ ?_
  · show ∀ i ∈ [0, 1, 2, 3, 4, 5, 6, 7, 8], _
    refine steps_cons (st_run 0 _ rfl rfl hLo rfl rfl (fun _ _ _ _ => rfl) (fun b G w hb ho => exec_move (.inl rfl) (ev_off rfl (HS1.get 0 rfl)))) ?_
    refine steps_cons (st_run 1 _ rfl rfl hLo rfl rfl (fun _ _ _ _ => rfl) (fun b G w hb ho => exec_nil rfl (ev_on hLo 0 rfl HS1.1 rfl (hb 0 (by rfl))))) ?_
    refine steps_cons (st_run 2 _ rfl rfl hLo rfl rfl (fun _ _ _ _ => rfl) (fun b G w hb ho => exec_field rfl (ev_on hLo 1 rfl HS1.1 rfl (hb 1 (by rfl))) (by kernel_rfl))) ?_
    refine steps_cons (st_read 3 0 _ _ rfl rfl rfl hLo rfl rfl (fun _ _ _ _ => rfl) (by rfl) (by rfl) (fun b G w hb ho hr => exec_cell hr (Nat.le_of_ble_eq_true rfl) Try.underlying4 rfl rfl (ev_on hLo 2 rfl HS1.1 rfl (hb 2 (by rfl))))) ?_
    refine steps_cons (st_run 4 _ rfl rfl hLo rfl rfl (fun _ _ _ _ => rfl) (fun b G w hb ho => exec_un rfl (ev_on hLo 3 rfl HS1.1 rfl (hb 3 (by rfl))) (ru_not _))) ?_
    refine steps_cons (st_run 5 _ rfl rfl hLo rfl rfl (fun _ _ _ _ => rfl) (fun b G w hb ho => exec_move (.inl rfl) (ev_on hLo 4 rfl HS1.1 rfl (hb 4 (by rfl))))) ?_
    refine steps_cons (st_skip 6 rfl rfl hLo rfl rfl (fun b G hb ho => wanted_is rfl rfl rfl HS1.1 rfl (ev_on hLo 5 rfl HS1.1 rfl (hb 5 (by rfl))) rfl)) ?_
    refine steps_cons (st_skip 7 rfl rfl hLo rfl rfl (fun b G hb ho => wanted_is rfl rfl rfl HS1.1 rfl (ev_on hLo 5 rfl HS1.1 rfl (hb 5 (by rfl))) rfl)) ?_
    refine steps_cons (st_run 8 _ rfl rfl hLo rfl rfl (fun _ _ _ _ => rfl) (fun b G w hb ho => exec_pick rfl (ev_on hLo 5 rfl HS1.1 rfl (hb 5 (by rfl))) (rfl))) ?_
    exact steps_nil
  clear hLo
  intro G a2 w2 hS hH
  have HS2 : Sl a2 27 [(0, .pointer (some ⟨g, 0, none⟩)), (2, .int .i64 (0)), (11, .bool true)] := hS
  have HH2 : Held ⟨w, [g]⟩ w2 [⟨g, (), 6, rpC ⟨safe, waits, false, acts, inn, keep⟩, 51⟩] := hH
  clear hS hH HS1 HH1
  refine then_ ?_
  refine wp_cond_true (HS2.get 2 rfl) ?_
  refine wp_seq ?_
  have hLo : LOk [(0, 2, .val (.int .i64 (50)))] := lok (by rfl) (by rfl)
  refine plain_ (wE := ⟨w, [g]⟩) (sz := 27) (n := 1) [0] [(0, .val (.pointer (some ⟨g, 0, none⟩))), (11, .val (.bool true)), (2, .val (.int .i64 (50)))] [(0, 2, .val (.int .i64 (50)))] [⟨g, none, none, (), 6, rpC ⟨safe, waits, false, acts, inn, keep⟩, rpC ⟨safe, waits, false, acts, inn, keep⟩, 51⟩] rfl (by rfl) HH2 rfl rfl hLo rfl HS2 (slS 0 rfl rfl (slS 2 rfl rfl (slL 0 (d := 0) rfl (trivial)))) ?_ ?_
  · show ∀ i ∈ [0], _
    refine steps_cons (st_run 0 _ rfl rfl hLo rfl rfl (fun _ _ _ _ => rfl) (fun b G w hb ho => exec_move (.inr rfl) (rfl))) ?_
    exact steps_nil
  clear hLo
  intro G a3 w3 hS hH
  have HS3 : Sl a3 27 [(0, .pointer (some ⟨g, 0, none⟩)), (11, .bool true), (2, .int .i64 (50))] := hS
  have HH3 : Held ⟨w, [g]⟩ w3 [⟨g, (), 6, rpC ⟨safe, waits, false, acts, inn, keep⟩, 51⟩] := hH
  clear hS hH HS2 HH2
  refine then_ ?_
  refine wp_ret ?_
  repeat (first | refine then_ret ?_ | refine inBlock_ret' ?_)
  exact b_tmp rfl HS3.2.1 (HS3.get 2 rfl) ⟨rfl, Row.norm (HH3.row 0 rfl) (six ⟨rfl, rfl, rfl, rfl, rfl, rfl⟩), HH3.1⟩
theorem rsync_goes {w : World} {g : Nat} {safe waits : ByteArray} {acts : Nat} {keep : Int} (hr : Row w g () 6 (rpC ⟨safe, waits, true, acts, 1, keep⟩) 51) (hsw : safe.size + waits.size ≤ 4194304) (hac : acts ≤ 1000000) : Calls Try.prog 25 #[.pointer (some ⟨g, 0, none⟩)] w fun e w' => e = .returned (.int .i64 50) ∧ Row w' g () 6 (rpC ⟨(safe ++ waits.extract 0 (kp keep waits.size)), ByteArray.empty, false, acts + 1, 0, keep⟩) 51 ∧ Fr ⟨w, [g]⟩ w' := by
  refine enter_ 27 Try.func25 rfl rfl (fun a0 hS => ?_)
  have HS0 : Sl a0 27 [(0, .pointer (some ⟨g, 0, none⟩))] := hS
  have HH0 : Held ⟨w, [g]⟩ w [⟨g, (), 6, rpC ⟨safe, waits, true, acts, 1, keep⟩, 51⟩] := Held.one hr
  clear hS
  refine wp_seq ?_
  have hLo : LOk [(0, 2, .val (.int .i64 (0)))] := lok (by rfl) (by rfl)
  refine plain_ (wE := ⟨w, [g]⟩) (sz := 27) (n := 1) [0] [(0, .val (.pointer (some ⟨g, 0, none⟩))), (2, .val (.int .i64 (0)))] [(0, 2, .val (.int .i64 (0)))] [⟨g, none, none, (), 6, rpC ⟨safe, waits, true, acts, 1, keep⟩, rpC ⟨safe, waits, true, acts, 1, keep⟩, 51⟩] rfl (by rfl) HH0 rfl rfl hLo rfl HS0 (slS 0 rfl rfl (slL 0 (d := 0) rfl (trivial))) ?_ ?_
  · show ∀ i ∈ [0], _
    refine steps_cons (st_run 0 _ rfl rfl hLo rfl rfl (fun _ _ _ _ => rfl) (fun b G w hb ho => exec_move (.inr rfl) (rfl))) ?_
    exact steps_nil
  clear hLo
  intro G a1 w1 hS hH
  have HS1 : Sl a1 27 [(0, .pointer (some ⟨g, 0, none⟩)), (2, .int .i64 (0))] := hS
  have HH1 : Held ⟨w, [g]⟩ w1 [⟨g, (), 6, rpC ⟨safe, waits, true, acts, 1, keep⟩, 51⟩] := hH
  clear hS hH HS0 HH0
  refine then_ ?_
  refine wp_seq ?_
  refine wp_seq ?_
  have hLo : LOk [(0, 3, .val (.pointer (some ⟨g, 0, none⟩))), (1, 4, .val (.pointer (some ⟨g, 0, none⟩))), (2, 5, .val (.pointer (some ⟨g, 2, none⟩))), (3, 6, .val (.bool true)), (4, 7, .val (.bool false)), (5, 8, .val (.bool false)), (6, 9, .val (.pointer (some ⟨g, 0, none⟩))), (7, 10, .val (.bool true)), (8, 11, .val (.bool true))] := lok (by rfl) (by rfl)
  refine plain_ (wE := ⟨w, [g]⟩) (sz := 27) (n := 9) [0, 1, 3, 7, 15, 31, 63, 127, 255] [(0, .val (.pointer (some ⟨g, 0, none⟩))), (2, .val (.int .i64 (0))), (11, .val (.bool true))] [(0, 3, .val (.pointer (some ⟨g, 0, none⟩))), (1, 4, .val (.pointer (some ⟨g, 0, none⟩))), (2, 5, .val (.pointer (some ⟨g, 2, none⟩))), (3, 6, .val (.bool true)), (4, 7, .val (.bool false)), (5, 8, .val (.bool false)), (6, 9, .val (.pointer (some ⟨g, 0, none⟩))), (7, 10, .val (.bool true)), (8, 11, .val (.bool true))] [⟨g, none, some 7, (), 6, rpC ⟨safe, waits, true, acts, 1, keep⟩, rpC ⟨(safe ++ waits.extract 0 (kp keep waits.size)), ByteArray.empty, false, acts + 1, 0, keep⟩, 51⟩] rfl (by rfl) HH1 rfl rfl hLo rfl HS1 (slS 0 rfl rfl (slS 1 rfl rfl (slL 8 (d := 8) rfl (trivial)))) ?_ ?_
  · show ∀ i ∈ [0, 1, 2, 3, 4, 5, 6, 7, 8], _
    refine steps_cons (st_run 0 _ rfl rfl hLo rfl rfl (fun _ _ _ _ => rfl) (fun b G w hb ho => exec_move (.inl rfl) (ev_off rfl (HS1.get 0 rfl)))) ?_
    refine steps_cons (st_run 1 _ rfl rfl hLo rfl rfl (fun _ _ _ _ => rfl) (fun b G w hb ho => exec_nil rfl (ev_on hLo 0 rfl HS1.1 rfl (hb 0 (by rfl))))) ?_
    refine steps_cons (st_run 2 _ rfl rfl hLo rfl rfl (fun _ _ _ _ => rfl) (fun b G w hb ho => exec_field rfl (ev_on hLo 1 rfl HS1.1 rfl (hb 1 (by rfl))) (by kernel_rfl))) ?_
    refine steps_cons (st_read 3 0 _ _ rfl rfl rfl hLo rfl rfl (fun _ _ _ _ => rfl) (by rfl) (by rfl) (fun b G w hb ho hr => exec_cell hr (Nat.le_of_ble_eq_true rfl) Try.underlying4 rfl rfl (ev_on hLo 2 rfl HS1.1 rfl (hb 2 (by rfl))))) ?_
    refine steps_cons (st_run 4 _ rfl rfl hLo rfl rfl (fun _ _ _ _ => rfl) (fun b G w hb ho => exec_un rfl (ev_on hLo 3 rfl HS1.1 rfl (hb 3 (by rfl))) (ru_not _))) ?_
    refine steps_cons (st_run 5 _ rfl rfl hLo rfl rfl (fun _ _ _ _ => rfl) (fun b G w hb ho => exec_move (.inl rfl) (ev_on hLo 4 rfl HS1.1 rfl (hb 4 (by rfl))))) ?_
    refine steps_cons (st_run 6 _ rfl rfl hLo rfl rfl (fun b G hb ho => wanted_is rfl rfl rfl HS1.1 rfl (ev_on hLo 5 rfl HS1.1 rfl (hb 5 (by rfl))) rfl) (fun b G w hb ho => exec_move (.inl rfl) (ev_off rfl (HS1.get 0 rfl)))) ?_
    refine steps_cons (st_callM 7 0 _ _ (fun G => #[.pointer (some ⟨g, 0, none⟩)]) rfl rfl rfl rfl rfl (fun b G hb ho => wanted_is rfl rfl rfl HS1.1 rfl (ev_on hLo 5 rfl HS1.1 rfl (hb 5 (by rfl))) rfl) hLo rfl (by rfl) (by rfl) (by rfl) Try.func39 rfl rfl (fun b G hb ho => args1 (ev_on hLo 6 rfl HS1.1 rfl (hb 6 (by rfl)))) (fun G w hw hr => ract_goes hr hsw hac)) ?_
    refine steps_cons (st_run 8 _ rfl rfl hLo rfl rfl (fun _ _ _ _ => rfl) (fun b G w hb ho => exec_pick rfl (ev_on hLo 5 rfl HS1.1 rfl (hb 5 (by rfl))) (ev_on hLo 7 rfl HS1.1 rfl (hb 7 (by rfl))))) ?_
    exact steps_nil
  clear hLo
  intro G a2 w2 hS hH
  have HS2 : Sl a2 27 [(0, .pointer (some ⟨g, 0, none⟩)), (2, .int .i64 (0)), (11, .bool true)] := hS
  have HH2 : Held ⟨w, [g]⟩ w2 [⟨g, (), 6, rpC ⟨(safe ++ waits.extract 0 (kp keep waits.size)), ByteArray.empty, false, acts + 1, 0, keep⟩, 51⟩] := hH
  clear hS hH HS1 HH1
  refine then_ ?_
  refine wp_cond_true (HS2.get 2 rfl) ?_
  refine wp_seq ?_
  have hLo : LOk [(0, 2, .val (.int .i64 (50)))] := lok (by rfl) (by rfl)
  refine plain_ (wE := ⟨w, [g]⟩) (sz := 27) (n := 1) [0] [(0, .val (.pointer (some ⟨g, 0, none⟩))), (11, .val (.bool true)), (2, .val (.int .i64 (50)))] [(0, 2, .val (.int .i64 (50)))] [⟨g, none, none, (), 6, rpC ⟨(safe ++ waits.extract 0 (kp keep waits.size)), ByteArray.empty, false, acts + 1, 0, keep⟩, rpC ⟨(safe ++ waits.extract 0 (kp keep waits.size)), ByteArray.empty, false, acts + 1, 0, keep⟩, 51⟩] rfl (by rfl) HH2 rfl rfl hLo rfl HS2 (slS 0 rfl rfl (slS 2 rfl rfl (slL 0 (d := 0) rfl (trivial)))) ?_ ?_
  · show ∀ i ∈ [0], _
    refine steps_cons (st_run 0 _ rfl rfl hLo rfl rfl (fun _ _ _ _ => rfl) (fun b G w hb ho => exec_move (.inr rfl) (rfl))) ?_
    exact steps_nil
  clear hLo
  intro G a3 w3 hS hH
  have HS3 : Sl a3 27 [(0, .pointer (some ⟨g, 0, none⟩)), (11, .bool true), (2, .int .i64 (50))] := hS
  have HH3 : Held ⟨w, [g]⟩ w3 [⟨g, (), 6, rpC ⟨(safe ++ waits.extract 0 (kp keep waits.size)), ByteArray.empty, false, acts + 1, 0, keep⟩, 51⟩] := hH
  clear hS hH HS2 HH2
  refine then_ ?_
  refine wp_ret ?_
  repeat (first | refine then_ret ?_ | refine inBlock_ret' ?_)
  exact b_tmp rfl HS3.2.1 (HS3.get 2 rfl) ⟨rfl, Row.norm (HH3.row 0 rfl) (six ⟨rfl, rfl, rfl, rfl, rfl, rfl⟩), HH3.1⟩
theorem rsync_stays {w : World} {g : Nat} {safe waits : ByteArray} {acts inn : Nat} {keep : Int} (hr : Row w g () 6 (rpC ⟨safe, waits, true, acts, inn, keep⟩) 51) (hsw : safe.size + waits.size ≤ 4194304) (hac : acts ≤ 1000000) (hin : inn < 9223372036854775808) (hi1 : inn ≠ 1) : Calls Try.prog 25 #[.pointer (some ⟨g, 0, none⟩)] w fun e w' => e = .returned (.int .i64 0) ∧ Row w' g () 6 (rpC ⟨(safe ++ waits), ByteArray.empty, true, acts + 1, inn - 1, keep⟩) 51 ∧ Fr ⟨w, [g]⟩ w' := by
  refine enter_ 27 Try.func25 rfl rfl (fun a0 hS => ?_)
  have HS0 : Sl a0 27 [(0, .pointer (some ⟨g, 0, none⟩))] := hS
  have HH0 : Held ⟨w, [g]⟩ w [⟨g, (), 6, rpC ⟨safe, waits, true, acts, inn, keep⟩, 51⟩] := Held.one hr
  clear hS
  refine wp_seq ?_
  have hLo : LOk [(0, 2, .val (.int .i64 (0)))] := lok (by rfl) (by rfl)
  refine plain_ (wE := ⟨w, [g]⟩) (sz := 27) (n := 1) [0] [(0, .val (.pointer (some ⟨g, 0, none⟩))), (2, .val (.int .i64 (0)))] [(0, 2, .val (.int .i64 (0)))] [⟨g, none, none, (), 6, rpC ⟨safe, waits, true, acts, inn, keep⟩, rpC ⟨safe, waits, true, acts, inn, keep⟩, 51⟩] rfl (by rfl) HH0 rfl rfl hLo rfl HS0 (slS 0 rfl rfl (slL 0 (d := 0) rfl (trivial))) ?_ ?_
  · show ∀ i ∈ [0], _
    refine steps_cons (st_run 0 _ rfl rfl hLo rfl rfl (fun _ _ _ _ => rfl) (fun b G w hb ho => exec_move (.inr rfl) (rfl))) ?_
    exact steps_nil
  clear hLo
  intro G a1 w1 hS hH
  have HS1 : Sl a1 27 [(0, .pointer (some ⟨g, 0, none⟩)), (2, .int .i64 (0))] := hS
  have HH1 : Held ⟨w, [g]⟩ w1 [⟨g, (), 6, rpC ⟨safe, waits, true, acts, inn, keep⟩, 51⟩] := hH
  clear hS hH HS0 HH0
  refine then_ ?_
  refine wp_seq ?_
  refine wp_seq ?_
  have hLo : LOk [(0, 3, .val (.pointer (some ⟨g, 0, none⟩))), (1, 4, .val (.pointer (some ⟨g, 0, none⟩))), (2, 5, .val (.pointer (some ⟨g, 2, none⟩))), (3, 6, .val (.bool true)), (4, 7, .val (.bool false)), (5, 8, .val (.bool false)), (6, 9, .val (.pointer (some ⟨g, 0, none⟩))), (7, 10, .val (.bool false)), (8, 11, .val (.bool false))] := lok (by rfl) (by rfl)
  refine plain_ (wE := ⟨w, [g]⟩) (sz := 27) (n := 9) [0, 1, 3, 7, 15, 31, 63, 127, 255] [(0, .val (.pointer (some ⟨g, 0, none⟩))), (2, .val (.int .i64 (0))), (11, .val (.bool false))] [(0, 3, .val (.pointer (some ⟨g, 0, none⟩))), (1, 4, .val (.pointer (some ⟨g, 0, none⟩))), (2, 5, .val (.pointer (some ⟨g, 2, none⟩))), (3, 6, .val (.bool true)), (4, 7, .val (.bool false)), (5, 8, .val (.bool false)), (6, 9, .val (.pointer (some ⟨g, 0, none⟩))), (7, 10, .val (.bool false)), (8, 11, .val (.bool false))] [⟨g, none, some 7, (), 6, rpC ⟨safe, waits, true, acts, inn, keep⟩, rpC ⟨safe, waits, true, acts + 1, inn - 1, keep⟩, 51⟩] rfl (by rfl) HH1 rfl rfl hLo rfl HS1 (slS 0 rfl rfl (slS 1 rfl rfl (slL 8 (d := 8) rfl (trivial)))) ?_ ?_
  · show ∀ i ∈ [0, 1, 2, 3, 4, 5, 6, 7, 8], _
    refine steps_cons (st_run 0 _ rfl rfl hLo rfl rfl (fun _ _ _ _ => rfl) (fun b G w hb ho => exec_move (.inl rfl) (ev_off rfl (HS1.get 0 rfl)))) ?_
    refine steps_cons (st_run 1 _ rfl rfl hLo rfl rfl (fun _ _ _ _ => rfl) (fun b G w hb ho => exec_nil rfl (ev_on hLo 0 rfl HS1.1 rfl (hb 0 (by rfl))))) ?_
    refine steps_cons (st_run 2 _ rfl rfl hLo rfl rfl (fun _ _ _ _ => rfl) (fun b G w hb ho => exec_field rfl (ev_on hLo 1 rfl HS1.1 rfl (hb 1 (by rfl))) (by kernel_rfl))) ?_
    refine steps_cons (st_read 3 0 _ _ rfl rfl rfl hLo rfl rfl (fun _ _ _ _ => rfl) (by rfl) (by rfl) (fun b G w hb ho hr => exec_cell hr (Nat.le_of_ble_eq_true rfl) Try.underlying4 rfl rfl (ev_on hLo 2 rfl HS1.1 rfl (hb 2 (by rfl))))) ?_
    refine steps_cons (st_run 4 _ rfl rfl hLo rfl rfl (fun _ _ _ _ => rfl) (fun b G w hb ho => exec_un rfl (ev_on hLo 3 rfl HS1.1 rfl (hb 3 (by rfl))) (ru_not _))) ?_
    refine steps_cons (st_run 5 _ rfl rfl hLo rfl rfl (fun _ _ _ _ => rfl) (fun b G w hb ho => exec_move (.inl rfl) (ev_on hLo 4 rfl HS1.1 rfl (hb 4 (by rfl))))) ?_
    refine steps_cons (st_run 6 _ rfl rfl hLo rfl rfl (fun b G hb ho => wanted_is rfl rfl rfl HS1.1 rfl (ev_on hLo 5 rfl HS1.1 rfl (hb 5 (by rfl))) rfl) (fun b G w hb ho => exec_move (.inl rfl) (ev_off rfl (HS1.get 0 rfl)))) ?_
    refine steps_cons (st_callM 7 0 _ _ (fun G => #[.pointer (some ⟨g, 0, none⟩)]) rfl rfl rfl rfl rfl (fun b G hb ho => wanted_is rfl rfl rfl HS1.1 rfl (ev_on hLo 5 rfl HS1.1 rfl (hb 5 (by rfl))) rfl) hLo rfl (by rfl) (by rfl) (by rfl) Try.func39 rfl rfl (fun b G hb ho => args1 (ev_on hLo 6 rfl HS1.1 rfl (hb 6 (by rfl)))) (fun G w hw hr => ract_stays hr hac hin hi1)) ?_
    refine steps_cons (st_run 8 _ rfl rfl hLo rfl rfl (fun _ _ _ _ => rfl) (fun b G w hb ho => exec_pick rfl (ev_on hLo 5 rfl HS1.1 rfl (hb 5 (by rfl))) (ev_on hLo 7 rfl HS1.1 rfl (hb 7 (by rfl))))) ?_
    exact steps_nil
  clear hLo
  intro G a2 w2 hS hH
  have HS2 : Sl a2 27 [(0, .pointer (some ⟨g, 0, none⟩)), (2, .int .i64 (0)), (11, .bool false)] := hS
  have HH2 : Held ⟨w, [g]⟩ w2 [⟨g, (), 6, rpC ⟨safe, waits, true, acts + 1, inn - 1, keep⟩, 51⟩] := hH
  clear hS hH HS1 HH1
  refine then_ ?_
  refine wp_cond_false (HS2.get 2 rfl) ?_
  refine wp_skip ?_
  refine then_ ?_
  refine wp_seq ?_
  have hLo : LOk [(0, 12, .val (.pointer (some ⟨g, 0, none⟩))), (1, 13, .val (.pointer (some ⟨g, 0, none⟩))), (2, 14, .val (.pointer (some ⟨g, 0, none⟩))), (3, 15, .val (.pointer (some ⟨g, 0, none⟩))), (4, 16, .val (.string (safe))), (5, 17, .val (.pointer (some ⟨g, 0, none⟩))), (6, 18, .val (.pointer (some ⟨g, 0, none⟩))), (7, 19, .val (.pointer (some ⟨g, 1, none⟩))), (8, 20, .val (.string (waits))), (9, 21, .val (.string ((safe) ++ (waits)))), (10, 22, .val (.pointer (some ⟨g, 0, none⟩))), (11, 23, .val (.pointer (some ⟨g, 0, none⟩)))] := lok (by rfl) (by rfl)
  refine region_ (wE := ⟨w, [g]⟩) (sz := 27) (n := 13) (B := [0, 0, 2, 6, 14, 0, 32, 96, 224, 510, 1023, 2047, 4095]) [0, 1, 2, 3, 4, 5, 6, 7, 8, 9, 10, 11, 12] [(0, .val (.pointer (some ⟨g, 0, none⟩))), (2, .val (.int .i64 (0))), (11, .val (.bool false))] [(0, 12, .val (.pointer (some ⟨g, 0, none⟩))), (1, 13, .val (.pointer (some ⟨g, 0, none⟩))), (2, 14, .val (.pointer (some ⟨g, 0, none⟩))), (3, 15, .val (.pointer (some ⟨g, 0, none⟩))), (4, 16, .val (.string (safe))), (5, 17, .val (.pointer (some ⟨g, 0, none⟩))), (6, 18, .val (.pointer (some ⟨g, 0, none⟩))), (7, 19, .val (.pointer (some ⟨g, 1, none⟩))), (8, 20, .val (.string (waits))), (9, 21, .val (.string ((safe) ++ (waits)))), (10, 22, .val (.pointer (some ⟨g, 0, none⟩))), (11, 23, .val (.pointer (some ⟨g, 0, none⟩)))] [⟨g, none, some 12, (), 6, rpC ⟨safe, waits, true, acts + 1, inn - 1, keep⟩, upd (rpC ⟨safe, waits, true, acts + 1, inn - 1, keep⟩) 0 (.s ((safe) ++ (waits))), 51⟩] (by rfl) rfl tabre3 bitsre3 (by kernel_rfl) (by kernel_rfl) HH2 rfl rfl hLo rfl HS2 (slS 0 rfl rfl (slS 1 rfl rfl (slS 2 rfl rfl (trivial)))) ?_ ?_
  · show ∀ i ∈ [0, 1, 2, 3, 4, 5, 6, 7, 8, 9, 10, 11, 12], _
    refine steps_cons (st_run 0 _ rfl rfl hLo rfl rfl (fun _ _ _ _ => rfl) (fun b G w hb ho => exec_move (.inl rfl) (ev_off rfl (HS2.get 0 rfl)))) ?_
    refine steps_cons (st_run 1 _ rfl rfl hLo rfl rfl (fun _ _ _ _ => rfl) (fun b G w hb ho => exec_move (.inl rfl) (ev_off rfl (HS2.get 0 rfl)))) ?_
    refine steps_cons (st_run 2 _ rfl rfl hLo rfl rfl (fun _ _ _ _ => rfl) (fun b G w hb ho => exec_nil rfl (ev_on hLo 1 rfl HS2.1 rfl (hb 1 (by rfl))))) ?_
    refine steps_cons (st_run 3 _ rfl rfl hLo rfl rfl (fun _ _ _ _ => rfl) (fun b G w hb ho => exec_field rfl (ev_on hLo 2 rfl HS2.1 rfl (hb 2 (by rfl))) (by kernel_rfl))) ?_
    refine steps_cons (st_read 4 0 _ _ rfl rfl rfl hLo rfl rfl (fun _ _ _ _ => rfl) (by rfl) (by rfl) (fun b G w hb ho hr => exec_cell hr (Nat.le_of_ble_eq_true rfl) Try.underlying9 rfl rfl (ev_on hLo 3 rfl HS2.1 rfl (hb 3 (by rfl))))) ?_
    refine steps_cons (st_run 5 _ rfl rfl hLo rfl rfl (fun _ _ _ _ => rfl) (fun b G w hb ho => exec_move (.inl rfl) (ev_off rfl (HS2.get 0 rfl)))) ?_
    refine steps_cons (st_run 6 _ rfl rfl hLo rfl rfl (fun _ _ _ _ => rfl) (fun b G w hb ho => exec_nil rfl (ev_on hLo 5 rfl HS2.1 rfl (hb 5 (by rfl))))) ?_
    refine steps_cons (st_run 7 _ rfl rfl hLo rfl rfl (fun _ _ _ _ => rfl) (fun b G w hb ho => exec_field rfl (ev_on hLo 6 rfl HS2.1 rfl (hb 6 (by rfl))) (by kernel_rfl))) ?_
    refine steps_cons (st_read 8 0 _ _ rfl rfl rfl hLo rfl rfl (fun _ _ _ _ => rfl) (by rfl) (by rfl) (fun b G w hb ho hr => exec_cell hr (Nat.le_of_ble_eq_true rfl) Try.underlying9 rfl rfl (ev_on hLo 7 rfl HS2.1 rfl (hb 7 (by rfl))))) ?_
    refine steps_cons (st_run 9 _ rfl rfl hLo rfl rfl (fun _ _ _ _ => rfl) (fun b G w hb ho => exec_bin rfl (ev_on hLo 4 rfl HS2.1 rfl (hb 4 (by rfl))) (ev_on hLo 8 rfl HS2.1 rfl (hb 8 (by rfl))) (rb_sadd ((by omega)) _ _ _))) ?_
    refine steps_cons (st_run 10 _ rfl rfl hLo rfl rfl (fun _ _ _ _ => rfl) (fun b G w hb ho => exec_nil rfl (ev_on hLo 0 rfl HS2.1 rfl (hb 0 (by rfl))))) ?_
    refine steps_cons (st_run 11 _ rfl rfl hLo rfl rfl (fun _ _ _ _ => rfl) (fun b G w hb ho => exec_field rfl (ev_on hLo 10 rfl HS2.1 rfl (hb 10 (by rfl))) (by kernel_rfl))) ?_
    refine steps_cons (st_put 0 _ rfl rfl rfl rfl (fun _ _ _ _ => rfl) rfl rfl rfl (by rfl) (fun b G w hb ho hr => exec_put1 hr (Nat.le_of_ble_eq_true rfl) (by kernel_rfl) rfl (ev_on hLo 11 rfl HS2.1 rfl (hb 11 (by rfl))) (ev_on hLo 9 rfl HS2.1 rfl (hb 9 (by rfl))))) ?_
    exact steps_nil
  clear hLo
  intro G a3 w3 hS hH
  have HS3 : Sl a3 27 [(0, .pointer (some ⟨g, 0, none⟩)), (2, .int .i64 (0)), (11, .bool false)] := hS
  have HH3 : Held ⟨w, [g]⟩ w3 [⟨g, (), 6, upd (rpC ⟨safe, waits, true, acts + 1, inn - 1, keep⟩) 0 (.s ((safe) ++ (waits))), 51⟩] := hH
  clear hS hH HS2 HH2
  refine then_ ?_
  refine wp_seq ?_
  have hLo : LOk [(0, 24, .val (.pointer (some ⟨g, 0, none⟩))), (1, 25, .val (.pointer (some ⟨g, 0, none⟩))), (2, 26, .val (.pointer (some ⟨g, 1, none⟩)))] := lok (by rfl) (by rfl)
  refine plain_ (wE := ⟨w, [g]⟩) (sz := 27) (n := 4) [0, 1, 3, 7] [(0, .val (.pointer (some ⟨g, 0, none⟩))), (2, .val (.int .i64 (0))), (11, .val (.bool false))] [(0, 24, .val (.pointer (some ⟨g, 0, none⟩))), (1, 25, .val (.pointer (some ⟨g, 0, none⟩))), (2, 26, .val (.pointer (some ⟨g, 1, none⟩)))] [⟨g, none, some 3, (), 6, upd (rpC ⟨safe, waits, true, acts + 1, inn - 1, keep⟩) 0 (.s ((safe) ++ (waits))), upd (upd (rpC ⟨safe, waits, true, acts + 1, inn - 1, keep⟩) 0 (.s ((safe) ++ (waits)))) 1 (.s (ByteArray.empty)), 51⟩] rfl (by rfl) HH3 rfl rfl hLo rfl HS3 (slS 0 rfl rfl (slS 1 rfl rfl (slS 2 rfl rfl (trivial)))) ?_ ?_
  · show ∀ i ∈ [0, 1, 2, 3], _
    refine steps_cons (st_run 0 _ rfl rfl hLo rfl rfl (fun _ _ _ _ => rfl) (fun b G w hb ho => exec_move (.inl rfl) (ev_off rfl (HS3.get 0 rfl)))) ?_
    refine steps_cons (st_run 1 _ rfl rfl hLo rfl rfl (fun _ _ _ _ => rfl) (fun b G w hb ho => exec_nil rfl (ev_on hLo 0 rfl HS3.1 rfl (hb 0 (by rfl))))) ?_
    refine steps_cons (st_run 2 _ rfl rfl hLo rfl rfl (fun _ _ _ _ => rfl) (fun b G w hb ho => exec_field rfl (ev_on hLo 1 rfl HS3.1 rfl (hb 1 (by rfl))) (by kernel_rfl))) ?_
    refine steps_cons (st_put 0 _ rfl rfl rfl rfl (fun _ _ _ _ => rfl) rfl rfl rfl (by rfl) (fun b G w hb ho hr => exec_put1 hr (Nat.le_of_ble_eq_true rfl) (by kernel_rfl) rfl (ev_on hLo 2 rfl HS3.1 rfl (hb 2 (by rfl))) (rfl))) ?_
    exact steps_nil
  clear hLo
  intro G a4 w4 hS hH
  have HS4 : Sl a4 27 [(0, .pointer (some ⟨g, 0, none⟩)), (2, .int .i64 (0)), (11, .bool false)] := hS
  have HH4 : Held ⟨w, [g]⟩ w4 [⟨g, (), 6, upd (upd (rpC ⟨safe, waits, true, acts + 1, inn - 1, keep⟩) 0 (.s ((safe) ++ (waits)))) 1 (.s (ByteArray.empty)), 51⟩] := hH
  clear hS hH HS3 HH3
  refine then_ ?_
  refine wp_seq ?_
  have hLo : LOk [(0, 2, .val (.int .i64 (0)))] := lok (by rfl) (by rfl)
  refine plain_ (wE := ⟨w, [g]⟩) (sz := 27) (n := 1) [0] [(0, .val (.pointer (some ⟨g, 0, none⟩))), (11, .val (.bool false)), (2, .val (.int .i64 (0)))] [(0, 2, .val (.int .i64 (0)))] [⟨g, none, none, (), 6, upd (upd (rpC ⟨safe, waits, true, acts + 1, inn - 1, keep⟩) 0 (.s ((safe) ++ (waits)))) 1 (.s (ByteArray.empty)), upd (upd (rpC ⟨safe, waits, true, acts + 1, inn - 1, keep⟩) 0 (.s ((safe) ++ (waits)))) 1 (.s (ByteArray.empty)), 51⟩] rfl (by rfl) HH4 rfl rfl hLo rfl HS4 (slS 0 rfl rfl (slS 2 rfl rfl (slL 0 (d := 0) rfl (trivial)))) ?_ ?_
  · show ∀ i ∈ [0], _
    refine steps_cons (st_run 0 _ rfl rfl hLo rfl rfl (fun _ _ _ _ => rfl) (fun b G w hb ho => exec_move (.inr rfl) (rfl))) ?_
    exact steps_nil
  clear hLo
  intro G a5 w5 hS hH
  have HS5 : Sl a5 27 [(0, .pointer (some ⟨g, 0, none⟩)), (11, .bool false), (2, .int .i64 (0))] := hS
  have HH5 : Held ⟨w, [g]⟩ w5 [⟨g, (), 6, upd (upd (rpC ⟨safe, waits, true, acts + 1, inn - 1, keep⟩) 0 (.s ((safe) ++ (waits)))) 1 (.s (ByteArray.empty)), 51⟩] := hH
  clear hS hH HS4 HH4
  refine then_ ?_
  refine wp_ret ?_
  repeat (first | refine then_ret ?_ | refine inBlock_ret' ?_)
  exact b_tmp rfl HS5.2.1 (HS5.get 2 rfl) ⟨rfl, Row.norm (HH5.row 0 rfl) (six ⟨rfl, rfl, rfl, rfl, rfl, rfl⟩), HH5.1⟩
theorem rarm_calls {w : World} {g : Nat} {safe waits : ByteArray} {acts inn : Nat} {keep : Int} {power : Bool} {n k : Int} (hr : Row w g () 6 (rpC ⟨safe, waits, power, acts, inn, keep⟩) 51) : Calls Try.prog 28 #[.pointer (some ⟨g, 0, none⟩), .int .i64 (n), .int .i64 (k)] w fun e w' => e = .returned (.tuple #[]) ∧ Row w' g () 6 (rpC ⟨safe, waits, power, acts, n.toNat, k⟩) 51 ∧ Fr ⟨w, [g]⟩ w' := by
  refine enter_ 19 Try.func28 rfl rfl (fun a0 hS => ?_)
  have HS0 : Sl a0 19 [(0, .pointer (some ⟨g, 0, none⟩)), (1, .int .i64 (n)), (2, .int .i64 (k))] := hS
  have HH0 : Held ⟨w, [g]⟩ w [⟨g, (), 6, rpC ⟨safe, waits, power, acts, inn, keep⟩, 51⟩] := Held.one hr
  clear hS
  refine wp_seq ?_
  have hLo : LOk [(0, 6, .val (.pointer (some ⟨g, 0, none⟩))), (1, 7, .val (.int .i64 (k))), (2, 8, .val (.pointer (some ⟨g, 0, none⟩))), (3, 9, .val (.pointer (some ⟨g, 5, none⟩)))] := lok (by rfl) (by rfl)
  refine plain_ (wE := ⟨w, [g]⟩) (sz := 19) (n := 5) [0, 1, 3, 7, 15] [(0, .val (.pointer (some ⟨g, 0, none⟩))), (1, .val (.int .i64 (n))), (2, .val (.int .i64 (k)))] [(0, 6, .val (.pointer (some ⟨g, 0, none⟩))), (1, 7, .val (.int .i64 (k))), (2, 8, .val (.pointer (some ⟨g, 0, none⟩))), (3, 9, .val (.pointer (some ⟨g, 5, none⟩)))] [⟨g, none, some 4, (), 6, rpC ⟨safe, waits, power, acts, inn, keep⟩, upd (rpC ⟨safe, waits, power, acts, inn, keep⟩) 5 (.i .i64 (k)), 51⟩] rfl (by rfl) HH0 rfl rfl hLo rfl HS0 (slS 0 rfl rfl (slS 1 rfl rfl (slS 2 rfl rfl (trivial)))) ?_ ?_
  · show ∀ i ∈ [0, 1, 2, 3, 4], _
    refine steps_cons (st_run 0 _ rfl rfl hLo rfl rfl (fun _ _ _ _ => rfl) (fun b G w hb ho => exec_move (.inl rfl) (ev_off rfl (HS0.get 0 rfl)))) ?_
    refine steps_cons (st_run 1 _ rfl rfl hLo rfl rfl (fun _ _ _ _ => rfl) (fun b G w hb ho => exec_move (.inl rfl) (ev_off rfl (HS0.get 2 rfl)))) ?_
    refine steps_cons (st_run 2 _ rfl rfl hLo rfl rfl (fun _ _ _ _ => rfl) (fun b G w hb ho => exec_nil rfl (ev_on hLo 0 rfl HS0.1 rfl (hb 0 (by rfl))))) ?_
    refine steps_cons (st_run 3 _ rfl rfl hLo rfl rfl (fun _ _ _ _ => rfl) (fun b G w hb ho => exec_field rfl (ev_on hLo 2 rfl HS0.1 rfl (hb 2 (by rfl))) (by kernel_rfl))) ?_
    refine steps_cons (st_put 0 _ rfl rfl rfl rfl (fun _ _ _ _ => rfl) rfl rfl rfl (by rfl) (fun b G w hb ho hr => exec_put1 hr (Nat.le_of_ble_eq_true rfl) (by kernel_rfl) rfl (ev_on hLo 3 rfl HS0.1 rfl (hb 3 (by rfl))) (ev_on hLo 1 rfl HS0.1 rfl (hb 1 (by rfl))))) ?_
    exact steps_nil
  clear hLo
  intro G a1 w1 hS hH
  have HS1 : Sl a1 19 [(0, .pointer (some ⟨g, 0, none⟩)), (1, .int .i64 (n)), (2, .int .i64 (k))] := hS
  have HH1 : Held ⟨w, [g]⟩ w1 [⟨g, (), 6, upd (rpC ⟨safe, waits, power, acts, inn, keep⟩) 5 (.i .i64 (k)), 51⟩] := hH
  clear hS hH HS0 HH0
  refine then_ ?_
  refine wp_seq ?_
  have hLo : LOk [(0, 10, .val (.pointer (some ⟨g, 0, none⟩))), (1, 11, .val (.pointer (some ⟨g, 0, none⟩))), (2, 12, .val (.pointer (some ⟨g, 4, none⟩)))] := lok (by rfl) (by rfl)
  refine plain_ (wE := ⟨w, [g]⟩) (sz := 19) (n := 4) [0, 1, 3, 7] [(0, .val (.pointer (some ⟨g, 0, none⟩))), (1, .val (.int .i64 (n))), (2, .val (.int .i64 (k)))] [(0, 10, .val (.pointer (some ⟨g, 0, none⟩))), (1, 11, .val (.pointer (some ⟨g, 0, none⟩))), (2, 12, .val (.pointer (some ⟨g, 4, none⟩)))] [⟨g, none, some 3, (), 6, upd (rpC ⟨safe, waits, power, acts, inn, keep⟩) 5 (.i .i64 (k)), upd (upd (rpC ⟨safe, waits, power, acts, inn, keep⟩) 5 (.i .i64 (k))) 4 (.i .i64 (0)), 51⟩] rfl (by rfl) HH1 rfl rfl hLo rfl HS1 (slS 0 rfl rfl (slS 1 rfl rfl (slS 2 rfl rfl (trivial)))) ?_ ?_
  · show ∀ i ∈ [0, 1, 2, 3], _
    refine steps_cons (st_run 0 _ rfl rfl hLo rfl rfl (fun _ _ _ _ => rfl) (fun b G w hb ho => exec_move (.inl rfl) (ev_off rfl (HS1.get 0 rfl)))) ?_
    refine steps_cons (st_run 1 _ rfl rfl hLo rfl rfl (fun _ _ _ _ => rfl) (fun b G w hb ho => exec_nil rfl (ev_on hLo 0 rfl HS1.1 rfl (hb 0 (by rfl))))) ?_
    refine steps_cons (st_run 2 _ rfl rfl hLo rfl rfl (fun _ _ _ _ => rfl) (fun b G w hb ho => exec_field rfl (ev_on hLo 1 rfl HS1.1 rfl (hb 1 (by rfl))) (by kernel_rfl))) ?_
    refine steps_cons (st_put 0 _ rfl rfl rfl rfl (fun _ _ _ _ => rfl) rfl rfl rfl (by rfl) (fun b G w hb ho hr => exec_put1 hr (Nat.le_of_ble_eq_true rfl) (by kernel_rfl) rfl (ev_on hLo 2 rfl HS1.1 rfl (hb 2 (by rfl))) (rfl))) ?_
    exact steps_nil
  clear hLo
  intro G a2 w2 hS hH
  have HS2 : Sl a2 19 [(0, .pointer (some ⟨g, 0, none⟩)), (1, .int .i64 (n)), (2, .int .i64 (k))] := hS
  have HH2 : Held ⟨w, [g]⟩ w2 [⟨g, (), 6, upd (upd (rpC ⟨safe, waits, power, acts, inn, keep⟩) 5 (.i .i64 (k))) 4 (.i .i64 (0)), 51⟩] := hH
  clear hS hH HS1 HH1
  refine then_ ?_
  obtain ⟨r1, hr1⟩ : ∃ r : Bool, (decide ((0 : Int) < n)) = r := ⟨_, rfl⟩
  refine wp_seq ?_
  have hLo : LOk [(0, 13, .val (.int .i64 (n))), (1, 14, .val (.bool r1))] := lok (by rfl) (by rfl)
  refine plain_ (wE := ⟨w, [g]⟩) (sz := 19) (n := 2) [0, 1] [(0, .val (.pointer (some ⟨g, 0, none⟩))), (1, .val (.int .i64 (n))), (2, .val (.int .i64 (k))), (14, .val (.bool r1))] [(0, 13, .val (.int .i64 (n))), (1, 14, .val (.bool r1))] [⟨g, none, none, (), 6, upd (upd (rpC ⟨safe, waits, power, acts, inn, keep⟩) 5 (.i .i64 (k))) 4 (.i .i64 (0)), upd (upd (rpC ⟨safe, waits, power, acts, inn, keep⟩) 5 (.i .i64 (k))) 4 (.i .i64 (0)), 51⟩] rfl (by rfl) HH2 rfl rfl hLo rfl HS2 (slS 0 rfl rfl (slS 1 rfl rfl (slS 2 rfl rfl (slL 1 (d := 1) rfl (trivial))))) ?_ ?_
  · show ∀ i ∈ [0, 1], _
    refine steps_cons (st_run 0 _ rfl rfl hLo rfl rfl (fun _ _ _ _ => rfl) (fun b G w hb ho => exec_move (.inl rfl) (ev_off rfl (HS2.get 1 rfl)))) ?_
    refine steps_cons (st_run 1 _ rfl rfl hLo rfl rfl (fun _ _ _ _ => rfl) (fun b G w hb ho => exec_bin rfl (ev_on hLo 0 rfl HS2.1 rfl (hb 0 (by rfl))) (rfl) (rb_gtr hr1 _ _ _))) ?_
    exact steps_nil
  clear hLo
  intro G a3 w3 hS hH
  have HS3 : Sl a3 19 [(0, .pointer (some ⟨g, 0, none⟩)), (1, .int .i64 (n)), (2, .int .i64 (k)), (14, .bool r1)] := hS
  have HH3 : Held ⟨w, [g]⟩ w3 [⟨g, (), 6, upd (upd (rpC ⟨safe, waits, power, acts, inn, keep⟩) 5 (.i .i64 (k))) 4 (.i .i64 (0)), 51⟩] := hH
  clear hS hH HS2 HH2
  refine then_ ?_
  cases r1
  · skip
    refine wp_cond_false (HS3.get 3 rfl) ?_
    refine wp_skip ?_
    exact b_fall rfl HS3.2.1 ⟨rfl, Row.norm (HH3.row 0 rfl) (six ⟨rfl, rfl, rfl, rfl, congrArg (SC.i .i64) (show _ = ((n.toNat : Nat) : Int) by simp at hr1; omega), rfl⟩), HH3.1⟩
  · skip
    refine wp_cond_true (HS3.get 3 rfl) ?_
    have hLo : LOk [(0, 15, .val (.pointer (some ⟨g, 0, none⟩))), (1, 16, .val (.int .i64 (n))), (2, 17, .val (.pointer (some ⟨g, 0, none⟩))), (3, 18, .val (.pointer (some ⟨g, 4, none⟩)))] := lok (by rfl) (by rfl)
    refine plain_ (wE := ⟨w, [g]⟩) (sz := 19) (n := 5) [0, 1, 3, 7, 15] [(0, .val (.pointer (some ⟨g, 0, none⟩))), (1, .val (.int .i64 (n))), (2, .val (.int .i64 (k))), (14, .val (.bool true))] [(0, 15, .val (.pointer (some ⟨g, 0, none⟩))), (1, 16, .val (.int .i64 (n))), (2, 17, .val (.pointer (some ⟨g, 0, none⟩))), (3, 18, .val (.pointer (some ⟨g, 4, none⟩)))] [⟨g, none, some 4, (), 6, upd (upd (rpC ⟨safe, waits, power, acts, inn, keep⟩) 5 (.i .i64 (k))) 4 (.i .i64 (0)), upd (upd (upd (rpC ⟨safe, waits, power, acts, inn, keep⟩) 5 (.i .i64 (k))) 4 (.i .i64 (0))) 4 (.i .i64 (n)), 51⟩] rfl (by rfl) HH3 rfl rfl hLo rfl HS3 (slS 0 rfl rfl (slS 1 rfl rfl (slS 2 rfl rfl (slS 3 rfl rfl (trivial))))) ?_ ?_
    · show ∀ i ∈ [0, 1, 2, 3, 4], _
      refine steps_cons (st_run 0 _ rfl rfl hLo rfl rfl (fun _ _ _ _ => rfl) (fun b G w hb ho => exec_move (.inl rfl) (ev_off rfl (HS3.get 0 rfl)))) ?_
      refine steps_cons (st_run 1 _ rfl rfl hLo rfl rfl (fun _ _ _ _ => rfl) (fun b G w hb ho => exec_move (.inl rfl) (ev_off rfl (HS3.get 1 rfl)))) ?_
      refine steps_cons (st_run 2 _ rfl rfl hLo rfl rfl (fun _ _ _ _ => rfl) (fun b G w hb ho => exec_nil rfl (ev_on hLo 0 rfl HS3.1 rfl (hb 0 (by rfl))))) ?_
      refine steps_cons (st_run 3 _ rfl rfl hLo rfl rfl (fun _ _ _ _ => rfl) (fun b G w hb ho => exec_field rfl (ev_on hLo 2 rfl HS3.1 rfl (hb 2 (by rfl))) (by kernel_rfl))) ?_
      refine steps_cons (st_put 0 _ rfl rfl rfl rfl (fun _ _ _ _ => rfl) rfl rfl rfl (by rfl) (fun b G w hb ho hr => exec_put1 hr (Nat.le_of_ble_eq_true rfl) (by kernel_rfl) rfl (ev_on hLo 3 rfl HS3.1 rfl (hb 3 (by rfl))) (ev_on hLo 1 rfl HS3.1 rfl (hb 1 (by rfl))))) ?_
      exact steps_nil
    clear hLo
    intro G a4 w4 hS hH
    have HS4 : Sl a4 19 [(0, .pointer (some ⟨g, 0, none⟩)), (1, .int .i64 (n)), (2, .int .i64 (k)), (14, .bool true)] := hS
    have HH4 : Held ⟨w, [g]⟩ w4 [⟨g, (), 6, upd (upd (upd (rpC ⟨safe, waits, power, acts, inn, keep⟩) 5 (.i .i64 (k))) 4 (.i .i64 (0))) 4 (.i .i64 (n)), 51⟩] := hH
    clear hS hH HS3 HH3
    exact b_fall rfl HS4.2.1 ⟨rfl, Row.norm (HH4.row 0 rfl) (six ⟨rfl, rfl, rfl, rfl, congrArg (SC.i .i64) (show _ = ((n.toNat : Nat) : Int) by simp at hr1; omega), rfl⟩), HH4.1⟩
theorem rnew_calls {w : World} {b : ByteArray} (hb : b.size ≤ 4194304) : Calls Try.prog 23 #[.string b] w fun e w' => ∃ g, e = .returned (.pointer (some ⟨g, 0, none⟩)) ∧ w.heap.size ≤ g ∧ Row w' g () 6 (rpC ⟨b, ByteArray.empty, true, 0, 0, 0⟩) 51 ∧ Below w.heap.size w w' := by
  refine enter_ 11 Try.func23 rfl rfl (fun a0 hS => ?_)
  have HS0 : Sl a0 11 [(0, .string (b))] := hS
  have HH0 : Held ⟨w, []⟩ w [] := Held.first w []
  clear hS
  refine wp_seq ?_
  have hLo : LOk [(0, 2, .val (.pointer none))] := lok (by rfl) (by rfl)
  refine plain_ (wE := ⟨w, []⟩) (sz := 11) (n := 1) [0] [(0, .val (.string (b))), (2, .val (.pointer none))] [(0, 2, .val (.pointer none))] [] rfl (by rfl) HH0 rfl rfl hLo rfl HS0 (slS 0 rfl rfl (slL 0 (d := 0) rfl (trivial))) ?_ ?_
  · show ∀ i ∈ [0], _
    refine steps_cons (st_run 0 _ rfl rfl hLo rfl rfl (fun _ _ _ _ => rfl) (fun b G w hb ho => exec_move (.inr rfl) (rfl))) ?_
    exact steps_nil
  clear hLo
  intro G a1 w1 hS hH
  have HS1 : Sl a1 11 [(0, .string (b)), (2, .pointer none)] := hS
  have HH1 : Held ⟨w, []⟩ w1 [] := hH
  clear hS hH HS0 HH0
  refine then_ ?_
  refine wp_seq ?_
  refine wp_seq ?_
  have hLo : LOk [(0, 3, .val (.string (b))), (1, 4, .val (.int .i64 (((b).size : Int)))), (2, 5, .val (.bool false))] := lok (by rfl) (by rfl)
  refine plain_ (wE := ⟨w, []⟩) (sz := 11) (n := 3) [0, 1, 3] [(0, .val (.string (b))), (2, .val (.pointer none)), (5, .val (.bool false))] [(0, 3, .val (.string (b))), (1, 4, .val (.int .i64 (((b).size : Int)))), (2, 5, .val (.bool false))] [] rfl (by rfl) HH1 rfl rfl hLo rfl HS1 (slS 0 rfl rfl (slS 1 rfl rfl (slL 2 (d := 2) rfl (trivial)))) ?_ ?_
  · show ∀ i ∈ [0, 1, 2], _
    refine steps_cons (st_run 0 _ rfl rfl hLo rfl rfl (fun _ _ _ _ => rfl) (fun b G w hb ho => exec_move (.inl rfl) (ev_off rfl (HS1.get 0 rfl)))) ?_
    refine steps_cons (st_run 1 _ rfl rfl hLo rfl rfl (fun _ _ _ _ => rfl) (fun b G w hb ho => exec_lenS Try.underlying9 rfl (ev_on hLo 0 rfl HS1.1 rfl (hb 0 (by rfl))))) ?_
    refine steps_cons (st_run 2 _ rfl rfl hLo rfl rfl (fun _ _ _ _ => rfl) (fun b G w hb ho => exec_bin rfl (ev_on hLo 1 rfl HS1.1 rfl (hb 1 (by rfl))) (rfl) (rb_gtr (decide_eq_false (by omega)) _ _ _))) ?_
    exact steps_nil
  clear hLo
  intro G a2 w2 hS hH
  have HS2 : Sl a2 11 [(0, .string (b)), (2, .pointer none), (5, .bool false)] := hS
  have HH2 : Held ⟨w, []⟩ w2 [] := hH
  clear hS hH HS1 HH1
  refine then_ ?_
  refine wp_cond_false (HS2.get 2 rfl) ?_
  refine wp_skip ?_
  refine then_ ?_
  refine wp_seq ?_
  refine whole_ ?_
  have hLo : LOk [(0, 8, .val (.string (b))), (1, 9, .val (.agg (FR () 6 (lsc [.s (b), .s (ByteArray.empty), .b (true), .i .i64 (0), .i .i64 (0), .i .i64 (0)])))), (2, 10, .new 2 (fun g => .pointer (some ⟨g, 0, none⟩)))] := lok (by rfl) (by rfl)
  refine part_ (wE := ⟨w, []⟩) (sz := 11) (n := 4) 0 3 [0, 1, 3, 7] [(0, .val (.string (b))), (2, .val (.pointer none)), (5, .val (.bool false)), (10, .new 2 (fun g => .pointer (some ⟨g, 0, none⟩)))] [(0, 8, .val (.string (b))), (1, 9, .val (.agg (FR () 6 (lsc [.s (b), .s (ByteArray.empty), .b (true), .i .i64 (0), .i .i64 (0), .i .i64 (0)])))), (2, 10, .new 2 (fun g => .pointer (some ⟨g, 0, none⟩)))] [⟨0, some 2, none, (), 6, lsc [.s (b), .s (ByteArray.empty), .b (true), .i .i64 (0), .i .i64 (0), .i .i64 (0)], lsc [.s (b), .s (ByteArray.empty), .b (true), .i .i64 (0), .i .i64 (0), .i .i64 (0)], 51⟩] rfl rfl (by rfl) HH2 rfl rfl hLo rfl HS2 (slS 0 rfl rfl (slS 1 rfl rfl (slS 2 rfl rfl (slL 2 (d := 2) rfl (trivial))))) ?_ ?_
  · show ∀ i ∈ [0, 1, 2], _
    refine steps_cons (st_run 0 _ rfl rfl hLo rfl rfl (fun _ _ _ _ => rfl) (fun b G w hb ho => exec_move (.inl rfl) (ev_off rfl (HS2.get 0 rfl)))) ?_
    refine steps_cons (st_run 1 _ rfl rfl hLo rfl rfl (fun _ _ _ _ => rfl) (fun b G w hb ho => exec_build rfl (parts2 (ev_on hLo 0 rfl HS2.1 rfl (hb 0 (by rfl))) (rfl)) (by kernel_rfl))) ?_
    refine steps_cons (st_alloc 2 0 () 6 51 none _ _ rfl rfl (fun _ _ _ _ => rfl) rfl hLo rfl rfl rfl rfl (by rfl) (fun b G w hb ho => exec_box rfl (ev_on hLo 1 rfl HS2.1 rfl (hb 1 (by rfl))) (by kernel_rfl))) ?_
    exact steps_nil
  clear hLo
  intro G a3 w3 hS hH
  have HS3 : Sl a3 11 [(0, .string (b)), (2, .pointer none), (5, .bool false), (10, .pointer (some ⟨(G 2), 0, none⟩))] := hS
  have HH3 : Held ⟨w, []⟩ w3 [⟨(G 2), (), 6, lsc [.s (b), .s (ByteArray.empty), .b (true), .i .i64 (0), .i .i64 (0), .i .i64 (0)], 51⟩] := hH
  clear hS hH HS2 HH2
  generalize G 2 = g3_2 at HS3 HH3
  have hLo : LOk [(3, 2, .val (.pointer (some ⟨g3_2, 0, none⟩)))] := lok (by rfl) (by rfl)
  refine part_ (wE := ⟨w, []⟩) (sz := 11) (n := 4) 3 4 [0, 1, 3, 7] [(0, .val (.string (b))), (5, .val (.bool false)), (2, .val (.pointer (some ⟨g3_2, 0, none⟩)))] [(3, 2, .val (.pointer (some ⟨g3_2, 0, none⟩)))] [⟨g3_2, none, none, (), 6, lsc [.s (b), .s (ByteArray.empty), .b (true), .i .i64 (0), .i .i64 (0), .i .i64 (0)], lsc [.s (b), .s (ByteArray.empty), .b (true), .i .i64 (0), .i .i64 (0), .i .i64 (0)], 51⟩] rfl rfl (by rfl) HH3 rfl rfl hLo rfl HS3 (slS 0 rfl rfl (slS 2 rfl rfl (slL 0 (d := 3) rfl (trivial)))) ?_ ?_
  · show ∀ i ∈ [3], _
    refine steps_cons (st_run 0 _ rfl rfl hLo rfl rfl (fun _ _ _ _ => rfl) (fun b G w hb ho => exec_move (.inr rfl) (ev_off rfl (HS3.get 3 rfl)))) ?_
    exact steps_nil
  clear hLo
  intro G a4 w4 hS hH
  have HS4 : Sl a4 11 [(0, .string (b)), (5, .bool false), (2, .pointer (some ⟨g3_2, 0, none⟩))] := hS
  have HH4 : Held ⟨w, []⟩ w4 [⟨g3_2, (), 6, lsc [.s (b), .s (ByteArray.empty), .b (true), .i .i64 (0), .i .i64 (0), .i .i64 (0)], 51⟩] := hH
  clear hS hH HS3 HH3
  refine end_ rfl ?_
  refine then_ ?_
  refine wp_ret ?_
  repeat (first | refine then_ret ?_ | refine inBlock_ret' ?_)
  exact b_tmp rfl HS4.2.1 (HS4.get 2 rfl) ⟨_, rfl, (Held.newrow HH4 0 rfl).1, Row.norm (Held.newrow HH4 0 rfl).2 (six ⟨rfl, rfl, rfl, rfl, rfl, rfl⟩), HH4.1.below⟩
end Go.Proofs.Ytdleomeiojlooaa.P
end
