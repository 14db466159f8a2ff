/- Merged of the texts: Kg, Kh, Ki, Kj, WSized (trim.py). -/
import Derived.SizedLaws
import Derived.ChangeSlices
import Derived.Test.YtjpiofbedglagaaDoorYg5
section
namespace Go.Proofs.YtjpiofbedglagaaDoor.P
set_option linter.unusedVariables false
set_option linter.unusedSimpArgs false
open Go.RowKit Go.ChangeShapes Go.WideShapes Go.Proofs.YtjpiofbedglagaaDoorW.PrintWords Go.Proofs.YtjpiofbedglagaaDoorW.PrintLast Go.Proofs.YtjpiofbedglagaaDoorW.PrintMore
theorem same_i {x y : Int} (h : x = y) : (x != y) = false := by subst h; simp
theorem same_b {x y : Bool} (h : x = y) : (x != y) = false := by subst h; simp
theorem same_s {x y : ByteArray} (h : x = y) : (!decide (x = y)) = false := by subst h; simp
theorem same_n {x y : Nat} (h : x = y) : ((x : Int) != (y : Int)) = false := by subst h; simp
theorem tabsam_12 : rtab .any (opsOf Tryd.f24 12) = (true, [([], []), ([0], [0]), ([], []), ([1, 2], [1, 2]), ([3], [3]), ([4], [4]), ([], []), ([6], [6]), ([], []), ([7, 8], [7, 8]), ([9], [9]), ([10], [10]), ([5, 11], [5, 11]), ([12], [12]), ([13], [13]), ([14, 13], [13, 14]), ([13], [13]), ([15, 16, 13], [13, 15, 16]), ([17, 13], [13, 17]), ([18, 13], [13, 18]), ([13], [13]), ([20, 13], [13, 20]), ([13], [13]), ([21, 22, 13], [13, 21, 22]), ([23, 13], [13, 23]), ([24, 13], [13, 24]), ([19, 25, 13, 13], [13, 19, 25]), ([26, 13], [13, 26]), ([13, 27], [13, 27])]) := by kernel_rfl
theorem bitssam_12 : waitsOk [([], []), ([0], [0]), ([], []), ([1, 2], [1, 2]), ([3], [3]), ([4], [4]), ([], []), ([6], [6]), ([], []), ([7, 8], [7, 8]), ([9], [9]), ([10], [10]), ([5, 11], [5, 11]), ([12], [12]), ([13], [13]), ([14, 13], [13, 14]), ([13], [13]), ([15, 16, 13], [13, 15, 16]), ([17, 13], [13, 17]), ([18, 13], [13, 18]), ([13], [13]), ([20, 13], [13, 20]), ([13], [13]), ([21, 22, 13], [13, 21, 22]), ([23, 13], [13, 23]), ([24, 13], [13, 24]), ([19, 25, 13, 13], [13, 19, 25]), ([26, 13], [13, 26]), ([13, 27], [13, 27])] [0, 1, 0, 7, 15, 31, 0, 64, 0, 448, 960, 1984, 4095, 8191, 16383, 32767, 16383, 131071, 262143, 524287, 16383, 1064959, 16383, 7356415, 15745023, 32522239, 67108863, 134217727, 268435455] = true := by kernel_rfl
theorem tabsam_6 : rtab .any (opsOf Tryd.f24 6) = (true, [([], []), ([0], [0]), ([], []), ([1, 2], [1, 2]), ([3], [3]), ([], []), ([5], [5]), ([], []), ([6, 7], [6, 7]), ([8], [8]), ([4, 9], [4, 9]), ([10], [10])]) := by kernel_rfl
theorem bitssam_6 : waitsOk [([], []), ([0], [0]), ([], []), ([1, 2], [1, 2]), ([3], [3]), ([], []), ([5], [5]), ([], []), ([6, 7], [6, 7]), ([8], [8]), ([4, 9], [4, 9]), ([10], [10])] [0, 1, 0, 7, 15, 0, 32, 0, 224, 480, 1023, 2047] = true := by kernel_rfl
set_option maxHeartbeats 4000000 in
theorem same_step {w : World} {t u : T} (hE : Eqv t u) (hInt : In w t) (hInu : In w u) (ihM : ∀ i, i < t.ml → ∀ (u : T) (w : World), Eqv (t.mem i) u → In w (t.mem i) → In w u → Calls Tryd.prog 24 #[u.val, (t.mem i).val] w fun e w' => e = .returned (.bool true) ∧ Below w.heap.size w w') (ihL : ∀ i, i < t.ll → ∀ (u : T) (w : World), Eqv (t.elm i) u → In w (t.elm i) → In w u → Calls Tryd.prog 24 #[u.val, (t.elm i).val] w fun e w' => e = .returned (.bool true) ∧ Below w.heap.size w w') : Calls Tryd.prog 24 #[.agg (FR () 6 ((u).sc)), .agg (FR () 6 ((t).sc))] w fun e w' => e = .returned (.bool true) ∧ Below w.heap.size w w' := by
  obtain ⟨e1, e2, e3, e4, e5, e6⟩ := hE.own
  have hb47 := hInu.own.2.2.2.2.1
  have hb48 := hInu.own.2.2.2.1
  unfold reach47 at hb47 hb48
  refine enter_ 106 Tryd.func24 rfl rfl (fun a0 hS => ?_)
  have HS0 : Sl a0 106 [(0, .agg (FR () 6 ((u).sc))), (1, .agg (FR () 6 ((t).sc)))] := hS
  have HH0 : Held w w [] := Held.first w
  clear hS
  refine wp_seq ?_
  have hLo : LOk [(0, 2, .new 0 (fun g => .pointer (some ⟨g, 0, none⟩))), (1, 3, .new 1 (fun g => .pointer (some ⟨g, 0, none⟩))), (2, 4, .val (.bool false))] := lok (by rfl) (by rfl)
  refine zH (wE := w) (sz := 106) (n := 3) [0, 1, 3] [(0, .val (.agg (FR () 6 ((u).sc)))), (1, .val (.agg (FR () 6 ((t).sc)))), (2, .new 0 (fun g => .pointer (some ⟨g, 0, none⟩))), (3, .new 1 (fun g => .pointer (some ⟨g, 0, none⟩))), (4, .val (.bool false))] [(0, 2, .new 0 (fun g => .pointer (some ⟨g, 0, none⟩))), (1, 3, .new 1 (fun g => .pointer (some ⟨g, 0, none⟩))), (2, 4, .val (.bool false))] [⟨0, some 0, none, (), 6, (u).sc, (u).sc, 25⟩, ⟨0, some 1, none, (), 6, (t).sc, (t).sc, 25⟩] rfl (by rfl) HH0 rfl rfl hLo rfl HS0 (slS 0 rfl rfl (slS 1 rfl rfl (slL 0 (d := 0) rfl (slL 1 (d := 1) rfl (slL 2 (d := 2) rfl (trivial)))))) ?_ ?_
  · show ∀ i ∈ [0, 1, 2], _
    refine zA (zZ 0 0 () 6 25 none _ _ rfl rfl (fun _ _ _ _ => rfl) rfl hLo rfl rfl rfl rfl (by rfl) (fun b G w hb ho => exec_box rfl (zG rfl (HS0.get 0 rfl)) (by kernel_rfl))) ?_
    refine zA (zZ 1 1 () 6 25 none _ _ rfl rfl (fun _ _ _ _ => rfl) rfl hLo rfl rfl rfl rfl (by rfl) (fun b G w hb ho => exec_box rfl (zG rfl (HS0.get 1 rfl)) (by kernel_rfl))) ?_
    refine zA (zB 2 _ rfl rfl hLo rfl rfl (fun _ _ _ _ => rfl) (fun b G w hb ho => zD (.inr rfl) (rfl))) ?_
    exact zF
  clear hLo
  intro G a1 w1 hS hH
  have HS1 : Sl a1 106 [(0, .agg (FR () 6 ((u).sc))), (1, .agg (FR () 6 ((t).sc))), (2, .pointer (some ⟨(G 0), 0, none⟩)), (3, .pointer (some ⟨(G 1), 0, none⟩)), (4, .bool false)] := hS
  have HH1 : Held w w1 [⟨(G 0), (), 6, (u).sc, 25⟩, ⟨(G 1), (), 6, (t).sc, 25⟩] := hH
  clear hS hH HS0 HH0
  generalize G 0 = g1_0 at HS1 HH1
  generalize G 1 = g1_1 at HS1 HH1
  refine then_ ?_
  refine wp_seq ?_
  refine wp_seq ?_
  have hLo : LOk [(0, 7, .val (.pointer (some ⟨g1_0, 0, none⟩))), (1, 8, .val (.int .i64 ((u).kind))), (2, 9, .val (.pointer (some ⟨g1_1, 0, none⟩))), (3, 10, .val (.int .i64 ((t).kind))), (4, 11, .val (.bool false)), (5, 12, .val (.bool false)), (6, 13, .val (.pointer (some ⟨g1_0, 1, none⟩))), (7, 14, .val (.bool (u).is)), (8, 15, .val (.pointer (some ⟨g1_1, 1, none⟩))), (9, 16, .val (.bool (t).is)), (10, 17, .val (.bool false)), (11, 18, .val (.bool false)), (12, 19, .val (.bool false)), (13, 20, .val (.pointer (some ⟨g1_0, 2, none⟩))), (14, 21, .val (.int .i64 ((u).num))), (15, 22, .val (.pointer (some ⟨g1_1, 2, none⟩))), (16, 23, .val (.int .i64 ((t).num))), (17, 24, .val (.bool false)), (18, 25, .val (.bool false)), (19, 26, .val (.bool false)), (20, 27, .val (.pointer (some ⟨g1_0, 3, none⟩))), (21, 28, .val (.string ((u).txt))), (22, 29, .val (.pointer (some ⟨g1_1, 3, none⟩))), (23, 30, .val (.string ((t).txt))), (24, 31, .val (.bool false)), (25, 32, .val (.bool false)), (26, 33, .val (.bool false)), (27, 34, .val (.pointer (some ⟨g1_0, 4, none⟩))), (28, 35, .val (.slice ((u).xl) ((u).ll) ((u).cl))), (29, 36, .val (.int .i64 (((u).ll : Int)))), (30, 37, .val (.pointer (some ⟨g1_1, 4, none⟩))), (31, 38, .val (.slice ((t).xl) ((t).ll) ((t).cl))), (32, 39, .val (.int .i64 (((t).ll : Int)))), (33, 40, .val (.bool false)), (34, 41, .val (.bool false)), (35, 42, .val (.bool false)), (36, 43, .val (.pointer (some ⟨g1_0, 5, none⟩))), (37, 44, .val (.slice ((u).xm) ((u).ml) ((u).cm))), (38, 45, .val (.int .i64 (((u).ml : Int)))), (39, 46, .val (.pointer (some ⟨g1_1, 5, none⟩))), (40, 47, .val (.slice ((t).xm) ((t).ml) ((t).cm))), (41, 48, .val (.int .i64 (((t).ml : Int)))), (42, 49, .val (.bool false)), (43, 50, .val (.bool false))] := lok (by rfl) (by rfl)
  refine zH (wE := w) (sz := 106) (n := 44) [0, 1, 3, 7, 15, 31, 63, 127, 255, 511, 1023, 2047, 4095, 8191, 16383, 32767, 65535, 131071, 262143, 524287, 1048575, 2097151, 4194303, 8388607, 16777215, 33554431, 67108863, 134217727, 268435455, 536870911, 1073741823, 2147483647, 4294967295, 8589934591, 17179869183, 34359738367, 68719476735, 137438953471, 274877906943, 549755813887, 1099511627775, 2199023255551, 4398046511103, 8796093022207] [(0, .val (.agg (FR () 6 ((u).sc)))), (1, .val (.agg (FR () 6 ((t).sc)))), (2, .val (.pointer (some ⟨g1_0, 0, none⟩))), (3, .val (.pointer (some ⟨g1_1, 0, none⟩))), (4, .val (.bool false)), (50, .val (.bool false))] [(0, 7, .val (.pointer (some ⟨g1_0, 0, none⟩))), (1, 8, .val (.int .i64 ((u).kind))), (2, 9, .val (.pointer (some ⟨g1_1, 0, none⟩))), (3, 10, .val (.int .i64 ((t).kind))), (4, 11, .val (.bool false)), (5, 12, .val (.bool false)), (6, 13, .val (.pointer (some ⟨g1_0, 1, none⟩))), (7, 14, .val (.bool (u).is)), (8, 15, .val (.pointer (some ⟨g1_1, 1, none⟩))), (9, 16, .val (.bool (t).is)), (10, 17, .val (.bool false)), (11, 18, .val (.bool false)), (12, 19, .val (.bool false)), (13, 20, .val (.pointer (some ⟨g1_0, 2, none⟩))), (14, 21, .val (.int .i64 ((u).num))), (15, 22, .val (.pointer (some ⟨g1_1, 2, none⟩))), (16, 23, .val (.int .i64 ((t).num))), (17, 24, .val (.bool false)), (18, 25, .val (.bool false)), (19, 26, .val (.bool false)), (20, 27, .val (.pointer (some ⟨g1_0, 3, none⟩))), (21, 28, .val (.string ((u).txt))), (22, 29, .val (.pointer (some ⟨g1_1, 3, none⟩))), (23, 30, .val (.string ((t).txt))), (24, 31, .val (.bool false)), (25, 32, .val (.bool false)), (26, 33, .val (.bool false)), (27, 34, .val (.pointer (some ⟨g1_0, 4, none⟩))), (28, 35, .val (.slice ((u).xl) ((u).ll) ((u).cl))), (29, 36, .val (.int .i64 (((u).ll : Int)))), (30, 37, .val (.pointer (some ⟨g1_1, 4, none⟩))), (31, 38, .val (.slice ((t).xl) ((t).ll) ((t).cl))), (32, 39, .val (.int .i64 (((t).ll : Int)))), (33, 40, .val (.bool false)), (34, 41, .val (.bool false)), (35, 42, .val (.bool false)), (36, 43, .val (.pointer (some ⟨g1_0, 5, none⟩))), (37, 44, .val (.slice ((u).xm) ((u).ml) ((u).cm))), (38, 45, .val (.int .i64 (((u).ml : Int)))), (39, 46, .val (.pointer (some ⟨g1_1, 5, none⟩))), (40, 47, .val (.slice ((t).xm) ((t).ml) ((t).cm))), (41, 48, .val (.int .i64 (((t).ml : Int)))), (42, 49, .val (.bool false)), (43, 50, .val (.bool false))] [⟨g1_0, none, none, (), 6, (u).sc, (u).sc, 25⟩, ⟨g1_1, none, none, (), 6, (t).sc, (t).sc, 25⟩] rfl (by rfl) HH1 rfl rfl hLo rfl HS1 (slS 0 rfl rfl (slS 1 rfl rfl (slS 2 rfl rfl (slS 3 rfl rfl (slS 4 rfl rfl (slL 43 (d := 43) rfl (trivial))))))) ?_ ?_
  · show ∀ i ∈ [0, 1, 2, 3, 4, 5, 6, 7, 8, 9, 10, 11, 12, 13, 14, 15, 16, 17, 18, 19, 20, 21, 22, 23, 24, 25, 26, 27, 28, 29, 30, 31, 32, 33, 34, 35, 36, 37, 38, 39, 40, 41, 42, 43], _
    refine zA (zB 0 _ rfl rfl hLo rfl rfl (fun _ _ _ _ => rfl) (fun b G w hb ho => zJ rfl (zG rfl (HS1.get 2 rfl)) (by kernel_rfl))) ?_
    refine zA (zW 1 0 _ _ rfl rfl rfl hLo rfl rfl (fun _ _ _ _ => rfl) (by rfl) (by rfl) (fun b G w hb ho hr => zP hr (Nat.le_of_ble_eq_true rfl) Tryd.underlying3 rfl rfl (zC hLo 0 rfl HS1.1 rfl (hb 0 (by rfl))))) ?_
    refine zA (zB 2 _ rfl rfl hLo rfl rfl (fun _ _ _ _ => rfl) (fun b G w hb ho => zJ rfl (zG rfl (HS1.get 3 rfl)) (by kernel_rfl))) ?_
    refine zA (zW 3 1 _ _ rfl rfl rfl hLo rfl rfl (fun _ _ _ _ => rfl) (by rfl) (by rfl) (fun b G w hb ho hr => zP hr (Nat.le_of_ble_eq_true rfl) Tryd.underlying3 rfl rfl (zC hLo 2 rfl HS1.1 rfl (hb 2 (by rfl))))) ?_
    refine zA (zB 4 _ rfl rfl hLo rfl rfl (fun _ _ _ _ => rfl) (fun b G w hb ho => zI rfl (zC hLo 1 rfl HS1.1 rfl (hb 1 (by rfl))) (zC hLo 3 rfl HS1.1 rfl (hb 3 (by rfl))) (rb_neq (same_i e1) _ _ _))) ?_
    refine zA (zB 5 _ rfl rfl hLo rfl rfl (fun _ _ _ _ => rfl) (fun b G w hb ho => zD (.inl rfl) (zC hLo 4 rfl HS1.1 rfl (hb 4 (by rfl))))) ?_
    refine zA (zB 6 _ rfl rfl hLo rfl rfl (fun b G hb ho => zE rfl rfl rfl HS1.1 rfl (zC hLo 5 rfl HS1.1 rfl (hb 5 (by rfl))) rfl) (fun b G w hb ho => zJ rfl (zG rfl (HS1.get 2 rfl)) (by kernel_rfl))) ?_
    refine zA (zW 7 0 _ _ rfl rfl rfl hLo rfl rfl (fun b G hb ho => zE rfl rfl rfl HS1.1 rfl (zC hLo 5 rfl HS1.1 rfl (hb 5 (by rfl))) rfl) (by rfl) (by rfl) (fun b G w hb ho hr => zP hr (Nat.le_of_ble_eq_true rfl) Tryd.underlying4 rfl rfl (zC hLo 6 rfl HS1.1 rfl (hb 6 (by rfl))))) ?_
    refine zA (zB 8 _ rfl rfl hLo rfl rfl (fun b G hb ho => zE rfl rfl rfl HS1.1 rfl (zC hLo 5 rfl HS1.1 rfl (hb 5 (by rfl))) rfl) (fun b G w hb ho => zJ rfl (zG rfl (HS1.get 3 rfl)) (by kernel_rfl))) ?_
    refine zA (zW 9 1 _ _ rfl rfl rfl hLo rfl rfl (fun b G hb ho => zE rfl rfl rfl HS1.1 rfl (zC hLo 5 rfl HS1.1 rfl (hb 5 (by rfl))) rfl) (by rfl) (by rfl) (fun b G w hb ho hr => zP hr (Nat.le_of_ble_eq_true rfl) Tryd.underlying4 rfl rfl (zC hLo 8 rfl HS1.1 rfl (hb 8 (by rfl))))) ?_
    refine zA (zB 10 _ rfl rfl hLo rfl rfl (fun b G hb ho => zE rfl rfl rfl HS1.1 rfl (zC hLo 5 rfl HS1.1 rfl (hb 5 (by rfl))) rfl) (fun b G w hb ho => zI rfl (zC hLo 7 rfl HS1.1 rfl (hb 7 (by rfl))) (zC hLo 9 rfl HS1.1 rfl (hb 9 (by rfl))) (rb_bneq Tryd.underlying4 (same_b e2) _ _ _))) ?_
    refine zA (zB 11 _ rfl rfl hLo rfl rfl (fun _ _ _ _ => rfl) (fun b G w hb ho => zL rfl (zC hLo 5 rfl HS1.1 rfl (hb 5 (by rfl))) (zC hLo 10 rfl HS1.1 rfl (hb 10 (by rfl))))) ?_
    refine zA (zB 12 _ rfl rfl hLo rfl rfl (fun _ _ _ _ => rfl) (fun b G w hb ho => zD (.inl rfl) (zC hLo 11 rfl HS1.1 rfl (hb 11 (by rfl))))) ?_
    refine zA (zB 13 _ rfl rfl hLo rfl rfl (fun b G hb ho => zE rfl rfl rfl HS1.1 rfl (zC hLo 12 rfl HS1.1 rfl (hb 12 (by rfl))) rfl) (fun b G w hb ho => zJ rfl (zG rfl (HS1.get 2 rfl)) (by kernel_rfl))) ?_
    refine zA (zW 14 0 _ _ rfl rfl rfl hLo rfl rfl (fun b G hb ho => zE rfl rfl rfl HS1.1 rfl (zC hLo 12 rfl HS1.1 rfl (hb 12 (by rfl))) rfl) (by rfl) (by rfl) (fun b G w hb ho hr => zP hr (Nat.le_of_ble_eq_true rfl) Tryd.underlying3 rfl rfl (zC hLo 13 rfl HS1.1 rfl (hb 13 (by rfl))))) ?_
    refine zA (zB 15 _ rfl rfl hLo rfl rfl (fun b G hb ho => zE rfl rfl rfl HS1.1 rfl (zC hLo 12 rfl HS1.1 rfl (hb 12 (by rfl))) rfl) (fun b G w hb ho => zJ rfl (zG rfl (HS1.get 3 rfl)) (by kernel_rfl))) ?_
    refine zA (zW 16 1 _ _ rfl rfl rfl hLo rfl rfl (fun b G hb ho => zE rfl rfl rfl HS1.1 rfl (zC hLo 12 rfl HS1.1 rfl (hb 12 (by rfl))) rfl) (by rfl) (by rfl) (fun b G w hb ho hr => zP hr (Nat.le_of_ble_eq_true rfl) Tryd.underlying3 rfl rfl (zC hLo 15 rfl HS1.1 rfl (hb 15 (by rfl))))) ?_
    refine zA (zB 17 _ rfl rfl hLo rfl rfl (fun b G hb ho => zE rfl rfl rfl HS1.1 rfl (zC hLo 12 rfl HS1.1 rfl (hb 12 (by rfl))) rfl) (fun b G w hb ho => zI rfl (zC hLo 14 rfl HS1.1 rfl (hb 14 (by rfl))) (zC hLo 16 rfl HS1.1 rfl (hb 16 (by rfl))) (rb_neq (same_i e3) _ _ _))) ?_
    refine zA (zB 18 _ rfl rfl hLo rfl rfl (fun _ _ _ _ => rfl) (fun b G w hb ho => zL rfl (zC hLo 12 rfl HS1.1 rfl (hb 12 (by rfl))) (zC hLo 17 rfl HS1.1 rfl (hb 17 (by rfl))))) ?_
    refine zA (zB 19 _ rfl rfl hLo rfl rfl (fun _ _ _ _ => rfl) (fun b G w hb ho => zD (.inl rfl) (zC hLo 18 rfl HS1.1 rfl (hb 18 (by rfl))))) ?_
    refine zA (zB 20 _ rfl rfl hLo rfl rfl (fun b G hb ho => zE rfl rfl rfl HS1.1 rfl (zC hLo 19 rfl HS1.1 rfl (hb 19 (by rfl))) rfl) (fun b G w hb ho => zJ rfl (zG rfl (HS1.get 2 rfl)) (by kernel_rfl))) ?_
    refine zA (zW 21 0 _ _ rfl rfl rfl hLo rfl rfl (fun b G hb ho => zE rfl rfl rfl HS1.1 rfl (zC hLo 19 rfl HS1.1 rfl (hb 19 (by rfl))) rfl) (by rfl) (by rfl) (fun b G w hb ho hr => zP hr (Nat.le_of_ble_eq_true rfl) Tryd.underlying9 rfl rfl (zC hLo 20 rfl HS1.1 rfl (hb 20 (by rfl))))) ?_
    refine zA (zB 22 _ rfl rfl hLo rfl rfl (fun b G hb ho => zE rfl rfl rfl HS1.1 rfl (zC hLo 19 rfl HS1.1 rfl (hb 19 (by rfl))) rfl) (fun b G w hb ho => zJ rfl (zG rfl (HS1.get 3 rfl)) (by kernel_rfl))) ?_
    refine zA (zW 23 1 _ _ rfl rfl rfl hLo rfl rfl (fun b G hb ho => zE rfl rfl rfl HS1.1 rfl (zC hLo 19 rfl HS1.1 rfl (hb 19 (by rfl))) rfl) (by rfl) (by rfl) (fun b G w hb ho hr => zP hr (Nat.le_of_ble_eq_true rfl) Tryd.underlying9 rfl rfl (zC hLo 22 rfl HS1.1 rfl (hb 22 (by rfl))))) ?_
    refine zA (zB 24 _ rfl rfl hLo rfl rfl (fun b G hb ho => zE rfl rfl rfl HS1.1 rfl (zC hLo 19 rfl HS1.1 rfl (hb 19 (by rfl))) rfl) (fun b G w hb ho => zI rfl (zC hLo 21 rfl HS1.1 rfl (hb 21 (by rfl))) (zC hLo 23 rfl HS1.1 rfl (hb 23 (by rfl))) (rb_sneq (same_s e4) _ _ _))) ?_
    refine zA (zB 25 _ rfl rfl hLo rfl rfl (fun _ _ _ _ => rfl) (fun b G w hb ho => zL rfl (zC hLo 19 rfl HS1.1 rfl (hb 19 (by rfl))) (zC hLo 24 rfl HS1.1 rfl (hb 24 (by rfl))))) ?_
    refine zA (zB 26 _ rfl rfl hLo rfl rfl (fun _ _ _ _ => rfl) (fun b G w hb ho => zD (.inl rfl) (zC hLo 25 rfl HS1.1 rfl (hb 25 (by rfl))))) ?_
    refine zA (zB 27 _ rfl rfl hLo rfl rfl (fun b G hb ho => zE rfl rfl rfl HS1.1 rfl (zC hLo 26 rfl HS1.1 rfl (hb 26 (by rfl))) rfl) (fun b G w hb ho => zJ rfl (zG rfl (HS1.get 2 rfl)) (by kernel_rfl))) ?_
    refine zA (zW 28 0 _ _ rfl rfl rfl hLo rfl rfl (fun b G hb ho => zE rfl rfl rfl HS1.1 rfl (zC hLo 26 rfl HS1.1 rfl (hb 26 (by rfl))) rfl) (by rfl) (by rfl) (fun b G w hb ho hr => zP hr (Nat.le_of_ble_eq_true rfl) Tryd.underlying22 rfl rfl (zC hLo 27 rfl HS1.1 rfl (hb 27 (by rfl))))) ?_
    refine zA (zB 29 _ rfl rfl hLo rfl rfl (fun b G hb ho => zE rfl rfl rfl HS1.1 rfl (zC hLo 26 rfl HS1.1 rfl (hb 26 (by rfl))) rfl) (fun b G w hb ho => yF Tryd.underlying22 rfl (zC hLo 28 rfl HS1.1 rfl (hb 28 (by rfl))))) ?_
    refine zA (zB 30 _ rfl rfl hLo rfl rfl (fun b G hb ho => zE rfl rfl rfl HS1.1 rfl (zC hLo 26 rfl HS1.1 rfl (hb 26 (by rfl))) rfl) (fun b G w hb ho => zJ rfl (zG rfl (HS1.get 3 rfl)) (by kernel_rfl))) ?_
    refine zA (zW 31 1 _ _ rfl rfl rfl hLo rfl rfl (fun b G hb ho => zE rfl rfl rfl HS1.1 rfl (zC hLo 26 rfl HS1.1 rfl (hb 26 (by rfl))) rfl) (by rfl) (by rfl) (fun b G w hb ho hr => zP hr (Nat.le_of_ble_eq_true rfl) Tryd.underlying22 rfl rfl (zC hLo 30 rfl HS1.1 rfl (hb 30 (by rfl))))) ?_
    refine zA (zB 32 _ rfl rfl hLo rfl rfl (fun b G hb ho => zE rfl rfl rfl HS1.1 rfl (zC hLo 26 rfl HS1.1 rfl (hb 26 (by rfl))) rfl) (fun b G w hb ho => yF Tryd.underlying22 rfl (zC hLo 31 rfl HS1.1 rfl (hb 31 (by rfl))))) ?_
    refine zA (zB 33 _ rfl rfl hLo rfl rfl (fun b G hb ho => zE rfl rfl rfl HS1.1 rfl (zC hLo 26 rfl HS1.1 rfl (hb 26 (by rfl))) rfl) (fun b G w hb ho => zI rfl (zC hLo 29 rfl HS1.1 rfl (hb 29 (by rfl))) (zC hLo 32 rfl HS1.1 rfl (hb 32 (by rfl))) (rb_neq (same_n e5) _ _ _))) ?_
    refine zA (zB 34 _ rfl rfl hLo rfl rfl (fun _ _ _ _ => rfl) (fun b G w hb ho => zL rfl (zC hLo 26 rfl HS1.1 rfl (hb 26 (by rfl))) (zC hLo 33 rfl HS1.1 rfl (hb 33 (by rfl))))) ?_
    refine zA (zB 35 _ rfl rfl hLo rfl rfl (fun _ _ _ _ => rfl) (fun b G w hb ho => zD (.inl rfl) (zC hLo 34 rfl HS1.1 rfl (hb 34 (by rfl))))) ?_
    refine zA (zB 36 _ rfl rfl hLo rfl rfl (fun b G hb ho => zE rfl rfl rfl HS1.1 rfl (zC hLo 35 rfl HS1.1 rfl (hb 35 (by rfl))) rfl) (fun b G w hb ho => zJ rfl (zG rfl (HS1.get 2 rfl)) (by kernel_rfl))) ?_
    refine zA (zW 37 0 _ _ rfl rfl rfl hLo rfl rfl (fun b G hb ho => zE rfl rfl rfl HS1.1 rfl (zC hLo 35 rfl HS1.1 rfl (hb 35 (by rfl))) rfl) (by rfl) (by rfl) (fun b G w hb ho hr => zP hr (Nat.le_of_ble_eq_true rfl) Tryd.underlying23 rfl rfl (zC hLo 36 rfl HS1.1 rfl (hb 36 (by rfl))))) ?_
    refine zA (zB 38 _ rfl rfl hLo rfl rfl (fun b G hb ho => zE rfl rfl rfl HS1.1 rfl (zC hLo 35 rfl HS1.1 rfl (hb 35 (by rfl))) rfl) (fun b G w hb ho => yF Tryd.underlying23 rfl (zC hLo 37 rfl HS1.1 rfl (hb 37 (by rfl))))) ?_
    refine zA (zB 39 _ rfl rfl hLo rfl rfl (fun b G hb ho => zE rfl rfl rfl HS1.1 rfl (zC hLo 35 rfl HS1.1 rfl (hb 35 (by rfl))) rfl) (fun b G w hb ho => zJ rfl (zG rfl (HS1.get 3 rfl)) (by kernel_rfl))) ?_
    refine zA (zW 40 1 _ _ rfl rfl rfl hLo rfl rfl (fun b G hb ho => zE rfl rfl rfl HS1.1 rfl (zC hLo 35 rfl HS1.1 rfl (hb 35 (by rfl))) rfl) (by rfl) (by rfl) (fun b G w hb ho hr => zP hr (Nat.le_of_ble_eq_true rfl) Tryd.underlying23 rfl rfl (zC hLo 39 rfl HS1.1 rfl (hb 39 (by rfl))))) ?_
    refine zA (zB 41 _ rfl rfl hLo rfl rfl (fun b G hb ho => zE rfl rfl rfl HS1.1 rfl (zC hLo 35 rfl HS1.1 rfl (hb 35 (by rfl))) rfl) (fun b G w hb ho => yF Tryd.underlying23 rfl (zC hLo 40 rfl HS1.1 rfl (hb 40 (by rfl))))) ?_
    refine zA (zB 42 _ rfl rfl hLo rfl rfl (fun b G hb ho => zE rfl rfl rfl HS1.1 rfl (zC hLo 35 rfl HS1.1 rfl (hb 35 (by rfl))) rfl) (fun b G w hb ho => zI rfl (zC hLo 38 rfl HS1.1 rfl (hb 38 (by rfl))) (zC hLo 41 rfl HS1.1 rfl (hb 41 (by rfl))) (rb_neq (same_n e6) _ _ _))) ?_
    refine zA (zB 43 _ rfl rfl hLo rfl rfl (fun _ _ _ _ => rfl) (fun b G w hb ho => zL rfl (zC hLo 35 rfl HS1.1 rfl (hb 35 (by rfl))) (zC hLo 42 rfl HS1.1 rfl (hb 42 (by rfl))))) ?_
    exact zF
  clear hLo
  intro G a2 w2 hS hH
  have HS2 : Sl a2 106 [(0, .agg (FR () 6 ((u).sc))), (1, .agg (FR () 6 ((t).sc))), (2, .pointer (some ⟨g1_0, 0, none⟩)), (3, .pointer (some ⟨g1_1, 0, none⟩)), (4, .bool false), (50, .bool false)] := hS
  have HH2 : Held w w2 [⟨g1_0, (), 6, (u).sc, 25⟩, ⟨g1_1, (), 6, (t).sc, 25⟩] := hH
  clear hS hH HS1 HH1
  refine then_ ?_
  refine wp_cond_false (HS2.get 5 rfl) ?_
  refine wp_skip ?_
  refine then_ ?_
  refine wp_seq ?_
  refine wp_seq ?_
  have hLo : LOk [(0, 51, .val (.pointer (some ⟨g1_0, 4, none⟩))), (1, 52, .val (.slice ((u).xl) ((u).ll) ((u).cl))), (2, 53, .val (.int .i64 (((u).ll : Int)))), (3, 54, .val (.int .i64 (0)))] := lok (by rfl) (by rfl)
  refine zH (wE := w) (sz := 106) (n := 4) [0, 1, 3, 7] [(0, .val (.agg (FR () 6 ((u).sc)))), (1, .val (.agg (FR () 6 ((t).sc)))), (2, .val (.pointer (some ⟨g1_0, 0, none⟩))), (3, .val (.pointer (some ⟨g1_1, 0, none⟩))), (4, .val (.bool false)), (50, .val (.bool false)), (53, .val (.int .i64 (((u).ll : Int)))), (54, .val (.int .i64 (0)))] [(0, 51, .val (.pointer (some ⟨g1_0, 4, none⟩))), (1, 52, .val (.slice ((u).xl) ((u).ll) ((u).cl))), (2, 53, .val (.int .i64 (((u).ll : Int)))), (3, 54, .val (.int .i64 (0)))] [⟨g1_0, none, none, (), 6, (u).sc, (u).sc, 25⟩, ⟨g1_1, none, none, (), 6, (t).sc, (t).sc, 25⟩] rfl (by rfl) HH2 rfl rfl hLo rfl HS2 (slS 0 rfl rfl (slS 1 rfl rfl (slS 2 rfl rfl (slS 3 rfl rfl (slS 4 rfl rfl (slS 5 rfl rfl (slL 2 (d := 2) rfl (slL 3 (d := 3) rfl (trivial))))))))) ?_ ?_
  · show ∀ i ∈ [0, 1, 2, 3], _
    refine zA (zB 0 _ rfl rfl hLo rfl rfl (fun _ _ _ _ => rfl) (fun b G w hb ho => zJ rfl (zG rfl (HS2.get 2 rfl)) (by kernel_rfl))) ?_
    refine zA (zW 1 0 _ _ rfl rfl rfl hLo rfl rfl (fun _ _ _ _ => rfl) (by rfl) (by rfl) (fun b G w hb ho hr => zP hr (Nat.le_of_ble_eq_true rfl) Tryd.underlying22 rfl rfl (zC hLo 0 rfl HS2.1 rfl (hb 0 (by rfl))))) ?_
    refine zA (zB 2 _ rfl rfl hLo rfl rfl (fun _ _ _ _ => rfl) (fun b G w hb ho => yF Tryd.underlying22 rfl (zC hLo 1 rfl HS2.1 rfl (hb 1 (by rfl))))) ?_
    refine zA (zB 3 _ rfl rfl hLo rfl rfl (fun _ _ _ _ => rfl) (fun b G w hb ho => zD (.inl rfl) (rfl))) ?_
    exact zF
  clear hLo
  intro G a3 w3 hS hH
  have HS3 : Sl a3 106 [(0, .agg (FR () 6 ((u).sc))), (1, .agg (FR () 6 ((t).sc))), (2, .pointer (some ⟨g1_0, 0, none⟩)), (3, .pointer (some ⟨g1_1, 0, none⟩)), (4, .bool false), (50, .bool false), (53, .int .i64 (((u).ll : Int))), (54, .int .i64 (0))] := hS
  have HH3 : Held w w3 [⟨g1_0, (), 6, (u).sc, 25⟩, ⟨g1_1, (), 6, (t).sc, 25⟩] := hH
  clear hS hH HS2 HH2
  refine then_ ?_
  refine wp_block ?_
  have hSq0 : Sl _ 106 [(0, .agg (FR () 6 ((u).sc))), (1, .agg (FR () 6 ((t).sc))), (2, .pointer (some ⟨g1_0, 0, none⟩)), (3, .pointer (some ⟨g1_1, 0, none⟩)), (50, .bool false), (53, .int .i64 (((u).ll : Int))), (54, .int .i64 (0))] := yA HS3 [0, 1, 2, 3, 5, 6, 7] (by rfl)
  refine wp_loop (fun a w' => ∃ i : Nat, i ≤ u.ll ∧ Sl a 106 [(0, .agg (FR () 6 ((u).sc))), (1, .agg (FR () 6 ((t).sc))), (2, .pointer (some ⟨g1_0, 0, none⟩)), (3, .pointer (some ⟨g1_1, 0, none⟩)), (50, .bool false), (53, .int .i64 (((u).ll : Int))), (54, .int .i64 ((i : Int)))] ∧ Held w w' [⟨g1_0, (), 6, (u).sc, 25⟩, ⟨g1_1, (), 6, (t).sc, 25⟩]) (fun a w' => u.ll - (intOf (a.eval (.tmp 54))).toNat) ⟨0, Nat.zero_le _, hSq0, HH3⟩ ?_
  clear hSq0 HS3 HH3
  rintro aq0 wq0 ⟨i, hlei, HSq0, HHq0⟩
  have hm : (intOf (aq0.eval (.tmp 54))).toNat = i := by rw [(HSq0.get 6 rfl)]; rfl
  rw [hm]
  clear hm
  obtain ⟨r1, hr1⟩ : ∃ r : Bool, (decide (((i : Int) : Int) < ((u).ll : Int))) = r := ⟨_, rfl⟩
  refine wp_seq ?_
  have hLo : LOk [(0, 55, .val (.bool r1))] := lok (by rfl) (by rfl)
  refine zH (wE := w) (sz := 106) (n := 1) [0] [(0, .val (.agg (FR () 6 ((u).sc)))), (1, .val (.agg (FR () 6 ((t).sc)))), (2, .val (.pointer (some ⟨g1_0, 0, none⟩))), (3, .val (.pointer (some ⟨g1_1, 0, none⟩))), (50, .val (.bool false)), (53, .val (.int .i64 (((u).ll : Int)))), (54, .val (.int .i64 ((i : Int)))), (55, .val (.bool r1))] [(0, 55, .val (.bool r1))] [⟨g1_0, none, none, (), 6, (u).sc, (u).sc, 25⟩, ⟨g1_1, none, none, (), 6, (t).sc, (t).sc, 25⟩] rfl (by rfl) HHq0 rfl rfl hLo rfl HSq0 (slS 0 rfl rfl (slS 1 rfl rfl (slS 2 rfl rfl (slS 3 rfl rfl (slS 4 rfl rfl (slS 5 rfl rfl (slS 6 rfl rfl (slL 0 (d := 0) rfl (trivial))))))))) ?_ ?_
  · show ∀ i ∈ [0], _
    refine zA (zB 0 _ rfl rfl hLo rfl rfl (fun _ _ _ _ => rfl) (fun b G w hb ho => zI rfl (zG rfl (HSq0.get 6 rfl)) (zG rfl (HSq0.get 5 rfl)) (rb_lss hr1 _ _ _))) ?_
    exact zF
  clear hLo
  intro G a4 w4 hS hH
  have HS4 : Sl a4 106 [(0, .agg (FR () 6 ((u).sc))), (1, .agg (FR () 6 ((t).sc))), (2, .pointer (some ⟨g1_0, 0, none⟩)), (3, .pointer (some ⟨g1_1, 0, none⟩)), (50, .bool false), (53, .int .i64 (((u).ll : Int))), (54, .int .i64 ((i : Int))), (55, .bool r1)] := hS
  have HH4 : Held w w4 [⟨g1_0, (), 6, (u).sc, 25⟩, ⟨g1_1, (), 6, (t).sc, 25⟩] := hH
  clear hS hH HSq0 HHq0
  refine then_ ?_
  refine wp_seq ?_
  cases r1
  · skip
    refine wp_cond_false (HS4.get 7 rfl) ?_
    refine wp_exit ?_
    refine zY ?_
    refine zY ?_
    refine yE ?_
    refine then_ ?_
    refine wp_seq ?_
    refine wp_seq ?_
    have hLo : LOk [(0, 70, .val (.pointer (some ⟨g1_0, 5, none⟩))), (1, 71, .val (.slice ((u).xm) ((u).ml) ((u).cm))), (2, 72, .val (.int .i64 (((u).ml : Int)))), (3, 73, .val (.int .i64 (0)))] := lok (by rfl) (by rfl)
    refine zH (wE := w) (sz := 106) (n := 4) [0, 1, 3, 7] [(0, .val (.agg (FR () 6 ((u).sc)))), (1, .val (.agg (FR () 6 ((t).sc)))), (2, .val (.pointer (some ⟨g1_0, 0, none⟩))), (3, .val (.pointer (some ⟨g1_1, 0, none⟩))), (50, .val (.bool false)), (53, .val (.int .i64 (((u).ll : Int)))), (54, .val (.int .i64 ((i : Int)))), (55, .val (.bool false)), (72, .val (.int .i64 (((u).ml : Int)))), (73, .val (.int .i64 (0)))] [(0, 70, .val (.pointer (some ⟨g1_0, 5, none⟩))), (1, 71, .val (.slice ((u).xm) ((u).ml) ((u).cm))), (2, 72, .val (.int .i64 (((u).ml : Int)))), (3, 73, .val (.int .i64 (0)))] [⟨g1_0, none, none, (), 6, (u).sc, (u).sc, 25⟩, ⟨g1_1, none, none, (), 6, (t).sc, (t).sc, 25⟩] rfl (by rfl) HH4 rfl rfl hLo rfl HS4 (slS 0 rfl rfl (slS 1 rfl rfl (slS 2 rfl rfl (slS 3 rfl rfl (slS 4 rfl rfl (slS 5 rfl rfl (slS 6 rfl rfl (slS 7 rfl rfl (slL 2 (d := 2) rfl (slL 3 (d := 3) rfl (trivial))))))))))) ?_ ?_
    · show ∀ i ∈ [0, 1, 2, 3], _
      refine zA (zB 0 _ rfl rfl hLo rfl rfl (fun _ _ _ _ => rfl) (fun b G w hb ho => zJ rfl (zG rfl (HS4.get 2 rfl)) (by kernel_rfl))) ?_
      refine zA (zW 1 0 _ _ rfl rfl rfl hLo rfl rfl (fun _ _ _ _ => rfl) (by rfl) (by rfl) (fun b G w hb ho hr => zP hr (Nat.le_of_ble_eq_true rfl) Tryd.underlying23 rfl rfl (zC hLo 0 rfl HS4.1 rfl (hb 0 (by rfl))))) ?_
      refine zA (zB 2 _ rfl rfl hLo rfl rfl (fun _ _ _ _ => rfl) (fun b G w hb ho => yF Tryd.underlying23 rfl (zC hLo 1 rfl HS4.1 rfl (hb 1 (by rfl))))) ?_
      refine zA (zB 3 _ rfl rfl hLo rfl rfl (fun _ _ _ _ => rfl) (fun b G w hb ho => zD (.inl rfl) (rfl))) ?_
      exact zF
    clear hLo
    intro G a5 w5 hS hH
    have HS5 : Sl a5 106 [(0, .agg (FR () 6 ((u).sc))), (1, .agg (FR () 6 ((t).sc))), (2, .pointer (some ⟨g1_0, 0, none⟩)), (3, .pointer (some ⟨g1_1, 0, none⟩)), (50, .bool false), (53, .int .i64 (((u).ll : Int))), (54, .int .i64 ((i : Int))), (55, .bool false), (72, .int .i64 (((u).ml : Int))), (73, .int .i64 (0))] := hS
    have HH5 : Held w w5 [⟨g1_0, (), 6, (u).sc, 25⟩, ⟨g1_1, (), 6, (t).sc, 25⟩] := hH
    clear hS hH HS4 HH4
    refine then_ ?_
    refine wp_block ?_
    have hSq1 : Sl _ 106 [(0, .agg (FR () 6 ((u).sc))), (1, .agg (FR () 6 ((t).sc))), (2, .pointer (some ⟨g1_0, 0, none⟩)), (3, .pointer (some ⟨g1_1, 0, none⟩)), (50, .bool false), (53, .int .i64 (((u).ll : Int))), (54, .int .i64 ((i : Int))), (55, .bool false), (72, .int .i64 (((u).ml : Int))), (73, .int .i64 (0))] := yA HS5 [0, 1, 2, 3, 4, 5, 6, 7, 8, 9] (by rfl)
    refine wp_loop (fun a w' => ∃ k : Nat, k ≤ u.ml ∧ Sl a 106 [(0, .agg (FR () 6 ((u).sc))), (1, .agg (FR () 6 ((t).sc))), (2, .pointer (some ⟨g1_0, 0, none⟩)), (3, .pointer (some ⟨g1_1, 0, none⟩)), (50, .bool false), (53, .int .i64 (((u).ll : Int))), (54, .int .i64 ((i : Int))), (55, .bool false), (72, .int .i64 (((u).ml : Int))), (73, .int .i64 ((k : Int)))] ∧ Held w w' [⟨g1_0, (), 6, (u).sc, 25⟩, ⟨g1_1, (), 6, (t).sc, 25⟩]) (fun a w' => u.ml - (intOf (a.eval (.tmp 73))).toNat) ⟨0, Nat.zero_le _, hSq1, HH5⟩ ?_
    clear hSq1 HS5 HH5
    rintro aq1 wq1 ⟨k, hlek, HSq1, HHq1⟩
    have hm : (intOf (aq1.eval (.tmp 73))).toNat = k := by rw [(HSq1.get 9 rfl)]; rfl
    rw [hm]
    clear hm
    obtain ⟨r2, hr2⟩ : ∃ r : Bool, (decide (((k : Int) : Int) < ((u).ml : Int))) = r := ⟨_, rfl⟩
    refine wp_seq ?_
    have hLo : LOk [(0, 74, .val (.bool r2))] := lok (by rfl) (by rfl)
    refine zH (wE := w) (sz := 106) (n := 1) [0] [(0, .val (.agg (FR () 6 ((u).sc)))), (1, .val (.agg (FR () 6 ((t).sc)))), (2, .val (.pointer (some ⟨g1_0, 0, none⟩))), (3, .val (.pointer (some ⟨g1_1, 0, none⟩))), (50, .val (.bool false)), (53, .val (.int .i64 (((u).ll : Int)))), (54, .val (.int .i64 ((i : Int)))), (55, .val (.bool false)), (72, .val (.int .i64 (((u).ml : Int)))), (73, .val (.int .i64 ((k : Int)))), (74, .val (.bool r2))] [(0, 74, .val (.bool r2))] [⟨g1_0, none, none, (), 6, (u).sc, (u).sc, 25⟩, ⟨g1_1, none, none, (), 6, (t).sc, (t).sc, 25⟩] rfl (by rfl) HHq1 rfl rfl hLo rfl HSq1 (slS 0 rfl rfl (slS 1 rfl rfl (slS 2 rfl rfl (slS 3 rfl rfl (slS 4 rfl rfl (slS 5 rfl rfl (slS 6 rfl rfl (slS 7 rfl rfl (slS 8 rfl rfl (slS 9 rfl rfl (slL 0 (d := 0) rfl (trivial)))))))))))) ?_ ?_
    · show ∀ i ∈ [0], _
      refine zA (zB 0 _ rfl rfl hLo rfl rfl (fun _ _ _ _ => rfl) (fun b G w hb ho => zI rfl (zG rfl (HSq1.get 9 rfl)) (zG rfl (HSq1.get 8 rfl)) (rb_lss hr2 _ _ _))) ?_
      exact zF
    clear hLo
    intro G a6 w6 hS hH
    have HS6 : Sl a6 106 [(0, .agg (FR () 6 ((u).sc))), (1, .agg (FR () 6 ((t).sc))), (2, .pointer (some ⟨g1_0, 0, none⟩)), (3, .pointer (some ⟨g1_1, 0, none⟩)), (50, .bool false), (53, .int .i64 (((u).ll : Int))), (54, .int .i64 ((i : Int))), (55, .bool false), (72, .int .i64 (((u).ml : Int))), (73, .int .i64 ((k : Int))), (74, .bool r2)] := hS
    have HH6 : Held w w6 [⟨g1_0, (), 6, (u).sc, 25⟩, ⟨g1_1, (), 6, (t).sc, 25⟩] := hH
    clear hS hH HSq1 HHq1
    refine then_ ?_
    refine wp_seq ?_
    cases r2
    · skip
      refine wp_cond_false (HS6.get 10 rfl) ?_
      refine wp_exit ?_
      refine zY ?_
      refine zY ?_
      refine yE ?_
      refine then_ ?_
      refine wp_seq ?_
      have hLo : LOk [(0, 4, .val (.bool true))] := lok (by rfl) (by rfl)
      refine zH (wE := w) (sz := 106) (n := 1) [0] [(0, .val (.agg (FR () 6 ((u).sc)))), (1, .val (.agg (FR () 6 ((t).sc)))), (2, .val (.pointer (some ⟨g1_0, 0, none⟩))), (3, .val (.pointer (some ⟨g1_1, 0, none⟩))), (50, .val (.bool false)), (53, .val (.int .i64 (((u).ll : Int)))), (54, .val (.int .i64 ((i : Int)))), (55, .val (.bool false)), (72, .val (.int .i64 (((u).ml : Int)))), (73, .val (.int .i64 ((k : Int)))), (74, .val (.bool false)), (4, .val (.bool true))] [(0, 4, .val (.bool true))] [⟨g1_0, none, none, (), 6, (u).sc, (u).sc, 25⟩, ⟨g1_1, none, none, (), 6, (t).sc, (t).sc, 25⟩] rfl (by rfl) HH6 rfl rfl hLo rfl HS6 (slS 0 rfl rfl (slS 1 rfl rfl (slS 2 rfl rfl (slS 3 rfl rfl (slS 4 rfl rfl (slS 5 rfl rfl (slS 6 rfl rfl (slS 7 rfl rfl (slS 8 rfl rfl (slS 9 rfl rfl (slS 10 rfl rfl (slL 0 (d := 0) rfl (trivial))))))))))))) ?_ ?_
      · show ∀ i ∈ [0], _
        refine zA (zB 0 _ rfl rfl hLo rfl rfl (fun _ _ _ _ => rfl) (fun b G w hb ho => zD (.inr rfl) (rfl))) ?_
        exact zF
      clear hLo
      intro G a7 w7 hS hH
      have HS7 : Sl a7 106 [(0, .agg (FR () 6 ((u).sc))), (1, .agg (FR () 6 ((t).sc))), (2, .pointer (some ⟨g1_0, 0, none⟩)), (3, .pointer (some ⟨g1_1, 0, none⟩)), (50, .bool false), (53, .int .i64 (((u).ll : Int))), (54, .int .i64 ((i : Int))), (55, .bool false), (72, .int .i64 (((u).ml : Int))), (73, .int .i64 ((k : Int))), (74, .bool false), (4, .bool true)] := hS
      have HH7 : Held w w7 [⟨g1_0, (), 6, (u).sc, 25⟩, ⟨g1_1, (), 6, (t).sc, 25⟩] := hH
      clear hS hH HS6 HH6
      refine then_ ?_
      refine wp_ret ?_
      repeat (first | refine zR ?_ | refine zK ?_)
      exact b_tmp rfl HS7.2.1 (HS7.get 11 rfl) ⟨rfl, HH7.1⟩
    · skip
      have hltk : k < u.ml := by have := of_decide_eq_true hr2; omega
      refine wp_cond_true (HS6.get 10 rfl) ?_
      refine wp_skip ?_
      refine then_ ?_
      refine wp_seq ?_
      refine wp_block ?_
      refine wp_seq ?_
      have hLo : LOk [(0, 75, .val (.int .i64 ((k : Int)))), (1, 6, .val (.int .i64 ((k : Int))))] := lok (by rfl) (by rfl)
      refine zH (wE := w) (sz := 106) (n := 2) [0, 1] [(0, .val (.agg (FR () 6 ((u).sc)))), (1, .val (.agg (FR () 6 ((t).sc)))), (2, .val (.pointer (some ⟨g1_0, 0, none⟩))), (3, .val (.pointer (some ⟨g1_1, 0, none⟩))), (50, .val (.bool false)), (53, .val (.int .i64 (((u).ll : Int)))), (54, .val (.int .i64 ((i : Int)))), (55, .val (.bool false)), (72, .val (.int .i64 (((u).ml : Int)))), (73, .val (.int .i64 ((k : Int)))), (74, .val (.bool true)), (6, .val (.int .i64 ((k : Int))))] [(0, 75, .val (.int .i64 ((k : Int)))), (1, 6, .val (.int .i64 ((k : Int))))] [⟨g1_0, none, none, (), 6, (u).sc, (u).sc, 25⟩, ⟨g1_1, none, none, (), 6, (t).sc, (t).sc, 25⟩] rfl (by rfl) HH6 rfl rfl hLo rfl HS6 (slS 0 rfl rfl (slS 1 rfl rfl (slS 2 rfl rfl (slS 3 rfl rfl (slS 4 rfl rfl (slS 5 rfl rfl (slS 6 rfl rfl (slS 7 rfl rfl (slS 8 rfl rfl (slS 9 rfl rfl (slS 10 rfl rfl (slL 1 (d := 1) rfl (trivial))))))))))))) ?_ ?_
      · show ∀ i ∈ [0, 1], _
        refine zA (zB 0 _ rfl rfl hLo rfl rfl (fun _ _ _ _ => rfl) (fun b G w hb ho => zD (.inl rfl) (zG rfl (HS6.get 9 rfl)))) ?_
        refine zA (zB 1 _ rfl rfl hLo rfl rfl (fun _ _ _ _ => rfl) (fun b G w hb ho => zD (.inr rfl) (zC hLo 0 rfl HS6.1 rfl (hb 0 (by rfl))))) ?_
        exact zF
      clear hLo
      intro G a8 w8 hS hH
      have HS8 : Sl a8 106 [(0, .agg (FR () 6 ((u).sc))), (1, .agg (FR () 6 ((t).sc))), (2, .pointer (some ⟨g1_0, 0, none⟩)), (3, .pointer (some ⟨g1_1, 0, none⟩)), (50, .bool false), (53, .int .i64 (((u).ll : Int))), (54, .int .i64 ((i : Int))), (55, .bool false), (72, .int .i64 (((u).ml : Int))), (73, .int .i64 ((k : Int))), (74, .bool true), (6, .int .i64 ((k : Int)))] := hS
      have HH8 : Held w w8 [⟨g1_0, (), 6, (u).sc, 25⟩, ⟨g1_1, (), 6, (t).sc, 25⟩] := hH
      clear hS hH HS6 HH6
      refine then_ ?_
      obtain ⟨⟨a1, hx1, hk1, hv1⟩, _, hn1⟩ := (hInu).mems (i := k) (by omega)
      obtain ⟨⟨a2, hx2, hk2, hv2⟩, _, hn2⟩ := (hInt).mems (i := k) (by omega)
      obtain ⟨⟨a3, hx3, hk3, hv3⟩, _, hn3⟩ := (hInu).mems (i := k) (by omega)
      obtain ⟨⟨a4, hx4, hk4, hv4⟩, _, hn4⟩ := (hInt).mems (i := k) (by omega)
      refine wp_seq ?_
      have hLo : LOk [(0, 76, .val (.pointer (some ⟨g1_0, 5, none⟩))), (1, 77, .val (.slice ((u).xm) ((u).ml) ((u).cm))), (2, 78, .val (.int .i64 ((k : Int)))), (3, 79, .val (.pointer (some (a1.add ((k) * 7))))), (4, 80, .val (.pointer (some (a1.add ((k) * 7))))), (5, 81, .val (.string ((u).key (k)))), (6, 82, .val (.pointer (some ⟨g1_1, 5, none⟩))), (7, 83, .val (.slice ((t).xm) ((t).ml) ((t).cm))), (8, 84, .val (.int .i64 ((k : Int)))), (9, 85, .val (.pointer (some (a2.add ((k) * 7))))), (10, 86, .val (.pointer (some (a2.add ((k) * 7))))), (11, 87, .val (.string ((t).key (k)))), (12, 88, .val (.bool false)), (13, 89, .val (.bool false)), (14, 90, .val (.pointer (some ⟨g1_0, 5, none⟩))), (15, 91, .val (.slice ((u).xm) ((u).ml) ((u).cm))), (16, 92, .val (.int .i64 ((k : Int)))), (17, 93, .val (.pointer (some (a3.add ((k) * 7))))), (18, 94, .val (.pointer (some ((a3.add ((k) * 7)).add 1)))), (19, 95, .val (.agg (FR () 6 (((u).mem (k)).sc)))), (20, 96, .val (.pointer (some ⟨g1_1, 5, none⟩))), (21, 97, .val (.slice ((t).xm) ((t).ml) ((t).cm))), (22, 98, .val (.int .i64 ((k : Int)))), (23, 99, .val (.pointer (some (a4.add ((k) * 7))))), (24, 100, .val (.pointer (some ((a4.add ((k) * 7)).add 1)))), (25, 101, .val (.agg (FR () 6 (((t).mem (k)).sc)))), (26, 102, .val (.bool true)), (27, 103, .val (.bool false)), (28, 104, .val (.bool false))] := lok (by rfl) (by rfl)
      refine region_ (wE := w) (sz := 106) (n := 29) (B := [0, 1, 0, 7, 15, 31, 0, 64, 0, 448, 960, 1984, 4095, 8191, 16383, 32767, 16383, 131071, 262143, 524287, 16383, 1064959, 16383, 7356415, 15745023, 32522239, 67108863, 134217727, 268435455]) [0, 1, 2, 3, 4, 5, 6, 7, 8, 9, 10, 11, 12, 13, 14, 15, 16, 17, 18, 19, 20, 21, 22, 23, 24, 25, 26, 27, 28] [(0, .val (.agg (FR () 6 ((u).sc)))), (1, .val (.agg (FR () 6 ((t).sc)))), (2, .val (.pointer (some ⟨g1_0, 0, none⟩))), (3, .val (.pointer (some ⟨g1_1, 0, none⟩))), (50, .val (.bool false)), (53, .val (.int .i64 (((u).ll : Int)))), (54, .val (.int .i64 ((i : Int)))), (55, .val (.bool false)), (72, .val (.int .i64 (((u).ml : Int)))), (73, .val (.int .i64 ((k : Int)))), (74, .val (.bool true)), (6, .val (.int .i64 ((k : Int)))), (104, .val (.bool false))] [(0, 76, .val (.pointer (some ⟨g1_0, 5, none⟩))), (1, 77, .val (.slice ((u).xm) ((u).ml) ((u).cm))), (2, 78, .val (.int .i64 ((k : Int)))), (3, 79, .val (.pointer (some (a1.add ((k) * 7))))), (4, 80, .val (.pointer (some (a1.add ((k) * 7))))), (5, 81, .val (.string ((u).key (k)))), (6, 82, .val (.pointer (some ⟨g1_1, 5, none⟩))), (7, 83, .val (.slice ((t).xm) ((t).ml) ((t).cm))), (8, 84, .val (.int .i64 ((k : Int)))), (9, 85, .val (.pointer (some (a2.add ((k) * 7))))), (10, 86, .val (.pointer (some (a2.add ((k) * 7))))), (11, 87, .val (.string ((t).key (k)))), (12, 88, .val (.bool false)), (13, 89, .val (.bool false)), (14, 90, .val (.pointer (some ⟨g1_0, 5, none⟩))), (15, 91, .val (.slice ((u).xm) ((u).ml) ((u).cm))), (16, 92, .val (.int .i64 ((k : Int)))), (17, 93, .val (.pointer (some (a3.add ((k) * 7))))), (18, 94, .val (.pointer (some ((a3.add ((k) * 7)).add 1)))), (19, 95, .val (.agg (FR () 6 (((u).mem (k)).sc)))), (20, 96, .val (.pointer (some ⟨g1_1, 5, none⟩))), (21, 97, .val (.slice ((t).xm) ((t).ml) ((t).cm))), (22, 98, .val (.int .i64 ((k : Int)))), (23, 99, .val (.pointer (some (a4.add ((k) * 7))))), (24, 100, .val (.pointer (some ((a4.add ((k) * 7)).add 1)))), (25, 101, .val (.agg (FR () 6 (((t).mem (k)).sc)))), (26, 102, .val (.bool true)), (27, 103, .val (.bool false)), (28, 104, .val (.bool false))] [⟨g1_0, none, none, (), 6, (u).sc, (u).sc, 25⟩, ⟨g1_1, none, none, (), 6, (t).sc, (t).sc, 25⟩] (by rfl) rfl tabsam_12 bitssam_12 (by kernel_rfl) (by kernel_rfl) HH8 rfl rfl hLo rfl HS8 (slS 0 rfl rfl (slS 1 rfl rfl (slS 2 rfl rfl (slS 3 rfl rfl (slS 4 rfl rfl (slS 5 rfl rfl (slS 6 rfl rfl (slS 7 rfl rfl (slS 8 rfl rfl (slS 9 rfl rfl (slS 10 rfl rfl (slS 11 rfl rfl (slL 28 (d := 28) rfl (trivial)))))))))))))) ?_ ?_
      · show ∀ i ∈ [0, 1, 2, 3, 4, 5, 6, 7, 8, 9, 10, 11, 12, 13, 14, 15, 16, 17, 18, 19, 20, 21, 22, 23, 24, 25, 26, 27, 28], _
        refine zA (zB 0 _ rfl rfl hLo rfl rfl (fun _ _ _ _ => rfl) (fun b G w hb ho => zJ rfl (zG rfl (HS8.get 2 rfl)) (by kernel_rfl))) ?_
        refine zA (zW 1 0 _ _ rfl rfl rfl hLo rfl rfl (fun _ _ _ _ => rfl) (by rfl) (by rfl) (fun b G w hb ho hr => zP hr (Nat.le_of_ble_eq_true rfl) Tryd.underlying23 rfl rfl (zC hLo 0 rfl HS8.1 rfl (hb 0 (by rfl))))) ?_
        refine zA (zB 2 _ rfl rfl hLo rfl rfl (fun _ _ _ _ => rfl) (fun b G w hb ho => zD (.inl rfl) (zG rfl (HS8.get 11 rfl)))) ?_
        refine zA (zB 3 _ rfl rfl hLo rfl rfl (fun _ _ _ _ => rfl) (fun b G w hb ho => zU rfl (zC hLo 1 rfl HS8.1 rfl (hb 1 (by rfl))) (zC hLo 2 rfl HS8.1 rfl (hb 2 (by rfl))) (index_sl Tryd.underlying23 (by kernel_rfl) hx1 (by omega) _))) ?_
        refine zA (zB 4 _ rfl rfl hLo rfl rfl (fun _ _ _ _ => rfl) (fun b G w hb ho => zJ rfl (zC hLo 3 rfl HS8.1 rfl (hb 3 (by rfl))) (by kernel_rfl))) ?_
        refine zA (st_at1 5 (a1.add ((k) * 7)) _ rfl rfl rfl (fun _ _ _ _ => rfl) hLo rfl rfl Tryd.underlying9 rfl (hk1) (fun b G hb ho => zC hLo 4 rfl HS8.1 rfl (hb 4 (by rfl)))) ?_
        refine zA (zB 6 _ rfl rfl hLo rfl rfl (fun _ _ _ _ => rfl) (fun b G w hb ho => zJ rfl (zG rfl (HS8.get 3 rfl)) (by kernel_rfl))) ?_
        refine zA (zW 7 1 _ _ rfl rfl rfl hLo rfl rfl (fun _ _ _ _ => rfl) (by rfl) (by rfl) (fun b G w hb ho hr => zP hr (Nat.le_of_ble_eq_true rfl) Tryd.underlying23 rfl rfl (zC hLo 6 rfl HS8.1 rfl (hb 6 (by rfl))))) ?_
        refine zA (zB 8 _ rfl rfl hLo rfl rfl (fun _ _ _ _ => rfl) (fun b G w hb ho => zD (.inl rfl) (zG rfl (HS8.get 11 rfl)))) ?_
        refine zA (zB 9 _ rfl rfl hLo rfl rfl (fun _ _ _ _ => rfl) (fun b G w hb ho => zU rfl (zC hLo 7 rfl HS8.1 rfl (hb 7 (by rfl))) (zC hLo 8 rfl HS8.1 rfl (hb 8 (by rfl))) (index_sl Tryd.underlying23 (by kernel_rfl) hx2 (by omega) _))) ?_
        refine zA (zB 10 _ rfl rfl hLo rfl rfl (fun _ _ _ _ => rfl) (fun b G w hb ho => zJ rfl (zC hLo 9 rfl HS8.1 rfl (hb 9 (by rfl))) (by kernel_rfl))) ?_
        refine zA (st_at1 11 (a2.add ((k) * 7)) _ rfl rfl rfl (fun _ _ _ _ => rfl) hLo rfl rfl Tryd.underlying9 rfl (hk2) (fun b G hb ho => zC hLo 10 rfl HS8.1 rfl (hb 10 (by rfl)))) ?_
        refine zA (zB 12 _ rfl rfl hLo rfl rfl (fun _ _ _ _ => rfl) (fun b G w hb ho => zI rfl (zC hLo 5 rfl HS8.1 rfl (hb 5 (by rfl))) (zC hLo 11 rfl HS8.1 rfl (hb 11 (by rfl))) (rb_sneq (same_s (hE.mem (by omega)).1) _ _ _))) ?_
        refine zA (zB 13 _ rfl rfl hLo rfl rfl (fun _ _ _ _ => rfl) (fun b G w hb ho => zD (.inl rfl) (zC hLo 12 rfl HS8.1 rfl (hb 12 (by rfl))))) ?_
        refine zA (zB 14 _ rfl rfl hLo rfl rfl (fun b G hb ho => zE rfl rfl rfl HS8.1 rfl (zC hLo 13 rfl HS8.1 rfl (hb 13 (by rfl))) rfl) (fun b G w hb ho => zJ rfl (zG rfl (HS8.get 2 rfl)) (by kernel_rfl))) ?_
        refine zA (zW 15 0 _ _ rfl rfl rfl hLo rfl rfl (fun b G hb ho => zE rfl rfl rfl HS8.1 rfl (zC hLo 13 rfl HS8.1 rfl (hb 13 (by rfl))) rfl) (by rfl) (by rfl) (fun b G w hb ho hr => zP hr (Nat.le_of_ble_eq_true rfl) Tryd.underlying23 rfl rfl (zC hLo 14 rfl HS8.1 rfl (hb 14 (by rfl))))) ?_
        refine zA (zB 16 _ rfl rfl hLo rfl rfl (fun b G hb ho => zE rfl rfl rfl HS8.1 rfl (zC hLo 13 rfl HS8.1 rfl (hb 13 (by rfl))) rfl) (fun b G w hb ho => zD (.inl rfl) (zG rfl (HS8.get 11 rfl)))) ?_
        refine zA (zB 17 _ rfl rfl hLo rfl rfl (fun b G hb ho => zE rfl rfl rfl HS8.1 rfl (zC hLo 13 rfl HS8.1 rfl (hb 13 (by rfl))) rfl) (fun b G w hb ho => zU rfl (zC hLo 15 rfl HS8.1 rfl (hb 15 (by rfl))) (zC hLo 16 rfl HS8.1 rfl (hb 16 (by rfl))) (index_sl Tryd.underlying23 (by kernel_rfl) hx3 (by omega) _))) ?_
        refine zA (zB 18 _ rfl rfl hLo rfl rfl (fun b G hb ho => zE rfl rfl rfl HS8.1 rfl (zC hLo 13 rfl HS8.1 rfl (hb 13 (by rfl))) rfl) (fun b G w hb ho => zJ rfl (zC hLo 17 rfl HS8.1 rfl (hb 17 (by rfl))) (by kernel_rfl))) ?_
        refine zA (st_at 19 ((a3.add ((k) * 7)).add 1) rfl rfl rfl (fun b G hb ho => zE rfl rfl rfl HS8.1 rfl (zC hLo 13 rfl HS8.1 rfl (hb 13 (by rfl))) rfl) hLo rfl rfl Tryd.underlying25 (by kernel_rfl) rfl (at7v hv3) (fun b G hb ho => zC hLo 18 rfl HS8.1 rfl (hb 18 (by rfl)))) ?_
        refine zA (zB 20 _ rfl rfl hLo rfl rfl (fun b G hb ho => zE rfl rfl rfl HS8.1 rfl (zC hLo 13 rfl HS8.1 rfl (hb 13 (by rfl))) rfl) (fun b G w hb ho => zJ rfl (zG rfl (HS8.get 3 rfl)) (by kernel_rfl))) ?_
        refine zA (zW 21 1 _ _ rfl rfl rfl hLo rfl rfl (fun b G hb ho => zE rfl rfl rfl HS8.1 rfl (zC hLo 13 rfl HS8.1 rfl (hb 13 (by rfl))) rfl) (by rfl) (by rfl) (fun b G w hb ho hr => zP hr (Nat.le_of_ble_eq_true rfl) Tryd.underlying23 rfl rfl (zC hLo 20 rfl HS8.1 rfl (hb 20 (by rfl))))) ?_
        refine zA (zB 22 _ rfl rfl hLo rfl rfl (fun b G hb ho => zE rfl rfl rfl HS8.1 rfl (zC hLo 13 rfl HS8.1 rfl (hb 13 (by rfl))) rfl) (fun b G w hb ho => zD (.inl rfl) (zG rfl (HS8.get 11 rfl)))) ?_
        refine zA (zB 23 _ rfl rfl hLo rfl rfl (fun b G hb ho => zE rfl rfl rfl HS8.1 rfl (zC hLo 13 rfl HS8.1 rfl (hb 13 (by rfl))) rfl) (fun b G w hb ho => zU rfl (zC hLo 21 rfl HS8.1 rfl (hb 21 (by rfl))) (zC hLo 22 rfl HS8.1 rfl (hb 22 (by rfl))) (index_sl Tryd.underlying23 (by kernel_rfl) hx4 (by omega) _))) ?_
        refine zA (zB 24 _ rfl rfl hLo rfl rfl (fun b G hb ho => zE rfl rfl rfl HS8.1 rfl (zC hLo 13 rfl HS8.1 rfl (hb 13 (by rfl))) rfl) (fun b G w hb ho => zJ rfl (zC hLo 23 rfl HS8.1 rfl (hb 23 (by rfl))) (by kernel_rfl))) ?_
        refine zA (st_at 25 ((a4.add ((k) * 7)).add 1) rfl rfl rfl (fun b G hb ho => zE rfl rfl rfl HS8.1 rfl (zC hLo 13 rfl HS8.1 rfl (hb 13 (by rfl))) rfl) hLo rfl rfl Tryd.underlying25 (by kernel_rfl) rfl (at7v hv4) (fun b G hb ho => zC hLo 24 rfl HS8.1 rfl (hb 24 (by rfl)))) ?_
        refine zA (yB 26 _ #[.agg (FR () 6 (((u).mem (k)).sc)), .agg (FR () 6 (((t).mem (k)).sc))] rfl rfl rfl (fun b G hb ho => zE rfl rfl rfl HS8.1 rfl (zC hLo 13 rfl HS8.1 rfl (hb 13 (by rfl))) rfl) hLo rfl rfl Tryd.func24 rfl rfl (fun b G hb ho => args2 (zC hLo 19 rfl HS8.1 rfl (hb 19 (by rfl))) (zC hLo 25 rfl HS8.1 rfl (hb 25 (by rfl)))) (fun w hw => ihM k (by omega) _ _ (hE.mem (by omega)).2 ((hInt.mem (i := k) (by omega)).below hw) ((hInu.mem (i := k) (by omega)).below hw))) ?_
        refine zA (zB 27 _ rfl rfl hLo rfl rfl (fun b G hb ho => zE rfl rfl rfl HS8.1 rfl (zC hLo 13 rfl HS8.1 rfl (hb 13 (by rfl))) rfl) (fun b G w hb ho => exec_un rfl (zC hLo 26 rfl HS8.1 rfl (hb 26 (by rfl))) (ru_not _))) ?_
        refine zA (zB 28 _ rfl rfl hLo rfl rfl (fun _ _ _ _ => rfl) (fun b G w hb ho => zL rfl (zC hLo 13 rfl HS8.1 rfl (hb 13 (by rfl))) (zC hLo 27 rfl HS8.1 rfl (hb 27 (by rfl))))) ?_
        exact zF
      clear hLo
      intro G a9 w9 hS hH
      have HS9 : Sl a9 106 [(0, .agg (FR () 6 ((u).sc))), (1, .agg (FR () 6 ((t).sc))), (2, .pointer (some ⟨g1_0, 0, none⟩)), (3, .pointer (some ⟨g1_1, 0, none⟩)), (50, .bool false), (53, .int .i64 (((u).ll : Int))), (54, .int .i64 ((i : Int))), (55, .bool false), (72, .int .i64 (((u).ml : Int))), (73, .int .i64 ((k : Int))), (74, .bool true), (6, .int .i64 ((k : Int))), (104, .bool false)] := hS
      have HH9 : Held w w9 [⟨g1_0, (), 6, (u).sc, 25⟩, ⟨g1_1, (), 6, (t).sc, 25⟩] := hH
      clear hS hH HS8 HH8
      refine then_ ?_
      refine wp_cond_false (HS9.get 12 rfl) ?_
      refine wp_skip ?_
      refine zQ ?_
      refine then_ ?_
      have hLo : LOk [(0, 105, .val (.int .i64 (((k + 1 : Nat) : Int)))), (1, 73, .val (.int .i64 (((k + 1 : Nat) : Int))))] := lok (by rfl) (by rfl)
      refine zH (wE := w) (sz := 106) (n := 2) [0, 1] [(0, .val (.agg (FR () 6 ((u).sc)))), (1, .val (.agg (FR () 6 ((t).sc)))), (2, .val (.pointer (some ⟨g1_0, 0, none⟩))), (3, .val (.pointer (some ⟨g1_1, 0, none⟩))), (50, .val (.bool false)), (53, .val (.int .i64 (((u).ll : Int)))), (54, .val (.int .i64 ((i : Int)))), (55, .val (.bool false)), (72, .val (.int .i64 (((u).ml : Int)))), (74, .val (.bool true)), (6, .val (.int .i64 ((k : Int)))), (104, .val (.bool false)), (73, .val (.int .i64 (((k + 1 : Nat) : Int))))] [(0, 105, .val (.int .i64 (((k + 1 : Nat) : Int)))), (1, 73, .val (.int .i64 (((k + 1 : Nat) : Int))))] [⟨g1_0, none, none, (), 6, (u).sc, (u).sc, 25⟩, ⟨g1_1, none, none, (), 6, (t).sc, (t).sc, 25⟩] rfl (by rfl) HH9 rfl rfl hLo rfl HS9 (slS 0 rfl rfl (slS 1 rfl rfl (slS 2 rfl rfl (slS 3 rfl rfl (slS 4 rfl rfl (slS 5 rfl rfl (slS 6 rfl rfl (slS 7 rfl rfl (slS 8 rfl rfl (slS 10 rfl rfl (slS 11 rfl rfl (slS 12 rfl rfl (slL 1 (d := 1) rfl (trivial)))))))))))))) ?_ ?_
      · show ∀ i ∈ [0, 1], _
        refine zA (zB 0 _ rfl rfl hLo rfl rfl (fun _ _ _ _ => rfl) (fun b G w hb ho => zI rfl (ev_pre hLo 1 rfl (ho 1 (by rfl)) (HS9.get 9 rfl)) (rfl) (rb_add (w_nat (by omega) (by omega)) _ _ _))) ?_
        refine zA (zB 1 _ rfl rfl hLo rfl rfl (fun _ _ _ _ => rfl) (fun b G w hb ho => zD (.inl rfl) (zC hLo 0 rfl HS9.1 rfl (hb 0 (by rfl))))) ?_
        exact zF
      clear hLo
      intro G a10 w10 hS hH
      have HS10 : Sl a10 106 [(0, .agg (FR () 6 ((u).sc))), (1, .agg (FR () 6 ((t).sc))), (2, .pointer (some ⟨g1_0, 0, none⟩)), (3, .pointer (some ⟨g1_1, 0, none⟩)), (50, .bool false), (53, .int .i64 (((u).ll : Int))), (54, .int .i64 ((i : Int))), (55, .bool false), (72, .int .i64 (((u).ml : Int))), (74, .bool true), (6, .int .i64 ((k : Int))), (104, .bool false), (73, .int .i64 (((k + 1 : Nat) : Int)))] := hS
      have HH10 : Held w w10 [⟨g1_0, (), 6, (u).sc, 25⟩, ⟨g1_1, (), 6, (t).sc, 25⟩] := hH
      clear hS hH HS9 HH9
      refine then_ ?_
      have hSq1' : Sl _ 106 [(0, .agg (FR () 6 ((u).sc))), (1, .agg (FR () 6 ((t).sc))), (2, .pointer (some ⟨g1_0, 0, none⟩)), (3, .pointer (some ⟨g1_1, 0, none⟩)), (50, .bool false), (53, .int .i64 (((u).ll : Int))), (54, .int .i64 ((i : Int))), (55, .bool false), (72, .int .i64 (((u).ml : Int))), (73, .int .i64 (((k + 1 : Nat) : Int)))] := yA HS10 [0, 1, 2, 3, 4, 5, 6, 7, 8, 12] (by rfl)
      have hHq1' : Held w _ [⟨g1_0, (), 6, (u).sc, 25⟩, ⟨g1_1, (), 6, (t).sc, 25⟩] := yD HH10 2 rfl
      exact ⟨⟨k + 1, by omega, hSq1', hHq1'⟩, by rw [(hSq1'.get 9 rfl)]; show u.ml - (((k + 1 : Nat) : Int)).toNat < u.ml - k; omega⟩
  · skip
    have hlti : i < u.ll := by have := of_decide_eq_true hr1; omega
    refine wp_cond_true (HS4.get 7 rfl) ?_
    refine wp_skip ?_
    refine then_ ?_
    refine wp_seq ?_
    refine wp_block ?_
    refine wp_seq ?_
    have hLo : LOk [(0, 56, .val (.int .i64 ((i : Int)))), (1, 5, .val (.int .i64 ((i : Int))))] := lok (by rfl) (by rfl)
    refine zH (wE := w) (sz := 106) (n := 2) [0, 1] [(0, .val (.agg (FR () 6 ((u).sc)))), (1, .val (.agg (FR () 6 ((t).sc)))), (2, .val (.pointer (some ⟨g1_0, 0, none⟩))), (3, .val (.pointer (some ⟨g1_1, 0, none⟩))), (50, .val (.bool false)), (53, .val (.int .i64 (((u).ll : Int)))), (54, .val (.int .i64 ((i : Int)))), (55, .val (.bool true)), (5, .val (.int .i64 ((i : Int))))] [(0, 56, .val (.int .i64 ((i : Int)))), (1, 5, .val (.int .i64 ((i : Int))))] [⟨g1_0, none, none, (), 6, (u).sc, (u).sc, 25⟩, ⟨g1_1, none, none, (), 6, (t).sc, (t).sc, 25⟩] rfl (by rfl) HH4 rfl rfl hLo rfl HS4 (slS 0 rfl rfl (slS 1 rfl rfl (slS 2 rfl rfl (slS 3 rfl rfl (slS 4 rfl rfl (slS 5 rfl rfl (slS 6 rfl rfl (slS 7 rfl rfl (slL 1 (d := 1) rfl (trivial)))))))))) ?_ ?_
    · show ∀ i ∈ [0, 1], _
      refine zA (zB 0 _ rfl rfl hLo rfl rfl (fun _ _ _ _ => rfl) (fun b G w hb ho => zD (.inl rfl) (zG rfl (HS4.get 6 rfl)))) ?_
      refine zA (zB 1 _ rfl rfl hLo rfl rfl (fun _ _ _ _ => rfl) (fun b G w hb ho => zD (.inr rfl) (zC hLo 0 rfl HS4.1 rfl (hb 0 (by rfl))))) ?_
      exact zF
    clear hLo
    intro G a11 w11 hS hH
    have HS11 : Sl a11 106 [(0, .agg (FR () 6 ((u).sc))), (1, .agg (FR () 6 ((t).sc))), (2, .pointer (some ⟨g1_0, 0, none⟩)), (3, .pointer (some ⟨g1_1, 0, none⟩)), (50, .bool false), (53, .int .i64 (((u).ll : Int))), (54, .int .i64 ((i : Int))), (55, .bool true), (5, .int .i64 ((i : Int)))] := hS
    have HH11 : Held w w11 [⟨g1_0, (), 6, (u).sc, 25⟩, ⟨g1_1, (), 6, (t).sc, 25⟩] := hH
    clear hS hH HS4 HH4
    refine then_ ?_
    obtain ⟨⟨a1, hx1, hv1⟩, hn1⟩ := (hInu).elms (i := i) (by omega)
    obtain ⟨⟨a2, hx2, hv2⟩, hn2⟩ := (hInt).elms (i := i) (by omega)
    refine wp_seq ?_
    have hLo : LOk [(0, 57, .val (.pointer (some ⟨g1_0, 4, none⟩))), (1, 58, .val (.slice ((u).xl) ((u).ll) ((u).cl))), (2, 59, .val (.int .i64 ((i : Int)))), (3, 60, .val (.pointer (some (a1.add ((i) * 6))))), (4, 61, .val (.agg (FR () 6 (((u).elm (i)).sc)))), (5, 62, .val (.pointer (some ⟨g1_1, 4, none⟩))), (6, 63, .val (.slice ((t).xl) ((t).ll) ((t).cl))), (7, 64, .val (.int .i64 ((i : Int)))), (8, 65, .val (.pointer (some (a2.add ((i) * 6))))), (9, 66, .val (.agg (FR () 6 (((t).elm (i)).sc)))), (10, 67, .val (.bool true)), (11, 68, .val (.bool false))] := lok (by rfl) (by rfl)
    refine region_ (wE := w) (sz := 106) (n := 12) (B := [0, 1, 0, 7, 15, 0, 32, 0, 224, 480, 1023, 2047]) [0, 1, 2, 3, 4, 5, 6, 7, 8, 9, 10, 11] [(0, .val (.agg (FR () 6 ((u).sc)))), (1, .val (.agg (FR () 6 ((t).sc)))), (2, .val (.pointer (some ⟨g1_0, 0, none⟩))), (3, .val (.pointer (some ⟨g1_1, 0, none⟩))), (50, .val (.bool false)), (53, .val (.int .i64 (((u).ll : Int)))), (54, .val (.int .i64 ((i : Int)))), (55, .val (.bool true)), (5, .val (.int .i64 ((i : Int)))), (68, .val (.bool false))] [(0, 57, .val (.pointer (some ⟨g1_0, 4, none⟩))), (1, 58, .val (.slice ((u).xl) ((u).ll) ((u).cl))), (2, 59, .val (.int .i64 ((i : Int)))), (3, 60, .val (.pointer (some (a1.add ((i) * 6))))), (4, 61, .val (.agg (FR () 6 (((u).elm (i)).sc)))), (5, 62, .val (.pointer (some ⟨g1_1, 4, none⟩))), (6, 63, .val (.slice ((t).xl) ((t).ll) ((t).cl))), (7, 64, .val (.int .i64 ((i : Int)))), (8, 65, .val (.pointer (some (a2.add ((i) * 6))))), (9, 66, .val (.agg (FR () 6 (((t).elm (i)).sc)))), (10, 67, .val (.bool true)), (11, 68, .val (.bool false))] [⟨g1_0, none, none, (), 6, (u).sc, (u).sc, 25⟩, ⟨g1_1, none, none, (), 6, (t).sc, (t).sc, 25⟩] (by rfl) rfl tabsam_6 bitssam_6 (by kernel_rfl) (by kernel_rfl) HH11 rfl rfl hLo rfl HS11 (slS 0 rfl rfl (slS 1 rfl rfl (slS 2 rfl rfl (slS 3 rfl rfl (slS 4 rfl rfl (slS 5 rfl rfl (slS 6 rfl rfl (slS 7 rfl rfl (slS 8 rfl rfl (slL 11 (d := 11) rfl (trivial))))))))))) ?_ ?_
    · show ∀ i ∈ [0, 1, 2, 3, 4, 5, 6, 7, 8, 9, 10, 11], _
      refine zA (zB 0 _ rfl rfl hLo rfl rfl (fun _ _ _ _ => rfl) (fun b G w hb ho => zJ rfl (zG rfl (HS11.get 2 rfl)) (by kernel_rfl))) ?_
      refine zA (zW 1 0 _ _ rfl rfl rfl hLo rfl rfl (fun _ _ _ _ => rfl) (by rfl) (by rfl) (fun b G w hb ho hr => zP hr (Nat.le_of_ble_eq_true rfl) Tryd.underlying22 rfl rfl (zC hLo 0 rfl HS11.1 rfl (hb 0 (by rfl))))) ?_
      refine zA (zB 2 _ rfl rfl hLo rfl rfl (fun _ _ _ _ => rfl) (fun b G w hb ho => zD (.inl rfl) (zG rfl (HS11.get 8 rfl)))) ?_
      refine zA (zB 3 _ rfl rfl hLo rfl rfl (fun _ _ _ _ => rfl) (fun b G w hb ho => zU rfl (zC hLo 1 rfl HS11.1 rfl (hb 1 (by rfl))) (zC hLo 2 rfl HS11.1 rfl (hb 2 (by rfl))) (index_sl Tryd.underlying22 (by kernel_rfl) hx1 (by omega) _))) ?_
      refine zA (st_at 4 (a1.add ((i) * 6)) rfl rfl rfl (fun _ _ _ _ => rfl) hLo rfl rfl Tryd.underlying25 (by kernel_rfl) rfl (at6e hv1) (fun b G hb ho => zC hLo 3 rfl HS11.1 rfl (hb 3 (by rfl)))) ?_
      refine zA (zB 5 _ rfl rfl hLo rfl rfl (fun _ _ _ _ => rfl) (fun b G w hb ho => zJ rfl (zG rfl (HS11.get 3 rfl)) (by kernel_rfl))) ?_
      refine zA (zW 6 1 _ _ rfl rfl rfl hLo rfl rfl (fun _ _ _ _ => rfl) (by rfl) (by rfl) (fun b G w hb ho hr => zP hr (Nat.le_of_ble_eq_true rfl) Tryd.underlying22 rfl rfl (zC hLo 5 rfl HS11.1 rfl (hb 5 (by rfl))))) ?_
      refine zA (zB 7 _ rfl rfl hLo rfl rfl (fun _ _ _ _ => rfl) (fun b G w hb ho => zD (.inl rfl) (zG rfl (HS11.get 8 rfl)))) ?_
      refine zA (zB 8 _ rfl rfl hLo rfl rfl (fun _ _ _ _ => rfl) (fun b G w hb ho => zU rfl (zC hLo 6 rfl HS11.1 rfl (hb 6 (by rfl))) (zC hLo 7 rfl HS11.1 rfl (hb 7 (by rfl))) (index_sl Tryd.underlying22 (by kernel_rfl) hx2 (by omega) _))) ?_
      refine zA (st_at 9 (a2.add ((i) * 6)) rfl rfl rfl (fun _ _ _ _ => rfl) hLo rfl rfl Tryd.underlying25 (by kernel_rfl) rfl (at6e hv2) (fun b G hb ho => zC hLo 8 rfl HS11.1 rfl (hb 8 (by rfl)))) ?_
      refine zA (yB 10 _ #[.agg (FR () 6 (((u).elm (i)).sc)), .agg (FR () 6 (((t).elm (i)).sc))] rfl rfl rfl (fun _ _ _ _ => rfl) hLo rfl rfl Tryd.func24 rfl rfl (fun b G hb ho => args2 (zC hLo 4 rfl HS11.1 rfl (hb 4 (by rfl))) (zC hLo 9 rfl HS11.1 rfl (hb 9 (by rfl)))) (fun w hw => ihL i (by omega) _ _ (hE.elm (by omega)) ((hInt.elms (i := i) (by omega)).2.below hw) ((hInu.elms (i := i) (by omega)).2.below hw))) ?_
      refine zA (zB 11 _ rfl rfl hLo rfl rfl (fun _ _ _ _ => rfl) (fun b G w hb ho => exec_un rfl (zC hLo 10 rfl HS11.1 rfl (hb 10 (by rfl))) (ru_not _))) ?_
      exact zF
    clear hLo
    intro G a12 w12 hS hH
    have HS12 : Sl a12 106 [(0, .agg (FR () 6 ((u).sc))), (1, .agg (FR () 6 ((t).sc))), (2, .pointer (some ⟨g1_0, 0, none⟩)), (3, .pointer (some ⟨g1_1, 0, none⟩)), (50, .bool false), (53, .int .i64 (((u).ll : Int))), (54, .int .i64 ((i : Int))), (55, .bool true), (5, .int .i64 ((i : Int))), (68, .bool false)] := hS
    have HH12 : Held w w12 [⟨g1_0, (), 6, (u).sc, 25⟩, ⟨g1_1, (), 6, (t).sc, 25⟩] := hH
    clear hS hH HS11 HH11
    refine then_ ?_
    refine wp_cond_false (HS12.get 9 rfl) ?_
    refine wp_skip ?_
    refine zQ ?_
    refine then_ ?_
    have hLo : LOk [(0, 69, .val (.int .i64 (((i + 1 : Nat) : Int)))), (1, 54, .val (.int .i64 (((i + 1 : Nat) : Int))))] := lok (by rfl) (by rfl)
    refine zH (wE := w) (sz := 106) (n := 2) [0, 1] [(0, .val (.agg (FR () 6 ((u).sc)))), (1, .val (.agg (FR () 6 ((t).sc)))), (2, .val (.pointer (some ⟨g1_0, 0, none⟩))), (3, .val (.pointer (some ⟨g1_1, 0, none⟩))), (50, .val (.bool false)), (53, .val (.int .i64 (((u).ll : Int)))), (55, .val (.bool true)), (5, .val (.int .i64 ((i : Int)))), (68, .val (.bool false)), (54, .val (.int .i64 (((i + 1 : Nat) : Int))))] [(0, 69, .val (.int .i64 (((i + 1 : Nat) : Int)))), (1, 54, .val (.int .i64 (((i + 1 : Nat) : Int))))] [⟨g1_0, none, none, (), 6, (u).sc, (u).sc, 25⟩, ⟨g1_1, none, none, (), 6, (t).sc, (t).sc, 25⟩] rfl (by rfl) HH12 rfl rfl hLo rfl HS12 (slS 0 rfl rfl (slS 1 rfl rfl (slS 2 rfl rfl (slS 3 rfl rfl (slS 4 rfl rfl (slS 5 rfl rfl (slS 7 rfl rfl (slS 8 rfl rfl (slS 9 rfl rfl (slL 1 (d := 1) rfl (trivial))))))))))) ?_ ?_
    · show ∀ i ∈ [0, 1], _
      refine zA (zB 0 _ rfl rfl hLo rfl rfl (fun _ _ _ _ => rfl) (fun b G w hb ho => zI rfl (ev_pre hLo 1 rfl (ho 1 (by rfl)) (HS12.get 6 rfl)) (rfl) (rb_add (w_nat (by omega) (by omega)) _ _ _))) ?_
      refine zA (zB 1 _ rfl rfl hLo rfl rfl (fun _ _ _ _ => rfl) (fun b G w hb ho => zD (.inl rfl) (zC hLo 0 rfl HS12.1 rfl (hb 0 (by rfl))))) ?_
      exact zF
    clear hLo
    intro G a13 w13 hS hH
    have HS13 : Sl a13 106 [(0, .agg (FR () 6 ((u).sc))), (1, .agg (FR () 6 ((t).sc))), (2, .pointer (some ⟨g1_0, 0, none⟩)), (3, .pointer (some ⟨g1_1, 0, none⟩)), (50, .bool false), (53, .int .i64 (((u).ll : Int))), (55, .bool true), (5, .int .i64 ((i : Int))), (68, .bool false), (54, .int .i64 (((i + 1 : Nat) : Int)))] := hS
    have HH13 : Held w w13 [⟨g1_0, (), 6, (u).sc, 25⟩, ⟨g1_1, (), 6, (t).sc, 25⟩] := hH
    clear hS hH HS12 HH12
    refine then_ ?_
    have hSq0' : Sl _ 106 [(0, .agg (FR () 6 ((u).sc))), (1, .agg (FR () 6 ((t).sc))), (2, .pointer (some ⟨g1_0, 0, none⟩)), (3, .pointer (some ⟨g1_1, 0, none⟩)), (50, .bool false), (53, .int .i64 (((u).ll : Int))), (54, .int .i64 (((i + 1 : Nat) : Int)))] := yA HS13 [0, 1, 2, 3, 4, 5, 9] (by rfl)
    have hHq0' : Held w _ [⟨g1_0, (), 6, (u).sc, 25⟩, ⟨g1_1, (), 6, (t).sc, 25⟩] := yD HH13 2 rfl
    exact ⟨⟨i + 1, by omega, hSq0', hHq0'⟩, by rw [(hSq0'.get 6 rfl)]; show u.ll - (((i + 1 : Nat) : Int)).toNat < u.ll - i; omega⟩
theorem same_calls : ∀ (t u : T) (w : World), Eqv t u → In w t → In w u → Calls Tryd.prog 24 #[u.val, (t).val] w fun e w' => e = .returned (.bool true) ∧ Below w.heap.size w w' :=
  T.rec2 (Q := fun t => ∀ (u : T) (w : World), Eqv t u → In w t → In w u → Calls Tryd.prog 24 #[u.val, (t).val] w fun e w' => e = .returned (.bool true) ∧ Below w.heap.size w w') fun t ihM ihL u w hE h1 h2 => same_step hE h1 h2 ihM ihL
def Small : T → Prop
  | .no => True
  | .mk _ _ _ _ _ ll _ L _ ml _ _ M => ll ≤ 1073741824 ∧ ml ≤ 1073741824 ∧ (∀ i, i < ll → Small (L i)) ∧ ∀ i, i < ml → Small (M i)
theorem Small.own {t : T} (h : Small t) : t.ll ≤ 1073741824 ∧ t.ml ≤ 1073741824 := by
  cases t with
  | no => exact ⟨Nat.zero_le _, Nat.zero_le _⟩
  | mk k is n s xl ll cl L xm ml cm K M => exact ⟨h.1, h.2.1⟩
theorem Small.elm {t : T} (h : Small t) {i : Nat} (hi : i < t.ll) : Small (t.elm i) := by
  cases t with
  | no => exact absurd hi (Nat.not_lt_zero _)
  | mk k is n s xl ll cl L xm ml cm K M => exact h.2.2.1 i hi
theorem Small.mem {t : T} (h : Small t) {i : Nat} (hi : i < t.ml) : Small (t.mem i) := by
  cases t with
  | no => exact absurd hi (Nat.not_lt_zero _)
  | mk k is n s xl ll cl L xm ml cm K M => exact h.2.2.2 i hi
theorem weigh_small : ∀ (t : T) (w : World), In w t → ∀ l d : Int, -1125899906842624 ≤ l → l ≤ 4096 → 0 ≤ weigh t l d → Small t :=
  T.rec2 (Q := fun t => ∀ w : World, In w t → ∀ l d : Int, -1125899906842624 ≤ l → l ≤ 4096 → 0 ≤ weigh t l d → Small t) fun t ihM ihL w hIn l d hl1 hl2 h => by
    have hW := weigh_le t w hIn l d hl1 hl2 h
    have h0 := h
    rw [weigh_eq hIn] at h
    by_cases hd : d = 0
    · rw [if_pos hd] at h; omega
    · rw [if_neg hd] at h
      have hts := hIn.own.2.2.1
      unfold reach47 at hts
      rw [i64_id (z := l - 1) (by omega), i64_id (z := l - 1 - _) (by omega)] at h
      have hL : ∀ i x, i < t.ll → 0 ≤ x → x ≤ 4096 → 0 ≤ weigh (t.elm i) x (IntKind.i64.wrap (d - 1)) → weigh (t.elm i) x (IntKind.i64.wrap (d - 1)) + 1 ≤ x := fun i x hi h0 h1 h2 => by
        have := (weigh_le (t.elm i) w (hIn.elms hi).2 x _ (by omega) h1 h2).1
        omega
      obtain ⟨m, hm⟩ : ∃ m, m = iterW (fun i x => weigh (t.elm i) x (IntKind.i64.wrap (d - 1))) t.ll t.ll (l - 1 - (t.txt).size) := ⟨_, rfl⟩
      rw [← hm] at h
      have hm0 : 0 ≤ m := by
        apply Decidable.byContradiction
        intro hn
        rw [iterW_stop hn] at h; exact hn h
      rw [hm] at hm0
      have h3 := iterW_le (n := t.ll) (f := fun i x => weigh (t.elm i) x (IntKind.i64.wrap (d - 1))) (fun i x hi h0 h1 h2 => hL i x hi h0 h1 h2) t.ll (l - 1 - (t.txt).size) (Nat.le_refl _) (by omega) hm0
      have h4 := iterW_all (n := t.ll) (f := fun i x => weigh (t.elm i) x (IntKind.i64.wrap (d - 1))) (fun i x hi h0 h1 h2 => hL i x hi h0 h1 h2) t.ll (l - 1 - (t.txt).size) (Nat.le_refl _) (by omega) hm0
      have a1 : t.ll ≤ 1073741824 := by omega
      have a2 : t.ml ≤ 1073741824 := by omega
      have a3 : ∀ i, i < t.ll → Small (t.elm i) := fun i hi => by
        obtain ⟨x, h5, h6, h7⟩ := h4 i (by omega) hi
        exact ihL i hi w (hIn.elms hi).2 x _ (by omega) h6 h7
      have a4 : ∀ i, i < t.ml → Small (t.mem i) := fun i hi => by
        obtain ⟨x, d', h5, h6, h7⟩ := hW.2 i hi
        exact ihM i hi w (hIn.mem hi) x d' h5 h6 h7
      cases t with
      | no => trivial
      | mk k is n s xl ll cl L xm ml cm K M => exact ⟨a1, a2, a3, a4⟩
theorem great_Small {w : World} {t : T} (hIn : In w t) (h : greatB t = false) : Small t := by
  unfold greatB at h
  rw [Bool.or_eq_false_iff] at h
  have h0 : 0 ≤ weigh t 4096 60 := by have := of_decide_eq_false h.1; omega
  exact weigh_small t w hIn 4096 60 (by decide) (by decide) h0
def zV : Value := .agg #[.int .i64 0, .bool false, .int .i64 0, .string ByteArray.empty, .slice none 0 0, .slice none 0 0]
theorem infV : (Tryd.prog.info? 25).map (fun i => (i.zero, i.size, i.bytes)) = some (some zV, 6, 88) := by kernel_rfl
theorem zV6 : zV.cells.size = 6 := by rfl
theorem msk_new {B : Nat} {gs : List Nat} {own : Option Nat} {wa w : World} (hB : B ≤ wa.heap.size) (hg : ∀ g ∈ gs, g < wa.heap.size) (ho : ∀ k, own = some k → k < wa.heap.size) : Sub (msk (fun k => decide (wa.heap.size ≤ k)) w) (msk (apart B gs own) w) := fun x v h => by
  obtain ⟨h1, h2⟩ := msk_cell.1 h
  have h1 := of_decide_eq_true h1
  refine msk_cell.2 ⟨apart_is.2 ⟨by omega, fun q => ?_, fun q => ?_⟩, h2⟩
  · have := hg _ q; omega
  · have := ho _ q; omega
theorem apart_next {B n : Nat} {gs : List Nat} {own own' : Option Nat} (hv : own' = own ∨ own' = some n) : ∀ k, k < n → apart B gs own k = true → apart B gs own' k = true := fun k hk h => by
  obtain ⟨h1, h2, h3⟩ := apart_is.1 h
  refine apart_is.2 ⟨h1, h2, ?_⟩
  rcases hv with hv | hv
  · rw [hv]; exact h3
  · rw [hv]; intro e; injection e with e; omega
theorem msk_none {B : Nat} {gs : List Nat} {own : Option Nat} {w : World} : Sub (msk (apart B gs own) w) (msk (apart B gs none) w) := fun x v h => by
  obtain ⟨h1, h2⟩ := msk_cell.1 h
  obtain ⟨a, b, _⟩ := apart_is.1 h1
  exact msk_cell.2 ⟨apart_is.2 ⟨a, b, by simp⟩, h2⟩
theorem msk_all {B : Nat} {gs : List Nat} {own : Option Nat} {w : World} : Sub (msk (apart B gs own) w) (msk (fun k => decide (B ≤ k)) w) := fun x v h => by
  obtain ⟨h1, h2⟩ := msk_cell.1 h
  exact msk_cell.2 ⟨decide_eq_true (apart_is.1 h1).1, h2⟩
theorem app_own {w0 w : World} {gs : List Nat} {R : List RowD} {e t : TypeId} {z : Value} {size bytes n m : Nat} {v x : Value} {xs news : List Value} (ty : TypeId) (ht : Tryd.prog.underlying t = some (.slice e)) (hinf : (Tryd.prog.info? e).map (fun i => (i.zero, i.size, i.bytes)) = some (some z, size, bytes)) (hzs : z.cells.size = size)
    (hO : OwnR w0.heap.size w e size gs v n xs) (hsrc : Src Tryd.prog size t x m news w) (hn : n + m ≤ 4294967296) (hb : bytes ≤ 128) (hH : Held w0 w R) (hgs : R.map RowD.g = gs) :
    ∃ oa c w', (Builtin.append_ #[t, t] ty #[v, x]).run Tryd.prog w = .ok (.slice oa (n + m) c) w' ∧ OwnR w0.heap.size w' e size gs (.slice oa (n + m) c) (n + m) (xs ++ news) ∧ Held w0 w' R ∧ Sub (msk (apart w0.heap.size gs v.ownBlock) w) (msk (apart w0.heap.size gs (Value.slice oa (n + m) c).ownBlock) w') := by
  obtain ⟨v', w', hr, ho, hg, hv⟩ := run_append_G (ty := ty) w0.heap.size ht hinf hzs hO.own hsrc (by unfold maxLen; omega) (by
    have := Nat.mul_le_mul hn hb
    omega) hH.1.size
  have hgl : ∀ g ∈ gs, g < w.heap.size := fun g hm => by
    subst hgs
    obtain ⟨r, hr, rfl⟩ := List.mem_map.1 hm
    exact (hH.2.1 r hr).2.lt
  have hO' := hO.grow ho hv hgl
  obtain ⟨oa, c, rfl, _, _⟩ := hO'.slice
  exact ⟨oa, c, w', hr, hO', hH.grown hg (fun k hk => (hO.own.lt k hk).1) (fun r hr => hO.apart r.g (by rw [← hgs]; exact List.mem_map_of_mem hr)), msk_grown hg (fun k hk => apart_no hk) (apart_next hv)⟩
section
variable {P : Program} {ops : Array Oper} {Q : Exit → Act → World → Prop} {i : Nat}
theorem cut_put {g n j : Nat} {a : Act} {w : World} {oi : Oper} {f : Nat → SC} {z : SC} {t ty : TypeId} {x y : Operand} (hoi : ops[i]? = some oi) (hN : oi.dst = none) (hop : oi.op = .store ty x y) (hw : Region.wanted oi (yielded ops a.tmps) = true) (hr : Row w g () n f t) (hj : j < n) (hi : (P.info? ty).map (·.size) = some 1)
    (hx : a.eval x = .pointer (some ⟨g, j, none⟩)) (hy : a.eval y = mkc () z) (h : ∀ w', Stored w w' g → Row w' g () n (upd f j z) t → wpList P ops Q (ops.toList.drop (i + 1)) a w') : wpList P ops Q (ops.toList.drop i) a w := by
  rw [drop_at hoi]
  refine wpList_step (fun K hK => ?_)
  rw [if_pos hw]
  obtain ⟨w', hr1, hs, hr2⟩ := exec_put1 (z := z) hr hj hi hop hx hy
  unfold Oper.wp
  rw [hr1, Oper.upon_skip, hN]
  exact hK _ _ (h w' hs hr2)
theorem cut_putp {g n m : Nat} {a : Act} {w : World} {oi : Oper} {f v : Nat → SC} {t ty : TypeId} {x y : Operand} (hoi : ops[i]? = some oi) (hN : oi.dst = none) (hop : oi.op = .store ty x y) (hw : Region.wanted oi (yielded ops a.tmps) = true) (hr : Row w g () n f t) (hm : 0 + m ≤ n) (hi : (P.info? ty).map (·.size) = some m)
    (hx : a.eval x = .pointer (some ⟨g, 0, none⟩)) (hy : a.eval y = .agg (FR () m v)) (h : ∀ w', Stored w w' g → Row w' g () n (updR f 0 m v) t → wpList P ops Q (ops.toList.drop (i + 1)) a w') : wpList P ops Q (ops.toList.drop i) a w := by
  rw [drop_at hoi]
  refine wpList_step (fun K hK => ?_)
  rw [if_pos hw]
  obtain ⟨w', hr1, hs, hr2⟩ := exec_part (v := v) hr hm hi hop hx hy
  unfold Oper.wp
  rw [hr1, Oper.upon_skip, hN]
  exact hK _ _ (h w' hs hr2)
end
theorem held2_0 {wE w w' : World} {g0 g1 n0 n1 : Nat} {f f1 f' : Nat → SC} {t0 t1 : TypeId} (h : Held wE w [⟨g0, (), n0, f, t0⟩, ⟨g1, (), n1, f1, t1⟩]) (hs : Stored w w' g0) (hr : Row w' g0 () n0 f' t0) : Held wE w' [⟨g0, (), n0, f', t0⟩, ⟨g1, (), n1, f1, t1⟩] := by
  have hg0 := (h.2.1 ⟨g0, (), n0, f, t0⟩ (by simp)).1
  have hg1 := h.2.1 ⟨g1, (), n1, f1, t1⟩ (by simp)
  have hne : g1 ≠ g0 := by have := h.2.2; simp at this; exact fun e => this e.symm
  refine ⟨hs.bel _ _ hg0 h.1, fun r hm => ?_, h.2.2⟩
  rcases List.mem_cons.1 hm with rfl | hm
  · exact ⟨hg0, hr⟩
  · rw [List.mem_singleton] at hm; subst hm
    exact ⟨hg1.1, hg1.2.stored hs hne⟩
theorem held2_1 {wE w w' : World} {g0 g1 n0 n1 : Nat} {f f1 f' : Nat → SC} {t0 t1 : TypeId} (h : Held wE w [⟨g0, (), n0, f, t0⟩, ⟨g1, (), n1, f1, t1⟩]) (hs : Stored w w' g1) (hr : Row w' g1 () n1 f' t1) : Held wE w' [⟨g0, (), n0, f, t0⟩, ⟨g1, (), n1, f', t1⟩] := by
  have hg0 := h.2.1 ⟨g0, (), n0, f, t0⟩ (by simp)
  have hg1 := (h.2.1 ⟨g1, (), n1, f1, t1⟩ (by simp)).1
  have hne : g0 ≠ g1 := by have := h.2.2; simp at this; exact this
  refine ⟨hs.bel _ _ hg1 h.1, fun r hm => ?_, h.2.2⟩
  rcases List.mem_cons.1 hm with rfl | hm
  · exact ⟨hg0.1, hg0.2.stored hs hne⟩
  · rw [List.mem_singleton] at hm; subst hm
    exact ⟨hg1, hr⟩
def cpT (t : T) (oa : Option Addr) (c : Nat) (L : Nat → T) (ob : Option Addr) (d : Nat) (K : Nat → ByteArray) (M : Nat → T) : T := .mk t.kind t.is t.num t.txt oa t.ll c L ob t.ml d K M
theorem cp_row {w : World} {g : Nat} {t : T} {oa ob : Option Addr} {c d : Nat} {L M : Nat → T} {K : Nat → ByteArray} {z : Nat → SC} {ty : TypeId} (h : Row w g () 6 (updR z 0 6 (upd (upd t.sc 4 (.sl oa t.ll c)) 5 (.sl ob t.ml d))) ty) : Row w g () 6 (cpT t oa c L ob d K M).sc ty := by
  unfold Row at h ⊢
  rw [h, FR_congr () 6 _ (cpT t oa c L ob d K M).sc]
  intro i hi
  have e : i = 0 ∨ i = 1 ∨ i = 2 ∨ i = 3 ∨ i = 4 ∨ i = 5 := by omega
  rcases e with rfl | rfl | rfl | rfl | rfl | rfl <;> rfl
theorem cp_in {m w : World} {t : T} {oa ob : Option Addr} {c d : Nat} {L M : Nat → T} {K : Nat → ByteArray} (hIn : In w t) (h1 : t.ll ≤ c ∧ c ≤ maxLen) (h2 : t.ml ≤ d ∧ d ≤ maxLen) (hE : ElsAt m oa t.ll L) (hI : Kin m t.ll t.elm L) (hM : MemsAt m ob t.ml K M) (hK : Kin m t.ml t.mem M) (hKK : ∀ j, j < t.ml → K j = t.key j) : In m (cpT t oa c L ob d K M) ∧ Eqv t (cpT t oa c L ob d K M) := by
  obtain ⟨a1, a2, a3, a4, a5, a6, a7⟩ := hIn.own
  refine ⟨In.made a1 a2 a3 a4 a5 h1 h2 hE (fun j hj => (hI j hj).1) hM (fun j hj => by rw [hKK j hj]; exact (hIn.mems hj).2.1) (fun j hj => (hK j hj).1), ?_⟩
  cases t with
  | no => exact hIn.elim
  | mk k is n s xl ll cl L0 xm ml cm K0 M0 => exact ⟨⟨rfl, rfl, rfl, rfl, rfl, rfl⟩, fun i hi => (hI i hi).2, fun i hi => ⟨hKK i hi, (hK i hi).2⟩⟩
abbrev T11 : List (Nat × Tmp) := [(0, 29), (1, 30), (2, 31), (3, 32), (4, 33), (5, 34), (6, 35), (7, 36), (8, 37), (9, 6)]
theorem T11_ok : TOk T11 := ⟨by rfl, by rfl⟩
structure CpF (we : World) (A : Nat → Bool) (ob : Option Addr) (k d g8 : Nat) (key : ByteArray) (m : T) (Φ : T → Value → World → Prop) (u : T) (g : Nat) (V : Nat → Value) (b : Nat → Bool) (w : World) : Prop where
  o98 : b 9 = true → b 8 = true
  o87 : b 8 = true → b 7 = true
  o80 : b 8 = true → b 0 = true
  o76 : b 7 = true → b 6 = true
  o65 : b 6 = true → b 5 = true
  o62 : b 6 = true → b 2 = true
  o54 : b 5 = true → b 4 = true
  bel : b 8 = false → Below we.heap.size we w
  f0 : b 0 = true → V 0 = .slice ob k d
  f1 : b 1 = true → V 1 = .pointer (some ⟨g8, 0, none⟩)
  f2 : b 2 = true → V 2 = .string key
  f3 : b 3 = true → V 3 = .pointer (some ((⟨g8, 0, none⟩ : Addr).add 1))
  f4 : b 4 = true → V 4 = m.val
  f5 : b 5 = true → V 5 = u.val ∧ Eqv m u
  p5 : b 5 = true → b 8 = false → In (msk A w) u
  f6 : b 6 = true → V 6 = .agg (FR () 7 (msc key u))
  f7 : b 7 = true → V 7 = .slice (some ⟨g, 0, none⟩) 1 1
  p7 : b 7 = true → b 8 = false → Row w g () 7 (msc key u) 44
  f8 : b 8 = true → Φ u (V 8) w
  f9 : b 9 = true → V 9 = V 8
theorem cf_pre {a0 : Act} {T : List (Nat × Tmp)} {V : Nat → Value} {b : Nat → Bool} {d : Nat} {t : Tmp} {v : Value} (hLo : TOk T) (k : Nat) (hT : T[k]? = some (d, t)) (hb : b d = false) (hv : a0.eval (.tmp t) = v) : (act a0 T V b).eval (.tmp t) = v :=
  ev_pre (hLo.lf V) k (LF_get hT) hb hv
theorem parts2c {ev : Operand → Value} {x y : Operand} {u v : Value} (h : ev x = u) (h2 : ev y = v) : ((#[(0, x), (1, y)] : Array (Nat × Operand)).map fun (i, x) => (i, ev x)) = #[(0, u), (1, v)] := by simp [h, h2]
section
variable {ops : Array Oper} {Q : Exit → Act → World → Prop} {B O : List Nat} {a0 : Act} {we : World} {A : Nat → Bool} {ob : Option Addr} {k d g8 sz : Nat} {key : ByteArray} {m : T} {Φ : T → Value → World → Prop} {t1 : TypeId} {o : Oper}
abbrev CpX (we : World) (A : Nat → Bool) (ob : Option Addr) (k d g8 : Nat) (key : ByteArray) (m : T) (Φ : T → Value → World → Prop) (V : Nat → Value) (b : Nat → Bool) (w : World) : Prop := ∃ u g, CpF we A ob k d g8 key m Φ u g V b w
theorem s11_0 (hS : a0.eval (.tmp 6) = .slice ob k d) (ho : ops[0]? = some o) (hd : o.dst = some 29) (hop : o.op = .move (.tmp 6)) (hg : o.guard = none) : StepAt Tryd.prog ops Q B O (CI a0 T11 (CpX we A ob k d g8 key m Φ)) 0 :=
  ci_run 0 T11_ok ho hd rfl (fun _ _ => wanted_none hg) (fun V b w ⟨u, g, hF⟩ hbi hon hoff => by
    have h9 : b 9 = false := by cases e : b 9 with | false => rfl | true => rw [hF.o80 (hF.o98 e)] at hbi; cases hbi
    exact ⟨.slice ob k d, w, zD (.inl hop) (cf_pre T11_ok 9 rfl h9 hS), u, g, hF.o98, hF.o87, fun _ => rfl, hF.o76, hF.o65, hF.o62, hF.o54, hF.bel, fun _ => rfl, hF.f1, hF.f2, hF.f3, hF.f4, hF.f5, hF.p5, hF.f6, hF.f7, hF.p7, hF.f8, hF.f9⟩)
theorem s11_1 (hS : a0.eval (.tmp 8) = .pointer (some ⟨g8, 0, none⟩)) (ho : ops[1]? = some o) (hd : o.dst = some 30) (hop : o.op = .fieldAddr 44 (.tmp 8) 0) (hg : o.guard = none) : StepAt Tryd.prog ops Q B O (CI a0 T11 (CpX we A ob k d g8 key m Φ)) 1 :=
  ci_run 1 T11_ok ho hd rfl (fun _ _ => wanted_none hg) (fun V b w ⟨u, g, hF⟩ hbi hon hoff =>
    ⟨.pointer (some ⟨g8, 0, none⟩), w, zJ hop (cf_off rfl hS) (by kernel_rfl), u, g, hF.o98, hF.o87, hF.o80, hF.o76, hF.o65, hF.o62, hF.o54, hF.bel, hF.f0, fun _ => rfl, hF.f2, hF.f3, hF.f4, hF.f5, hF.p5, hF.f6, hF.f7, hF.p7, hF.f8, hF.f9⟩)
theorem s11_3 (hS : a0.eval (.tmp 8) = .pointer (some ⟨g8, 0, none⟩)) (ho : ops[3]? = some o) (hd : o.dst = some 32) (hop : o.op = .fieldAddr 44 (.tmp 8) 1) (hg : o.guard = none) : StepAt Tryd.prog ops Q B O (CI a0 T11 (CpX we A ob k d g8 key m Φ)) 3 :=
  ci_run 3 T11_ok ho hd rfl (fun _ _ => wanted_none hg) (fun V b w ⟨u, g, hF⟩ hbi hon hoff =>
    ⟨.pointer (some ((⟨g8, 0, none⟩ : Addr).add 1)), w, zJ hop (cf_off rfl hS) (by kernel_rfl), u, g, hF.o98, hF.o87, hF.o80, hF.o76, hF.o65, hF.o62, hF.o54, hF.bel, hF.f0, hF.f1, hF.f2, fun _ => rfl, hF.f4, hF.f5, hF.p5, hF.f6, hF.f7, hF.p7, hF.f8, hF.f9⟩)
theorem s11_9 (hsz : a0.tmps.size = sz) (hs : Nat.ble 38 sz = true) (ho : ops[9]? = some o) (hd : o.dst = some 6) (hop : o.op = .assign (.tmp 37)) (hg : o.guard = none) (hB8 : (O.contains 8 && (B.getD 9 0).testBit 8) = true) : StepAt Tryd.prog ops Q B O (CI a0 T11 (CpX we A ob k d g8 key m Φ)) 9 :=
  ci_run 9 T11_ok ho hd rfl (fun _ _ => wanted_none hg) (fun V b w ⟨u, g, hF⟩ hbi hon hoff => by
    have h8 : b 8 = true := hon 8 hB8
    exact ⟨V 8, w, zD (.inr hop) (cf_on T11_ok 8 rfl hsz hs h8), u, g, fun _ => h8, hF.o87, hF.o80, hF.o76, hF.o65, hF.o62, hF.o54, hF.bel, hF.f0, hF.f1, hF.f2, hF.f3, hF.f4, hF.f5, hF.p5, hF.f6, hF.f7, hF.p7, hF.f8, fun _ => rfl⟩)
theorem nope {b : Nat → Bool} {j : Nat} {C : Prop} (h : b j = false) : b j = true → C := fun q => by rw [h] at q; cases q
theorem not_of {p q : Bool} (h : p = true → q = true) (hq : q = false) : p = false := by cases e : p with | false => rfl | true => rw [h e] at hq; cases hq
theorem s11_2 (hsz : a0.tmps.size = sz) (hs : Nat.ble 31 sz = true) (hR : Row we g8 () 7 (msc key m) t1) (ho : ops[2]? = some o) (hd : o.dst = some 31) (hop : o.op = .load 9 (.tmp 30)) (hg : o.guard = none) (hB1 : (O.contains 1 && (B.getD 2 0).testBit 1) = true) : StepAt Tryd.prog ops Q B O (CI a0 T11 (CpX we A ob k d g8 key m Φ)) 2 :=
  ci_run 2 T11_ok ho hd rfl (fun _ _ => wanted_none hg) (fun V b w ⟨u, g, hF⟩ hbi hon hoff => by
    have h1 : b 1 = true := hon 1 hB1
    have h6 := not_of hF.o62 hbi
    have h8 := not_of hF.o87 (not_of hF.o76 h6)
    exact ⟨.string key, w, exec_val (bel_kept (hF.bel h8) _ _ (row_at hR 0 (by decide))) Tryd.underlying9 rfl hop ((cf_on T11_ok 1 rfl hsz hs h1).trans (hF.f1 h1)), u, g, hF.o98, hF.o87, hF.o80, hF.o76, hF.o65, fun _ => rfl, hF.o54, hF.bel, hF.f0, hF.f1, fun _ => rfl, hF.f3, hF.f4, hF.f5, hF.p5, hF.f6, hF.f7, hF.p7, hF.f8, hF.f9⟩)
theorem s11_4 (hsz : a0.tmps.size = sz) (hs : Nat.ble 33 sz = true) (hR : Row we g8 () 7 (msc key m) t1) (ho : ops[4]? = some o) (hd : o.dst = some 33) (hop : o.op = .load 25 (.tmp 32)) (hg : o.guard = none) (hB1 : (O.contains 3 && (B.getD 4 0).testBit 3) = true) : StepAt Tryd.prog ops Q B O (CI a0 T11 (CpX we A ob k d g8 key m Φ)) 4 :=
  ci_run 4 T11_ok ho hd rfl (fun _ _ => wanted_none hg) (fun V b w ⟨u, g, hF⟩ hbi hon hoff => by
    have h3 : b 3 = true := hon 3 hB1
    have h8 := not_of hF.o87 (not_of hF.o76 (not_of hF.o65 (not_of hF.o54 hbi)))
    refine ⟨m.val, w, exec_load_at (f := m.sc) (fun j hj => ?_) Tryd.underlying25 (by kernel_rfl) rfl hop ((cf_on T11_ok 3 rfl hsz hs h3).trans (hF.f3 h3)), u, g, hF.o98, hF.o87, hF.o80, hF.o76, hF.o65, hF.o62, fun _ => rfl, hF.bel, hF.f0, hF.f1, hF.f2, hF.f3, fun _ => rfl, hF.f5, hF.p5, hF.f6, hF.f7, hF.p7, hF.f8, hF.f9⟩
    have := bel_kept (hF.bel h8) _ _ (row_at hR (j + 1) (by omega))
    rw [add_at, add_at, show 0 + 1 + j = 0 + (j + 1) by omega, ← add_at]
    exact this)
theorem s11_5 {fn : Func} (hsz : a0.tmps.size = sz) (hs : Nat.ble 34 sz = true) (hIn : In we m) (hA : ∀ wa wx : World, we.heap.size ≤ wa.heap.size → Sub (msk (fun k => decide (wa.heap.size ≤ k)) wx) (msk A wx))
    (hC : ∀ w, In w m → Calls Tryd.prog 23 #[m.val] w fun e w' => (∃ u, e = .returned u.val ∧ In (msk (fun k => decide (w.heap.size ≤ k)) w') u ∧ Eqv m u) ∧ Below w.heap.size w w')
    (hf : Tryd.prog.funcs[(23 : FuncId)]? = some fn) (hname : (fn.name == "runtime.NumGoroutine") = false) (hbd : fn.body.isSome = true) (ho : ops[5]? = some o) (hd : o.dst = some 34) {ts : Array TypeId} (hop : o.op = .call { callee := .value (.func 23), args := #[.tmp 33], argTypes := ts }) (hg : o.guard = none) (hB4 : (O.contains 4 && (B.getD 5 0).testBit 4) = true) : StepAt Tryd.prog ops Q B O (CI a0 T11 (CpX we A ob k d g8 key m Φ)) 5 :=
  ci_call 5 T11_ok ho hd rfl hop (fun _ _ => wanted_none hg) hf hname hbd (fun V b w ⟨u, g, hF⟩ hbi hon hoff => by
    have h4 : b 4 = true := hon 4 hB4
    have h6 := not_of hF.o65 hbi
    have h7 := not_of hF.o76 h6
    have h8 := not_of hF.o87 h7
    have h9 := not_of hF.o98 h8
    refine ⟨#[m.val], args1 ((cf_on T11_ok 4 rfl hsz (Nat.ble_eq_true_of_le (Nat.le_trans (by decide) (Nat.le_of_ble_eq_true hs))) h4).trans (hF.f4 h4)), (hC w (hIn.below (hF.bel h8))).mono ?_⟩
    rintro e w' ⟨⟨u', rfl, hU, hE⟩, hb⟩
    exact ⟨_, rfl, u', g, hF.o98, hF.o87, hF.o80, hF.o76, fun _ => rfl, hF.o62, fun _ => h4, fun _ => (hF.bel h8).trans (hb.mono (hF.bel h8).size), hF.f0, hF.f1, hF.f2, hF.f3, hF.f4, fun _ => ⟨rfl, hE⟩, fun _ _ => hU.mono (hA w w' (hF.bel h8).size), nope h6, nope h7, nope h7, nope h8, nope h9⟩)
theorem s11_6 (hsz : a0.tmps.size = sz) (hs : Nat.ble 35 sz = true) (ho : ops[6]? = some o) (hd : o.dst = some 35) (hop : o.op = .build 44 #[(0, .tmp 31), (1, .tmp 34)]) (hg : o.guard = none) (hB2 : (O.contains 2 && (B.getD 6 0).testBit 2) = true) (hB5 : (O.contains 5 && (B.getD 6 0).testBit 5) = true) : StepAt Tryd.prog ops Q B O (CI a0 T11 (CpX we A ob k d g8 key m Φ)) 6 :=
  ci_run 6 T11_ok ho hd rfl (fun _ _ => wanted_none hg) (fun V b w ⟨u, g, hF⟩ hbi hon hoff => by
    have h2 : b 2 = true := hon 2 hB2
    have h5 : b 5 = true := hon 5 hB5
    exact ⟨.agg (FR () 7 (msc key u)), w, exec_build hop (parts2c ((cf_on T11_ok 2 rfl hsz (Nat.ble_eq_true_of_le (Nat.le_trans (by decide) (Nat.le_of_ble_eq_true hs))) h2).trans (hF.f2 h2)) ((cf_on T11_ok 5 rfl hsz hs h5).trans (hF.f5 h5).1)) (by kernel_rfl), u, g, hF.o98, hF.o87, hF.o80, fun _ => rfl, fun _ => h5, fun _ => h2, hF.o54, hF.bel, hF.f0, hF.f1, hF.f2, hF.f3, hF.f4, hF.f5, hF.p5, fun _ => rfl, hF.f7, hF.p7, hF.f8, hF.f9⟩)
theorem s11_7 (hsz : a0.tmps.size = sz) (hs : Nat.ble 36 sz = true) (ho : ops[7]? = some o) (hd : o.dst = some 36) (hop : o.op = .buildSlice 23 1 #[(0, .tmp 35)]) (hg : o.guard = none) (hB6 : (O.contains 6 && (B.getD 7 0).testBit 6) = true) : StepAt Tryd.prog ops Q B O (CI a0 T11 (CpX we A ob k d g8 key m Φ)) 7 :=
  ci_run 7 T11_ok ho hd rfl (fun _ _ => wanted_none hg) (fun V b w ⟨u, g, hF⟩ hbi hon hoff => by
    have h6 : b 6 = true := hon 6 hB6
    have h8 := not_of hF.o87 hbi
    have h9 := not_of hF.o98 h8
    have hw : Below w.heap.size w (w.alloc (.cells (FR () 7 (msc key u)) 44)) := (Below.refl _ w).alloc (Nat.le_refl _) _
    exact ⟨.slice (some ⟨w.heap.size, 0, none⟩) 1 1, w.alloc (.cells (FR () 7 (msc key u)) 44), exec_buildSlice hop (parts1 ((cf_on T11_ok 6 rfl hsz hs h6).trans (hF.f6 h6))) (by kernel_rfl), u, w.heap.size, hF.o98, fun _ => rfl, hF.o80, fun _ => h6, hF.o65, hF.o62, hF.o54, fun q => (hF.bel q).alloc (hF.bel q).size _, hF.f0, hF.f1, hF.f2, hF.f3, hF.f4, hF.f5, fun p q => (hF.p5 p q).mono (msk_below hw fun _ _ q => q), hF.f6, fun _ => rfl, fun _ _ => Row.new w () 7 (msc key u) _, nope h8, nope h9⟩)
theorem s11_8 (hsz : a0.tmps.size = sz) (hs : Nat.ble 37 sz = true) (hΦ : ∀ u g w1, Below we.heap.size we w1 → In (msk A w1) u → Eqv m u → Row w1 g () 7 (msc key u) 44 → ∀ ty, ∃ v' w2, (Builtin.append_ #[23, 23] ty #[.slice ob k d, .slice (some ⟨g, 0, none⟩) 1 1]).run Tryd.prog w1 = .ok v' w2 ∧ Φ u v' w2)
    (ho : ops[8]? = some o) (hd : o.dst = some 37) (hop : o.op = .call { callee := .builtin .append, args := #[.tmp 29, .tmp 36], argTypes := #[23, 23] }) (hg : o.guard = none) (hB0 : (O.contains 0 && (B.getD 8 0).testBit 0) = true) (hB7 : (O.contains 7 && (B.getD 8 0).testBit 7) = true) : StepAt Tryd.prog ops Q B O (CI a0 T11 (CpX we A ob k d g8 key m Φ)) 8 :=
  ci_run 8 T11_ok ho hd rfl (fun _ _ => wanted_none hg) (fun V b w ⟨u, g, hF⟩ hbi hon hoff => by
    have h0 : b 0 = true := hon 0 hB0
    have h7 : b 7 = true := hon 7 hB7
    have h5 := hF.o65 (hF.o76 h7)
    have h9 := not_of hF.o98 hbi
    obtain ⟨v', w2, hr, hP⟩ := hΦ u g w (hF.bel hbi) (hF.p5 h5 hbi) (hF.f5 h5).2 (hF.p7 h7 hbi) o.type
    have hx : ∀ {C : Prop}, up b 8 8 = false → C := fun q => by rw [up_self] at q; cases q
    exact ⟨v', w2, exec_append hop ((cf_on T11_ok 0 rfl hsz (Nat.ble_eq_true_of_le (Nat.le_trans (by decide) (Nat.le_of_ble_eq_true hs))) h0).trans (hF.f0 h0)) ((cf_on T11_ok 7 rfl hsz hs h7).trans (hF.f7 h7)) hr, u, g, fun _ => rfl, fun _ => h7, fun _ => h0, hF.o76, hF.o65, hF.o62, hF.o54, hx, hF.f0, hF.f1, hF.f2, hF.f3, hF.f4, hF.f5, fun _ => hx, hF.f6, hF.f7, fun _ => hx, fun _ => hP, nope h9⟩)
theorem s11_first {w' : World} (V : Nat → Value) (hB : Below we.heap.size we w') : CpX we A ob k d g8 key m Φ V (fun _ => false) w' := by
  refine ⟨.no, 0, ?_, ?_, ?_, ?_, ?_, ?_, ?_, fun _ => hB, ?_, ?_, ?_, ?_, ?_, ?_, ?_, ?_, ?_, ?_, ?_, ?_⟩ <;> (intro h; cases h)
end
theorem gs2 {g0 g1 n : Nat} (h0 : g0 < n) (h1 : g1 < n) : ∀ g ∈ [g0, g1], g < n := by
  intro g hg
  rcases List.mem_cons.1 hg with rfl | hg
  · exact h0
  · rw [List.mem_singleton] at hg; subst hg; exact h1
theorem kk_snoc {K E : Nat → ByteArray} {n : Nat} (h : ∀ j, j < n → K j = E j) : ∀ j, j < n + 1 → snoc K n (E n) j = E j := fun j hj => by
  unfold snoc
  by_cases e : j = n
  · subst e; rw [if_pos rfl]
  · rw [if_neg e]; exact h j (by omega)
theorem tabcpy_11 : rtab .any (opsOf Tryd.f23 11) = (true, [([], []), ([], []), ([1], [1]), ([], []), ([3], [3]), ([4], [4]), ([2, 5], [2, 5]), ([6], [6]), ([0, 7, 5], [0, 7]), ([8, 8, 0, 1, 2, 3, 4, 5, 6, 7, 8], [0, 8])]) := by kernel_rfl
theorem bitscpy_11 : waitsOk [([], []), ([], []), ([1], [1]), ([], []), ([3], [3]), ([4], [4]), ([2, 5], [2, 5]), ([6], [6]), ([0, 7, 5], [0, 7]), ([8, 8, 0, 1, 2, 3, 4, 5, 6, 7, 8], [0, 8])] [0, 0, 2, 0, 8, 24, 62, 126, 255, 511] = true := by kernel_rfl
set_option maxHeartbeats 4000000 in
theorem copy_step {w : World} {t : T} (hIn : In w t) (hSm : Small t) (ihM : ∀ i, i < t.ml → ∀ w : World, In w (t.mem i) → Small (t.mem i) → Calls Tryd.prog 23 #[(t.mem i).val] w fun e w' => (∃ u, e = .returned u.val ∧ In (msk (fun k => decide (w.heap.size ≤ k)) w') u ∧ Eqv (t.mem i) u) ∧ Below w.heap.size w w') (ihL : ∀ i, i < t.ll → ∀ w : World, In w (t.elm i) → Small (t.elm i) → Calls Tryd.prog 23 #[(t.elm i).val] w fun e w' => (∃ u, e = .returned u.val ∧ In (msk (fun k => decide (w.heap.size ≤ k)) w') u ∧ Eqv (t.elm i) u) ∧ Below w.heap.size w w') : Calls Tryd.prog 23 #[(t).val] w fun e w' => (∃ u, e = .returned u.val ∧ In (msk (fun k => decide (w.heap.size ≤ k)) w') u ∧ Eqv (t) u) ∧ Below w.heap.size w w' := by
  have hb47 := hSm.own.2
  have hb48 := hSm.own.1
  refine enter_ 44 Tryd.func23 rfl rfl (fun a0 hS => ?_)
  have HS0 : Sl a0 44 [(0, .agg (FR () 6 ((t).sc)))] := hS
  have HH0 : Held w w [] := Held.first w
  clear hS
  refine wp_seq ?_
  have hLo : LOk [(0, 1, .new 0 (fun g => .pointer (some ⟨g, 0, none⟩))), (1, 2, .new 1 (fun g => .pointer (some ⟨g, 0, none⟩)))] := lok (by rfl) (by rfl)
  refine zH (wE := w) (sz := 44) (n := 2) [0, 1] [(0, .val (.agg (FR () 6 ((t).sc)))), (1, .new 0 (fun g => .pointer (some ⟨g, 0, none⟩))), (2, .new 1 (fun g => .pointer (some ⟨g, 0, none⟩)))] [(0, 1, .new 0 (fun g => .pointer (some ⟨g, 0, none⟩))), (1, 2, .new 1 (fun g => .pointer (some ⟨g, 0, none⟩)))] [⟨0, some 0, none, (), 6, (t).sc, (t).sc, 25⟩, ⟨0, some 1, none, (), 6, lsc [.i .i64 (0), .b (false), .i .i64 (0), .s (ByteArray.empty), .sl (none) (0) (0), .sl (none) (0) (0)], lsc [.i .i64 (0), .b (false), .i .i64 (0), .s (ByteArray.empty), .sl (none) (0) (0), .sl (none) (0) (0)], 25⟩] rfl (by rfl) HH0 rfl rfl hLo rfl HS0 (slS 0 rfl rfl (slL 0 (d := 0) rfl (slL 1 (d := 1) rfl (trivial)))) ?_ ?_
  · show ∀ i ∈ [0, 1], _
    refine zA (zZ 0 0 () 6 25 none _ _ rfl rfl (fun _ _ _ _ => rfl) rfl hLo rfl rfl rfl rfl (by rfl) (fun b G w hb ho => exec_box rfl (zG rfl (HS0.get 0 rfl)) (by kernel_rfl))) ?_
    refine zA (zZ 1 1 () 6 25 none _ _ rfl rfl (fun _ _ _ _ => rfl) rfl hLo rfl rfl rfl rfl (by rfl) (fun b G w _ _ => by kernel_rfl)) ?_
    exact zF
  clear hLo
  intro G a1 w1 hS hH
  have HS1 : Sl a1 44 [(0, .agg (FR () 6 ((t).sc))), (1, .pointer (some ⟨(G 0), 0, none⟩)), (2, .pointer (some ⟨(G 1), 0, none⟩))] := hS
  have HH1 : Held w w1 [⟨(G 0), (), 6, (t).sc, 25⟩, ⟨(G 1), (), 6, lsc [.i .i64 (0), .b (false), .i .i64 (0), .s (ByteArray.empty), .sl (none) (0) (0), .sl (none) (0) (0)], 25⟩] := hH
  clear hS hH HS0 HH0
  generalize G 0 = g1_0 at HS1 HH1
  generalize G 1 = g1_1 at HS1 HH1
  refine then_ ?_
  refine wp_seq ?_
  have hLo : LOk [(0, 3, .val (.slice (none) (0) (0)))] := lok (by rfl) (by rfl)
  refine zH (wE := w) (sz := 44) (n := 1) [0] [(0, .val (.agg (FR () 6 ((t).sc)))), (1, .val (.pointer (some ⟨g1_0, 0, none⟩))), (2, .val (.pointer (some ⟨g1_1, 0, none⟩))), (3, .val (.slice (none) (0) (0)))] [(0, 3, .val (.slice (none) (0) (0)))] [⟨g1_0, none, none, (), 6, (t).sc, (t).sc, 25⟩, ⟨g1_1, none, none, (), 6, lsc [.i .i64 (0), .b (false), .i .i64 (0), .s (ByteArray.empty), .sl (none) (0) (0), .sl (none) (0) (0)], lsc [.i .i64 (0), .b (false), .i .i64 (0), .s (ByteArray.empty), .sl (none) (0) (0), .sl (none) (0) (0)], 25⟩] rfl (by rfl) HH1 rfl rfl hLo rfl HS1 (slS 0 rfl rfl (slS 1 rfl rfl (slS 2 rfl rfl (slL 0 (d := 0) rfl (trivial))))) ?_ ?_
  · show ∀ i ∈ [0], _
    refine zA (zB 0 _ rfl rfl hLo rfl rfl (fun _ _ _ _ => rfl) (fun b G w hb ho => zD (.inr rfl) (rfl))) ?_
    exact zF
  clear hLo
  intro G a2 w2 hS hH
  have HS2 : Sl a2 44 [(0, .agg (FR () 6 ((t).sc))), (1, .pointer (some ⟨g1_0, 0, none⟩)), (2, .pointer (some ⟨g1_1, 0, none⟩)), (3, .slice (none) (0) (0))] := hS
  have HH2 : Held w w2 [⟨g1_0, (), 6, (t).sc, 25⟩, ⟨g1_1, (), 6, lsc [.i .i64 (0), .b (false), .i .i64 (0), .s (ByteArray.empty), .sl (none) (0) (0), .sl (none) (0) (0)], 25⟩] := hH
  clear hS hH HS1 HH1
  refine then_ ?_
  refine wp_seq ?_
  refine wp_seq ?_
  have hLo : LOk [(0, 9, .val (.pointer (some ⟨g1_0, 4, none⟩))), (1, 10, .val (.slice ((t).xl) ((t).ll) ((t).cl))), (2, 11, .val (.int .i64 (((t).ll : Int)))), (3, 12, .val (.int .i64 (0)))] := lok (by rfl) (by rfl)
  refine zH (wE := w) (sz := 44) (n := 4) [0, 1, 3, 7] [(0, .val (.agg (FR () 6 ((t).sc)))), (1, .val (.pointer (some ⟨g1_0, 0, none⟩))), (2, .val (.pointer (some ⟨g1_1, 0, none⟩))), (3, .val (.slice (none) (0) (0))), (10, .val (.slice ((t).xl) ((t).ll) ((t).cl))), (11, .val (.int .i64 (((t).ll : Int)))), (12, .val (.int .i64 (0)))] [(0, 9, .val (.pointer (some ⟨g1_0, 4, none⟩))), (1, 10, .val (.slice ((t).xl) ((t).ll) ((t).cl))), (2, 11, .val (.int .i64 (((t).ll : Int)))), (3, 12, .val (.int .i64 (0)))] [⟨g1_0, none, none, (), 6, (t).sc, (t).sc, 25⟩, ⟨g1_1, none, none, (), 6, lsc [.i .i64 (0), .b (false), .i .i64 (0), .s (ByteArray.empty), .sl (none) (0) (0), .sl (none) (0) (0)], lsc [.i .i64 (0), .b (false), .i .i64 (0), .s (ByteArray.empty), .sl (none) (0) (0), .sl (none) (0) (0)], 25⟩] rfl (by rfl) HH2 rfl rfl hLo rfl HS2 (slS 0 rfl rfl (slS 1 rfl rfl (slS 2 rfl rfl (slS 3 rfl rfl (slL 1 (d := 1) rfl (slL 2 (d := 2) rfl (slL 3 (d := 3) rfl (trivial)))))))) ?_ ?_
  · show ∀ i ∈ [0, 1, 2, 3], _
    refine zA (zB 0 _ rfl rfl hLo rfl rfl (fun _ _ _ _ => rfl) (fun b G w hb ho => zJ rfl (zG rfl (HS2.get 1 rfl)) (by kernel_rfl))) ?_
    refine zA (zW 1 0 _ _ rfl rfl rfl hLo rfl rfl (fun _ _ _ _ => rfl) (by rfl) (by rfl) (fun b G w hb ho hr => zP hr (Nat.le_of_ble_eq_true rfl) Tryd.underlying22 rfl rfl (zC hLo 0 rfl HS2.1 rfl (hb 0 (by rfl))))) ?_
    refine zA (zB 2 _ rfl rfl hLo rfl rfl (fun _ _ _ _ => rfl) (fun b G w hb ho => yF Tryd.underlying22 rfl (zC hLo 1 rfl HS2.1 rfl (hb 1 (by rfl))))) ?_
    refine zA (zB 3 _ rfl rfl hLo rfl rfl (fun _ _ _ _ => rfl) (fun b G w hb ho => zD (.inl rfl) (rfl))) ?_
    exact zF
  clear hLo
  intro G a3 w3 hS hH
  have HS3 : Sl a3 44 [(0, .agg (FR () 6 ((t).sc))), (1, .pointer (some ⟨g1_0, 0, none⟩)), (2, .pointer (some ⟨g1_1, 0, none⟩)), (3, .slice (none) (0) (0)), (10, .slice ((t).xl) ((t).ll) ((t).cl)), (11, .int .i64 (((t).ll : Int))), (12, .int .i64 (0))] := hS
  have HH3 : Held w w3 [⟨g1_0, (), 6, (t).sc, 25⟩, ⟨g1_1, (), 6, lsc [.i .i64 (0), .b (false), .i .i64 (0), .s (ByteArray.empty), .sl (none) (0) (0), .sl (none) (0) (0)], 25⟩] := hH
  clear hS hH HS2 HH2
  refine then_ ?_
  refine wp_block ?_
  have hSq0 : Sl _ 44 [(0, .agg (FR () 6 ((t).sc))), (1, .pointer (some ⟨g1_0, 0, none⟩)), (2, .pointer (some ⟨g1_1, 0, none⟩)), (10, .slice ((t).xl) ((t).ll) ((t).cl)), (11, .int .i64 (((t).ll : Int))), (12, .int .i64 (0)), (3, .slice (none) (0) (0))] := yA HS3 [0, 1, 2, 4, 5, 6, 3] (by rfl)
  refine wp_loop (fun a w' => ∃ i : Nat, ∃ oa : Option Addr, ∃ c : Nat, ∃ L : Nat → T, i ≤ t.ll ∧ OwnR w.heap.size w' 25 6 [g1_0, g1_1] (.slice oa i c) i (vcells L i) ∧ Kin (msk (apart w.heap.size [g1_0, g1_1] (Value.slice oa i c).ownBlock) w') i t.elm L ∧ Sl a 44 [(0, .agg (FR () 6 ((t).sc))), (1, .pointer (some ⟨g1_0, 0, none⟩)), (2, .pointer (some ⟨g1_1, 0, none⟩)), (10, .slice ((t).xl) ((t).ll) ((t).cl)), (11, .int .i64 (((t).ll : Int))), (12, .int .i64 ((i : Int))), (3, .slice (oa) (i) (c))] ∧ Held w w' [⟨g1_0, (), 6, (t).sc, 25⟩, ⟨g1_1, (), 6, lsc [.i .i64 (0), .b (false), .i .i64 (0), .s (ByteArray.empty), .sl (none) (0) (0), .sl (none) (0) (0)], 25⟩]) (fun a w' => t.ll - (intOf (a.eval (.tmp 12))).toNat) ⟨0, none, 0, fun _ => .no, Nat.zero_le _, OwnR.nil, Kin.none, hSq0, HH3⟩ ?_
  clear hSq0 HS3 HH3
  rintro aq0 wq0 ⟨i, oa, c, L, hle, hO, hK, HSq0, HHq0⟩
  have hm : (intOf (aq0.eval (.tmp 12))).toNat = i := by rw [(HSq0.get 5 rfl)]; rfl
  rw [hm]
  clear hm
  have hRow4_0 := HHq0.row 0 rfl
  have hRow4_1 := HHq0.row 1 rfl
  have hIn_4 := hIn.below HHq0.1
  have HH4 : Held wq0 wq0 [] := Held.first wq0
  have HS4 : Sl aq0 44 [(0, .agg (FR () 6 ((t).sc))), (1, .pointer (some ((⟨g1_0, 0, none⟩ : Addr)))), (2, .pointer (some ((⟨g1_1, 0, none⟩ : Addr)))), (10, .slice ((t).xl) ((t).ll) ((t).cl)), (11, .int .i64 (((t).ll : Int))), (12, .int .i64 ((i : Int))), (3, .slice (oa) (i) (c))] := HSq0
  obtain ⟨r1, hr1⟩ : ∃ r : Bool, (decide (((i : Int) : Int) < ((t).ll : Int))) = r := ⟨_, rfl⟩
  refine wp_seq ?_
  have hLo : LOk [(0, 13, .val (.bool r1))] := lok (by rfl) (by rfl)
  refine zH (wE := wq0) (sz := 44) (n := 1) [0] [(0, .val (.agg (FR () 6 ((t).sc)))), (1, .val (.pointer (some ((⟨g1_0, 0, none⟩ : Addr))))), (2, .val (.pointer (some ((⟨g1_1, 0, none⟩ : Addr))))), (10, .val (.slice ((t).xl) ((t).ll) ((t).cl))), (11, .val (.int .i64 (((t).ll : Int)))), (12, .val (.int .i64 ((i : Int)))), (3, .val (.slice (oa) (i) (c))), (13, .val (.bool r1))] [(0, 13, .val (.bool r1))] [] rfl (by rfl) HH4 rfl rfl hLo rfl HS4 (slS 0 rfl rfl (slS 1 rfl rfl (slS 2 rfl rfl (slS 3 rfl rfl (slS 4 rfl rfl (slS 5 rfl rfl (slS 6 rfl rfl (slL 0 (d := 0) rfl (trivial))))))))) ?_ ?_
  · show ∀ i ∈ [0], _
    refine zA (zB 0 _ rfl rfl hLo rfl rfl (fun _ _ _ _ => rfl) (fun b G w hb ho => zI rfl (zG rfl (HS4.get 5 rfl)) (zG rfl (HS4.get 4 rfl)) (rb_lss hr1 _ _ _))) ?_
    exact zF
  clear hLo
  intro G a5 w5 hS hH
  have HS5 : Sl a5 44 [(0, .agg (FR () 6 ((t).sc))), (1, .pointer (some ((⟨g1_0, 0, none⟩ : Addr)))), (2, .pointer (some ((⟨g1_1, 0, none⟩ : Addr)))), (10, .slice ((t).xl) ((t).ll) ((t).cl)), (11, .int .i64 (((t).ll : Int))), (12, .int .i64 ((i : Int))), (3, .slice (oa) (i) (c)), (13, .bool r1)] := hS
  have HH5 : Held wq0 w5 [] := hH
  clear hS hH HS4 HH4
  refine then_ ?_
  refine wp_seq ?_
  cases r1
  · skip
    have hend : i = t.ll := by have := of_decide_eq_false hr1; omega
    have hOx := hO
    have hKx := hK
    rw [hend] at HS5 hOx hKx
    have hc1 := hOx.caps
    have hE1 := ElsAt.own hOx
    have hI1 := hKx.sub msk_none
    refine wp_cond_false (HS5.get 7 rfl) ?_
    refine wp_exit ?_
    refine zY ?_
    refine zY ?_
    refine yE ?_
    refine then_ ?_
    refine wp_seq ?_
    have hLo : LOk [(0, 6, .val (.slice (none) (0) (0)))] := lok (by rfl) (by rfl)
    refine zH (wE := wq0) (sz := 44) (n := 1) [0] [(0, .val (.agg (FR () 6 ((t).sc)))), (1, .val (.pointer (some ((⟨g1_0, 0, none⟩ : Addr))))), (2, .val (.pointer (some ((⟨g1_1, 0, none⟩ : Addr))))), (10, .val (.slice ((t).xl) ((t).ll) ((t).cl))), (11, .val (.int .i64 (((t).ll : Int)))), (12, .val (.int .i64 ((t.ll : Int)))), (3, .val (.slice (oa) (t.ll) (c))), (13, .val (.bool false)), (6, .val (.slice (none) (0) (0)))] [(0, 6, .val (.slice (none) (0) (0)))] [] rfl (by rfl) HH5 rfl rfl hLo rfl HS5 (slS 0 rfl rfl (slS 1 rfl rfl (slS 2 rfl rfl (slS 3 rfl rfl (slS 4 rfl rfl (slS 5 rfl rfl (slS 6 rfl rfl (slS 7 rfl rfl (slL 0 (d := 0) rfl (trivial)))))))))) ?_ ?_
    · show ∀ i ∈ [0], _
      refine zA (zB 0 _ rfl rfl hLo rfl rfl (fun _ _ _ _ => rfl) (fun b G w hb ho => zD (.inr rfl) (rfl))) ?_
      exact zF
    clear hLo
    intro G a6 w6 hS hH
    have HS6 : Sl a6 44 [(0, .agg (FR () 6 ((t).sc))), (1, .pointer (some ((⟨g1_0, 0, none⟩ : Addr)))), (2, .pointer (some ((⟨g1_1, 0, none⟩ : Addr)))), (10, .slice ((t).xl) ((t).ll) ((t).cl)), (11, .int .i64 (((t).ll : Int))), (12, .int .i64 ((t.ll : Int))), (3, .slice (oa) (t.ll) (c)), (13, .bool false), (6, .slice (none) (0) (0))] := hS
    have HH6 : Held wq0 w6 [] := hH
    clear hS hH HS5 HH5
    refine then_ ?_
    refine wp_seq ?_
    refine wp_seq ?_
    have hLo : LOk [(0, 22, .val (.pointer (some (((⟨g1_0, 0, none⟩ : Addr)).add 5)))), (1, 23, .val (.slice ((t).xm) ((t).ml) ((t).cm))), (2, 24, .val (.int .i64 (((t).ml : Int)))), (3, 25, .val (.int .i64 (0)))] := lok (by rfl) (by rfl)
    refine zH (wE := wq0) (sz := 44) (n := 4) [0, 1, 3, 7] [(0, .val (.agg (FR () 6 ((t).sc)))), (1, .val (.pointer (some ((⟨g1_0, 0, none⟩ : Addr))))), (2, .val (.pointer (some ((⟨g1_1, 0, none⟩ : Addr))))), (10, .val (.slice ((t).xl) ((t).ll) ((t).cl))), (11, .val (.int .i64 (((t).ll : Int)))), (12, .val (.int .i64 ((t.ll : Int)))), (3, .val (.slice (oa) (t.ll) (c))), (13, .val (.bool false)), (6, .val (.slice (none) (0) (0))), (23, .val (.slice ((t).xm) ((t).ml) ((t).cm))), (24, .val (.int .i64 (((t).ml : Int)))), (25, .val (.int .i64 (0)))] [(0, 22, .val (.pointer (some (((⟨g1_0, 0, none⟩ : Addr)).add 5)))), (1, 23, .val (.slice ((t).xm) ((t).ml) ((t).cm))), (2, 24, .val (.int .i64 (((t).ml : Int)))), (3, 25, .val (.int .i64 (0)))] [] rfl (by rfl) HH6 rfl rfl hLo rfl HS6 (slS 0 rfl rfl (slS 1 rfl rfl (slS 2 rfl rfl (slS 3 rfl rfl (slS 4 rfl rfl (slS 5 rfl rfl (slS 6 rfl rfl (slS 7 rfl rfl (slS 8 rfl rfl (slL 1 (d := 1) rfl (slL 2 (d := 2) rfl (slL 3 (d := 3) rfl (trivial))))))))))))) ?_ ?_
    · show ∀ i ∈ [0, 1, 2, 3], _
      refine zA (zB 0 _ rfl rfl hLo rfl rfl (fun _ _ _ _ => rfl) (fun b G w hb ho => zJ rfl (zG rfl (HS6.get 1 rfl)) (by kernel_rfl))) ?_
      refine zA (st_at1 1 (((⟨g1_0, 0, none⟩ : Addr)).add 5) _ rfl rfl rfl (fun _ _ _ _ => rfl) hLo rfl rfl Tryd.underlying23 rfl (row_at hRow4_0 5 (Nat.le_of_ble_eq_true rfl)) (fun b G hb ho => zC hLo 0 rfl HS6.1 rfl (hb 0 (by rfl)))) ?_
      refine zA (zB 2 _ rfl rfl hLo rfl rfl (fun _ _ _ _ => rfl) (fun b G w hb ho => yF Tryd.underlying23 rfl (zC hLo 1 rfl HS6.1 rfl (hb 1 (by rfl))))) ?_
      refine zA (zB 3 _ rfl rfl hLo rfl rfl (fun _ _ _ _ => rfl) (fun b G w hb ho => zD (.inl rfl) (rfl))) ?_
      exact zF
    clear hLo
    intro G a7 w7 hS hH
    have HS7 : Sl a7 44 [(0, .agg (FR () 6 ((t).sc))), (1, .pointer (some ((⟨g1_0, 0, none⟩ : Addr)))), (2, .pointer (some ((⟨g1_1, 0, none⟩ : Addr)))), (10, .slice ((t).xl) ((t).ll) ((t).cl)), (11, .int .i64 (((t).ll : Int))), (12, .int .i64 ((t.ll : Int))), (3, .slice (oa) (t.ll) (c)), (13, .bool false), (6, .slice (none) (0) (0)), (23, .slice ((t).xm) ((t).ml) ((t).cm)), (24, .int .i64 (((t).ml : Int))), (25, .int .i64 (0))] := hS
    have HH7 : Held wq0 w7 [] := hH
    clear hS hH HS6 HH6
    refine then_ ?_
    refine wp_block ?_
    have hE1g := hE1.sub (msk_below HH7.1 fun _ _ q => q)
    have hI1g := hI1.sub (msk_below HH7.1 fun _ _ q => q)
    have HH8 := Held.back HHq0 HH7
    have hSq1 : Sl _ 44 [(0, .agg (FR () 6 ((t).sc))), (1, .pointer (some ⟨g1_0, 0, none⟩)), (2, .pointer (some ⟨g1_1, 0, none⟩)), (10, .slice ((t).xl) ((t).ll) ((t).cl)), (11, .int .i64 (((t).ll : Int))), (12, .int .i64 ((t.ll : Int))), (3, .slice (oa) (t.ll) (c)), (13, .bool false), (23, .slice ((t).xm) ((t).ml) ((t).cm)), (24, .int .i64 (((t).ml : Int))), (25, .int .i64 (0)), (6, .slice (none) (0) (0))] := yA HS7 [0, 1, 2, 3, 4, 5, 6, 7, 9, 10, 11, 8] (by rfl)
    refine wp_loop (fun a w' => ∃ k : Nat, ∃ ob : Option Addr, ∃ d : Nat, ∃ K : Nat → ByteArray, ∃ M : Nat → T, k ≤ t.ml ∧ OwnR w.heap.size w' 44 7 [g1_0, g1_1] (.slice ob k d) k (mcells K M k) ∧ Kin (msk (apart w.heap.size [g1_0, g1_1] (Value.slice ob (k) d).ownBlock) w') k t.mem M ∧ ElsAt (msk (apart w.heap.size [g1_0, g1_1] (Value.slice ob (k) d).ownBlock) w') oa t.ll L ∧ Kin (msk (apart w.heap.size [g1_0, g1_1] (Value.slice ob (k) d).ownBlock) w') t.ll t.elm L ∧ (∀ j, j < k → K j = t.key j) ∧ Sl a 44 [(0, .agg (FR () 6 ((t).sc))), (1, .pointer (some ⟨g1_0, 0, none⟩)), (2, .pointer (some ⟨g1_1, 0, none⟩)), (10, .slice ((t).xl) ((t).ll) ((t).cl)), (11, .int .i64 (((t).ll : Int))), (12, .int .i64 ((t.ll : Int))), (3, .slice (oa) (t.ll) (c)), (13, .bool false), (23, .slice ((t).xm) ((t).ml) ((t).cm)), (24, .int .i64 (((t).ml : Int))), (25, .int .i64 ((k : Int))), (6, .slice (ob) (k) (d))] ∧ Held w w' [⟨g1_0, (), 6, (t).sc, 25⟩, ⟨g1_1, (), 6, lsc [.i .i64 (0), .b (false), .i .i64 (0), .s (ByteArray.empty), .sl (none) (0) (0), .sl (none) (0) (0)], 25⟩]) (fun a w' => t.ml - (intOf (a.eval (.tmp 25))).toNat) ⟨0, none, 0, fun _ => ByteArray.empty, fun _ => .no, Nat.zero_le _, OwnR.nil, Kin.none, hE1g, hI1g, (fun j h => absurd h (Nat.not_lt_zero _)), hSq1, HH8⟩ ?_
    clear hSq1 HS7 HH8
    rintro aq1 wq1 ⟨k, ob, d, K, M, hlek, hO2, hK2, hE1, hI1, hKK, HSq1, HHq1⟩
    have hm : (intOf (aq1.eval (.tmp 25))).toNat = k := by rw [(HSq1.get 10 rfl)]; rfl
    rw [hm]
    clear hm
    have hRow9_0 := HHq1.row 0 rfl
    have hRow9_1 := HHq1.row 1 rfl
    have hIn_9 := hIn.below HHq1.1
    have HH9 : Held wq1 wq1 [] := Held.first wq1
    have HS9 : Sl aq1 44 [(0, .agg (FR () 6 ((t).sc))), (1, .pointer (some ((⟨g1_0, 0, none⟩ : Addr)))), (2, .pointer (some ((⟨g1_1, 0, none⟩ : Addr)))), (10, .slice ((t).xl) ((t).ll) ((t).cl)), (11, .int .i64 (((t).ll : Int))), (12, .int .i64 ((t.ll : Int))), (3, .slice (oa) (t.ll) (c)), (13, .bool false), (23, .slice ((t).xm) ((t).ml) ((t).cm)), (24, .int .i64 (((t).ml : Int))), (25, .int .i64 ((k : Int))), (6, .slice (ob) (k) (d))] := HSq1
    obtain ⟨r2, hr2⟩ : ∃ r : Bool, (decide (((k : Int) : Int) < ((t).ml : Int))) = r := ⟨_, rfl⟩
    refine wp_seq ?_
    have hLo : LOk [(0, 26, .val (.bool r2))] := lok (by rfl) (by rfl)
    refine zH (wE := wq1) (sz := 44) (n := 1) [0] [(0, .val (.agg (FR () 6 ((t).sc)))), (1, .val (.pointer (some ((⟨g1_0, 0, none⟩ : Addr))))), (2, .val (.pointer (some ((⟨g1_1, 0, none⟩ : Addr))))), (10, .val (.slice ((t).xl) ((t).ll) ((t).cl))), (11, .val (.int .i64 (((t).ll : Int)))), (12, .val (.int .i64 ((t.ll : Int)))), (3, .val (.slice (oa) (t.ll) (c))), (13, .val (.bool false)), (23, .val (.slice ((t).xm) ((t).ml) ((t).cm))), (24, .val (.int .i64 (((t).ml : Int)))), (25, .val (.int .i64 ((k : Int)))), (6, .val (.slice (ob) (k) (d))), (26, .val (.bool r2))] [(0, 26, .val (.bool r2))] [] rfl (by rfl) HH9 rfl rfl hLo rfl HS9 (slS 0 rfl rfl (slS 1 rfl rfl (slS 2 rfl rfl (slS 3 rfl rfl (slS 4 rfl rfl (slS 5 rfl rfl (slS 6 rfl rfl (slS 7 rfl rfl (slS 8 rfl rfl (slS 9 rfl rfl (slS 10 rfl rfl (slS 11 rfl rfl (slL 0 (d := 0) rfl (trivial)))))))))))))) ?_ ?_
    · show ∀ i ∈ [0], _
      refine zA (zB 0 _ rfl rfl hLo rfl rfl (fun _ _ _ _ => rfl) (fun b G w hb ho => zI rfl (zG rfl (HS9.get 10 rfl)) (zG rfl (HS9.get 9 rfl)) (rb_lss hr2 _ _ _))) ?_
      exact zF
    clear hLo
    intro G a10 w10 hS hH
    have HS10 : Sl a10 44 [(0, .agg (FR () 6 ((t).sc))), (1, .pointer (some ((⟨g1_0, 0, none⟩ : Addr)))), (2, .pointer (some ((⟨g1_1, 0, none⟩ : Addr)))), (10, .slice ((t).xl) ((t).ll) ((t).cl)), (11, .int .i64 (((t).ll : Int))), (12, .int .i64 ((t.ll : Int))), (3, .slice (oa) (t.ll) (c)), (13, .bool false), (23, .slice ((t).xm) ((t).ml) ((t).cm)), (24, .int .i64 (((t).ml : Int))), (25, .int .i64 ((k : Int))), (6, .slice (ob) (k) (d)), (26, .bool r2)] := hS
    have HH10 : Held wq1 w10 [] := hH
    clear hS hH HS9 HH9
    refine then_ ?_
    refine wp_seq ?_
    cases r2
    · skip
      have hend2 : k = t.ml := by have := of_decide_eq_false hr2; omega
      have hOy := hO2
      have hKy := hK2
      have hKKy := hKK
      rw [hend2] at HS10 hOy hKy hKKy
      have hcd := hOy.caps
      have hEf := hE1.sub msk_none
      have hIf := hI1.sub msk_none
      have hMf := MemsAt.ownM hOy
      have hKf := hKy.sub msk_none
      refine wp_cond_false (HS10.get 12 rfl) ?_
      refine wp_exit ?_
      refine zY ?_
      refine zY ?_
      refine yE ?_
      refine then_ ?_
      refine wp_seq ?_
      have hEf := hEf.sub (msk_below HH10.1 fun _ _ q => q)
      have hIf := hIf.sub (msk_below HH10.1 fun _ _ q => q)
      have hMf := hMf.sub (msk_below HH10.1 fun _ _ q => q)
      have hKf := hKf.sub (msk_below HH10.1 fun _ _ q => q)
      have HH11 := Held.back HHq1 HH10
      refine whole_ ?_
      refine cut_run (v := .slice (oa) (t.ll) (c)) rfl rfl rfl (zD (.inl rfl) (HS10.get 6 rfl)) HS10 rfl (fun a12 hS => ?_)
      have HS12 : Sl a12 44 [(39, .slice (oa) (t.ll) (c)), (0, .agg (FR () 6 ((t).sc))), (1, .pointer (some ⟨g1_0, 0, none⟩)), (2, .pointer (some ⟨g1_1, 0, none⟩)), (10, .slice ((t).xl) ((t).ll) ((t).cl)), (11, .int .i64 (((t).ll : Int))), (12, .int .i64 ((t.ll : Int))), (3, .slice (oa) (t.ll) (c)), (13, .bool false), (23, .slice ((t).xm) ((t).ml) ((t).cm)), (24, .int .i64 (((t).ml : Int))), (25, .int .i64 ((t.ml : Int))), (6, .slice (ob) (t.ml) (d)), (26, .bool false)] := hS
      clear hS
      refine cut_run (v := .pointer (some ⟨g1_0, 4, none⟩)) rfl rfl rfl (zJ rfl (HS12.get 2 rfl) (by kernel_rfl)) HS12 rfl (fun a13 hS => ?_)
      have HS13 : Sl a13 44 [(40, .pointer (some ⟨g1_0, 4, none⟩)), (39, .slice (oa) (t.ll) (c)), (0, .agg (FR () 6 ((t).sc))), (1, .pointer (some ⟨g1_0, 0, none⟩)), (2, .pointer (some ⟨g1_1, 0, none⟩)), (10, .slice ((t).xl) ((t).ll) ((t).cl)), (11, .int .i64 (((t).ll : Int))), (12, .int .i64 ((t.ll : Int))), (3, .slice (oa) (t.ll) (c)), (13, .bool false), (23, .slice ((t).xm) ((t).ml) ((t).cm)), (24, .int .i64 (((t).ml : Int))), (25, .int .i64 ((t.ml : Int))), (6, .slice (ob) (t.ml) (d)), (26, .bool false)] := hS
      clear hS
      refine cut_put (j := 4) (z := .sl oa t.ll c) rfl rfl rfl rfl (HH11.row 0 rfl) (Nat.le_of_ble_eq_true rfl) (by kernel_rfl) (HS13.get 0 rfl) (HS13.get 1 rfl) (fun w14 hSt14 hR14 => ?_)
      have HH14 : Held w w14 [⟨g1_0, (), 6, upd t.sc 4 (.sl oa t.ll c), 25⟩, ⟨g1_1, (), 6, lsc [.i .i64 (0), .b (false), .i .i64 (0), .s (ByteArray.empty), .sl (none) (0) (0), .sl (none) (0) (0)], 25⟩] := held2_0 HH11 hSt14 hR14
      refine end_ rfl ?_
      refine then_ ?_
      refine wp_seq ?_
      refine whole_ ?_
      refine cut_run (v := .slice (ob) (t.ml) (d)) rfl rfl rfl (zD (.inl rfl) (HS13.get 13 rfl)) HS13 rfl (fun a15 hS => ?_)
      have HS15 : Sl a15 44 [(41, .slice (ob) (t.ml) (d)), (40, .pointer (some ⟨g1_0, 4, none⟩)), (39, .slice (oa) (t.ll) (c)), (0, .agg (FR () 6 ((t).sc))), (1, .pointer (some ⟨g1_0, 0, none⟩)), (2, .pointer (some ⟨g1_1, 0, none⟩)), (10, .slice ((t).xl) ((t).ll) ((t).cl)), (11, .int .i64 (((t).ll : Int))), (12, .int .i64 ((t.ll : Int))), (3, .slice (oa) (t.ll) (c)), (13, .bool false), (23, .slice ((t).xm) ((t).ml) ((t).cm)), (24, .int .i64 (((t).ml : Int))), (25, .int .i64 ((t.ml : Int))), (6, .slice (ob) (t.ml) (d)), (26, .bool false)] := hS
      clear hS
      refine cut_run (v := .pointer (some ⟨g1_0, 5, none⟩)) rfl rfl rfl (zJ rfl (HS15.get 4 rfl) (by kernel_rfl)) HS15 rfl (fun a16 hS => ?_)
      have HS16 : Sl a16 44 [(42, .pointer (some ⟨g1_0, 5, none⟩)), (41, .slice (ob) (t.ml) (d)), (40, .pointer (some ⟨g1_0, 4, none⟩)), (39, .slice (oa) (t.ll) (c)), (0, .agg (FR () 6 ((t).sc))), (1, .pointer (some ⟨g1_0, 0, none⟩)), (2, .pointer (some ⟨g1_1, 0, none⟩)), (10, .slice ((t).xl) ((t).ll) ((t).cl)), (11, .int .i64 (((t).ll : Int))), (12, .int .i64 ((t.ll : Int))), (3, .slice (oa) (t.ll) (c)), (13, .bool false), (23, .slice ((t).xm) ((t).ml) ((t).cm)), (24, .int .i64 (((t).ml : Int))), (25, .int .i64 ((t.ml : Int))), (6, .slice (ob) (t.ml) (d)), (26, .bool false)] := hS
      clear hS
      refine cut_put (j := 5) (z := .sl ob t.ml d) rfl rfl rfl rfl (HH14.row 0 rfl) (Nat.le_of_ble_eq_true rfl) (by kernel_rfl) (HS16.get 0 rfl) (HS16.get 1 rfl) (fun w17 hSt17 hR17 => ?_)
      have HH17 : Held w w17 [⟨g1_0, (), 6, upd (upd t.sc 4 (.sl oa t.ll c)) 5 (.sl ob t.ml d), 25⟩, ⟨g1_1, (), 6, lsc [.i .i64 (0), .b (false), .i .i64 (0), .s (ByteArray.empty), .sl (none) (0) (0), .sl (none) (0) (0)], 25⟩] := held2_0 HH14 hSt17 hR17
      refine end_ rfl ?_
      refine then_ ?_
      refine wp_seq ?_
      refine whole_ ?_
      refine cut_run (v := .agg (FR () 6 (upd (upd t.sc 4 (.sl oa t.ll c)) 5 (.sl ob t.ml d)))) rfl rfl rfl (exec_load (HH17.row 0 rfl) Tryd.underlying25 (by kernel_rfl) rfl rfl (HS16.get 5 rfl)) HS16 rfl (fun a18 hS => ?_)
      have HS18 : Sl a18 44 [(43, .agg (FR () 6 (upd (upd t.sc 4 (.sl oa t.ll c)) 5 (.sl ob t.ml d)))), (42, .pointer (some ⟨g1_0, 5, none⟩)), (41, .slice (ob) (t.ml) (d)), (40, .pointer (some ⟨g1_0, 4, none⟩)), (39, .slice (oa) (t.ll) (c)), (0, .agg (FR () 6 ((t).sc))), (1, .pointer (some ⟨g1_0, 0, none⟩)), (2, .pointer (some ⟨g1_1, 0, none⟩)), (10, .slice ((t).xl) ((t).ll) ((t).cl)), (11, .int .i64 (((t).ll : Int))), (12, .int .i64 ((t.ll : Int))), (3, .slice (oa) (t.ll) (c)), (13, .bool false), (23, .slice ((t).xm) ((t).ml) ((t).cm)), (24, .int .i64 (((t).ml : Int))), (25, .int .i64 ((t.ml : Int))), (6, .slice (ob) (t.ml) (d)), (26, .bool false)] := hS
      clear hS
      refine cut_putp (m := 6) rfl rfl rfl rfl (HH17.row 1 rfl) (Nat.le_of_ble_eq_true rfl) (by kernel_rfl) (HS18.get 7 rfl) (HS18.get 0 rfl) (fun w19 hSt19 hR19 => ?_)
      have HH19 : Held w w19 [⟨g1_0, (), 6, upd (upd t.sc 4 (.sl oa t.ll c)) 5 (.sl ob t.ml d), 25⟩, ⟨g1_1, (), 6, (cpT t oa c L ob d K M).sc, 25⟩] := held2_1 HH17 hSt19 (cp_row hR19)
      refine end_ rfl ?_
      refine then_ ?_
      refine wp_ret ?_
      repeat (first | refine zR ?_ | refine zK ?_)
      exact b_row rfl HS18.2.1 (HS18.get 7 rfl) (HH19.row 1 rfl) Tryd.underlying25 rfl (by kernel_rfl) (by
        have hsub := (((msk_stored (p := apart w.heap.size [g1_0, g1_1] none) hSt14 (apart_gs List.mem_cons_self)).trans (msk_stored (p := apart w.heap.size [g1_0, g1_1] none) hSt17 (apart_gs List.mem_cons_self))).trans (msk_stored (p := apart w.heap.size [g1_0, g1_1] none) hSt19 (apart_gs (List.mem_cons_of_mem _ List.mem_cons_self))))
        obtain ⟨hc1', hc2'⟩ := cp_in hIn hc1 hcd (hEf.sub hsub) (hIf.sub hsub) (hMf.sub hsub) (hKf.sub hsub) hKKy
        exact ⟨⟨cpT t oa c L ob d K M, rfl, hc1'.mono msk_all, hc2'⟩, HH19.1⟩)
    · skip
      have hltk : k < t.ml := by have := of_decide_eq_true hr2; omega
      refine wp_cond_true (HS10.get 12 rfl) ?_
      refine wp_skip ?_
      refine then_ ?_
      refine wp_seq ?_
      refine wp_block ?_
      obtain ⟨⟨a1, hx1, hk1, hv1⟩, _, hn1⟩ := (hIn_9).mems (i := k) (by omega)
      refine wp_seq ?_
      have hLo : LOk [(0, 27, .val (.pointer (some (a1.add ((k) * 7))))), (1, 28, .val (.agg (FR () 7 (msc ((t).key (k)) ((t).mem (k)))))), (2, 8, .new 2 (fun g => .pointer (some ⟨g, 0, none⟩)))] := lok (by rfl) (by rfl)
      refine zH (wE := wq1) (sz := 44) (n := 4) [0, 1, 3, 7] [(0, .val (.agg (FR () 6 ((t).sc)))), (1, .val (.pointer (some ((⟨g1_0, 0, none⟩ : Addr))))), (2, .val (.pointer (some ((⟨g1_1, 0, none⟩ : Addr))))), (10, .val (.slice ((t).xl) ((t).ll) ((t).cl))), (11, .val (.int .i64 (((t).ll : Int)))), (12, .val (.int .i64 ((t.ll : Int)))), (3, .val (.slice (oa) (t.ll) (c))), (13, .val (.bool false)), (23, .val (.slice ((t).xm) ((t).ml) ((t).cm))), (24, .val (.int .i64 (((t).ml : Int)))), (25, .val (.int .i64 ((k : Int)))), (6, .val (.slice (ob) (k) (d))), (26, .val (.bool true)), (8, .new 2 (fun g => .pointer (some ⟨g, 0, none⟩)))] [(0, 27, .val (.pointer (some (a1.add ((k) * 7))))), (1, 28, .val (.agg (FR () 7 (msc ((t).key (k)) ((t).mem (k)))))), (2, 8, .new 2 (fun g => .pointer (some ⟨g, 0, none⟩)))] [⟨0, some 2, some 3, (), 7, lsc [.s (ByteArray.empty), .i .i64 (0), .b (false), .i .i64 (0), .s (ByteArray.empty), .sl (none) (0) (0), .sl (none) (0) (0)], msc ((t).key (k)) ((t).mem (k)), 44⟩] rfl (by rfl) HH10 rfl rfl hLo rfl HS10 (slS 0 rfl rfl (slS 1 rfl rfl (slS 2 rfl rfl (slS 3 rfl rfl (slS 4 rfl rfl (slS 5 rfl rfl (slS 6 rfl rfl (slS 7 rfl rfl (slS 8 rfl rfl (slS 9 rfl rfl (slS 10 rfl rfl (slS 11 rfl rfl (slS 12 rfl rfl (slL 2 (d := 2) rfl (trivial))))))))))))))) ?_ ?_
      · show ∀ i ∈ [0, 1, 2, 3], _
        refine zA (zB 0 _ rfl rfl hLo rfl rfl (fun _ _ _ _ => rfl) (fun b G w hb ho => zU rfl (zG rfl (HS10.get 8 rfl)) (zG rfl (HS10.get 10 rfl)) (index_sl Tryd.underlying23 (by kernel_rfl) hx1 (by omega) _))) ?_
        refine zA (st_at 1 (a1.add ((k) * 7)) rfl rfl rfl (fun _ _ _ _ => rfl) hLo rfl rfl Tryd.underlying44 (by kernel_rfl) rfl (at7 hk1 hv1) (fun b G hb ho => zC hLo 0 rfl HS10.1 rfl (hb 0 (by rfl)))) ?_
        refine zA (zZ 2 0 () 7 44 (some 3) _ _ rfl rfl (fun _ _ _ _ => rfl) rfl hLo rfl rfl rfl rfl (by rfl) (fun b G w _ _ => by kernel_rfl)) ?_
        refine zA (st_store 0 _ rfl rfl rfl rfl rfl (fun _ _ _ _ => rfl) rfl rfl rfl (by rfl) (by kernel_rfl) (fun b G hb ho => zC hLo 2 rfl HS10.1 rfl (hb 2 (by rfl))) (fun b G hb ho => zC hLo 1 rfl HS10.1 rfl (hb 1 (by rfl)))) ?_
        exact zF
      clear hLo
      intro G a20 w20 hS hH
      have HS20 : Sl a20 44 [(0, .agg (FR () 6 ((t).sc))), (1, .pointer (some ((⟨g1_0, 0, none⟩ : Addr)))), (2, .pointer (some ((⟨g1_1, 0, none⟩ : Addr)))), (10, .slice ((t).xl) ((t).ll) ((t).cl)), (11, .int .i64 (((t).ll : Int))), (12, .int .i64 ((t.ll : Int))), (3, .slice (oa) (t.ll) (c)), (13, .bool false), (23, .slice ((t).xm) ((t).ml) ((t).cm)), (24, .int .i64 (((t).ml : Int))), (25, .int .i64 ((k : Int))), (6, .slice (ob) (k) (d)), (26, .bool true), (8, .pointer (some ⟨(G 2), 0, none⟩))] := hS
      have HH20 : Held wq1 w20 [⟨(G 2), (), 7, msc ((t).key (k)) ((t).mem (k)), 44⟩] := hH
      clear hS hH HS10 HH10
      generalize G 2 = g20_2 at HS20 HH20
      refine then_ ?_
      have hRow21_0 := HH20.row 0 rfl
      have hIn_21 := hIn_9.below HH20.1
      have hRow9_0_21 := (hRow9_0).below HH20.1 (hRow9_0).lt
      have hRow9_1_21 := (hRow9_1).below HH20.1 (hRow9_1).lt
      have hO2_21 := hO2.below HH20.1
      have hK2_21 := hK2.sub (msk_below HH20.1 fun _ _ q => q)
      have hE1_21 := hE1.sub (msk_below HH20.1 fun _ _ q => q)
      have hI1_21 := hI1.sub (msk_below HH20.1 fun _ _ q => q)
      have HH21 : Held w20 w20 [] := Held.first w20
      have HS21 : Sl a20 44 [(0, .agg (FR () 6 ((t).sc))), (1, .pointer (some ((⟨g1_0, 0, none⟩ : Addr)))), (2, .pointer (some ((⟨g1_1, 0, none⟩ : Addr)))), (10, .slice ((t).xl) ((t).ll) ((t).cl)), (11, .int .i64 (((t).ll : Int))), (12, .int .i64 ((t.ll : Int))), (3, .slice (oa) (t.ll) (c)), (13, .bool false), (23, .slice ((t).xm) ((t).ml) ((t).cm)), (24, .int .i64 (((t).ml : Int))), (25, .int .i64 ((k : Int))), (6, .slice (ob) (k) (d)), (26, .bool true), (8, .pointer (some ((⟨g20_2, 0, none⟩ : Addr))))] := HS20
      have hHw := Held.back HHq1 HH20
      have hgw := gs2 hRow9_0_21.lt hRow9_1_21.lt
      have hA : ∀ wa wx : World, w20.heap.size ≤ wa.heap.size → Sub (msk (fun k => decide (wa.heap.size ≤ k)) wx) (msk (apart w.heap.size [g1_0, g1_1] (Value.slice ob (k) d).ownBlock) wx) := fun wa wx h => msk_new (Nat.le_trans hHw.1.size h) (fun g hg => Nat.lt_of_lt_of_le (hgw g hg) h) (fun k hk => Nat.lt_of_lt_of_le (hO2_21.own.lt k hk).2 h)
      have hΦ : ∀ u g w1, Below w20.heap.size w20 w1 → In (msk (apart w.heap.size [g1_0, g1_1] (Value.slice ob (k) d).ownBlock) w1) u → Eqv (t.mem k) u → Row w1 g () 7 (msc (t.key k) u) 44 → ∀ ty, ∃ v' w2, (Builtin.append_ #[23, 23] ty #[.slice ob k d, .slice (some ⟨g, 0, none⟩) 1 1]).run Tryd.prog w1 = .ok v' w2 ∧ (fun u v w' => ∃ ob' d', v = .slice ob' (k + 1) d' ∧ OwnR w.heap.size w' 44 7 [g1_0, g1_1] (.slice ob' (k + 1) d') (k + 1) (mcells (snoc K k (t.key k)) (snoc M k u) (k + 1)) ∧ Held w w' [⟨g1_0, (), 6, (t).sc, 25⟩, ⟨g1_1, (), 6, lsc [.i .i64 (0), .b (false), .i .i64 (0), .s (ByteArray.empty), .sl (none) (0) (0), .sl (none) (0) (0)], 25⟩] ∧ Kin (msk (apart w.heap.size [g1_0, g1_1] (Value.slice ob' (k + 1) d').ownBlock) w') (k + 1) t.mem (snoc M k u) ∧ ElsAt (msk (apart w.heap.size [g1_0, g1_1] (Value.slice ob' (k + 1) d').ownBlock) w') oa t.ll L ∧ Kin (msk (apart w.heap.size [g1_0, g1_1] (Value.slice ob' (k + 1) d').ownBlock) w') t.ll t.elm L) u v' w2 := by
        intro u g w1 hb hu he hr ty
        obtain ⟨ob', d', w2, hr2, hO', hH', hs'⟩ := app_own (w0 := w) ty Tryd.underlying23 infM zM7 (hO2_21.below hb) (src_m1 hr Tryd.underlying23) (by omega) (by decide) (hHw.call hb) rfl
        rw [mcells_snoc] at hO'
        exact ⟨_, _, hr2, ob', d', rfl, hO', hH', Kin.snoc ((hK2_21.sub (msk_below hb fun _ _ q => q)).sub hs') (hu.mono hs') he, (hE1_21.sub (msk_below hb fun _ _ q => q)).sub hs', (hI1_21.sub (msk_below hb fun _ _ q => q)).sub hs'⟩
      refine regionF_ (sz := 44) (n := 10) (B := [0, 0, 2, 0, 8, 24, 62, 126, 255, 511]) [0, 1, 2, 3, 4, 5, 6, 7, 8, 9] T11 (CpX w20 (apart w.heap.size [g1_0, g1_1] (Value.slice ob (k) d).ownBlock) ob k d g20_2 (t.key k) (t.mem k) (fun u v w' => ∃ ob' d', v = .slice ob' (k + 1) d' ∧ OwnR w.heap.size w' 44 7 [g1_0, g1_1] (.slice ob' (k + 1) d') (k + 1) (mcells (snoc K k (t.key k)) (snoc M k u) (k + 1)) ∧ Held w w' [⟨g1_0, (), 6, (t).sc, 25⟩, ⟨g1_1, (), 6, lsc [.i .i64 (0), .b (false), .i .i64 (0), .s (ByteArray.empty), .sl (none) (0) (0), .sl (none) (0) (0)], 25⟩] ∧ Kin (msk (apart w.heap.size [g1_0, g1_1] (Value.slice ob' (k + 1) d').ownBlock) w') (k + 1) t.mem (snoc M k u) ∧ ElsAt (msk (apart w.heap.size [g1_0, g1_1] (Value.slice ob' (k + 1) d').ownBlock) w') oa t.ll L ∧ Kin (msk (apart w.heap.size [g1_0, g1_1] (Value.slice ob' (k + 1) d').ownBlock) w') t.ll t.elm L)) (by rfl) rfl tabcpy_11 bitscpy_11 (by kernel_rfl) (by kernel_rfl) (by rfl) T11_ok HS21 (fun V => s11_first V HH21.1.drew) ?_ ?_
      · show ∀ i ∈ [0, 1, 2, 3, 4, 5, 6, 7, 8, 9], _
        refine zA (s11_0 (HS21.get 11 rfl) rfl rfl rfl rfl) ?_
        refine zA (s11_1 (HS21.get 13 rfl) rfl rfl rfl rfl) ?_
        refine zA (s11_2 HS21.1 rfl hRow21_0 rfl rfl rfl rfl (by rfl)) ?_
        refine zA (s11_3 (HS21.get 13 rfl) rfl rfl rfl rfl) ?_
        refine zA (s11_4 HS21.1 rfl hRow21_0 rfl rfl rfl rfl (by rfl)) ?_
        refine zA (s11_5 HS21.1 rfl (hIn_21.mem (by omega)) hA (fun w h => ihM k (by omega) w h (hSm.mem (by omega))) Tryd.func23 rfl rfl rfl rfl rfl rfl (by rfl)) ?_
        refine zA (s11_6 HS21.1 rfl rfl rfl rfl rfl (by rfl) (by rfl)) ?_
        refine zA (s11_7 HS21.1 rfl rfl rfl rfl rfl (by rfl)) ?_
        refine zA (s11_8 HS21.1 rfl hΦ rfl rfl rfl rfl (by rfl) (by rfl)) ?_
        refine zA (s11_9 HS21.1 rfl rfl rfl rfl rfl (by rfl)) ?_
        exact zF
      rintro V b22 a22 w22 hall ⟨u, g, hF⟩ hS
      obtain ⟨ob', d', he, hO', hH', hK', hE', hI'⟩ := hF.f8 (hall 8 rfl)
      have h9 := (hF.f9 (hall 9 rfl)).trans he
      have HS22 : Sl a22 44 [(6, V 9), (0, .agg (FR () 6 ((t).sc))), (1, .pointer (some ((⟨g1_0, 0, none⟩ : Addr)))), (2, .pointer (some ((⟨g1_1, 0, none⟩ : Addr)))), (10, .slice ((t).xl) ((t).ll) ((t).cl)), (11, .int .i64 (((t).ll : Int))), (12, .int .i64 ((t.ll : Int))), (3, .slice (oa) (t.ll) (c)), (13, .bool false), (23, .slice ((t).xm) ((t).ml) ((t).cm)), (24, .int .i64 (((t).ml : Int))), (25, .int .i64 ((k : Int))), (26, .bool true), (8, .pointer (some ((⟨g20_2, 0, none⟩ : Addr))))] := yA hS [9, 10, 11, 12, 13, 14, 15, 16, 17, 18, 19, 20, 21, 22] (by rfl)
      rw [h9] at HS22
      have HS22b : Sl a22 44 [(6, .slice (ob') (k + 1) (d')), (0, .agg (FR () 6 ((t).sc))), (1, .pointer (some ⟨g1_0, 0, none⟩)), (2, .pointer (some ⟨g1_1, 0, none⟩)), (10, .slice ((t).xl) ((t).ll) ((t).cl)), (11, .int .i64 (((t).ll : Int))), (12, .int .i64 ((t.ll : Int))), (3, .slice (oa) (t.ll) (c)), (13, .bool false), (23, .slice ((t).xm) ((t).ml) ((t).cm)), (24, .int .i64 (((t).ml : Int))), (25, .int .i64 ((k : Int))), (26, .bool true), (8, .pointer (some ((⟨g20_2, 0, none⟩ : Addr))))] := HS22
      have HH22 : Held w w22 [⟨g1_0, (), 6, (t).sc, 25⟩, ⟨g1_1, (), 6, lsc [.i .i64 (0), .b (false), .i .i64 (0), .s (ByteArray.empty), .sl (none) (0) (0), .sl (none) (0) (0)], 25⟩] := hH'
      clear hS hF
      have hRow23_0 := HH22.row 0 rfl
      have hRow23_1 := HH22.row 1 rfl
      have hIn_23 := hIn.below HH22.1
      have HH23 : Held w22 w22 [] := Held.first w22
      have HS23 : Sl a22 44 [(6, .slice (ob') (k + 1) (d')), (0, .agg (FR () 6 ((t).sc))), (1, .pointer (some ((⟨g1_0, 0, none⟩ : Addr)))), (2, .pointer (some ((⟨g1_1, 0, none⟩ : Addr)))), (10, .slice ((t).xl) ((t).ll) ((t).cl)), (11, .int .i64 (((t).ll : Int))), (12, .int .i64 ((t.ll : Int))), (3, .slice (oa) (t.ll) (c)), (13, .bool false), (23, .slice ((t).xm) ((t).ml) ((t).cm)), (24, .int .i64 (((t).ml : Int))), (25, .int .i64 ((k : Int))), (26, .bool true), (8, .pointer (some ((⟨g20_2, 0, none⟩ : Addr))))] := HS22b
      refine zQ ?_
      refine then_ ?_
      have hLo : LOk [(0, 38, .val (.int .i64 (((k + 1 : Nat) : Int)))), (1, 25, .val (.int .i64 (((k + 1 : Nat) : Int))))] := lok (by rfl) (by rfl)
      refine zH (wE := w22) (sz := 44) (n := 2) [0, 1] [(6, .val (.slice (ob') (k + 1) (d'))), (0, .val (.agg (FR () 6 ((t).sc)))), (1, .val (.pointer (some ((⟨g1_0, 0, none⟩ : Addr))))), (2, .val (.pointer (some ((⟨g1_1, 0, none⟩ : Addr))))), (10, .val (.slice ((t).xl) ((t).ll) ((t).cl))), (11, .val (.int .i64 (((t).ll : Int)))), (12, .val (.int .i64 ((t.ll : Int)))), (3, .val (.slice (oa) (t.ll) (c))), (13, .val (.bool false)), (23, .val (.slice ((t).xm) ((t).ml) ((t).cm))), (24, .val (.int .i64 (((t).ml : Int)))), (26, .val (.bool true)), (8, .val (.pointer (some ((⟨g20_2, 0, none⟩ : Addr))))), (25, .val (.int .i64 (((k + 1 : Nat) : Int))))] [(0, 38, .val (.int .i64 (((k + 1 : Nat) : Int)))), (1, 25, .val (.int .i64 (((k + 1 : Nat) : Int))))] [] rfl (by rfl) HH23 rfl rfl hLo rfl HS23 (slS 0 rfl rfl (slS 1 rfl rfl (slS 2 rfl rfl (slS 3 rfl rfl (slS 4 rfl rfl (slS 5 rfl rfl (slS 6 rfl rfl (slS 7 rfl rfl (slS 8 rfl rfl (slS 9 rfl rfl (slS 10 rfl rfl (slS 12 rfl rfl (slS 13 rfl rfl (slL 1 (d := 1) rfl (trivial))))))))))))))) ?_ ?_
      · show ∀ i ∈ [0, 1], _
        refine zA (zB 0 _ rfl rfl hLo rfl rfl (fun _ _ _ _ => rfl) (fun b G w hb ho => zI rfl (ev_pre hLo 1 rfl (ho 1 (by rfl)) (HS23.get 11 rfl)) (rfl) (rb_add (w_nat (by omega) (by omega)) _ _ _))) ?_
        refine zA (zB 1 _ rfl rfl hLo rfl rfl (fun _ _ _ _ => rfl) (fun b G w hb ho => zD (.inl rfl) (zC hLo 0 rfl HS23.1 rfl (hb 0 (by rfl))))) ?_
        exact zF
      clear hLo
      intro G a24 w24 hS hH
      have HS24 : Sl a24 44 [(6, .slice (ob') (k + 1) (d')), (0, .agg (FR () 6 ((t).sc))), (1, .pointer (some ((⟨g1_0, 0, none⟩ : Addr)))), (2, .pointer (some ((⟨g1_1, 0, none⟩ : Addr)))), (10, .slice ((t).xl) ((t).ll) ((t).cl)), (11, .int .i64 (((t).ll : Int))), (12, .int .i64 ((t.ll : Int))), (3, .slice (oa) (t.ll) (c)), (13, .bool false), (23, .slice ((t).xm) ((t).ml) ((t).cm)), (24, .int .i64 (((t).ml : Int))), (26, .bool true), (8, .pointer (some ((⟨g20_2, 0, none⟩ : Addr)))), (25, .int .i64 (((k + 1 : Nat) : Int)))] := hS
      have HH24 : Held w22 w24 [] := hH
      clear hS hH HS23 HH23
      refine then_ ?_
      have hO2n := hO'.below HH24.1
      have hK2n := hK'.sub (msk_below HH24.1 fun _ _ q => q)
      have hE1n := hE'.sub (msk_below HH24.1 fun _ _ q => q)
      have hI1n := hI'.sub (msk_below HH24.1 fun _ _ q => q)
      have HH25 := Held.back HH22 HH24
      have hSq1' : Sl _ 44 [(0, .agg (FR () 6 ((t).sc))), (1, .pointer (some ⟨g1_0, 0, none⟩)), (2, .pointer (some ⟨g1_1, 0, none⟩)), (10, .slice ((t).xl) ((t).ll) ((t).cl)), (11, .int .i64 (((t).ll : Int))), (12, .int .i64 ((t.ll : Int))), (3, .slice (oa) (t.ll) (c)), (13, .bool false), (23, .slice ((t).xm) ((t).ml) ((t).cm)), (24, .int .i64 (((t).ml : Int))), (25, .int .i64 (((k + 1 : Nat) : Int))), (6, .slice (ob') (k + 1) (d'))] := yA HS24 [1, 2, 3, 4, 5, 6, 7, 8, 9, 10, 13, 0] (by rfl)
      have hHq1' : Held w _ [⟨g1_0, (), 6, (t).sc, 25⟩, ⟨g1_1, (), 6, lsc [.i .i64 (0), .b (false), .i .i64 (0), .s (ByteArray.empty), .sl (none) (0) (0), .sl (none) (0) (0)], 25⟩] := yD HH25 2 rfl
      exact ⟨⟨k + 1, ob', d', snoc K k (t.key k), snoc M k u, by omega, hO2n, hK2n, hE1n, hI1n, kk_snoc hKK, hSq1', hHq1'⟩, by rw [(hSq1'.get 10 rfl)]; show t.ml - (((k + 1 : Nat) : Int)).toNat < t.ml - k; omega⟩
  · skip
    have hlti : i < t.ll := by have := of_decide_eq_true hr1; omega
    refine wp_cond_true (HS5.get 7 rfl) ?_
    refine wp_skip ?_
    refine then_ ?_
    refine wp_seq ?_
    refine wp_block ?_
    obtain ⟨⟨a1, hx1, hv1⟩, hn1⟩ := (hIn_4).elms (i := i) (by omega)
    refine wp_seq ?_
    have hLo : LOk [(0, 14, .val (.pointer (some (a1.add ((i) * 6))))), (1, 15, .val (.agg (FR () 6 (((t).elm (i)).sc)))), (2, 5, .new 2 (fun g => .pointer (some ⟨g, 0, none⟩)))] := lok (by rfl) (by rfl)
    refine zH (wE := wq0) (sz := 44) (n := 4) [0, 1, 3, 7] [(0, .val (.agg (FR () 6 ((t).sc)))), (1, .val (.pointer (some ((⟨g1_0, 0, none⟩ : Addr))))), (2, .val (.pointer (some ((⟨g1_1, 0, none⟩ : Addr))))), (10, .val (.slice ((t).xl) ((t).ll) ((t).cl))), (11, .val (.int .i64 (((t).ll : Int)))), (12, .val (.int .i64 ((i : Int)))), (3, .val (.slice (oa) (i) (c))), (13, .val (.bool true)), (5, .new 2 (fun g => .pointer (some ⟨g, 0, none⟩)))] [(0, 14, .val (.pointer (some (a1.add ((i) * 6))))), (1, 15, .val (.agg (FR () 6 (((t).elm (i)).sc)))), (2, 5, .new 2 (fun g => .pointer (some ⟨g, 0, none⟩)))] [⟨0, some 2, some 3, (), 6, lsc [.i .i64 (0), .b (false), .i .i64 (0), .s (ByteArray.empty), .sl (none) (0) (0), .sl (none) (0) (0)], ((t).elm (i)).sc, 25⟩] rfl (by rfl) HH5 rfl rfl hLo rfl HS5 (slS 0 rfl rfl (slS 1 rfl rfl (slS 2 rfl rfl (slS 3 rfl rfl (slS 4 rfl rfl (slS 5 rfl rfl (slS 6 rfl rfl (slS 7 rfl rfl (slL 2 (d := 2) rfl (trivial)))))))))) ?_ ?_
    · show ∀ i ∈ [0, 1, 2, 3], _
      refine zA (zB 0 _ rfl rfl hLo rfl rfl (fun _ _ _ _ => rfl) (fun b G w hb ho => zU rfl (zG rfl (HS5.get 3 rfl)) (zG rfl (HS5.get 5 rfl)) (index_sl Tryd.underlying22 (by kernel_rfl) hx1 (by omega) _))) ?_
      refine zA (st_at 1 (a1.add ((i) * 6)) rfl rfl rfl (fun _ _ _ _ => rfl) hLo rfl rfl Tryd.underlying25 (by kernel_rfl) rfl (at6e hv1) (fun b G hb ho => zC hLo 0 rfl HS5.1 rfl (hb 0 (by rfl)))) ?_
      refine zA (zZ 2 0 () 6 25 (some 3) _ _ rfl rfl (fun _ _ _ _ => rfl) rfl hLo rfl rfl rfl rfl (by rfl) (fun b G w _ _ => by kernel_rfl)) ?_
      refine zA (st_store 0 _ rfl rfl rfl rfl rfl (fun _ _ _ _ => rfl) rfl rfl rfl (by rfl) (by kernel_rfl) (fun b G hb ho => zC hLo 2 rfl HS5.1 rfl (hb 2 (by rfl))) (fun b G hb ho => zC hLo 1 rfl HS5.1 rfl (hb 1 (by rfl)))) ?_
      exact zF
    clear hLo
    intro G a26 w26 hS hH
    have HS26 : Sl a26 44 [(0, .agg (FR () 6 ((t).sc))), (1, .pointer (some ((⟨g1_0, 0, none⟩ : Addr)))), (2, .pointer (some ((⟨g1_1, 0, none⟩ : Addr)))), (10, .slice ((t).xl) ((t).ll) ((t).cl)), (11, .int .i64 (((t).ll : Int))), (12, .int .i64 ((i : Int))), (3, .slice (oa) (i) (c)), (13, .bool true), (5, .pointer (some ⟨(G 2), 0, none⟩))] := hS
    have HH26 : Held wq0 w26 [⟨(G 2), (), 6, ((t).elm (i)).sc, 25⟩] := hH
    clear hS hH HS5 HH5
    generalize G 2 = g26_2 at HS26 HH26
    refine then_ ?_
    refine whole_ ?_
    have hLo : LOk [(0, 16, .val (.slice (oa) (i) (c))), (1, 17, .val (.agg (FR () 6 (((t).elm (i)).sc))))] := lok (by rfl) (by rfl)
    refine part_ (wE := wq0) (sz := 44) (n := 6) 0 2 [0, 1, 3, 7, 15, 31] [(0, .val (.agg (FR () 6 ((t).sc)))), (1, .val (.pointer (some ((⟨g1_0, 0, none⟩ : Addr))))), (2, .val (.pointer (some ((⟨g1_1, 0, none⟩ : Addr))))), (10, .val (.slice ((t).xl) ((t).ll) ((t).cl))), (11, .val (.int .i64 (((t).ll : Int)))), (12, .val (.int .i64 ((i : Int)))), (3, .val (.slice (oa) (i) (c))), (13, .val (.bool true)), (5, .val (.pointer (some ⟨g26_2, 0, none⟩))), (16, .val (.slice (oa) (i) (c))), (17, .val (.agg (FR () 6 (((t).elm (i)).sc))))] [(0, 16, .val (.slice (oa) (i) (c))), (1, 17, .val (.agg (FR () 6 (((t).elm (i)).sc))))] [⟨g26_2, none, none, (), 6, ((t).elm (i)).sc, ((t).elm (i)).sc, 25⟩] rfl rfl (by rfl) HH26 rfl rfl hLo rfl HS26 (slS 0 rfl rfl (slS 1 rfl rfl (slS 2 rfl rfl (slS 3 rfl rfl (slS 4 rfl rfl (slS 5 rfl rfl (slS 6 rfl rfl (slS 7 rfl rfl (slS 8 rfl rfl (slL 0 (d := 0) rfl (slL 1 (d := 1) rfl (trivial)))))))))))) ?_ ?_
    · show ∀ i ∈ [0, 1], _
      refine zA (zB 0 _ rfl rfl hLo rfl rfl (fun _ _ _ _ => rfl) (fun b G w hb ho => zD (.inl rfl) (zG rfl (HS26.get 6 rfl)))) ?_
      refine zA (yG 1 0 _ rfl rfl rfl rfl (fun _ _ _ _ => rfl) hLo rfl rfl rfl (by rfl) Tryd.underlying25 (by kernel_rfl) rfl (fun b G hb ho => zG rfl (HS26.get 8 rfl))) ?_
      exact zF
    clear hLo
    intro G a27 w27 hS hH
    have HS27 : Sl a27 44 [(0, .agg (FR () 6 ((t).sc))), (1, .pointer (some ((⟨g1_0, 0, none⟩ : Addr)))), (2, .pointer (some ((⟨g1_1, 0, none⟩ : Addr)))), (10, .slice ((t).xl) ((t).ll) ((t).cl)), (11, .int .i64 (((t).ll : Int))), (12, .int .i64 ((i : Int))), (3, .slice (oa) (i) (c)), (13, .bool true), (5, .pointer (some ⟨g26_2, 0, none⟩)), (16, .slice (oa) (i) (c)), (17, .agg (FR () 6 (((t).elm (i)).sc)))] := hS
    have HH27 : Held wq0 w27 [⟨g26_2, (), 6, ((t).elm (i)).sc, 25⟩] := hH
    clear hS hH HS26 HH26
    have hBw : w.heap.size ≤ w27.heap.size := Nat.le_trans HHq0.1.size HH27.1.size
    have hgw := gs2 (Nat.lt_of_lt_of_le hRow4_0.lt HH27.1.size) (Nat.lt_of_lt_of_le hRow4_1.lt HH27.1.size)
    have how : ∀ k, (Value.slice oa i c).ownBlock = some k → k < w27.heap.size := fun k hk => Nat.lt_of_lt_of_le (hO.own.lt k hk).2 HH27.1.size
    refine cut_call _ rfl rfl rfl rfl Tryd.func23 rfl rfl (args1 (HS27.get 10 rfl)) (ihL i (by omega) _ ((hIn_4.elms (i := i) (by omega)).2.below HH27.1) (hSm.elm (by omega))) HS27 rfl ?_
    rintro e28 w28 ⟨⟨u, rfl, hU, hEu⟩, hbu⟩
    refine ⟨_, rfl, fun a28 hS => ?_⟩
    have HS29 : Sl a28 44 [(18, .agg (FR () 6 ((u).sc))), (0, .agg (FR () 6 ((t).sc))), (1, .pointer (some ((⟨g1_0, 0, none⟩ : Addr)))), (2, .pointer (some ((⟨g1_1, 0, none⟩ : Addr)))), (10, .slice ((t).xl) ((t).ll) ((t).cl)), (11, .int .i64 (((t).ll : Int))), (12, .int .i64 ((i : Int))), (3, .slice (oa) (i) (c)), (13, .bool true), (5, .pointer (some ⟨g26_2, 0, none⟩)), (16, .slice (oa) (i) (c)), (17, .agg (FR () 6 (((t).elm (i)).sc)))] := hS
    have HH29 : Held wq0 w28 [⟨g26_2, (), 6, ((t).elm (i)).sc, 25⟩] := HH27.call hbu
    clear hS
    have hUb := hU.mono (msk_new (B := w.heap.size) (gs := [g1_0, g1_1]) (own := (Value.slice oa i c).ownBlock) hBw hgw how)
    have hRow30_0 := HH29.row 0 rfl
    have hIn_30 := hIn_4.below HH29.1
    have hRow4_0_30 := (hRow4_0).below HH29.1 (hRow4_0).lt
    have hRow4_1_30 := (hRow4_1).below HH29.1 (hRow4_1).lt
    have hO_30 := hO.below HH29.1
    have hK_30 := hK.sub (msk_below HH29.1 fun _ _ q => q)
    have HH30 : Held w28 w28 [] := Held.first w28
    have HS30 : Sl a28 44 [(18, .agg (FR () 6 ((u).sc))), (0, .agg (FR () 6 ((t).sc))), (1, .pointer (some ((⟨g1_0, 0, none⟩ : Addr)))), (2, .pointer (some ((⟨g1_1, 0, none⟩ : Addr)))), (10, .slice ((t).xl) ((t).ll) ((t).cl)), (11, .int .i64 (((t).ll : Int))), (12, .int .i64 ((i : Int))), (3, .slice (oa) (i) (c)), (13, .bool true), (5, .pointer (some ((⟨g26_2, 0, none⟩ : Addr)))), (16, .slice (oa) (i) (c)), (17, .agg (FR () 6 (((t).elm (i)).sc)))] := HS29
    have hLo : LOk [(3, 19, .new 3 (fun g => .slice (some ⟨g, 0, none⟩) (1) (1)))] := lok (by rfl) (by rfl)
    refine part_ (wE := w28) (sz := 44) (n := 6) 3 4 [0, 1, 3, 7, 15, 31] [(0, .val (.agg (FR () 6 ((t).sc)))), (1, .val (.pointer (some ((⟨g1_0, 0, none⟩ : Addr))))), (2, .val (.pointer (some ((⟨g1_1, 0, none⟩ : Addr))))), (10, .val (.slice ((t).xl) ((t).ll) ((t).cl))), (11, .val (.int .i64 (((t).ll : Int)))), (12, .val (.int .i64 ((i : Int)))), (3, .val (.slice (oa) (i) (c))), (13, .val (.bool true)), (5, .val (.pointer (some ((⟨g26_2, 0, none⟩ : Addr))))), (16, .val (.slice (oa) (i) (c))), (19, .new 3 (fun g => .slice (some ⟨g, 0, none⟩) (1) (1)))] [(3, 19, .new 3 (fun g => .slice (some ⟨g, 0, none⟩) (1) (1)))] [⟨0, some 3, none, (), 6, (u).sc, (u).sc, 25⟩] rfl rfl (by rfl) HH30 rfl rfl hLo rfl HS30 (slS 1 rfl rfl (slS 2 rfl rfl (slS 3 rfl rfl (slS 4 rfl rfl (slS 5 rfl rfl (slS 6 rfl rfl (slS 7 rfl rfl (slS 8 rfl rfl (slS 9 rfl rfl (slS 10 rfl rfl (slL 0 (d := 3) rfl (trivial)))))))))))) ?_ ?_
    · show ∀ i ∈ [3], _
      refine zA (zZ 0 0 () 6 25 none _ _ rfl rfl (fun _ _ _ _ => rfl) rfl hLo rfl rfl rfl rfl (by rfl) (fun b G w hb ho => exec_buildSlice rfl (parts1 (zG rfl (HS30.get 0 rfl))) (by kernel_rfl))) ?_
      exact zF
    clear hLo
    intro G a31 w31 hS hH
    have HS31 : Sl a31 44 [(0, .agg (FR () 6 ((t).sc))), (1, .pointer (some ((⟨g1_0, 0, none⟩ : Addr)))), (2, .pointer (some ((⟨g1_1, 0, none⟩ : Addr)))), (10, .slice ((t).xl) ((t).ll) ((t).cl)), (11, .int .i64 (((t).ll : Int))), (12, .int .i64 ((i : Int))), (3, .slice (oa) (i) (c)), (13, .bool true), (5, .pointer (some ((⟨g26_2, 0, none⟩ : Addr)))), (16, .slice (oa) (i) (c)), (19, .slice (some ⟨(G 3), 0, none⟩) (1) (1))] := hS
    have HH31 : Held w28 w31 [⟨(G 3), (), 6, (u).sc, 25⟩] := hH
    clear hS hH HS30 HH30
    generalize G 3 = g31_3 at HS31 HH31
    have hOc := hO_30.below HH31.1
    have hKc := hK_30.sub (msk_below HH31.1 fun _ _ q => q)
    have hUc := hUb.mono (msk_below HH31.1 fun _ _ q => q)
    have hSc := src_v1 (HH31.row 0 rfl) Tryd.underlying22
    have HH32 := Held.back HH29 HH31
    have HH33 := Held.back HHq0 HH32
    obtain ⟨oa34, c34, w34, hr34, hO34, hH34, hs34⟩ := app_own (w0 := w) 22 Tryd.underlying22 infV zV6 hOc hSc (by omega) (by decide) HH33 rfl
    refine cut_run rfl rfl rfl (exec_append rfl (HS31.get 9 rfl) (HS31.get 10 rfl) hr34) HS31 rfl (fun a34 hS => ?_)
    have HS35 : Sl a34 44 [(20, .slice (oa34) (i + 1) (c34)), (0, .agg (FR () 6 ((t).sc))), (1, .pointer (some ⟨g1_0, 0, none⟩)), (2, .pointer (some ⟨g1_1, 0, none⟩)), (10, .slice ((t).xl) ((t).ll) ((t).cl)), (11, .int .i64 (((t).ll : Int))), (12, .int .i64 ((i : Int))), (3, .slice (oa) (i) (c)), (13, .bool true), (5, .pointer (some (⟨g26_2, 0, none⟩))), (16, .slice (oa) (i) (c)), (19, .slice (some ⟨g31_3, 0, none⟩) (1) (1))] := hS
    have HH35 : Held w w34 [⟨g1_0, (), 6, (t).sc, 25⟩, ⟨g1_1, (), 6, lsc [.i .i64 (0), .b (false), .i .i64 (0), .s (ByteArray.empty), .sl (none) (0) (0), .sl (none) (0) (0)], 25⟩] := hH34
    clear hS
    have hK34 := Kin.snoc (hKc.sub hs34) (hUc.mono hs34) hEu
    rw [vcells_snoc] at hO34
    have hRow36_0 := HH35.row 0 rfl
    have hRow36_1 := HH35.row 1 rfl
    have hIn_36 := hIn.below HH35.1
    have HH36 : Held w34 w34 [] := Held.first w34
    have HS36 : Sl a34 44 [(20, .slice (oa34) (i + 1) (c34)), (0, .agg (FR () 6 ((t).sc))), (1, .pointer (some ((⟨g1_0, 0, none⟩ : Addr)))), (2, .pointer (some ((⟨g1_1, 0, none⟩ : Addr)))), (10, .slice ((t).xl) ((t).ll) ((t).cl)), (11, .int .i64 (((t).ll : Int))), (12, .int .i64 ((i : Int))), (3, .slice (oa) (i) (c)), (13, .bool true), (5, .pointer (some (⟨g26_2, 0, none⟩))), (16, .slice (oa) (i) (c)), (19, .slice (some ⟨g31_3, 0, none⟩) (1) (1))] := HS35
    have hLo : LOk [(5, 3, .val (.slice (oa34) (i + 1) (c34)))] := lok (by rfl) (by rfl)
    refine part_ (wE := w34) (sz := 44) (n := 6) 5 6 [0, 1, 3, 7, 15, 31] [(0, .val (.agg (FR () 6 ((t).sc)))), (1, .val (.pointer (some ((⟨g1_0, 0, none⟩ : Addr))))), (2, .val (.pointer (some ((⟨g1_1, 0, none⟩ : Addr))))), (10, .val (.slice ((t).xl) ((t).ll) ((t).cl))), (11, .val (.int .i64 (((t).ll : Int)))), (12, .val (.int .i64 ((i : Int)))), (13, .val (.bool true)), (5, .val (.pointer (some (⟨g26_2, 0, none⟩)))), (3, .val (.slice (oa34) (i + 1) (c34)))] [(5, 3, .val (.slice (oa34) (i + 1) (c34)))] [] rfl rfl (by rfl) HH36 rfl rfl hLo rfl HS36 (slS 1 rfl rfl (slS 2 rfl rfl (slS 3 rfl rfl (slS 4 rfl rfl (slS 5 rfl rfl (slS 6 rfl rfl (slS 8 rfl rfl (slS 9 rfl rfl (slL 0 (d := 5) rfl (trivial)))))))))) ?_ ?_
    · show ∀ i ∈ [5], _
      refine zA (zB 0 _ rfl rfl hLo rfl rfl (fun _ _ _ _ => rfl) (fun b G w hb ho => zD (.inr rfl) (zG rfl (HS36.get 0 rfl)))) ?_
      exact zF
    clear hLo
    intro G a37 w37 hS hH
    have HS37 : Sl a37 44 [(0, .agg (FR () 6 ((t).sc))), (1, .pointer (some ((⟨g1_0, 0, none⟩ : Addr)))), (2, .pointer (some ((⟨g1_1, 0, none⟩ : Addr)))), (10, .slice ((t).xl) ((t).ll) ((t).cl)), (11, .int .i64 (((t).ll : Int))), (12, .int .i64 ((i : Int))), (13, .bool true), (5, .pointer (some (⟨g26_2, 0, none⟩))), (3, .slice (oa34) (i + 1) (c34))] := hS
    have HH37 : Held w34 w37 [] := hH
    clear hS hH HS36 HH36
    refine end_ rfl ?_
    refine zQ ?_
    refine then_ ?_
    have hLo : LOk [(0, 21, .val (.int .i64 (((i + 1 : Nat) : Int)))), (1, 12, .val (.int .i64 (((i + 1 : Nat) : Int))))] := lok (by rfl) (by rfl)
    refine zH (wE := w34) (sz := 44) (n := 2) [0, 1] [(0, .val (.agg (FR () 6 ((t).sc)))), (1, .val (.pointer (some ((⟨g1_0, 0, none⟩ : Addr))))), (2, .val (.pointer (some ((⟨g1_1, 0, none⟩ : Addr))))), (10, .val (.slice ((t).xl) ((t).ll) ((t).cl))), (11, .val (.int .i64 (((t).ll : Int)))), (13, .val (.bool true)), (5, .val (.pointer (some (⟨g26_2, 0, none⟩)))), (3, .val (.slice (oa34) (i + 1) (c34))), (12, .val (.int .i64 (((i + 1 : Nat) : Int))))] [(0, 21, .val (.int .i64 (((i + 1 : Nat) : Int)))), (1, 12, .val (.int .i64 (((i + 1 : Nat) : Int))))] [] rfl (by rfl) HH37 rfl rfl hLo rfl HS37 (slS 0 rfl rfl (slS 1 rfl rfl (slS 2 rfl rfl (slS 3 rfl rfl (slS 4 rfl rfl (slS 6 rfl rfl (slS 7 rfl rfl (slS 8 rfl rfl (slL 1 (d := 1) rfl (trivial)))))))))) ?_ ?_
    · show ∀ i ∈ [0, 1], _
      refine zA (zB 0 _ rfl rfl hLo rfl rfl (fun _ _ _ _ => rfl) (fun b G w hb ho => zI rfl (ev_pre hLo 1 rfl (ho 1 (by rfl)) (HS37.get 5 rfl)) (rfl) (rb_add (w_nat (by omega) (by omega)) _ _ _))) ?_
      refine zA (zB 1 _ rfl rfl hLo rfl rfl (fun _ _ _ _ => rfl) (fun b G w hb ho => zD (.inl rfl) (zC hLo 0 rfl HS37.1 rfl (hb 0 (by rfl))))) ?_
      exact zF
    clear hLo
    intro G a38 w38 hS hH
    have HS38 : Sl a38 44 [(0, .agg (FR () 6 ((t).sc))), (1, .pointer (some ((⟨g1_0, 0, none⟩ : Addr)))), (2, .pointer (some ((⟨g1_1, 0, none⟩ : Addr)))), (10, .slice ((t).xl) ((t).ll) ((t).cl)), (11, .int .i64 (((t).ll : Int))), (13, .bool true), (5, .pointer (some (⟨g26_2, 0, none⟩))), (3, .slice (oa34) (i + 1) (c34)), (12, .int .i64 (((i + 1 : Nat) : Int)))] := hS
    have HH38 : Held w34 w38 [] := hH
    clear hS hH HS37 HH37
    refine then_ ?_
    have hOn := hO34.below HH38.1
    have hKn := hK34.sub (msk_below HH38.1 fun _ _ q => q)
    have HH39 := Held.back HH35 HH38
    have hSq0' : Sl _ 44 [(0, .agg (FR () 6 ((t).sc))), (1, .pointer (some ⟨g1_0, 0, none⟩)), (2, .pointer (some ⟨g1_1, 0, none⟩)), (10, .slice ((t).xl) ((t).ll) ((t).cl)), (11, .int .i64 (((t).ll : Int))), (12, .int .i64 (((i + 1 : Nat) : Int))), (3, .slice (oa34) (i + 1) (c34))] := yA HS38 [0, 1, 2, 3, 4, 8, 7] (by rfl)
    have hHq0' : Held w _ [⟨g1_0, (), 6, (t).sc, 25⟩, ⟨g1_1, (), 6, lsc [.i .i64 (0), .b (false), .i .i64 (0), .s (ByteArray.empty), .sl (none) (0) (0), .sl (none) (0) (0)], 25⟩] := yD HH39 2 rfl
    exact ⟨⟨i + 1, oa34, c34, snoc L i u, by omega, hOn, hKn, hSq0', hHq0'⟩, by rw [(hSq0'.get 5 rfl)]; show t.ll - (((i + 1 : Nat) : Int)).toNat < t.ll - i; omega⟩
theorem copy_calls : ∀ (t : T) (w : World), In w t → Small t → Calls Tryd.prog 23 #[(t).val] w fun e w' => (∃ u, e = .returned u.val ∧ In (msk (fun k => decide (w.heap.size ≤ k)) w') u ∧ Eqv (t) u) ∧ Below w.heap.size w w' :=
  T.rec2 (Q := fun t => ∀ w : World, In w t → Small t → Calls Tryd.prog 23 #[(t).val] w fun e w' => (∃ u, e = .returned u.val ∧ In (msk (fun k => decide (w.heap.size ≤ k)) w') u ∧ Eqv (t) u) ∧ Below w.heap.size w w') fun t ihM ihL w h1 h2 => copy_step h1 h2 ihM ihL
def two (p q : T) (j : Nat) : SC := if j < 6 then p.sc j else q.sc (j - 6)
theorem arr_ix {p q : T} {i : Nat} (hi : i < 2) (w : World) : (Instr.index 42 (.agg (FR () 12 (two p q))) (.int .i64 (i : Int))).run Tryd.prog w = .ok (.agg (FR () 6 (zT p q i).sc)) w := by
  have e : i = 0 ∨ i = 1 := by omega
  rcases e with rfl | rfl
  · show _ = _
    kernel_rfl
  · show _ = _
    kernel_rfl
def okM (t : T) (k : Nat) : Bool := decide ((t.mem k).num ≤ 9007199254740992) && allB (fun l => decide (((t.mem k).mem l).num ≤ 9007199254740992)) (t.mem k).ml
def okN (t : T) : Bool := allB (okM t) t.ml
theorem le_of_gt {z : Int} (h : decide (9007199254740992 < z) = false) : decide (z ≤ 9007199254740992) = true := by
  have := of_decide_eq_false h
  exact decide_eq_true (by omega)
theorem okM_is {t : T} {k : Nat} (h : decide (9007199254740992 < (t.mem k).num) = false) (h2 : allB (fun l => decide (((t.mem k).mem l).num ≤ 9007199254740992)) (t.mem k).ml = true) : okM t k = true := by
  unfold okM; rw [le_of_gt h, h2]; rfl
theorem okN_tell {t : T} {key : ByteArray} (h : okN t = true) (h2 : (t.tell key).2 = true) : (t.tell key).1 ≤ 9007199254740992 := by
  unfold T.tell at h2 ⊢
  cases e : t.get key with
  | none => rw [e] at h2; cases h2
  | some x =>
    obtain ⟨i, hi, rfl⟩ := T.get_mem e
    unfold okN at h
    have := allB_is.1 h i hi
    unfold okM at this
    rw [Bool.and_eq_true] at this
    exact of_decide_eq_true this.1
theorem okN_tbl {t : T} {k key : ByteArray} (h : okN t = true) (h2 : ((t.tbl k).tell key).2 = true) : ((t.tbl k).tell key).1 ≤ 9007199254740992 := by
  unfold T.tell at h2 ⊢
  cases e : (t.tbl k).get key with
  | none => rw [e] at h2; cases h2
  | some x =>
    obtain ⟨j, hj, rfl⟩ := T.get_mem e
    unfold T.tbl at hj ⊢
    cases e2 : t.get k with
    | none => rw [e2] at hj; exact absurd hj (Nat.not_lt_zero _)
    | some y =>
      rw [e2] at hj
      obtain ⟨i, hi, rfl⟩ := T.get_mem e2
      unfold okN at h
      have := allB_is.1 h i hi
      unfold okM at this
      rw [Bool.and_eq_true, allB_is] at this
      exact of_decide_eq_true (this.2 j hj)
theorem may_yes {a b : T} {key : ByteArray} {mine : Int} (ha : (a.tell key).2 = true → (a.tell key).1 ≤ mine) (hb : (b.tell key).2 = true → (b.tell key).1 ≤ mine) : mayB a b key mine = true := by
  unfold mayB
  cases e : (a.tell key).2 <;> cases e2 : (b.tell key).2 <;> simp_all
theorem chg_max {p q : T} {us : ByteArray} (hp : okN p = true) (hq : okN q = true) : chgB p q us 9007199254740993 = true := by
  refine chg_yes (allB_is.2 fun i _ => name_ok2 (may_yes (fun h => by have := okN_tell hp h; omega) (fun h => by have := okN_tell hq h; omega))) (allB_is.2 fun j _ => ?_)
  unfold tabOk
  rw [allB_is]
  intro k _
  unfold keyBad
  rw [may_yes (fun h => by have := okN_tbl hp h; omega) (fun h => by have := okN_tbl hq h; omega)]
  cases e : ((p.tbl (TN j)).tell (outK (p.tbl (TN j)) (q.tbl (TN j)) k)).2 with
  | false => simp
  | true =>
    have := okN_tbl hp e
    rw [decide_eq_false (show ¬ (9007199254740993 : Int) ≤ _ by omega)]
    simp
theorem differs_self (u : T) (key : ByteArray) : differs u u key = false := by unfold differs; simp
theorem outL_self (u : T) : ∀ n, outL u u n = []
  | 0 => rfl
  | n + 1 => by rw [outL_no1 (differs_self _ _), outL_self u n]
theorem chg_self (u : T) (us : ByteArray) (mine : Int) : chgB u u us mine = true := by
  refine chg_yes (allB_is.2 fun i _ => name_ok1 (differs_self _ _)) (allB_is.2 fun j _ => ?_)
  unfold tabOk
  rw [outL_self, allB_is]
  intro k hk
  exact absurd hk (Nat.not_lt_zero _)
theorem eqv_small {t u : T} (h : Eqv t u) (hs : ∀ i, i < t.ml → (t.mem i).ml ≤ 1073741824) : ∀ i, i < u.ml → (u.mem i).ml ≤ 1073741824 := fun i hi => by
  obtain ⟨_, _, _, _, _, e⟩ := h.own
  rw [e] at hi
  rw [(h.mem hi).2.own.2.2.2.2.2]
  exact hs i hi
theorem ok_two {p q : T} (h : allB (fun i => okN (zT p q i)) 2 = true) : okN p = true ∧ okN q = true := by
  rw [allB_is] at h
  exact ⟨h 0 (by decide), h 1 (by decide)⟩
set_option maxHeartbeats 4000000 in
theorem PowerLeaves_walk (p q : T) (us : ByteArray) (mine : Int) (w : World) (hTab : Tab w) (hInp : In w p) (hInq : In w q) (hu : us.size ≤ 140737488351232) (hm : (Lit.int .i64 mine).wf = true) : Calls Tryd.prog 8 #[.agg (FR () 6 ((p).sc)), .agg (FR () 6 ((q).sc)), .string (us), .int .i64 (mine)] w fun e w' => e = .returned (.bool true) ∧ Below w.heap.size w w' := by
  refine enter_ 79 Tryd.func8 rfl rfl (fun a0 hS => ?_)
  have HS0 : Sl a0 79 [(0, .agg (FR () 6 ((p).sc))), (1, .agg (FR () 6 ((q).sc))), (2, .string (us)), (3, .int .i64 (mine))] := hS
  have HH0 : Held w w [] := Held.first w
  clear hS
  refine wp_seq ?_
  have hLo : LOk [(0, 4, .new 0 (fun g => .pointer (some ⟨g, 0, none⟩))), (1, 5, .new 1 (fun g => .pointer (some ⟨g, 0, none⟩))), (2, 8, .val (.bool false))] := lok (by rfl) (by rfl)
  refine zH (wE := w) (sz := 79) (n := 3) [0, 1, 3] [(0, .val (.agg (FR () 6 ((p).sc)))), (1, .val (.agg (FR () 6 ((q).sc)))), (2, .val (.string (us))), (3, .val (.int .i64 (mine))), (4, .new 0 (fun g => .pointer (some ⟨g, 0, none⟩))), (5, .new 1 (fun g => .pointer (some ⟨g, 0, none⟩))), (8, .val (.bool false))] [(0, 4, .new 0 (fun g => .pointer (some ⟨g, 0, none⟩))), (1, 5, .new 1 (fun g => .pointer (some ⟨g, 0, none⟩))), (2, 8, .val (.bool false))] [⟨0, some 0, none, (), 6, (p).sc, (p).sc, 25⟩, ⟨0, some 1, none, (), 6, (q).sc, (q).sc, 25⟩] rfl (by rfl) HH0 rfl rfl hLo rfl HS0 (slS 0 rfl rfl (slS 1 rfl rfl (slS 2 rfl rfl (slS 3 rfl rfl (slL 0 (d := 0) rfl (slL 1 (d := 1) rfl (slL 2 (d := 2) rfl (trivial)))))))) ?_ ?_
  · show ∀ i ∈ [0, 1, 2], _
    refine zA (zZ 0 0 () 6 25 none _ _ rfl rfl (fun _ _ _ _ => rfl) rfl hLo rfl rfl rfl rfl (by rfl) (fun b G w hb ho => exec_box rfl (zG rfl (HS0.get 0 rfl)) (by kernel_rfl))) ?_
    refine zA (zZ 1 1 () 6 25 none _ _ rfl rfl (fun _ _ _ _ => rfl) rfl hLo rfl rfl rfl rfl (by rfl) (fun b G w hb ho => exec_box rfl (zG rfl (HS0.get 1 rfl)) (by kernel_rfl))) ?_
    refine zA (zB 2 _ rfl rfl hLo rfl rfl (fun _ _ _ _ => rfl) (fun b G w hb ho => zD (.inr rfl) (rfl))) ?_
    exact zF
  clear hLo
  intro G a1 w1 hS hH
  have HS1 : Sl a1 79 [(0, .agg (FR () 6 ((p).sc))), (1, .agg (FR () 6 ((q).sc))), (2, .string (us)), (3, .int .i64 (mine)), (4, .pointer (some ⟨(G 0), 0, none⟩)), (5, .pointer (some ⟨(G 1), 0, none⟩)), (8, .bool false)] := hS
  have HH1 : Held w w1 [⟨(G 0), (), 6, (p).sc, 25⟩, ⟨(G 1), (), 6, (q).sc, 25⟩] := hH
  clear hS hH HS0 HH0
  generalize G 0 = g1_0 at HS1 HH1
  generalize G 1 = g1_1 at HS1 HH1
  refine then_ ?_
  refine wp_seq ?_
  refine wp_seq ?_
  have hLo : LOk [(0, 16, .val (.bool true)), (1, 17, .val (.bool false))] := lok (by rfl) (by rfl)
  refine zH (wE := w) (sz := 79) (n := 2) [0, 1] [(0, .val (.agg (FR () 6 ((p).sc)))), (1, .val (.agg (FR () 6 ((q).sc)))), (2, .val (.string (us))), (3, .val (.int .i64 (mine))), (4, .val (.pointer (some ⟨g1_0, 0, none⟩))), (5, .val (.pointer (some ⟨g1_1, 0, none⟩))), (8, .val (.bool false)), (17, .val (.bool false))] [(0, 16, .val (.bool true)), (1, 17, .val (.bool false))] [⟨g1_0, none, none, (), 6, (p).sc, (p).sc, 25⟩, ⟨g1_1, none, none, (), 6, (q).sc, (q).sc, 25⟩] rfl (by rfl) HH1 rfl rfl hLo rfl HS1 (slS 0 rfl rfl (slS 1 rfl rfl (slS 2 rfl rfl (slS 3 rfl rfl (slS 4 rfl rfl (slS 5 rfl rfl (slS 6 rfl rfl (slL 1 (d := 1) rfl (trivial))))))))) ?_ ?_
  · show ∀ i ∈ [0, 1], _
    refine zA (yB 0 _ #[] rfl rfl rfl (fun _ _ _ _ => rfl) hLo rfl rfl Tryd.func18 rfl rfl (fun b G hb ho => args0 ) (fun w hw => alive_calls _ (hTab.below hw))) ?_
    refine zA (zB 1 _ rfl rfl hLo rfl rfl (fun _ _ _ _ => rfl) (fun b G w hb ho => exec_un rfl (zC hLo 0 rfl HS1.1 rfl (hb 0 (by rfl))) (ru_not _))) ?_
    exact zF
  clear hLo
  intro G a2 w2 hS hH
  have HS2 : Sl a2 79 [(0, .agg (FR () 6 ((p).sc))), (1, .agg (FR () 6 ((q).sc))), (2, .string (us)), (3, .int .i64 (mine)), (4, .pointer (some ⟨g1_0, 0, none⟩)), (5, .pointer (some ⟨g1_1, 0, none⟩)), (8, .bool false), (17, .bool false)] := hS
  have HH2 : Held w w2 [⟨g1_0, (), 6, (p).sc, 25⟩, ⟨g1_1, (), 6, (q).sc, 25⟩] := hH
  clear hS hH HS1 HH1
  refine then_ ?_
  refine wp_cond_false (HS2.get 7 rfl) ?_
  refine wp_skip ?_
  refine then_ ?_
  refine wp_seq ?_
  obtain ⟨r1, hr1⟩ : ∃ r : Bool, (greatB p) = r := ⟨_, rfl⟩
  cases r1
  · skip
    have hR_p := (greatB_not hr1)
    have hS_p := great_small hInp hr1
    have hSm_p := great_Small hInp hr1
    obtain ⟨r2, hr2⟩ : ∃ r : Bool, (greatB q) = r := ⟨_, rfl⟩
    cases r2
    · skip
      have hR_q := (greatB_not hr2)
      have hS_q := great_small hInq hr2
      have hSm_q := great_Small hInq hr2
      obtain ⟨r3, hr3⟩ : ∃ r : Bool, (decide ((1024 : Int) < ((us).size : Int))) = r := ⟨_, rfl⟩
      refine wp_seq ?_
      have hLo : LOk [(0, 18, .val (.agg (FR () 6 ((p).sc)))), (1, 19, .val (.bool false)), (2, 20, .val (.bool false)), (3, 21, .val (.agg (FR () 6 ((q).sc)))), (4, 22, .val (.bool false)), (5, 23, .val (.bool false)), (6, 24, .val (.bool false)), (7, 25, .val (.string (us))), (8, 26, .val (.int .i64 (((us).size : Int)))), (9, 27, .val (.bool r3)), (10, 28, .val (.bool r3))] := lok (by rfl) (by rfl)
      refine zH (wE := w) (sz := 79) (n := 11) [0, 1, 3, 7, 15, 31, 63, 127, 255, 511, 1023] [(0, .val (.agg (FR () 6 ((p).sc)))), (1, .val (.agg (FR () 6 ((q).sc)))), (2, .val (.string (us))), (3, .val (.int .i64 (mine))), (4, .val (.pointer (some ⟨g1_0, 0, none⟩))), (5, .val (.pointer (some ⟨g1_1, 0, none⟩))), (8, .val (.bool false)), (17, .val (.bool false)), (28, .val (.bool r3))] [(0, 18, .val (.agg (FR () 6 ((p).sc)))), (1, 19, .val (.bool false)), (2, 20, .val (.bool false)), (3, 21, .val (.agg (FR () 6 ((q).sc)))), (4, 22, .val (.bool false)), (5, 23, .val (.bool false)), (6, 24, .val (.bool false)), (7, 25, .val (.string (us))), (8, 26, .val (.int .i64 (((us).size : Int)))), (9, 27, .val (.bool r3)), (10, 28, .val (.bool r3))] [⟨g1_0, none, none, (), 6, (p).sc, (p).sc, 25⟩, ⟨g1_1, none, none, (), 6, (q).sc, (q).sc, 25⟩] rfl (by rfl) HH2 rfl rfl hLo rfl HS2 (slS 0 rfl rfl (slS 1 rfl rfl (slS 2 rfl rfl (slS 3 rfl rfl (slS 4 rfl rfl (slS 5 rfl rfl (slS 6 rfl rfl (slS 7 rfl rfl (slL 10 (d := 10) rfl (trivial)))))))))) ?_ ?_
      · show ∀ i ∈ [0, 1, 2, 3, 4, 5, 6, 7, 8, 9, 10], _
        refine zA (yG 0 0 _ rfl rfl rfl rfl (fun _ _ _ _ => rfl) hLo rfl rfl rfl (by rfl) Tryd.underlying25 (by kernel_rfl) rfl (fun b G hb ho => zG rfl (HS2.get 4 rfl))) ?_
        refine zA (yB 1 _ #[.agg (FR () 6 ((p).sc))] rfl rfl rfl (fun _ _ _ _ => rfl) hLo rfl rfl Tryd.func11 rfl rfl (fun b G hb ho => args1 (zC hLo 0 rfl HS2.1 rfl (hb 0 (by rfl)))) (fun w hw => (by have hq := great_calls (hInp.below hw); rw [hr1] at hq; exact hq))) ?_
        refine zA (zB 2 _ rfl rfl hLo rfl rfl (fun _ _ _ _ => rfl) (fun b G w hb ho => zD (.inl rfl) (zC hLo 1 rfl HS2.1 rfl (hb 1 (by rfl))))) ?_
        refine zA (yG 3 1 _ rfl rfl rfl rfl (fun b G hb ho => zE rfl rfl rfl HS2.1 rfl (zC hLo 2 rfl HS2.1 rfl (hb 2 (by rfl))) rfl) hLo rfl rfl rfl (by rfl) Tryd.underlying25 (by kernel_rfl) rfl (fun b G hb ho => zG rfl (HS2.get 5 rfl))) ?_
        refine zA (yB 4 _ #[.agg (FR () 6 ((q).sc))] rfl rfl rfl (fun b G hb ho => zE rfl rfl rfl HS2.1 rfl (zC hLo 2 rfl HS2.1 rfl (hb 2 (by rfl))) rfl) hLo rfl rfl Tryd.func11 rfl rfl (fun b G hb ho => args1 (zC hLo 3 rfl HS2.1 rfl (hb 3 (by rfl)))) (fun w hw => (by have hq := great_calls (hInq.below hw); rw [hr2] at hq; exact hq))) ?_
        refine zA (zB 5 _ rfl rfl hLo rfl rfl (fun _ _ _ _ => rfl) (fun b G w hb ho => zL rfl (zC hLo 2 rfl HS2.1 rfl (hb 2 (by rfl))) (zC hLo 4 rfl HS2.1 rfl (hb 4 (by rfl))))) ?_
        refine zA (zB 6 _ rfl rfl hLo rfl rfl (fun _ _ _ _ => rfl) (fun b G w hb ho => zD (.inl rfl) (zC hLo 5 rfl HS2.1 rfl (hb 5 (by rfl))))) ?_
        refine zA (zB 7 _ rfl rfl hLo rfl rfl (fun b G hb ho => zE rfl rfl rfl HS2.1 rfl (zC hLo 6 rfl HS2.1 rfl (hb 6 (by rfl))) rfl) (fun b G w hb ho => zD (.inl rfl) (zG rfl (HS2.get 2 rfl)))) ?_
        refine zA (zB 8 _ rfl rfl hLo rfl rfl (fun b G hb ho => zE rfl rfl rfl HS2.1 rfl (zC hLo 6 rfl HS2.1 rfl (hb 6 (by rfl))) rfl) (fun b G w hb ho => exec_lenS Tryd.underlying9 rfl (zC hLo 7 rfl HS2.1 rfl (hb 7 (by rfl))))) ?_
        refine zA (zB 9 _ rfl rfl hLo rfl rfl (fun b G hb ho => zE rfl rfl rfl HS2.1 rfl (zC hLo 6 rfl HS2.1 rfl (hb 6 (by rfl))) rfl) (fun b G w hb ho => zI rfl (zC hLo 8 rfl HS2.1 rfl (hb 8 (by rfl))) (rfl) (rb_gtr hr3 _ _ _))) ?_
        refine zA (zB 10 _ rfl rfl hLo rfl rfl (fun _ _ _ _ => rfl) (fun b G w hb ho => zL rfl (zC hLo 6 rfl HS2.1 rfl (hb 6 (by rfl))) (zC hLo 9 rfl HS2.1 rfl (hb 9 (by rfl))))) ?_
        exact zF
      clear hLo
      intro G a3 w3 hS hH
      have HS3 : Sl a3 79 [(0, .agg (FR () 6 ((p).sc))), (1, .agg (FR () 6 ((q).sc))), (2, .string (us)), (3, .int .i64 (mine)), (4, .pointer (some ⟨g1_0, 0, none⟩)), (5, .pointer (some ⟨g1_1, 0, none⟩)), (8, .bool false), (17, .bool false), (28, .bool r3)] := hS
      have HH3 : Held w w3 [⟨g1_0, (), 6, (p).sc, 25⟩, ⟨g1_1, (), 6, (q).sc, 25⟩] := hH
      clear hS hH HS2 HH2
      refine then_ ?_
      cases r3
      · skip
        refine wp_cond_false (HS3.get 8 rfl) ?_
        refine wp_skip ?_
        refine then_ ?_
        refine wp_seq ?_
        refine whole_ ?_
        have hLo : LOk [(0, 29, .val (.agg (FR () 6 ((p).sc))))] := lok (by rfl) (by rfl)
        refine part_ (wE := w) (sz := 79) (n := 4) 0 1 [0, 1, 3, 7] [(0, .val (.agg (FR () 6 ((p).sc)))), (1, .val (.agg (FR () 6 ((q).sc)))), (2, .val (.string (us))), (3, .val (.int .i64 (mine))), (4, .val (.pointer (some ⟨g1_0, 0, none⟩))), (5, .val (.pointer (some ⟨g1_1, 0, none⟩))), (8, .val (.bool false)), (17, .val (.bool false)), (28, .val (.bool false)), (29, .val (.agg (FR () 6 ((p).sc))))] [(0, 29, .val (.agg (FR () 6 ((p).sc))))] [⟨g1_0, none, none, (), 6, (p).sc, (p).sc, 25⟩, ⟨g1_1, none, none, (), 6, (q).sc, (q).sc, 25⟩] rfl rfl (by rfl) HH3 rfl rfl hLo rfl HS3 (slS 0 rfl rfl (slS 1 rfl rfl (slS 2 rfl rfl (slS 3 rfl rfl (slS 4 rfl rfl (slS 5 rfl rfl (slS 6 rfl rfl (slS 7 rfl rfl (slS 8 rfl rfl (slL 0 (d := 0) rfl (trivial))))))))))) ?_ ?_
        · show ∀ i ∈ [0], _
          refine zA (yG 0 0 _ rfl rfl rfl rfl (fun _ _ _ _ => rfl) hLo rfl rfl rfl (by rfl) Tryd.underlying25 (by kernel_rfl) rfl (fun b G hb ho => zG rfl (HS3.get 4 rfl))) ?_
          exact zF
        clear hLo
        intro G a4 w4 hS hH
        have HS4 : Sl a4 79 [(0, .agg (FR () 6 ((p).sc))), (1, .agg (FR () 6 ((q).sc))), (2, .string (us)), (3, .int .i64 (mine)), (4, .pointer (some ⟨g1_0, 0, none⟩)), (5, .pointer (some ⟨g1_1, 0, none⟩)), (8, .bool false), (17, .bool false), (28, .bool false), (29, .agg (FR () 6 ((p).sc)))] := hS
        have HH4 : Held w w4 [⟨g1_0, (), 6, (p).sc, 25⟩, ⟨g1_1, (), 6, (q).sc, 25⟩] := hH
        clear hS hH HS3 HH3
        refine cut_call _ rfl rfl rfl rfl Tryd.func23 rfl rfl (args1 (HS4.get 9 rfl)) (copy_calls p _ (hInp.below HH4.1) hSm_p) HS4 rfl ?_
        rintro e5 w5 ⟨⟨u, rfl, hU, hEu⟩, hbu⟩
        refine ⟨_, rfl, fun a5 hS => ?_⟩
        have HS6 : Sl a5 79 [(30, .agg (FR () 6 ((u).sc))), (0, .agg (FR () 6 ((p).sc))), (1, .agg (FR () 6 ((q).sc))), (2, .string (us)), (3, .int .i64 (mine)), (4, .pointer (some ⟨g1_0, 0, none⟩)), (5, .pointer (some ⟨g1_1, 0, none⟩)), (8, .bool false), (17, .bool false), (28, .bool false), (29, .agg (FR () 6 ((p).sc)))] := hS
        have HH6 : Held w w5 [⟨g1_0, (), 6, (p).sc, 25⟩, ⟨g1_1, (), 6, (q).sc, 25⟩] := HH4.call hbu
        clear hS
        have hInu := hU.mono (msk_sub _ _)
        have hRu := hEu.rises hR_p
        have hSu := eqv_small hEu hS_p
        have hRow7_0 := HH6.row 0 rfl
        have hRow7_1 := HH6.row 1 rfl
        have hTab_7 := hTab.below HH6.1
        have hInp_7 := hInp.below HH6.1
        have hInq_7 := hInq.below HH6.1
        have HH7 : Held w5 w5 [] := Held.first w5
        have HS7 : Sl a5 79 [(30, .agg (FR () 6 ((u).sc))), (0, .agg (FR () 6 ((p).sc))), (1, .agg (FR () 6 ((q).sc))), (2, .string (us)), (3, .int .i64 (mine)), (4, .pointer (some ((⟨g1_0, 0, none⟩ : Addr)))), (5, .pointer (some ((⟨g1_1, 0, none⟩ : Addr)))), (8, .bool false), (17, .bool false), (28, .bool false), (29, .agg (FR () 6 ((p).sc)))] := HS6
        have hLo : LOk [(2, 9, .new 2 (fun g => .pointer (some ⟨g, 0, none⟩)))] := lok (by rfl) (by rfl)
        refine part_ (wE := w5) (sz := 79) (n := 4) 2 4 [0, 1, 3, 7] [(0, .val (.agg (FR () 6 ((p).sc)))), (1, .val (.agg (FR () 6 ((q).sc)))), (2, .val (.string (us))), (3, .val (.int .i64 (mine))), (4, .val (.pointer (some ((⟨g1_0, 0, none⟩ : Addr))))), (5, .val (.pointer (some ((⟨g1_1, 0, none⟩ : Addr))))), (8, .val (.bool false)), (17, .val (.bool false)), (28, .val (.bool false)), (9, .new 2 (fun g => .pointer (some ⟨g, 0, none⟩)))] [(2, 9, .new 2 (fun g => .pointer (some ⟨g, 0, none⟩)))] [⟨0, some 2, some 3, (), 6, lsc [.i .i64 (0), .b (false), .i .i64 (0), .s (ByteArray.empty), .sl (none) (0) (0), .sl (none) (0) (0)], (u).sc, 25⟩] rfl rfl (by rfl) HH7 rfl rfl hLo rfl HS7 (slS 1 rfl rfl (slS 2 rfl rfl (slS 3 rfl rfl (slS 4 rfl rfl (slS 5 rfl rfl (slS 6 rfl rfl (slS 7 rfl rfl (slS 8 rfl rfl (slS 9 rfl rfl (slL 0 (d := 2) rfl (trivial))))))))))) ?_ ?_
        · show ∀ i ∈ [2, 3], _
          refine zA (zZ 0 0 () 6 25 (some 3) _ _ rfl rfl (fun _ _ _ _ => rfl) rfl hLo rfl rfl rfl rfl (by rfl) (fun b G w _ _ => by kernel_rfl)) ?_
          refine zA (st_store 0 _ rfl rfl rfl rfl rfl (fun _ _ _ _ => rfl) rfl rfl rfl (by rfl) (by kernel_rfl) (fun b G hb ho => zC hLo 0 rfl HS7.1 rfl (hb 2 (by rfl))) (fun b G hb ho => zG rfl (HS7.get 0 rfl))) ?_
          exact zF
        clear hLo
        intro G a8 w8 hS hH
        have HS8 : Sl a8 79 [(0, .agg (FR () 6 ((p).sc))), (1, .agg (FR () 6 ((q).sc))), (2, .string (us)), (3, .int .i64 (mine)), (4, .pointer (some ((⟨g1_0, 0, none⟩ : Addr)))), (5, .pointer (some ((⟨g1_1, 0, none⟩ : Addr)))), (8, .bool false), (17, .bool false), (28, .bool false), (9, .pointer (some ⟨(G 2), 0, none⟩))] := hS
        have HH8 : Held w5 w8 [⟨(G 2), (), 6, (u).sc, 25⟩] := hH
        clear hS hH HS7 HH7
        generalize G 2 = g8_2 at HS8 HH8
        refine end_ rfl ?_
        refine then_ ?_
        refine wp_seq ?_
        refine wp_seq ?_
        have hLo : LOk [(0, 31, .val (.agg (FR () 6 ((u).sc)))), (1, 32, .val (.agg (FR () 6 ((u).sc)))), (2, 33, .val (.string (us))), (3, 34, .val (.int .i64 (mine))), (4, 35, .val (.bool true)), (5, 36, .val (.bool false)), (6, 37, .val (.bool false)), (7, 38, .val (.agg (FR () 6 ((u).sc)))), (8, 39, .val (.agg (FR () 6 ((p).sc)))), (9, 40, .val (.bool true)), (10, 41, .val (.bool false)), (11, 42, .val (.bool false))] := lok (by rfl) (by rfl)
        refine zH (wE := w5) (sz := 79) (n := 12) [0, 1, 3, 7, 15, 31, 63, 127, 255, 511, 1023, 2047] [(0, .val (.agg (FR () 6 ((p).sc)))), (1, .val (.agg (FR () 6 ((q).sc)))), (2, .val (.string (us))), (3, .val (.int .i64 (mine))), (4, .val (.pointer (some ((⟨g1_0, 0, none⟩ : Addr))))), (5, .val (.pointer (some ((⟨g1_1, 0, none⟩ : Addr))))), (8, .val (.bool false)), (17, .val (.bool false)), (28, .val (.bool false)), (9, .val (.pointer (some ⟨g8_2, 0, none⟩))), (42, .val (.bool false))] [(0, 31, .val (.agg (FR () 6 ((u).sc)))), (1, 32, .val (.agg (FR () 6 ((u).sc)))), (2, 33, .val (.string (us))), (3, 34, .val (.int .i64 (mine))), (4, 35, .val (.bool true)), (5, 36, .val (.bool false)), (6, 37, .val (.bool false)), (7, 38, .val (.agg (FR () 6 ((u).sc)))), (8, 39, .val (.agg (FR () 6 ((p).sc)))), (9, 40, .val (.bool true)), (10, 41, .val (.bool false)), (11, 42, .val (.bool false))] [⟨g8_2, none, none, (), 6, (u).sc, (u).sc, 25⟩] rfl (by rfl) HH8 rfl rfl hLo rfl HS8 (slS 0 rfl rfl (slS 1 rfl rfl (slS 2 rfl rfl (slS 3 rfl rfl (slS 4 rfl rfl (slS 5 rfl rfl (slS 6 rfl rfl (slS 7 rfl rfl (slS 8 rfl rfl (slS 9 rfl rfl (slL 11 (d := 11) rfl (trivial)))))))))))) ?_ ?_
        · show ∀ i ∈ [0, 1, 2, 3, 4, 5, 6, 7, 8, 9, 10, 11], _
          refine zA (yG 0 0 _ rfl rfl rfl rfl (fun _ _ _ _ => rfl) hLo rfl rfl rfl (by rfl) Tryd.underlying25 (by kernel_rfl) rfl (fun b G hb ho => zG rfl (HS8.get 9 rfl))) ?_
          refine zA (yG 1 0 _ rfl rfl rfl rfl (fun _ _ _ _ => rfl) hLo rfl rfl rfl (by rfl) Tryd.underlying25 (by kernel_rfl) rfl (fun b G hb ho => zG rfl (HS8.get 9 rfl))) ?_
          refine zA (zB 2 _ rfl rfl hLo rfl rfl (fun _ _ _ _ => rfl) (fun b G w hb ho => zD (.inl rfl) (zG rfl (HS8.get 2 rfl)))) ?_
          refine zA (zB 3 _ rfl rfl hLo rfl rfl (fun _ _ _ _ => rfl) (fun b G w hb ho => zD (.inl rfl) (zG rfl (HS8.get 3 rfl)))) ?_
          refine zA (yB 4 _ #[.agg (FR () 6 ((u).sc)), .agg (FR () 6 ((u).sc)), .string (us), .int .i64 (mine)] rfl rfl rfl (fun _ _ _ _ => rfl) hLo rfl rfl Tryd.func19 rfl rfl (fun b G hb ho => args4 (zC hLo 0 rfl HS8.1 rfl (hb 0 (by rfl))) (zC hLo 1 rfl HS8.1 rfl (hb 1 (by rfl))) (zC hLo 2 rfl HS8.1 rfl (hb 2 (by rfl))) (zC hLo 3 rfl HS8.1 rfl (hb 3 (by rfl)))) (fun w hw => (by have hq := change_calls (p := u) (q := u) us (mine) (hInu.below hw) (hInu.below hw) hRu hRu (tbl_small hSu) (tbl_small hSu) (hTab_7.below hw); rw [chg_self] at hq; exact hq))) ?_
          refine zA (zB 5 _ rfl rfl hLo rfl rfl (fun _ _ _ _ => rfl) (fun b G w hb ho => exec_un rfl (zC hLo 4 rfl HS8.1 rfl (hb 4 (by rfl))) (ru_not _))) ?_
          refine zA (zB 6 _ rfl rfl hLo rfl rfl (fun _ _ _ _ => rfl) (fun b G w hb ho => zD (.inl rfl) (zC hLo 5 rfl HS8.1 rfl (hb 5 (by rfl))))) ?_
          refine zA (yG 7 0 _ rfl rfl rfl rfl (fun b G hb ho => zE rfl rfl rfl HS8.1 rfl (zC hLo 6 rfl HS8.1 rfl (hb 6 (by rfl))) rfl) hLo rfl rfl rfl (by rfl) Tryd.underlying25 (by kernel_rfl) rfl (fun b G hb ho => zG rfl (HS8.get 9 rfl))) ?_
          refine zA (st_at 8 ((⟨g1_0, 0, none⟩ : Addr)) rfl rfl rfl (fun b G hb ho => zE rfl rfl rfl HS8.1 rfl (zC hLo 6 rfl HS8.1 rfl (hb 6 (by rfl))) rfl) hLo rfl rfl Tryd.underlying25 (by kernel_rfl) rfl (row_at hRow7_0) (fun b G hb ho => zG rfl (HS8.get 4 rfl))) ?_
          refine zA (yB 9 _ #[.agg (FR () 6 ((u).sc)), .agg (FR () 6 ((p).sc))] rfl rfl rfl (fun b G hb ho => zE rfl rfl rfl HS8.1 rfl (zC hLo 6 rfl HS8.1 rfl (hb 6 (by rfl))) rfl) hLo rfl rfl Tryd.func24 rfl rfl (fun b G hb ho => args2 (zC hLo 7 rfl HS8.1 rfl (hb 7 (by rfl))) (zC hLo 8 rfl HS8.1 rfl (hb 8 (by rfl)))) (fun w hw => same_calls p u _ hEu (hInp_7.below hw) (hInu.below hw))) ?_
          refine zA (zB 10 _ rfl rfl hLo rfl rfl (fun b G hb ho => zE rfl rfl rfl HS8.1 rfl (zC hLo 6 rfl HS8.1 rfl (hb 6 (by rfl))) rfl) (fun b G w hb ho => exec_un rfl (zC hLo 9 rfl HS8.1 rfl (hb 9 (by rfl))) (ru_not _))) ?_
          refine zA (zB 11 _ rfl rfl hLo rfl rfl (fun _ _ _ _ => rfl) (fun b G w hb ho => zL rfl (zC hLo 6 rfl HS8.1 rfl (hb 6 (by rfl))) (zC hLo 10 rfl HS8.1 rfl (hb 10 (by rfl))))) ?_
          exact zF
        clear hLo
        intro G a9 w9 hS hH
        have HS9 : Sl a9 79 [(0, .agg (FR () 6 ((p).sc))), (1, .agg (FR () 6 ((q).sc))), (2, .string (us)), (3, .int .i64 (mine)), (4, .pointer (some ((⟨g1_0, 0, none⟩ : Addr)))), (5, .pointer (some ((⟨g1_1, 0, none⟩ : Addr)))), (8, .bool false), (17, .bool false), (28, .bool false), (9, .pointer (some ⟨g8_2, 0, none⟩)), (42, .bool false)] := hS
        have HH9 : Held w5 w9 [⟨g8_2, (), 6, (u).sc, 25⟩] := hH
        clear hS hH HS8 HH8
        refine then_ ?_
        refine wp_cond_false (HS9.get 10 rfl) ?_
        refine wp_skip ?_
        refine then_ ?_
        refine wp_seq ?_
        refine wp_seq ?_
        have hLo : LOk [(0, 43, .val (.agg (FR () 6 ((p).sc)))), (1, 44, .val (.agg (FR () 6 ((q).sc)))), (2, 45, .val (.agg (FR () 12 (two p q)))), (3, 46, .val (.int .i64 (0)))] := lok (by rfl) (by rfl)
        refine zH (wE := w5) (sz := 79) (n := 4) [0, 1, 3, 7] [(0, .val (.agg (FR () 6 ((p).sc)))), (1, .val (.agg (FR () 6 ((q).sc)))), (2, .val (.string (us))), (3, .val (.int .i64 (mine))), (4, .val (.pointer (some ((⟨g1_0, 0, none⟩ : Addr))))), (5, .val (.pointer (some ((⟨g1_1, 0, none⟩ : Addr))))), (8, .val (.bool false)), (17, .val (.bool false)), (28, .val (.bool false)), (9, .val (.pointer (some ⟨g8_2, 0, none⟩))), (42, .val (.bool false)), (45, .val (.agg (FR () 12 (two p q)))), (46, .val (.int .i64 (0)))] [(0, 43, .val (.agg (FR () 6 ((p).sc)))), (1, 44, .val (.agg (FR () 6 ((q).sc)))), (2, 45, .val (.agg (FR () 12 (two p q)))), (3, 46, .val (.int .i64 (0)))] [⟨g8_2, none, none, (), 6, (u).sc, (u).sc, 25⟩] rfl (by rfl) HH9 rfl rfl hLo rfl HS9 (slS 0 rfl rfl (slS 1 rfl rfl (slS 2 rfl rfl (slS 3 rfl rfl (slS 4 rfl rfl (slS 5 rfl rfl (slS 6 rfl rfl (slS 7 rfl rfl (slS 8 rfl rfl (slS 9 rfl rfl (slS 10 rfl rfl (slL 2 (d := 2) rfl (slL 3 (d := 3) rfl (trivial)))))))))))))) ?_ ?_
        · show ∀ i ∈ [0, 1, 2, 3], _
          refine zA (st_at 0 ((⟨g1_0, 0, none⟩ : Addr)) rfl rfl rfl (fun _ _ _ _ => rfl) hLo rfl rfl Tryd.underlying25 (by kernel_rfl) rfl (row_at hRow7_0) (fun b G hb ho => zG rfl (HS9.get 4 rfl))) ?_
          refine zA (st_at 1 ((⟨g1_1, 0, none⟩ : Addr)) rfl rfl rfl (fun _ _ _ _ => rfl) hLo rfl rfl Tryd.underlying25 (by kernel_rfl) rfl (row_at hRow7_1) (fun b G hb ho => zG rfl (HS9.get 5 rfl))) ?_
          refine zA (zB 2 _ rfl rfl hLo rfl rfl (fun _ _ _ _ => rfl) (fun b G w hb ho => exec_build rfl (parts2 (zC hLo 0 rfl HS9.1 rfl (hb 0 (by rfl))) (zC hLo 1 rfl HS9.1 rfl (hb 1 (by rfl)))) (by kernel_rfl))) ?_
          refine zA (zB 3 _ rfl rfl hLo rfl rfl (fun _ _ _ _ => rfl) (fun b G w hb ho => zD (.inl rfl) (rfl))) ?_
          exact zF
        clear hLo
        intro G a10 w10 hS hH
        have HS10 : Sl a10 79 [(0, .agg (FR () 6 ((p).sc))), (1, .agg (FR () 6 ((q).sc))), (2, .string (us)), (3, .int .i64 (mine)), (4, .pointer (some ((⟨g1_0, 0, none⟩ : Addr)))), (5, .pointer (some ((⟨g1_1, 0, none⟩ : Addr)))), (8, .bool false), (17, .bool false), (28, .bool false), (9, .pointer (some ⟨g8_2, 0, none⟩)), (42, .bool false), (45, .agg (FR () 12 (two p q))), (46, .int .i64 (0))] := hS
        have HH10 : Held w5 w10 [⟨g8_2, (), 6, (u).sc, 25⟩] := hH
        clear hS hH HS9 HH9
        refine then_ ?_
        refine wp_block ?_
        have hSq0 : Sl _ 79 [(0, .agg (FR () 6 ((p).sc))), (1, .agg (FR () 6 ((q).sc))), (2, .string (us)), (3, .int .i64 (mine)), (4, .pointer (some ((⟨g1_0, 0, none⟩ : Addr)))), (5, .pointer (some ((⟨g1_1, 0, none⟩ : Addr)))), (17, .bool false), (28, .bool false), (9, .pointer (some ⟨g8_2, 0, none⟩)), (42, .bool false), (45, .agg (FR () 12 (two p q))), (46, .int .i64 (0))] := yA HS10 [0, 1, 2, 3, 4, 5, 7, 8, 9, 10, 11, 12] (by rfl)
        refine wp_loop (fun a w' => ∃ i : Nat, i ≤ 2 ∧ allB (fun i => okN (zT p q i)) i = true ∧ Sl a 79 [(0, .agg (FR () 6 ((p).sc))), (1, .agg (FR () 6 ((q).sc))), (2, .string (us)), (3, .int .i64 (mine)), (4, .pointer (some ((⟨g1_0, 0, none⟩ : Addr)))), (5, .pointer (some ((⟨g1_1, 0, none⟩ : Addr)))), (17, .bool false), (28, .bool false), (9, .pointer (some ⟨g8_2, 0, none⟩)), (42, .bool false), (45, .agg (FR () 12 (two p q))), (46, .int .i64 ((i : Int)))] ∧ Held w5 w' [⟨g8_2, (), 6, (u).sc, 25⟩]) (fun a w' => 2 - (intOf (a.eval (.tmp 46))).toNat) ⟨0, Nat.zero_le _, rfl, hSq0, HH10⟩ ?_
        clear hSq0 HS10 HH10
        rintro aq0 wq0 ⟨i, hlei, hpi, HSq0, HHq0⟩
        have hm' : (intOf (aq0.eval (.tmp 46))).toNat = i := by rw [(HSq0.get 11 rfl)]; rfl
        rw [hm']
        clear hm'
        obtain ⟨x, hx⟩ : ∃ t : T, t = zT p q i := ⟨_, rfl⟩
        have hInx : In w5 x := by rw [hx]; exact pick2_in hInp_7 hInq_7 i
        have hbx := hInx.own.2.2.2.2.1
        unfold reach47 at hbx
        obtain ⟨r4, hr4⟩ : ∃ r : Bool, (decide (((i : Int) : Int) < 2)) = r := ⟨_, rfl⟩
        refine wp_seq ?_
        have hLo : LOk [(0, 47, .val (.bool r4))] := lok (by rfl) (by rfl)
        refine zH (wE := w5) (sz := 79) (n := 1) [0] [(0, .val (.agg (FR () 6 ((p).sc)))), (1, .val (.agg (FR () 6 ((q).sc)))), (2, .val (.string (us))), (3, .val (.int .i64 (mine))), (4, .val (.pointer (some ((⟨g1_0, 0, none⟩ : Addr))))), (5, .val (.pointer (some ((⟨g1_1, 0, none⟩ : Addr))))), (17, .val (.bool false)), (28, .val (.bool false)), (9, .val (.pointer (some ⟨g8_2, 0, none⟩))), (42, .val (.bool false)), (45, .val (.agg (FR () 12 (two p q)))), (46, .val (.int .i64 ((i : Int)))), (47, .val (.bool r4))] [(0, 47, .val (.bool r4))] [⟨g8_2, none, none, (), 6, (u).sc, (u).sc, 25⟩] rfl (by rfl) HHq0 rfl rfl hLo rfl HSq0 (slS 0 rfl rfl (slS 1 rfl rfl (slS 2 rfl rfl (slS 3 rfl rfl (slS 4 rfl rfl (slS 5 rfl rfl (slS 6 rfl rfl (slS 7 rfl rfl (slS 8 rfl rfl (slS 9 rfl rfl (slS 10 rfl rfl (slS 11 rfl rfl (slL 0 (d := 0) rfl (trivial)))))))))))))) ?_ ?_
        · show ∀ i ∈ [0], _
          refine zA (zB 0 _ rfl rfl hLo rfl rfl (fun _ _ _ _ => rfl) (fun b G w hb ho => zI rfl (zG rfl (HSq0.get 11 rfl)) (rfl) (rb_lss hr4 _ _ _))) ?_
          exact zF
        clear hLo
        intro G a11 w11 hS hH
        have HS11 : Sl a11 79 [(0, .agg (FR () 6 ((p).sc))), (1, .agg (FR () 6 ((q).sc))), (2, .string (us)), (3, .int .i64 (mine)), (4, .pointer (some ((⟨g1_0, 0, none⟩ : Addr)))), (5, .pointer (some ((⟨g1_1, 0, none⟩ : Addr)))), (17, .bool false), (28, .bool false), (9, .pointer (some ⟨g8_2, 0, none⟩)), (42, .bool false), (45, .agg (FR () 12 (two p q))), (46, .int .i64 ((i : Int))), (47, .bool r4)] := hS
        have HH11 : Held w5 w11 [⟨g8_2, (), 6, (u).sc, 25⟩] := hH
        clear hS hH HSq0 HHq0
        refine then_ ?_
        refine wp_seq ?_
        cases r4
        · skip
          have hendi : i = 2 := by have := of_decide_eq_false hr4; omega
          have hAA := hpi
          rw [hendi] at hAA
          refine wp_cond_false (HS11.get 12 rfl) ?_
          refine wp_exit ?_
          refine zY ?_
          refine zY ?_
          refine yE ?_
          refine then_ ?_
          have hok := ok_two hAA
          refine wp_seq ?_
          have hLo : LOk [(0, 75, .val (.agg (FR () 6 ((p).sc)))), (1, 76, .val (.agg (FR () 6 ((q).sc)))), (2, 77, .val (.string (us))), (3, 78, .val (.bool true)), (4, 8, .val (.bool true))] := lok (by rfl) (by rfl)
          refine zH (wE := w5) (sz := 79) (n := 5) [0, 1, 3, 7, 15] [(0, .val (.agg (FR () 6 ((p).sc)))), (1, .val (.agg (FR () 6 ((q).sc)))), (2, .val (.string (us))), (3, .val (.int .i64 (mine))), (4, .val (.pointer (some ((⟨g1_0, 0, none⟩ : Addr))))), (5, .val (.pointer (some ((⟨g1_1, 0, none⟩ : Addr))))), (17, .val (.bool false)), (28, .val (.bool false)), (9, .val (.pointer (some ⟨g8_2, 0, none⟩))), (42, .val (.bool false)), (45, .val (.agg (FR () 12 (two p q)))), (46, .val (.int .i64 ((i : Int)))), (47, .val (.bool false)), (8, .val (.bool true))] [(0, 75, .val (.agg (FR () 6 ((p).sc)))), (1, 76, .val (.agg (FR () 6 ((q).sc)))), (2, 77, .val (.string (us))), (3, 78, .val (.bool true)), (4, 8, .val (.bool true))] [⟨g8_2, none, none, (), 6, (u).sc, (u).sc, 25⟩] rfl (by rfl) HH11 rfl rfl hLo rfl HS11 (slS 0 rfl rfl (slS 1 rfl rfl (slS 2 rfl rfl (slS 3 rfl rfl (slS 4 rfl rfl (slS 5 rfl rfl (slS 6 rfl rfl (slS 7 rfl rfl (slS 8 rfl rfl (slS 9 rfl rfl (slS 10 rfl rfl (slS 11 rfl rfl (slS 12 rfl rfl (slL 4 (d := 4) rfl (trivial))))))))))))))) ?_ ?_
          · show ∀ i ∈ [0, 1, 2, 3, 4], _
            refine zA (st_at 0 ((⟨g1_0, 0, none⟩ : Addr)) rfl rfl rfl (fun _ _ _ _ => rfl) hLo rfl rfl Tryd.underlying25 (by kernel_rfl) rfl (row_at hRow7_0) (fun b G hb ho => zG rfl (HS11.get 4 rfl))) ?_
            refine zA (st_at 1 ((⟨g1_1, 0, none⟩ : Addr)) rfl rfl rfl (fun _ _ _ _ => rfl) hLo rfl rfl Tryd.underlying25 (by kernel_rfl) rfl (row_at hRow7_1) (fun b G hb ho => zG rfl (HS11.get 5 rfl))) ?_
            refine zA (zB 2 _ rfl rfl hLo rfl rfl (fun _ _ _ _ => rfl) (fun b G w hb ho => zD (.inl rfl) (zG rfl (HS11.get 2 rfl)))) ?_
            refine zA (yB 3 _ #[.agg (FR () 6 ((p).sc)), .agg (FR () 6 ((q).sc)), .string (us), .int .i64 (9007199254740993)] rfl rfl rfl (fun _ _ _ _ => rfl) hLo rfl rfl Tryd.func19 rfl rfl (fun b G hb ho => args4 (zC hLo 0 rfl HS11.1 rfl (hb 0 (by rfl))) (zC hLo 1 rfl HS11.1 rfl (hb 1 (by rfl))) (zC hLo 2 rfl HS11.1 rfl (hb 2 (by rfl))) (rfl)) (fun w hw => (by have hq := change_calls (p := p) (q := q) us (9007199254740993) (hInp_7.below hw) (hInq_7.below hw) hR_p hR_q (tbl_small hS_p) (tbl_small hS_q) (hTab_7.below hw); rw [chg_max hok.1 hok.2] at hq; exact hq))) ?_
            refine zA (zB 4 _ rfl rfl hLo rfl rfl (fun _ _ _ _ => rfl) (fun b G w hb ho => zD (.inr rfl) (zC hLo 3 rfl HS11.1 rfl (hb 3 (by rfl))))) ?_
            exact zF
          clear hLo
          intro G a12 w12 hS hH
          have HS12 : Sl a12 79 [(0, .agg (FR () 6 ((p).sc))), (1, .agg (FR () 6 ((q).sc))), (2, .string (us)), (3, .int .i64 (mine)), (4, .pointer (some ((⟨g1_0, 0, none⟩ : Addr)))), (5, .pointer (some ((⟨g1_1, 0, none⟩ : Addr)))), (17, .bool false), (28, .bool false), (9, .pointer (some ⟨g8_2, 0, none⟩)), (42, .bool false), (45, .agg (FR () 12 (two p q))), (46, .int .i64 ((i : Int))), (47, .bool false), (8, .bool true)] := hS
          have HH12 : Held w5 w12 [⟨g8_2, (), 6, (u).sc, 25⟩] := hH
          clear hS hH HS11 HH11
          refine then_ ?_
          refine wp_ret ?_
          repeat (first | refine zR ?_ | refine zK ?_)
          have HH13 := Held.back HH6 HH12
          exact b_tmp rfl HS12.2.1 (HS12.get 13 rfl) ⟨law_ret rfl, HH13.1⟩
        · skip
          have hlti : i < 2 := by have := of_decide_eq_true hr4; omega
          refine wp_cond_true (HS11.get 12 rfl) ?_
          refine wp_skip ?_
          refine then_ ?_
          refine wp_seq ?_
          refine wp_block ?_
          refine wp_seq ?_
          have hLo : LOk [(0, 48, .val (.agg (FR () 6 ((x).sc)))), (1, 11, .new 1 (fun g => .pointer (some ⟨g, 0, none⟩)))] := lok (by rfl) (by rfl)
          refine zH (wE := w5) (sz := 79) (n := 3) [0, 1, 3] [(0, .val (.agg (FR () 6 ((p).sc)))), (1, .val (.agg (FR () 6 ((q).sc)))), (2, .val (.string (us))), (3, .val (.int .i64 (mine))), (4, .val (.pointer (some ((⟨g1_0, 0, none⟩ : Addr))))), (5, .val (.pointer (some ((⟨g1_1, 0, none⟩ : Addr))))), (17, .val (.bool false)), (28, .val (.bool false)), (9, .val (.pointer (some ⟨g8_2, 0, none⟩))), (42, .val (.bool false)), (45, .val (.agg (FR () 12 (two p q)))), (46, .val (.int .i64 ((i : Int)))), (47, .val (.bool true)), (11, .new 1 (fun g => .pointer (some ⟨g, 0, none⟩)))] [(0, 48, .val (.agg (FR () 6 ((x).sc)))), (1, 11, .new 1 (fun g => .pointer (some ⟨g, 0, none⟩)))] [⟨g8_2, none, none, (), 6, (u).sc, (u).sc, 25⟩, ⟨0, some 1, some 2, (), 6, lsc [.i .i64 (0), .b (false), .i .i64 (0), .s (ByteArray.empty), .sl (none) (0) (0), .sl (none) (0) (0)], (x).sc, 25⟩] rfl (by rfl) HH11 rfl rfl hLo rfl HS11 (slS 0 rfl rfl (slS 1 rfl rfl (slS 2 rfl rfl (slS 3 rfl rfl (slS 4 rfl rfl (slS 5 rfl rfl (slS 6 rfl rfl (slS 7 rfl rfl (slS 8 rfl rfl (slS 9 rfl rfl (slS 10 rfl rfl (slS 11 rfl rfl (slS 12 rfl rfl (slL 1 (d := 1) rfl (trivial))))))))))))))) ?_ ?_
          · show ∀ i ∈ [0, 1, 2], _
            refine zA (zB 0 _ rfl rfl hLo rfl rfl (fun _ _ _ _ => rfl) (fun b G w hb ho => exec_index rfl (zG rfl (HS11.get 10 rfl)) (zG rfl (HS11.get 11 rfl)) (by rw [hx]; exact arr_ix hlti _))) ?_
            refine zA (zZ 1 1 () 6 25 (some 2) _ _ rfl rfl (fun _ _ _ _ => rfl) rfl hLo rfl rfl rfl rfl (by rfl) (fun b G w _ _ => by kernel_rfl)) ?_
            refine zA (st_store 1 _ rfl rfl rfl rfl rfl (fun _ _ _ _ => rfl) rfl rfl rfl (by rfl) (by kernel_rfl) (fun b G hb ho => zC hLo 1 rfl HS11.1 rfl (hb 1 (by rfl))) (fun b G hb ho => zC hLo 0 rfl HS11.1 rfl (hb 0 (by rfl)))) ?_
            exact zF
          clear hLo
          intro G a14 w14 hS hH
          have HS14 : Sl a14 79 [(0, .agg (FR () 6 ((p).sc))), (1, .agg (FR () 6 ((q).sc))), (2, .string (us)), (3, .int .i64 (mine)), (4, .pointer (some ((⟨g1_0, 0, none⟩ : Addr)))), (5, .pointer (some ((⟨g1_1, 0, none⟩ : Addr)))), (17, .bool false), (28, .bool false), (9, .pointer (some ⟨g8_2, 0, none⟩)), (42, .bool false), (45, .agg (FR () 12 (two p q))), (46, .int .i64 ((i : Int))), (47, .bool true), (11, .pointer (some ⟨(G 1), 0, none⟩))] := hS
          have HH14 : Held w5 w14 [⟨g8_2, (), 6, (u).sc, 25⟩, ⟨(G 1), (), 6, (x).sc, 25⟩] := hH
          clear hS hH HS11 HH11
          generalize G 1 = g14_1 at HS14 HH14
          refine then_ ?_
          refine wp_seq ?_
          have hLo : LOk [(0, 49, .val (.pointer (some ⟨g14_1, 5, none⟩))), (1, 50, .val (.slice ((x).xm) ((x).ml) ((x).cm))), (2, 51, .val (.int .i64 (((x).ml : Int)))), (3, 52, .val (.int .i64 (0)))] := lok (by rfl) (by rfl)
          refine zH (wE := w5) (sz := 79) (n := 4) [0, 1, 3, 7] [(0, .val (.agg (FR () 6 ((p).sc)))), (1, .val (.agg (FR () 6 ((q).sc)))), (2, .val (.string (us))), (3, .val (.int .i64 (mine))), (4, .val (.pointer (some ((⟨g1_0, 0, none⟩ : Addr))))), (5, .val (.pointer (some ((⟨g1_1, 0, none⟩ : Addr))))), (17, .val (.bool false)), (28, .val (.bool false)), (9, .val (.pointer (some ⟨g8_2, 0, none⟩))), (42, .val (.bool false)), (45, .val (.agg (FR () 12 (two p q)))), (46, .val (.int .i64 ((i : Int)))), (47, .val (.bool true)), (11, .val (.pointer (some ⟨g14_1, 0, none⟩))), (50, .val (.slice ((x).xm) ((x).ml) ((x).cm))), (51, .val (.int .i64 (((x).ml : Int)))), (52, .val (.int .i64 (0)))] [(0, 49, .val (.pointer (some ⟨g14_1, 5, none⟩))), (1, 50, .val (.slice ((x).xm) ((x).ml) ((x).cm))), (2, 51, .val (.int .i64 (((x).ml : Int)))), (3, 52, .val (.int .i64 (0)))] [⟨g8_2, none, none, (), 6, (u).sc, (u).sc, 25⟩, ⟨g14_1, none, none, (), 6, (x).sc, (x).sc, 25⟩] rfl (by rfl) HH14 rfl rfl hLo rfl HS14 (slS 0 rfl rfl (slS 1 rfl rfl (slS 2 rfl rfl (slS 3 rfl rfl (slS 4 rfl rfl (slS 5 rfl rfl (slS 6 rfl rfl (slS 7 rfl rfl (slS 8 rfl rfl (slS 9 rfl rfl (slS 10 rfl rfl (slS 11 rfl rfl (slS 12 rfl rfl (slS 13 rfl rfl (slL 1 (d := 1) rfl (slL 2 (d := 2) rfl (slL 3 (d := 3) rfl (trivial)))))))))))))))))) ?_ ?_
          · show ∀ i ∈ [0, 1, 2, 3], _
            refine zA (zB 0 _ rfl rfl hLo rfl rfl (fun _ _ _ _ => rfl) (fun b G w hb ho => zJ rfl (zG rfl (HS14.get 13 rfl)) (by kernel_rfl))) ?_
            refine zA (zW 1 1 _ _ rfl rfl rfl hLo rfl rfl (fun _ _ _ _ => rfl) (by rfl) (by rfl) (fun b G w hb ho hr => zP hr (Nat.le_of_ble_eq_true rfl) Tryd.underlying23 rfl rfl (zC hLo 0 rfl HS14.1 rfl (hb 0 (by rfl))))) ?_
            refine zA (zB 2 _ rfl rfl hLo rfl rfl (fun _ _ _ _ => rfl) (fun b G w hb ho => yF Tryd.underlying23 rfl (zC hLo 1 rfl HS14.1 rfl (hb 1 (by rfl))))) ?_
            refine zA (zB 3 _ rfl rfl hLo rfl rfl (fun _ _ _ _ => rfl) (fun b G w hb ho => zD (.inl rfl) (rfl))) ?_
            exact zF
          clear hLo
          intro G a15 w15 hS hH
          have HS15 : Sl a15 79 [(0, .agg (FR () 6 ((p).sc))), (1, .agg (FR () 6 ((q).sc))), (2, .string (us)), (3, .int .i64 (mine)), (4, .pointer (some ((⟨g1_0, 0, none⟩ : Addr)))), (5, .pointer (some ((⟨g1_1, 0, none⟩ : Addr)))), (17, .bool false), (28, .bool false), (9, .pointer (some ⟨g8_2, 0, none⟩)), (42, .bool false), (45, .agg (FR () 12 (two p q))), (46, .int .i64 ((i : Int))), (47, .bool true), (11, .pointer (some ⟨g14_1, 0, none⟩)), (50, .slice ((x).xm) ((x).ml) ((x).cm)), (51, .int .i64 (((x).ml : Int))), (52, .int .i64 (0))] := hS
          have HH15 : Held w5 w15 [⟨g8_2, (), 6, (u).sc, 25⟩, ⟨g14_1, (), 6, (x).sc, 25⟩] := hH
          clear hS hH HS14 HH14
          refine then_ ?_
          refine wp_block ?_
          have hSq1 : Sl _ 79 [(0, .agg (FR () 6 ((p).sc))), (1, .agg (FR () 6 ((q).sc))), (2, .string (us)), (3, .int .i64 (mine)), (4, .pointer (some ((⟨g1_0, 0, none⟩ : Addr)))), (5, .pointer (some ((⟨g1_1, 0, none⟩ : Addr)))), (17, .bool false), (28, .bool false), (9, .pointer (some ⟨g8_2, 0, none⟩)), (42, .bool false), (45, .agg (FR () 12 (two p q))), (46, .int .i64 ((i : Int))), (47, .bool true), (11, .pointer (some ⟨g14_1, 0, none⟩)), (50, .slice ((x).xm) ((x).ml) ((x).cm)), (51, .int .i64 (((x).ml : Int))), (52, .int .i64 (0))] := yA HS15 [0, 1, 2, 3, 4, 5, 6, 7, 8, 9, 10, 11, 12, 13, 14, 15, 16] (by rfl)
          refine wp_loop (fun a w' => ∃ k : Nat, k ≤ x.ml ∧ allB (okM x) k = true ∧ Sl a 79 [(0, .agg (FR () 6 ((p).sc))), (1, .agg (FR () 6 ((q).sc))), (2, .string (us)), (3, .int .i64 (mine)), (4, .pointer (some ((⟨g1_0, 0, none⟩ : Addr)))), (5, .pointer (some ((⟨g1_1, 0, none⟩ : Addr)))), (17, .bool false), (28, .bool false), (9, .pointer (some ⟨g8_2, 0, none⟩)), (42, .bool false), (45, .agg (FR () 12 (two p q))), (46, .int .i64 ((i : Int))), (47, .bool true), (11, .pointer (some ⟨g14_1, 0, none⟩)), (50, .slice ((x).xm) ((x).ml) ((x).cm)), (51, .int .i64 (((x).ml : Int))), (52, .int .i64 ((k : Int)))] ∧ Held w5 w' [⟨g8_2, (), 6, (u).sc, 25⟩, ⟨g14_1, (), 6, (x).sc, 25⟩]) (fun a w' => x.ml - (intOf (a.eval (.tmp 52))).toNat) ⟨0, Nat.zero_le _, rfl, hSq1, HH15⟩ ?_
          clear hSq1 HS15 HH15
          rintro aq1 wq1 ⟨k, hlek, hpk, HSq1, HHq1⟩
          have hm' : (intOf (aq1.eval (.tmp 52))).toNat = k := by rw [(HSq1.get 16 rfl)]; rfl
          rw [hm']
          clear hm'
          obtain ⟨r5, hr5⟩ : ∃ r : Bool, (decide (((k : Int) : Int) < ((x).ml : Int))) = r := ⟨_, rfl⟩
          refine wp_seq ?_
          have hLo : LOk [(0, 53, .val (.bool r5))] := lok (by rfl) (by rfl)
          refine zH (wE := w5) (sz := 79) (n := 1) [0] [(0, .val (.agg (FR () 6 ((p).sc)))), (1, .val (.agg (FR () 6 ((q).sc)))), (2, .val (.string (us))), (3, .val (.int .i64 (mine))), (4, .val (.pointer (some ((⟨g1_0, 0, none⟩ : Addr))))), (5, .val (.pointer (some ((⟨g1_1, 0, none⟩ : Addr))))), (17, .val (.bool false)), (28, .val (.bool false)), (9, .val (.pointer (some ⟨g8_2, 0, none⟩))), (42, .val (.bool false)), (45, .val (.agg (FR () 12 (two p q)))), (46, .val (.int .i64 ((i : Int)))), (47, .val (.bool true)), (11, .val (.pointer (some ⟨g14_1, 0, none⟩))), (50, .val (.slice ((x).xm) ((x).ml) ((x).cm))), (51, .val (.int .i64 (((x).ml : Int)))), (52, .val (.int .i64 ((k : Int)))), (53, .val (.bool r5))] [(0, 53, .val (.bool r5))] [⟨g8_2, none, none, (), 6, (u).sc, (u).sc, 25⟩, ⟨g14_1, none, none, (), 6, (x).sc, (x).sc, 25⟩] rfl (by rfl) HHq1 rfl rfl hLo rfl HSq1 (slS 0 rfl rfl (slS 1 rfl rfl (slS 2 rfl rfl (slS 3 rfl rfl (slS 4 rfl rfl (slS 5 rfl rfl (slS 6 rfl rfl (slS 7 rfl rfl (slS 8 rfl rfl (slS 9 rfl rfl (slS 10 rfl rfl (slS 11 rfl rfl (slS 12 rfl rfl (slS 13 rfl rfl (slS 14 rfl rfl (slS 15 rfl rfl (slS 16 rfl rfl (slL 0 (d := 0) rfl (trivial))))))))))))))))))) ?_ ?_
          · show ∀ i ∈ [0], _
            refine zA (zB 0 _ rfl rfl hLo rfl rfl (fun _ _ _ _ => rfl) (fun b G w hb ho => zI rfl (zG rfl (HSq1.get 16 rfl)) (zG rfl (HSq1.get 15 rfl)) (rb_lss hr5 _ _ _))) ?_
            exact zF
          clear hLo
          intro G a16 w16 hS hH
          have HS16 : Sl a16 79 [(0, .agg (FR () 6 ((p).sc))), (1, .agg (FR () 6 ((q).sc))), (2, .string (us)), (3, .int .i64 (mine)), (4, .pointer (some ((⟨g1_0, 0, none⟩ : Addr)))), (5, .pointer (some ((⟨g1_1, 0, none⟩ : Addr)))), (17, .bool false), (28, .bool false), (9, .pointer (some ⟨g8_2, 0, none⟩)), (42, .bool false), (45, .agg (FR () 12 (two p q))), (46, .int .i64 ((i : Int))), (47, .bool true), (11, .pointer (some ⟨g14_1, 0, none⟩)), (50, .slice ((x).xm) ((x).ml) ((x).cm)), (51, .int .i64 (((x).ml : Int))), (52, .int .i64 ((k : Int))), (53, .bool r5)] := hS
          have HH16 : Held w5 w16 [⟨g8_2, (), 6, (u).sc, 25⟩, ⟨g14_1, (), 6, (x).sc, 25⟩] := hH
          clear hS hH HSq1 HHq1
          refine then_ ?_
          refine wp_seq ?_
          cases r5
          · skip
            have hendk : k = x.ml := by have := of_decide_eq_false hr5; omega
            have hBB : okN (zT p q i) = true := by unfold okN; rw [← hx, ← hendk]; exact hpk
            refine wp_cond_false (HS16.get 17 rfl) ?_
            refine wp_exit ?_
            refine zY ?_
            refine zY ?_
            refine yE ?_
            refine zQ ?_
            refine then_ ?_
            have hLo : LOk [(0, 74, .val (.int .i64 (((i + 1 : Nat) : Int)))), (1, 46, .val (.int .i64 (((i + 1 : Nat) : Int))))] := lok (by rfl) (by rfl)
            refine zH (wE := w5) (sz := 79) (n := 2) [0, 1] [(0, .val (.agg (FR () 6 ((p).sc)))), (1, .val (.agg (FR () 6 ((q).sc)))), (2, .val (.string (us))), (3, .val (.int .i64 (mine))), (4, .val (.pointer (some ((⟨g1_0, 0, none⟩ : Addr))))), (5, .val (.pointer (some ((⟨g1_1, 0, none⟩ : Addr))))), (17, .val (.bool false)), (28, .val (.bool false)), (9, .val (.pointer (some ⟨g8_2, 0, none⟩))), (42, .val (.bool false)), (45, .val (.agg (FR () 12 (two p q)))), (47, .val (.bool true)), (11, .val (.pointer (some ⟨g14_1, 0, none⟩))), (50, .val (.slice ((x).xm) ((x).ml) ((x).cm))), (51, .val (.int .i64 (((x).ml : Int)))), (52, .val (.int .i64 ((k : Int)))), (53, .val (.bool false)), (46, .val (.int .i64 (((i + 1 : Nat) : Int))))] [(0, 74, .val (.int .i64 (((i + 1 : Nat) : Int)))), (1, 46, .val (.int .i64 (((i + 1 : Nat) : Int))))] [⟨g8_2, none, none, (), 6, (u).sc, (u).sc, 25⟩, ⟨g14_1, none, none, (), 6, (x).sc, (x).sc, 25⟩] rfl (by rfl) HH16 rfl rfl hLo rfl HS16 (slS 0 rfl rfl (slS 1 rfl rfl (slS 2 rfl rfl (slS 3 rfl rfl (slS 4 rfl rfl (slS 5 rfl rfl (slS 6 rfl rfl (slS 7 rfl rfl (slS 8 rfl rfl (slS 9 rfl rfl (slS 10 rfl rfl (slS 12 rfl rfl (slS 13 rfl rfl (slS 14 rfl rfl (slS 15 rfl rfl (slS 16 rfl rfl (slS 17 rfl rfl (slL 1 (d := 1) rfl (trivial))))))))))))))))))) ?_ ?_
            · show ∀ i ∈ [0, 1], _
              refine zA (zB 0 _ rfl rfl hLo rfl rfl (fun _ _ _ _ => rfl) (fun b G w hb ho => zI rfl (ev_pre hLo 1 rfl (ho 1 (by rfl)) (HS16.get 11 rfl)) (rfl) (rb_add (w_nat (by omega) (by omega)) _ _ _))) ?_
              refine zA (zB 1 _ rfl rfl hLo rfl rfl (fun _ _ _ _ => rfl) (fun b G w hb ho => zD (.inl rfl) (zC hLo 0 rfl HS16.1 rfl (hb 0 (by rfl))))) ?_
              exact zF
            clear hLo
            intro G a17 w17 hS hH
            have HS17 : Sl a17 79 [(0, .agg (FR () 6 ((p).sc))), (1, .agg (FR () 6 ((q).sc))), (2, .string (us)), (3, .int .i64 (mine)), (4, .pointer (some ((⟨g1_0, 0, none⟩ : Addr)))), (5, .pointer (some ((⟨g1_1, 0, none⟩ : Addr)))), (17, .bool false), (28, .bool false), (9, .pointer (some ⟨g8_2, 0, none⟩)), (42, .bool false), (45, .agg (FR () 12 (two p q))), (47, .bool true), (11, .pointer (some ⟨g14_1, 0, none⟩)), (50, .slice ((x).xm) ((x).ml) ((x).cm)), (51, .int .i64 (((x).ml : Int))), (52, .int .i64 ((k : Int))), (53, .bool false), (46, .int .i64 (((i + 1 : Nat) : Int)))] := hS
            have HH17 : Held w5 w17 [⟨g8_2, (), 6, (u).sc, 25⟩, ⟨g14_1, (), 6, (x).sc, 25⟩] := hH
            clear hS hH HS16 HH16
            refine then_ ?_
            have hSq0' : Sl _ 79 [(0, .agg (FR () 6 ((p).sc))), (1, .agg (FR () 6 ((q).sc))), (2, .string (us)), (3, .int .i64 (mine)), (4, .pointer (some ((⟨g1_0, 0, none⟩ : Addr)))), (5, .pointer (some ((⟨g1_1, 0, none⟩ : Addr)))), (17, .bool false), (28, .bool false), (9, .pointer (some ⟨g8_2, 0, none⟩)), (42, .bool false), (45, .agg (FR () 12 (two p q))), (46, .int .i64 (((i + 1 : Nat) : Int)))] := yA HS17 [0, 1, 2, 3, 4, 5, 6, 7, 8, 9, 10, 17] (by rfl)
            have hHq0' : Held w5 _ [⟨g8_2, (), 6, (u).sc, 25⟩] := yD HH17 1 rfl
            exact ⟨⟨i + 1, by omega, allB_step hpi (hBB), hSq0', hHq0'⟩, by rw [(hSq0'.get 11 rfl)]; show 2 - (((i + 1 : Nat) : Int)).toNat < 2 - i; omega⟩
          · skip
            have hltk : k < x.ml := by have := of_decide_eq_true hr5; omega
            refine wp_cond_true (HS16.get 17 rfl) ?_
            refine wp_skip ?_
            refine then_ ?_
            refine wp_seq ?_
            refine wp_block ?_
            obtain ⟨⟨a1, hx1, hk1, hv1⟩, _, hn1⟩ := (hInx).mems (i := k) (by omega)
            refine wp_seq ?_
            have hLo : LOk [(0, 54, .val (.pointer (some (a1.add ((k) * 7))))), (1, 55, .val (.agg (FR () 7 (msc ((x).key (k)) ((x).mem (k)))))), (2, 13, .new 2 (fun g => .pointer (some ⟨g, 0, none⟩)))] := lok (by rfl) (by rfl)
            refine zH (wE := w5) (sz := 79) (n := 4) [0, 1, 3, 7] [(0, .val (.agg (FR () 6 ((p).sc)))), (1, .val (.agg (FR () 6 ((q).sc)))), (2, .val (.string (us))), (3, .val (.int .i64 (mine))), (4, .val (.pointer (some ((⟨g1_0, 0, none⟩ : Addr))))), (5, .val (.pointer (some ((⟨g1_1, 0, none⟩ : Addr))))), (17, .val (.bool false)), (28, .val (.bool false)), (9, .val (.pointer (some ⟨g8_2, 0, none⟩))), (42, .val (.bool false)), (45, .val (.agg (FR () 12 (two p q)))), (46, .val (.int .i64 ((i : Int)))), (47, .val (.bool true)), (11, .val (.pointer (some ⟨g14_1, 0, none⟩))), (50, .val (.slice ((x).xm) ((x).ml) ((x).cm))), (51, .val (.int .i64 (((x).ml : Int)))), (52, .val (.int .i64 ((k : Int)))), (53, .val (.bool true)), (13, .new 2 (fun g => .pointer (some ⟨g, 0, none⟩)))] [(0, 54, .val (.pointer (some (a1.add ((k) * 7))))), (1, 55, .val (.agg (FR () 7 (msc ((x).key (k)) ((x).mem (k)))))), (2, 13, .new 2 (fun g => .pointer (some ⟨g, 0, none⟩)))] [⟨g8_2, none, none, (), 6, (u).sc, (u).sc, 25⟩, ⟨g14_1, none, none, (), 6, (x).sc, (x).sc, 25⟩, ⟨0, some 2, some 3, (), 7, lsc [.s (ByteArray.empty), .i .i64 (0), .b (false), .i .i64 (0), .s (ByteArray.empty), .sl (none) (0) (0), .sl (none) (0) (0)], msc ((x).key (k)) ((x).mem (k)), 44⟩] rfl (by rfl) HH16 rfl rfl hLo rfl HS16 (slS 0 rfl rfl (slS 1 rfl rfl (slS 2 rfl rfl (slS 3 rfl rfl (slS 4 rfl rfl (slS 5 rfl rfl (slS 6 rfl rfl (slS 7 rfl rfl (slS 8 rfl rfl (slS 9 rfl rfl (slS 10 rfl rfl (slS 11 rfl rfl (slS 12 rfl rfl (slS 13 rfl rfl (slS 14 rfl rfl (slS 15 rfl rfl (slS 16 rfl rfl (slS 17 rfl rfl (slL 2 (d := 2) rfl (trivial)))))))))))))))))))) ?_ ?_
            · show ∀ i ∈ [0, 1, 2, 3], _
              refine zA (zB 0 _ rfl rfl hLo rfl rfl (fun _ _ _ _ => rfl) (fun b G w hb ho => zU rfl (zG rfl (HS16.get 14 rfl)) (zG rfl (HS16.get 16 rfl)) (index_sl Tryd.underlying23 (by kernel_rfl) hx1 (by omega) _))) ?_
              refine zA (st_at 1 (a1.add ((k) * 7)) rfl rfl rfl (fun _ _ _ _ => rfl) hLo rfl rfl Tryd.underlying44 (by kernel_rfl) rfl (at7 hk1 hv1) (fun b G hb ho => zC hLo 0 rfl HS16.1 rfl (hb 0 (by rfl)))) ?_
              refine zA (zZ 2 2 () 7 44 (some 3) _ _ rfl rfl (fun _ _ _ _ => rfl) rfl hLo rfl rfl rfl rfl (by rfl) (fun b G w _ _ => by kernel_rfl)) ?_
              refine zA (st_store 2 _ rfl rfl rfl rfl rfl (fun _ _ _ _ => rfl) rfl rfl rfl (by rfl) (by kernel_rfl) (fun b G hb ho => zC hLo 2 rfl HS16.1 rfl (hb 2 (by rfl))) (fun b G hb ho => zC hLo 1 rfl HS16.1 rfl (hb 1 (by rfl)))) ?_
              exact zF
            clear hLo
            intro G a18 w18 hS hH
            have HS18 : Sl a18 79 [(0, .agg (FR () 6 ((p).sc))), (1, .agg (FR () 6 ((q).sc))), (2, .string (us)), (3, .int .i64 (mine)), (4, .pointer (some ((⟨g1_0, 0, none⟩ : Addr)))), (5, .pointer (some ((⟨g1_1, 0, none⟩ : Addr)))), (17, .bool false), (28, .bool false), (9, .pointer (some ⟨g8_2, 0, none⟩)), (42, .bool false), (45, .agg (FR () 12 (two p q))), (46, .int .i64 ((i : Int))), (47, .bool true), (11, .pointer (some ⟨g14_1, 0, none⟩)), (50, .slice ((x).xm) ((x).ml) ((x).cm)), (51, .int .i64 (((x).ml : Int))), (52, .int .i64 ((k : Int))), (53, .bool true), (13, .pointer (some ⟨(G 2), 0, none⟩))] := hS
            have HH18 : Held w5 w18 [⟨g8_2, (), 6, (u).sc, 25⟩, ⟨g14_1, (), 6, (x).sc, 25⟩, ⟨(G 2), (), 7, msc ((x).key (k)) ((x).mem (k)), 44⟩] := hH
            clear hS hH HS16 HH16
            generalize G 2 = g18_2 at HS18 HH18
            refine then_ ?_
            refine wp_seq ?_
            obtain ⟨r6, hr6⟩ : ∃ r : Bool, (decide ((9007199254740992 : Int) < ((x).mem (k)).num)) = r := ⟨_, rfl⟩
            refine wp_seq ?_
            have hLo : LOk [(0, 56, .val (.pointer (some ⟨g18_2, 1, none⟩))), (1, 57, .val (.pointer (some ⟨g18_2, 3, none⟩))), (2, 58, .val (.int .i64 (((x).mem (k)).num))), (3, 59, .val (.bool r6))] := lok (by rfl) (by rfl)
            refine zH (wE := w5) (sz := 79) (n := 4) [0, 1, 3, 7] [(0, .val (.agg (FR () 6 ((p).sc)))), (1, .val (.agg (FR () 6 ((q).sc)))), (2, .val (.string (us))), (3, .val (.int .i64 (mine))), (4, .val (.pointer (some ((⟨g1_0, 0, none⟩ : Addr))))), (5, .val (.pointer (some ((⟨g1_1, 0, none⟩ : Addr))))), (17, .val (.bool false)), (28, .val (.bool false)), (9, .val (.pointer (some ⟨g8_2, 0, none⟩))), (42, .val (.bool false)), (45, .val (.agg (FR () 12 (two p q)))), (46, .val (.int .i64 ((i : Int)))), (47, .val (.bool true)), (11, .val (.pointer (some ⟨g14_1, 0, none⟩))), (50, .val (.slice ((x).xm) ((x).ml) ((x).cm))), (51, .val (.int .i64 (((x).ml : Int)))), (52, .val (.int .i64 ((k : Int)))), (53, .val (.bool true)), (13, .val (.pointer (some ⟨g18_2, 0, none⟩))), (59, .val (.bool r6))] [(0, 56, .val (.pointer (some ⟨g18_2, 1, none⟩))), (1, 57, .val (.pointer (some ⟨g18_2, 3, none⟩))), (2, 58, .val (.int .i64 (((x).mem (k)).num))), (3, 59, .val (.bool r6))] [⟨g8_2, none, none, (), 6, (u).sc, (u).sc, 25⟩, ⟨g14_1, none, none, (), 6, (x).sc, (x).sc, 25⟩, ⟨g18_2, none, none, (), 7, msc ((x).key (k)) ((x).mem (k)), msc ((x).key (k)) ((x).mem (k)), 44⟩] rfl (by rfl) HH18 rfl rfl hLo rfl HS18 (slS 0 rfl rfl (slS 1 rfl rfl (slS 2 rfl rfl (slS 3 rfl rfl (slS 4 rfl rfl (slS 5 rfl rfl (slS 6 rfl rfl (slS 7 rfl rfl (slS 8 rfl rfl (slS 9 rfl rfl (slS 10 rfl rfl (slS 11 rfl rfl (slS 12 rfl rfl (slS 13 rfl rfl (slS 14 rfl rfl (slS 15 rfl rfl (slS 16 rfl rfl (slS 17 rfl rfl (slS 18 rfl rfl (slL 3 (d := 3) rfl (trivial))))))))))))))))))))) ?_ ?_
            · show ∀ i ∈ [0, 1, 2, 3], _
              refine zA (zB 0 _ rfl rfl hLo rfl rfl (fun _ _ _ _ => rfl) (fun b G w hb ho => zJ rfl (zG rfl (HS18.get 18 rfl)) (by kernel_rfl))) ?_
              refine zA (zB 1 _ rfl rfl hLo rfl rfl (fun _ _ _ _ => rfl) (fun b G w hb ho => zJ rfl (zC hLo 0 rfl HS18.1 rfl (hb 0 (by rfl))) (by kernel_rfl))) ?_
              refine zA (zW 2 2 _ _ rfl rfl rfl hLo rfl rfl (fun _ _ _ _ => rfl) (by rfl) (by rfl) (fun b G w hb ho hr => zP hr (Nat.le_of_ble_eq_true rfl) Tryd.underlying3 rfl rfl (zC hLo 1 rfl HS18.1 rfl (hb 1 (by rfl))))) ?_
              refine zA (zB 3 _ rfl rfl hLo rfl rfl (fun _ _ _ _ => rfl) (fun b G w hb ho => zI rfl (zC hLo 2 rfl HS18.1 rfl (hb 2 (by rfl))) (rfl) (rb_gtr hr6 _ _ _))) ?_
              exact zF
            clear hLo
            intro G a19 w19 hS hH
            have HS19 : Sl a19 79 [(0, .agg (FR () 6 ((p).sc))), (1, .agg (FR () 6 ((q).sc))), (2, .string (us)), (3, .int .i64 (mine)), (4, .pointer (some ((⟨g1_0, 0, none⟩ : Addr)))), (5, .pointer (some ((⟨g1_1, 0, none⟩ : Addr)))), (17, .bool false), (28, .bool false), (9, .pointer (some ⟨g8_2, 0, none⟩)), (42, .bool false), (45, .agg (FR () 12 (two p q))), (46, .int .i64 ((i : Int))), (47, .bool true), (11, .pointer (some ⟨g14_1, 0, none⟩)), (50, .slice ((x).xm) ((x).ml) ((x).cm)), (51, .int .i64 (((x).ml : Int))), (52, .int .i64 ((k : Int))), (53, .bool true), (13, .pointer (some ⟨g18_2, 0, none⟩)), (59, .bool r6)] := hS
            have HH19 : Held w5 w19 [⟨g8_2, (), 6, (u).sc, 25⟩, ⟨g14_1, (), 6, (x).sc, 25⟩, ⟨g18_2, (), 7, msc ((x).key (k)) ((x).mem (k)), 44⟩] := hH
            clear hS hH HS18 HH18
            refine then_ ?_
            cases r6
            · skip
              refine wp_cond_false (HS19.get 19 rfl) ?_
              refine wp_skip ?_
              refine then_ ?_
              refine wp_seq ?_
              have hLo : LOk [(0, 60, .val (.pointer (some ⟨g18_2, 1, none⟩))), (1, 61, .val (.pointer (some ⟨g18_2, 6, none⟩))), (2, 62, .val (.slice (((x).mem (k)).xm) (((x).mem (k)).ml) (((x).mem (k)).cm))), (3, 63, .val (.int .i64 ((((x).mem (k)).ml : Int)))), (4, 64, .val (.int .i64 (0)))] := lok (by rfl) (by rfl)
              refine zH (wE := w5) (sz := 79) (n := 5) [0, 1, 3, 7, 15] [(0, .val (.agg (FR () 6 ((p).sc)))), (1, .val (.agg (FR () 6 ((q).sc)))), (2, .val (.string (us))), (3, .val (.int .i64 (mine))), (4, .val (.pointer (some ((⟨g1_0, 0, none⟩ : Addr))))), (5, .val (.pointer (some ((⟨g1_1, 0, none⟩ : Addr))))), (17, .val (.bool false)), (28, .val (.bool false)), (9, .val (.pointer (some ⟨g8_2, 0, none⟩))), (42, .val (.bool false)), (45, .val (.agg (FR () 12 (two p q)))), (46, .val (.int .i64 ((i : Int)))), (47, .val (.bool true)), (11, .val (.pointer (some ⟨g14_1, 0, none⟩))), (50, .val (.slice ((x).xm) ((x).ml) ((x).cm))), (51, .val (.int .i64 (((x).ml : Int)))), (52, .val (.int .i64 ((k : Int)))), (53, .val (.bool true)), (13, .val (.pointer (some ⟨g18_2, 0, none⟩))), (59, .val (.bool false)), (62, .val (.slice (((x).mem (k)).xm) (((x).mem (k)).ml) (((x).mem (k)).cm))), (63, .val (.int .i64 ((((x).mem (k)).ml : Int)))), (64, .val (.int .i64 (0)))] [(0, 60, .val (.pointer (some ⟨g18_2, 1, none⟩))), (1, 61, .val (.pointer (some ⟨g18_2, 6, none⟩))), (2, 62, .val (.slice (((x).mem (k)).xm) (((x).mem (k)).ml) (((x).mem (k)).cm))), (3, 63, .val (.int .i64 ((((x).mem (k)).ml : Int)))), (4, 64, .val (.int .i64 (0)))] [⟨g8_2, none, none, (), 6, (u).sc, (u).sc, 25⟩, ⟨g14_1, none, none, (), 6, (x).sc, (x).sc, 25⟩, ⟨g18_2, none, none, (), 7, msc ((x).key (k)) ((x).mem (k)), msc ((x).key (k)) ((x).mem (k)), 44⟩] rfl (by rfl) HH19 rfl rfl hLo rfl HS19 (slS 0 rfl rfl (slS 1 rfl rfl (slS 2 rfl rfl (slS 3 rfl rfl (slS 4 rfl rfl (slS 5 rfl rfl (slS 6 rfl rfl (slS 7 rfl rfl (slS 8 rfl rfl (slS 9 rfl rfl (slS 10 rfl rfl (slS 11 rfl rfl (slS 12 rfl rfl (slS 13 rfl rfl (slS 14 rfl rfl (slS 15 rfl rfl (slS 16 rfl rfl (slS 17 rfl rfl (slS 18 rfl rfl (slS 19 rfl rfl (slL 2 (d := 2) rfl (slL 3 (d := 3) rfl (slL 4 (d := 4) rfl (trivial)))))))))))))))))))))))) ?_ ?_
              · show ∀ i ∈ [0, 1, 2, 3, 4], _
                refine zA (zB 0 _ rfl rfl hLo rfl rfl (fun _ _ _ _ => rfl) (fun b G w hb ho => zJ rfl (zG rfl (HS19.get 18 rfl)) (by kernel_rfl))) ?_
                refine zA (zB 1 _ rfl rfl hLo rfl rfl (fun _ _ _ _ => rfl) (fun b G w hb ho => zJ rfl (zC hLo 0 rfl HS19.1 rfl (hb 0 (by rfl))) (by kernel_rfl))) ?_
                refine zA (zW 2 2 _ _ rfl rfl rfl hLo rfl rfl (fun _ _ _ _ => rfl) (by rfl) (by rfl) (fun b G w hb ho hr => zP hr (Nat.le_of_ble_eq_true rfl) Tryd.underlying23 rfl rfl (zC hLo 1 rfl HS19.1 rfl (hb 1 (by rfl))))) ?_
                refine zA (zB 3 _ rfl rfl hLo rfl rfl (fun _ _ _ _ => rfl) (fun b G w hb ho => yF Tryd.underlying23 rfl (zC hLo 2 rfl HS19.1 rfl (hb 2 (by rfl))))) ?_
                refine zA (zB 4 _ rfl rfl hLo rfl rfl (fun _ _ _ _ => rfl) (fun b G w hb ho => zD (.inl rfl) (rfl))) ?_
                exact zF
              clear hLo
              intro G a20 w20 hS hH
              have HS20 : Sl a20 79 [(0, .agg (FR () 6 ((p).sc))), (1, .agg (FR () 6 ((q).sc))), (2, .string (us)), (3, .int .i64 (mine)), (4, .pointer (some ((⟨g1_0, 0, none⟩ : Addr)))), (5, .pointer (some ((⟨g1_1, 0, none⟩ : Addr)))), (17, .bool false), (28, .bool false), (9, .pointer (some ⟨g8_2, 0, none⟩)), (42, .bool false), (45, .agg (FR () 12 (two p q))), (46, .int .i64 ((i : Int))), (47, .bool true), (11, .pointer (some ⟨g14_1, 0, none⟩)), (50, .slice ((x).xm) ((x).ml) ((x).cm)), (51, .int .i64 (((x).ml : Int))), (52, .int .i64 ((k : Int))), (53, .bool true), (13, .pointer (some ⟨g18_2, 0, none⟩)), (59, .bool false), (62, .slice (((x).mem (k)).xm) (((x).mem (k)).ml) (((x).mem (k)).cm)), (63, .int .i64 ((((x).mem (k)).ml : Int))), (64, .int .i64 (0))] := hS
              have HH20 : Held w5 w20 [⟨g8_2, (), 6, (u).sc, 25⟩, ⟨g14_1, (), 6, (x).sc, 25⟩, ⟨g18_2, (), 7, msc ((x).key (k)) ((x).mem (k)), 44⟩] := hH
              clear hS hH HS19 HH19
              refine then_ ?_
              refine wp_block ?_
              have hSq2 : Sl _ 79 [(0, .agg (FR () 6 ((p).sc))), (1, .agg (FR () 6 ((q).sc))), (2, .string (us)), (3, .int .i64 (mine)), (4, .pointer (some ((⟨g1_0, 0, none⟩ : Addr)))), (5, .pointer (some ((⟨g1_1, 0, none⟩ : Addr)))), (17, .bool false), (28, .bool false), (9, .pointer (some ⟨g8_2, 0, none⟩)), (42, .bool false), (45, .agg (FR () 12 (two p q))), (46, .int .i64 ((i : Int))), (47, .bool true), (11, .pointer (some ⟨g14_1, 0, none⟩)), (50, .slice ((x).xm) ((x).ml) ((x).cm)), (51, .int .i64 (((x).ml : Int))), (52, .int .i64 ((k : Int))), (53, .bool true), (13, .pointer (some ⟨g18_2, 0, none⟩)), (59, .bool false), (62, .slice (((x).mem (k)).xm) (((x).mem (k)).ml) (((x).mem (k)).cm)), (63, .int .i64 ((((x).mem (k)).ml : Int))), (64, .int .i64 (0))] := yA HS20 [0, 1, 2, 3, 4, 5, 6, 7, 8, 9, 10, 11, 12, 13, 14, 15, 16, 17, 18, 19, 20, 21, 22] (by rfl)
              refine wp_loop (fun a w' => ∃ l : Nat, l ≤ (x.mem k).ml ∧ allB (fun l => decide (((x.mem k).mem l).num ≤ 9007199254740992)) l = true ∧ Sl a 79 [(0, .agg (FR () 6 ((p).sc))), (1, .agg (FR () 6 ((q).sc))), (2, .string (us)), (3, .int .i64 (mine)), (4, .pointer (some ((⟨g1_0, 0, none⟩ : Addr)))), (5, .pointer (some ((⟨g1_1, 0, none⟩ : Addr)))), (17, .bool false), (28, .bool false), (9, .pointer (some ⟨g8_2, 0, none⟩)), (42, .bool false), (45, .agg (FR () 12 (two p q))), (46, .int .i64 ((i : Int))), (47, .bool true), (11, .pointer (some ⟨g14_1, 0, none⟩)), (50, .slice ((x).xm) ((x).ml) ((x).cm)), (51, .int .i64 (((x).ml : Int))), (52, .int .i64 ((k : Int))), (53, .bool true), (13, .pointer (some ⟨g18_2, 0, none⟩)), (59, .bool false), (62, .slice (((x).mem (k)).xm) (((x).mem (k)).ml) (((x).mem (k)).cm)), (63, .int .i64 ((((x).mem (k)).ml : Int))), (64, .int .i64 ((l : Int)))] ∧ Held w5 w' [⟨g8_2, (), 6, (u).sc, 25⟩, ⟨g14_1, (), 6, (x).sc, 25⟩, ⟨g18_2, (), 7, msc ((x).key (k)) ((x).mem (k)), 44⟩]) (fun a w' => (x.mem k).ml - (intOf (a.eval (.tmp 64))).toNat) ⟨0, Nat.zero_le _, rfl, hSq2, HH20⟩ ?_
              clear hSq2 HS20 HH20
              rintro aq2 wq2 ⟨l, hlel, hpl, HSq2, HHq2⟩
              have hm' : (intOf (aq2.eval (.tmp 64))).toNat = l := by rw [(HSq2.get 22 rfl)]; rfl
              rw [hm']
              clear hm'
              have hby := (hInx.mem hltk).own.2.2.2.2.1
              unfold reach47 at hby
              obtain ⟨r7, hr7⟩ : ∃ r : Bool, (decide (((l : Int) : Int) < (((x).mem (k)).ml : Int))) = r := ⟨_, rfl⟩
              refine wp_seq ?_
              have hLo : LOk [(0, 65, .val (.bool r7))] := lok (by rfl) (by rfl)
              refine zH (wE := w5) (sz := 79) (n := 1) [0] [(0, .val (.agg (FR () 6 ((p).sc)))), (1, .val (.agg (FR () 6 ((q).sc)))), (2, .val (.string (us))), (3, .val (.int .i64 (mine))), (4, .val (.pointer (some ((⟨g1_0, 0, none⟩ : Addr))))), (5, .val (.pointer (some ((⟨g1_1, 0, none⟩ : Addr))))), (17, .val (.bool false)), (28, .val (.bool false)), (9, .val (.pointer (some ⟨g8_2, 0, none⟩))), (42, .val (.bool false)), (45, .val (.agg (FR () 12 (two p q)))), (46, .val (.int .i64 ((i : Int)))), (47, .val (.bool true)), (11, .val (.pointer (some ⟨g14_1, 0, none⟩))), (50, .val (.slice ((x).xm) ((x).ml) ((x).cm))), (51, .val (.int .i64 (((x).ml : Int)))), (52, .val (.int .i64 ((k : Int)))), (53, .val (.bool true)), (13, .val (.pointer (some ⟨g18_2, 0, none⟩))), (59, .val (.bool false)), (62, .val (.slice (((x).mem (k)).xm) (((x).mem (k)).ml) (((x).mem (k)).cm))), (63, .val (.int .i64 ((((x).mem (k)).ml : Int)))), (64, .val (.int .i64 ((l : Int)))), (65, .val (.bool r7))] [(0, 65, .val (.bool r7))] [⟨g8_2, none, none, (), 6, (u).sc, (u).sc, 25⟩, ⟨g14_1, none, none, (), 6, (x).sc, (x).sc, 25⟩, ⟨g18_2, none, none, (), 7, msc ((x).key (k)) ((x).mem (k)), msc ((x).key (k)) ((x).mem (k)), 44⟩] rfl (by rfl) HHq2 rfl rfl hLo rfl HSq2 (slS 0 rfl rfl (slS 1 rfl rfl (slS 2 rfl rfl (slS 3 rfl rfl (slS 4 rfl rfl (slS 5 rfl rfl (slS 6 rfl rfl (slS 7 rfl rfl (slS 8 rfl rfl (slS 9 rfl rfl (slS 10 rfl rfl (slS 11 rfl rfl (slS 12 rfl rfl (slS 13 rfl rfl (slS 14 rfl rfl (slS 15 rfl rfl (slS 16 rfl rfl (slS 17 rfl rfl (slS 18 rfl rfl (slS 19 rfl rfl (slS 20 rfl rfl (slS 21 rfl rfl (slS 22 rfl rfl (slL 0 (d := 0) rfl (trivial))))))))))))))))))))))))) ?_ ?_
              · show ∀ i ∈ [0], _
                refine zA (zB 0 _ rfl rfl hLo rfl rfl (fun _ _ _ _ => rfl) (fun b G w hb ho => zI rfl (zG rfl (HSq2.get 22 rfl)) (zG rfl (HSq2.get 21 rfl)) (rb_lss hr7 _ _ _))) ?_
                exact zF
              clear hLo
              intro G a21 w21 hS hH
              have HS21 : Sl a21 79 [(0, .agg (FR () 6 ((p).sc))), (1, .agg (FR () 6 ((q).sc))), (2, .string (us)), (3, .int .i64 (mine)), (4, .pointer (some ((⟨g1_0, 0, none⟩ : Addr)))), (5, .pointer (some ((⟨g1_1, 0, none⟩ : Addr)))), (17, .bool false), (28, .bool false), (9, .pointer (some ⟨g8_2, 0, none⟩)), (42, .bool false), (45, .agg (FR () 12 (two p q))), (46, .int .i64 ((i : Int))), (47, .bool true), (11, .pointer (some ⟨g14_1, 0, none⟩)), (50, .slice ((x).xm) ((x).ml) ((x).cm)), (51, .int .i64 (((x).ml : Int))), (52, .int .i64 ((k : Int))), (53, .bool true), (13, .pointer (some ⟨g18_2, 0, none⟩)), (59, .bool false), (62, .slice (((x).mem (k)).xm) (((x).mem (k)).ml) (((x).mem (k)).cm)), (63, .int .i64 ((((x).mem (k)).ml : Int))), (64, .int .i64 ((l : Int))), (65, .bool r7)] := hS
              have HH21 : Held w5 w21 [⟨g8_2, (), 6, (u).sc, 25⟩, ⟨g14_1, (), 6, (x).sc, 25⟩, ⟨g18_2, (), 7, msc ((x).key (k)) ((x).mem (k)), 44⟩] := hH
              clear hS hH HSq2 HHq2
              refine then_ ?_
              refine wp_seq ?_
              cases r7
              · skip
                have hendl : l = (x.mem k).ml := by have := of_decide_eq_false hr7; omega
                have hCC := hpl
                rw [hendl] at hCC
                refine wp_cond_false (HS21.get 23 rfl) ?_
                refine wp_exit ?_
                refine zY ?_
                refine zY ?_
                refine yE ?_
                refine zQ ?_
                refine then_ ?_
                have hLo : LOk [(0, 73, .val (.int .i64 (((k + 1 : Nat) : Int)))), (1, 52, .val (.int .i64 (((k + 1 : Nat) : Int))))] := lok (by rfl) (by rfl)
                refine zH (wE := w5) (sz := 79) (n := 2) [0, 1] [(0, .val (.agg (FR () 6 ((p).sc)))), (1, .val (.agg (FR () 6 ((q).sc)))), (2, .val (.string (us))), (3, .val (.int .i64 (mine))), (4, .val (.pointer (some ((⟨g1_0, 0, none⟩ : Addr))))), (5, .val (.pointer (some ((⟨g1_1, 0, none⟩ : Addr))))), (17, .val (.bool false)), (28, .val (.bool false)), (9, .val (.pointer (some ⟨g8_2, 0, none⟩))), (42, .val (.bool false)), (45, .val (.agg (FR () 12 (two p q)))), (46, .val (.int .i64 ((i : Int)))), (47, .val (.bool true)), (11, .val (.pointer (some ⟨g14_1, 0, none⟩))), (50, .val (.slice ((x).xm) ((x).ml) ((x).cm))), (51, .val (.int .i64 (((x).ml : Int)))), (53, .val (.bool true)), (13, .val (.pointer (some ⟨g18_2, 0, none⟩))), (59, .val (.bool false)), (62, .val (.slice (((x).mem (k)).xm) (((x).mem (k)).ml) (((x).mem (k)).cm))), (63, .val (.int .i64 ((((x).mem (k)).ml : Int)))), (64, .val (.int .i64 ((l : Int)))), (65, .val (.bool false)), (52, .val (.int .i64 (((k + 1 : Nat) : Int))))] [(0, 73, .val (.int .i64 (((k + 1 : Nat) : Int)))), (1, 52, .val (.int .i64 (((k + 1 : Nat) : Int))))] [⟨g8_2, none, none, (), 6, (u).sc, (u).sc, 25⟩, ⟨g14_1, none, none, (), 6, (x).sc, (x).sc, 25⟩, ⟨g18_2, none, none, (), 7, msc ((x).key (k)) ((x).mem (k)), msc ((x).key (k)) ((x).mem (k)), 44⟩] rfl (by rfl) HH21 rfl rfl hLo rfl HS21 (slS 0 rfl rfl (slS 1 rfl rfl (slS 2 rfl rfl (slS 3 rfl rfl (slS 4 rfl rfl (slS 5 rfl rfl (slS 6 rfl rfl (slS 7 rfl rfl (slS 8 rfl rfl (slS 9 rfl rfl (slS 10 rfl rfl (slS 11 rfl rfl (slS 12 rfl rfl (slS 13 rfl rfl (slS 14 rfl rfl (slS 15 rfl rfl (slS 17 rfl rfl (slS 18 rfl rfl (slS 19 rfl rfl (slS 20 rfl rfl (slS 21 rfl rfl (slS 22 rfl rfl (slS 23 rfl rfl (slL 1 (d := 1) rfl (trivial))))))))))))))))))))))))) ?_ ?_
                · show ∀ i ∈ [0, 1], _
                  refine zA (zB 0 _ rfl rfl hLo rfl rfl (fun _ _ _ _ => rfl) (fun b G w hb ho => zI rfl (ev_pre hLo 1 rfl (ho 1 (by rfl)) (HS21.get 16 rfl)) (rfl) (rb_add (w_nat (by omega) (by omega)) _ _ _))) ?_
                  refine zA (zB 1 _ rfl rfl hLo rfl rfl (fun _ _ _ _ => rfl) (fun b G w hb ho => zD (.inl rfl) (zC hLo 0 rfl HS21.1 rfl (hb 0 (by rfl))))) ?_
                  exact zF
                clear hLo
                intro G a22 w22 hS hH
                have HS22 : Sl a22 79 [(0, .agg (FR () 6 ((p).sc))), (1, .agg (FR () 6 ((q).sc))), (2, .string (us)), (3, .int .i64 (mine)), (4, .pointer (some ((⟨g1_0, 0, none⟩ : Addr)))), (5, .pointer (some ((⟨g1_1, 0, none⟩ : Addr)))), (17, .bool false), (28, .bool false), (9, .pointer (some ⟨g8_2, 0, none⟩)), (42, .bool false), (45, .agg (FR () 12 (two p q))), (46, .int .i64 ((i : Int))), (47, .bool true), (11, .pointer (some ⟨g14_1, 0, none⟩)), (50, .slice ((x).xm) ((x).ml) ((x).cm)), (51, .int .i64 (((x).ml : Int))), (53, .bool true), (13, .pointer (some ⟨g18_2, 0, none⟩)), (59, .bool false), (62, .slice (((x).mem (k)).xm) (((x).mem (k)).ml) (((x).mem (k)).cm)), (63, .int .i64 ((((x).mem (k)).ml : Int))), (64, .int .i64 ((l : Int))), (65, .bool false), (52, .int .i64 (((k + 1 : Nat) : Int)))] := hS
                have HH22 : Held w5 w22 [⟨g8_2, (), 6, (u).sc, 25⟩, ⟨g14_1, (), 6, (x).sc, 25⟩, ⟨g18_2, (), 7, msc ((x).key (k)) ((x).mem (k)), 44⟩] := hH
                clear hS hH HS21 HH21
                refine then_ ?_
                have hSq1' : Sl _ 79 [(0, .agg (FR () 6 ((p).sc))), (1, .agg (FR () 6 ((q).sc))), (2, .string (us)), (3, .int .i64 (mine)), (4, .pointer (some ((⟨g1_0, 0, none⟩ : Addr)))), (5, .pointer (some ((⟨g1_1, 0, none⟩ : Addr)))), (17, .bool false), (28, .bool false), (9, .pointer (some ⟨g8_2, 0, none⟩)), (42, .bool false), (45, .agg (FR () 12 (two p q))), (46, .int .i64 ((i : Int))), (47, .bool true), (11, .pointer (some ⟨g14_1, 0, none⟩)), (50, .slice ((x).xm) ((x).ml) ((x).cm)), (51, .int .i64 (((x).ml : Int))), (52, .int .i64 (((k + 1 : Nat) : Int)))] := yA HS22 [0, 1, 2, 3, 4, 5, 6, 7, 8, 9, 10, 11, 12, 13, 14, 15, 23] (by rfl)
                have hHq1' : Held w5 _ [⟨g8_2, (), 6, (u).sc, 25⟩, ⟨g14_1, (), 6, (x).sc, 25⟩] := yD HH22 2 rfl
                exact ⟨⟨k + 1, by omega, allB_step hpk (okM_is hr6 hCC), hSq1', hHq1'⟩, by rw [(hSq1'.get 16 rfl)]; show x.ml - (((k + 1 : Nat) : Int)).toNat < x.ml - k; omega⟩
              · skip
                have hltl : l < (x.mem k).ml := by have := of_decide_eq_true hr7; omega
                refine wp_cond_true (HS21.get 23 rfl) ?_
                refine wp_skip ?_
                refine then_ ?_
                refine wp_seq ?_
                refine wp_block ?_
                obtain ⟨⟨a2, hx2, hk2, hv2⟩, _, hn2⟩ := ((hInx.mem hltk)).mems (i := l) (by omega)
                refine wp_seq ?_
                have hLo : LOk [(0, 66, .val (.pointer (some (a2.add ((l) * 7))))), (1, 67, .val (.agg (FR () 7 (msc (((x).mem (k)).key (l)) (((x).mem (k)).mem (l)))))), (2, 15, .new 2 (fun g => .pointer (some ⟨g, 0, none⟩)))] := lok (by rfl) (by rfl)
                refine zH (wE := w5) (sz := 79) (n := 4) [0, 1, 3, 7] [(0, .val (.agg (FR () 6 ((p).sc)))), (1, .val (.agg (FR () 6 ((q).sc)))), (2, .val (.string (us))), (3, .val (.int .i64 (mine))), (4, .val (.pointer (some ((⟨g1_0, 0, none⟩ : Addr))))), (5, .val (.pointer (some ((⟨g1_1, 0, none⟩ : Addr))))), (17, .val (.bool false)), (28, .val (.bool false)), (9, .val (.pointer (some ⟨g8_2, 0, none⟩))), (42, .val (.bool false)), (45, .val (.agg (FR () 12 (two p q)))), (46, .val (.int .i64 ((i : Int)))), (47, .val (.bool true)), (11, .val (.pointer (some ⟨g14_1, 0, none⟩))), (50, .val (.slice ((x).xm) ((x).ml) ((x).cm))), (51, .val (.int .i64 (((x).ml : Int)))), (52, .val (.int .i64 ((k : Int)))), (53, .val (.bool true)), (13, .val (.pointer (some ⟨g18_2, 0, none⟩))), (59, .val (.bool false)), (62, .val (.slice (((x).mem (k)).xm) (((x).mem (k)).ml) (((x).mem (k)).cm))), (63, .val (.int .i64 ((((x).mem (k)).ml : Int)))), (64, .val (.int .i64 ((l : Int)))), (65, .val (.bool true)), (15, .new 2 (fun g => .pointer (some ⟨g, 0, none⟩)))] [(0, 66, .val (.pointer (some (a2.add ((l) * 7))))), (1, 67, .val (.agg (FR () 7 (msc (((x).mem (k)).key (l)) (((x).mem (k)).mem (l)))))), (2, 15, .new 2 (fun g => .pointer (some ⟨g, 0, none⟩)))] [⟨g8_2, none, none, (), 6, (u).sc, (u).sc, 25⟩, ⟨g14_1, none, none, (), 6, (x).sc, (x).sc, 25⟩, ⟨g18_2, none, none, (), 7, msc ((x).key (k)) ((x).mem (k)), msc ((x).key (k)) ((x).mem (k)), 44⟩, ⟨0, some 2, some 3, (), 7, lsc [.s (ByteArray.empty), .i .i64 (0), .b (false), .i .i64 (0), .s (ByteArray.empty), .sl (none) (0) (0), .sl (none) (0) (0)], msc (((x).mem (k)).key (l)) (((x).mem (k)).mem (l)), 44⟩] rfl (by rfl) HH21 rfl rfl hLo rfl HS21 (slS 0 rfl rfl (slS 1 rfl rfl (slS 2 rfl rfl (slS 3 rfl rfl (slS 4 rfl rfl (slS 5 rfl rfl (slS 6 rfl rfl (slS 7 rfl rfl (slS 8 rfl rfl (slS 9 rfl rfl (slS 10 rfl rfl (slS 11 rfl rfl (slS 12 rfl rfl (slS 13 rfl rfl (slS 14 rfl rfl (slS 15 rfl rfl (slS 16 rfl rfl (slS 17 rfl rfl (slS 18 rfl rfl (slS 19 rfl rfl (slS 20 rfl rfl (slS 21 rfl rfl (slS 22 rfl rfl (slS 23 rfl rfl (slL 2 (d := 2) rfl (trivial)))))))))))))))))))))))))) ?_ ?_
                · show ∀ i ∈ [0, 1, 2, 3], _
                  refine zA (zB 0 _ rfl rfl hLo rfl rfl (fun _ _ _ _ => rfl) (fun b G w hb ho => zU rfl (zG rfl (HS21.get 20 rfl)) (zG rfl (HS21.get 22 rfl)) (index_sl Tryd.underlying23 (by kernel_rfl) hx2 (by omega) _))) ?_
                  refine zA (st_at 1 (a2.add ((l) * 7)) rfl rfl rfl (fun _ _ _ _ => rfl) hLo rfl rfl Tryd.underlying44 (by kernel_rfl) rfl (at7 hk2 hv2) (fun b G hb ho => zC hLo 0 rfl HS21.1 rfl (hb 0 (by rfl)))) ?_
                  refine zA (zZ 2 3 () 7 44 (some 3) _ _ rfl rfl (fun _ _ _ _ => rfl) rfl hLo rfl rfl rfl rfl (by rfl) (fun b G w _ _ => by kernel_rfl)) ?_
                  refine zA (st_store 3 _ rfl rfl rfl rfl rfl (fun _ _ _ _ => rfl) rfl rfl rfl (by rfl) (by kernel_rfl) (fun b G hb ho => zC hLo 2 rfl HS21.1 rfl (hb 2 (by rfl))) (fun b G hb ho => zC hLo 1 rfl HS21.1 rfl (hb 1 (by rfl)))) ?_
                  exact zF
                clear hLo
                intro G a23 w23 hS hH
                have HS23 : Sl a23 79 [(0, .agg (FR () 6 ((p).sc))), (1, .agg (FR () 6 ((q).sc))), (2, .string (us)), (3, .int .i64 (mine)), (4, .pointer (some ((⟨g1_0, 0, none⟩ : Addr)))), (5, .pointer (some ((⟨g1_1, 0, none⟩ : Addr)))), (17, .bool false), (28, .bool false), (9, .pointer (some ⟨g8_2, 0, none⟩)), (42, .bool false), (45, .agg (FR () 12 (two p q))), (46, .int .i64 ((i : Int))), (47, .bool true), (11, .pointer (some ⟨g14_1, 0, none⟩)), (50, .slice ((x).xm) ((x).ml) ((x).cm)), (51, .int .i64 (((x).ml : Int))), (52, .int .i64 ((k : Int))), (53, .bool true), (13, .pointer (some ⟨g18_2, 0, none⟩)), (59, .bool false), (62, .slice (((x).mem (k)).xm) (((x).mem (k)).ml) (((x).mem (k)).cm)), (63, .int .i64 ((((x).mem (k)).ml : Int))), (64, .int .i64 ((l : Int))), (65, .bool true), (15, .pointer (some ⟨(G 2), 0, none⟩))] := hS
                have HH23 : Held w5 w23 [⟨g8_2, (), 6, (u).sc, 25⟩, ⟨g14_1, (), 6, (x).sc, 25⟩, ⟨g18_2, (), 7, msc ((x).key (k)) ((x).mem (k)), 44⟩, ⟨(G 2), (), 7, msc (((x).mem (k)).key (l)) (((x).mem (k)).mem (l)), 44⟩] := hH
                clear hS hH HS21 HH21
                generalize G 2 = g23_2 at HS23 HH23
                refine then_ ?_
                obtain ⟨r8, hr8⟩ : ∃ r : Bool, (decide ((9007199254740992 : Int) < (((x).mem (k)).mem (l)).num)) = r := ⟨_, rfl⟩
                refine wp_seq ?_
                have hLo : LOk [(0, 68, .val (.pointer (some ⟨g23_2, 1, none⟩))), (1, 69, .val (.pointer (some ⟨g23_2, 3, none⟩))), (2, 70, .val (.int .i64 ((((x).mem (k)).mem (l)).num))), (3, 71, .val (.bool r8))] := lok (by rfl) (by rfl)
                refine zH (wE := w5) (sz := 79) (n := 4) [0, 1, 3, 7] [(0, .val (.agg (FR () 6 ((p).sc)))), (1, .val (.agg (FR () 6 ((q).sc)))), (2, .val (.string (us))), (3, .val (.int .i64 (mine))), (4, .val (.pointer (some ((⟨g1_0, 0, none⟩ : Addr))))), (5, .val (.pointer (some ((⟨g1_1, 0, none⟩ : Addr))))), (17, .val (.bool false)), (28, .val (.bool false)), (9, .val (.pointer (some ⟨g8_2, 0, none⟩))), (42, .val (.bool false)), (45, .val (.agg (FR () 12 (two p q)))), (46, .val (.int .i64 ((i : Int)))), (47, .val (.bool true)), (11, .val (.pointer (some ⟨g14_1, 0, none⟩))), (50, .val (.slice ((x).xm) ((x).ml) ((x).cm))), (51, .val (.int .i64 (((x).ml : Int)))), (52, .val (.int .i64 ((k : Int)))), (53, .val (.bool true)), (13, .val (.pointer (some ⟨g18_2, 0, none⟩))), (59, .val (.bool false)), (62, .val (.slice (((x).mem (k)).xm) (((x).mem (k)).ml) (((x).mem (k)).cm))), (63, .val (.int .i64 ((((x).mem (k)).ml : Int)))), (64, .val (.int .i64 ((l : Int)))), (65, .val (.bool true)), (15, .val (.pointer (some ⟨g23_2, 0, none⟩))), (71, .val (.bool r8))] [(0, 68, .val (.pointer (some ⟨g23_2, 1, none⟩))), (1, 69, .val (.pointer (some ⟨g23_2, 3, none⟩))), (2, 70, .val (.int .i64 ((((x).mem (k)).mem (l)).num))), (3, 71, .val (.bool r8))] [⟨g8_2, none, none, (), 6, (u).sc, (u).sc, 25⟩, ⟨g14_1, none, none, (), 6, (x).sc, (x).sc, 25⟩, ⟨g18_2, none, none, (), 7, msc ((x).key (k)) ((x).mem (k)), msc ((x).key (k)) ((x).mem (k)), 44⟩, ⟨g23_2, none, none, (), 7, msc (((x).mem (k)).key (l)) (((x).mem (k)).mem (l)), msc (((x).mem (k)).key (l)) (((x).mem (k)).mem (l)), 44⟩] rfl (by rfl) HH23 rfl rfl hLo rfl HS23 (slS 0 rfl rfl (slS 1 rfl rfl (slS 2 rfl rfl (slS 3 rfl rfl (slS 4 rfl rfl (slS 5 rfl rfl (slS 6 rfl rfl (slS 7 rfl rfl (slS 8 rfl rfl (slS 9 rfl rfl (slS 10 rfl rfl (slS 11 rfl rfl (slS 12 rfl rfl (slS 13 rfl rfl (slS 14 rfl rfl (slS 15 rfl rfl (slS 16 rfl rfl (slS 17 rfl rfl (slS 18 rfl rfl (slS 19 rfl rfl (slS 20 rfl rfl (slS 21 rfl rfl (slS 22 rfl rfl (slS 23 rfl rfl (slS 24 rfl rfl (slL 3 (d := 3) rfl (trivial))))))))))))))))))))))))))) ?_ ?_
                · show ∀ i ∈ [0, 1, 2, 3], _
                  refine zA (zB 0 _ rfl rfl hLo rfl rfl (fun _ _ _ _ => rfl) (fun b G w hb ho => zJ rfl (zG rfl (HS23.get 24 rfl)) (by kernel_rfl))) ?_
                  refine zA (zB 1 _ rfl rfl hLo rfl rfl (fun _ _ _ _ => rfl) (fun b G w hb ho => zJ rfl (zC hLo 0 rfl HS23.1 rfl (hb 0 (by rfl))) (by kernel_rfl))) ?_
                  refine zA (zW 2 3 _ _ rfl rfl rfl hLo rfl rfl (fun _ _ _ _ => rfl) (by rfl) (by rfl) (fun b G w hb ho hr => zP hr (Nat.le_of_ble_eq_true rfl) Tryd.underlying3 rfl rfl (zC hLo 1 rfl HS23.1 rfl (hb 1 (by rfl))))) ?_
                  refine zA (zB 3 _ rfl rfl hLo rfl rfl (fun _ _ _ _ => rfl) (fun b G w hb ho => zI rfl (zC hLo 2 rfl HS23.1 rfl (hb 2 (by rfl))) (rfl) (rb_gtr hr8 _ _ _))) ?_
                  exact zF
                clear hLo
                intro G a24 w24 hS hH
                have HS24 : Sl a24 79 [(0, .agg (FR () 6 ((p).sc))), (1, .agg (FR () 6 ((q).sc))), (2, .string (us)), (3, .int .i64 (mine)), (4, .pointer (some ((⟨g1_0, 0, none⟩ : Addr)))), (5, .pointer (some ((⟨g1_1, 0, none⟩ : Addr)))), (17, .bool false), (28, .bool false), (9, .pointer (some ⟨g8_2, 0, none⟩)), (42, .bool false), (45, .agg (FR () 12 (two p q))), (46, .int .i64 ((i : Int))), (47, .bool true), (11, .pointer (some ⟨g14_1, 0, none⟩)), (50, .slice ((x).xm) ((x).ml) ((x).cm)), (51, .int .i64 (((x).ml : Int))), (52, .int .i64 ((k : Int))), (53, .bool true), (13, .pointer (some ⟨g18_2, 0, none⟩)), (59, .bool false), (62, .slice (((x).mem (k)).xm) (((x).mem (k)).ml) (((x).mem (k)).cm)), (63, .int .i64 ((((x).mem (k)).ml : Int))), (64, .int .i64 ((l : Int))), (65, .bool true), (15, .pointer (some ⟨g23_2, 0, none⟩)), (71, .bool r8)] := hS
                have HH24 : Held w5 w24 [⟨g8_2, (), 6, (u).sc, 25⟩, ⟨g14_1, (), 6, (x).sc, 25⟩, ⟨g18_2, (), 7, msc ((x).key (k)) ((x).mem (k)), 44⟩, ⟨g23_2, (), 7, msc (((x).mem (k)).key (l)) (((x).mem (k)).mem (l)), 44⟩] := hH
                clear hS hH HS23 HH23
                refine then_ ?_
                cases r8
                · skip
                  refine wp_cond_false (HS24.get 25 rfl) ?_
                  refine wp_skip ?_
                  refine zQ ?_
                  refine then_ ?_
                  have hLo : LOk [(0, 72, .val (.int .i64 (((l + 1 : Nat) : Int)))), (1, 64, .val (.int .i64 (((l + 1 : Nat) : Int))))] := lok (by rfl) (by rfl)
                  refine zH (wE := w5) (sz := 79) (n := 2) [0, 1] [(0, .val (.agg (FR () 6 ((p).sc)))), (1, .val (.agg (FR () 6 ((q).sc)))), (2, .val (.string (us))), (3, .val (.int .i64 (mine))), (4, .val (.pointer (some ((⟨g1_0, 0, none⟩ : Addr))))), (5, .val (.pointer (some ((⟨g1_1, 0, none⟩ : Addr))))), (17, .val (.bool false)), (28, .val (.bool false)), (9, .val (.pointer (some ⟨g8_2, 0, none⟩))), (42, .val (.bool false)), (45, .val (.agg (FR () 12 (two p q)))), (46, .val (.int .i64 ((i : Int)))), (47, .val (.bool true)), (11, .val (.pointer (some ⟨g14_1, 0, none⟩))), (50, .val (.slice ((x).xm) ((x).ml) ((x).cm))), (51, .val (.int .i64 (((x).ml : Int)))), (52, .val (.int .i64 ((k : Int)))), (53, .val (.bool true)), (13, .val (.pointer (some ⟨g18_2, 0, none⟩))), (59, .val (.bool false)), (62, .val (.slice (((x).mem (k)).xm) (((x).mem (k)).ml) (((x).mem (k)).cm))), (63, .val (.int .i64 ((((x).mem (k)).ml : Int)))), (65, .val (.bool true)), (15, .val (.pointer (some ⟨g23_2, 0, none⟩))), (71, .val (.bool false)), (64, .val (.int .i64 (((l + 1 : Nat) : Int))))] [(0, 72, .val (.int .i64 (((l + 1 : Nat) : Int)))), (1, 64, .val (.int .i64 (((l + 1 : Nat) : Int))))] [⟨g8_2, none, none, (), 6, (u).sc, (u).sc, 25⟩, ⟨g14_1, none, none, (), 6, (x).sc, (x).sc, 25⟩, ⟨g18_2, none, none, (), 7, msc ((x).key (k)) ((x).mem (k)), msc ((x).key (k)) ((x).mem (k)), 44⟩, ⟨g23_2, none, none, (), 7, msc (((x).mem (k)).key (l)) (((x).mem (k)).mem (l)), msc (((x).mem (k)).key (l)) (((x).mem (k)).mem (l)), 44⟩] rfl (by rfl) HH24 rfl rfl hLo rfl HS24 (slS 0 rfl rfl (slS 1 rfl rfl (slS 2 rfl rfl (slS 3 rfl rfl (slS 4 rfl rfl (slS 5 rfl rfl (slS 6 rfl rfl (slS 7 rfl rfl (slS 8 rfl rfl (slS 9 rfl rfl (slS 10 rfl rfl (slS 11 rfl rfl (slS 12 rfl rfl (slS 13 rfl rfl (slS 14 rfl rfl (slS 15 rfl rfl (slS 16 rfl rfl (slS 17 rfl rfl (slS 18 rfl rfl (slS 19 rfl rfl (slS 20 rfl rfl (slS 21 rfl rfl (slS 23 rfl rfl (slS 24 rfl rfl (slS 25 rfl rfl (slL 1 (d := 1) rfl (trivial))))))))))))))))))))))))))) ?_ ?_
                  · show ∀ i ∈ [0, 1], _
                    refine zA (zB 0 _ rfl rfl hLo rfl rfl (fun _ _ _ _ => rfl) (fun b G w hb ho => zI rfl (ev_pre hLo 1 rfl (ho 1 (by rfl)) (HS24.get 22 rfl)) (rfl) (rb_add (w_nat (by omega) (by omega)) _ _ _))) ?_
                    refine zA (zB 1 _ rfl rfl hLo rfl rfl (fun _ _ _ _ => rfl) (fun b G w hb ho => zD (.inl rfl) (zC hLo 0 rfl HS24.1 rfl (hb 0 (by rfl))))) ?_
                    exact zF
                  clear hLo
                  intro G a25 w25 hS hH
                  have HS25 : Sl a25 79 [(0, .agg (FR () 6 ((p).sc))), (1, .agg (FR () 6 ((q).sc))), (2, .string (us)), (3, .int .i64 (mine)), (4, .pointer (some ((⟨g1_0, 0, none⟩ : Addr)))), (5, .pointer (some ((⟨g1_1, 0, none⟩ : Addr)))), (17, .bool false), (28, .bool false), (9, .pointer (some ⟨g8_2, 0, none⟩)), (42, .bool false), (45, .agg (FR () 12 (two p q))), (46, .int .i64 ((i : Int))), (47, .bool true), (11, .pointer (some ⟨g14_1, 0, none⟩)), (50, .slice ((x).xm) ((x).ml) ((x).cm)), (51, .int .i64 (((x).ml : Int))), (52, .int .i64 ((k : Int))), (53, .bool true), (13, .pointer (some ⟨g18_2, 0, none⟩)), (59, .bool false), (62, .slice (((x).mem (k)).xm) (((x).mem (k)).ml) (((x).mem (k)).cm)), (63, .int .i64 ((((x).mem (k)).ml : Int))), (65, .bool true), (15, .pointer (some ⟨g23_2, 0, none⟩)), (71, .bool false), (64, .int .i64 (((l + 1 : Nat) : Int)))] := hS
                  have HH25 : Held w5 w25 [⟨g8_2, (), 6, (u).sc, 25⟩, ⟨g14_1, (), 6, (x).sc, 25⟩, ⟨g18_2, (), 7, msc ((x).key (k)) ((x).mem (k)), 44⟩, ⟨g23_2, (), 7, msc (((x).mem (k)).key (l)) (((x).mem (k)).mem (l)), 44⟩] := hH
                  clear hS hH HS24 HH24
                  refine then_ ?_
                  have hSq2' : Sl _ 79 [(0, .agg (FR () 6 ((p).sc))), (1, .agg (FR () 6 ((q).sc))), (2, .string (us)), (3, .int .i64 (mine)), (4, .pointer (some ((⟨g1_0, 0, none⟩ : Addr)))), (5, .pointer (some ((⟨g1_1, 0, none⟩ : Addr)))), (17, .bool false), (28, .bool false), (9, .pointer (some ⟨g8_2, 0, none⟩)), (42, .bool false), (45, .agg (FR () 12 (two p q))), (46, .int .i64 ((i : Int))), (47, .bool true), (11, .pointer (some ⟨g14_1, 0, none⟩)), (50, .slice ((x).xm) ((x).ml) ((x).cm)), (51, .int .i64 (((x).ml : Int))), (52, .int .i64 ((k : Int))), (53, .bool true), (13, .pointer (some ⟨g18_2, 0, none⟩)), (59, .bool false), (62, .slice (((x).mem (k)).xm) (((x).mem (k)).ml) (((x).mem (k)).cm)), (63, .int .i64 ((((x).mem (k)).ml : Int))), (64, .int .i64 (((l + 1 : Nat) : Int)))] := yA HS25 [0, 1, 2, 3, 4, 5, 6, 7, 8, 9, 10, 11, 12, 13, 14, 15, 16, 17, 18, 19, 20, 21, 25] (by rfl)
                  have hHq2' : Held w5 _ [⟨g8_2, (), 6, (u).sc, 25⟩, ⟨g14_1, (), 6, (x).sc, 25⟩, ⟨g18_2, (), 7, msc ((x).key (k)) ((x).mem (k)), 44⟩] := yD HH25 3 rfl
                  exact ⟨⟨l + 1, by omega, allB_step hpl (le_of_gt hr8), hSq2', hHq2'⟩, by rw [(hSq2'.get 22 rfl)]; show (x.mem k).ml - (((l + 1 : Nat) : Int)).toNat < (x.mem k).ml - l; omega⟩
                · skip
                  refine wp_cond_true (HS24.get 25 rfl) ?_
                  refine wp_seq ?_
                  have hLo : LOk [(0, 8, .val (.bool true))] := lok (by rfl) (by rfl)
                  refine zH (wE := w5) (sz := 79) (n := 1) [0] [(0, .val (.agg (FR () 6 ((p).sc)))), (1, .val (.agg (FR () 6 ((q).sc)))), (2, .val (.string (us))), (3, .val (.int .i64 (mine))), (4, .val (.pointer (some ((⟨g1_0, 0, none⟩ : Addr))))), (5, .val (.pointer (some ((⟨g1_1, 0, none⟩ : Addr))))), (17, .val (.bool false)), (28, .val (.bool false)), (9, .val (.pointer (some ⟨g8_2, 0, none⟩))), (42, .val (.bool false)), (45, .val (.agg (FR () 12 (two p q)))), (46, .val (.int .i64 ((i : Int)))), (47, .val (.bool true)), (11, .val (.pointer (some ⟨g14_1, 0, none⟩))), (50, .val (.slice ((x).xm) ((x).ml) ((x).cm))), (51, .val (.int .i64 (((x).ml : Int)))), (52, .val (.int .i64 ((k : Int)))), (53, .val (.bool true)), (13, .val (.pointer (some ⟨g18_2, 0, none⟩))), (59, .val (.bool false)), (62, .val (.slice (((x).mem (k)).xm) (((x).mem (k)).ml) (((x).mem (k)).cm))), (63, .val (.int .i64 ((((x).mem (k)).ml : Int)))), (64, .val (.int .i64 ((l : Int)))), (65, .val (.bool true)), (15, .val (.pointer (some ⟨g23_2, 0, none⟩))), (71, .val (.bool true)), (8, .val (.bool true))] [(0, 8, .val (.bool true))] [⟨g8_2, none, none, (), 6, (u).sc, (u).sc, 25⟩, ⟨g14_1, none, none, (), 6, (x).sc, (x).sc, 25⟩, ⟨g18_2, none, none, (), 7, msc ((x).key (k)) ((x).mem (k)), msc ((x).key (k)) ((x).mem (k)), 44⟩, ⟨g23_2, none, none, (), 7, msc (((x).mem (k)).key (l)) (((x).mem (k)).mem (l)), msc (((x).mem (k)).key (l)) (((x).mem (k)).mem (l)), 44⟩] rfl (by rfl) HH24 rfl rfl hLo rfl HS24 (slS 0 rfl rfl (slS 1 rfl rfl (slS 2 rfl rfl (slS 3 rfl rfl (slS 4 rfl rfl (slS 5 rfl rfl (slS 6 rfl rfl (slS 7 rfl rfl (slS 8 rfl rfl (slS 9 rfl rfl (slS 10 rfl rfl (slS 11 rfl rfl (slS 12 rfl rfl (slS 13 rfl rfl (slS 14 rfl rfl (slS 15 rfl rfl (slS 16 rfl rfl (slS 17 rfl rfl (slS 18 rfl rfl (slS 19 rfl rfl (slS 20 rfl rfl (slS 21 rfl rfl (slS 22 rfl rfl (slS 23 rfl rfl (slS 24 rfl rfl (slS 25 rfl rfl (slL 0 (d := 0) rfl (trivial)))))))))))))))))))))))))))) ?_ ?_
                  · show ∀ i ∈ [0], _
                    refine zA (zB 0 _ rfl rfl hLo rfl rfl (fun _ _ _ _ => rfl) (fun b G w hb ho => zD (.inr rfl) (rfl))) ?_
                    exact zF
                  clear hLo
                  intro G a26 w26 hS hH
                  have HS26 : Sl a26 79 [(0, .agg (FR () 6 ((p).sc))), (1, .agg (FR () 6 ((q).sc))), (2, .string (us)), (3, .int .i64 (mine)), (4, .pointer (some ((⟨g1_0, 0, none⟩ : Addr)))), (5, .pointer (some ((⟨g1_1, 0, none⟩ : Addr)))), (17, .bool false), (28, .bool false), (9, .pointer (some ⟨g8_2, 0, none⟩)), (42, .bool false), (45, .agg (FR () 12 (two p q))), (46, .int .i64 ((i : Int))), (47, .bool true), (11, .pointer (some ⟨g14_1, 0, none⟩)), (50, .slice ((x).xm) ((x).ml) ((x).cm)), (51, .int .i64 (((x).ml : Int))), (52, .int .i64 ((k : Int))), (53, .bool true), (13, .pointer (some ⟨g18_2, 0, none⟩)), (59, .bool false), (62, .slice (((x).mem (k)).xm) (((x).mem (k)).ml) (((x).mem (k)).cm)), (63, .int .i64 ((((x).mem (k)).ml : Int))), (64, .int .i64 ((l : Int))), (65, .bool true), (15, .pointer (some ⟨g23_2, 0, none⟩)), (71, .bool true), (8, .bool true)] := hS
                  have HH26 : Held w5 w26 [⟨g8_2, (), 6, (u).sc, 25⟩, ⟨g14_1, (), 6, (x).sc, 25⟩, ⟨g18_2, (), 7, msc ((x).key (k)) ((x).mem (k)), 44⟩, ⟨g23_2, (), 7, msc (((x).mem (k)).key (l)) (((x).mem (k)).mem (l)), 44⟩] := hH
                  clear hS hH HS24 HH24
                  refine then_ ?_
                  refine wp_ret ?_
                  repeat (first | refine zR ?_ | refine zK ?_)
                  have HH27 := Held.back HH6 HH26
                  exact b_tmp rfl HS26.2.1 (HS26.get 26 rfl) ⟨law_ret rfl, HH27.1⟩
            · skip
              refine wp_cond_true (HS19.get 19 rfl) ?_
              refine wp_seq ?_
              have hLo : LOk [(0, 8, .val (.bool true))] := lok (by rfl) (by rfl)
              refine zH (wE := w5) (sz := 79) (n := 1) [0] [(0, .val (.agg (FR () 6 ((p).sc)))), (1, .val (.agg (FR () 6 ((q).sc)))), (2, .val (.string (us))), (3, .val (.int .i64 (mine))), (4, .val (.pointer (some ((⟨g1_0, 0, none⟩ : Addr))))), (5, .val (.pointer (some ((⟨g1_1, 0, none⟩ : Addr))))), (17, .val (.bool false)), (28, .val (.bool false)), (9, .val (.pointer (some ⟨g8_2, 0, none⟩))), (42, .val (.bool false)), (45, .val (.agg (FR () 12 (two p q)))), (46, .val (.int .i64 ((i : Int)))), (47, .val (.bool true)), (11, .val (.pointer (some ⟨g14_1, 0, none⟩))), (50, .val (.slice ((x).xm) ((x).ml) ((x).cm))), (51, .val (.int .i64 (((x).ml : Int)))), (52, .val (.int .i64 ((k : Int)))), (53, .val (.bool true)), (13, .val (.pointer (some ⟨g18_2, 0, none⟩))), (59, .val (.bool true)), (8, .val (.bool true))] [(0, 8, .val (.bool true))] [⟨g8_2, none, none, (), 6, (u).sc, (u).sc, 25⟩, ⟨g14_1, none, none, (), 6, (x).sc, (x).sc, 25⟩, ⟨g18_2, none, none, (), 7, msc ((x).key (k)) ((x).mem (k)), msc ((x).key (k)) ((x).mem (k)), 44⟩] rfl (by rfl) HH19 rfl rfl hLo rfl HS19 (slS 0 rfl rfl (slS 1 rfl rfl (slS 2 rfl rfl (slS 3 rfl rfl (slS 4 rfl rfl (slS 5 rfl rfl (slS 6 rfl rfl (slS 7 rfl rfl (slS 8 rfl rfl (slS 9 rfl rfl (slS 10 rfl rfl (slS 11 rfl rfl (slS 12 rfl rfl (slS 13 rfl rfl (slS 14 rfl rfl (slS 15 rfl rfl (slS 16 rfl rfl (slS 17 rfl rfl (slS 18 rfl rfl (slS 19 rfl rfl (slL 0 (d := 0) rfl (trivial)))))))))))))))))))))) ?_ ?_
              · show ∀ i ∈ [0], _
                refine zA (zB 0 _ rfl rfl hLo rfl rfl (fun _ _ _ _ => rfl) (fun b G w hb ho => zD (.inr rfl) (rfl))) ?_
                exact zF
              clear hLo
              intro G a28 w28 hS hH
              have HS28 : Sl a28 79 [(0, .agg (FR () 6 ((p).sc))), (1, .agg (FR () 6 ((q).sc))), (2, .string (us)), (3, .int .i64 (mine)), (4, .pointer (some ((⟨g1_0, 0, none⟩ : Addr)))), (5, .pointer (some ((⟨g1_1, 0, none⟩ : Addr)))), (17, .bool false), (28, .bool false), (9, .pointer (some ⟨g8_2, 0, none⟩)), (42, .bool false), (45, .agg (FR () 12 (two p q))), (46, .int .i64 ((i : Int))), (47, .bool true), (11, .pointer (some ⟨g14_1, 0, none⟩)), (50, .slice ((x).xm) ((x).ml) ((x).cm)), (51, .int .i64 (((x).ml : Int))), (52, .int .i64 ((k : Int))), (53, .bool true), (13, .pointer (some ⟨g18_2, 0, none⟩)), (59, .bool true), (8, .bool true)] := hS
              have HH28 : Held w5 w28 [⟨g8_2, (), 6, (u).sc, 25⟩, ⟨g14_1, (), 6, (x).sc, 25⟩, ⟨g18_2, (), 7, msc ((x).key (k)) ((x).mem (k)), 44⟩] := hH
              clear hS hH HS19 HH19
              refine then_ ?_
              refine wp_ret ?_
              repeat (first | refine zR ?_ | refine zK ?_)
              have HH29 := Held.back HH6 HH28
              exact b_tmp rfl HS28.2.1 (HS28.get 20 rfl) ⟨law_ret rfl, HH29.1⟩
      · skip
        refine wp_cond_true (HS3.get 8 rfl) ?_
        refine wp_seq ?_
        have hLo : LOk [(0, 8, .val (.bool true))] := lok (by rfl) (by rfl)
        refine zH (wE := w) (sz := 79) (n := 1) [0] [(0, .val (.agg (FR () 6 ((p).sc)))), (1, .val (.agg (FR () 6 ((q).sc)))), (2, .val (.string (us))), (3, .val (.int .i64 (mine))), (4, .val (.pointer (some ⟨g1_0, 0, none⟩))), (5, .val (.pointer (some ⟨g1_1, 0, none⟩))), (17, .val (.bool false)), (28, .val (.bool true)), (8, .val (.bool true))] [(0, 8, .val (.bool true))] [⟨g1_0, none, none, (), 6, (p).sc, (p).sc, 25⟩, ⟨g1_1, none, none, (), 6, (q).sc, (q).sc, 25⟩] rfl (by rfl) HH3 rfl rfl hLo rfl HS3 (slS 0 rfl rfl (slS 1 rfl rfl (slS 2 rfl rfl (slS 3 rfl rfl (slS 4 rfl rfl (slS 5 rfl rfl (slS 7 rfl rfl (slS 8 rfl rfl (slL 0 (d := 0) rfl (trivial)))))))))) ?_ ?_
        · show ∀ i ∈ [0], _
          refine zA (zB 0 _ rfl rfl hLo rfl rfl (fun _ _ _ _ => rfl) (fun b G w hb ho => zD (.inr rfl) (rfl))) ?_
          exact zF
        clear hLo
        intro G a30 w30 hS hH
        have HS30 : Sl a30 79 [(0, .agg (FR () 6 ((p).sc))), (1, .agg (FR () 6 ((q).sc))), (2, .string (us)), (3, .int .i64 (mine)), (4, .pointer (some ⟨g1_0, 0, none⟩)), (5, .pointer (some ⟨g1_1, 0, none⟩)), (17, .bool false), (28, .bool true), (8, .bool true)] := hS
        have HH30 : Held w w30 [⟨g1_0, (), 6, (p).sc, 25⟩, ⟨g1_1, (), 6, (q).sc, 25⟩] := hH
        clear hS hH HS3 HH3
        refine then_ ?_
        refine wp_ret ?_
        repeat (first | refine zR ?_ | refine zK ?_)
        exact b_tmp rfl HS30.2.1 (HS30.get 8 rfl) ⟨law_ret rfl, HH30.1⟩
    · skip
      refine wp_seq ?_
      have hLo : LOk [(0, 18, .val (.agg (FR () 6 ((p).sc)))), (1, 19, .val (.bool false)), (2, 20, .val (.bool false)), (3, 21, .val (.agg (FR () 6 ((q).sc)))), (4, 22, .val (.bool true)), (5, 23, .val (.bool true)), (6, 24, .val (.bool true)), (7, 25, .val (undef)), (8, 26, .val (undef)), (9, 27, .val (undef)), (10, 28, .val (.bool true))] := lok (by rfl) (by rfl)
      refine zH (wE := w) (sz := 79) (n := 11) [0, 1, 3, 7, 15, 31, 63, 127, 255, 511, 1023] [(0, .val (.agg (FR () 6 ((p).sc)))), (1, .val (.agg (FR () 6 ((q).sc)))), (2, .val (.string (us))), (3, .val (.int .i64 (mine))), (4, .val (.pointer (some ⟨g1_0, 0, none⟩))), (5, .val (.pointer (some ⟨g1_1, 0, none⟩))), (8, .val (.bool false)), (17, .val (.bool false)), (28, .val (.bool true))] [(0, 18, .val (.agg (FR () 6 ((p).sc)))), (1, 19, .val (.bool false)), (2, 20, .val (.bool false)), (3, 21, .val (.agg (FR () 6 ((q).sc)))), (4, 22, .val (.bool true)), (5, 23, .val (.bool true)), (6, 24, .val (.bool true)), (7, 25, .val (undef)), (8, 26, .val (undef)), (9, 27, .val (undef)), (10, 28, .val (.bool true))] [⟨g1_0, none, none, (), 6, (p).sc, (p).sc, 25⟩, ⟨g1_1, none, none, (), 6, (q).sc, (q).sc, 25⟩] rfl (by rfl) HH2 rfl rfl hLo rfl HS2 (slS 0 rfl rfl (slS 1 rfl rfl (slS 2 rfl rfl (slS 3 rfl rfl (slS 4 rfl rfl (slS 5 rfl rfl (slS 6 rfl rfl (slS 7 rfl rfl (slL 10 (d := 10) rfl (trivial)))))))))) ?_ ?_
      · show ∀ i ∈ [0, 1, 2, 3, 4, 5, 6, 7, 8, 9, 10], _
        refine zA (yG 0 0 _ rfl rfl rfl rfl (fun _ _ _ _ => rfl) hLo rfl rfl rfl (by rfl) Tryd.underlying25 (by kernel_rfl) rfl (fun b G hb ho => zG rfl (HS2.get 4 rfl))) ?_
        refine zA (yB 1 _ #[.agg (FR () 6 ((p).sc))] rfl rfl rfl (fun _ _ _ _ => rfl) hLo rfl rfl Tryd.func11 rfl rfl (fun b G hb ho => args1 (zC hLo 0 rfl HS2.1 rfl (hb 0 (by rfl)))) (fun w hw => (by have hq := great_calls (hInp.below hw); rw [hr1] at hq; exact hq))) ?_
        refine zA (zB 2 _ rfl rfl hLo rfl rfl (fun _ _ _ _ => rfl) (fun b G w hb ho => zD (.inl rfl) (zC hLo 1 rfl HS2.1 rfl (hb 1 (by rfl))))) ?_
        refine zA (yG 3 1 _ rfl rfl rfl rfl (fun b G hb ho => zE rfl rfl rfl HS2.1 rfl (zC hLo 2 rfl HS2.1 rfl (hb 2 (by rfl))) rfl) hLo rfl rfl rfl (by rfl) Tryd.underlying25 (by kernel_rfl) rfl (fun b G hb ho => zG rfl (HS2.get 5 rfl))) ?_
        refine zA (yB 4 _ #[.agg (FR () 6 ((q).sc))] rfl rfl rfl (fun b G hb ho => zE rfl rfl rfl HS2.1 rfl (zC hLo 2 rfl HS2.1 rfl (hb 2 (by rfl))) rfl) hLo rfl rfl Tryd.func11 rfl rfl (fun b G hb ho => args1 (zC hLo 3 rfl HS2.1 rfl (hb 3 (by rfl)))) (fun w hw => (by have hq := great_calls (hInq.below hw); rw [hr2] at hq; exact hq))) ?_
        refine zA (zB 5 _ rfl rfl hLo rfl rfl (fun _ _ _ _ => rfl) (fun b G w hb ho => zL rfl (zC hLo 2 rfl HS2.1 rfl (hb 2 (by rfl))) (zC hLo 4 rfl HS2.1 rfl (hb 4 (by rfl))))) ?_
        refine zA (zB 6 _ rfl rfl hLo rfl rfl (fun _ _ _ _ => rfl) (fun b G w hb ho => zD (.inl rfl) (zC hLo 5 rfl HS2.1 rfl (hb 5 (by rfl))))) ?_
        refine zA (zN 7 rfl rfl hLo rfl rfl (fun b G hb ho => zE rfl rfl rfl HS2.1 rfl (zC hLo 6 rfl HS2.1 rfl (hb 6 (by rfl))) rfl)) ?_
        refine zA (zN 8 rfl rfl hLo rfl rfl (fun b G hb ho => zE rfl rfl rfl HS2.1 rfl (zC hLo 6 rfl HS2.1 rfl (hb 6 (by rfl))) rfl)) ?_
        refine zA (zN 9 rfl rfl hLo rfl rfl (fun b G hb ho => zE rfl rfl rfl HS2.1 rfl (zC hLo 6 rfl HS2.1 rfl (hb 6 (by rfl))) rfl)) ?_
        refine zA (zB 10 _ rfl rfl hLo rfl rfl (fun _ _ _ _ => rfl) (fun b G w hb ho => zL rfl (zC hLo 6 rfl HS2.1 rfl (hb 6 (by rfl))) (rfl))) ?_
        exact zF
      clear hLo
      intro G a31 w31 hS hH
      have HS31 : Sl a31 79 [(0, .agg (FR () 6 ((p).sc))), (1, .agg (FR () 6 ((q).sc))), (2, .string (us)), (3, .int .i64 (mine)), (4, .pointer (some ⟨g1_0, 0, none⟩)), (5, .pointer (some ⟨g1_1, 0, none⟩)), (8, .bool false), (17, .bool false), (28, .bool true)] := hS
      have HH31 : Held w w31 [⟨g1_0, (), 6, (p).sc, 25⟩, ⟨g1_1, (), 6, (q).sc, 25⟩] := hH
      clear hS hH HS2 HH2
      refine then_ ?_
      refine wp_cond_true (HS31.get 8 rfl) ?_
      refine wp_seq ?_
      have hLo : LOk [(0, 8, .val (.bool true))] := lok (by rfl) (by rfl)
      refine zH (wE := w) (sz := 79) (n := 1) [0] [(0, .val (.agg (FR () 6 ((p).sc)))), (1, .val (.agg (FR () 6 ((q).sc)))), (2, .val (.string (us))), (3, .val (.int .i64 (mine))), (4, .val (.pointer (some ⟨g1_0, 0, none⟩))), (5, .val (.pointer (some ⟨g1_1, 0, none⟩))), (17, .val (.bool false)), (28, .val (.bool true)), (8, .val (.bool true))] [(0, 8, .val (.bool true))] [⟨g1_0, none, none, (), 6, (p).sc, (p).sc, 25⟩, ⟨g1_1, none, none, (), 6, (q).sc, (q).sc, 25⟩] rfl (by rfl) HH31 rfl rfl hLo rfl HS31 (slS 0 rfl rfl (slS 1 rfl rfl (slS 2 rfl rfl (slS 3 rfl rfl (slS 4 rfl rfl (slS 5 rfl rfl (slS 7 rfl rfl (slS 8 rfl rfl (slL 0 (d := 0) rfl (trivial)))))))))) ?_ ?_
      · show ∀ i ∈ [0], _
        refine zA (zB 0 _ rfl rfl hLo rfl rfl (fun _ _ _ _ => rfl) (fun b G w hb ho => zD (.inr rfl) (rfl))) ?_
        exact zF
      clear hLo
      intro G a32 w32 hS hH
      have HS32 : Sl a32 79 [(0, .agg (FR () 6 ((p).sc))), (1, .agg (FR () 6 ((q).sc))), (2, .string (us)), (3, .int .i64 (mine)), (4, .pointer (some ⟨g1_0, 0, none⟩)), (5, .pointer (some ⟨g1_1, 0, none⟩)), (17, .bool false), (28, .bool true), (8, .bool true)] := hS
      have HH32 : Held w w32 [⟨g1_0, (), 6, (p).sc, 25⟩, ⟨g1_1, (), 6, (q).sc, 25⟩] := hH
      clear hS hH HS31 HH31
      refine then_ ?_
      refine wp_ret ?_
      repeat (first | refine zR ?_ | refine zK ?_)
      exact b_tmp rfl HS32.2.1 (HS32.get 8 rfl) ⟨law_ret rfl, HH32.1⟩
  · skip
    refine wp_seq ?_
    have hLo : LOk [(0, 18, .val (.agg (FR () 6 ((p).sc)))), (1, 19, .val (.bool true)), (2, 20, .val (.bool true)), (3, 21, .val (undef)), (4, 22, .val (undef)), (5, 23, .val (.bool true)), (6, 24, .val (.bool true)), (7, 25, .val (undef)), (8, 26, .val (undef)), (9, 27, .val (undef)), (10, 28, .val (.bool true))] := lok (by rfl) (by rfl)
    refine zH (wE := w) (sz := 79) (n := 11) [0, 1, 3, 7, 15, 31, 63, 127, 255, 511, 1023] [(0, .val (.agg (FR () 6 ((p).sc)))), (1, .val (.agg (FR () 6 ((q).sc)))), (2, .val (.string (us))), (3, .val (.int .i64 (mine))), (4, .val (.pointer (some ⟨g1_0, 0, none⟩))), (5, .val (.pointer (some ⟨g1_1, 0, none⟩))), (8, .val (.bool false)), (17, .val (.bool false)), (28, .val (.bool true))] [(0, 18, .val (.agg (FR () 6 ((p).sc)))), (1, 19, .val (.bool true)), (2, 20, .val (.bool true)), (3, 21, .val (undef)), (4, 22, .val (undef)), (5, 23, .val (.bool true)), (6, 24, .val (.bool true)), (7, 25, .val (undef)), (8, 26, .val (undef)), (9, 27, .val (undef)), (10, 28, .val (.bool true))] [⟨g1_0, none, none, (), 6, (p).sc, (p).sc, 25⟩, ⟨g1_1, none, none, (), 6, (q).sc, (q).sc, 25⟩] rfl (by rfl) HH2 rfl rfl hLo rfl HS2 (slS 0 rfl rfl (slS 1 rfl rfl (slS 2 rfl rfl (slS 3 rfl rfl (slS 4 rfl rfl (slS 5 rfl rfl (slS 6 rfl rfl (slS 7 rfl rfl (slL 10 (d := 10) rfl (trivial)))))))))) ?_ ?_
    · show ∀ i ∈ [0, 1, 2, 3, 4, 5, 6, 7, 8, 9, 10], _
      refine zA (yG 0 0 _ rfl rfl rfl rfl (fun _ _ _ _ => rfl) hLo rfl rfl rfl (by rfl) Tryd.underlying25 (by kernel_rfl) rfl (fun b G hb ho => zG rfl (HS2.get 4 rfl))) ?_
      refine zA (yB 1 _ #[.agg (FR () 6 ((p).sc))] rfl rfl rfl (fun _ _ _ _ => rfl) hLo rfl rfl Tryd.func11 rfl rfl (fun b G hb ho => args1 (zC hLo 0 rfl HS2.1 rfl (hb 0 (by rfl)))) (fun w hw => (by have hq := great_calls (hInp.below hw); rw [hr1] at hq; exact hq))) ?_
      refine zA (zB 2 _ rfl rfl hLo rfl rfl (fun _ _ _ _ => rfl) (fun b G w hb ho => zD (.inl rfl) (zC hLo 1 rfl HS2.1 rfl (hb 1 (by rfl))))) ?_
      refine zA (zN 3 rfl rfl hLo rfl rfl (fun b G hb ho => zE rfl rfl rfl HS2.1 rfl (zC hLo 2 rfl HS2.1 rfl (hb 2 (by rfl))) rfl)) ?_
      refine zA (zN 4 rfl rfl hLo rfl rfl (fun b G hb ho => zE rfl rfl rfl HS2.1 rfl (zC hLo 2 rfl HS2.1 rfl (hb 2 (by rfl))) rfl)) ?_
      refine zA (zB 5 _ rfl rfl hLo rfl rfl (fun _ _ _ _ => rfl) (fun b G w hb ho => zL rfl (zC hLo 2 rfl HS2.1 rfl (hb 2 (by rfl))) (rfl))) ?_
      refine zA (zB 6 _ rfl rfl hLo rfl rfl (fun _ _ _ _ => rfl) (fun b G w hb ho => zD (.inl rfl) (zC hLo 5 rfl HS2.1 rfl (hb 5 (by rfl))))) ?_
      refine zA (zN 7 rfl rfl hLo rfl rfl (fun b G hb ho => zE rfl rfl rfl HS2.1 rfl (zC hLo 6 rfl HS2.1 rfl (hb 6 (by rfl))) rfl)) ?_
      refine zA (zN 8 rfl rfl hLo rfl rfl (fun b G hb ho => zE rfl rfl rfl HS2.1 rfl (zC hLo 6 rfl HS2.1 rfl (hb 6 (by rfl))) rfl)) ?_
      refine zA (zN 9 rfl rfl hLo rfl rfl (fun b G hb ho => zE rfl rfl rfl HS2.1 rfl (zC hLo 6 rfl HS2.1 rfl (hb 6 (by rfl))) rfl)) ?_
      refine zA (zB 10 _ rfl rfl hLo rfl rfl (fun _ _ _ _ => rfl) (fun b G w hb ho => zL rfl (zC hLo 6 rfl HS2.1 rfl (hb 6 (by rfl))) (rfl))) ?_
      exact zF
    clear hLo
    intro G a33 w33 hS hH
    have HS33 : Sl a33 79 [(0, .agg (FR () 6 ((p).sc))), (1, .agg (FR () 6 ((q).sc))), (2, .string (us)), (3, .int .i64 (mine)), (4, .pointer (some ⟨g1_0, 0, none⟩)), (5, .pointer (some ⟨g1_1, 0, none⟩)), (8, .bool false), (17, .bool false), (28, .bool true)] := hS
    have HH33 : Held w w33 [⟨g1_0, (), 6, (p).sc, 25⟩, ⟨g1_1, (), 6, (q).sc, 25⟩] := hH
    clear hS hH HS2 HH2
    refine then_ ?_
    refine wp_cond_true (HS33.get 8 rfl) ?_
    refine wp_seq ?_
    have hLo : LOk [(0, 8, .val (.bool true))] := lok (by rfl) (by rfl)
    refine zH (wE := w) (sz := 79) (n := 1) [0] [(0, .val (.agg (FR () 6 ((p).sc)))), (1, .val (.agg (FR () 6 ((q).sc)))), (2, .val (.string (us))), (3, .val (.int .i64 (mine))), (4, .val (.pointer (some ⟨g1_0, 0, none⟩))), (5, .val (.pointer (some ⟨g1_1, 0, none⟩))), (17, .val (.bool false)), (28, .val (.bool true)), (8, .val (.bool true))] [(0, 8, .val (.bool true))] [⟨g1_0, none, none, (), 6, (p).sc, (p).sc, 25⟩, ⟨g1_1, none, none, (), 6, (q).sc, (q).sc, 25⟩] rfl (by rfl) HH33 rfl rfl hLo rfl HS33 (slS 0 rfl rfl (slS 1 rfl rfl (slS 2 rfl rfl (slS 3 rfl rfl (slS 4 rfl rfl (slS 5 rfl rfl (slS 7 rfl rfl (slS 8 rfl rfl (slL 0 (d := 0) rfl (trivial)))))))))) ?_ ?_
    · show ∀ i ∈ [0], _
      refine zA (zB 0 _ rfl rfl hLo rfl rfl (fun _ _ _ _ => rfl) (fun b G w hb ho => zD (.inr rfl) (rfl))) ?_
      exact zF
    clear hLo
    intro G a34 w34 hS hH
    have HS34 : Sl a34 79 [(0, .agg (FR () 6 ((p).sc))), (1, .agg (FR () 6 ((q).sc))), (2, .string (us)), (3, .int .i64 (mine)), (4, .pointer (some ⟨g1_0, 0, none⟩)), (5, .pointer (some ⟨g1_1, 0, none⟩)), (17, .bool false), (28, .bool true), (8, .bool true)] := hS
    have HH34 : Held w w34 [⟨g1_0, (), 6, (p).sc, 25⟩, ⟨g1_1, (), 6, (q).sc, 25⟩] := hH
    clear hS hH HS33 HH33
    refine then_ ?_
    refine wp_ret ?_
    repeat (first | refine zR ?_ | refine zK ?_)
    exact b_tmp rfl HS34.2.1 (HS34.get 8 rfl) ⟨law_ret rfl, HH34.1⟩
end Go.Proofs.YtjpiofbedglagaaDoor.P
end
