/- Merged of the texts: Kc, Kd, Ke, WSized (trim.py). -/
import Derived.SizedLaws
import Derived.ChangeSlices
import Derived.Test.YtjpiofbedglagaaDoorYd6
section
namespace Go.Proofs.YtjpiofbedglagaaDoor.P
set_option linter.unusedVariables false
set_option linter.unusedSimpArgs false
open Go.RowKit Go.ChangeShapes Go.WideShapes Go.Proofs.YtjpiofbedglagaaDoorW.PrintWords Go.Proofs.YtjpiofbedglagaaDoorW.PrintLast Go.Proofs.YtjpiofbedglagaaDoorW.PrintMore
theorem args5 {ev : Operand → Value} {x y z a b : Operand} {u v t s r : Value} (h : ev x = u) (h2 : ev y = v) (h3 : ev z = t) (h4 : ev a = s) (h5 : ev b = r) : #[x, y, z, a, b].map ev = #[u, v, t, s, r] := by simp [h, h2, h3, h4, h5]
theorem rk_of {x y : T} {user : ByteArray} {mine : Int} {t : ByteArray} {k : Nat} {c d r : Bool} (h1 : decide (t = zS) = c) (h2 : (c && !decide (catK x y k = user)) = d) (h3 : turnsB x y (catK x y k) mine d = r) : rkeyOk x y user mine t k = r := by
  unfold rkeyOk; rw [h1, h2]; exact h3
theorem tabrch_12 : rtab .any (opsOf Tryd.f20 12) = (true, [([], []), ([], []), ([1], [1]), ([0, 2], [0, 2]), ([], []), ([4], [4]), ([3, 5, 3], [3, 5]), ([6], [6]), ([], [])]) := by kernel_rfl
theorem bitsrch_12 : waitsOk [([], []), ([], []), ([1], [1]), ([0, 2], [0, 2]), ([], []), ([4], [4]), ([3, 5, 3], [3, 5]), ([6], [6]), ([], [])] [0, 0, 2, 7, 0, 16, 63, 127, 0] = true := by kernel_rfl
set_option maxHeartbeats 4000000 in
theorem rchange_calls {w : World} {p q : T} (user : ByteArray) (mine : Int) (hInp : In w p) (hInq : In w q) (hmp : ∀ k, (p.tab k).ml ≤ 1073741824) (hmq : ∀ k, (q.tab k).ml ≤ 1073741824) : Calls Tryd.prog 20 #[.agg (FR () 6 ((p).sc)), .agg (FR () 6 ((q).sc)), .string (user), .int .i64 (mine)] w fun e w' => e = .returned (.bool (rchgB p q user mine)) ∧ Below w.heap.size w w' := by
  refine enter_ 71 Tryd.func20 rfl rfl (fun a0 hS => ?_)
  have HS0 : Sl a0 71 [(0, .agg (FR () 6 ((p).sc))), (1, .agg (FR () 6 ((q).sc))), (2, .string (user)), (3, .int .i64 (mine))] := hS
  have HH0 : Held w w [] := Held.first w
  clear hS
  refine wp_seq ?_
  have hLo : LOk [(0, 4, .new 0 (fun g => .pointer (some ⟨g, 0, none⟩))), (1, 5, .new 1 (fun g => .pointer (some ⟨g, 0, none⟩))), (2, 8, .val (.bool false))] := lok (by rfl) (by rfl)
  refine zI (wE := w) (sz := 71) (n := 3) [0, 1, 3] [(0, .val (.agg (FR () 6 ((p).sc)))), (1, .val (.agg (FR () 6 ((q).sc)))), (2, .val (.string (user))), (3, .val (.int .i64 (mine))), (4, .new 0 (fun g => .pointer (some ⟨g, 0, none⟩))), (5, .new 1 (fun g => .pointer (some ⟨g, 0, none⟩))), (8, .val (.bool false))] [(0, 4, .new 0 (fun g => .pointer (some ⟨g, 0, none⟩))), (1, 5, .new 1 (fun g => .pointer (some ⟨g, 0, none⟩))), (2, 8, .val (.bool false))] [⟨0, some 0, none, (), 6, (p).sc, (p).sc, 25⟩, ⟨0, some 1, none, (), 6, (q).sc, (q).sc, 25⟩] rfl (by rfl) HH0 rfl rfl hLo rfl HS0 (slS 0 rfl rfl (slS 1 rfl rfl (slS 2 rfl rfl (slS 3 rfl rfl (slL 0 (d := 0) rfl (slL 1 (d := 1) rfl (slL 2 (d := 2) rfl (trivial)))))))) ?_ ?_
  · show ∀ i ∈ [0, 1, 2], _
    refine zA (zW 0 0 () 6 25 none _ _ rfl rfl (fun _ _ _ _ => rfl) rfl hLo rfl rfl rfl rfl (by rfl) (fun b G w hb ho => exec_box rfl (zG rfl (HS0.get 0 rfl)) (by kernel_rfl))) ?_
    refine zA (zW 1 1 () 6 25 none _ _ rfl rfl (fun _ _ _ _ => rfl) rfl hLo rfl rfl rfl rfl (by rfl) (fun b G w hb ho => exec_box rfl (zG rfl (HS0.get 1 rfl)) (by kernel_rfl))) ?_
    refine zA (zC 2 _ rfl rfl hLo rfl rfl (fun _ _ _ _ => rfl) (fun b G w hb ho => zD (.inr rfl) (rfl))) ?_
    exact zF
  clear hLo
  intro G a1 w1 hS hH
  have HS1 : Sl a1 71 [(0, .agg (FR () 6 ((p).sc))), (1, .agg (FR () 6 ((q).sc))), (2, .string (user)), (3, .int .i64 (mine)), (4, .pointer (some ⟨(G 0), 0, none⟩)), (5, .pointer (some ⟨(G 1), 0, none⟩)), (8, .bool false)] := hS
  have HH1 : Held w w1 [⟨(G 0), (), 6, (p).sc, 25⟩, ⟨(G 1), (), 6, (q).sc, 25⟩] := hH
  clear hS hH HS0 HH0
  generalize G 0 = g1_0 at HS1 HH1
  generalize G 1 = g1_1 at HS1 HH1
  refine then_ ?_
  refine wp_seq ?_
  refine wp_seq ?_
  refine whole_ ?_
  refine cut_call _ rfl rfl rfl rfl Tryd.func35 rfl rfl (args0 ) (names_calls _) HS1 rfl ?_
  rintro e2 w2 ⟨⟨gn, rfl, hNM⟩, hbn⟩
  refine ⟨_, rfl, fun a2 hS => ?_⟩
  have HS3 : Sl a2 71 [(17, .slice (some ⟨gn, 0, none⟩) (7) (7)), (0, .agg (FR () 6 ((p).sc))), (1, .agg (FR () 6 ((q).sc))), (2, .string (user)), (3, .int .i64 (mine)), (4, .pointer (some ⟨g1_0, 0, none⟩)), (5, .pointer (some ⟨g1_1, 0, none⟩)), (8, .bool false)] := hS
  have HH3 : Held w w2 [⟨g1_0, (), 6, (p).sc, 25⟩, ⟨g1_1, (), 6, (q).sc, 25⟩] := HH1.call hbn
  clear hS
  have hRow4_0 := HH3.row 0 rfl
  have hRow4_1 := HH3.row 1 rfl
  have hInp_4 := hInp.below HH3.1
  have hInq_4 := hInq.below HH3.1
  have HH4 : Held w2 w2 [] := Held.first w2
  have HS4 : Sl a2 71 [(17, .slice (some ⟨gn, 0, none⟩) (7) (7)), (0, .agg (FR () 6 ((p).sc))), (1, .agg (FR () 6 ((q).sc))), (2, .string (user)), (3, .int .i64 (mine)), (4, .pointer (some (⟨g1_0, 0, none⟩))), (5, .pointer (some (⟨g1_1, 0, none⟩))), (8, .bool false)] := HS3
  have hLo : LOk [(1, 18, .val (.int .i64 (7))), (2, 19, .val (.int .i64 (0)))] := lok (by rfl) (by rfl)
  refine part_ (wE := w2) (sz := 71) (n := 3) 1 3 [0, 1, 3] [(17, .val (.slice (some ⟨gn, 0, none⟩) (7) (7))), (0, .val (.agg (FR () 6 ((p).sc)))), (1, .val (.agg (FR () 6 ((q).sc)))), (2, .val (.string (user))), (3, .val (.int .i64 (mine))), (4, .val (.pointer (some (⟨g1_0, 0, none⟩)))), (5, .val (.pointer (some (⟨g1_1, 0, none⟩)))), (8, .val (.bool false)), (18, .val (.int .i64 (7))), (19, .val (.int .i64 (0)))] [(1, 18, .val (.int .i64 (7))), (2, 19, .val (.int .i64 (0)))] [] rfl rfl (by rfl) HH4 rfl rfl hLo rfl HS4 (slS 0 rfl rfl (slS 1 rfl rfl (slS 2 rfl rfl (slS 3 rfl rfl (slS 4 rfl rfl (slS 5 rfl rfl (slS 6 rfl rfl (slS 7 rfl rfl (slL 0 (d := 1) rfl (slL 1 (d := 2) rfl (trivial))))))))))) ?_ ?_
  · show ∀ i ∈ [1, 2], _
    refine zA (zC 0 _ rfl rfl hLo rfl rfl (fun _ _ _ _ => rfl) (fun b G w hb ho => exec_lenL Tryd.underlying54 rfl (zG rfl (HS4.get 0 rfl)))) ?_
    refine zA (zC 1 _ rfl rfl hLo rfl rfl (fun _ _ _ _ => rfl) (fun b G w hb ho => zD (.inl rfl) (rfl))) ?_
    exact zF
  clear hLo
  intro G a5 w5 hS hH
  have HS5 : Sl a5 71 [(17, .slice (some ⟨gn, 0, none⟩) (7) (7)), (0, .agg (FR () 6 ((p).sc))), (1, .agg (FR () 6 ((q).sc))), (2, .string (user)), (3, .int .i64 (mine)), (4, .pointer (some (⟨g1_0, 0, none⟩))), (5, .pointer (some (⟨g1_1, 0, none⟩))), (8, .bool false), (18, .int .i64 (7)), (19, .int .i64 (0))] := hS
  have HH5 : Held w2 w5 [] := hH
  clear hS hH HS4 HH4
  refine end_ rfl ?_
  refine then_ ?_
  refine wp_block ?_
  have hSq0 : Sl _ 71 [(17, .slice (some ⟨gn, 0, none⟩) (7) (7)), (0, .agg (FR () 6 ((p).sc))), (1, .agg (FR () 6 ((q).sc))), (2, .string (user)), (3, .int .i64 (mine)), (4, .pointer (some (⟨g1_0, 0, none⟩))), (5, .pointer (some (⟨g1_1, 0, none⟩))), (18, .int .i64 (7)), (19, .int .i64 (0))] := yB HS5 [0, 1, 2, 3, 4, 5, 6, 8, 9] (by rfl)
  refine wp_loop (fun a w' => ∃ i : Nat, i ≤ 7 ∧ allB (fun i => turnsB p q (NM i) mine false) i = true ∧ Sl a 71 [(17, .slice (some ⟨gn, 0, none⟩) (7) (7)), (0, .agg (FR () 6 ((p).sc))), (1, .agg (FR () 6 ((q).sc))), (2, .string (user)), (3, .int .i64 (mine)), (4, .pointer (some (⟨g1_0, 0, none⟩))), (5, .pointer (some (⟨g1_1, 0, none⟩))), (18, .int .i64 (7)), (19, .int .i64 ((i : Int)))] ∧ Held w2 w' []) (fun a w' => 7 - (intOf (a.eval (.tmp 19))).toNat) ⟨0, Nat.zero_le _, rfl, hSq0, HH5⟩ ?_
  clear hSq0 HS5 HH5
  rintro aq0 wq0 ⟨i, hlei, hpi, HSq0, HHq0⟩
  have hm' : (intOf (aq0.eval (.tmp 19))).toNat = i := by rw [(HSq0.get 8 rfl)]; rfl
  rw [hm']
  clear hm'
  obtain ⟨r1, hr1⟩ : ∃ r : Bool, (decide (((i : Int) : Int) < 7)) = r := ⟨_, rfl⟩
  refine wp_seq ?_
  have hLo : LOk [(0, 20, .val (.bool r1))] := lok (by rfl) (by rfl)
  refine zI (wE := w2) (sz := 71) (n := 1) [0] [(17, .val (.slice (some ⟨gn, 0, none⟩) (7) (7))), (0, .val (.agg (FR () 6 ((p).sc)))), (1, .val (.agg (FR () 6 ((q).sc)))), (2, .val (.string (user))), (3, .val (.int .i64 (mine))), (4, .val (.pointer (some (⟨g1_0, 0, none⟩)))), (5, .val (.pointer (some (⟨g1_1, 0, none⟩)))), (18, .val (.int .i64 (7))), (19, .val (.int .i64 ((i : Int)))), (20, .val (.bool r1))] [(0, 20, .val (.bool r1))] [] rfl (by rfl) HHq0 rfl rfl hLo rfl HSq0 (slS 0 rfl rfl (slS 1 rfl rfl (slS 2 rfl rfl (slS 3 rfl rfl (slS 4 rfl rfl (slS 5 rfl rfl (slS 6 rfl rfl (slS 7 rfl rfl (slS 8 rfl rfl (slL 0 (d := 0) rfl (trivial))))))))))) ?_ ?_
  · show ∀ i ∈ [0], _
    refine zA (zC 0 _ rfl rfl hLo rfl rfl (fun _ _ _ _ => rfl) (fun b G w hb ho => zJ rfl (zG rfl (HSq0.get 8 rfl)) (zG rfl (HSq0.get 7 rfl)) (rb_lss hr1 _ _ _))) ?_
    exact zF
  clear hLo
  intro G a6 w6 hS hH
  have HS6 : Sl a6 71 [(17, .slice (some ⟨gn, 0, none⟩) (7) (7)), (0, .agg (FR () 6 ((p).sc))), (1, .agg (FR () 6 ((q).sc))), (2, .string (user)), (3, .int .i64 (mine)), (4, .pointer (some (⟨g1_0, 0, none⟩))), (5, .pointer (some (⟨g1_1, 0, none⟩))), (18, .int .i64 (7)), (19, .int .i64 ((i : Int))), (20, .bool r1)] := hS
  have HH6 : Held w2 w6 [] := hH
  clear hS hH HSq0 HHq0
  refine then_ ?_
  refine wp_seq ?_
  cases r1
  · skip
    have hendi : i = 7 := by have := of_decide_eq_false hr1; omega
    have hqi := hpi
    rw [hendi] at hqi
    refine wp_cond_false (HS6.get 9 rfl) ?_
    refine wp_exit ?_
    refine zZ ?_
    refine zZ ?_
    refine yH ?_
    refine then_ ?_
    refine wp_seq ?_
    refine wp_seq ?_
    refine whole_ ?_
    have hLo : LOk [(0, 30, .new 0 (fun g => .slice (some ⟨g, 0, none⟩) (3) (3)))] := lok (by rfl) (by rfl)
    refine part_ (wE := w2) (sz := 71) (n := 3) 0 1 [0, 1, 3] [(17, .val (.slice (some ⟨gn, 0, none⟩) (7) (7))), (0, .val (.agg (FR () 6 ((p).sc)))), (1, .val (.agg (FR () 6 ((q).sc)))), (2, .val (.string (user))), (3, .val (.int .i64 (mine))), (4, .val (.pointer (some (⟨g1_0, 0, none⟩)))), (5, .val (.pointer (some (⟨g1_1, 0, none⟩)))), (18, .val (.int .i64 (7))), (19, .val (.int .i64 ((i : Int)))), (20, .val (.bool false)), (30, .new 0 (fun g => .slice (some ⟨g, 0, none⟩) (3) (3)))] [(0, 30, .new 0 (fun g => .slice (some ⟨g, 0, none⟩) (3) (3)))] [⟨0, some 0, none, (), 3, lsc [.s (zO), .s (k_notifications), .s (zS)], lsc [.s (zO), .s (k_notifications), .s (zS)], 9⟩] rfl rfl (by rfl) HH6 rfl rfl hLo rfl HS6 (slS 0 rfl rfl (slS 1 rfl rfl (slS 2 rfl rfl (slS 3 rfl rfl (slS 4 rfl rfl (slS 5 rfl rfl (slS 6 rfl rfl (slS 7 rfl rfl (slS 8 rfl rfl (slS 9 rfl rfl (slL 0 (d := 0) rfl (trivial)))))))))))) ?_ ?_
    · show ∀ i ∈ [0], _
      refine zA (zW 0 0 () 3 9 none _ _ rfl rfl (fun _ _ _ _ => rfl) rfl hLo rfl rfl rfl rfl (by rfl) (fun b G w hb ho => exec_buildSlice rfl (parts3 (rfl) (rfl) (rfl)) (by kernel_rfl))) ?_
      exact zF
    clear hLo
    intro G a7 w7 hS hH
    have HS7 : Sl a7 71 [(17, .slice (some ⟨gn, 0, none⟩) (7) (7)), (0, .agg (FR () 6 ((p).sc))), (1, .agg (FR () 6 ((q).sc))), (2, .string (user)), (3, .int .i64 (mine)), (4, .pointer (some (⟨g1_0, 0, none⟩))), (5, .pointer (some (⟨g1_1, 0, none⟩))), (18, .int .i64 (7)), (19, .int .i64 ((i : Int))), (20, .bool false), (30, .slice (some ⟨(G 0), 0, none⟩) (3) (3))] := hS
    have HH7 : Held w2 w7 [⟨(G 0), (), 3, lsc [.s (zO), .s (k_notifications), .s (zS)], 9⟩] := hH
    clear hS hH HS6 HH6
    generalize G 0 = g7_0 at HS7 HH7
    have hRow8_0 := HH7.row 0 rfl
    have hInp_8 := hInp_4.below HH7.1
    have hInq_8 := hInq_4.below HH7.1
    have hRow4_0_8 := (hRow4_0).below HH7.1 (hRow4_0).lt
    have hRow4_1_8 := (hRow4_1).below HH7.1 (hRow4_1).lt
    have hNM_8 := hNM.below HH7.1
    have HH8 : Held w7 w7 [] := Held.first w7
    have HS8 : Sl a7 71 [(17, .slice (some ⟨gn, 0, none⟩) (7) (7)), (0, .agg (FR () 6 ((p).sc))), (1, .agg (FR () 6 ((q).sc))), (2, .string (user)), (3, .int .i64 (mine)), (4, .pointer (some (⟨g1_0, 0, none⟩))), (5, .pointer (some (⟨g1_1, 0, none⟩))), (18, .int .i64 (7)), (19, .int .i64 ((i : Int))), (20, .bool false), (30, .slice (some ⟨g7_0, 0, none⟩) (3) (3))] := HS7
    have hTN := StrsAt.row hRow8_0 tn_row
    have hLo : LOk [(1, 31, .val (.int .i64 (3))), (2, 32, .val (.int .i64 (0)))] := lok (by rfl) (by rfl)
    refine part_ (wE := w7) (sz := 71) (n := 3) 1 3 [0, 1, 3] [(17, .val (.slice (some ⟨gn, 0, none⟩) (7) (7))), (0, .val (.agg (FR () 6 ((p).sc)))), (1, .val (.agg (FR () 6 ((q).sc)))), (2, .val (.string (user))), (3, .val (.int .i64 (mine))), (4, .val (.pointer (some (⟨g1_0, 0, none⟩)))), (5, .val (.pointer (some (⟨g1_1, 0, none⟩)))), (18, .val (.int .i64 (7))), (19, .val (.int .i64 ((i : Int)))), (20, .val (.bool false)), (30, .val (.slice (some ⟨g7_0, 0, none⟩) (3) (3))), (31, .val (.int .i64 (3))), (32, .val (.int .i64 (0)))] [(1, 31, .val (.int .i64 (3))), (2, 32, .val (.int .i64 (0)))] [] rfl rfl (by rfl) HH8 rfl rfl hLo rfl HS8 (slS 0 rfl rfl (slS 1 rfl rfl (slS 2 rfl rfl (slS 3 rfl rfl (slS 4 rfl rfl (slS 5 rfl rfl (slS 6 rfl rfl (slS 7 rfl rfl (slS 8 rfl rfl (slS 9 rfl rfl (slS 10 rfl rfl (slL 0 (d := 1) rfl (slL 1 (d := 2) rfl (trivial)))))))))))))) ?_ ?_
    · show ∀ i ∈ [1, 2], _
      refine zA (zC 0 _ rfl rfl hLo rfl rfl (fun _ _ _ _ => rfl) (fun b G w hb ho => exec_lenL Tryd.underlying54 rfl (zG rfl (HS8.get 10 rfl)))) ?_
      refine zA (zC 1 _ rfl rfl hLo rfl rfl (fun _ _ _ _ => rfl) (fun b G w hb ho => zD (.inl rfl) (rfl))) ?_
      exact zF
    clear hLo
    intro G a9 w9 hS hH
    have HS9 : Sl a9 71 [(17, .slice (some ⟨gn, 0, none⟩) (7) (7)), (0, .agg (FR () 6 ((p).sc))), (1, .agg (FR () 6 ((q).sc))), (2, .string (user)), (3, .int .i64 (mine)), (4, .pointer (some (⟨g1_0, 0, none⟩))), (5, .pointer (some (⟨g1_1, 0, none⟩))), (18, .int .i64 (7)), (19, .int .i64 ((i : Int))), (20, .bool false), (30, .slice (some ⟨g7_0, 0, none⟩) (3) (3)), (31, .int .i64 (3)), (32, .int .i64 (0))] := hS
    have HH9 : Held w7 w9 [] := hH
    clear hS hH HS8 HH8
    refine end_ rfl ?_
    refine then_ ?_
    refine wp_block ?_
    have hSq1 : Sl _ 71 [(17, .slice (some ⟨gn, 0, none⟩) (7) (7)), (0, .agg (FR () 6 ((p).sc))), (1, .agg (FR () 6 ((q).sc))), (2, .string (user)), (3, .int .i64 (mine)), (4, .pointer (some (⟨g1_0, 0, none⟩))), (5, .pointer (some (⟨g1_1, 0, none⟩))), (18, .int .i64 (7)), (19, .int .i64 ((i : Int))), (20, .bool false), (30, .slice (some ⟨g7_0, 0, none⟩) (3) (3)), (31, .int .i64 (3)), (32, .int .i64 (0))] := yB HS9 [0, 1, 2, 3, 4, 5, 6, 7, 8, 9, 10, 11, 12] (by rfl)
    refine wp_loop (fun a w' => ∃ j : Nat, j ≤ 3 ∧ allB (rtabOk p q user mine) j = true ∧ Sl a 71 [(17, .slice (some ⟨gn, 0, none⟩) (7) (7)), (0, .agg (FR () 6 ((p).sc))), (1, .agg (FR () 6 ((q).sc))), (2, .string (user)), (3, .int .i64 (mine)), (4, .pointer (some (⟨g1_0, 0, none⟩))), (5, .pointer (some (⟨g1_1, 0, none⟩))), (18, .int .i64 (7)), (19, .int .i64 ((i : Int))), (20, .bool false), (30, .slice (some ⟨g7_0, 0, none⟩) (3) (3)), (31, .int .i64 (3)), (32, .int .i64 ((j : Int)))] ∧ Held w7 w' []) (fun a w' => 3 - (intOf (a.eval (.tmp 32))).toNat) ⟨0, Nat.zero_le _, rfl, hSq1, HH9⟩ ?_
    clear hSq1 HS9 HH9
    rintro aq1 wq1 ⟨j, hlej, hpj, HSq1, HHq1⟩
    have hm' : (intOf (aq1.eval (.tmp 32))).toNat = j := by rw [(HSq1.get 12 rfl)]; rfl
    rw [hm']
    clear hm'
    obtain ⟨x, hx⟩ : ∃ t : T, t = p.tab (TN j) := ⟨_, rfl⟩
    have hInx : In w7 x := by rw [hx]; exact hInp_8.tab
    have hmx : x.ml ≤ 1073741824 := by rw [hx]; exact hmp _
    obtain ⟨y, hy⟩ : ∃ t : T, t = q.tab (TN j) := ⟨_, rfl⟩
    have hIny : In w7 y := by rw [hy]; exact hInq_8.tab
    have hmy : y.ml ≤ 1073741824 := by rw [hy]; exact hmq _
    obtain ⟨r2, hr2⟩ : ∃ r : Bool, (decide (((j : Int) : Int) < 3)) = r := ⟨_, rfl⟩
    refine wp_seq ?_
    have hLo : LOk [(0, 33, .val (.bool r2))] := lok (by rfl) (by rfl)
    refine zI (wE := w7) (sz := 71) (n := 1) [0] [(17, .val (.slice (some ⟨gn, 0, none⟩) (7) (7))), (0, .val (.agg (FR () 6 ((p).sc)))), (1, .val (.agg (FR () 6 ((q).sc)))), (2, .val (.string (user))), (3, .val (.int .i64 (mine))), (4, .val (.pointer (some (⟨g1_0, 0, none⟩)))), (5, .val (.pointer (some (⟨g1_1, 0, none⟩)))), (18, .val (.int .i64 (7))), (19, .val (.int .i64 ((i : Int)))), (20, .val (.bool false)), (30, .val (.slice (some ⟨g7_0, 0, none⟩) (3) (3))), (31, .val (.int .i64 (3))), (32, .val (.int .i64 ((j : Int)))), (33, .val (.bool r2))] [(0, 33, .val (.bool r2))] [] rfl (by rfl) HHq1 rfl rfl hLo rfl HSq1 (slS 0 rfl rfl (slS 1 rfl rfl (slS 2 rfl rfl (slS 3 rfl rfl (slS 4 rfl rfl (slS 5 rfl rfl (slS 6 rfl rfl (slS 7 rfl rfl (slS 8 rfl rfl (slS 9 rfl rfl (slS 10 rfl rfl (slS 11 rfl rfl (slS 12 rfl rfl (slL 0 (d := 0) rfl (trivial))))))))))))))) ?_ ?_
    · show ∀ i ∈ [0], _
      refine zA (zC 0 _ rfl rfl hLo rfl rfl (fun _ _ _ _ => rfl) (fun b G w hb ho => zJ rfl (zG rfl (HSq1.get 12 rfl)) (zG rfl (HSq1.get 11 rfl)) (rb_lss hr2 _ _ _))) ?_
      exact zF
    clear hLo
    intro G a10 w10 hS hH
    have HS10 : Sl a10 71 [(17, .slice (some ⟨gn, 0, none⟩) (7) (7)), (0, .agg (FR () 6 ((p).sc))), (1, .agg (FR () 6 ((q).sc))), (2, .string (user)), (3, .int .i64 (mine)), (4, .pointer (some (⟨g1_0, 0, none⟩))), (5, .pointer (some (⟨g1_1, 0, none⟩))), (18, .int .i64 (7)), (19, .int .i64 ((i : Int))), (20, .bool false), (30, .slice (some ⟨g7_0, 0, none⟩) (3) (3)), (31, .int .i64 (3)), (32, .int .i64 ((j : Int))), (33, .bool r2)] := hS
    have HH10 : Held w7 w10 [] := hH
    clear hS hH HSq1 HHq1
    refine then_ ?_
    refine wp_seq ?_
    cases r2
    · skip
      have hendj : j = 3 := by have := of_decide_eq_false hr2; omega
      have hqj := hpj
      rw [hendj] at hqj
      refine wp_cond_false (HS10.get 13 rfl) ?_
      refine wp_exit ?_
      refine zZ ?_
      refine zZ ?_
      refine yH ?_
      refine then_ ?_
      refine wp_seq ?_
      have hLo : LOk [(0, 8, .val (.bool true))] := lok (by rfl) (by rfl)
      refine zI (wE := w7) (sz := 71) (n := 1) [0] [(17, .val (.slice (some ⟨gn, 0, none⟩) (7) (7))), (0, .val (.agg (FR () 6 ((p).sc)))), (1, .val (.agg (FR () 6 ((q).sc)))), (2, .val (.string (user))), (3, .val (.int .i64 (mine))), (4, .val (.pointer (some (⟨g1_0, 0, none⟩)))), (5, .val (.pointer (some (⟨g1_1, 0, none⟩)))), (18, .val (.int .i64 (7))), (19, .val (.int .i64 ((i : Int)))), (20, .val (.bool false)), (30, .val (.slice (some ⟨g7_0, 0, none⟩) (3) (3))), (31, .val (.int .i64 (3))), (32, .val (.int .i64 ((j : Int)))), (33, .val (.bool false)), (8, .val (.bool true))] [(0, 8, .val (.bool true))] [] rfl (by rfl) HH10 rfl rfl hLo rfl HS10 (slS 0 rfl rfl (slS 1 rfl rfl (slS 2 rfl rfl (slS 3 rfl rfl (slS 4 rfl rfl (slS 5 rfl rfl (slS 6 rfl rfl (slS 7 rfl rfl (slS 8 rfl rfl (slS 9 rfl rfl (slS 10 rfl rfl (slS 11 rfl rfl (slS 12 rfl rfl (slS 13 rfl rfl (slL 0 (d := 0) rfl (trivial)))))))))))))))) ?_ ?_
      · show ∀ i ∈ [0], _
        refine zA (zC 0 _ rfl rfl hLo rfl rfl (fun _ _ _ _ => rfl) (fun b G w hb ho => zD (.inr rfl) (rfl))) ?_
        exact zF
      clear hLo
      intro G a11 w11 hS hH
      have HS11 : Sl a11 71 [(17, .slice (some ⟨gn, 0, none⟩) (7) (7)), (0, .agg (FR () 6 ((p).sc))), (1, .agg (FR () 6 ((q).sc))), (2, .string (user)), (3, .int .i64 (mine)), (4, .pointer (some (⟨g1_0, 0, none⟩))), (5, .pointer (some (⟨g1_1, 0, none⟩))), (18, .int .i64 (7)), (19, .int .i64 ((i : Int))), (20, .bool false), (30, .slice (some ⟨g7_0, 0, none⟩) (3) (3)), (31, .int .i64 (3)), (32, .int .i64 ((j : Int))), (33, .bool false), (8, .bool true)] := hS
      have HH11 : Held w7 w11 [] := hH
      clear hS hH HS10 HH10
      refine then_ ?_
      refine wp_ret ?_
      repeat (first | refine zP ?_ | refine zL ?_)
      have HH12 := Held.back HH7 HH11
      have HH13 := Held.back HH3 HH12
      exact yI rfl HS11.2.1 (HS11.get 14 rfl) ⟨bool_ret (rchg_yes hqi hqj), HH13.1⟩
    · skip
      have hltj : j < 3 := by have := of_decide_eq_true hr2; omega
      refine wp_cond_true (HS10.get 13 rfl) ?_
      refine wp_skip ?_
      refine then_ ?_
      refine wp_seq ?_
      refine wp_block ?_
      obtain ⟨xj, hxj, hcj⟩ := hTN j hltj
      refine wp_seq ?_
      have hLo : LOk [(0, 34, .val (.pointer (some (xj.add ((j) * 1))))), (1, 35, .val (.string (TN (j)))), (2, 12, .val (.string (TN (j))))] := lok (by rfl) (by rfl)
      refine zI (wE := w7) (sz := 71) (n := 3) [0, 1, 3] [(17, .val (.slice (some ⟨gn, 0, none⟩) (7) (7))), (0, .val (.agg (FR () 6 ((p).sc)))), (1, .val (.agg (FR () 6 ((q).sc)))), (2, .val (.string (user))), (3, .val (.int .i64 (mine))), (4, .val (.pointer (some (⟨g1_0, 0, none⟩)))), (5, .val (.pointer (some (⟨g1_1, 0, none⟩)))), (18, .val (.int .i64 (7))), (19, .val (.int .i64 ((i : Int)))), (20, .val (.bool false)), (30, .val (.slice (some ⟨g7_0, 0, none⟩) (3) (3))), (31, .val (.int .i64 (3))), (32, .val (.int .i64 ((j : Int)))), (33, .val (.bool true)), (12, .val (.string (TN (j))))] [(0, 34, .val (.pointer (some (xj.add ((j) * 1))))), (1, 35, .val (.string (TN (j)))), (2, 12, .val (.string (TN (j))))] [] rfl (by rfl) HH10 rfl rfl hLo rfl HS10 (slS 0 rfl rfl (slS 1 rfl rfl (slS 2 rfl rfl (slS 3 rfl rfl (slS 4 rfl rfl (slS 5 rfl rfl (slS 6 rfl rfl (slS 7 rfl rfl (slS 8 rfl rfl (slS 9 rfl rfl (slS 10 rfl rfl (slS 11 rfl rfl (slS 12 rfl rfl (slS 13 rfl rfl (slL 2 (d := 2) rfl (trivial)))))))))))))))) ?_ ?_
      · show ∀ i ∈ [0, 1, 2], _
        refine zA (zC 0 _ rfl rfl hLo rfl rfl (fun _ _ _ _ => rfl) (fun b G w hb ho => zX rfl (zG rfl (HS10.get 10 rfl)) (zG rfl (HS10.get 12 rfl)) (index_sl Tryd.underlying54 (by kernel_rfl) hxj hltj _))) ?_
        refine zA (st_at1 1 (xj.add ((j) * 1)) _ rfl rfl rfl (fun _ _ _ _ => rfl) hLo rfl rfl Tryd.underlying9 rfl (hcj) (fun b G hb ho => zB hLo 0 rfl HS10.1 rfl (hb 0 (by rfl)))) ?_
        refine zA (zC 2 _ rfl rfl hLo rfl rfl (fun _ _ _ _ => rfl) (fun b G w hb ho => zD (.inr rfl) (zB hLo 1 rfl HS10.1 rfl (hb 1 (by rfl))))) ?_
        exact zF
      clear hLo
      intro G a14 w14 hS hH
      have HS14 : Sl a14 71 [(17, .slice (some ⟨gn, 0, none⟩) (7) (7)), (0, .agg (FR () 6 ((p).sc))), (1, .agg (FR () 6 ((q).sc))), (2, .string (user)), (3, .int .i64 (mine)), (4, .pointer (some (⟨g1_0, 0, none⟩))), (5, .pointer (some (⟨g1_1, 0, none⟩))), (18, .int .i64 (7)), (19, .int .i64 ((i : Int))), (20, .bool false), (30, .slice (some ⟨g7_0, 0, none⟩) (3) (3)), (31, .int .i64 (3)), (32, .int .i64 ((j : Int))), (33, .bool true), (12, .string (TN (j)))] := hS
      have HH14 : Held w7 w14 [] := hH
      clear hS hH HS10 HH10
      refine then_ ?_
      refine wp_seq ?_
      have hLo : LOk [(0, 36, .val (.agg (FR () 6 ((p).sc)))), (1, 37, .val (.string (TN (j)))), (2, 38, .val (.agg (FR () 6 ((x).sc)))), (3, 13, .new 3 (fun g => .pointer (some ⟨g, 0, none⟩)))] := lok (by rfl) (by rfl)
      refine zI (wE := w7) (sz := 71) (n := 5) [0, 1, 3, 7, 15] [(17, .val (.slice (some ⟨gn, 0, none⟩) (7) (7))), (0, .val (.agg (FR () 6 ((p).sc)))), (1, .val (.agg (FR () 6 ((q).sc)))), (2, .val (.string (user))), (3, .val (.int .i64 (mine))), (4, .val (.pointer (some (⟨g1_0, 0, none⟩)))), (5, .val (.pointer (some (⟨g1_1, 0, none⟩)))), (18, .val (.int .i64 (7))), (19, .val (.int .i64 ((i : Int)))), (20, .val (.bool false)), (30, .val (.slice (some ⟨g7_0, 0, none⟩) (3) (3))), (31, .val (.int .i64 (3))), (32, .val (.int .i64 ((j : Int)))), (33, .val (.bool true)), (12, .val (.string (TN (j)))), (13, .new 3 (fun g => .pointer (some ⟨g, 0, none⟩)))] [(0, 36, .val (.agg (FR () 6 ((p).sc)))), (1, 37, .val (.string (TN (j)))), (2, 38, .val (.agg (FR () 6 ((x).sc)))), (3, 13, .new 3 (fun g => .pointer (some ⟨g, 0, none⟩)))] [⟨0, some 3, some 4, (), 6, lsc [.i .i64 (0), .b (false), .i .i64 (0), .s (ByteArray.empty), .sl (none) (0) (0), .sl (none) (0) (0)], (x).sc, 25⟩] rfl (by rfl) HH14 rfl rfl hLo rfl HS14 (slS 0 rfl rfl (slS 1 rfl rfl (slS 2 rfl rfl (slS 3 rfl rfl (slS 4 rfl rfl (slS 5 rfl rfl (slS 6 rfl rfl (slS 7 rfl rfl (slS 8 rfl rfl (slS 9 rfl rfl (slS 10 rfl rfl (slS 11 rfl rfl (slS 12 rfl rfl (slS 13 rfl rfl (slS 14 rfl rfl (slL 3 (d := 3) rfl (trivial))))))))))))))))) ?_ ?_
      · show ∀ i ∈ [0, 1, 2, 3, 4], _
        refine zA (st_at 0 (⟨g1_0, 0, none⟩) rfl rfl rfl (fun _ _ _ _ => rfl) hLo rfl rfl Tryd.underlying25 (by kernel_rfl) rfl (row_at hRow4_0_8) (fun b G hb ho => zG rfl (HS14.get 5 rfl))) ?_
        refine zA (zC 1 _ rfl rfl hLo rfl rfl (fun _ _ _ _ => rfl) (fun b G w hb ho => zD (.inl rfl) (zG rfl (HS14.get 14 rfl)))) ?_
        refine zA (zV 2 _ #[.agg (FR () 6 ((p).sc)), .string (TN (j))] rfl rfl rfl (fun _ _ _ _ => rfl) hLo rfl rfl Tryd.func22 rfl rfl (fun b G hb ho => args2 (zB hLo 0 rfl HS14.1 rfl (hb 0 (by rfl))) (zB hLo 1 rfl HS14.1 rfl (hb 1 (by rfl)))) (fun w hw => (by have hq := table_calls (t := p) (TN (j)) (hInp_8.below hw); rw [← hx] at hq; exact hq))) ?_
        refine zA (zW 3 0 () 6 25 (some 4) _ _ rfl rfl (fun _ _ _ _ => rfl) rfl hLo rfl rfl rfl rfl (by rfl) (fun b G w _ _ => by kernel_rfl)) ?_
        refine zA (st_store 0 _ rfl rfl rfl rfl rfl (fun _ _ _ _ => rfl) rfl rfl rfl (by rfl) (by kernel_rfl) (fun b G hb ho => zB hLo 3 rfl HS14.1 rfl (hb 3 (by rfl))) (fun b G hb ho => zB hLo 2 rfl HS14.1 rfl (hb 2 (by rfl)))) ?_
        exact zF
      clear hLo
      intro G a15 w15 hS hH
      have HS15 : Sl a15 71 [(17, .slice (some ⟨gn, 0, none⟩) (7) (7)), (0, .agg (FR () 6 ((p).sc))), (1, .agg (FR () 6 ((q).sc))), (2, .string (user)), (3, .int .i64 (mine)), (4, .pointer (some (⟨g1_0, 0, none⟩))), (5, .pointer (some (⟨g1_1, 0, none⟩))), (18, .int .i64 (7)), (19, .int .i64 ((i : Int))), (20, .bool false), (30, .slice (some ⟨g7_0, 0, none⟩) (3) (3)), (31, .int .i64 (3)), (32, .int .i64 ((j : Int))), (33, .bool true), (12, .string (TN (j))), (13, .pointer (some ⟨(G 3), 0, none⟩))] := hS
      have HH15 : Held w7 w15 [⟨(G 3), (), 6, (x).sc, 25⟩] := hH
      clear hS hH HS14 HH14
      generalize G 3 = g15_3 at HS15 HH15
      refine then_ ?_
      refine wp_seq ?_
      have hLo : LOk [(0, 39, .val (.agg (FR () 6 ((q).sc)))), (1, 40, .val (.string (TN (j)))), (2, 41, .val (.agg (FR () 6 ((y).sc)))), (3, 14, .new 3 (fun g => .pointer (some ⟨g, 0, none⟩)))] := lok (by rfl) (by rfl)
      refine zI (wE := w7) (sz := 71) (n := 5) [0, 1, 3, 7, 15] [(17, .val (.slice (some ⟨gn, 0, none⟩) (7) (7))), (0, .val (.agg (FR () 6 ((p).sc)))), (1, .val (.agg (FR () 6 ((q).sc)))), (2, .val (.string (user))), (3, .val (.int .i64 (mine))), (4, .val (.pointer (some (⟨g1_0, 0, none⟩)))), (5, .val (.pointer (some (⟨g1_1, 0, none⟩)))), (18, .val (.int .i64 (7))), (19, .val (.int .i64 ((i : Int)))), (20, .val (.bool false)), (30, .val (.slice (some ⟨g7_0, 0, none⟩) (3) (3))), (31, .val (.int .i64 (3))), (32, .val (.int .i64 ((j : Int)))), (33, .val (.bool true)), (12, .val (.string (TN (j)))), (13, .val (.pointer (some ⟨g15_3, 0, none⟩))), (14, .new 3 (fun g => .pointer (some ⟨g, 0, none⟩)))] [(0, 39, .val (.agg (FR () 6 ((q).sc)))), (1, 40, .val (.string (TN (j)))), (2, 41, .val (.agg (FR () 6 ((y).sc)))), (3, 14, .new 3 (fun g => .pointer (some ⟨g, 0, none⟩)))] [⟨g15_3, none, none, (), 6, (x).sc, (x).sc, 25⟩, ⟨0, some 3, some 4, (), 6, lsc [.i .i64 (0), .b (false), .i .i64 (0), .s (ByteArray.empty), .sl (none) (0) (0), .sl (none) (0) (0)], (y).sc, 25⟩] rfl (by rfl) HH15 rfl rfl hLo rfl HS15 (slS 0 rfl rfl (slS 1 rfl rfl (slS 2 rfl rfl (slS 3 rfl rfl (slS 4 rfl rfl (slS 5 rfl rfl (slS 6 rfl rfl (slS 7 rfl rfl (slS 8 rfl rfl (slS 9 rfl rfl (slS 10 rfl rfl (slS 11 rfl rfl (slS 12 rfl rfl (slS 13 rfl rfl (slS 14 rfl rfl (slS 15 rfl rfl (slL 3 (d := 3) rfl (trivial)))))))))))))))))) ?_ ?_
      · show ∀ i ∈ [0, 1, 2, 3, 4], _
        refine zA (st_at 0 (⟨g1_1, 0, none⟩) rfl rfl rfl (fun _ _ _ _ => rfl) hLo rfl rfl Tryd.underlying25 (by kernel_rfl) rfl (row_at hRow4_1_8) (fun b G hb ho => zG rfl (HS15.get 6 rfl))) ?_
        refine zA (zC 1 _ rfl rfl hLo rfl rfl (fun _ _ _ _ => rfl) (fun b G w hb ho => zD (.inl rfl) (zG rfl (HS15.get 14 rfl)))) ?_
        refine zA (zV 2 _ #[.agg (FR () 6 ((q).sc)), .string (TN (j))] rfl rfl rfl (fun _ _ _ _ => rfl) hLo rfl rfl Tryd.func22 rfl rfl (fun b G hb ho => args2 (zB hLo 0 rfl HS15.1 rfl (hb 0 (by rfl))) (zB hLo 1 rfl HS15.1 rfl (hb 1 (by rfl)))) (fun w hw => (by have hq := table_calls (t := q) (TN (j)) (hInq_8.below hw); rw [← hy] at hq; exact hq))) ?_
        refine zA (zW 3 1 () 6 25 (some 4) _ _ rfl rfl (fun _ _ _ _ => rfl) rfl hLo rfl rfl rfl rfl (by rfl) (fun b G w _ _ => by kernel_rfl)) ?_
        refine zA (st_store 1 _ rfl rfl rfl rfl rfl (fun _ _ _ _ => rfl) rfl rfl rfl (by rfl) (by kernel_rfl) (fun b G hb ho => zB hLo 3 rfl HS15.1 rfl (hb 3 (by rfl))) (fun b G hb ho => zB hLo 2 rfl HS15.1 rfl (hb 2 (by rfl)))) ?_
        exact zF
      clear hLo
      intro G a16 w16 hS hH
      have HS16 : Sl a16 71 [(17, .slice (some ⟨gn, 0, none⟩) (7) (7)), (0, .agg (FR () 6 ((p).sc))), (1, .agg (FR () 6 ((q).sc))), (2, .string (user)), (3, .int .i64 (mine)), (4, .pointer (some (⟨g1_0, 0, none⟩))), (5, .pointer (some (⟨g1_1, 0, none⟩))), (18, .int .i64 (7)), (19, .int .i64 ((i : Int))), (20, .bool false), (30, .slice (some ⟨g7_0, 0, none⟩) (3) (3)), (31, .int .i64 (3)), (32, .int .i64 ((j : Int))), (33, .bool true), (12, .string (TN (j))), (13, .pointer (some ⟨g15_3, 0, none⟩)), (14, .pointer (some ⟨(G 3), 0, none⟩))] := hS
      have HH16 : Held w7 w16 [⟨g15_3, (), 6, (x).sc, 25⟩, ⟨(G 3), (), 6, (y).sc, 25⟩] := hH
      clear hS hH HS15 HH15
      generalize G 3 = g16_3 at HS16 HH16
      refine then_ ?_
      refine wp_seq ?_
      obtain ⟨n, hn⟩ : ∃ n, n = x.ml + y.ml := ⟨_, rfl⟩
      have hRow17_0 := HH16.row 0 rfl
      have hRow17_1 := HH16.row 1 rfl
      have hInp_17 := hInp_8.below HH16.1
      have hInq_17 := hInq_8.below HH16.1
      have hRow4_0_17 := (hRow4_0_8).below HH16.1 (hRow4_0_8).lt
      have hRow4_1_17 := (hRow4_1_8).below HH16.1 (hRow4_1_8).lt
      have hNM_17 := hNM_8.below HH16.1
      have hRow8_0_17 := (hRow8_0).below HH16.1 (hRow8_0).lt
      have hTN_17 := hTN.below HH16.1
      have hInx_17 := hInx.below HH16.1
      have hIny_17 := hIny.below HH16.1
      have HH17 : Held w16 w16 [] := Held.first w16
      have HS17 : Sl a16 71 [(17, .slice (some ⟨gn, 0, none⟩) (7) (7)), (0, .agg (FR () 6 ((p).sc))), (1, .agg (FR () 6 ((q).sc))), (2, .string (user)), (3, .int .i64 (mine)), (4, .pointer (some (⟨g1_0, 0, none⟩))), (5, .pointer (some (⟨g1_1, 0, none⟩))), (18, .int .i64 (7)), (19, .int .i64 ((i : Int))), (20, .bool false), (30, .slice (some ⟨g7_0, 0, none⟩) (3) (3)), (31, .int .i64 (3)), (32, .int .i64 ((j : Int))), (33, .bool true), (12, .string (TN (j))), (13, .pointer (some (⟨g15_3, 0, none⟩))), (14, .pointer (some (⟨g16_3, 0, none⟩)))] := HS16
      refine regionF_ (sz := 71) (n := 9) (B := [0, 0, 2, 7, 0, 16, 63, 127, 0]) [0, 1, 2, 3, 4, 5, 6, 7, 8] T12 (CatF w16 x y g15_3 g16_3) (by rfl) rfl tabrch_12 bitsrch_12 (by kernel_rfl) (by kernel_rfl) (by rfl) T12_ok HS17 (fun V => s12_first V HH17.1.drew) ?_ ?_
      · show ∀ i ∈ [0, 1, 2, 3, 4, 5, 6, 7, 8], _
        refine zA (s12_0 rfl rfl rfl rfl (by rfl)) ?_
        refine zA (s12_1 (HS17.get 15 rfl) rfl rfl rfl rfl) ?_
        refine zA (s12_2 HS17.1 rfl hRow17_0 rfl rfl rfl rfl (by rfl)) ?_
        refine zA (s12_3 HS17.1 rfl hInx_17 hmx rfl rfl rfl rfl (by rfl) (by rfl)) ?_
        refine zA (s12_4 (HS17.get 16 rfl) rfl rfl rfl rfl) ?_
        refine zA (s12_5 HS17.1 rfl hRow17_1 rfl rfl rfl rfl (by rfl)) ?_
        refine zA (s12_6 HS17.1 rfl hIny_17 hmx hmy rfl rfl rfl rfl (by rfl) (by rfl)) ?_
        refine zA (s12_7 HS17.1 rfl rfl rfl rfl rfl (by rfl)) ?_
        refine zA (s12_8 rfl rfl rfl rfl) ?_
        exact zF
      intro V b18 a18 w18 hall hF hS
      have hO := hF.c6 (hall 6 rfl)
      obtain ⟨oa, cc, he, _, _⟩ := hO.slice
      rw [he] at hO
      have hM := MemsAt.own hO
      have hV7 := hF.f7 (hall 7 rfl)
      have hV8 := hF.f8 (hall 8 rfl)
      rw [← hn] at hM he hV7
      have HS18 : Sl a18 71 [(48, V 6), (49, V 7), (50, V 8), (17, .slice (some ⟨gn, 0, none⟩) (7) (7)), (0, .agg (FR () 6 ((p).sc))), (1, .agg (FR () 6 ((q).sc))), (2, .string (user)), (3, .int .i64 (mine)), (4, .pointer (some (⟨g1_0, 0, none⟩))), (5, .pointer (some (⟨g1_1, 0, none⟩))), (18, .int .i64 (7)), (19, .int .i64 ((i : Int))), (20, .bool false), (30, .slice (some ⟨g7_0, 0, none⟩) (3) (3)), (31, .int .i64 (3)), (32, .int .i64 ((j : Int))), (33, .bool true), (12, .string (TN (j))), (13, .pointer (some (⟨g15_3, 0, none⟩))), (14, .pointer (some (⟨g16_3, 0, none⟩)))] := yB hS [6, 7, 8, 9, 10, 11, 12, 13, 14, 15, 16, 17, 18, 19, 20, 21, 22, 23, 24, 25] (by rfl)
      rw [he, hV7, hV8] at HS18
      have HH18 : Held w16 w18 [] := ⟨hF.bel, (fun _ h => by cases h), List.nodup_nil⟩
      clear hS hF hO
      have HS18b : Sl a18 71 [(48, .slice (oa) (n) (cc)), (49, .int .i64 ((n : Int))), (50, .int .i64 (0)), (17, .slice (some ⟨gn, 0, none⟩) (7) (7)), (0, .agg (FR () 6 ((p).sc))), (1, .agg (FR () 6 ((q).sc))), (2, .string (user)), (3, .int .i64 (mine)), (4, .pointer (some (⟨g1_0, 0, none⟩))), (5, .pointer (some (⟨g1_1, 0, none⟩))), (18, .int .i64 (7)), (19, .int .i64 ((i : Int))), (20, .bool false), (30, .slice (some ⟨g7_0, 0, none⟩) (3) (3)), (31, .int .i64 (3)), (32, .int .i64 ((j : Int))), (33, .bool true), (12, .string (TN (j))), (13, .pointer (some (⟨g15_3, 0, none⟩))), (14, .pointer (some (⟨g16_3, 0, none⟩)))] := HS18
      have hInp_19 := hInp_17.below HH18.1
      have hInq_19 := hInq_17.below HH18.1
      have hRow4_0_19 := (hRow4_0_17).below HH18.1 (hRow4_0_17).lt
      have hRow4_1_19 := (hRow4_1_17).below HH18.1 (hRow4_1_17).lt
      have hNM_19 := hNM_17.below HH18.1
      have hRow8_0_19 := (hRow8_0_17).below HH18.1 (hRow8_0_17).lt
      have hTN_19 := hTN_17.below HH18.1
      have hInx_19 := hInx_17.below HH18.1
      have hIny_19 := hIny_17.below HH18.1
      have hRow17_0_19 := (hRow17_0).below HH18.1 (hRow17_0).lt
      have hRow17_1_19 := (hRow17_1).below HH18.1 (hRow17_1).lt
      have HH19 : Held w18 w18 [] := Held.first w18
      have HS19 : Sl a18 71 [(48, .slice (oa) (n) (cc)), (49, .int .i64 ((n : Int))), (50, .int .i64 (0)), (17, .slice (some ⟨gn, 0, none⟩) (7) (7)), (0, .agg (FR () 6 ((p).sc))), (1, .agg (FR () 6 ((q).sc))), (2, .string (user)), (3, .int .i64 (mine)), (4, .pointer (some (⟨g1_0, 0, none⟩))), (5, .pointer (some (⟨g1_1, 0, none⟩))), (18, .int .i64 (7)), (19, .int .i64 ((i : Int))), (20, .bool false), (30, .slice (some ⟨g7_0, 0, none⟩) (3) (3)), (31, .int .i64 (3)), (32, .int .i64 ((j : Int))), (33, .bool true), (12, .string (TN (j))), (13, .pointer (some (⟨g15_3, 0, none⟩))), (14, .pointer (some (⟨g16_3, 0, none⟩)))] := HS18b
      have hnb : n ≤ 2147483648 := by omega
      refine then_ ?_
      refine wp_block ?_
      have hSq2 : Sl _ 71 [(48, .slice (oa) (n) (cc)), (49, .int .i64 ((n : Int))), (17, .slice (some ⟨gn, 0, none⟩) (7) (7)), (0, .agg (FR () 6 ((p).sc))), (1, .agg (FR () 6 ((q).sc))), (2, .string (user)), (3, .int .i64 (mine)), (4, .pointer (some (⟨g1_0, 0, none⟩))), (5, .pointer (some (⟨g1_1, 0, none⟩))), (18, .int .i64 (7)), (19, .int .i64 ((i : Int))), (20, .bool false), (30, .slice (some ⟨g7_0, 0, none⟩) (3) (3)), (31, .int .i64 (3)), (32, .int .i64 ((j : Int))), (33, .bool true), (12, .string (TN (j))), (13, .pointer (some (⟨g15_3, 0, none⟩))), (14, .pointer (some (⟨g16_3, 0, none⟩))), (50, .int .i64 (0))] := yB HS19 [0, 1, 3, 4, 5, 6, 7, 8, 9, 10, 11, 12, 13, 14, 15, 16, 17, 18, 19, 2] (by rfl)
      refine wp_loop (fun a w' => ∃ k : Nat, k ≤ n ∧ allB (rkeyOk x y user mine (TN j)) k = true ∧ Sl a 71 [(48, .slice (oa) (n) (cc)), (49, .int .i64 ((n : Int))), (17, .slice (some ⟨gn, 0, none⟩) (7) (7)), (0, .agg (FR () 6 ((p).sc))), (1, .agg (FR () 6 ((q).sc))), (2, .string (user)), (3, .int .i64 (mine)), (4, .pointer (some (⟨g1_0, 0, none⟩))), (5, .pointer (some (⟨g1_1, 0, none⟩))), (18, .int .i64 (7)), (19, .int .i64 ((i : Int))), (20, .bool false), (30, .slice (some ⟨g7_0, 0, none⟩) (3) (3)), (31, .int .i64 (3)), (32, .int .i64 ((j : Int))), (33, .bool true), (12, .string (TN (j))), (13, .pointer (some (⟨g15_3, 0, none⟩))), (14, .pointer (some (⟨g16_3, 0, none⟩))), (50, .int .i64 ((k : Int)))] ∧ Held w18 w' []) (fun a w' => n - (intOf (a.eval (.tmp 50))).toNat) ⟨0, Nat.zero_le _, rfl, hSq2, HH19⟩ ?_
      clear hSq2 HS19 HH19
      rintro aq2 wq2 ⟨k, hlek, hpk, HSq2, HHq2⟩
      have hm' : (intOf (aq2.eval (.tmp 50))).toNat = k := by rw [(HSq2.get 19 rfl)]; rfl
      rw [hm']
      clear hm'
      obtain ⟨r3, hr3⟩ : ∃ r : Bool, (decide (((k : Int) : Int) < (n : Int))) = r := ⟨_, rfl⟩
      refine wp_seq ?_
      have hLo : LOk [(0, 51, .val (.bool r3))] := lok (by rfl) (by rfl)
      refine zI (wE := w18) (sz := 71) (n := 1) [0] [(48, .val (.slice (oa) (n) (cc))), (49, .val (.int .i64 ((n : Int)))), (17, .val (.slice (some ⟨gn, 0, none⟩) (7) (7))), (0, .val (.agg (FR () 6 ((p).sc)))), (1, .val (.agg (FR () 6 ((q).sc)))), (2, .val (.string (user))), (3, .val (.int .i64 (mine))), (4, .val (.pointer (some (⟨g1_0, 0, none⟩)))), (5, .val (.pointer (some (⟨g1_1, 0, none⟩)))), (18, .val (.int .i64 (7))), (19, .val (.int .i64 ((i : Int)))), (20, .val (.bool false)), (30, .val (.slice (some ⟨g7_0, 0, none⟩) (3) (3))), (31, .val (.int .i64 (3))), (32, .val (.int .i64 ((j : Int)))), (33, .val (.bool true)), (12, .val (.string (TN (j)))), (13, .val (.pointer (some (⟨g15_3, 0, none⟩)))), (14, .val (.pointer (some (⟨g16_3, 0, none⟩)))), (50, .val (.int .i64 ((k : Int)))), (51, .val (.bool r3))] [(0, 51, .val (.bool r3))] [] rfl (by rfl) HHq2 rfl rfl hLo rfl HSq2 (slS 0 rfl rfl (slS 1 rfl rfl (slS 2 rfl rfl (slS 3 rfl rfl (slS 4 rfl rfl (slS 5 rfl rfl (slS 6 rfl rfl (slS 7 rfl rfl (slS 8 rfl rfl (slS 9 rfl rfl (slS 10 rfl rfl (slS 11 rfl rfl (slS 12 rfl rfl (slS 13 rfl rfl (slS 14 rfl rfl (slS 15 rfl rfl (slS 16 rfl rfl (slS 17 rfl rfl (slS 18 rfl rfl (slS 19 rfl rfl (slL 0 (d := 0) rfl (trivial)))))))))))))))))))))) ?_ ?_
      · show ∀ i ∈ [0], _
        refine zA (zC 0 _ rfl rfl hLo rfl rfl (fun _ _ _ _ => rfl) (fun b G w hb ho => zJ rfl (zG rfl (HSq2.get 19 rfl)) (zG rfl (HSq2.get 1 rfl)) (rb_lss hr3 _ _ _))) ?_
        exact zF
      clear hLo
      intro G a20 w20 hS hH
      have HS20 : Sl a20 71 [(48, .slice (oa) (n) (cc)), (49, .int .i64 ((n : Int))), (17, .slice (some ⟨gn, 0, none⟩) (7) (7)), (0, .agg (FR () 6 ((p).sc))), (1, .agg (FR () 6 ((q).sc))), (2, .string (user)), (3, .int .i64 (mine)), (4, .pointer (some (⟨g1_0, 0, none⟩))), (5, .pointer (some (⟨g1_1, 0, none⟩))), (18, .int .i64 (7)), (19, .int .i64 ((i : Int))), (20, .bool false), (30, .slice (some ⟨g7_0, 0, none⟩) (3) (3)), (31, .int .i64 (3)), (32, .int .i64 ((j : Int))), (33, .bool true), (12, .string (TN (j))), (13, .pointer (some (⟨g15_3, 0, none⟩))), (14, .pointer (some (⟨g16_3, 0, none⟩))), (50, .int .i64 ((k : Int))), (51, .bool r3)] := hS
      have HH20 : Held w18 w20 [] := hH
      clear hS hH HSq2 HHq2
      refine then_ ?_
      refine wp_seq ?_
      cases r3
      · skip
        have hendk : k = n := by have := of_decide_eq_false hr3; omega
        have hTj : rtabOk p q user mine j = true := by unfold rtabOk; rw [← hx, ← hy, ← hn, ← hendk]; exact hpk
        refine wp_cond_false (HS20.get 20 rfl) ?_
        refine wp_exit ?_
        refine zZ ?_
        refine zZ ?_
        refine yH ?_
        refine zQ ?_
        refine then_ ?_
        have hLo : LOk [(0, 70, .val (.int .i64 (((j + 1 : Nat) : Int)))), (1, 32, .val (.int .i64 (((j + 1 : Nat) : Int))))] := lok (by rfl) (by rfl)
        refine zI (wE := w18) (sz := 71) (n := 2) [0, 1] [(48, .val (.slice (oa) (n) (cc))), (49, .val (.int .i64 ((n : Int)))), (17, .val (.slice (some ⟨gn, 0, none⟩) (7) (7))), (0, .val (.agg (FR () 6 ((p).sc)))), (1, .val (.agg (FR () 6 ((q).sc)))), (2, .val (.string (user))), (3, .val (.int .i64 (mine))), (4, .val (.pointer (some (⟨g1_0, 0, none⟩)))), (5, .val (.pointer (some (⟨g1_1, 0, none⟩)))), (18, .val (.int .i64 (7))), (19, .val (.int .i64 ((i : Int)))), (20, .val (.bool false)), (30, .val (.slice (some ⟨g7_0, 0, none⟩) (3) (3))), (31, .val (.int .i64 (3))), (33, .val (.bool true)), (12, .val (.string (TN (j)))), (13, .val (.pointer (some (⟨g15_3, 0, none⟩)))), (14, .val (.pointer (some (⟨g16_3, 0, none⟩)))), (50, .val (.int .i64 ((k : Int)))), (51, .val (.bool false)), (32, .val (.int .i64 (((j + 1 : Nat) : Int))))] [(0, 70, .val (.int .i64 (((j + 1 : Nat) : Int)))), (1, 32, .val (.int .i64 (((j + 1 : Nat) : Int))))] [] rfl (by rfl) HH20 rfl rfl hLo rfl HS20 (slS 0 rfl rfl (slS 1 rfl rfl (slS 2 rfl rfl (slS 3 rfl rfl (slS 4 rfl rfl (slS 5 rfl rfl (slS 6 rfl rfl (slS 7 rfl rfl (slS 8 rfl rfl (slS 9 rfl rfl (slS 10 rfl rfl (slS 11 rfl rfl (slS 12 rfl rfl (slS 13 rfl rfl (slS 15 rfl rfl (slS 16 rfl rfl (slS 17 rfl rfl (slS 18 rfl rfl (slS 19 rfl rfl (slS 20 rfl rfl (slL 1 (d := 1) rfl (trivial)))))))))))))))))))))) ?_ ?_
        · show ∀ i ∈ [0, 1], _
          refine zA (zC 0 _ rfl rfl hLo rfl rfl (fun _ _ _ _ => rfl) (fun b G w hb ho => zJ rfl (ev_pre hLo 1 rfl (ho 1 (by rfl)) (HS20.get 14 rfl)) (rfl) (rb_add (w_nat (by omega) (by omega)) _ _ _))) ?_
          refine zA (zC 1 _ rfl rfl hLo rfl rfl (fun _ _ _ _ => rfl) (fun b G w hb ho => zD (.inl rfl) (zB hLo 0 rfl HS20.1 rfl (hb 0 (by rfl))))) ?_
          exact zF
        clear hLo
        intro G a21 w21 hS hH
        have HS21 : Sl a21 71 [(48, .slice (oa) (n) (cc)), (49, .int .i64 ((n : Int))), (17, .slice (some ⟨gn, 0, none⟩) (7) (7)), (0, .agg (FR () 6 ((p).sc))), (1, .agg (FR () 6 ((q).sc))), (2, .string (user)), (3, .int .i64 (mine)), (4, .pointer (some (⟨g1_0, 0, none⟩))), (5, .pointer (some (⟨g1_1, 0, none⟩))), (18, .int .i64 (7)), (19, .int .i64 ((i : Int))), (20, .bool false), (30, .slice (some ⟨g7_0, 0, none⟩) (3) (3)), (31, .int .i64 (3)), (33, .bool true), (12, .string (TN (j))), (13, .pointer (some (⟨g15_3, 0, none⟩))), (14, .pointer (some (⟨g16_3, 0, none⟩))), (50, .int .i64 ((k : Int))), (51, .bool false), (32, .int .i64 (((j + 1 : Nat) : Int)))] := hS
        have HH21 : Held w18 w21 [] := hH
        clear hS hH HS20 HH20
        refine then_ ?_
        have HH22 := Held.back HH18 HH21
        have HH23 := Held.back HH16 HH22
        have hSq1' : Sl _ 71 [(17, .slice (some ⟨gn, 0, none⟩) (7) (7)), (0, .agg (FR () 6 ((p).sc))), (1, .agg (FR () 6 ((q).sc))), (2, .string (user)), (3, .int .i64 (mine)), (4, .pointer (some (⟨g1_0, 0, none⟩))), (5, .pointer (some (⟨g1_1, 0, none⟩))), (18, .int .i64 (7)), (19, .int .i64 ((i : Int))), (20, .bool false), (30, .slice (some ⟨g7_0, 0, none⟩) (3) (3)), (31, .int .i64 (3)), (32, .int .i64 (((j + 1 : Nat) : Int)))] := yB HS21 [2, 3, 4, 5, 6, 7, 8, 9, 10, 11, 12, 13, 20] (by rfl)
        have hHq1' : Held w7 _ [] := yC HH23 0 rfl
        exact ⟨⟨j + 1, by omega, allB_step hpj (hTj), hSq1', hHq1'⟩, by rw [(hSq1'.get 12 rfl)]; show 3 - (((j + 1 : Nat) : Int)).toNat < 3 - j; omega⟩
      · skip
        have hltk : k < n := by have := of_decide_eq_true hr3; omega
        refine wp_cond_true (HS20.get 20 rfl) ?_
        refine wp_skip ?_
        refine then_ ?_
        refine wp_seq ?_
        refine wp_block ?_
        obtain ⟨x1, hx1, hk1, hv1⟩ := hM k hltk
        refine wp_seq ?_
        have hLo : LOk [(0, 52, .val (.pointer (some (x1.add ((k) * 7))))), (1, 53, .val (.agg (FR () 7 (msc (catK x y (k)) (catM x y (k)))))), (2, 16, .new 2 (fun g => .pointer (some ⟨g, 0, none⟩)))] := lok (by rfl) (by rfl)
        refine zI (wE := w18) (sz := 71) (n := 4) [0, 1, 3, 7] [(48, .val (.slice (oa) (n) (cc))), (49, .val (.int .i64 ((n : Int)))), (17, .val (.slice (some ⟨gn, 0, none⟩) (7) (7))), (0, .val (.agg (FR () 6 ((p).sc)))), (1, .val (.agg (FR () 6 ((q).sc)))), (2, .val (.string (user))), (3, .val (.int .i64 (mine))), (4, .val (.pointer (some (⟨g1_0, 0, none⟩)))), (5, .val (.pointer (some (⟨g1_1, 0, none⟩)))), (18, .val (.int .i64 (7))), (19, .val (.int .i64 ((i : Int)))), (20, .val (.bool false)), (30, .val (.slice (some ⟨g7_0, 0, none⟩) (3) (3))), (31, .val (.int .i64 (3))), (32, .val (.int .i64 ((j : Int)))), (33, .val (.bool true)), (12, .val (.string (TN (j)))), (13, .val (.pointer (some (⟨g15_3, 0, none⟩)))), (14, .val (.pointer (some (⟨g16_3, 0, none⟩)))), (50, .val (.int .i64 ((k : Int)))), (51, .val (.bool true)), (16, .new 2 (fun g => .pointer (some ⟨g, 0, none⟩)))] [(0, 52, .val (.pointer (some (x1.add ((k) * 7))))), (1, 53, .val (.agg (FR () 7 (msc (catK x y (k)) (catM x y (k)))))), (2, 16, .new 2 (fun g => .pointer (some ⟨g, 0, none⟩)))] [⟨0, some 2, some 3, (), 7, lsc [.s (ByteArray.empty), .i .i64 (0), .b (false), .i .i64 (0), .s (ByteArray.empty), .sl (none) (0) (0), .sl (none) (0) (0)], msc (catK x y (k)) (catM x y (k)), 44⟩] rfl (by rfl) HH20 rfl rfl hLo rfl HS20 (slS 0 rfl rfl (slS 1 rfl rfl (slS 2 rfl rfl (slS 3 rfl rfl (slS 4 rfl rfl (slS 5 rfl rfl (slS 6 rfl rfl (slS 7 rfl rfl (slS 8 rfl rfl (slS 9 rfl rfl (slS 10 rfl rfl (slS 11 rfl rfl (slS 12 rfl rfl (slS 13 rfl rfl (slS 14 rfl rfl (slS 15 rfl rfl (slS 16 rfl rfl (slS 17 rfl rfl (slS 18 rfl rfl (slS 19 rfl rfl (slS 20 rfl rfl (slL 2 (d := 2) rfl (trivial))))))))))))))))))))))) ?_ ?_
        · show ∀ i ∈ [0, 1, 2, 3], _
          refine zA (zC 0 _ rfl rfl hLo rfl rfl (fun _ _ _ _ => rfl) (fun b G w hb ho => zX rfl (zG rfl (HS20.get 0 rfl)) (zG rfl (HS20.get 19 rfl)) (index_sl Tryd.underlying23 (by kernel_rfl) hx1 hltk _))) ?_
          refine zA (st_at 1 (x1.add ((k) * 7)) rfl rfl rfl (fun _ _ _ _ => rfl) hLo rfl rfl Tryd.underlying44 (by kernel_rfl) rfl (at7 hk1 hv1) (fun b G hb ho => zB hLo 0 rfl HS20.1 rfl (hb 0 (by rfl)))) ?_
          refine zA (zW 2 0 () 7 44 (some 3) _ _ rfl rfl (fun _ _ _ _ => rfl) rfl hLo rfl rfl rfl rfl (by rfl) (fun b G w _ _ => by kernel_rfl)) ?_
          refine zA (st_store 0 _ rfl rfl rfl rfl rfl (fun _ _ _ _ => rfl) rfl rfl rfl (by rfl) (by kernel_rfl) (fun b G hb ho => zB hLo 2 rfl HS20.1 rfl (hb 2 (by rfl))) (fun b G hb ho => zB hLo 1 rfl HS20.1 rfl (hb 1 (by rfl)))) ?_
          exact zF
        clear hLo
        intro G a24 w24 hS hH
        have HS24 : Sl a24 71 [(48, .slice (oa) (n) (cc)), (49, .int .i64 ((n : Int))), (17, .slice (some ⟨gn, 0, none⟩) (7) (7)), (0, .agg (FR () 6 ((p).sc))), (1, .agg (FR () 6 ((q).sc))), (2, .string (user)), (3, .int .i64 (mine)), (4, .pointer (some (⟨g1_0, 0, none⟩))), (5, .pointer (some (⟨g1_1, 0, none⟩))), (18, .int .i64 (7)), (19, .int .i64 ((i : Int))), (20, .bool false), (30, .slice (some ⟨g7_0, 0, none⟩) (3) (3)), (31, .int .i64 (3)), (32, .int .i64 ((j : Int))), (33, .bool true), (12, .string (TN (j))), (13, .pointer (some (⟨g15_3, 0, none⟩))), (14, .pointer (some (⟨g16_3, 0, none⟩))), (50, .int .i64 ((k : Int))), (51, .bool true), (16, .pointer (some ⟨(G 2), 0, none⟩))] := hS
        have HH24 : Held w18 w24 [⟨(G 2), (), 7, msc (catK x y (k)) (catM x y (k)), 44⟩] := hH
        clear hS hH HS20 HH20
        generalize G 2 = g24_2 at HS24 HH24
        refine then_ ?_
        obtain ⟨r4, hr4⟩ : ∃ r : Bool, (decide ((TN (j) : ByteArray) = zS)) = r := ⟨_, rfl⟩
        cases r4
        · skip
          obtain ⟨r5, hr5⟩ : ∃ r : Bool, (turnsB x y (catK x y (k)) mine (false)) = r := ⟨_, rfl⟩
          refine wp_seq ?_
          have hLo : LOk [(0, 54, .val (.agg (FR () 6 ((x).sc)))), (1, 55, .val (.agg (FR () 6 ((y).sc)))), (2, 56, .val (.pointer (some ⟨g24_2, 0, none⟩))), (3, 57, .val (.string (catK x y (k)))), (4, 58, .val (.int .i64 (mine))), (5, 59, .val (.string (TN (j)))), (6, 60, .val (.bool false)), (7, 61, .val (.bool false)), (8, 62, .val (undef)), (9, 63, .val (undef)), (10, 64, .val (undef)), (11, 65, .val (undef)), (12, 66, .val (.bool false)), (13, 67, .val (.bool r5)), (14, 68, .val (.bool (!r5)))] := lok (by rfl) (by rfl)
          refine zI (wE := w18) (sz := 71) (n := 15) [0, 1, 3, 7, 15, 31, 63, 127, 255, 511, 1023, 2047, 4095, 8191, 16383] [(48, .val (.slice (oa) (n) (cc))), (49, .val (.int .i64 ((n : Int)))), (17, .val (.slice (some ⟨gn, 0, none⟩) (7) (7))), (0, .val (.agg (FR () 6 ((p).sc)))), (1, .val (.agg (FR () 6 ((q).sc)))), (2, .val (.string (user))), (3, .val (.int .i64 (mine))), (4, .val (.pointer (some (⟨g1_0, 0, none⟩)))), (5, .val (.pointer (some (⟨g1_1, 0, none⟩)))), (18, .val (.int .i64 (7))), (19, .val (.int .i64 ((i : Int)))), (20, .val (.bool false)), (30, .val (.slice (some ⟨g7_0, 0, none⟩) (3) (3))), (31, .val (.int .i64 (3))), (32, .val (.int .i64 ((j : Int)))), (33, .val (.bool true)), (12, .val (.string (TN (j)))), (13, .val (.pointer (some (⟨g15_3, 0, none⟩)))), (14, .val (.pointer (some (⟨g16_3, 0, none⟩)))), (50, .val (.int .i64 ((k : Int)))), (51, .val (.bool true)), (16, .val (.pointer (some ⟨g24_2, 0, none⟩))), (68, .val (.bool (!r5)))] [(0, 54, .val (.agg (FR () 6 ((x).sc)))), (1, 55, .val (.agg (FR () 6 ((y).sc)))), (2, 56, .val (.pointer (some ⟨g24_2, 0, none⟩))), (3, 57, .val (.string (catK x y (k)))), (4, 58, .val (.int .i64 (mine))), (5, 59, .val (.string (TN (j)))), (6, 60, .val (.bool false)), (7, 61, .val (.bool false)), (8, 62, .val (undef)), (9, 63, .val (undef)), (10, 64, .val (undef)), (11, 65, .val (undef)), (12, 66, .val (.bool false)), (13, 67, .val (.bool r5)), (14, 68, .val (.bool (!r5)))] [⟨g24_2, none, none, (), 7, msc (catK x y (k)) (catM x y (k)), msc (catK x y (k)) (catM x y (k)), 44⟩] rfl (by rfl) HH24 rfl rfl hLo rfl HS24 (slS 0 rfl rfl (slS 1 rfl rfl (slS 2 rfl rfl (slS 3 rfl rfl (slS 4 rfl rfl (slS 5 rfl rfl (slS 6 rfl rfl (slS 7 rfl rfl (slS 8 rfl rfl (slS 9 rfl rfl (slS 10 rfl rfl (slS 11 rfl rfl (slS 12 rfl rfl (slS 13 rfl rfl (slS 14 rfl rfl (slS 15 rfl rfl (slS 16 rfl rfl (slS 17 rfl rfl (slS 18 rfl rfl (slS 19 rfl rfl (slS 20 rfl rfl (slS 21 rfl rfl (slL 14 (d := 14) rfl (trivial)))))))))))))))))))))))) ?_ ?_
          · show ∀ i ∈ [0, 1, 2, 3, 4, 5, 6, 7, 8, 9, 10, 11, 12, 13, 14], _
            refine zA (st_at 0 (⟨g15_3, 0, none⟩) rfl rfl rfl (fun _ _ _ _ => rfl) hLo rfl rfl Tryd.underlying25 (by kernel_rfl) rfl (row_at hRow17_0_19) (fun b G hb ho => zG rfl (HS24.get 17 rfl))) ?_
            refine zA (st_at 1 (⟨g16_3, 0, none⟩) rfl rfl rfl (fun _ _ _ _ => rfl) hLo rfl rfl Tryd.underlying25 (by kernel_rfl) rfl (row_at hRow17_1_19) (fun b G hb ho => zG rfl (HS24.get 18 rfl))) ?_
            refine zA (zC 2 _ rfl rfl hLo rfl rfl (fun _ _ _ _ => rfl) (fun b G w hb ho => zN rfl (zG rfl (HS24.get 21 rfl)) (by kernel_rfl))) ?_
            refine zA (zY 3 0 _ _ rfl rfl rfl hLo rfl rfl (fun _ _ _ _ => rfl) (by rfl) (by rfl) (fun b G w hb ho hr => zR hr (Nat.le_of_ble_eq_true rfl) Tryd.underlying9 rfl rfl (zB hLo 2 rfl HS24.1 rfl (hb 2 (by rfl))))) ?_
            refine zA (zC 4 _ rfl rfl hLo rfl rfl (fun _ _ _ _ => rfl) (fun b G w hb ho => zD (.inl rfl) (zG rfl (HS24.get 6 rfl)))) ?_
            refine zA (zC 5 _ rfl rfl hLo rfl rfl (fun _ _ _ _ => rfl) (fun b G w hb ho => zD (.inl rfl) (zG rfl (HS24.get 16 rfl)))) ?_
            refine zA (zC 6 _ rfl rfl hLo rfl rfl (fun _ _ _ _ => rfl) (fun b G w hb ho => zJ rfl (zB hLo 5 rfl HS24.1 rfl (hb 5 (by rfl))) (rfl) (rb_seql hr4 _ _ _))) ?_
            refine zA (zC 7 _ rfl rfl hLo rfl rfl (fun _ _ _ _ => rfl) (fun b G w hb ho => zD (.inl rfl) (zB hLo 6 rfl HS24.1 rfl (hb 6 (by rfl))))) ?_
            refine zA (zH 8 rfl rfl hLo rfl rfl (fun b G hb ho => zE rfl rfl rfl HS24.1 rfl (zB hLo 7 rfl HS24.1 rfl (hb 7 (by rfl))) rfl)) ?_
            refine zA (zH 9 rfl rfl hLo rfl rfl (fun b G hb ho => zE rfl rfl rfl HS24.1 rfl (zB hLo 7 rfl HS24.1 rfl (hb 7 (by rfl))) rfl)) ?_
            refine zA (zH 10 rfl rfl hLo rfl rfl (fun b G hb ho => zE rfl rfl rfl HS24.1 rfl (zB hLo 7 rfl HS24.1 rfl (hb 7 (by rfl))) rfl)) ?_
            refine zA (zH 11 rfl rfl hLo rfl rfl (fun b G hb ho => zE rfl rfl rfl HS24.1 rfl (zB hLo 7 rfl HS24.1 rfl (hb 7 (by rfl))) rfl)) ?_
            refine zA (zC 12 _ rfl rfl hLo rfl rfl (fun _ _ _ _ => rfl) (fun b G w hb ho => zK rfl (zB hLo 7 rfl HS24.1 rfl (hb 7 (by rfl))) (rfl))) ?_
            refine zA (zV 13 _ #[.agg (FR () 6 ((x).sc)), .agg (FR () 6 ((y).sc)), .string (catK x y (k)), .int .i64 (mine), .bool false] rfl rfl rfl (fun _ _ _ _ => rfl) hLo rfl rfl Tryd.func36 rfl rfl (fun b G hb ho => args5 (zB hLo 0 rfl HS24.1 rfl (hb 0 (by rfl))) (zB hLo 1 rfl HS24.1 rfl (hb 1 (by rfl))) (zB hLo 3 rfl HS24.1 rfl (hb 3 (by rfl))) (zB hLo 4 rfl HS24.1 rfl (hb 4 (by rfl))) (zB hLo 12 rfl HS24.1 rfl (hb 12 (by rfl)))) (fun w hw => (by have hq := turns_calls (a := x) (b := y) (catK x y (k)) mine (false) (hInx_19.below hw) (hIny_19.below hw); rw [hr5] at hq; exact hq))) ?_
            refine zA (zC 14 _ rfl rfl hLo rfl rfl (fun _ _ _ _ => rfl) (fun b G w hb ho => yJ rfl (zB hLo 13 rfl HS24.1 rfl (hb 13 (by rfl))) (ru_not _))) ?_
            exact zF
          clear hLo
          intro G a25 w25 hS hH
          have HS25 : Sl a25 71 [(48, .slice (oa) (n) (cc)), (49, .int .i64 ((n : Int))), (17, .slice (some ⟨gn, 0, none⟩) (7) (7)), (0, .agg (FR () 6 ((p).sc))), (1, .agg (FR () 6 ((q).sc))), (2, .string (user)), (3, .int .i64 (mine)), (4, .pointer (some (⟨g1_0, 0, none⟩))), (5, .pointer (some (⟨g1_1, 0, none⟩))), (18, .int .i64 (7)), (19, .int .i64 ((i : Int))), (20, .bool false), (30, .slice (some ⟨g7_0, 0, none⟩) (3) (3)), (31, .int .i64 (3)), (32, .int .i64 ((j : Int))), (33, .bool true), (12, .string (TN (j))), (13, .pointer (some (⟨g15_3, 0, none⟩))), (14, .pointer (some (⟨g16_3, 0, none⟩))), (50, .int .i64 ((k : Int))), (51, .bool true), (16, .pointer (some ⟨g24_2, 0, none⟩)), (68, .bool (!r5))] := hS
          have HH25 : Held w18 w25 [⟨g24_2, (), 7, msc (catK x y (k)) (catM x y (k)), 44⟩] := hH
          clear hS hH HS24 HH24
          refine then_ ?_
          cases r5
          · skip
            refine wp_cond_true (HS25.get 22 rfl) ?_
            refine wp_seq ?_
            have hLo : LOk [(0, 8, .val (.bool false))] := lok (by rfl) (by rfl)
            refine zI (wE := w18) (sz := 71) (n := 1) [0] [(48, .val (.slice (oa) (n) (cc))), (49, .val (.int .i64 ((n : Int)))), (17, .val (.slice (some ⟨gn, 0, none⟩) (7) (7))), (0, .val (.agg (FR () 6 ((p).sc)))), (1, .val (.agg (FR () 6 ((q).sc)))), (2, .val (.string (user))), (3, .val (.int .i64 (mine))), (4, .val (.pointer (some (⟨g1_0, 0, none⟩)))), (5, .val (.pointer (some (⟨g1_1, 0, none⟩)))), (18, .val (.int .i64 (7))), (19, .val (.int .i64 ((i : Int)))), (20, .val (.bool false)), (30, .val (.slice (some ⟨g7_0, 0, none⟩) (3) (3))), (31, .val (.int .i64 (3))), (32, .val (.int .i64 ((j : Int)))), (33, .val (.bool true)), (12, .val (.string (TN (j)))), (13, .val (.pointer (some (⟨g15_3, 0, none⟩)))), (14, .val (.pointer (some (⟨g16_3, 0, none⟩)))), (50, .val (.int .i64 ((k : Int)))), (51, .val (.bool true)), (16, .val (.pointer (some ⟨g24_2, 0, none⟩))), (68, .val (.bool true)), (8, .val (.bool false))] [(0, 8, .val (.bool false))] [⟨g24_2, none, none, (), 7, msc (catK x y (k)) (catM x y (k)), msc (catK x y (k)) (catM x y (k)), 44⟩] rfl (by rfl) HH25 rfl rfl hLo rfl HS25 (slS 0 rfl rfl (slS 1 rfl rfl (slS 2 rfl rfl (slS 3 rfl rfl (slS 4 rfl rfl (slS 5 rfl rfl (slS 6 rfl rfl (slS 7 rfl rfl (slS 8 rfl rfl (slS 9 rfl rfl (slS 10 rfl rfl (slS 11 rfl rfl (slS 12 rfl rfl (slS 13 rfl rfl (slS 14 rfl rfl (slS 15 rfl rfl (slS 16 rfl rfl (slS 17 rfl rfl (slS 18 rfl rfl (slS 19 rfl rfl (slS 20 rfl rfl (slS 21 rfl rfl (slS 22 rfl rfl (slL 0 (d := 0) rfl (trivial))))))))))))))))))))))))) ?_ ?_
            · show ∀ i ∈ [0], _
              refine zA (zC 0 _ rfl rfl hLo rfl rfl (fun _ _ _ _ => rfl) (fun b G w hb ho => zD (.inr rfl) (rfl))) ?_
              exact zF
            clear hLo
            intro G a26 w26 hS hH
            have HS26 : Sl a26 71 [(48, .slice (oa) (n) (cc)), (49, .int .i64 ((n : Int))), (17, .slice (some ⟨gn, 0, none⟩) (7) (7)), (0, .agg (FR () 6 ((p).sc))), (1, .agg (FR () 6 ((q).sc))), (2, .string (user)), (3, .int .i64 (mine)), (4, .pointer (some (⟨g1_0, 0, none⟩))), (5, .pointer (some (⟨g1_1, 0, none⟩))), (18, .int .i64 (7)), (19, .int .i64 ((i : Int))), (20, .bool false), (30, .slice (some ⟨g7_0, 0, none⟩) (3) (3)), (31, .int .i64 (3)), (32, .int .i64 ((j : Int))), (33, .bool true), (12, .string (TN (j))), (13, .pointer (some (⟨g15_3, 0, none⟩))), (14, .pointer (some (⟨g16_3, 0, none⟩))), (50, .int .i64 ((k : Int))), (51, .bool true), (16, .pointer (some ⟨g24_2, 0, none⟩)), (68, .bool true), (8, .bool false)] := hS
            have HH26 : Held w18 w26 [⟨g24_2, (), 7, msc (catK x y (k)) (catM x y (k)), 44⟩] := hH
            clear hS hH HS25 HH25
            refine then_ ?_
            refine wp_ret ?_
            repeat (first | refine zP ?_ | refine zL ?_)
            have HH27 := Held.back HH18 HH26
            have HH28 := Held.back HH16 HH27
            have HH29 := Held.back HH7 HH28
            have HH30 := Held.back HH3 HH29
            exact yI rfl HS26.2.1 (HS26.get 23 rfl) ⟨bool_ret (rchg_no2 hltj (by unfold rtabOk; rw [← hx, ← hy, ← hn]; exact allB_no hltk (rk_of hr4 (by rfl) hr5))), HH30.1⟩
          · skip
            refine wp_cond_false (HS25.get 22 rfl) ?_
            refine wp_skip ?_
            refine zQ ?_
            refine then_ ?_
            have hLo : LOk [(0, 69, .val (.int .i64 (((k + 1 : Nat) : Int)))), (1, 50, .val (.int .i64 (((k + 1 : Nat) : Int))))] := lok (by rfl) (by rfl)
            refine zI (wE := w18) (sz := 71) (n := 2) [0, 1] [(48, .val (.slice (oa) (n) (cc))), (49, .val (.int .i64 ((n : Int)))), (17, .val (.slice (some ⟨gn, 0, none⟩) (7) (7))), (0, .val (.agg (FR () 6 ((p).sc)))), (1, .val (.agg (FR () 6 ((q).sc)))), (2, .val (.string (user))), (3, .val (.int .i64 (mine))), (4, .val (.pointer (some (⟨g1_0, 0, none⟩)))), (5, .val (.pointer (some (⟨g1_1, 0, none⟩)))), (18, .val (.int .i64 (7))), (19, .val (.int .i64 ((i : Int)))), (20, .val (.bool false)), (30, .val (.slice (some ⟨g7_0, 0, none⟩) (3) (3))), (31, .val (.int .i64 (3))), (32, .val (.int .i64 ((j : Int)))), (33, .val (.bool true)), (12, .val (.string (TN (j)))), (13, .val (.pointer (some (⟨g15_3, 0, none⟩)))), (14, .val (.pointer (some (⟨g16_3, 0, none⟩)))), (51, .val (.bool true)), (16, .val (.pointer (some ⟨g24_2, 0, none⟩))), (68, .val (.bool false)), (50, .val (.int .i64 (((k + 1 : Nat) : Int))))] [(0, 69, .val (.int .i64 (((k + 1 : Nat) : Int)))), (1, 50, .val (.int .i64 (((k + 1 : Nat) : Int))))] [⟨g24_2, none, none, (), 7, msc (catK x y (k)) (catM x y (k)), msc (catK x y (k)) (catM x y (k)), 44⟩] rfl (by rfl) HH25 rfl rfl hLo rfl HS25 (slS 0 rfl rfl (slS 1 rfl rfl (slS 2 rfl rfl (slS 3 rfl rfl (slS 4 rfl rfl (slS 5 rfl rfl (slS 6 rfl rfl (slS 7 rfl rfl (slS 8 rfl rfl (slS 9 rfl rfl (slS 10 rfl rfl (slS 11 rfl rfl (slS 12 rfl rfl (slS 13 rfl rfl (slS 14 rfl rfl (slS 15 rfl rfl (slS 16 rfl rfl (slS 17 rfl rfl (slS 18 rfl rfl (slS 20 rfl rfl (slS 21 rfl rfl (slS 22 rfl rfl (slL 1 (d := 1) rfl (trivial)))))))))))))))))))))))) ?_ ?_
            · show ∀ i ∈ [0, 1], _
              refine zA (zC 0 _ rfl rfl hLo rfl rfl (fun _ _ _ _ => rfl) (fun b G w hb ho => zJ rfl (ev_pre hLo 1 rfl (ho 1 (by rfl)) (HS25.get 19 rfl)) (rfl) (rb_add (w_nat (by omega) (by omega)) _ _ _))) ?_
              refine zA (zC 1 _ rfl rfl hLo rfl rfl (fun _ _ _ _ => rfl) (fun b G w hb ho => zD (.inl rfl) (zB hLo 0 rfl HS25.1 rfl (hb 0 (by rfl))))) ?_
              exact zF
            clear hLo
            intro G a31 w31 hS hH
            have HS31 : Sl a31 71 [(48, .slice (oa) (n) (cc)), (49, .int .i64 ((n : Int))), (17, .slice (some ⟨gn, 0, none⟩) (7) (7)), (0, .agg (FR () 6 ((p).sc))), (1, .agg (FR () 6 ((q).sc))), (2, .string (user)), (3, .int .i64 (mine)), (4, .pointer (some (⟨g1_0, 0, none⟩))), (5, .pointer (some (⟨g1_1, 0, none⟩))), (18, .int .i64 (7)), (19, .int .i64 ((i : Int))), (20, .bool false), (30, .slice (some ⟨g7_0, 0, none⟩) (3) (3)), (31, .int .i64 (3)), (32, .int .i64 ((j : Int))), (33, .bool true), (12, .string (TN (j))), (13, .pointer (some (⟨g15_3, 0, none⟩))), (14, .pointer (some (⟨g16_3, 0, none⟩))), (51, .bool true), (16, .pointer (some ⟨g24_2, 0, none⟩)), (68, .bool false), (50, .int .i64 (((k + 1 : Nat) : Int)))] := hS
            have HH31 : Held w18 w31 [⟨g24_2, (), 7, msc (catK x y (k)) (catM x y (k)), 44⟩] := hH
            clear hS hH HS25 HH25
            refine then_ ?_
            have hSq2' : Sl _ 71 [(48, .slice (oa) (n) (cc)), (49, .int .i64 ((n : Int))), (17, .slice (some ⟨gn, 0, none⟩) (7) (7)), (0, .agg (FR () 6 ((p).sc))), (1, .agg (FR () 6 ((q).sc))), (2, .string (user)), (3, .int .i64 (mine)), (4, .pointer (some (⟨g1_0, 0, none⟩))), (5, .pointer (some (⟨g1_1, 0, none⟩))), (18, .int .i64 (7)), (19, .int .i64 ((i : Int))), (20, .bool false), (30, .slice (some ⟨g7_0, 0, none⟩) (3) (3)), (31, .int .i64 (3)), (32, .int .i64 ((j : Int))), (33, .bool true), (12, .string (TN (j))), (13, .pointer (some (⟨g15_3, 0, none⟩))), (14, .pointer (some (⟨g16_3, 0, none⟩))), (50, .int .i64 (((k + 1 : Nat) : Int)))] := yB HS31 [0, 1, 2, 3, 4, 5, 6, 7, 8, 9, 10, 11, 12, 13, 14, 15, 16, 17, 18, 22] (by rfl)
            have hHq2' : Held w18 _ [] := yC HH31 0 rfl
            exact ⟨⟨k + 1, by omega, allB_step hpk (rk_of hr4 (by rfl) hr5), hSq2', hHq2'⟩, by rw [(hSq2'.get 19 rfl)]; show n - (((k + 1 : Nat) : Int)).toNat < n - k; omega⟩
        · skip
          obtain ⟨r6, hr6⟩ : ∃ r : Bool, (!decide ((catK x y (k) : ByteArray) = user)) = r := ⟨_, rfl⟩
          obtain ⟨r7, hr7⟩ : ∃ r : Bool, (turnsB x y (catK x y (k)) mine (r6)) = r := ⟨_, rfl⟩
          refine wp_seq ?_
          have hLo : LOk [(0, 54, .val (.agg (FR () 6 ((x).sc)))), (1, 55, .val (.agg (FR () 6 ((y).sc)))), (2, 56, .val (.pointer (some ⟨g24_2, 0, none⟩))), (3, 57, .val (.string (catK x y (k)))), (4, 58, .val (.int .i64 (mine))), (5, 59, .val (.string (TN (j)))), (6, 60, .val (.bool true)), (7, 61, .val (.bool true)), (8, 62, .val (.pointer (some ⟨g24_2, 0, none⟩))), (9, 63, .val (.string (catK x y (k)))), (10, 64, .val (.string (user))), (11, 65, .val (.bool r6)), (12, 66, .val (.bool r6)), (13, 67, .val (.bool r7)), (14, 68, .val (.bool (!r7)))] := lok (by rfl) (by rfl)
          refine zI (wE := w18) (sz := 71) (n := 15) [0, 1, 3, 7, 15, 31, 63, 127, 255, 511, 1023, 2047, 4095, 8191, 16383] [(48, .val (.slice (oa) (n) (cc))), (49, .val (.int .i64 ((n : Int)))), (17, .val (.slice (some ⟨gn, 0, none⟩) (7) (7))), (0, .val (.agg (FR () 6 ((p).sc)))), (1, .val (.agg (FR () 6 ((q).sc)))), (2, .val (.string (user))), (3, .val (.int .i64 (mine))), (4, .val (.pointer (some (⟨g1_0, 0, none⟩)))), (5, .val (.pointer (some (⟨g1_1, 0, none⟩)))), (18, .val (.int .i64 (7))), (19, .val (.int .i64 ((i : Int)))), (20, .val (.bool false)), (30, .val (.slice (some ⟨g7_0, 0, none⟩) (3) (3))), (31, .val (.int .i64 (3))), (32, .val (.int .i64 ((j : Int)))), (33, .val (.bool true)), (12, .val (.string (TN (j)))), (13, .val (.pointer (some (⟨g15_3, 0, none⟩)))), (14, .val (.pointer (some (⟨g16_3, 0, none⟩)))), (50, .val (.int .i64 ((k : Int)))), (51, .val (.bool true)), (16, .val (.pointer (some ⟨g24_2, 0, none⟩))), (68, .val (.bool (!r7)))] [(0, 54, .val (.agg (FR () 6 ((x).sc)))), (1, 55, .val (.agg (FR () 6 ((y).sc)))), (2, 56, .val (.pointer (some ⟨g24_2, 0, none⟩))), (3, 57, .val (.string (catK x y (k)))), (4, 58, .val (.int .i64 (mine))), (5, 59, .val (.string (TN (j)))), (6, 60, .val (.bool true)), (7, 61, .val (.bool true)), (8, 62, .val (.pointer (some ⟨g24_2, 0, none⟩))), (9, 63, .val (.string (catK x y (k)))), (10, 64, .val (.string (user))), (11, 65, .val (.bool r6)), (12, 66, .val (.bool r6)), (13, 67, .val (.bool r7)), (14, 68, .val (.bool (!r7)))] [⟨g24_2, none, none, (), 7, msc (catK x y (k)) (catM x y (k)), msc (catK x y (k)) (catM x y (k)), 44⟩] rfl (by rfl) HH24 rfl rfl hLo rfl HS24 (slS 0 rfl rfl (slS 1 rfl rfl (slS 2 rfl rfl (slS 3 rfl rfl (slS 4 rfl rfl (slS 5 rfl rfl (slS 6 rfl rfl (slS 7 rfl rfl (slS 8 rfl rfl (slS 9 rfl rfl (slS 10 rfl rfl (slS 11 rfl rfl (slS 12 rfl rfl (slS 13 rfl rfl (slS 14 rfl rfl (slS 15 rfl rfl (slS 16 rfl rfl (slS 17 rfl rfl (slS 18 rfl rfl (slS 19 rfl rfl (slS 20 rfl rfl (slS 21 rfl rfl (slL 14 (d := 14) rfl (trivial)))))))))))))))))))))))) ?_ ?_
          · show ∀ i ∈ [0, 1, 2, 3, 4, 5, 6, 7, 8, 9, 10, 11, 12, 13, 14], _
            refine zA (st_at 0 (⟨g15_3, 0, none⟩) rfl rfl rfl (fun _ _ _ _ => rfl) hLo rfl rfl Tryd.underlying25 (by kernel_rfl) rfl (row_at hRow17_0_19) (fun b G hb ho => zG rfl (HS24.get 17 rfl))) ?_
            refine zA (st_at 1 (⟨g16_3, 0, none⟩) rfl rfl rfl (fun _ _ _ _ => rfl) hLo rfl rfl Tryd.underlying25 (by kernel_rfl) rfl (row_at hRow17_1_19) (fun b G hb ho => zG rfl (HS24.get 18 rfl))) ?_
            refine zA (zC 2 _ rfl rfl hLo rfl rfl (fun _ _ _ _ => rfl) (fun b G w hb ho => zN rfl (zG rfl (HS24.get 21 rfl)) (by kernel_rfl))) ?_
            refine zA (zY 3 0 _ _ rfl rfl rfl hLo rfl rfl (fun _ _ _ _ => rfl) (by rfl) (by rfl) (fun b G w hb ho hr => zR hr (Nat.le_of_ble_eq_true rfl) Tryd.underlying9 rfl rfl (zB hLo 2 rfl HS24.1 rfl (hb 2 (by rfl))))) ?_
            refine zA (zC 4 _ rfl rfl hLo rfl rfl (fun _ _ _ _ => rfl) (fun b G w hb ho => zD (.inl rfl) (zG rfl (HS24.get 6 rfl)))) ?_
            refine zA (zC 5 _ rfl rfl hLo rfl rfl (fun _ _ _ _ => rfl) (fun b G w hb ho => zD (.inl rfl) (zG rfl (HS24.get 16 rfl)))) ?_
            refine zA (zC 6 _ rfl rfl hLo rfl rfl (fun _ _ _ _ => rfl) (fun b G w hb ho => zJ rfl (zB hLo 5 rfl HS24.1 rfl (hb 5 (by rfl))) (rfl) (rb_seql hr4 _ _ _))) ?_
            refine zA (zC 7 _ rfl rfl hLo rfl rfl (fun _ _ _ _ => rfl) (fun b G w hb ho => zD (.inl rfl) (zB hLo 6 rfl HS24.1 rfl (hb 6 (by rfl))))) ?_
            refine zA (zC 8 _ rfl rfl hLo rfl rfl (fun b G hb ho => zE rfl rfl rfl HS24.1 rfl (zB hLo 7 rfl HS24.1 rfl (hb 7 (by rfl))) rfl) (fun b G w hb ho => zN rfl (zG rfl (HS24.get 21 rfl)) (by kernel_rfl))) ?_
            refine zA (zY 9 0 _ _ rfl rfl rfl hLo rfl rfl (fun b G hb ho => zE rfl rfl rfl HS24.1 rfl (zB hLo 7 rfl HS24.1 rfl (hb 7 (by rfl))) rfl) (by rfl) (by rfl) (fun b G w hb ho hr => zR hr (Nat.le_of_ble_eq_true rfl) Tryd.underlying9 rfl rfl (zB hLo 8 rfl HS24.1 rfl (hb 8 (by rfl))))) ?_
            refine zA (zC 10 _ rfl rfl hLo rfl rfl (fun b G hb ho => zE rfl rfl rfl HS24.1 rfl (zB hLo 7 rfl HS24.1 rfl (hb 7 (by rfl))) rfl) (fun b G w hb ho => zD (.inl rfl) (zG rfl (HS24.get 5 rfl)))) ?_
            refine zA (zC 11 _ rfl rfl hLo rfl rfl (fun b G hb ho => zE rfl rfl rfl HS24.1 rfl (zB hLo 7 rfl HS24.1 rfl (hb 7 (by rfl))) rfl) (fun b G w hb ho => zJ rfl (zB hLo 9 rfl HS24.1 rfl (hb 9 (by rfl))) (zB hLo 10 rfl HS24.1 rfl (hb 10 (by rfl))) (rb_sneq hr6 _ _ _))) ?_
            refine zA (zC 12 _ rfl rfl hLo rfl rfl (fun _ _ _ _ => rfl) (fun b G w hb ho => zK rfl (zB hLo 7 rfl HS24.1 rfl (hb 7 (by rfl))) (zB hLo 11 rfl HS24.1 rfl (hb 11 (by rfl))))) ?_
            refine zA (zV 13 _ #[.agg (FR () 6 ((x).sc)), .agg (FR () 6 ((y).sc)), .string (catK x y (k)), .int .i64 (mine), .bool r6] rfl rfl rfl (fun _ _ _ _ => rfl) hLo rfl rfl Tryd.func36 rfl rfl (fun b G hb ho => args5 (zB hLo 0 rfl HS24.1 rfl (hb 0 (by rfl))) (zB hLo 1 rfl HS24.1 rfl (hb 1 (by rfl))) (zB hLo 3 rfl HS24.1 rfl (hb 3 (by rfl))) (zB hLo 4 rfl HS24.1 rfl (hb 4 (by rfl))) (zB hLo 12 rfl HS24.1 rfl (hb 12 (by rfl)))) (fun w hw => (by have hq := turns_calls (a := x) (b := y) (catK x y (k)) mine (r6) (hInx_19.below hw) (hIny_19.below hw); rw [hr7] at hq; exact hq))) ?_
            refine zA (zC 14 _ rfl rfl hLo rfl rfl (fun _ _ _ _ => rfl) (fun b G w hb ho => yJ rfl (zB hLo 13 rfl HS24.1 rfl (hb 13 (by rfl))) (ru_not _))) ?_
            exact zF
          clear hLo
          intro G a32 w32 hS hH
          have HS32 : Sl a32 71 [(48, .slice (oa) (n) (cc)), (49, .int .i64 ((n : Int))), (17, .slice (some ⟨gn, 0, none⟩) (7) (7)), (0, .agg (FR () 6 ((p).sc))), (1, .agg (FR () 6 ((q).sc))), (2, .string (user)), (3, .int .i64 (mine)), (4, .pointer (some (⟨g1_0, 0, none⟩))), (5, .pointer (some (⟨g1_1, 0, none⟩))), (18, .int .i64 (7)), (19, .int .i64 ((i : Int))), (20, .bool false), (30, .slice (some ⟨g7_0, 0, none⟩) (3) (3)), (31, .int .i64 (3)), (32, .int .i64 ((j : Int))), (33, .bool true), (12, .string (TN (j))), (13, .pointer (some (⟨g15_3, 0, none⟩))), (14, .pointer (some (⟨g16_3, 0, none⟩))), (50, .int .i64 ((k : Int))), (51, .bool true), (16, .pointer (some ⟨g24_2, 0, none⟩)), (68, .bool (!r7))] := hS
          have HH32 : Held w18 w32 [⟨g24_2, (), 7, msc (catK x y (k)) (catM x y (k)), 44⟩] := hH
          clear hS hH HS24 HH24
          refine then_ ?_
          cases r7
          · skip
            refine wp_cond_true (HS32.get 22 rfl) ?_
            refine wp_seq ?_
            have hLo : LOk [(0, 8, .val (.bool false))] := lok (by rfl) (by rfl)
            refine zI (wE := w18) (sz := 71) (n := 1) [0] [(48, .val (.slice (oa) (n) (cc))), (49, .val (.int .i64 ((n : Int)))), (17, .val (.slice (some ⟨gn, 0, none⟩) (7) (7))), (0, .val (.agg (FR () 6 ((p).sc)))), (1, .val (.agg (FR () 6 ((q).sc)))), (2, .val (.string (user))), (3, .val (.int .i64 (mine))), (4, .val (.pointer (some (⟨g1_0, 0, none⟩)))), (5, .val (.pointer (some (⟨g1_1, 0, none⟩)))), (18, .val (.int .i64 (7))), (19, .val (.int .i64 ((i : Int)))), (20, .val (.bool false)), (30, .val (.slice (some ⟨g7_0, 0, none⟩) (3) (3))), (31, .val (.int .i64 (3))), (32, .val (.int .i64 ((j : Int)))), (33, .val (.bool true)), (12, .val (.string (TN (j)))), (13, .val (.pointer (some (⟨g15_3, 0, none⟩)))), (14, .val (.pointer (some (⟨g16_3, 0, none⟩)))), (50, .val (.int .i64 ((k : Int)))), (51, .val (.bool true)), (16, .val (.pointer (some ⟨g24_2, 0, none⟩))), (68, .val (.bool true)), (8, .val (.bool false))] [(0, 8, .val (.bool false))] [⟨g24_2, none, none, (), 7, msc (catK x y (k)) (catM x y (k)), msc (catK x y (k)) (catM x y (k)), 44⟩] rfl (by rfl) HH32 rfl rfl hLo rfl HS32 (slS 0 rfl rfl (slS 1 rfl rfl (slS 2 rfl rfl (slS 3 rfl rfl (slS 4 rfl rfl (slS 5 rfl rfl (slS 6 rfl rfl (slS 7 rfl rfl (slS 8 rfl rfl (slS 9 rfl rfl (slS 10 rfl rfl (slS 11 rfl rfl (slS 12 rfl rfl (slS 13 rfl rfl (slS 14 rfl rfl (slS 15 rfl rfl (slS 16 rfl rfl (slS 17 rfl rfl (slS 18 rfl rfl (slS 19 rfl rfl (slS 20 rfl rfl (slS 21 rfl rfl (slS 22 rfl rfl (slL 0 (d := 0) rfl (trivial))))))))))))))))))))))))) ?_ ?_
            · show ∀ i ∈ [0], _
              refine zA (zC 0 _ rfl rfl hLo rfl rfl (fun _ _ _ _ => rfl) (fun b G w hb ho => zD (.inr rfl) (rfl))) ?_
              exact zF
            clear hLo
            intro G a33 w33 hS hH
            have HS33 : Sl a33 71 [(48, .slice (oa) (n) (cc)), (49, .int .i64 ((n : Int))), (17, .slice (some ⟨gn, 0, none⟩) (7) (7)), (0, .agg (FR () 6 ((p).sc))), (1, .agg (FR () 6 ((q).sc))), (2, .string (user)), (3, .int .i64 (mine)), (4, .pointer (some (⟨g1_0, 0, none⟩))), (5, .pointer (some (⟨g1_1, 0, none⟩))), (18, .int .i64 (7)), (19, .int .i64 ((i : Int))), (20, .bool false), (30, .slice (some ⟨g7_0, 0, none⟩) (3) (3)), (31, .int .i64 (3)), (32, .int .i64 ((j : Int))), (33, .bool true), (12, .string (TN (j))), (13, .pointer (some (⟨g15_3, 0, none⟩))), (14, .pointer (some (⟨g16_3, 0, none⟩))), (50, .int .i64 ((k : Int))), (51, .bool true), (16, .pointer (some ⟨g24_2, 0, none⟩)), (68, .bool true), (8, .bool false)] := hS
            have HH33 : Held w18 w33 [⟨g24_2, (), 7, msc (catK x y (k)) (catM x y (k)), 44⟩] := hH
            clear hS hH HS32 HH32
            refine then_ ?_
            refine wp_ret ?_
            repeat (first | refine zP ?_ | refine zL ?_)
            have HH34 := Held.back HH18 HH33
            have HH35 := Held.back HH16 HH34
            have HH36 := Held.back HH7 HH35
            have HH37 := Held.back HH3 HH36
            exact yI rfl HS33.2.1 (HS33.get 23 rfl) ⟨bool_ret (rchg_no2 hltj (by unfold rtabOk; rw [← hx, ← hy, ← hn]; exact allB_no hltk (rk_of hr4 (by rw [hr6]; rfl) hr7))), HH37.1⟩
          · skip
            refine wp_cond_false (HS32.get 22 rfl) ?_
            refine wp_skip ?_
            refine zQ ?_
            refine then_ ?_
            have hLo : LOk [(0, 69, .val (.int .i64 (((k + 1 : Nat) : Int)))), (1, 50, .val (.int .i64 (((k + 1 : Nat) : Int))))] := lok (by rfl) (by rfl)
            refine zI (wE := w18) (sz := 71) (n := 2) [0, 1] [(48, .val (.slice (oa) (n) (cc))), (49, .val (.int .i64 ((n : Int)))), (17, .val (.slice (some ⟨gn, 0, none⟩) (7) (7))), (0, .val (.agg (FR () 6 ((p).sc)))), (1, .val (.agg (FR () 6 ((q).sc)))), (2, .val (.string (user))), (3, .val (.int .i64 (mine))), (4, .val (.pointer (some (⟨g1_0, 0, none⟩)))), (5, .val (.pointer (some (⟨g1_1, 0, none⟩)))), (18, .val (.int .i64 (7))), (19, .val (.int .i64 ((i : Int)))), (20, .val (.bool false)), (30, .val (.slice (some ⟨g7_0, 0, none⟩) (3) (3))), (31, .val (.int .i64 (3))), (32, .val (.int .i64 ((j : Int)))), (33, .val (.bool true)), (12, .val (.string (TN (j)))), (13, .val (.pointer (some (⟨g15_3, 0, none⟩)))), (14, .val (.pointer (some (⟨g16_3, 0, none⟩)))), (51, .val (.bool true)), (16, .val (.pointer (some ⟨g24_2, 0, none⟩))), (68, .val (.bool false)), (50, .val (.int .i64 (((k + 1 : Nat) : Int))))] [(0, 69, .val (.int .i64 (((k + 1 : Nat) : Int)))), (1, 50, .val (.int .i64 (((k + 1 : Nat) : Int))))] [⟨g24_2, none, none, (), 7, msc (catK x y (k)) (catM x y (k)), msc (catK x y (k)) (catM x y (k)), 44⟩] rfl (by rfl) HH32 rfl rfl hLo rfl HS32 (slS 0 rfl rfl (slS 1 rfl rfl (slS 2 rfl rfl (slS 3 rfl rfl (slS 4 rfl rfl (slS 5 rfl rfl (slS 6 rfl rfl (slS 7 rfl rfl (slS 8 rfl rfl (slS 9 rfl rfl (slS 10 rfl rfl (slS 11 rfl rfl (slS 12 rfl rfl (slS 13 rfl rfl (slS 14 rfl rfl (slS 15 rfl rfl (slS 16 rfl rfl (slS 17 rfl rfl (slS 18 rfl rfl (slS 20 rfl rfl (slS 21 rfl rfl (slS 22 rfl rfl (slL 1 (d := 1) rfl (trivial)))))))))))))))))))))))) ?_ ?_
            · show ∀ i ∈ [0, 1], _
              refine zA (zC 0 _ rfl rfl hLo rfl rfl (fun _ _ _ _ => rfl) (fun b G w hb ho => zJ rfl (ev_pre hLo 1 rfl (ho 1 (by rfl)) (HS32.get 19 rfl)) (rfl) (rb_add (w_nat (by omega) (by omega)) _ _ _))) ?_
              refine zA (zC 1 _ rfl rfl hLo rfl rfl (fun _ _ _ _ => rfl) (fun b G w hb ho => zD (.inl rfl) (zB hLo 0 rfl HS32.1 rfl (hb 0 (by rfl))))) ?_
              exact zF
            clear hLo
            intro G a38 w38 hS hH
            have HS38 : Sl a38 71 [(48, .slice (oa) (n) (cc)), (49, .int .i64 ((n : Int))), (17, .slice (some ⟨gn, 0, none⟩) (7) (7)), (0, .agg (FR () 6 ((p).sc))), (1, .agg (FR () 6 ((q).sc))), (2, .string (user)), (3, .int .i64 (mine)), (4, .pointer (some (⟨g1_0, 0, none⟩))), (5, .pointer (some (⟨g1_1, 0, none⟩))), (18, .int .i64 (7)), (19, .int .i64 ((i : Int))), (20, .bool false), (30, .slice (some ⟨g7_0, 0, none⟩) (3) (3)), (31, .int .i64 (3)), (32, .int .i64 ((j : Int))), (33, .bool true), (12, .string (TN (j))), (13, .pointer (some (⟨g15_3, 0, none⟩))), (14, .pointer (some (⟨g16_3, 0, none⟩))), (51, .bool true), (16, .pointer (some ⟨g24_2, 0, none⟩)), (68, .bool false), (50, .int .i64 (((k + 1 : Nat) : Int)))] := hS
            have HH38 : Held w18 w38 [⟨g24_2, (), 7, msc (catK x y (k)) (catM x y (k)), 44⟩] := hH
            clear hS hH HS32 HH32
            refine then_ ?_
            have hSq2' : Sl _ 71 [(48, .slice (oa) (n) (cc)), (49, .int .i64 ((n : Int))), (17, .slice (some ⟨gn, 0, none⟩) (7) (7)), (0, .agg (FR () 6 ((p).sc))), (1, .agg (FR () 6 ((q).sc))), (2, .string (user)), (3, .int .i64 (mine)), (4, .pointer (some (⟨g1_0, 0, none⟩))), (5, .pointer (some (⟨g1_1, 0, none⟩))), (18, .int .i64 (7)), (19, .int .i64 ((i : Int))), (20, .bool false), (30, .slice (some ⟨g7_0, 0, none⟩) (3) (3)), (31, .int .i64 (3)), (32, .int .i64 ((j : Int))), (33, .bool true), (12, .string (TN (j))), (13, .pointer (some (⟨g15_3, 0, none⟩))), (14, .pointer (some (⟨g16_3, 0, none⟩))), (50, .int .i64 (((k + 1 : Nat) : Int)))] := yB HS38 [0, 1, 2, 3, 4, 5, 6, 7, 8, 9, 10, 11, 12, 13, 14, 15, 16, 17, 18, 22] (by rfl)
            have hHq2' : Held w18 _ [] := yC HH38 0 rfl
            exact ⟨⟨k + 1, by omega, allB_step hpk (rk_of hr4 (by rw [hr6]; rfl) hr7), hSq2', hHq2'⟩, by rw [(hSq2'.get 19 rfl)]; show n - (((k + 1 : Nat) : Int)).toNat < n - k; omega⟩
  · skip
    have hlti : i < 7 := by have := of_decide_eq_true hr1; omega
    refine wp_cond_true (HS6.get 9 rfl) ?_
    refine wp_skip ?_
    refine then_ ?_
    refine wp_seq ?_
    refine wp_block ?_
    obtain ⟨xi, hxi, hci⟩ := hNM i hlti
    refine wp_seq ?_
    have hLo : LOk [(0, 21, .val (.pointer (some (xi.add ((i) * 1))))), (1, 22, .val (.string (NM (i)))), (2, 10, .val (.string (NM (i))))] := lok (by rfl) (by rfl)
    refine zI (wE := w2) (sz := 71) (n := 3) [0, 1, 3] [(17, .val (.slice (some ⟨gn, 0, none⟩) (7) (7))), (0, .val (.agg (FR () 6 ((p).sc)))), (1, .val (.agg (FR () 6 ((q).sc)))), (2, .val (.string (user))), (3, .val (.int .i64 (mine))), (4, .val (.pointer (some (⟨g1_0, 0, none⟩)))), (5, .val (.pointer (some (⟨g1_1, 0, none⟩)))), (18, .val (.int .i64 (7))), (19, .val (.int .i64 ((i : Int)))), (20, .val (.bool true)), (10, .val (.string (NM (i))))] [(0, 21, .val (.pointer (some (xi.add ((i) * 1))))), (1, 22, .val (.string (NM (i)))), (2, 10, .val (.string (NM (i))))] [] rfl (by rfl) HH6 rfl rfl hLo rfl HS6 (slS 0 rfl rfl (slS 1 rfl rfl (slS 2 rfl rfl (slS 3 rfl rfl (slS 4 rfl rfl (slS 5 rfl rfl (slS 6 rfl rfl (slS 7 rfl rfl (slS 8 rfl rfl (slS 9 rfl rfl (slL 2 (d := 2) rfl (trivial)))))))))))) ?_ ?_
    · show ∀ i ∈ [0, 1, 2], _
      refine zA (zC 0 _ rfl rfl hLo rfl rfl (fun _ _ _ _ => rfl) (fun b G w hb ho => zX rfl (zG rfl (HS6.get 0 rfl)) (zG rfl (HS6.get 8 rfl)) (index_sl Tryd.underlying54 (by kernel_rfl) hxi hlti _))) ?_
      refine zA (st_at1 1 (xi.add ((i) * 1)) _ rfl rfl rfl (fun _ _ _ _ => rfl) hLo rfl rfl Tryd.underlying9 rfl (hci) (fun b G hb ho => zB hLo 0 rfl HS6.1 rfl (hb 0 (by rfl)))) ?_
      refine zA (zC 2 _ rfl rfl hLo rfl rfl (fun _ _ _ _ => rfl) (fun b G w hb ho => zD (.inr rfl) (zB hLo 1 rfl HS6.1 rfl (hb 1 (by rfl))))) ?_
      exact zF
    clear hLo
    intro G a39 w39 hS hH
    have HS39 : Sl a39 71 [(17, .slice (some ⟨gn, 0, none⟩) (7) (7)), (0, .agg (FR () 6 ((p).sc))), (1, .agg (FR () 6 ((q).sc))), (2, .string (user)), (3, .int .i64 (mine)), (4, .pointer (some (⟨g1_0, 0, none⟩))), (5, .pointer (some (⟨g1_1, 0, none⟩))), (18, .int .i64 (7)), (19, .int .i64 ((i : Int))), (20, .bool true), (10, .string (NM (i)))] := hS
    have HH39 : Held w2 w39 [] := hH
    clear hS hH HS6 HH6
    refine then_ ?_
    obtain ⟨r8, hr8⟩ : ∃ r : Bool, (turnsB p q (NM (i)) mine (false)) = r := ⟨_, rfl⟩
    refine wp_seq ?_
    have hLo : LOk [(0, 23, .val (.agg (FR () 6 ((p).sc)))), (1, 24, .val (.agg (FR () 6 ((q).sc)))), (2, 25, .val (.string (NM (i)))), (3, 26, .val (.int .i64 (mine))), (4, 27, .val (.bool r8)), (5, 28, .val (.bool (!r8)))] := lok (by rfl) (by rfl)
    refine zI (wE := w2) (sz := 71) (n := 6) [0, 1, 3, 7, 15, 31] [(17, .val (.slice (some ⟨gn, 0, none⟩) (7) (7))), (0, .val (.agg (FR () 6 ((p).sc)))), (1, .val (.agg (FR () 6 ((q).sc)))), (2, .val (.string (user))), (3, .val (.int .i64 (mine))), (4, .val (.pointer (some (⟨g1_0, 0, none⟩)))), (5, .val (.pointer (some (⟨g1_1, 0, none⟩)))), (18, .val (.int .i64 (7))), (19, .val (.int .i64 ((i : Int)))), (20, .val (.bool true)), (10, .val (.string (NM (i)))), (28, .val (.bool (!r8)))] [(0, 23, .val (.agg (FR () 6 ((p).sc)))), (1, 24, .val (.agg (FR () 6 ((q).sc)))), (2, 25, .val (.string (NM (i)))), (3, 26, .val (.int .i64 (mine))), (4, 27, .val (.bool r8)), (5, 28, .val (.bool (!r8)))] [] rfl (by rfl) HH39 rfl rfl hLo rfl HS39 (slS 0 rfl rfl (slS 1 rfl rfl (slS 2 rfl rfl (slS 3 rfl rfl (slS 4 rfl rfl (slS 5 rfl rfl (slS 6 rfl rfl (slS 7 rfl rfl (slS 8 rfl rfl (slS 9 rfl rfl (slS 10 rfl rfl (slL 5 (d := 5) rfl (trivial))))))))))))) ?_ ?_
    · show ∀ i ∈ [0, 1, 2, 3, 4, 5], _
      refine zA (st_at 0 (⟨g1_0, 0, none⟩) rfl rfl rfl (fun _ _ _ _ => rfl) hLo rfl rfl Tryd.underlying25 (by kernel_rfl) rfl (row_at hRow4_0) (fun b G hb ho => zG rfl (HS39.get 5 rfl))) ?_
      refine zA (st_at 1 (⟨g1_1, 0, none⟩) rfl rfl rfl (fun _ _ _ _ => rfl) hLo rfl rfl Tryd.underlying25 (by kernel_rfl) rfl (row_at hRow4_1) (fun b G hb ho => zG rfl (HS39.get 6 rfl))) ?_
      refine zA (zC 2 _ rfl rfl hLo rfl rfl (fun _ _ _ _ => rfl) (fun b G w hb ho => zD (.inl rfl) (zG rfl (HS39.get 10 rfl)))) ?_
      refine zA (zC 3 _ rfl rfl hLo rfl rfl (fun _ _ _ _ => rfl) (fun b G w hb ho => zD (.inl rfl) (zG rfl (HS39.get 4 rfl)))) ?_
      refine zA (zV 4 _ #[.agg (FR () 6 ((p).sc)), .agg (FR () 6 ((q).sc)), .string (NM (i)), .int .i64 (mine), .bool false] rfl rfl rfl (fun _ _ _ _ => rfl) hLo rfl rfl Tryd.func36 rfl rfl (fun b G hb ho => args5 (zB hLo 0 rfl HS39.1 rfl (hb 0 (by rfl))) (zB hLo 1 rfl HS39.1 rfl (hb 1 (by rfl))) (zB hLo 2 rfl HS39.1 rfl (hb 2 (by rfl))) (zB hLo 3 rfl HS39.1 rfl (hb 3 (by rfl))) (rfl)) (fun w hw => (by have hq := turns_calls (a := p) (b := q) (NM (i)) mine (false) (hInp_4.below hw) (hInq_4.below hw); rw [hr8] at hq; exact hq))) ?_
      refine zA (zC 5 _ rfl rfl hLo rfl rfl (fun _ _ _ _ => rfl) (fun b G w hb ho => yJ rfl (zB hLo 4 rfl HS39.1 rfl (hb 4 (by rfl))) (ru_not _))) ?_
      exact zF
    clear hLo
    intro G a40 w40 hS hH
    have HS40 : Sl a40 71 [(17, .slice (some ⟨gn, 0, none⟩) (7) (7)), (0, .agg (FR () 6 ((p).sc))), (1, .agg (FR () 6 ((q).sc))), (2, .string (user)), (3, .int .i64 (mine)), (4, .pointer (some (⟨g1_0, 0, none⟩))), (5, .pointer (some (⟨g1_1, 0, none⟩))), (18, .int .i64 (7)), (19, .int .i64 ((i : Int))), (20, .bool true), (10, .string (NM (i))), (28, .bool (!r8))] := hS
    have HH40 : Held w2 w40 [] := hH
    clear hS hH HS39 HH39
    refine then_ ?_
    cases r8
    · skip
      refine wp_cond_true (HS40.get 11 rfl) ?_
      refine wp_seq ?_
      have hLo : LOk [(0, 8, .val (.bool false))] := lok (by rfl) (by rfl)
      refine zI (wE := w2) (sz := 71) (n := 1) [0] [(17, .val (.slice (some ⟨gn, 0, none⟩) (7) (7))), (0, .val (.agg (FR () 6 ((p).sc)))), (1, .val (.agg (FR () 6 ((q).sc)))), (2, .val (.string (user))), (3, .val (.int .i64 (mine))), (4, .val (.pointer (some (⟨g1_0, 0, none⟩)))), (5, .val (.pointer (some (⟨g1_1, 0, none⟩)))), (18, .val (.int .i64 (7))), (19, .val (.int .i64 ((i : Int)))), (20, .val (.bool true)), (10, .val (.string (NM (i)))), (28, .val (.bool true)), (8, .val (.bool false))] [(0, 8, .val (.bool false))] [] rfl (by rfl) HH40 rfl rfl hLo rfl HS40 (slS 0 rfl rfl (slS 1 rfl rfl (slS 2 rfl rfl (slS 3 rfl rfl (slS 4 rfl rfl (slS 5 rfl rfl (slS 6 rfl rfl (slS 7 rfl rfl (slS 8 rfl rfl (slS 9 rfl rfl (slS 10 rfl rfl (slS 11 rfl rfl (slL 0 (d := 0) rfl (trivial)))))))))))))) ?_ ?_
      · show ∀ i ∈ [0], _
        refine zA (zC 0 _ rfl rfl hLo rfl rfl (fun _ _ _ _ => rfl) (fun b G w hb ho => zD (.inr rfl) (rfl))) ?_
        exact zF
      clear hLo
      intro G a41 w41 hS hH
      have HS41 : Sl a41 71 [(17, .slice (some ⟨gn, 0, none⟩) (7) (7)), (0, .agg (FR () 6 ((p).sc))), (1, .agg (FR () 6 ((q).sc))), (2, .string (user)), (3, .int .i64 (mine)), (4, .pointer (some (⟨g1_0, 0, none⟩))), (5, .pointer (some (⟨g1_1, 0, none⟩))), (18, .int .i64 (7)), (19, .int .i64 ((i : Int))), (20, .bool true), (10, .string (NM (i))), (28, .bool true), (8, .bool false)] := hS
      have HH41 : Held w2 w41 [] := hH
      clear hS hH HS40 HH40
      refine then_ ?_
      refine wp_ret ?_
      repeat (first | refine zP ?_ | refine zL ?_)
      have HH42 := Held.back HH3 HH41
      exact yI rfl HS41.2.1 (HS41.get 12 rfl) ⟨bool_ret (rchg_no1 hlti hr8), HH42.1⟩
    · skip
      refine wp_cond_false (HS40.get 11 rfl) ?_
      refine wp_skip ?_
      refine zQ ?_
      refine then_ ?_
      have hLo : LOk [(0, 29, .val (.int .i64 (((i + 1 : Nat) : Int)))), (1, 19, .val (.int .i64 (((i + 1 : Nat) : Int))))] := lok (by rfl) (by rfl)
      refine zI (wE := w2) (sz := 71) (n := 2) [0, 1] [(17, .val (.slice (some ⟨gn, 0, none⟩) (7) (7))), (0, .val (.agg (FR () 6 ((p).sc)))), (1, .val (.agg (FR () 6 ((q).sc)))), (2, .val (.string (user))), (3, .val (.int .i64 (mine))), (4, .val (.pointer (some (⟨g1_0, 0, none⟩)))), (5, .val (.pointer (some (⟨g1_1, 0, none⟩)))), (18, .val (.int .i64 (7))), (20, .val (.bool true)), (10, .val (.string (NM (i)))), (28, .val (.bool false)), (19, .val (.int .i64 (((i + 1 : Nat) : Int))))] [(0, 29, .val (.int .i64 (((i + 1 : Nat) : Int)))), (1, 19, .val (.int .i64 (((i + 1 : Nat) : Int))))] [] rfl (by rfl) HH40 rfl rfl hLo rfl HS40 (slS 0 rfl rfl (slS 1 rfl rfl (slS 2 rfl rfl (slS 3 rfl rfl (slS 4 rfl rfl (slS 5 rfl rfl (slS 6 rfl rfl (slS 7 rfl rfl (slS 9 rfl rfl (slS 10 rfl rfl (slS 11 rfl rfl (slL 1 (d := 1) rfl (trivial))))))))))))) ?_ ?_
      · show ∀ i ∈ [0, 1], _
        refine zA (zC 0 _ rfl rfl hLo rfl rfl (fun _ _ _ _ => rfl) (fun b G w hb ho => zJ rfl (ev_pre hLo 1 rfl (ho 1 (by rfl)) (HS40.get 8 rfl)) (rfl) (rb_add (w_nat (by omega) (by omega)) _ _ _))) ?_
        refine zA (zC 1 _ rfl rfl hLo rfl rfl (fun _ _ _ _ => rfl) (fun b G w hb ho => zD (.inl rfl) (zB hLo 0 rfl HS40.1 rfl (hb 0 (by rfl))))) ?_
        exact zF
      clear hLo
      intro G a43 w43 hS hH
      have HS43 : Sl a43 71 [(17, .slice (some ⟨gn, 0, none⟩) (7) (7)), (0, .agg (FR () 6 ((p).sc))), (1, .agg (FR () 6 ((q).sc))), (2, .string (user)), (3, .int .i64 (mine)), (4, .pointer (some (⟨g1_0, 0, none⟩))), (5, .pointer (some (⟨g1_1, 0, none⟩))), (18, .int .i64 (7)), (20, .bool true), (10, .string (NM (i))), (28, .bool false), (19, .int .i64 (((i + 1 : Nat) : Int)))] := hS
      have HH43 : Held w2 w43 [] := hH
      clear hS hH HS40 HH40
      refine then_ ?_
      have hSq0' : Sl _ 71 [(17, .slice (some ⟨gn, 0, none⟩) (7) (7)), (0, .agg (FR () 6 ((p).sc))), (1, .agg (FR () 6 ((q).sc))), (2, .string (user)), (3, .int .i64 (mine)), (4, .pointer (some (⟨g1_0, 0, none⟩))), (5, .pointer (some (⟨g1_1, 0, none⟩))), (18, .int .i64 (7)), (19, .int .i64 (((i + 1 : Nat) : Int)))] := yB HS43 [0, 1, 2, 3, 4, 5, 6, 7, 11] (by rfl)
      have hHq0' : Held w2 _ [] := yC HH43 0 rfl
      exact ⟨⟨i + 1, by omega, allB_step hpi (hr8), hSq0', hHq0'⟩, by rw [(hSq0'.get 8 rfl)]; show 7 - (((i + 1 : Nat) : Int)).toNat < 7 - i; omega⟩
theorem iterW_le {f : Nat → Int → Int} {n : Nat} (hf : ∀ i x, i < n → 0 ≤ x → x ≤ 4096 → 0 ≤ f i x → f i x + 1 ≤ x) : ∀ (k : Nat) (l : Int), k ≤ n → l ≤ 4096 → 0 ≤ iterW f n k l → iterW f n k l + k ≤ l
  | 0, l, _, _, h => by unfold iterW; omega
  | k + 1, l, hk, hl, h => by
    by_cases h0 : 0 ≤ l
    · have e : iterW f n (k + 1) l = iterW f n k (f (n - (k + 1)) l) := by
        show (if 0 ≤ l then iterW f n k (f (n - (k + 1)) l) else l) = _
        rw [if_pos h0]
      rw [e] at h ⊢
      by_cases h1 : 0 ≤ f (n - (k + 1)) l
      · have h2 := hf (n - (k + 1)) l (by omega) h0 hl h1
        have h3 := iterW_le hf k _ (by omega) (by omega) h
        omega
      · rw [iterW_stop h1] at h; omega
    · rw [iterW_stop h0] at h; omega
theorem iterW_all {f : Nat → Int → Int} {n : Nat} (hf : ∀ i x, i < n → 0 ≤ x → x ≤ 4096 → 0 ≤ f i x → f i x + 1 ≤ x) : ∀ (k : Nat) (l : Int), k ≤ n → l ≤ 4096 → 0 ≤ iterW f n k l → ∀ i, n - k ≤ i → i < n → ∃ x, 0 ≤ x ∧ x ≤ 4096 ∧ 0 ≤ f i x
  | 0, l, _, _, h => fun i h1 h2 => by omega
  | k + 1, l, hk, hl, h => fun i h1 h2 => by
    by_cases h0 : 0 ≤ l
    · have e : iterW f n (k + 1) l = iterW f n k (f (n - (k + 1)) l) := by
        show (if 0 ≤ l then iterW f n k (f (n - (k + 1)) l) else l) = _
        rw [if_pos h0]
      rw [e] at h
      by_cases h3 : 0 ≤ f (n - (k + 1)) l
      · have h4 := hf (n - (k + 1)) l (by omega) h0 hl h3
        by_cases hi : i = n - (k + 1)
        · subst hi; exact ⟨l, h0, hl, h3⟩
        · exact iterW_all hf k _ (by omega) (by omega) h i (by omega) h2
      · rw [iterW_stop h3] at h; omega
    · rw [iterW_stop h0] at h; omega
theorem i64_id {z : Int} (h : -9223372036854775808 ≤ z ∧ z ≤ 9223372036854775807) : IntKind.i64.wrap z = z := (i64_w _).trans (w64 _ h)
theorem weigh_le : ∀ (t : T) (w : World), In w t → ∀ l d : Int, -1125899906842624 ≤ l → l ≤ 4096 → 0 ≤ weigh t l d → weigh t l d + 1 + t.ml ≤ l ∧ ∀ i, i < t.ml → ∃ x d, -1125899906842624 ≤ x ∧ x ≤ 4096 ∧ 0 ≤ weigh (t.mem i) x d :=
  T.rec2 (Q := fun t => ∀ w : World, In w t → ∀ l d : Int, -1125899906842624 ≤ l → l ≤ 4096 → 0 ≤ weigh t l d → weigh t l d + 1 + t.ml ≤ l ∧ ∀ i, i < t.ml → ∃ x d, -1125899906842624 ≤ x ∧ x ≤ 4096 ∧ 0 ≤ weigh (t.mem i) x d) fun t ihM ihL w hIn l d hl1 hl2 h => by
    rw [weigh_eq hIn] at h ⊢
    by_cases hd : d = 0
    · rw [if_pos hd] at h; omega
    · rw [if_neg hd] at h ⊢
      have hts := hIn.own.2.2.1
      unfold reach47 at hts
      rw [i64_id (z := l - 1) (by omega), i64_id (z := l - 1 - _) (by omega)] at h ⊢
      have hL : ∀ i x, i < t.ll → 0 ≤ x → x ≤ 4096 → 0 ≤ weigh (t.elm i) x (IntKind.i64.wrap (d - 1)) → weigh (t.elm i) x (IntKind.i64.wrap (d - 1)) + 1 ≤ x := fun i x hi h0 h1 h2 => by
        have := (ihL i hi w (hIn.elms hi).2 x _ (by omega) h1 h2).1
        omega
      have hM : ∀ i x, i < t.ml → 0 ≤ x → x ≤ 4096 → 0 ≤ weigh (t.mem i) (IntKind.i64.wrap (x - (t.key i).size)) (IntKind.i64.wrap (d - 1)) → weigh (t.mem i) (IntKind.i64.wrap (x - (t.key i).size)) (IntKind.i64.wrap (d - 1)) + 1 ≤ x := fun i x hi h0 h1 h2 => by
        have hk := (hIn.mems hi).2.1
        unfold reach47 at hk
        rw [i64_id (z := x - _) (by omega)] at h2 ⊢
        have := (ihM i hi w (hIn.mem hi) (x - (t.key i).size) _ (by omega) (by omega) h2).1
        omega
      obtain ⟨m, hm⟩ : ∃ m, m = iterW (fun i x => weigh (t.elm i) x (IntKind.i64.wrap (d - 1))) t.ll t.ll (l - 1 - (t.txt).size) := ⟨_, rfl⟩
      rw [← hm] at h ⊢
      have hm1 : 0 ≤ m → m ≤ l - 1 := fun h0 => by
        have := iterW_le (n := t.ll) (f := fun i x => weigh (t.elm i) x (IntKind.i64.wrap (d - 1))) (fun i x hi h0 h1 h2 => hL i x hi h0 h1 h2) t.ll (l - 1 - (t.txt).size) (Nat.le_refl _) (by omega) (by rw [← hm]; exact h0)
        rw [← hm] at this
        omega
      have hm0 : 0 ≤ m := by
        apply Decidable.byContradiction
        intro hn
        rw [iterW_stop hn] at h; exact hn h
      have hm2 := hm1 hm0
      have h3 := iterW_le (n := t.ml) (fun i x hi h0 h1 h2 => hM i x hi h0 h1 h2) t.ml m (Nat.le_refl _) (by omega) h
      refine ⟨by omega, fun i hi => ?_⟩
      obtain ⟨x, h4, h5, h6⟩ := iterW_all (n := t.ml) (fun i x hi h0 h1 h2 => hM i x hi h0 h1 h2) t.ml m (Nat.le_refl _) (by omega) h i (by omega) hi
      have hk := (hIn.mems hi).2.1
      unfold reach47 at hk
      refine ⟨_, _, ?_, ?_, h6⟩
      · rw [i64_id (by omega)]; omega
      · rw [i64_id (by omega)]; omega
theorem great_small {w : World} {t : T} (hIn : In w t) (h : greatB t = false) : ∀ i, i < t.ml → (t.mem i).ml ≤ 1073741824 := by
  unfold greatB at h
  rw [Bool.or_eq_false_iff] at h
  have h0 : 0 ≤ weigh t 4096 60 := by have := of_decide_eq_false h.1; omega
  intro i hi
  obtain ⟨x, d, h1, h2, h3⟩ := (weigh_le t w hIn 4096 60 (by decide) (by decide) h0).2 i hi
  have := (weigh_le (t.mem i) w (hIn.mem hi) x d h1 h2 h3).1
  omega
theorem tbl_small {t : T} (h : ∀ i, i < t.ml → (t.mem i).ml ≤ 1073741824) (k : ByteArray) : (t.tbl k).ml ≤ 1073741824 := by
  unfold T.tbl
  cases e : t.get k with
  | none => exact Nat.zero_le _
  | some x => obtain ⟨i, hi, rfl⟩ := T.get_mem e; exact h i hi
theorem tab_small {t : T} (h : ∀ i, i < t.ml → (t.mem i).ml ≤ 1073741824) (k : ByteArray) : (t.tab k).ml ≤ 1073741824 := by
  rcases t.tab_cases k with e | e
  · rw [e]; exact tbl_small h k
  · rw [e]; exact Nat.zero_le _
theorem tabwch_3 : rtab .any (opsOf Tryd.f6 3) = (true, [([], []), ([0], [0]), ([1, 1], [1]), ([2], [2]), ([3, 2, 2], [2, 3]), ([2, 4], [2, 4]), ([5, 4], [5]), ([6], [6]), ([7, 6], [6, 7]), ([8, 6], [6, 8]), ([6, 9], [6, 9]), ([10, 6], [10]), ([11], [11]), ([11], [11]), ([11], [11]), ([11], [11]), ([12, 13, 14, 15, 11, 11], [11, 12, 13, 14, 15]), ([11], [11]), ([11], [11]), ([11], [11]), ([11], [11]), ([17, 18, 19, 20, 16, 11], [11, 17, 18, 19, 20]), ([16, 21, 11], [11, 16, 21]), ([11, 22], [11, 22]), ([23, 21, 0, 1, 2, 3, 4, 5, 6, 7, 8, 9, 10, 11, 12, 13, 14, 15, 16, 17, 18, 19, 20, 21, 22, 23], [23])]) := by kernel_rfl
theorem bitswch_3 : waitsOk [([], []), ([0], [0]), ([1, 1], [1]), ([2], [2]), ([3, 2, 2], [2, 3]), ([2, 4], [2, 4]), ([5, 4], [5]), ([6], [6]), ([7, 6], [6, 7]), ([8, 6], [6, 8]), ([6, 9], [6, 9]), ([10, 6], [10]), ([11], [11]), ([11], [11]), ([11], [11]), ([11], [11]), ([12, 13, 14, 15, 11, 11], [11, 12, 13, 14, 15]), ([11], [11]), ([11], [11]), ([11], [11]), ([11], [11]), ([17, 18, 19, 20, 16, 11], [11, 17, 18, 19, 20]), ([16, 21, 11], [11, 16, 21]), ([11, 22], [11, 22]), ([23, 21, 0, 1, 2, 3, 4, 5, 6, 7, 8, 9, 10, 11, 12, 13, 14, 15, 16, 17, 18, 19, 20, 21, 22, 23], [23])] [0, 1, 3, 7, 15, 31, 63, 127, 255, 511, 1023, 2047, 4095, 4095, 4095, 4095, 65535, 4095, 4095, 4095, 4095, 2097151, 4194303, 8388607, 16777215] = true := by kernel_rfl
set_option maxHeartbeats 4000000 in
theorem PowerChanges_walk (p q : T) (us : ByteArray) (mine : Int) (w : World) (hTab : Tab w) (hInp : In w p) (hInq : In w q) (hu : us.size ≤ 140737488351232) (hm : (Lit.int .i64 mine).wf = true) : Calls Tryd.prog 6 #[.agg (FR () 6 ((p).sc)), .agg (FR () 6 ((q).sc)), .string (us), .int .i64 (mine)] w fun e w' => e = .returned (.bool true) ∧ Below w.heap.size w w' := by
  refine enter_ 35 Tryd.func6 rfl rfl (fun a0 hS => ?_)
  have HS0 : Sl a0 35 [(0, .agg (FR () 6 ((p).sc))), (1, .agg (FR () 6 ((q).sc))), (2, .string (us)), (3, .int .i64 (mine))] := hS
  have HH0 : Held w w [] := Held.first w
  clear hS
  refine wp_seq ?_
  have hLo : LOk [(0, 4, .new 0 (fun g => .pointer (some ⟨g, 0, none⟩))), (1, 5, .new 1 (fun g => .pointer (some ⟨g, 0, none⟩))), (2, 8, .val (.bool false))] := lok (by rfl) (by rfl)
  refine zI (wE := w) (sz := 35) (n := 3) [0, 1, 3] [(0, .val (.agg (FR () 6 ((p).sc)))), (1, .val (.agg (FR () 6 ((q).sc)))), (2, .val (.string (us))), (3, .val (.int .i64 (mine))), (4, .new 0 (fun g => .pointer (some ⟨g, 0, none⟩))), (5, .new 1 (fun g => .pointer (some ⟨g, 0, none⟩))), (8, .val (.bool false))] [(0, 4, .new 0 (fun g => .pointer (some ⟨g, 0, none⟩))), (1, 5, .new 1 (fun g => .pointer (some ⟨g, 0, none⟩))), (2, 8, .val (.bool false))] [⟨0, some 0, none, (), 6, (p).sc, (p).sc, 25⟩, ⟨0, some 1, none, (), 6, (q).sc, (q).sc, 25⟩] rfl (by rfl) HH0 rfl rfl hLo rfl HS0 (slS 0 rfl rfl (slS 1 rfl rfl (slS 2 rfl rfl (slS 3 rfl rfl (slL 0 (d := 0) rfl (slL 1 (d := 1) rfl (slL 2 (d := 2) rfl (trivial)))))))) ?_ ?_
  · show ∀ i ∈ [0, 1, 2], _
    refine zA (zW 0 0 () 6 25 none _ _ rfl rfl (fun _ _ _ _ => rfl) rfl hLo rfl rfl rfl rfl (by rfl) (fun b G w hb ho => exec_box rfl (zG rfl (HS0.get 0 rfl)) (by kernel_rfl))) ?_
    refine zA (zW 1 1 () 6 25 none _ _ rfl rfl (fun _ _ _ _ => rfl) rfl hLo rfl rfl rfl rfl (by rfl) (fun b G w hb ho => exec_box rfl (zG rfl (HS0.get 1 rfl)) (by kernel_rfl))) ?_
    refine zA (zC 2 _ rfl rfl hLo rfl rfl (fun _ _ _ _ => rfl) (fun b G w hb ho => zD (.inr rfl) (rfl))) ?_
    exact zF
  clear hLo
  intro G a1 w1 hS hH
  have HS1 : Sl a1 35 [(0, .agg (FR () 6 ((p).sc))), (1, .agg (FR () 6 ((q).sc))), (2, .string (us)), (3, .int .i64 (mine)), (4, .pointer (some ⟨(G 0), 0, none⟩)), (5, .pointer (some ⟨(G 1), 0, none⟩)), (8, .bool false)] := hS
  have HH1 : Held w w1 [⟨(G 0), (), 6, (p).sc, 25⟩, ⟨(G 1), (), 6, (q).sc, 25⟩] := hH
  clear hS hH HS0 HH0
  generalize G 0 = g1_0 at HS1 HH1
  generalize G 1 = g1_1 at HS1 HH1
  refine then_ ?_
  refine wp_seq ?_
  refine wp_seq ?_
  have hLo : LOk [(0, 9, .val (.bool true)), (1, 10, .val (.bool false))] := lok (by rfl) (by rfl)
  refine zI (wE := w) (sz := 35) (n := 2) [0, 1] [(0, .val (.agg (FR () 6 ((p).sc)))), (1, .val (.agg (FR () 6 ((q).sc)))), (2, .val (.string (us))), (3, .val (.int .i64 (mine))), (4, .val (.pointer (some ⟨g1_0, 0, none⟩))), (5, .val (.pointer (some ⟨g1_1, 0, none⟩))), (8, .val (.bool false)), (10, .val (.bool false))] [(0, 9, .val (.bool true)), (1, 10, .val (.bool false))] [⟨g1_0, none, none, (), 6, (p).sc, (p).sc, 25⟩, ⟨g1_1, none, none, (), 6, (q).sc, (q).sc, 25⟩] rfl (by rfl) HH1 rfl rfl hLo rfl HS1 (slS 0 rfl rfl (slS 1 rfl rfl (slS 2 rfl rfl (slS 3 rfl rfl (slS 4 rfl rfl (slS 5 rfl rfl (slS 6 rfl rfl (slL 1 (d := 1) rfl (trivial))))))))) ?_ ?_
  · show ∀ i ∈ [0, 1], _
    refine zA (zV 0 _ #[] rfl rfl rfl (fun _ _ _ _ => rfl) hLo rfl rfl Tryd.func18 rfl rfl (fun b G hb ho => args0 ) (fun w hw => alive_calls _ (hTab.below hw))) ?_
    refine zA (zC 1 _ rfl rfl hLo rfl rfl (fun _ _ _ _ => rfl) (fun b G w hb ho => yJ rfl (zB hLo 0 rfl HS1.1 rfl (hb 0 (by rfl))) (ru_not _))) ?_
    exact zF
  clear hLo
  intro G a2 w2 hS hH
  have HS2 : Sl a2 35 [(0, .agg (FR () 6 ((p).sc))), (1, .agg (FR () 6 ((q).sc))), (2, .string (us)), (3, .int .i64 (mine)), (4, .pointer (some ⟨g1_0, 0, none⟩)), (5, .pointer (some ⟨g1_1, 0, none⟩)), (8, .bool false), (10, .bool false)] := hS
  have HH2 : Held w w2 [⟨g1_0, (), 6, (p).sc, 25⟩, ⟨g1_1, (), 6, (q).sc, 25⟩] := hH
  clear hS hH HS1 HH1
  refine then_ ?_
  refine wp_cond_false (HS2.get 7 rfl) ?_
  refine wp_skip ?_
  refine then_ ?_
  obtain ⟨r1, hr1⟩ : ∃ r : Bool, (greatB p) = r := ⟨_, rfl⟩
  cases r1
  · skip
    have hR_p := (greatB_not hr1)
    have hS_p := great_small hInp hr1
    obtain ⟨r2, hr2⟩ : ∃ r : Bool, (greatB q) = r := ⟨_, rfl⟩
    cases r2
    · skip
      have hR_q := (greatB_not hr2)
      have hS_q := great_small hInq hr2
      obtain ⟨r3, hr3⟩ : ∃ r : Bool, (decide ((1024 : Int) < ((us).size : Int))) = r := ⟨_, rfl⟩
      cases r3
      · skip
        obtain ⟨r4, hr4⟩ : ∃ r : Bool, (chgB p q us (mine)) = r := ⟨_, rfl⟩
        cases r4
        · skip
          refine wp_seq ?_
          have hLo : LOk [(0, 11, .val (.agg (FR () 6 ((p).sc)))), (1, 12, .val (.bool false)), (2, 13, .val (.bool false)), (3, 14, .val (.agg (FR () 6 ((q).sc)))), (4, 15, .val (.bool false)), (5, 16, .val (.bool false)), (6, 17, .val (.bool false)), (7, 18, .val (.string (us))), (8, 19, .val (.int .i64 (((us).size : Int)))), (9, 20, .val (.bool false)), (10, 21, .val (.bool false)), (11, 22, .val (.bool false)), (12, 23, .val (.agg (FR () 6 ((p).sc)))), (13, 24, .val (.agg (FR () 6 ((q).sc)))), (14, 25, .val (.string (us))), (15, 26, .val (.int .i64 (mine))), (16, 27, .val (.bool false)), (17, 28, .val (.agg (FR () 6 ((p).sc)))), (18, 29, .val (.agg (FR () 6 ((q).sc)))), (19, 30, .val (.string (us))), (20, 31, .val (.int .i64 (mine))), (21, 32, .val (.bool false)), (22, 33, .val (.bool true)), (23, 34, .val (.bool true)), (24, 8, .val (.bool true))] := lok (by rfl) (by rfl)
          refine region_ (wE := w) (sz := 35) (n := 25) (B := [0, 1, 3, 7, 15, 31, 63, 127, 255, 511, 1023, 2047, 4095, 4095, 4095, 4095, 65535, 4095, 4095, 4095, 4095, 2097151, 4194303, 8388607, 16777215]) [0, 1, 2, 3, 4, 5, 6, 7, 8, 9, 10, 11, 12, 13, 14, 15, 16, 17, 18, 19, 20, 21, 22, 23, 24] [(0, .val (.agg (FR () 6 ((p).sc)))), (1, .val (.agg (FR () 6 ((q).sc)))), (2, .val (.string (us))), (3, .val (.int .i64 (mine))), (4, .val (.pointer (some ⟨g1_0, 0, none⟩))), (5, .val (.pointer (some ⟨g1_1, 0, none⟩))), (10, .val (.bool false)), (8, .val (.bool true))] [(0, 11, .val (.agg (FR () 6 ((p).sc)))), (1, 12, .val (.bool false)), (2, 13, .val (.bool false)), (3, 14, .val (.agg (FR () 6 ((q).sc)))), (4, 15, .val (.bool false)), (5, 16, .val (.bool false)), (6, 17, .val (.bool false)), (7, 18, .val (.string (us))), (8, 19, .val (.int .i64 (((us).size : Int)))), (9, 20, .val (.bool false)), (10, 21, .val (.bool false)), (11, 22, .val (.bool false)), (12, 23, .val (.agg (FR () 6 ((p).sc)))), (13, 24, .val (.agg (FR () 6 ((q).sc)))), (14, 25, .val (.string (us))), (15, 26, .val (.int .i64 (mine))), (16, 27, .val (.bool false)), (17, 28, .val (.agg (FR () 6 ((p).sc)))), (18, 29, .val (.agg (FR () 6 ((q).sc)))), (19, 30, .val (.string (us))), (20, 31, .val (.int .i64 (mine))), (21, 32, .val (.bool false)), (22, 33, .val (.bool true)), (23, 34, .val (.bool true)), (24, 8, .val (.bool true))] [⟨g1_0, none, none, (), 6, (p).sc, (p).sc, 25⟩, ⟨g1_1, none, none, (), 6, (q).sc, (q).sc, 25⟩] (by rfl) rfl tabwch_3 bitswch_3 (by kernel_rfl) (by kernel_rfl) HH2 rfl rfl hLo rfl HS2 (slS 0 rfl rfl (slS 1 rfl rfl (slS 2 rfl rfl (slS 3 rfl rfl (slS 4 rfl rfl (slS 5 rfl rfl (slS 7 rfl rfl (slL 24 (d := 24) rfl (trivial))))))))) ?_ ?_
          · show ∀ i ∈ [0, 1, 2, 3, 4, 5, 6, 7, 8, 9, 10, 11, 12, 13, 14, 15, 16, 17, 18, 19, 20, 21, 22, 23, 24], _
            refine zA (yD 0 0 _ rfl rfl rfl rfl (fun _ _ _ _ => rfl) hLo rfl rfl rfl (by rfl) Tryd.underlying25 (by kernel_rfl) rfl (fun b G hb ho => zG rfl (HS2.get 4 rfl))) ?_
            refine zA (zV 1 _ #[.agg (FR () 6 ((p).sc))] rfl rfl rfl (fun _ _ _ _ => rfl) hLo rfl rfl Tryd.func11 rfl rfl (fun b G hb ho => args1 (zB hLo 0 rfl HS2.1 rfl (hb 0 (by rfl)))) (fun w hw => (by have hq := great_calls (hInp.below hw); rw [hr1] at hq; exact hq))) ?_
            refine zA (zC 2 _ rfl rfl hLo rfl rfl (fun _ _ _ _ => rfl) (fun b G w hb ho => zD (.inl rfl) (zB hLo 1 rfl HS2.1 rfl (hb 1 (by rfl))))) ?_
            refine zA (yD 3 1 _ rfl rfl rfl rfl (fun b G hb ho => zE rfl rfl rfl HS2.1 rfl (zB hLo 2 rfl HS2.1 rfl (hb 2 (by rfl))) rfl) hLo rfl rfl rfl (by rfl) Tryd.underlying25 (by kernel_rfl) rfl (fun b G hb ho => zG rfl (HS2.get 5 rfl))) ?_
            refine zA (zV 4 _ #[.agg (FR () 6 ((q).sc))] rfl rfl rfl (fun b G hb ho => zE rfl rfl rfl HS2.1 rfl (zB hLo 2 rfl HS2.1 rfl (hb 2 (by rfl))) rfl) hLo rfl rfl Tryd.func11 rfl rfl (fun b G hb ho => args1 (zB hLo 3 rfl HS2.1 rfl (hb 3 (by rfl)))) (fun w hw => (by have hq := great_calls (hInq.below hw); rw [hr2] at hq; exact hq))) ?_
            refine zA (zC 5 _ rfl rfl hLo rfl rfl (fun _ _ _ _ => rfl) (fun b G w hb ho => zK rfl (zB hLo 2 rfl HS2.1 rfl (hb 2 (by rfl))) (zB hLo 4 rfl HS2.1 rfl (hb 4 (by rfl))))) ?_
            refine zA (zC 6 _ rfl rfl hLo rfl rfl (fun _ _ _ _ => rfl) (fun b G w hb ho => zD (.inl rfl) (zB hLo 5 rfl HS2.1 rfl (hb 5 (by rfl))))) ?_
            refine zA (zC 7 _ rfl rfl hLo rfl rfl (fun b G hb ho => zE rfl rfl rfl HS2.1 rfl (zB hLo 6 rfl HS2.1 rfl (hb 6 (by rfl))) rfl) (fun b G w hb ho => zD (.inl rfl) (zG rfl (HS2.get 2 rfl)))) ?_
            refine zA (zC 8 _ rfl rfl hLo rfl rfl (fun b G hb ho => zE rfl rfl rfl HS2.1 rfl (zB hLo 6 rfl HS2.1 rfl (hb 6 (by rfl))) rfl) (fun b G w hb ho => exec_lenS Tryd.underlying9 rfl (zB hLo 7 rfl HS2.1 rfl (hb 7 (by rfl))))) ?_
            refine zA (zC 9 _ rfl rfl hLo rfl rfl (fun b G hb ho => zE rfl rfl rfl HS2.1 rfl (zB hLo 6 rfl HS2.1 rfl (hb 6 (by rfl))) rfl) (fun b G w hb ho => zJ rfl (zB hLo 8 rfl HS2.1 rfl (hb 8 (by rfl))) (rfl) (rb_gtr hr3 _ _ _))) ?_
            refine zA (zC 10 _ rfl rfl hLo rfl rfl (fun _ _ _ _ => rfl) (fun b G w hb ho => zK rfl (zB hLo 6 rfl HS2.1 rfl (hb 6 (by rfl))) (zB hLo 9 rfl HS2.1 rfl (hb 9 (by rfl))))) ?_
            refine zA (zC 11 _ rfl rfl hLo rfl rfl (fun _ _ _ _ => rfl) (fun b G w hb ho => zD (.inl rfl) (zB hLo 10 rfl HS2.1 rfl (hb 10 (by rfl))))) ?_
            refine zA (yD 12 0 _ rfl rfl rfl rfl (fun b G hb ho => zE rfl rfl rfl HS2.1 rfl (zB hLo 11 rfl HS2.1 rfl (hb 11 (by rfl))) rfl) hLo rfl rfl rfl (by rfl) Tryd.underlying25 (by kernel_rfl) rfl (fun b G hb ho => zG rfl (HS2.get 4 rfl))) ?_
            refine zA (yD 13 1 _ rfl rfl rfl rfl (fun b G hb ho => zE rfl rfl rfl HS2.1 rfl (zB hLo 11 rfl HS2.1 rfl (hb 11 (by rfl))) rfl) hLo rfl rfl rfl (by rfl) Tryd.underlying25 (by kernel_rfl) rfl (fun b G hb ho => zG rfl (HS2.get 5 rfl))) ?_
            refine zA (zC 14 _ rfl rfl hLo rfl rfl (fun b G hb ho => zE rfl rfl rfl HS2.1 rfl (zB hLo 11 rfl HS2.1 rfl (hb 11 (by rfl))) rfl) (fun b G w hb ho => zD (.inl rfl) (zG rfl (HS2.get 2 rfl)))) ?_
            refine zA (zC 15 _ rfl rfl hLo rfl rfl (fun b G hb ho => zE rfl rfl rfl HS2.1 rfl (zB hLo 11 rfl HS2.1 rfl (hb 11 (by rfl))) rfl) (fun b G w hb ho => zD (.inl rfl) (zG rfl (HS2.get 3 rfl)))) ?_
            refine zA (zV 16 _ #[.agg (FR () 6 ((p).sc)), .agg (FR () 6 ((q).sc)), .string (us), .int .i64 (mine)] rfl rfl rfl (fun b G hb ho => zE rfl rfl rfl HS2.1 rfl (zB hLo 11 rfl HS2.1 rfl (hb 11 (by rfl))) rfl) hLo rfl rfl Tryd.func19 rfl rfl (fun b G hb ho => args4 (zB hLo 12 rfl HS2.1 rfl (hb 12 (by rfl))) (zB hLo 13 rfl HS2.1 rfl (hb 13 (by rfl))) (zB hLo 14 rfl HS2.1 rfl (hb 14 (by rfl))) (zB hLo 15 rfl HS2.1 rfl (hb 15 (by rfl)))) (fun w hw => (by have hq := change_calls (p := p) (q := q) us (mine) (hInp.below hw) (hInq.below hw) hR_p hR_q (tbl_small hS_p) (tbl_small hS_q) (hTab.below hw); rw [hr4] at hq; exact hq))) ?_
            refine zA (yD 17 0 _ rfl rfl rfl rfl (fun b G hb ho => zE rfl rfl rfl HS2.1 rfl (zB hLo 11 rfl HS2.1 rfl (hb 11 (by rfl))) rfl) hLo rfl rfl rfl (by rfl) Tryd.underlying25 (by kernel_rfl) rfl (fun b G hb ho => zG rfl (HS2.get 4 rfl))) ?_
            refine zA (yD 18 1 _ rfl rfl rfl rfl (fun b G hb ho => zE rfl rfl rfl HS2.1 rfl (zB hLo 11 rfl HS2.1 rfl (hb 11 (by rfl))) rfl) hLo rfl rfl rfl (by rfl) Tryd.underlying25 (by kernel_rfl) rfl (fun b G hb ho => zG rfl (HS2.get 5 rfl))) ?_
            refine zA (zC 19 _ rfl rfl hLo rfl rfl (fun b G hb ho => zE rfl rfl rfl HS2.1 rfl (zB hLo 11 rfl HS2.1 rfl (hb 11 (by rfl))) rfl) (fun b G w hb ho => zD (.inl rfl) (zG rfl (HS2.get 2 rfl)))) ?_
            refine zA (zC 20 _ rfl rfl hLo rfl rfl (fun b G hb ho => zE rfl rfl rfl HS2.1 rfl (zB hLo 11 rfl HS2.1 rfl (hb 11 (by rfl))) rfl) (fun b G w hb ho => zD (.inl rfl) (zG rfl (HS2.get 3 rfl)))) ?_
            refine zA (zV 21 _ #[.agg (FR () 6 ((p).sc)), .agg (FR () 6 ((q).sc)), .string (us), .int .i64 (mine)] rfl rfl rfl (fun b G hb ho => zE rfl rfl rfl HS2.1 rfl (zB hLo 11 rfl HS2.1 rfl (hb 11 (by rfl))) rfl) hLo rfl rfl Tryd.func20 rfl rfl (fun b G hb ho => args4 (zB hLo 17 rfl HS2.1 rfl (hb 17 (by rfl))) (zB hLo 18 rfl HS2.1 rfl (hb 18 (by rfl))) (zB hLo 19 rfl HS2.1 rfl (hb 19 (by rfl))) (zB hLo 20 rfl HS2.1 rfl (hb 20 (by rfl)))) (fun w hw => (by have hq := rchange_calls (p := p) (q := q) us (mine) (hInp.below hw) (hInq.below hw) (tab_small hS_p) (tab_small hS_q); rw [← chg_eq, hr4] at hq; exact hq))) ?_
            refine zA (zC 22 _ rfl rfl hLo rfl rfl (fun b G hb ho => zE rfl rfl rfl HS2.1 rfl (zB hLo 11 rfl HS2.1 rfl (hb 11 (by rfl))) rfl) (fun b G w hb ho => zJ rfl (zB hLo 16 rfl HS2.1 rfl (hb 16 (by rfl))) (zB hLo 21 rfl HS2.1 rfl (hb 21 (by rfl))) (rb_beql Tryd.underlying4 (rfl) _ _ _))) ?_
            refine zA (zC 23 _ rfl rfl hLo rfl rfl (fun _ _ _ _ => rfl) (fun b G w hb ho => zK rfl (zB hLo 11 rfl HS2.1 rfl (hb 11 (by rfl))) (zB hLo 22 rfl HS2.1 rfl (hb 22 (by rfl))))) ?_
            refine zA (zC 24 _ rfl rfl hLo rfl rfl (fun _ _ _ _ => rfl) (fun b G w hb ho => zD (.inr rfl) (zB hLo 23 rfl HS2.1 rfl (hb 23 (by rfl))))) ?_
            exact zF
          clear hLo
          intro G a3 w3 hS hH
          have HS3 : Sl a3 35 [(0, .agg (FR () 6 ((p).sc))), (1, .agg (FR () 6 ((q).sc))), (2, .string (us)), (3, .int .i64 (mine)), (4, .pointer (some ⟨g1_0, 0, none⟩)), (5, .pointer (some ⟨g1_1, 0, none⟩)), (10, .bool false), (8, .bool true)] := hS
          have HH3 : Held w w3 [⟨g1_0, (), 6, (p).sc, 25⟩, ⟨g1_1, (), 6, (q).sc, 25⟩] := hH
          clear hS hH HS2 HH2
          refine then_ ?_
          refine wp_ret ?_
          repeat (first | refine zP ?_ | refine zL ?_)
          exact yI rfl HS3.2.1 (HS3.get 7 rfl) ⟨law_ret rfl, HH3.1⟩
        · skip
          refine wp_seq ?_
          have hLo : LOk [(0, 11, .val (.agg (FR () 6 ((p).sc)))), (1, 12, .val (.bool false)), (2, 13, .val (.bool false)), (3, 14, .val (.agg (FR () 6 ((q).sc)))), (4, 15, .val (.bool false)), (5, 16, .val (.bool false)), (6, 17, .val (.bool false)), (7, 18, .val (.string (us))), (8, 19, .val (.int .i64 (((us).size : Int)))), (9, 20, .val (.bool false)), (10, 21, .val (.bool false)), (11, 22, .val (.bool false)), (12, 23, .val (.agg (FR () 6 ((p).sc)))), (13, 24, .val (.agg (FR () 6 ((q).sc)))), (14, 25, .val (.string (us))), (15, 26, .val (.int .i64 (mine))), (16, 27, .val (.bool true)), (17, 28, .val (.agg (FR () 6 ((p).sc)))), (18, 29, .val (.agg (FR () 6 ((q).sc)))), (19, 30, .val (.string (us))), (20, 31, .val (.int .i64 (mine))), (21, 32, .val (.bool true)), (22, 33, .val (.bool true)), (23, 34, .val (.bool true)), (24, 8, .val (.bool true))] := lok (by rfl) (by rfl)
          refine region_ (wE := w) (sz := 35) (n := 25) (B := [0, 1, 3, 7, 15, 31, 63, 127, 255, 511, 1023, 2047, 4095, 4095, 4095, 4095, 65535, 4095, 4095, 4095, 4095, 2097151, 4194303, 8388607, 16777215]) [0, 1, 2, 3, 4, 5, 6, 7, 8, 9, 10, 11, 12, 13, 14, 15, 16, 17, 18, 19, 20, 21, 22, 23, 24] [(0, .val (.agg (FR () 6 ((p).sc)))), (1, .val (.agg (FR () 6 ((q).sc)))), (2, .val (.string (us))), (3, .val (.int .i64 (mine))), (4, .val (.pointer (some ⟨g1_0, 0, none⟩))), (5, .val (.pointer (some ⟨g1_1, 0, none⟩))), (10, .val (.bool false)), (8, .val (.bool true))] [(0, 11, .val (.agg (FR () 6 ((p).sc)))), (1, 12, .val (.bool false)), (2, 13, .val (.bool false)), (3, 14, .val (.agg (FR () 6 ((q).sc)))), (4, 15, .val (.bool false)), (5, 16, .val (.bool false)), (6, 17, .val (.bool false)), (7, 18, .val (.string (us))), (8, 19, .val (.int .i64 (((us).size : Int)))), (9, 20, .val (.bool false)), (10, 21, .val (.bool false)), (11, 22, .val (.bool false)), (12, 23, .val (.agg (FR () 6 ((p).sc)))), (13, 24, .val (.agg (FR () 6 ((q).sc)))), (14, 25, .val (.string (us))), (15, 26, .val (.int .i64 (mine))), (16, 27, .val (.bool true)), (17, 28, .val (.agg (FR () 6 ((p).sc)))), (18, 29, .val (.agg (FR () 6 ((q).sc)))), (19, 30, .val (.string (us))), (20, 31, .val (.int .i64 (mine))), (21, 32, .val (.bool true)), (22, 33, .val (.bool true)), (23, 34, .val (.bool true)), (24, 8, .val (.bool true))] [⟨g1_0, none, none, (), 6, (p).sc, (p).sc, 25⟩, ⟨g1_1, none, none, (), 6, (q).sc, (q).sc, 25⟩] (by rfl) rfl tabwch_3 bitswch_3 (by kernel_rfl) (by kernel_rfl) HH2 rfl rfl hLo rfl HS2 (slS 0 rfl rfl (slS 1 rfl rfl (slS 2 rfl rfl (slS 3 rfl rfl (slS 4 rfl rfl (slS 5 rfl rfl (slS 7 rfl rfl (slL 24 (d := 24) rfl (trivial))))))))) ?_ ?_
          · show ∀ i ∈ [0, 1, 2, 3, 4, 5, 6, 7, 8, 9, 10, 11, 12, 13, 14, 15, 16, 17, 18, 19, 20, 21, 22, 23, 24], _
            refine zA (yD 0 0 _ rfl rfl rfl rfl (fun _ _ _ _ => rfl) hLo rfl rfl rfl (by rfl) Tryd.underlying25 (by kernel_rfl) rfl (fun b G hb ho => zG rfl (HS2.get 4 rfl))) ?_
            refine zA (zV 1 _ #[.agg (FR () 6 ((p).sc))] rfl rfl rfl (fun _ _ _ _ => rfl) hLo rfl rfl Tryd.func11 rfl rfl (fun b G hb ho => args1 (zB hLo 0 rfl HS2.1 rfl (hb 0 (by rfl)))) (fun w hw => (by have hq := great_calls (hInp.below hw); rw [hr1] at hq; exact hq))) ?_
            refine zA (zC 2 _ rfl rfl hLo rfl rfl (fun _ _ _ _ => rfl) (fun b G w hb ho => zD (.inl rfl) (zB hLo 1 rfl HS2.1 rfl (hb 1 (by rfl))))) ?_
            refine zA (yD 3 1 _ rfl rfl rfl rfl (fun b G hb ho => zE rfl rfl rfl HS2.1 rfl (zB hLo 2 rfl HS2.1 rfl (hb 2 (by rfl))) rfl) hLo rfl rfl rfl (by rfl) Tryd.underlying25 (by kernel_rfl) rfl (fun b G hb ho => zG rfl (HS2.get 5 rfl))) ?_
            refine zA (zV 4 _ #[.agg (FR () 6 ((q).sc))] rfl rfl rfl (fun b G hb ho => zE rfl rfl rfl HS2.1 rfl (zB hLo 2 rfl HS2.1 rfl (hb 2 (by rfl))) rfl) hLo rfl rfl Tryd.func11 rfl rfl (fun b G hb ho => args1 (zB hLo 3 rfl HS2.1 rfl (hb 3 (by rfl)))) (fun w hw => (by have hq := great_calls (hInq.below hw); rw [hr2] at hq; exact hq))) ?_
            refine zA (zC 5 _ rfl rfl hLo rfl rfl (fun _ _ _ _ => rfl) (fun b G w hb ho => zK rfl (zB hLo 2 rfl HS2.1 rfl (hb 2 (by rfl))) (zB hLo 4 rfl HS2.1 rfl (hb 4 (by rfl))))) ?_
            refine zA (zC 6 _ rfl rfl hLo rfl rfl (fun _ _ _ _ => rfl) (fun b G w hb ho => zD (.inl rfl) (zB hLo 5 rfl HS2.1 rfl (hb 5 (by rfl))))) ?_
            refine zA (zC 7 _ rfl rfl hLo rfl rfl (fun b G hb ho => zE rfl rfl rfl HS2.1 rfl (zB hLo 6 rfl HS2.1 rfl (hb 6 (by rfl))) rfl) (fun b G w hb ho => zD (.inl rfl) (zG rfl (HS2.get 2 rfl)))) ?_
            refine zA (zC 8 _ rfl rfl hLo rfl rfl (fun b G hb ho => zE rfl rfl rfl HS2.1 rfl (zB hLo 6 rfl HS2.1 rfl (hb 6 (by rfl))) rfl) (fun b G w hb ho => exec_lenS Tryd.underlying9 rfl (zB hLo 7 rfl HS2.1 rfl (hb 7 (by rfl))))) ?_
            refine zA (zC 9 _ rfl rfl hLo rfl rfl (fun b G hb ho => zE rfl rfl rfl HS2.1 rfl (zB hLo 6 rfl HS2.1 rfl (hb 6 (by rfl))) rfl) (fun b G w hb ho => zJ rfl (zB hLo 8 rfl HS2.1 rfl (hb 8 (by rfl))) (rfl) (rb_gtr hr3 _ _ _))) ?_
            refine zA (zC 10 _ rfl rfl hLo rfl rfl (fun _ _ _ _ => rfl) (fun b G w hb ho => zK rfl (zB hLo 6 rfl HS2.1 rfl (hb 6 (by rfl))) (zB hLo 9 rfl HS2.1 rfl (hb 9 (by rfl))))) ?_
            refine zA (zC 11 _ rfl rfl hLo rfl rfl (fun _ _ _ _ => rfl) (fun b G w hb ho => zD (.inl rfl) (zB hLo 10 rfl HS2.1 rfl (hb 10 (by rfl))))) ?_
            refine zA (yD 12 0 _ rfl rfl rfl rfl (fun b G hb ho => zE rfl rfl rfl HS2.1 rfl (zB hLo 11 rfl HS2.1 rfl (hb 11 (by rfl))) rfl) hLo rfl rfl rfl (by rfl) Tryd.underlying25 (by kernel_rfl) rfl (fun b G hb ho => zG rfl (HS2.get 4 rfl))) ?_
            refine zA (yD 13 1 _ rfl rfl rfl rfl (fun b G hb ho => zE rfl rfl rfl HS2.1 rfl (zB hLo 11 rfl HS2.1 rfl (hb 11 (by rfl))) rfl) hLo rfl rfl rfl (by rfl) Tryd.underlying25 (by kernel_rfl) rfl (fun b G hb ho => zG rfl (HS2.get 5 rfl))) ?_
            refine zA (zC 14 _ rfl rfl hLo rfl rfl (fun b G hb ho => zE rfl rfl rfl HS2.1 rfl (zB hLo 11 rfl HS2.1 rfl (hb 11 (by rfl))) rfl) (fun b G w hb ho => zD (.inl rfl) (zG rfl (HS2.get 2 rfl)))) ?_
            refine zA (zC 15 _ rfl rfl hLo rfl rfl (fun b G hb ho => zE rfl rfl rfl HS2.1 rfl (zB hLo 11 rfl HS2.1 rfl (hb 11 (by rfl))) rfl) (fun b G w hb ho => zD (.inl rfl) (zG rfl (HS2.get 3 rfl)))) ?_
            refine zA (zV 16 _ #[.agg (FR () 6 ((p).sc)), .agg (FR () 6 ((q).sc)), .string (us), .int .i64 (mine)] rfl rfl rfl (fun b G hb ho => zE rfl rfl rfl HS2.1 rfl (zB hLo 11 rfl HS2.1 rfl (hb 11 (by rfl))) rfl) hLo rfl rfl Tryd.func19 rfl rfl (fun b G hb ho => args4 (zB hLo 12 rfl HS2.1 rfl (hb 12 (by rfl))) (zB hLo 13 rfl HS2.1 rfl (hb 13 (by rfl))) (zB hLo 14 rfl HS2.1 rfl (hb 14 (by rfl))) (zB hLo 15 rfl HS2.1 rfl (hb 15 (by rfl)))) (fun w hw => (by have hq := change_calls (p := p) (q := q) us (mine) (hInp.below hw) (hInq.below hw) hR_p hR_q (tbl_small hS_p) (tbl_small hS_q) (hTab.below hw); rw [hr4] at hq; exact hq))) ?_
            refine zA (yD 17 0 _ rfl rfl rfl rfl (fun b G hb ho => zE rfl rfl rfl HS2.1 rfl (zB hLo 11 rfl HS2.1 rfl (hb 11 (by rfl))) rfl) hLo rfl rfl rfl (by rfl) Tryd.underlying25 (by kernel_rfl) rfl (fun b G hb ho => zG rfl (HS2.get 4 rfl))) ?_
            refine zA (yD 18 1 _ rfl rfl rfl rfl (fun b G hb ho => zE rfl rfl rfl HS2.1 rfl (zB hLo 11 rfl HS2.1 rfl (hb 11 (by rfl))) rfl) hLo rfl rfl rfl (by rfl) Tryd.underlying25 (by kernel_rfl) rfl (fun b G hb ho => zG rfl (HS2.get 5 rfl))) ?_
            refine zA (zC 19 _ rfl rfl hLo rfl rfl (fun b G hb ho => zE rfl rfl rfl HS2.1 rfl (zB hLo 11 rfl HS2.1 rfl (hb 11 (by rfl))) rfl) (fun b G w hb ho => zD (.inl rfl) (zG rfl (HS2.get 2 rfl)))) ?_
            refine zA (zC 20 _ rfl rfl hLo rfl rfl (fun b G hb ho => zE rfl rfl rfl HS2.1 rfl (zB hLo 11 rfl HS2.1 rfl (hb 11 (by rfl))) rfl) (fun b G w hb ho => zD (.inl rfl) (zG rfl (HS2.get 3 rfl)))) ?_
            refine zA (zV 21 _ #[.agg (FR () 6 ((p).sc)), .agg (FR () 6 ((q).sc)), .string (us), .int .i64 (mine)] rfl rfl rfl (fun b G hb ho => zE rfl rfl rfl HS2.1 rfl (zB hLo 11 rfl HS2.1 rfl (hb 11 (by rfl))) rfl) hLo rfl rfl Tryd.func20 rfl rfl (fun b G hb ho => args4 (zB hLo 17 rfl HS2.1 rfl (hb 17 (by rfl))) (zB hLo 18 rfl HS2.1 rfl (hb 18 (by rfl))) (zB hLo 19 rfl HS2.1 rfl (hb 19 (by rfl))) (zB hLo 20 rfl HS2.1 rfl (hb 20 (by rfl)))) (fun w hw => (by have hq := rchange_calls (p := p) (q := q) us (mine) (hInp.below hw) (hInq.below hw) (tab_small hS_p) (tab_small hS_q); rw [← chg_eq, hr4] at hq; exact hq))) ?_
            refine zA (zC 22 _ rfl rfl hLo rfl rfl (fun b G hb ho => zE rfl rfl rfl HS2.1 rfl (zB hLo 11 rfl HS2.1 rfl (hb 11 (by rfl))) rfl) (fun b G w hb ho => zJ rfl (zB hLo 16 rfl HS2.1 rfl (hb 16 (by rfl))) (zB hLo 21 rfl HS2.1 rfl (hb 21 (by rfl))) (rb_beql Tryd.underlying4 (rfl) _ _ _))) ?_
            refine zA (zC 23 _ rfl rfl hLo rfl rfl (fun _ _ _ _ => rfl) (fun b G w hb ho => zK rfl (zB hLo 11 rfl HS2.1 rfl (hb 11 (by rfl))) (zB hLo 22 rfl HS2.1 rfl (hb 22 (by rfl))))) ?_
            refine zA (zC 24 _ rfl rfl hLo rfl rfl (fun _ _ _ _ => rfl) (fun b G w hb ho => zD (.inr rfl) (zB hLo 23 rfl HS2.1 rfl (hb 23 (by rfl))))) ?_
            exact zF
          clear hLo
          intro G a4 w4 hS hH
          have HS4 : Sl a4 35 [(0, .agg (FR () 6 ((p).sc))), (1, .agg (FR () 6 ((q).sc))), (2, .string (us)), (3, .int .i64 (mine)), (4, .pointer (some ⟨g1_0, 0, none⟩)), (5, .pointer (some ⟨g1_1, 0, none⟩)), (10, .bool false), (8, .bool true)] := hS
          have HH4 : Held w w4 [⟨g1_0, (), 6, (p).sc, 25⟩, ⟨g1_1, (), 6, (q).sc, 25⟩] := hH
          clear hS hH HS2 HH2
          refine then_ ?_
          refine wp_ret ?_
          repeat (first | refine zP ?_ | refine zL ?_)
          exact yI rfl HS4.2.1 (HS4.get 7 rfl) ⟨law_ret rfl, HH4.1⟩
      · skip
        refine wp_seq ?_
        have hLo : LOk [(0, 11, .val (.agg (FR () 6 ((p).sc)))), (1, 12, .val (.bool false)), (2, 13, .val (.bool false)), (3, 14, .val (.agg (FR () 6 ((q).sc)))), (4, 15, .val (.bool false)), (5, 16, .val (.bool false)), (6, 17, .val (.bool false)), (7, 18, .val (.string (us))), (8, 19, .val (.int .i64 (((us).size : Int)))), (9, 20, .val (.bool true)), (10, 21, .val (.bool true)), (11, 22, .val (.bool true)), (12, 23, .val (undef)), (13, 24, .val (undef)), (14, 25, .val (undef)), (15, 26, .val (undef)), (16, 27, .val (undef)), (17, 28, .val (undef)), (18, 29, .val (undef)), (19, 30, .val (undef)), (20, 31, .val (undef)), (21, 32, .val (undef)), (22, 33, .val (undef)), (23, 34, .val (.bool true)), (24, 8, .val (.bool true))] := lok (by rfl) (by rfl)
        refine region_ (wE := w) (sz := 35) (n := 25) (B := [0, 1, 3, 7, 15, 31, 63, 127, 255, 511, 1023, 2047, 4095, 4095, 4095, 4095, 65535, 4095, 4095, 4095, 4095, 2097151, 4194303, 8388607, 16777215]) [0, 1, 2, 3, 4, 5, 6, 7, 8, 9, 10, 11, 12, 13, 14, 15, 16, 17, 18, 19, 20, 21, 22, 23, 24] [(0, .val (.agg (FR () 6 ((p).sc)))), (1, .val (.agg (FR () 6 ((q).sc)))), (2, .val (.string (us))), (3, .val (.int .i64 (mine))), (4, .val (.pointer (some ⟨g1_0, 0, none⟩))), (5, .val (.pointer (some ⟨g1_1, 0, none⟩))), (10, .val (.bool false)), (8, .val (.bool true))] [(0, 11, .val (.agg (FR () 6 ((p).sc)))), (1, 12, .val (.bool false)), (2, 13, .val (.bool false)), (3, 14, .val (.agg (FR () 6 ((q).sc)))), (4, 15, .val (.bool false)), (5, 16, .val (.bool false)), (6, 17, .val (.bool false)), (7, 18, .val (.string (us))), (8, 19, .val (.int .i64 (((us).size : Int)))), (9, 20, .val (.bool true)), (10, 21, .val (.bool true)), (11, 22, .val (.bool true)), (12, 23, .val (undef)), (13, 24, .val (undef)), (14, 25, .val (undef)), (15, 26, .val (undef)), (16, 27, .val (undef)), (17, 28, .val (undef)), (18, 29, .val (undef)), (19, 30, .val (undef)), (20, 31, .val (undef)), (21, 32, .val (undef)), (22, 33, .val (undef)), (23, 34, .val (.bool true)), (24, 8, .val (.bool true))] [⟨g1_0, none, none, (), 6, (p).sc, (p).sc, 25⟩, ⟨g1_1, none, none, (), 6, (q).sc, (q).sc, 25⟩] (by rfl) rfl tabwch_3 bitswch_3 (by kernel_rfl) (by kernel_rfl) HH2 rfl rfl hLo rfl HS2 (slS 0 rfl rfl (slS 1 rfl rfl (slS 2 rfl rfl (slS 3 rfl rfl (slS 4 rfl rfl (slS 5 rfl rfl (slS 7 rfl rfl (slL 24 (d := 24) rfl (trivial))))))))) ?_ ?_
        · show ∀ i ∈ [0, 1, 2, 3, 4, 5, 6, 7, 8, 9, 10, 11, 12, 13, 14, 15, 16, 17, 18, 19, 20, 21, 22, 23, 24], _
          refine zA (yD 0 0 _ rfl rfl rfl rfl (fun _ _ _ _ => rfl) hLo rfl rfl rfl (by rfl) Tryd.underlying25 (by kernel_rfl) rfl (fun b G hb ho => zG rfl (HS2.get 4 rfl))) ?_
          refine zA (zV 1 _ #[.agg (FR () 6 ((p).sc))] rfl rfl rfl (fun _ _ _ _ => rfl) hLo rfl rfl Tryd.func11 rfl rfl (fun b G hb ho => args1 (zB hLo 0 rfl HS2.1 rfl (hb 0 (by rfl)))) (fun w hw => (by have hq := great_calls (hInp.below hw); rw [hr1] at hq; exact hq))) ?_
          refine zA (zC 2 _ rfl rfl hLo rfl rfl (fun _ _ _ _ => rfl) (fun b G w hb ho => zD (.inl rfl) (zB hLo 1 rfl HS2.1 rfl (hb 1 (by rfl))))) ?_
          refine zA (yD 3 1 _ rfl rfl rfl rfl (fun b G hb ho => zE rfl rfl rfl HS2.1 rfl (zB hLo 2 rfl HS2.1 rfl (hb 2 (by rfl))) rfl) hLo rfl rfl rfl (by rfl) Tryd.underlying25 (by kernel_rfl) rfl (fun b G hb ho => zG rfl (HS2.get 5 rfl))) ?_
          refine zA (zV 4 _ #[.agg (FR () 6 ((q).sc))] rfl rfl rfl (fun b G hb ho => zE rfl rfl rfl HS2.1 rfl (zB hLo 2 rfl HS2.1 rfl (hb 2 (by rfl))) rfl) hLo rfl rfl Tryd.func11 rfl rfl (fun b G hb ho => args1 (zB hLo 3 rfl HS2.1 rfl (hb 3 (by rfl)))) (fun w hw => (by have hq := great_calls (hInq.below hw); rw [hr2] at hq; exact hq))) ?_
          refine zA (zC 5 _ rfl rfl hLo rfl rfl (fun _ _ _ _ => rfl) (fun b G w hb ho => zK rfl (zB hLo 2 rfl HS2.1 rfl (hb 2 (by rfl))) (zB hLo 4 rfl HS2.1 rfl (hb 4 (by rfl))))) ?_
          refine zA (zC 6 _ rfl rfl hLo rfl rfl (fun _ _ _ _ => rfl) (fun b G w hb ho => zD (.inl rfl) (zB hLo 5 rfl HS2.1 rfl (hb 5 (by rfl))))) ?_
          refine zA (zC 7 _ rfl rfl hLo rfl rfl (fun b G hb ho => zE rfl rfl rfl HS2.1 rfl (zB hLo 6 rfl HS2.1 rfl (hb 6 (by rfl))) rfl) (fun b G w hb ho => zD (.inl rfl) (zG rfl (HS2.get 2 rfl)))) ?_
          refine zA (zC 8 _ rfl rfl hLo rfl rfl (fun b G hb ho => zE rfl rfl rfl HS2.1 rfl (zB hLo 6 rfl HS2.1 rfl (hb 6 (by rfl))) rfl) (fun b G w hb ho => exec_lenS Tryd.underlying9 rfl (zB hLo 7 rfl HS2.1 rfl (hb 7 (by rfl))))) ?_
          refine zA (zC 9 _ rfl rfl hLo rfl rfl (fun b G hb ho => zE rfl rfl rfl HS2.1 rfl (zB hLo 6 rfl HS2.1 rfl (hb 6 (by rfl))) rfl) (fun b G w hb ho => zJ rfl (zB hLo 8 rfl HS2.1 rfl (hb 8 (by rfl))) (rfl) (rb_gtr hr3 _ _ _))) ?_
          refine zA (zC 10 _ rfl rfl hLo rfl rfl (fun _ _ _ _ => rfl) (fun b G w hb ho => zK rfl (zB hLo 6 rfl HS2.1 rfl (hb 6 (by rfl))) (zB hLo 9 rfl HS2.1 rfl (hb 9 (by rfl))))) ?_
          refine zA (zC 11 _ rfl rfl hLo rfl rfl (fun _ _ _ _ => rfl) (fun b G w hb ho => zD (.inl rfl) (zB hLo 10 rfl HS2.1 rfl (hb 10 (by rfl))))) ?_
          refine zA (zH 12 rfl rfl hLo rfl rfl (fun b G hb ho => zE rfl rfl rfl HS2.1 rfl (zB hLo 11 rfl HS2.1 rfl (hb 11 (by rfl))) rfl)) ?_
          refine zA (zH 13 rfl rfl hLo rfl rfl (fun b G hb ho => zE rfl rfl rfl HS2.1 rfl (zB hLo 11 rfl HS2.1 rfl (hb 11 (by rfl))) rfl)) ?_
          refine zA (zH 14 rfl rfl hLo rfl rfl (fun b G hb ho => zE rfl rfl rfl HS2.1 rfl (zB hLo 11 rfl HS2.1 rfl (hb 11 (by rfl))) rfl)) ?_
          refine zA (zH 15 rfl rfl hLo rfl rfl (fun b G hb ho => zE rfl rfl rfl HS2.1 rfl (zB hLo 11 rfl HS2.1 rfl (hb 11 (by rfl))) rfl)) ?_
          refine zA (zH 16 rfl rfl hLo rfl rfl (fun b G hb ho => zE rfl rfl rfl HS2.1 rfl (zB hLo 11 rfl HS2.1 rfl (hb 11 (by rfl))) rfl)) ?_
          refine zA (zH 17 rfl rfl hLo rfl rfl (fun b G hb ho => zE rfl rfl rfl HS2.1 rfl (zB hLo 11 rfl HS2.1 rfl (hb 11 (by rfl))) rfl)) ?_
          refine zA (zH 18 rfl rfl hLo rfl rfl (fun b G hb ho => zE rfl rfl rfl HS2.1 rfl (zB hLo 11 rfl HS2.1 rfl (hb 11 (by rfl))) rfl)) ?_
          refine zA (zH 19 rfl rfl hLo rfl rfl (fun b G hb ho => zE rfl rfl rfl HS2.1 rfl (zB hLo 11 rfl HS2.1 rfl (hb 11 (by rfl))) rfl)) ?_
          refine zA (zH 20 rfl rfl hLo rfl rfl (fun b G hb ho => zE rfl rfl rfl HS2.1 rfl (zB hLo 11 rfl HS2.1 rfl (hb 11 (by rfl))) rfl)) ?_
          refine zA (zH 21 rfl rfl hLo rfl rfl (fun b G hb ho => zE rfl rfl rfl HS2.1 rfl (zB hLo 11 rfl HS2.1 rfl (hb 11 (by rfl))) rfl)) ?_
          refine zA (zH 22 rfl rfl hLo rfl rfl (fun b G hb ho => zE rfl rfl rfl HS2.1 rfl (zB hLo 11 rfl HS2.1 rfl (hb 11 (by rfl))) rfl)) ?_
          refine zA (zC 23 _ rfl rfl hLo rfl rfl (fun _ _ _ _ => rfl) (fun b G w hb ho => zK rfl (zB hLo 11 rfl HS2.1 rfl (hb 11 (by rfl))) (rfl))) ?_
          refine zA (zC 24 _ rfl rfl hLo rfl rfl (fun _ _ _ _ => rfl) (fun b G w hb ho => zD (.inr rfl) (zB hLo 23 rfl HS2.1 rfl (hb 23 (by rfl))))) ?_
          exact zF
        clear hLo
        intro G a5 w5 hS hH
        have HS5 : Sl a5 35 [(0, .agg (FR () 6 ((p).sc))), (1, .agg (FR () 6 ((q).sc))), (2, .string (us)), (3, .int .i64 (mine)), (4, .pointer (some ⟨g1_0, 0, none⟩)), (5, .pointer (some ⟨g1_1, 0, none⟩)), (10, .bool false), (8, .bool true)] := hS
        have HH5 : Held w w5 [⟨g1_0, (), 6, (p).sc, 25⟩, ⟨g1_1, (), 6, (q).sc, 25⟩] := hH
        clear hS hH HS2 HH2
        refine then_ ?_
        refine wp_ret ?_
        repeat (first | refine zP ?_ | refine zL ?_)
        exact yI rfl HS5.2.1 (HS5.get 7 rfl) ⟨law_ret rfl, HH5.1⟩
    · skip
      refine wp_seq ?_
      have hLo : LOk [(0, 11, .val (.agg (FR () 6 ((p).sc)))), (1, 12, .val (.bool false)), (2, 13, .val (.bool false)), (3, 14, .val (.agg (FR () 6 ((q).sc)))), (4, 15, .val (.bool true)), (5, 16, .val (.bool true)), (6, 17, .val (.bool true)), (7, 18, .val (undef)), (8, 19, .val (undef)), (9, 20, .val (undef)), (10, 21, .val (.bool true)), (11, 22, .val (.bool true)), (12, 23, .val (undef)), (13, 24, .val (undef)), (14, 25, .val (undef)), (15, 26, .val (undef)), (16, 27, .val (undef)), (17, 28, .val (undef)), (18, 29, .val (undef)), (19, 30, .val (undef)), (20, 31, .val (undef)), (21, 32, .val (undef)), (22, 33, .val (undef)), (23, 34, .val (.bool true)), (24, 8, .val (.bool true))] := lok (by rfl) (by rfl)
      refine region_ (wE := w) (sz := 35) (n := 25) (B := [0, 1, 3, 7, 15, 31, 63, 127, 255, 511, 1023, 2047, 4095, 4095, 4095, 4095, 65535, 4095, 4095, 4095, 4095, 2097151, 4194303, 8388607, 16777215]) [0, 1, 2, 3, 4, 5, 6, 7, 8, 9, 10, 11, 12, 13, 14, 15, 16, 17, 18, 19, 20, 21, 22, 23, 24] [(0, .val (.agg (FR () 6 ((p).sc)))), (1, .val (.agg (FR () 6 ((q).sc)))), (2, .val (.string (us))), (3, .val (.int .i64 (mine))), (4, .val (.pointer (some ⟨g1_0, 0, none⟩))), (5, .val (.pointer (some ⟨g1_1, 0, none⟩))), (10, .val (.bool false)), (8, .val (.bool true))] [(0, 11, .val (.agg (FR () 6 ((p).sc)))), (1, 12, .val (.bool false)), (2, 13, .val (.bool false)), (3, 14, .val (.agg (FR () 6 ((q).sc)))), (4, 15, .val (.bool true)), (5, 16, .val (.bool true)), (6, 17, .val (.bool true)), (7, 18, .val (undef)), (8, 19, .val (undef)), (9, 20, .val (undef)), (10, 21, .val (.bool true)), (11, 22, .val (.bool true)), (12, 23, .val (undef)), (13, 24, .val (undef)), (14, 25, .val (undef)), (15, 26, .val (undef)), (16, 27, .val (undef)), (17, 28, .val (undef)), (18, 29, .val (undef)), (19, 30, .val (undef)), (20, 31, .val (undef)), (21, 32, .val (undef)), (22, 33, .val (undef)), (23, 34, .val (.bool true)), (24, 8, .val (.bool true))] [⟨g1_0, none, none, (), 6, (p).sc, (p).sc, 25⟩, ⟨g1_1, none, none, (), 6, (q).sc, (q).sc, 25⟩] (by rfl) rfl tabwch_3 bitswch_3 (by kernel_rfl) (by kernel_rfl) HH2 rfl rfl hLo rfl HS2 (slS 0 rfl rfl (slS 1 rfl rfl (slS 2 rfl rfl (slS 3 rfl rfl (slS 4 rfl rfl (slS 5 rfl rfl (slS 7 rfl rfl (slL 24 (d := 24) rfl (trivial))))))))) ?_ ?_
      · show ∀ i ∈ [0, 1, 2, 3, 4, 5, 6, 7, 8, 9, 10, 11, 12, 13, 14, 15, 16, 17, 18, 19, 20, 21, 22, 23, 24], _
        refine zA (yD 0 0 _ rfl rfl rfl rfl (fun _ _ _ _ => rfl) hLo rfl rfl rfl (by rfl) Tryd.underlying25 (by kernel_rfl) rfl (fun b G hb ho => zG rfl (HS2.get 4 rfl))) ?_
        refine zA (zV 1 _ #[.agg (FR () 6 ((p).sc))] rfl rfl rfl (fun _ _ _ _ => rfl) hLo rfl rfl Tryd.func11 rfl rfl (fun b G hb ho => args1 (zB hLo 0 rfl HS2.1 rfl (hb 0 (by rfl)))) (fun w hw => (by have hq := great_calls (hInp.below hw); rw [hr1] at hq; exact hq))) ?_
        refine zA (zC 2 _ rfl rfl hLo rfl rfl (fun _ _ _ _ => rfl) (fun b G w hb ho => zD (.inl rfl) (zB hLo 1 rfl HS2.1 rfl (hb 1 (by rfl))))) ?_
        refine zA (yD 3 1 _ rfl rfl rfl rfl (fun b G hb ho => zE rfl rfl rfl HS2.1 rfl (zB hLo 2 rfl HS2.1 rfl (hb 2 (by rfl))) rfl) hLo rfl rfl rfl (by rfl) Tryd.underlying25 (by kernel_rfl) rfl (fun b G hb ho => zG rfl (HS2.get 5 rfl))) ?_
        refine zA (zV 4 _ #[.agg (FR () 6 ((q).sc))] rfl rfl rfl (fun b G hb ho => zE rfl rfl rfl HS2.1 rfl (zB hLo 2 rfl HS2.1 rfl (hb 2 (by rfl))) rfl) hLo rfl rfl Tryd.func11 rfl rfl (fun b G hb ho => args1 (zB hLo 3 rfl HS2.1 rfl (hb 3 (by rfl)))) (fun w hw => (by have hq := great_calls (hInq.below hw); rw [hr2] at hq; exact hq))) ?_
        refine zA (zC 5 _ rfl rfl hLo rfl rfl (fun _ _ _ _ => rfl) (fun b G w hb ho => zK rfl (zB hLo 2 rfl HS2.1 rfl (hb 2 (by rfl))) (zB hLo 4 rfl HS2.1 rfl (hb 4 (by rfl))))) ?_
        refine zA (zC 6 _ rfl rfl hLo rfl rfl (fun _ _ _ _ => rfl) (fun b G w hb ho => zD (.inl rfl) (zB hLo 5 rfl HS2.1 rfl (hb 5 (by rfl))))) ?_
        refine zA (zH 7 rfl rfl hLo rfl rfl (fun b G hb ho => zE rfl rfl rfl HS2.1 rfl (zB hLo 6 rfl HS2.1 rfl (hb 6 (by rfl))) rfl)) ?_
        refine zA (zH 8 rfl rfl hLo rfl rfl (fun b G hb ho => zE rfl rfl rfl HS2.1 rfl (zB hLo 6 rfl HS2.1 rfl (hb 6 (by rfl))) rfl)) ?_
        refine zA (zH 9 rfl rfl hLo rfl rfl (fun b G hb ho => zE rfl rfl rfl HS2.1 rfl (zB hLo 6 rfl HS2.1 rfl (hb 6 (by rfl))) rfl)) ?_
        refine zA (zC 10 _ rfl rfl hLo rfl rfl (fun _ _ _ _ => rfl) (fun b G w hb ho => zK rfl (zB hLo 6 rfl HS2.1 rfl (hb 6 (by rfl))) (rfl))) ?_
        refine zA (zC 11 _ rfl rfl hLo rfl rfl (fun _ _ _ _ => rfl) (fun b G w hb ho => zD (.inl rfl) (zB hLo 10 rfl HS2.1 rfl (hb 10 (by rfl))))) ?_
        refine zA (zH 12 rfl rfl hLo rfl rfl (fun b G hb ho => zE rfl rfl rfl HS2.1 rfl (zB hLo 11 rfl HS2.1 rfl (hb 11 (by rfl))) rfl)) ?_
        refine zA (zH 13 rfl rfl hLo rfl rfl (fun b G hb ho => zE rfl rfl rfl HS2.1 rfl (zB hLo 11 rfl HS2.1 rfl (hb 11 (by rfl))) rfl)) ?_
        refine zA (zH 14 rfl rfl hLo rfl rfl (fun b G hb ho => zE rfl rfl rfl HS2.1 rfl (zB hLo 11 rfl HS2.1 rfl (hb 11 (by rfl))) rfl)) ?_
        refine zA (zH 15 rfl rfl hLo rfl rfl (fun b G hb ho => zE rfl rfl rfl HS2.1 rfl (zB hLo 11 rfl HS2.1 rfl (hb 11 (by rfl))) rfl)) ?_
        refine zA (zH 16 rfl rfl hLo rfl rfl (fun b G hb ho => zE rfl rfl rfl HS2.1 rfl (zB hLo 11 rfl HS2.1 rfl (hb 11 (by rfl))) rfl)) ?_
        refine zA (zH 17 rfl rfl hLo rfl rfl (fun b G hb ho => zE rfl rfl rfl HS2.1 rfl (zB hLo 11 rfl HS2.1 rfl (hb 11 (by rfl))) rfl)) ?_
        refine zA (zH 18 rfl rfl hLo rfl rfl (fun b G hb ho => zE rfl rfl rfl HS2.1 rfl (zB hLo 11 rfl HS2.1 rfl (hb 11 (by rfl))) rfl)) ?_
        refine zA (zH 19 rfl rfl hLo rfl rfl (fun b G hb ho => zE rfl rfl rfl HS2.1 rfl (zB hLo 11 rfl HS2.1 rfl (hb 11 (by rfl))) rfl)) ?_
        refine zA (zH 20 rfl rfl hLo rfl rfl (fun b G hb ho => zE rfl rfl rfl HS2.1 rfl (zB hLo 11 rfl HS2.1 rfl (hb 11 (by rfl))) rfl)) ?_
        refine zA (zH 21 rfl rfl hLo rfl rfl (fun b G hb ho => zE rfl rfl rfl HS2.1 rfl (zB hLo 11 rfl HS2.1 rfl (hb 11 (by rfl))) rfl)) ?_
        refine zA (zH 22 rfl rfl hLo rfl rfl (fun b G hb ho => zE rfl rfl rfl HS2.1 rfl (zB hLo 11 rfl HS2.1 rfl (hb 11 (by rfl))) rfl)) ?_
        refine zA (zC 23 _ rfl rfl hLo rfl rfl (fun _ _ _ _ => rfl) (fun b G w hb ho => zK rfl (zB hLo 11 rfl HS2.1 rfl (hb 11 (by rfl))) (rfl))) ?_
        refine zA (zC 24 _ rfl rfl hLo rfl rfl (fun _ _ _ _ => rfl) (fun b G w hb ho => zD (.inr rfl) (zB hLo 23 rfl HS2.1 rfl (hb 23 (by rfl))))) ?_
        exact zF
      clear hLo
      intro G a6 w6 hS hH
      have HS6 : Sl a6 35 [(0, .agg (FR () 6 ((p).sc))), (1, .agg (FR () 6 ((q).sc))), (2, .string (us)), (3, .int .i64 (mine)), (4, .pointer (some ⟨g1_0, 0, none⟩)), (5, .pointer (some ⟨g1_1, 0, none⟩)), (10, .bool false), (8, .bool true)] := hS
      have HH6 : Held w w6 [⟨g1_0, (), 6, (p).sc, 25⟩, ⟨g1_1, (), 6, (q).sc, 25⟩] := hH
      clear hS hH HS2 HH2
      refine then_ ?_
      refine wp_ret ?_
      repeat (first | refine zP ?_ | refine zL ?_)
      exact yI rfl HS6.2.1 (HS6.get 7 rfl) ⟨law_ret rfl, HH6.1⟩
  · skip
    refine wp_seq ?_
    have hLo : LOk [(0, 11, .val (.agg (FR () 6 ((p).sc)))), (1, 12, .val (.bool true)), (2, 13, .val (.bool true)), (3, 14, .val (undef)), (4, 15, .val (undef)), (5, 16, .val (.bool true)), (6, 17, .val (.bool true)), (7, 18, .val (undef)), (8, 19, .val (undef)), (9, 20, .val (undef)), (10, 21, .val (.bool true)), (11, 22, .val (.bool true)), (12, 23, .val (undef)), (13, 24, .val (undef)), (14, 25, .val (undef)), (15, 26, .val (undef)), (16, 27, .val (undef)), (17, 28, .val (undef)), (18, 29, .val (undef)), (19, 30, .val (undef)), (20, 31, .val (undef)), (21, 32, .val (undef)), (22, 33, .val (undef)), (23, 34, .val (.bool true)), (24, 8, .val (.bool true))] := lok (by rfl) (by rfl)
    refine region_ (wE := w) (sz := 35) (n := 25) (B := [0, 1, 3, 7, 15, 31, 63, 127, 255, 511, 1023, 2047, 4095, 4095, 4095, 4095, 65535, 4095, 4095, 4095, 4095, 2097151, 4194303, 8388607, 16777215]) [0, 1, 2, 3, 4, 5, 6, 7, 8, 9, 10, 11, 12, 13, 14, 15, 16, 17, 18, 19, 20, 21, 22, 23, 24] [(0, .val (.agg (FR () 6 ((p).sc)))), (1, .val (.agg (FR () 6 ((q).sc)))), (2, .val (.string (us))), (3, .val (.int .i64 (mine))), (4, .val (.pointer (some ⟨g1_0, 0, none⟩))), (5, .val (.pointer (some ⟨g1_1, 0, none⟩))), (10, .val (.bool false)), (8, .val (.bool true))] [(0, 11, .val (.agg (FR () 6 ((p).sc)))), (1, 12, .val (.bool true)), (2, 13, .val (.bool true)), (3, 14, .val (undef)), (4, 15, .val (undef)), (5, 16, .val (.bool true)), (6, 17, .val (.bool true)), (7, 18, .val (undef)), (8, 19, .val (undef)), (9, 20, .val (undef)), (10, 21, .val (.bool true)), (11, 22, .val (.bool true)), (12, 23, .val (undef)), (13, 24, .val (undef)), (14, 25, .val (undef)), (15, 26, .val (undef)), (16, 27, .val (undef)), (17, 28, .val (undef)), (18, 29, .val (undef)), (19, 30, .val (undef)), (20, 31, .val (undef)), (21, 32, .val (undef)), (22, 33, .val (undef)), (23, 34, .val (.bool true)), (24, 8, .val (.bool true))] [⟨g1_0, none, none, (), 6, (p).sc, (p).sc, 25⟩, ⟨g1_1, none, none, (), 6, (q).sc, (q).sc, 25⟩] (by rfl) rfl tabwch_3 bitswch_3 (by kernel_rfl) (by kernel_rfl) HH2 rfl rfl hLo rfl HS2 (slS 0 rfl rfl (slS 1 rfl rfl (slS 2 rfl rfl (slS 3 rfl rfl (slS 4 rfl rfl (slS 5 rfl rfl (slS 7 rfl rfl (slL 24 (d := 24) rfl (trivial))))))))) ?_ ?_
    · show ∀ i ∈ [0, 1, 2, 3, 4, 5, 6, 7, 8, 9, 10, 11, 12, 13, 14, 15, 16, 17, 18, 19, 20, 21, 22, 23, 24], _
      refine zA (yD 0 0 _ rfl rfl rfl rfl (fun _ _ _ _ => rfl) hLo rfl rfl rfl (by rfl) Tryd.underlying25 (by kernel_rfl) rfl (fun b G hb ho => zG rfl (HS2.get 4 rfl))) ?_
      refine zA (zV 1 _ #[.agg (FR () 6 ((p).sc))] rfl rfl rfl (fun _ _ _ _ => rfl) hLo rfl rfl Tryd.func11 rfl rfl (fun b G hb ho => args1 (zB hLo 0 rfl HS2.1 rfl (hb 0 (by rfl)))) (fun w hw => (by have hq := great_calls (hInp.below hw); rw [hr1] at hq; exact hq))) ?_
      refine zA (zC 2 _ rfl rfl hLo rfl rfl (fun _ _ _ _ => rfl) (fun b G w hb ho => zD (.inl rfl) (zB hLo 1 rfl HS2.1 rfl (hb 1 (by rfl))))) ?_
      refine zA (zH 3 rfl rfl hLo rfl rfl (fun b G hb ho => zE rfl rfl rfl HS2.1 rfl (zB hLo 2 rfl HS2.1 rfl (hb 2 (by rfl))) rfl)) ?_
      refine zA (zH 4 rfl rfl hLo rfl rfl (fun b G hb ho => zE rfl rfl rfl HS2.1 rfl (zB hLo 2 rfl HS2.1 rfl (hb 2 (by rfl))) rfl)) ?_
      refine zA (zC 5 _ rfl rfl hLo rfl rfl (fun _ _ _ _ => rfl) (fun b G w hb ho => zK rfl (zB hLo 2 rfl HS2.1 rfl (hb 2 (by rfl))) (rfl))) ?_
      refine zA (zC 6 _ rfl rfl hLo rfl rfl (fun _ _ _ _ => rfl) (fun b G w hb ho => zD (.inl rfl) (zB hLo 5 rfl HS2.1 rfl (hb 5 (by rfl))))) ?_
      refine zA (zH 7 rfl rfl hLo rfl rfl (fun b G hb ho => zE rfl rfl rfl HS2.1 rfl (zB hLo 6 rfl HS2.1 rfl (hb 6 (by rfl))) rfl)) ?_
      refine zA (zH 8 rfl rfl hLo rfl rfl (fun b G hb ho => zE rfl rfl rfl HS2.1 rfl (zB hLo 6 rfl HS2.1 rfl (hb 6 (by rfl))) rfl)) ?_
      refine zA (zH 9 rfl rfl hLo rfl rfl (fun b G hb ho => zE rfl rfl rfl HS2.1 rfl (zB hLo 6 rfl HS2.1 rfl (hb 6 (by rfl))) rfl)) ?_
      refine zA (zC 10 _ rfl rfl hLo rfl rfl (fun _ _ _ _ => rfl) (fun b G w hb ho => zK rfl (zB hLo 6 rfl HS2.1 rfl (hb 6 (by rfl))) (rfl))) ?_
      refine zA (zC 11 _ rfl rfl hLo rfl rfl (fun _ _ _ _ => rfl) (fun b G w hb ho => zD (.inl rfl) (zB hLo 10 rfl HS2.1 rfl (hb 10 (by rfl))))) ?_
      refine zA (zH 12 rfl rfl hLo rfl rfl (fun b G hb ho => zE rfl rfl rfl HS2.1 rfl (zB hLo 11 rfl HS2.1 rfl (hb 11 (by rfl))) rfl)) ?_
      refine zA (zH 13 rfl rfl hLo rfl rfl (fun b G hb ho => zE rfl rfl rfl HS2.1 rfl (zB hLo 11 rfl HS2.1 rfl (hb 11 (by rfl))) rfl)) ?_
      refine zA (zH 14 rfl rfl hLo rfl rfl (fun b G hb ho => zE rfl rfl rfl HS2.1 rfl (zB hLo 11 rfl HS2.1 rfl (hb 11 (by rfl))) rfl)) ?_
      refine zA (zH 15 rfl rfl hLo rfl rfl (fun b G hb ho => zE rfl rfl rfl HS2.1 rfl (zB hLo 11 rfl HS2.1 rfl (hb 11 (by rfl))) rfl)) ?_
      refine zA (zH 16 rfl rfl hLo rfl rfl (fun b G hb ho => zE rfl rfl rfl HS2.1 rfl (zB hLo 11 rfl HS2.1 rfl (hb 11 (by rfl))) rfl)) ?_
      refine zA (zH 17 rfl rfl hLo rfl rfl (fun b G hb ho => zE rfl rfl rfl HS2.1 rfl (zB hLo 11 rfl HS2.1 rfl (hb 11 (by rfl))) rfl)) ?_
      refine zA (zH 18 rfl rfl hLo rfl rfl (fun b G hb ho => zE rfl rfl rfl HS2.1 rfl (zB hLo 11 rfl HS2.1 rfl (hb 11 (by rfl))) rfl)) ?_
      refine zA (zH 19 rfl rfl hLo rfl rfl (fun b G hb ho => zE rfl rfl rfl HS2.1 rfl (zB hLo 11 rfl HS2.1 rfl (hb 11 (by rfl))) rfl)) ?_
      refine zA (zH 20 rfl rfl hLo rfl rfl (fun b G hb ho => zE rfl rfl rfl HS2.1 rfl (zB hLo 11 rfl HS2.1 rfl (hb 11 (by rfl))) rfl)) ?_
      refine zA (zH 21 rfl rfl hLo rfl rfl (fun b G hb ho => zE rfl rfl rfl HS2.1 rfl (zB hLo 11 rfl HS2.1 rfl (hb 11 (by rfl))) rfl)) ?_
      refine zA (zH 22 rfl rfl hLo rfl rfl (fun b G hb ho => zE rfl rfl rfl HS2.1 rfl (zB hLo 11 rfl HS2.1 rfl (hb 11 (by rfl))) rfl)) ?_
      refine zA (zC 23 _ rfl rfl hLo rfl rfl (fun _ _ _ _ => rfl) (fun b G w hb ho => zK rfl (zB hLo 11 rfl HS2.1 rfl (hb 11 (by rfl))) (rfl))) ?_
      refine zA (zC 24 _ rfl rfl hLo rfl rfl (fun _ _ _ _ => rfl) (fun b G w hb ho => zD (.inr rfl) (zB hLo 23 rfl HS2.1 rfl (hb 23 (by rfl))))) ?_
      exact zF
    clear hLo
    intro G a7 w7 hS hH
    have HS7 : Sl a7 35 [(0, .agg (FR () 6 ((p).sc))), (1, .agg (FR () 6 ((q).sc))), (2, .string (us)), (3, .int .i64 (mine)), (4, .pointer (some ⟨g1_0, 0, none⟩)), (5, .pointer (some ⟨g1_1, 0, none⟩)), (10, .bool false), (8, .bool true)] := hS
    have HH7 : Held w w7 [⟨g1_0, (), 6, (p).sc, 25⟩, ⟨g1_1, (), 6, (q).sc, 25⟩] := hH
    clear hS hH HS2 HH2
    refine then_ ?_
    refine wp_ret ?_
    repeat (first | refine zP ?_ | refine zL ?_)
    exact yI rfl HS7.2.1 (HS7.get 7 rfl) ⟨law_ret rfl, HH7.1⟩
end Go.Proofs.YtjpiofbedglagaaDoor.P
end
