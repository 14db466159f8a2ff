/- Merged of the texts: Ka, Vd, Kb, Kc, Kd, Ke, Kf (trim.py). -/
import Derived.Test.YtjpiofbedglagaaDoorYg4
section
namespace Go.Proofs.YtjpiofbedglagaaDoor.P
set_option linter.unusedVariables false
set_option linter.unusedSimpArgs false
open Go.RowKit Go.ChangeShapes Go.WideShapes Go.Proofs.YtjpiofbedglagaaDoorW.PrintWords Go.Proofs.YtjpiofbedglagaaDoorW.PrintLast Go.Proofs.YtjpiofbedglagaaDoorW.PrintMore
theorem name_bad {a b : T} {mine : Int} {i : Nat} (h : differs a b (NM i) = true) (h2 : mayB a b (NM i) mine = false) : nameOk a b mine i = false := by unfold nameOk; rw [h, h2]; rfl
theorem name_ok1 {a b : T} {mine : Int} {i : Nat} (h : differs a b (NM i) = false) : nameOk a b mine i = true := by unfold nameOk; rw [h]; rfl
theorem name_ok2 {a b : T} {mine : Int} {i : Nat} (h2 : mayB a b (NM i) mine = true) : nameOk a b mine i = true := by unfold nameOk; rw [h2, Bool.not_true, Bool.and_false]; rfl
theorem tt_below {W W' : World} {a : Addr} (h : ∀ i, i < 7 → W.cell? (a.add (i * 2)) = some (.string (NM i)) ∧ W.cell? (a.add (i * 2 + 1)) = some (.int .i64 (LV i))) (hb : Below W.heap.size W W') : ∀ i, i < 7 → W'.cell? (a.add (i * 2)) = some (.string (NM i)) ∧ W'.cell? (a.add (i * 2 + 1)) = some (.int .i64 (LV i)) :=
  fun i hi => ⟨bel_kept hb _ _ (h i hi).1, bel_kept hb _ _ (h i hi).2⟩
theorem bool_ret {b c : Bool} (h : c = b) : Ending.returned (.bool b) = .returned (.bool c) := by rw [h]
theorem TT.at {W : World} {a : Addr} (h : ∀ i, i < 7 → W.cell? (a.add (i * 2)) = some (.string (NM i)) ∧ W.cell? (a.add (i * 2 + 1)) = some (.int .i64 (LV i))) {i : Nat} (hi : i < 7) : ∀ j, j < 2 → W.cell? ((a.add (i * 2)).add j) = some (mkc () (lsc (ent i) j)) := Tab.at h hi
set_option maxHeartbeats 4000000 in
theorem change_calls {w : World} {p q : T} (user : ByteArray) (mine : Int) (hInp : In w p) (hInq : In w q) (hRp : Rises p) (hRq : Rises q) (hmp : ∀ k, (p.tbl k).ml ≤ 1073741824) (hmq : ∀ k, (q.tbl k).ml ≤ 1073741824) (hTab : Tab w) : Calls Tryd.prog 19 #[.agg (FR () 6 ((p).sc)), .agg (FR () 6 ((q).sc)), .string (user), .int .i64 (mine)] w fun e w' => e = .returned (.bool (chgB p q user mine)) ∧ Below w.heap.size w w' := by
  obtain ⟨ba, cn, hG, hT⟩ := hTab
  refine enter_ 120 Tryd.func19 rfl rfl (fun a0 hS => ?_)
  have HS0 : Sl a0 120 [(0, .agg (FR () 6 ((p).sc))), (1, .agg (FR () 6 ((q).sc))), (2, .string (user)), (3, .int .i64 (mine))] := hS
  have HH0 : Held w w [] := Held.first w
  clear hS
  refine wp_seq ?_
  have hLo : LOk [(0, 4, .new 0 (fun g => .pointer (some ⟨g, 0, none⟩))), (1, 5, .new 1 (fun g => .pointer (some ⟨g, 0, none⟩))), (2, 8, .val (.bool false))] := lok (by rfl) (by rfl)
  refine zH (wE := w) (sz := 120) (n := 3) [0, 1, 3] [(0, .val (.agg (FR () 6 ((p).sc)))), (1, .val (.agg (FR () 6 ((q).sc)))), (2, .val (.string (user))), (3, .val (.int .i64 (mine))), (4, .new 0 (fun g => .pointer (some ⟨g, 0, none⟩))), (5, .new 1 (fun g => .pointer (some ⟨g, 0, none⟩))), (8, .val (.bool false))] [(0, 4, .new 0 (fun g => .pointer (some ⟨g, 0, none⟩))), (1, 5, .new 1 (fun g => .pointer (some ⟨g, 0, none⟩))), (2, 8, .val (.bool false))] [⟨0, some 0, none, (), 6, (p).sc, (p).sc, 25⟩, ⟨0, some 1, none, (), 6, (q).sc, (q).sc, 25⟩] rfl (by rfl) HH0 rfl rfl hLo rfl HS0 (slS 0 rfl rfl (slS 1 rfl rfl (slS 2 rfl rfl (slS 3 rfl rfl (slL 0 (d := 0) rfl (slL 1 (d := 1) rfl (slL 2 (d := 2) rfl (trivial)))))))) ?_ ?_
  · show ∀ i ∈ [0, 1, 2], _
    refine zA (zZ 0 0 () 6 25 none _ _ rfl rfl (fun _ _ _ _ => rfl) rfl hLo rfl rfl rfl rfl (by rfl) (fun b G w hb ho => exec_box rfl (zG rfl (HS0.get 0 rfl)) (by kernel_rfl))) ?_
    refine zA (zZ 1 1 () 6 25 none _ _ rfl rfl (fun _ _ _ _ => rfl) rfl hLo rfl rfl rfl rfl (by rfl) (fun b G w hb ho => exec_box rfl (zG rfl (HS0.get 1 rfl)) (by kernel_rfl))) ?_
    refine zA (zB 2 _ rfl rfl hLo rfl rfl (fun _ _ _ _ => rfl) (fun b G w hb ho => zD (.inr rfl) (rfl))) ?_
    exact zF
  clear hLo
  intro G a1 w1 hS hH
  have HS1 : Sl a1 120 [(0, .agg (FR () 6 ((p).sc))), (1, .agg (FR () 6 ((q).sc))), (2, .string (user)), (3, .int .i64 (mine)), (4, .pointer (some ⟨(G 0), 0, none⟩)), (5, .pointer (some ⟨(G 1), 0, none⟩)), (8, .bool false)] := hS
  have HH1 : Held w w1 [⟨(G 0), (), 6, (p).sc, 25⟩, ⟨(G 1), (), 6, (q).sc, 25⟩] := hH
  clear hS hH HS0 HH0
  generalize G 0 = g1_0 at HS1 HH1
  generalize G 1 = g1_1 at HS1 HH1
  refine then_ ?_
  refine wp_seq ?_
  refine wp_seq ?_
  have hLo : LOk [(0, 25, .val (.slice (some ba) (7) (cn))), (1, 26, .val (.int .i64 (7))), (2, 27, .val (.int .i64 (0)))] := lok (by rfl) (by rfl)
  refine zH (wE := w) (sz := 120) (n := 3) [0, 1, 3] [(0, .val (.agg (FR () 6 ((p).sc)))), (1, .val (.agg (FR () 6 ((q).sc)))), (2, .val (.string (user))), (3, .val (.int .i64 (mine))), (4, .val (.pointer (some ⟨g1_0, 0, none⟩))), (5, .val (.pointer (some ⟨g1_1, 0, none⟩))), (8, .val (.bool false)), (25, .val (.slice (some ba) (7) (cn))), (26, .val (.int .i64 (7))), (27, .val (.int .i64 (0)))] [(0, 25, .val (.slice (some ba) (7) (cn))), (1, 26, .val (.int .i64 (7))), (2, 27, .val (.int .i64 (0)))] [⟨g1_0, none, none, (), 6, (p).sc, (p).sc, 25⟩, ⟨g1_1, none, none, (), 6, (q).sc, (q).sc, 25⟩] rfl (by rfl) HH1 rfl rfl hLo rfl HS1 (slS 0 rfl rfl (slS 1 rfl rfl (slS 2 rfl rfl (slS 3 rfl rfl (slS 4 rfl rfl (slS 5 rfl rfl (slS 6 rfl rfl (slL 0 (d := 0) rfl (slL 1 (d := 1) rfl (slL 2 (d := 2) rfl (trivial))))))))))) ?_ ?_
  · show ∀ i ∈ [0, 1, 2], _
    refine zA (st_at1 0 (⟨0, 0, none⟩) _ rfl rfl rfl (fun _ _ _ _ => rfl) hLo rfl rfl Tryd.underlying47 rfl (hG) (fun b G hb ho => rfl)) ?_
    refine zA (zB 1 _ rfl rfl hLo rfl rfl (fun _ _ _ _ => rfl) (fun b G w hb ho => yF Tryd.underlying47 rfl (zC hLo 0 rfl HS1.1 rfl (hb 0 (by rfl))))) ?_
    refine zA (zB 2 _ rfl rfl hLo rfl rfl (fun _ _ _ _ => rfl) (fun b G w hb ho => zD (.inl rfl) (rfl))) ?_
    exact zF
  clear hLo
  intro G a2 w2 hS hH
  have HS2 : Sl a2 120 [(0, .agg (FR () 6 ((p).sc))), (1, .agg (FR () 6 ((q).sc))), (2, .string (user)), (3, .int .i64 (mine)), (4, .pointer (some ⟨g1_0, 0, none⟩)), (5, .pointer (some ⟨g1_1, 0, none⟩)), (8, .bool false), (25, .slice (some ba) (7) (cn)), (26, .int .i64 (7)), (27, .int .i64 (0))] := hS
  have HH2 : Held w w2 [⟨g1_0, (), 6, (p).sc, 25⟩, ⟨g1_1, (), 6, (q).sc, 25⟩] := hH
  clear hS hH HS1 HH1
  refine then_ ?_
  refine wp_block ?_
  have hSq0 : Sl _ 120 [(0, .agg (FR () 6 ((p).sc))), (1, .agg (FR () 6 ((q).sc))), (2, .string (user)), (3, .int .i64 (mine)), (4, .pointer (some ⟨g1_0, 0, none⟩)), (5, .pointer (some ⟨g1_1, 0, none⟩)), (25, .slice (some ba) (7) (cn)), (26, .int .i64 (7)), (27, .int .i64 (0))] := yA HS2 [0, 1, 2, 3, 4, 5, 7, 8, 9] (by rfl)
  refine wp_loop (fun a w' => ∃ i : Nat, i ≤ 7 ∧ allB (nameOk p q mine) i = true ∧ Sl a 120 [(0, .agg (FR () 6 ((p).sc))), (1, .agg (FR () 6 ((q).sc))), (2, .string (user)), (3, .int .i64 (mine)), (4, .pointer (some ⟨g1_0, 0, none⟩)), (5, .pointer (some ⟨g1_1, 0, none⟩)), (25, .slice (some ba) (7) (cn)), (26, .int .i64 (7)), (27, .int .i64 ((i : Int)))] ∧ Held w w' [⟨g1_0, (), 6, (p).sc, 25⟩, ⟨g1_1, (), 6, (q).sc, 25⟩]) (fun a w' => 7 - (intOf (a.eval (.tmp 27))).toNat) ⟨0, Nat.zero_le _, rfl, hSq0, HH2⟩ ?_
  clear hSq0 HS2 HH2
  rintro aq0 wq0 ⟨i, hlei, hpi, HSq0, HHq0⟩
  have hm' : (intOf (aq0.eval (.tmp 27))).toNat = i := by rw [(HSq0.get 8 rfl)]; rfl
  rw [hm']
  clear hm'
  obtain ⟨r1, hr1⟩ : ∃ r : Bool, (decide (((i : Int) : Int) < 7)) = r := ⟨_, rfl⟩
  refine wp_seq ?_
  have hLo : LOk [(0, 28, .val (.bool r1))] := lok (by rfl) (by rfl)
  refine zH (wE := w) (sz := 120) (n := 1) [0] [(0, .val (.agg (FR () 6 ((p).sc)))), (1, .val (.agg (FR () 6 ((q).sc)))), (2, .val (.string (user))), (3, .val (.int .i64 (mine))), (4, .val (.pointer (some ⟨g1_0, 0, none⟩))), (5, .val (.pointer (some ⟨g1_1, 0, none⟩))), (25, .val (.slice (some ba) (7) (cn))), (26, .val (.int .i64 (7))), (27, .val (.int .i64 ((i : Int)))), (28, .val (.bool r1))] [(0, 28, .val (.bool r1))] [⟨g1_0, none, none, (), 6, (p).sc, (p).sc, 25⟩, ⟨g1_1, none, none, (), 6, (q).sc, (q).sc, 25⟩] rfl (by rfl) HHq0 rfl rfl hLo rfl HSq0 (slS 0 rfl rfl (slS 1 rfl rfl (slS 2 rfl rfl (slS 3 rfl rfl (slS 4 rfl rfl (slS 5 rfl rfl (slS 6 rfl rfl (slS 7 rfl rfl (slS 8 rfl rfl (slL 0 (d := 0) rfl (trivial))))))))))) ?_ ?_
  · show ∀ i ∈ [0], _
    refine zA (zB 0 _ rfl rfl hLo rfl rfl (fun _ _ _ _ => rfl) (fun b G w hb ho => zI rfl (zG rfl (HSq0.get 8 rfl)) (zG rfl (HSq0.get 7 rfl)) (rb_lss hr1 _ _ _))) ?_
    exact zF
  clear hLo
  intro G a3 w3 hS hH
  have HS3 : Sl a3 120 [(0, .agg (FR () 6 ((p).sc))), (1, .agg (FR () 6 ((q).sc))), (2, .string (user)), (3, .int .i64 (mine)), (4, .pointer (some ⟨g1_0, 0, none⟩)), (5, .pointer (some ⟨g1_1, 0, none⟩)), (25, .slice (some ba) (7) (cn)), (26, .int .i64 (7)), (27, .int .i64 ((i : Int))), (28, .bool r1)] := hS
  have HH3 : Held w w3 [⟨g1_0, (), 6, (p).sc, 25⟩, ⟨g1_1, (), 6, (q).sc, 25⟩] := hH
  clear hS hH HSq0 HHq0
  refine then_ ?_
  refine wp_seq ?_
  cases r1
  · skip
    have hendi : i = 7 := by have := of_decide_eq_false hr1; omega
    have hqi := hpi
    rw [hendi] at hqi
    refine wp_cond_false (HS3.get 9 rfl) ?_
    refine wp_exit ?_
    refine zY ?_
    refine zY ?_
    refine yE ?_
    refine then_ ?_
    refine wp_seq ?_
    refine wp_seq ?_
    refine whole_ ?_
    refine cut_call _ rfl rfl rfl rfl Tryd.func33 rfl rfl (args0 ) (tables_calls _) HS3 rfl ?_
    rintro e4 w4 ⟨⟨gt, rfl, hTN⟩, hbt⟩
    refine ⟨_, rfl, fun a4 hS => ?_⟩
    have HS5 : Sl a4 120 [(63, .slice (some ⟨gt, 0, none⟩) (3) (3)), (0, .agg (FR () 6 ((p).sc))), (1, .agg (FR () 6 ((q).sc))), (2, .string (user)), (3, .int .i64 (mine)), (4, .pointer (some ⟨g1_0, 0, none⟩)), (5, .pointer (some ⟨g1_1, 0, none⟩)), (25, .slice (some ba) (7) (cn)), (26, .int .i64 (7)), (27, .int .i64 ((i : Int))), (28, .bool false)] := hS
    have HH5 : Held w w4 [⟨g1_0, (), 6, (p).sc, 25⟩, ⟨g1_1, (), 6, (q).sc, 25⟩] := HH3.call hbt
    clear hS
    have hRow6_0 := HH5.row 0 rfl
    have hRow6_1 := HH5.row 1 rfl
    have hInp_6 := hInp.below HH5.1
    have hInq_6 := hInq.below HH5.1
    have hG_6 := bel_kept HH5.1 _ _ hG
    have hT_6 := tt_below hT HH5.1
    have HH6 : Held w4 w4 [] := Held.first w4
    have HS6 : Sl a4 120 [(63, .slice (some ⟨gt, 0, none⟩) (3) (3)), (0, .agg (FR () 6 ((p).sc))), (1, .agg (FR () 6 ((q).sc))), (2, .string (user)), (3, .int .i64 (mine)), (4, .pointer (some (⟨g1_0, 0, none⟩))), (5, .pointer (some (⟨g1_1, 0, none⟩))), (25, .slice (some ba) (7) (cn)), (26, .int .i64 (7)), (27, .int .i64 ((i : Int))), (28, .bool false)] := HS5
    have hLo : LOk [(1, 64, .val (.int .i64 (3))), (2, 65, .val (.int .i64 (0)))] := lok (by rfl) (by rfl)
    refine part_ (wE := w4) (sz := 120) (n := 3) 1 3 [0, 1, 3] [(63, .val (.slice (some ⟨gt, 0, none⟩) (3) (3))), (0, .val (.agg (FR () 6 ((p).sc)))), (1, .val (.agg (FR () 6 ((q).sc)))), (2, .val (.string (user))), (3, .val (.int .i64 (mine))), (4, .val (.pointer (some (⟨g1_0, 0, none⟩)))), (5, .val (.pointer (some (⟨g1_1, 0, none⟩)))), (25, .val (.slice (some ba) (7) (cn))), (26, .val (.int .i64 (7))), (27, .val (.int .i64 ((i : Int)))), (28, .val (.bool false)), (64, .val (.int .i64 (3))), (65, .val (.int .i64 (0)))] [(1, 64, .val (.int .i64 (3))), (2, 65, .val (.int .i64 (0)))] [] rfl rfl (by rfl) HH6 rfl rfl hLo rfl HS6 (slS 0 rfl rfl (slS 1 rfl rfl (slS 2 rfl rfl (slS 3 rfl rfl (slS 4 rfl rfl (slS 5 rfl rfl (slS 6 rfl rfl (slS 7 rfl rfl (slS 8 rfl rfl (slS 9 rfl rfl (slS 10 rfl rfl (slL 0 (d := 1) rfl (slL 1 (d := 2) rfl (trivial)))))))))))))) ?_ ?_
    · show ∀ i ∈ [1, 2], _
      refine zA (zB 0 _ rfl rfl hLo rfl rfl (fun _ _ _ _ => rfl) (fun b G w hb ho => yF Tryd.underlying54 rfl (zG rfl (HS6.get 0 rfl)))) ?_
      refine zA (zB 1 _ rfl rfl hLo rfl rfl (fun _ _ _ _ => rfl) (fun b G w hb ho => zD (.inl rfl) (rfl))) ?_
      exact zF
    clear hLo
    intro G a7 w7 hS hH
    have HS7 : Sl a7 120 [(63, .slice (some ⟨gt, 0, none⟩) (3) (3)), (0, .agg (FR () 6 ((p).sc))), (1, .agg (FR () 6 ((q).sc))), (2, .string (user)), (3, .int .i64 (mine)), (4, .pointer (some (⟨g1_0, 0, none⟩))), (5, .pointer (some (⟨g1_1, 0, none⟩))), (25, .slice (some ba) (7) (cn)), (26, .int .i64 (7)), (27, .int .i64 ((i : Int))), (28, .bool false), (64, .int .i64 (3)), (65, .int .i64 (0))] := hS
    have HH7 : Held w4 w7 [] := hH
    clear hS hH HS6 HH6
    refine end_ rfl ?_
    refine then_ ?_
    refine wp_block ?_
    have hSq1 : Sl _ 120 [(63, .slice (some ⟨gt, 0, none⟩) (3) (3)), (0, .agg (FR () 6 ((p).sc))), (1, .agg (FR () 6 ((q).sc))), (2, .string (user)), (3, .int .i64 (mine)), (4, .pointer (some (⟨g1_0, 0, none⟩))), (5, .pointer (some (⟨g1_1, 0, none⟩))), (25, .slice (some ba) (7) (cn)), (26, .int .i64 (7)), (27, .int .i64 ((i : Int))), (28, .bool false), (64, .int .i64 (3)), (65, .int .i64 (0))] := yA HS7 [0, 1, 2, 3, 4, 5, 6, 7, 8, 9, 10, 11, 12] (by rfl)
    refine wp_loop (fun a w' => ∃ j : Nat, j ≤ 3 ∧ allB (tabOk p q user mine) j = true ∧ Sl a 120 [(63, .slice (some ⟨gt, 0, none⟩) (3) (3)), (0, .agg (FR () 6 ((p).sc))), (1, .agg (FR () 6 ((q).sc))), (2, .string (user)), (3, .int .i64 (mine)), (4, .pointer (some (⟨g1_0, 0, none⟩))), (5, .pointer (some (⟨g1_1, 0, none⟩))), (25, .slice (some ba) (7) (cn)), (26, .int .i64 (7)), (27, .int .i64 ((i : Int))), (28, .bool false), (64, .int .i64 (3)), (65, .int .i64 ((j : Int)))] ∧ Held w4 w' []) (fun a w' => 3 - (intOf (a.eval (.tmp 65))).toNat) ⟨0, Nat.zero_le _, rfl, hSq1, HH7⟩ ?_
    clear hSq1 HS7 HH7
    rintro aq1 wq1 ⟨j, hlej, hpj, HSq1, HHq1⟩
    have hm' : (intOf (aq1.eval (.tmp 65))).toNat = j := by rw [(HSq1.get 12 rfl)]; rfl
    rw [hm']
    clear hm'
    obtain ⟨x, hx⟩ : ∃ t : T, t = p.tbl (TN j) := ⟨_, rfl⟩
    have hInx : In w4 x := by rw [hx]; exact hInp_6.tbl
    have hRx : Rises x := by rw [hx]; exact hRp.tbl
    have hmx : x.ml ≤ 1073741824 := by rw [hx]; exact hmp _
    obtain ⟨y, hy⟩ : ∃ t : T, t = q.tbl (TN j) := ⟨_, rfl⟩
    have hIny : In w4 y := by rw [hy]; exact hInq_6.tbl
    have hRy : Rises y := by rw [hy]; exact hRq.tbl
    have hmy : y.ml ≤ 1073741824 := by rw [hy]; exact hmq _
    obtain ⟨r2, hr2⟩ : ∃ r : Bool, (decide (((j : Int) : Int) < 3)) = r := ⟨_, rfl⟩
    refine wp_seq ?_
    have hLo : LOk [(0, 66, .val (.bool r2))] := lok (by rfl) (by rfl)
    refine zH (wE := w4) (sz := 120) (n := 1) [0] [(63, .val (.slice (some ⟨gt, 0, none⟩) (3) (3))), (0, .val (.agg (FR () 6 ((p).sc)))), (1, .val (.agg (FR () 6 ((q).sc)))), (2, .val (.string (user))), (3, .val (.int .i64 (mine))), (4, .val (.pointer (some (⟨g1_0, 0, none⟩)))), (5, .val (.pointer (some (⟨g1_1, 0, none⟩)))), (25, .val (.slice (some ba) (7) (cn))), (26, .val (.int .i64 (7))), (27, .val (.int .i64 ((i : Int)))), (28, .val (.bool false)), (64, .val (.int .i64 (3))), (65, .val (.int .i64 ((j : Int)))), (66, .val (.bool r2))] [(0, 66, .val (.bool r2))] [] rfl (by rfl) HHq1 rfl rfl hLo rfl HSq1 (slS 0 rfl rfl (slS 1 rfl rfl (slS 2 rfl rfl (slS 3 rfl rfl (slS 4 rfl rfl (slS 5 rfl rfl (slS 6 rfl rfl (slS 7 rfl rfl (slS 8 rfl rfl (slS 9 rfl rfl (slS 10 rfl rfl (slS 11 rfl rfl (slS 12 rfl rfl (slL 0 (d := 0) rfl (trivial))))))))))))))) ?_ ?_
    · show ∀ i ∈ [0], _
      refine zA (zB 0 _ rfl rfl hLo rfl rfl (fun _ _ _ _ => rfl) (fun b G w hb ho => zI rfl (zG rfl (HSq1.get 12 rfl)) (zG rfl (HSq1.get 11 rfl)) (rb_lss hr2 _ _ _))) ?_
      exact zF
    clear hLo
    intro G a8 w8 hS hH
    have HS8 : Sl a8 120 [(63, .slice (some ⟨gt, 0, none⟩) (3) (3)), (0, .agg (FR () 6 ((p).sc))), (1, .agg (FR () 6 ((q).sc))), (2, .string (user)), (3, .int .i64 (mine)), (4, .pointer (some (⟨g1_0, 0, none⟩))), (5, .pointer (some (⟨g1_1, 0, none⟩))), (25, .slice (some ba) (7) (cn)), (26, .int .i64 (7)), (27, .int .i64 ((i : Int))), (28, .bool false), (64, .int .i64 (3)), (65, .int .i64 ((j : Int))), (66, .bool r2)] := hS
    have HH8 : Held w4 w8 [] := hH
    clear hS hH HSq1 HHq1
    refine then_ ?_
    refine wp_seq ?_
    cases r2
    · skip
      have hendj : j = 3 := by have := of_decide_eq_false hr2; omega
      have hqj := hpj
      rw [hendj] at hqj
      refine wp_cond_false (HS8.get 13 rfl) ?_
      refine wp_exit ?_
      refine zY ?_
      refine zY ?_
      refine yE ?_
      refine then_ ?_
      refine wp_seq ?_
      have hLo : LOk [(0, 8, .val (.bool true))] := lok (by rfl) (by rfl)
      refine zH (wE := w4) (sz := 120) (n := 1) [0] [(63, .val (.slice (some ⟨gt, 0, none⟩) (3) (3))), (0, .val (.agg (FR () 6 ((p).sc)))), (1, .val (.agg (FR () 6 ((q).sc)))), (2, .val (.string (user))), (3, .val (.int .i64 (mine))), (4, .val (.pointer (some (⟨g1_0, 0, none⟩)))), (5, .val (.pointer (some (⟨g1_1, 0, none⟩)))), (25, .val (.slice (some ba) (7) (cn))), (26, .val (.int .i64 (7))), (27, .val (.int .i64 ((i : Int)))), (28, .val (.bool false)), (64, .val (.int .i64 (3))), (65, .val (.int .i64 ((j : Int)))), (66, .val (.bool false)), (8, .val (.bool true))] [(0, 8, .val (.bool true))] [] rfl (by rfl) HH8 rfl rfl hLo rfl HS8 (slS 0 rfl rfl (slS 1 rfl rfl (slS 2 rfl rfl (slS 3 rfl rfl (slS 4 rfl rfl (slS 5 rfl rfl (slS 6 rfl rfl (slS 7 rfl rfl (slS 8 rfl rfl (slS 9 rfl rfl (slS 10 rfl rfl (slS 11 rfl rfl (slS 12 rfl rfl (slS 13 rfl rfl (slL 0 (d := 0) rfl (trivial)))))))))))))))) ?_ ?_
      · show ∀ i ∈ [0], _
        refine zA (zB 0 _ rfl rfl hLo rfl rfl (fun _ _ _ _ => rfl) (fun b G w hb ho => zD (.inr rfl) (rfl))) ?_
        exact zF
      clear hLo
      intro G a9 w9 hS hH
      have HS9 : Sl a9 120 [(63, .slice (some ⟨gt, 0, none⟩) (3) (3)), (0, .agg (FR () 6 ((p).sc))), (1, .agg (FR () 6 ((q).sc))), (2, .string (user)), (3, .int .i64 (mine)), (4, .pointer (some (⟨g1_0, 0, none⟩))), (5, .pointer (some (⟨g1_1, 0, none⟩))), (25, .slice (some ba) (7) (cn)), (26, .int .i64 (7)), (27, .int .i64 ((i : Int))), (28, .bool false), (64, .int .i64 (3)), (65, .int .i64 ((j : Int))), (66, .bool false), (8, .bool true)] := hS
      have HH9 : Held w4 w9 [] := hH
      clear hS hH HS8 HH8
      refine then_ ?_
      refine wp_ret ?_
      repeat (first | refine zR ?_ | refine zK ?_)
      have HH10 := Held.back HH5 HH9
      exact b_tmp rfl HS9.2.1 (HS9.get 14 rfl) ⟨bool_ret (chg_yes hqi hqj), HH10.1⟩
    · skip
      have hltj : j < 3 := by have := of_decide_eq_true hr2; omega
      refine wp_cond_true (HS8.get 13 rfl) ?_
      refine wp_skip ?_
      refine then_ ?_
      refine wp_seq ?_
      refine wp_block ?_
      obtain ⟨xj, hxj, hcj⟩ := hTN j hltj
      refine wp_seq ?_
      have hLo : LOk [(0, 67, .val (.pointer (some (xj.add ((j) * 1))))), (1, 68, .val (.string (TN (j)))), (2, 16, .val (.string (TN (j))))] := lok (by rfl) (by rfl)
      refine zH (wE := w4) (sz := 120) (n := 3) [0, 1, 3] [(63, .val (.slice (some ⟨gt, 0, none⟩) (3) (3))), (0, .val (.agg (FR () 6 ((p).sc)))), (1, .val (.agg (FR () 6 ((q).sc)))), (2, .val (.string (user))), (3, .val (.int .i64 (mine))), (4, .val (.pointer (some (⟨g1_0, 0, none⟩)))), (5, .val (.pointer (some (⟨g1_1, 0, none⟩)))), (25, .val (.slice (some ba) (7) (cn))), (26, .val (.int .i64 (7))), (27, .val (.int .i64 ((i : Int)))), (28, .val (.bool false)), (64, .val (.int .i64 (3))), (65, .val (.int .i64 ((j : Int)))), (66, .val (.bool true)), (16, .val (.string (TN (j))))] [(0, 67, .val (.pointer (some (xj.add ((j) * 1))))), (1, 68, .val (.string (TN (j)))), (2, 16, .val (.string (TN (j))))] [] rfl (by rfl) HH8 rfl rfl hLo rfl HS8 (slS 0 rfl rfl (slS 1 rfl rfl (slS 2 rfl rfl (slS 3 rfl rfl (slS 4 rfl rfl (slS 5 rfl rfl (slS 6 rfl rfl (slS 7 rfl rfl (slS 8 rfl rfl (slS 9 rfl rfl (slS 10 rfl rfl (slS 11 rfl rfl (slS 12 rfl rfl (slS 13 rfl rfl (slL 2 (d := 2) rfl (trivial)))))))))))))))) ?_ ?_
      · show ∀ i ∈ [0, 1, 2], _
        refine zA (zB 0 _ rfl rfl hLo rfl rfl (fun _ _ _ _ => rfl) (fun b G w hb ho => zU rfl (zG rfl (HS8.get 0 rfl)) (zG rfl (HS8.get 12 rfl)) (index_sl Tryd.underlying54 (by kernel_rfl) hxj hltj _))) ?_
        refine zA (st_at1 1 (xj.add ((j) * 1)) _ rfl rfl rfl (fun _ _ _ _ => rfl) hLo rfl rfl Tryd.underlying9 rfl (hcj) (fun b G hb ho => zC hLo 0 rfl HS8.1 rfl (hb 0 (by rfl)))) ?_
        refine zA (zB 2 _ rfl rfl hLo rfl rfl (fun _ _ _ _ => rfl) (fun b G w hb ho => zD (.inr rfl) (zC hLo 1 rfl HS8.1 rfl (hb 1 (by rfl))))) ?_
        exact zF
      clear hLo
      intro G a11 w11 hS hH
      have HS11 : Sl a11 120 [(63, .slice (some ⟨gt, 0, none⟩) (3) (3)), (0, .agg (FR () 6 ((p).sc))), (1, .agg (FR () 6 ((q).sc))), (2, .string (user)), (3, .int .i64 (mine)), (4, .pointer (some (⟨g1_0, 0, none⟩))), (5, .pointer (some (⟨g1_1, 0, none⟩))), (25, .slice (some ba) (7) (cn)), (26, .int .i64 (7)), (27, .int .i64 ((i : Int))), (28, .bool false), (64, .int .i64 (3)), (65, .int .i64 ((j : Int))), (66, .bool true), (16, .string (TN (j)))] := hS
      have HH11 : Held w4 w11 [] := hH
      clear hS hH HS8 HH8
      refine then_ ?_
      refine wp_seq ?_
      have hLo : LOk [(0, 70, .val (.agg (FR () 6 ((p).sc)))), (1, 71, .val (.string (TN (j)))), (2, 72, .val (.tuple #[.agg (FR () 6 ((x).sc)), .bool ((p.get (TN (j))).isSome)])), (3, 69, .val (.tuple #[.agg (FR () 6 ((x).sc)), .bool ((p.get (TN (j))).isSome)])), (4, 73, .val (.agg (FR () 6 ((x).sc)))), (5, 74, .val (.bool ((p.get (TN (j))).isSome))), (6, 17, .new 6 (fun g => .pointer (some ⟨g, 0, none⟩))), (8, 18, .val (.bool ((p.get (TN (j))).isSome)))] := lok (by rfl) (by rfl)
      refine zH (wE := w4) (sz := 120) (n := 9) [0, 1, 3, 7, 15, 31, 63, 127, 255] [(63, .val (.slice (some ⟨gt, 0, none⟩) (3) (3))), (0, .val (.agg (FR () 6 ((p).sc)))), (1, .val (.agg (FR () 6 ((q).sc)))), (2, .val (.string (user))), (3, .val (.int .i64 (mine))), (4, .val (.pointer (some (⟨g1_0, 0, none⟩)))), (5, .val (.pointer (some (⟨g1_1, 0, none⟩)))), (25, .val (.slice (some ba) (7) (cn))), (26, .val (.int .i64 (7))), (27, .val (.int .i64 ((i : Int)))), (28, .val (.bool false)), (64, .val (.int .i64 (3))), (65, .val (.int .i64 ((j : Int)))), (66, .val (.bool true)), (16, .val (.string (TN (j)))), (17, .new 6 (fun g => .pointer (some ⟨g, 0, none⟩)))] [(0, 70, .val (.agg (FR () 6 ((p).sc)))), (1, 71, .val (.string (TN (j)))), (2, 72, .val (.tuple #[.agg (FR () 6 ((x).sc)), .bool ((p.get (TN (j))).isSome)])), (3, 69, .val (.tuple #[.agg (FR () 6 ((x).sc)), .bool ((p.get (TN (j))).isSome)])), (4, 73, .val (.agg (FR () 6 ((x).sc)))), (5, 74, .val (.bool ((p.get (TN (j))).isSome))), (6, 17, .new 6 (fun g => .pointer (some ⟨g, 0, none⟩))), (8, 18, .val (.bool ((p.get (TN (j))).isSome)))] [⟨0, some 6, some 7, (), 6, lsc [.i .i64 (0), .b (false), .i .i64 (0), .s (ByteArray.empty), .sl (none) (0) (0), .sl (none) (0) (0)], (x).sc, 25⟩] rfl (by rfl) HH11 rfl rfl hLo rfl HS11 (slS 0 rfl rfl (slS 1 rfl rfl (slS 2 rfl rfl (slS 3 rfl rfl (slS 4 rfl rfl (slS 5 rfl rfl (slS 6 rfl rfl (slS 7 rfl rfl (slS 8 rfl rfl (slS 9 rfl rfl (slS 10 rfl rfl (slS 11 rfl rfl (slS 12 rfl rfl (slS 13 rfl rfl (slS 14 rfl rfl (slL 6 (d := 6) rfl (trivial))))))))))))))))) ?_ ?_
      · show ∀ i ∈ [0, 1, 2, 3, 4, 5, 6, 7, 8], _
        refine zA (st_at 0 (⟨g1_0, 0, none⟩) rfl rfl rfl (fun _ _ _ _ => rfl) hLo rfl rfl Tryd.underlying25 (by kernel_rfl) rfl (row_at hRow6_0) (fun b G hb ho => zG rfl (HS11.get 5 rfl))) ?_
        refine zA (zB 1 _ rfl rfl hLo rfl rfl (fun _ _ _ _ => rfl) (fun b G w hb ho => zD (.inl rfl) (zG rfl (HS11.get 14 rfl)))) ?_
        refine zA (yB 2 _ #[.agg (FR () 6 ((p).sc)), .string (TN (j))] rfl rfl rfl (fun _ _ _ _ => rfl) hLo rfl rfl Tryd.func31 rfl rfl (fun b G hb ho => args2 (zC hLo 0 rfl HS11.1 rfl (hb 0 (by rfl))) (zC hLo 1 rfl HS11.1 rfl (hb 1 (by rfl)))) (fun w hw => (by have hq := get_calls (t := p) (TN (j)) (hInp_6.below hw) hRp.rise; rw [← hx] at hq; exact hq))) ?_
        refine zA (zB 3 _ rfl rfl hLo rfl rfl (fun _ _ _ _ => rfl) (fun b G w hb ho => zD (.inl rfl) (zC hLo 2 rfl HS11.1 rfl (hb 2 (by rfl))))) ?_
        refine zA (zB 4 _ rfl rfl hLo rfl rfl (fun _ _ _ _ => rfl) (fun b G w hb ho => zX rfl (zC hLo 3 rfl HS11.1 rfl (hb 3 (by rfl))) (by rfl))) ?_
        refine zA (zB 5 _ rfl rfl hLo rfl rfl (fun _ _ _ _ => rfl) (fun b G w hb ho => zX rfl (zC hLo 3 rfl HS11.1 rfl (hb 3 (by rfl))) (by rfl))) ?_
        refine zA (zZ 6 0 () 6 25 (some 7) _ _ rfl rfl (fun _ _ _ _ => rfl) rfl hLo rfl rfl rfl rfl (by rfl) (fun b G w _ _ => by kernel_rfl)) ?_
        refine zA (st_store 0 _ rfl rfl rfl rfl rfl (fun _ _ _ _ => rfl) rfl rfl rfl (by rfl) (by kernel_rfl) (fun b G hb ho => zC hLo 6 rfl HS11.1 rfl (hb 6 (by rfl))) (fun b G hb ho => zC hLo 4 rfl HS11.1 rfl (hb 4 (by rfl)))) ?_
        refine zA (zB 7 _ rfl rfl hLo rfl rfl (fun _ _ _ _ => rfl) (fun b G w hb ho => zD (.inr rfl) (zC hLo 5 rfl HS11.1 rfl (hb 5 (by rfl))))) ?_
        exact zF
      clear hLo
      intro G a12 w12 hS hH
      have HS12 : Sl a12 120 [(63, .slice (some ⟨gt, 0, none⟩) (3) (3)), (0, .agg (FR () 6 ((p).sc))), (1, .agg (FR () 6 ((q).sc))), (2, .string (user)), (3, .int .i64 (mine)), (4, .pointer (some (⟨g1_0, 0, none⟩))), (5, .pointer (some (⟨g1_1, 0, none⟩))), (25, .slice (some ba) (7) (cn)), (26, .int .i64 (7)), (27, .int .i64 ((i : Int))), (28, .bool false), (64, .int .i64 (3)), (65, .int .i64 ((j : Int))), (66, .bool true), (16, .string (TN (j))), (17, .pointer (some ⟨(G 6), 0, none⟩))] := hS
      have HH12 : Held w4 w12 [⟨(G 6), (), 6, (x).sc, 25⟩] := hH
      clear hS hH HS11 HH11
      generalize G 6 = g12_6 at HS12 HH12
      refine then_ ?_
      refine wp_seq ?_
      have hLo : LOk [(0, 76, .val (.agg (FR () 6 ((q).sc)))), (1, 77, .val (.string (TN (j)))), (2, 78, .val (.tuple #[.agg (FR () 6 ((y).sc)), .bool ((q.get (TN (j))).isSome)])), (3, 75, .val (.tuple #[.agg (FR () 6 ((y).sc)), .bool ((q.get (TN (j))).isSome)])), (4, 79, .val (.agg (FR () 6 ((y).sc)))), (5, 80, .val (.bool ((q.get (TN (j))).isSome))), (6, 19, .new 6 (fun g => .pointer (some ⟨g, 0, none⟩))), (8, 20, .val (.bool ((q.get (TN (j))).isSome)))] := lok (by rfl) (by rfl)
      refine zH (wE := w4) (sz := 120) (n := 9) [0, 1, 3, 7, 15, 31, 63, 127, 255] [(63, .val (.slice (some ⟨gt, 0, none⟩) (3) (3))), (0, .val (.agg (FR () 6 ((p).sc)))), (1, .val (.agg (FR () 6 ((q).sc)))), (2, .val (.string (user))), (3, .val (.int .i64 (mine))), (4, .val (.pointer (some (⟨g1_0, 0, none⟩)))), (5, .val (.pointer (some (⟨g1_1, 0, none⟩)))), (25, .val (.slice (some ba) (7) (cn))), (26, .val (.int .i64 (7))), (27, .val (.int .i64 ((i : Int)))), (28, .val (.bool false)), (64, .val (.int .i64 (3))), (65, .val (.int .i64 ((j : Int)))), (66, .val (.bool true)), (16, .val (.string (TN (j)))), (17, .val (.pointer (some ⟨g12_6, 0, none⟩))), (19, .new 6 (fun g => .pointer (some ⟨g, 0, none⟩)))] [(0, 76, .val (.agg (FR () 6 ((q).sc)))), (1, 77, .val (.string (TN (j)))), (2, 78, .val (.tuple #[.agg (FR () 6 ((y).sc)), .bool ((q.get (TN (j))).isSome)])), (3, 75, .val (.tuple #[.agg (FR () 6 ((y).sc)), .bool ((q.get (TN (j))).isSome)])), (4, 79, .val (.agg (FR () 6 ((y).sc)))), (5, 80, .val (.bool ((q.get (TN (j))).isSome))), (6, 19, .new 6 (fun g => .pointer (some ⟨g, 0, none⟩))), (8, 20, .val (.bool ((q.get (TN (j))).isSome)))] [⟨g12_6, none, none, (), 6, (x).sc, (x).sc, 25⟩, ⟨0, some 6, some 7, (), 6, lsc [.i .i64 (0), .b (false), .i .i64 (0), .s (ByteArray.empty), .sl (none) (0) (0), .sl (none) (0) (0)], (y).sc, 25⟩] rfl (by rfl) HH12 rfl rfl hLo rfl HS12 (slS 0 rfl rfl (slS 1 rfl rfl (slS 2 rfl rfl (slS 3 rfl rfl (slS 4 rfl rfl (slS 5 rfl rfl (slS 6 rfl rfl (slS 7 rfl rfl (slS 8 rfl rfl (slS 9 rfl rfl (slS 10 rfl rfl (slS 11 rfl rfl (slS 12 rfl rfl (slS 13 rfl rfl (slS 14 rfl rfl (slS 15 rfl rfl (slL 6 (d := 6) rfl (trivial)))))))))))))))))) ?_ ?_
      · show ∀ i ∈ [0, 1, 2, 3, 4, 5, 6, 7, 8], _
        refine zA (st_at 0 (⟨g1_1, 0, none⟩) rfl rfl rfl (fun _ _ _ _ => rfl) hLo rfl rfl Tryd.underlying25 (by kernel_rfl) rfl (row_at hRow6_1) (fun b G hb ho => zG rfl (HS12.get 6 rfl))) ?_
        refine zA (zB 1 _ rfl rfl hLo rfl rfl (fun _ _ _ _ => rfl) (fun b G w hb ho => zD (.inl rfl) (zG rfl (HS12.get 14 rfl)))) ?_
        refine zA (yB 2 _ #[.agg (FR () 6 ((q).sc)), .string (TN (j))] rfl rfl rfl (fun _ _ _ _ => rfl) hLo rfl rfl Tryd.func31 rfl rfl (fun b G hb ho => args2 (zC hLo 0 rfl HS12.1 rfl (hb 0 (by rfl))) (zC hLo 1 rfl HS12.1 rfl (hb 1 (by rfl)))) (fun w hw => (by have hq := get_calls (t := q) (TN (j)) (hInq_6.below hw) hRq.rise; rw [← hy] at hq; exact hq))) ?_
        refine zA (zB 3 _ rfl rfl hLo rfl rfl (fun _ _ _ _ => rfl) (fun b G w hb ho => zD (.inl rfl) (zC hLo 2 rfl HS12.1 rfl (hb 2 (by rfl))))) ?_
        refine zA (zB 4 _ rfl rfl hLo rfl rfl (fun _ _ _ _ => rfl) (fun b G w hb ho => zX rfl (zC hLo 3 rfl HS12.1 rfl (hb 3 (by rfl))) (by rfl))) ?_
        refine zA (zB 5 _ rfl rfl hLo rfl rfl (fun _ _ _ _ => rfl) (fun b G w hb ho => zX rfl (zC hLo 3 rfl HS12.1 rfl (hb 3 (by rfl))) (by rfl))) ?_
        refine zA (zZ 6 1 () 6 25 (some 7) _ _ rfl rfl (fun _ _ _ _ => rfl) rfl hLo rfl rfl rfl rfl (by rfl) (fun b G w _ _ => by kernel_rfl)) ?_
        refine zA (st_store 1 _ rfl rfl rfl rfl rfl (fun _ _ _ _ => rfl) rfl rfl rfl (by rfl) (by kernel_rfl) (fun b G hb ho => zC hLo 6 rfl HS12.1 rfl (hb 6 (by rfl))) (fun b G hb ho => zC hLo 4 rfl HS12.1 rfl (hb 4 (by rfl)))) ?_
        refine zA (zB 7 _ rfl rfl hLo rfl rfl (fun _ _ _ _ => rfl) (fun b G w hb ho => zD (.inr rfl) (zC hLo 5 rfl HS12.1 rfl (hb 5 (by rfl))))) ?_
        exact zF
      clear hLo
      intro G a13 w13 hS hH
      have HS13 : Sl a13 120 [(63, .slice (some ⟨gt, 0, none⟩) (3) (3)), (0, .agg (FR () 6 ((p).sc))), (1, .agg (FR () 6 ((q).sc))), (2, .string (user)), (3, .int .i64 (mine)), (4, .pointer (some (⟨g1_0, 0, none⟩))), (5, .pointer (some (⟨g1_1, 0, none⟩))), (25, .slice (some ba) (7) (cn)), (26, .int .i64 (7)), (27, .int .i64 ((i : Int))), (28, .bool false), (64, .int .i64 (3)), (65, .int .i64 ((j : Int))), (66, .bool true), (16, .string (TN (j))), (17, .pointer (some ⟨g12_6, 0, none⟩)), (19, .pointer (some ⟨(G 6), 0, none⟩))] := hS
      have HH13 : Held w4 w13 [⟨g12_6, (), 6, (x).sc, 25⟩, ⟨(G 6), (), 6, (y).sc, 25⟩] := hH
      clear hS hH HS12 HH12
      generalize G 6 = g13_6 at HS13 HH13
      refine then_ ?_
      refine wp_seq ?_
      refine whole_ ?_
      have hLo : LOk [(0, 81, .val (.agg (FR () 6 ((x).sc)))), (1, 82, .val (.agg (FR () 6 ((y).sc))))] := lok (by rfl) (by rfl)
      refine part_ (wE := w4) (sz := 120) (n := 5) 0 2 [0, 1, 3, 7, 15] [(63, .val (.slice (some ⟨gt, 0, none⟩) (3) (3))), (0, .val (.agg (FR () 6 ((p).sc)))), (1, .val (.agg (FR () 6 ((q).sc)))), (2, .val (.string (user))), (3, .val (.int .i64 (mine))), (4, .val (.pointer (some (⟨g1_0, 0, none⟩)))), (5, .val (.pointer (some (⟨g1_1, 0, none⟩)))), (25, .val (.slice (some ba) (7) (cn))), (26, .val (.int .i64 (7))), (27, .val (.int .i64 ((i : Int)))), (28, .val (.bool false)), (64, .val (.int .i64 (3))), (65, .val (.int .i64 ((j : Int)))), (66, .val (.bool true)), (16, .val (.string (TN (j)))), (17, .val (.pointer (some ⟨g12_6, 0, none⟩))), (19, .val (.pointer (some ⟨g13_6, 0, none⟩))), (81, .val (.agg (FR () 6 ((x).sc)))), (82, .val (.agg (FR () 6 ((y).sc))))] [(0, 81, .val (.agg (FR () 6 ((x).sc)))), (1, 82, .val (.agg (FR () 6 ((y).sc))))] [⟨g12_6, none, none, (), 6, (x).sc, (x).sc, 25⟩, ⟨g13_6, none, none, (), 6, (y).sc, (y).sc, 25⟩] rfl rfl (by rfl) HH13 rfl rfl hLo rfl HS13 (slS 0 rfl rfl (slS 1 rfl rfl (slS 2 rfl rfl (slS 3 rfl rfl (slS 4 rfl rfl (slS 5 rfl rfl (slS 6 rfl rfl (slS 7 rfl rfl (slS 8 rfl rfl (slS 9 rfl rfl (slS 10 rfl rfl (slS 11 rfl rfl (slS 12 rfl rfl (slS 13 rfl rfl (slS 14 rfl rfl (slS 15 rfl rfl (slS 16 rfl rfl (slL 0 (d := 0) rfl (slL 1 (d := 1) rfl (trivial)))))))))))))))))))) ?_ ?_
      · show ∀ i ∈ [0, 1], _
        refine zA (yG 0 0 _ rfl rfl rfl rfl (fun _ _ _ _ => rfl) hLo rfl rfl rfl (by rfl) Tryd.underlying25 (by kernel_rfl) rfl (fun b G hb ho => zG rfl (HS13.get 15 rfl))) ?_
        refine zA (yG 1 1 _ rfl rfl rfl rfl (fun _ _ _ _ => rfl) hLo rfl rfl rfl (by rfl) Tryd.underlying25 (by kernel_rfl) rfl (fun b G hb ho => zG rfl (HS13.get 16 rfl))) ?_
        exact zF
      clear hLo
      intro G a14 w14 hS hH
      have HS14 : Sl a14 120 [(63, .slice (some ⟨gt, 0, none⟩) (3) (3)), (0, .agg (FR () 6 ((p).sc))), (1, .agg (FR () 6 ((q).sc))), (2, .string (user)), (3, .int .i64 (mine)), (4, .pointer (some (⟨g1_0, 0, none⟩))), (5, .pointer (some (⟨g1_1, 0, none⟩))), (25, .slice (some ba) (7) (cn)), (26, .int .i64 (7)), (27, .int .i64 ((i : Int))), (28, .bool false), (64, .int .i64 (3)), (65, .int .i64 ((j : Int))), (66, .bool true), (16, .string (TN (j))), (17, .pointer (some ⟨g12_6, 0, none⟩)), (19, .pointer (some ⟨g13_6, 0, none⟩)), (81, .agg (FR () 6 ((x).sc))), (82, .agg (FR () 6 ((y).sc)))] := hS
      have HH14 : Held w4 w14 [⟨g12_6, (), 6, (x).sc, 25⟩, ⟨g13_6, (), 6, (y).sc, 25⟩] := hH
      clear hS hH HS13 HH13
      obtain ⟨m, hm⟩ : ∃ m, m = (outL x y (x.ml + y.ml)).length := ⟨_, rfl⟩
      refine cut_call _ rfl rfl rfl rfl Tryd.func34 rfl rfl (args2 (HS14.get 17 rfl) (HS14.get 18 rfl)) ((by have hq := differ_calls _ (hInx.below HH14.1) (hIny.below HH14.1) hRx hRy hmx hmy; rw [← hm] at hq; exact hq)) HS14 rfl ?_
      rintro e15 w15 ⟨⟨od, cd, rfl, hD⟩, hbd⟩
      refine ⟨_, rfl, fun a15 hS => ?_⟩
      have HS16 : Sl a15 120 [(83, .slice (od) (m) (cd)), (63, .slice (some ⟨gt, 0, none⟩) (3) (3)), (0, .agg (FR () 6 ((p).sc))), (1, .agg (FR () 6 ((q).sc))), (2, .string (user)), (3, .int .i64 (mine)), (4, .pointer (some (⟨g1_0, 0, none⟩))), (5, .pointer (some (⟨g1_1, 0, none⟩))), (25, .slice (some ba) (7) (cn)), (26, .int .i64 (7)), (27, .int .i64 ((i : Int))), (28, .bool false), (64, .int .i64 (3)), (65, .int .i64 ((j : Int))), (66, .bool true), (16, .string (TN (j))), (17, .pointer (some ⟨g12_6, 0, none⟩)), (19, .pointer (some ⟨g13_6, 0, none⟩)), (81, .agg (FR () 6 ((x).sc))), (82, .agg (FR () 6 ((y).sc)))] := hS
      have HH16 : Held w4 w15 [⟨g12_6, (), 6, (x).sc, 25⟩, ⟨g13_6, (), 6, (y).sc, 25⟩] := HH14.call hbd
      clear hS
      have hmb : m ≤ 2147483648 := by have := outL_len (a := x) (b := y) (x.ml + y.ml); omega
      have hRow17_0 := HH16.row 0 rfl
      have hRow17_1 := HH16.row 1 rfl
      have hInp_17 := hInp_6.below HH16.1
      have hInq_17 := hInq_6.below HH16.1
      have hG_17 := bel_kept HH16.1 _ _ hG_6
      have hT_17 := tt_below hT_6 HH16.1
      have hRow6_0_17 := (hRow6_0).below HH16.1 (hRow6_0).lt
      have hRow6_1_17 := (hRow6_1).below HH16.1 (hRow6_1).lt
      have hTN_17 := hTN.below HH16.1
      have hInx_17 := hInx.below HH16.1
      have hIny_17 := hIny.below HH16.1
      have HH17 : Held w15 w15 [] := Held.first w15
      have HS17 : Sl a15 120 [(83, .slice (od) (m) (cd)), (63, .slice (some ⟨gt, 0, none⟩) (3) (3)), (0, .agg (FR () 6 ((p).sc))), (1, .agg (FR () 6 ((q).sc))), (2, .string (user)), (3, .int .i64 (mine)), (4, .pointer (some (⟨g1_0, 0, none⟩))), (5, .pointer (some (⟨g1_1, 0, none⟩))), (25, .slice (some ba) (7) (cn)), (26, .int .i64 (7)), (27, .int .i64 ((i : Int))), (28, .bool false), (64, .int .i64 (3)), (65, .int .i64 ((j : Int))), (66, .bool true), (16, .string (TN (j))), (17, .pointer (some (⟨g12_6, 0, none⟩))), (19, .pointer (some (⟨g13_6, 0, none⟩))), (81, .agg (FR () 6 ((x).sc))), (82, .agg (FR () 6 ((y).sc)))] := HS16
      have hLo : LOk [(3, 84, .val (.int .i64 ((m : Int)))), (4, 85, .val (.int .i64 (0)))] := lok (by rfl) (by rfl)
      refine part_ (wE := w15) (sz := 120) (n := 5) 3 5 [0, 1, 3, 7, 15] [(83, .val (.slice (od) (m) (cd))), (63, .val (.slice (some ⟨gt, 0, none⟩) (3) (3))), (0, .val (.agg (FR () 6 ((p).sc)))), (1, .val (.agg (FR () 6 ((q).sc)))), (2, .val (.string (user))), (3, .val (.int .i64 (mine))), (4, .val (.pointer (some (⟨g1_0, 0, none⟩)))), (5, .val (.pointer (some (⟨g1_1, 0, none⟩)))), (25, .val (.slice (some ba) (7) (cn))), (26, .val (.int .i64 (7))), (27, .val (.int .i64 ((i : Int)))), (28, .val (.bool false)), (64, .val (.int .i64 (3))), (65, .val (.int .i64 ((j : Int)))), (66, .val (.bool true)), (16, .val (.string (TN (j)))), (17, .val (.pointer (some (⟨g12_6, 0, none⟩)))), (19, .val (.pointer (some (⟨g13_6, 0, none⟩)))), (84, .val (.int .i64 ((m : Int)))), (85, .val (.int .i64 (0)))] [(3, 84, .val (.int .i64 ((m : Int)))), (4, 85, .val (.int .i64 (0)))] [] rfl rfl (by rfl) HH17 rfl rfl hLo rfl HS17 (slS 0 rfl rfl (slS 1 rfl rfl (slS 2 rfl rfl (slS 3 rfl rfl (slS 4 rfl rfl (slS 5 rfl rfl (slS 6 rfl rfl (slS 7 rfl rfl (slS 8 rfl rfl (slS 9 rfl rfl (slS 10 rfl rfl (slS 11 rfl rfl (slS 12 rfl rfl (slS 13 rfl rfl (slS 14 rfl rfl (slS 15 rfl rfl (slS 16 rfl rfl (slS 17 rfl rfl (slL 0 (d := 3) rfl (slL 1 (d := 4) rfl (trivial))))))))))))))))))))) ?_ ?_
      · show ∀ i ∈ [3, 4], _
        refine zA (zB 0 _ rfl rfl hLo rfl rfl (fun _ _ _ _ => rfl) (fun b G w hb ho => yF Tryd.underlying54 rfl (zG rfl (HS17.get 0 rfl)))) ?_
        refine zA (zB 1 _ rfl rfl hLo rfl rfl (fun _ _ _ _ => rfl) (fun b G w hb ho => zD (.inl rfl) (rfl))) ?_
        exact zF
      clear hLo
      intro G a18 w18 hS hH
      have HS18 : Sl a18 120 [(83, .slice (od) (m) (cd)), (63, .slice (some ⟨gt, 0, none⟩) (3) (3)), (0, .agg (FR () 6 ((p).sc))), (1, .agg (FR () 6 ((q).sc))), (2, .string (user)), (3, .int .i64 (mine)), (4, .pointer (some (⟨g1_0, 0, none⟩))), (5, .pointer (some (⟨g1_1, 0, none⟩))), (25, .slice (some ba) (7) (cn)), (26, .int .i64 (7)), (27, .int .i64 ((i : Int))), (28, .bool false), (64, .int .i64 (3)), (65, .int .i64 ((j : Int))), (66, .bool true), (16, .string (TN (j))), (17, .pointer (some (⟨g12_6, 0, none⟩))), (19, .pointer (some (⟨g13_6, 0, none⟩))), (84, .int .i64 ((m : Int))), (85, .int .i64 (0))] := hS
      have HH18 : Held w15 w18 [] := hH
      clear hS hH HS17 HH17
      refine end_ rfl ?_
      refine then_ ?_
      refine wp_block ?_
      have hSq2 : Sl _ 120 [(83, .slice (od) (m) (cd)), (63, .slice (some ⟨gt, 0, none⟩) (3) (3)), (0, .agg (FR () 6 ((p).sc))), (1, .agg (FR () 6 ((q).sc))), (2, .string (user)), (3, .int .i64 (mine)), (4, .pointer (some (⟨g1_0, 0, none⟩))), (5, .pointer (some (⟨g1_1, 0, none⟩))), (25, .slice (some ba) (7) (cn)), (26, .int .i64 (7)), (27, .int .i64 ((i : Int))), (28, .bool false), (64, .int .i64 (3)), (65, .int .i64 ((j : Int))), (66, .bool true), (16, .string (TN (j))), (17, .pointer (some (⟨g12_6, 0, none⟩))), (19, .pointer (some (⟨g13_6, 0, none⟩))), (84, .int .i64 ((m : Int))), (85, .int .i64 (0))] := yA HS18 [0, 1, 2, 3, 4, 5, 6, 7, 8, 9, 10, 11, 12, 13, 14, 15, 16, 17, 18, 19] (by rfl)
      refine wp_loop (fun a w' => ∃ k : Nat, k ≤ m ∧ allB (fun k => !keyBad x y user mine (TN j) (outK x y k)) k = true ∧ Sl a 120 [(83, .slice (od) (m) (cd)), (63, .slice (some ⟨gt, 0, none⟩) (3) (3)), (0, .agg (FR () 6 ((p).sc))), (1, .agg (FR () 6 ((q).sc))), (2, .string (user)), (3, .int .i64 (mine)), (4, .pointer (some (⟨g1_0, 0, none⟩))), (5, .pointer (some (⟨g1_1, 0, none⟩))), (25, .slice (some ba) (7) (cn)), (26, .int .i64 (7)), (27, .int .i64 ((i : Int))), (28, .bool false), (64, .int .i64 (3)), (65, .int .i64 ((j : Int))), (66, .bool true), (16, .string (TN (j))), (17, .pointer (some (⟨g12_6, 0, none⟩))), (19, .pointer (some (⟨g13_6, 0, none⟩))), (84, .int .i64 ((m : Int))), (85, .int .i64 ((k : Int)))] ∧ Held w15 w' []) (fun a w' => m - (intOf (a.eval (.tmp 85))).toNat) ⟨0, Nat.zero_le _, rfl, hSq2, HH18⟩ ?_
      clear hSq2 HS18 HH18
      rintro aq2 wq2 ⟨k, hlek, hpk, HSq2, HHq2⟩
      have hm' : (intOf (aq2.eval (.tmp 85))).toNat = k := by rw [(HSq2.get 19 rfl)]; rfl
      rw [hm']
      clear hm'
      obtain ⟨r3, hr3⟩ : ∃ r : Bool, (decide (((k : Int) : Int) < (m : Int))) = r := ⟨_, rfl⟩
      refine wp_seq ?_
      have hLo : LOk [(0, 86, .val (.bool r3))] := lok (by rfl) (by rfl)
      refine zH (wE := w15) (sz := 120) (n := 1) [0] [(83, .val (.slice (od) (m) (cd))), (63, .val (.slice (some ⟨gt, 0, none⟩) (3) (3))), (0, .val (.agg (FR () 6 ((p).sc)))), (1, .val (.agg (FR () 6 ((q).sc)))), (2, .val (.string (user))), (3, .val (.int .i64 (mine))), (4, .val (.pointer (some (⟨g1_0, 0, none⟩)))), (5, .val (.pointer (some (⟨g1_1, 0, none⟩)))), (25, .val (.slice (some ba) (7) (cn))), (26, .val (.int .i64 (7))), (27, .val (.int .i64 ((i : Int)))), (28, .val (.bool false)), (64, .val (.int .i64 (3))), (65, .val (.int .i64 ((j : Int)))), (66, .val (.bool true)), (16, .val (.string (TN (j)))), (17, .val (.pointer (some (⟨g12_6, 0, none⟩)))), (19, .val (.pointer (some (⟨g13_6, 0, none⟩)))), (84, .val (.int .i64 ((m : Int)))), (85, .val (.int .i64 ((k : Int)))), (86, .val (.bool r3))] [(0, 86, .val (.bool r3))] [] rfl (by rfl) HHq2 rfl rfl hLo rfl HSq2 (slS 0 rfl rfl (slS 1 rfl rfl (slS 2 rfl rfl (slS 3 rfl rfl (slS 4 rfl rfl (slS 5 rfl rfl (slS 6 rfl rfl (slS 7 rfl rfl (slS 8 rfl rfl (slS 9 rfl rfl (slS 10 rfl rfl (slS 11 rfl rfl (slS 12 rfl rfl (slS 13 rfl rfl (slS 14 rfl rfl (slS 15 rfl rfl (slS 16 rfl rfl (slS 17 rfl rfl (slS 18 rfl rfl (slS 19 rfl rfl (slL 0 (d := 0) rfl (trivial)))))))))))))))))))))) ?_ ?_
      · show ∀ i ∈ [0], _
        refine zA (zB 0 _ rfl rfl hLo rfl rfl (fun _ _ _ _ => rfl) (fun b G w hb ho => zI rfl (zG rfl (HSq2.get 19 rfl)) (zG rfl (HSq2.get 18 rfl)) (rb_lss hr3 _ _ _))) ?_
        exact zF
      clear hLo
      intro G a19 w19 hS hH
      have HS19 : Sl a19 120 [(83, .slice (od) (m) (cd)), (63, .slice (some ⟨gt, 0, none⟩) (3) (3)), (0, .agg (FR () 6 ((p).sc))), (1, .agg (FR () 6 ((q).sc))), (2, .string (user)), (3, .int .i64 (mine)), (4, .pointer (some (⟨g1_0, 0, none⟩))), (5, .pointer (some (⟨g1_1, 0, none⟩))), (25, .slice (some ba) (7) (cn)), (26, .int .i64 (7)), (27, .int .i64 ((i : Int))), (28, .bool false), (64, .int .i64 (3)), (65, .int .i64 ((j : Int))), (66, .bool true), (16, .string (TN (j))), (17, .pointer (some (⟨g12_6, 0, none⟩))), (19, .pointer (some (⟨g13_6, 0, none⟩))), (84, .int .i64 ((m : Int))), (85, .int .i64 ((k : Int))), (86, .bool r3)] := hS
      have HH19 : Held w15 w19 [] := hH
      clear hS hH HSq2 HHq2
      refine then_ ?_
      refine wp_seq ?_
      cases r3
      · skip
        have hendk : k = m := by have := of_decide_eq_false hr3; omega
        have hTj : tabOk p q user mine j = true := by unfold tabOk; rw [← hx, ← hy, ← hm, ← hendk]; exact hpk
        refine wp_cond_false (HS19.get 20 rfl) ?_
        refine wp_exit ?_
        refine zY ?_
        refine zY ?_
        refine yE ?_
        refine zQ ?_
        refine then_ ?_
        have hLo : LOk [(0, 119, .val (.int .i64 (((j + 1 : Nat) : Int)))), (1, 65, .val (.int .i64 (((j + 1 : Nat) : Int))))] := lok (by rfl) (by rfl)
        refine zH (wE := w15) (sz := 120) (n := 2) [0, 1] [(83, .val (.slice (od) (m) (cd))), (63, .val (.slice (some ⟨gt, 0, none⟩) (3) (3))), (0, .val (.agg (FR () 6 ((p).sc)))), (1, .val (.agg (FR () 6 ((q).sc)))), (2, .val (.string (user))), (3, .val (.int .i64 (mine))), (4, .val (.pointer (some (⟨g1_0, 0, none⟩)))), (5, .val (.pointer (some (⟨g1_1, 0, none⟩)))), (25, .val (.slice (some ba) (7) (cn))), (26, .val (.int .i64 (7))), (27, .val (.int .i64 ((i : Int)))), (28, .val (.bool false)), (64, .val (.int .i64 (3))), (66, .val (.bool true)), (16, .val (.string (TN (j)))), (17, .val (.pointer (some (⟨g12_6, 0, none⟩)))), (19, .val (.pointer (some (⟨g13_6, 0, none⟩)))), (84, .val (.int .i64 ((m : Int)))), (85, .val (.int .i64 ((k : Int)))), (86, .val (.bool false)), (65, .val (.int .i64 (((j + 1 : Nat) : Int))))] [(0, 119, .val (.int .i64 (((j + 1 : Nat) : Int)))), (1, 65, .val (.int .i64 (((j + 1 : Nat) : Int))))] [] rfl (by rfl) HH19 rfl rfl hLo rfl HS19 (slS 0 rfl rfl (slS 1 rfl rfl (slS 2 rfl rfl (slS 3 rfl rfl (slS 4 rfl rfl (slS 5 rfl rfl (slS 6 rfl rfl (slS 7 rfl rfl (slS 8 rfl rfl (slS 9 rfl rfl (slS 10 rfl rfl (slS 11 rfl rfl (slS 12 rfl rfl (slS 14 rfl rfl (slS 15 rfl rfl (slS 16 rfl rfl (slS 17 rfl rfl (slS 18 rfl rfl (slS 19 rfl rfl (slS 20 rfl rfl (slL 1 (d := 1) rfl (trivial)))))))))))))))))))))) ?_ ?_
        · show ∀ i ∈ [0, 1], _
          refine zA (zB 0 _ rfl rfl hLo rfl rfl (fun _ _ _ _ => rfl) (fun b G w hb ho => zI rfl (ev_pre hLo 1 rfl (ho 1 (by rfl)) (HS19.get 13 rfl)) (rfl) (rb_add (w_nat (by omega) (by omega)) _ _ _))) ?_
          refine zA (zB 1 _ rfl rfl hLo rfl rfl (fun _ _ _ _ => rfl) (fun b G w hb ho => zD (.inl rfl) (zC hLo 0 rfl HS19.1 rfl (hb 0 (by rfl))))) ?_
          exact zF
        clear hLo
        intro G a20 w20 hS hH
        have HS20 : Sl a20 120 [(83, .slice (od) (m) (cd)), (63, .slice (some ⟨gt, 0, none⟩) (3) (3)), (0, .agg (FR () 6 ((p).sc))), (1, .agg (FR () 6 ((q).sc))), (2, .string (user)), (3, .int .i64 (mine)), (4, .pointer (some (⟨g1_0, 0, none⟩))), (5, .pointer (some (⟨g1_1, 0, none⟩))), (25, .slice (some ba) (7) (cn)), (26, .int .i64 (7)), (27, .int .i64 ((i : Int))), (28, .bool false), (64, .int .i64 (3)), (66, .bool true), (16, .string (TN (j))), (17, .pointer (some (⟨g12_6, 0, none⟩))), (19, .pointer (some (⟨g13_6, 0, none⟩))), (84, .int .i64 ((m : Int))), (85, .int .i64 ((k : Int))), (86, .bool false), (65, .int .i64 (((j + 1 : Nat) : Int)))] := hS
        have HH20 : Held w15 w20 [] := hH
        clear hS hH HS19 HH19
        refine then_ ?_
        have HH21 := Held.back HH16 HH20
        have hSq1' : Sl _ 120 [(63, .slice (some ⟨gt, 0, none⟩) (3) (3)), (0, .agg (FR () 6 ((p).sc))), (1, .agg (FR () 6 ((q).sc))), (2, .string (user)), (3, .int .i64 (mine)), (4, .pointer (some (⟨g1_0, 0, none⟩))), (5, .pointer (some (⟨g1_1, 0, none⟩))), (25, .slice (some ba) (7) (cn)), (26, .int .i64 (7)), (27, .int .i64 ((i : Int))), (28, .bool false), (64, .int .i64 (3)), (65, .int .i64 (((j + 1 : Nat) : Int)))] := yA HS20 [1, 2, 3, 4, 5, 6, 7, 8, 9, 10, 11, 12, 20] (by rfl)
        have hHq1' : Held w4 _ [] := yD HH21 0 rfl
        exact ⟨⟨j + 1, by omega, allB_step hpj (hTj), hSq1', hHq1'⟩, by rw [(hSq1'.get 12 rfl)]; show 3 - (((j + 1 : Nat) : Int)).toNat < 3 - j; omega⟩
      · skip
        have hltk : k < m := by have := of_decide_eq_true hr3; omega
        refine wp_cond_true (HS19.get 20 rfl) ?_
        refine wp_skip ?_
        refine then_ ?_
        refine wp_seq ?_
        refine wp_block ?_
        obtain ⟨xk, hxk, hck⟩ := hD k hltk
        refine wp_seq ?_
        have hLo : LOk [(0, 87, .val (.pointer (some (xk.add ((k) * 1))))), (1, 88, .val (.string (outK x y (k)))), (2, 22, .val (.string (outK x y (k))))] := lok (by rfl) (by rfl)
        refine zH (wE := w15) (sz := 120) (n := 3) [0, 1, 3] [(83, .val (.slice (od) (m) (cd))), (63, .val (.slice (some ⟨gt, 0, none⟩) (3) (3))), (0, .val (.agg (FR () 6 ((p).sc)))), (1, .val (.agg (FR () 6 ((q).sc)))), (2, .val (.string (user))), (3, .val (.int .i64 (mine))), (4, .val (.pointer (some (⟨g1_0, 0, none⟩)))), (5, .val (.pointer (some (⟨g1_1, 0, none⟩)))), (25, .val (.slice (some ba) (7) (cn))), (26, .val (.int .i64 (7))), (27, .val (.int .i64 ((i : Int)))), (28, .val (.bool false)), (64, .val (.int .i64 (3))), (65, .val (.int .i64 ((j : Int)))), (66, .val (.bool true)), (16, .val (.string (TN (j)))), (17, .val (.pointer (some (⟨g12_6, 0, none⟩)))), (19, .val (.pointer (some (⟨g13_6, 0, none⟩)))), (84, .val (.int .i64 ((m : Int)))), (85, .val (.int .i64 ((k : Int)))), (86, .val (.bool true)), (22, .val (.string (outK x y (k))))] [(0, 87, .val (.pointer (some (xk.add ((k) * 1))))), (1, 88, .val (.string (outK x y (k)))), (2, 22, .val (.string (outK x y (k))))] [] rfl (by rfl) HH19 rfl rfl hLo rfl HS19 (slS 0 rfl rfl (slS 1 rfl rfl (slS 2 rfl rfl (slS 3 rfl rfl (slS 4 rfl rfl (slS 5 rfl rfl (slS 6 rfl rfl (slS 7 rfl rfl (slS 8 rfl rfl (slS 9 rfl rfl (slS 10 rfl rfl (slS 11 rfl rfl (slS 12 rfl rfl (slS 13 rfl rfl (slS 14 rfl rfl (slS 15 rfl rfl (slS 16 rfl rfl (slS 17 rfl rfl (slS 18 rfl rfl (slS 19 rfl rfl (slS 20 rfl rfl (slL 2 (d := 2) rfl (trivial))))))))))))))))))))))) ?_ ?_
        · show ∀ i ∈ [0, 1, 2], _
          refine zA (zB 0 _ rfl rfl hLo rfl rfl (fun _ _ _ _ => rfl) (fun b G w hb ho => zU rfl (zG rfl (HS19.get 0 rfl)) (zG rfl (HS19.get 19 rfl)) (index_sl Tryd.underlying54 (by kernel_rfl) hxk hltk _))) ?_
          refine zA (st_at1 1 (xk.add ((k) * 1)) _ rfl rfl rfl (fun _ _ _ _ => rfl) hLo rfl rfl Tryd.underlying9 rfl (hck) (fun b G hb ho => zC hLo 0 rfl HS19.1 rfl (hb 0 (by rfl)))) ?_
          refine zA (zB 2 _ rfl rfl hLo rfl rfl (fun _ _ _ _ => rfl) (fun b G w hb ho => zD (.inr rfl) (zC hLo 1 rfl HS19.1 rfl (hb 1 (by rfl))))) ?_
          exact zF
        clear hLo
        intro G a22 w22 hS hH
        have HS22 : Sl a22 120 [(83, .slice (od) (m) (cd)), (63, .slice (some ⟨gt, 0, none⟩) (3) (3)), (0, .agg (FR () 6 ((p).sc))), (1, .agg (FR () 6 ((q).sc))), (2, .string (user)), (3, .int .i64 (mine)), (4, .pointer (some (⟨g1_0, 0, none⟩))), (5, .pointer (some (⟨g1_1, 0, none⟩))), (25, .slice (some ba) (7) (cn)), (26, .int .i64 (7)), (27, .int .i64 ((i : Int))), (28, .bool false), (64, .int .i64 (3)), (65, .int .i64 ((j : Int))), (66, .bool true), (16, .string (TN (j))), (17, .pointer (some (⟨g12_6, 0, none⟩))), (19, .pointer (some (⟨g13_6, 0, none⟩))), (84, .int .i64 ((m : Int))), (85, .int .i64 ((k : Int))), (86, .bool true), (22, .string (outK x y (k)))] := hS
        have HH22 : Held w15 w22 [] := hH
        clear hS hH HS19 HH19
        refine then_ ?_
        obtain ⟨r4, hr4⟩ : ∃ r : Bool, (((x).tell (outK x y (k))).2) = r := ⟨_, rfl⟩
        refine wp_seq ?_
        have hLo : LOk [(0, 90, .val (.agg (FR () 6 ((x).sc)))), (1, 91, .val (.string (outK x y (k)))), (2, 92, .val (.tuple #[.int .i64 (((x).tell (outK x y (k))).1), .bool r4])), (3, 89, .val (.tuple #[.int .i64 (((x).tell (outK x y (k))).1), .bool r4])), (4, 93, .val (.int .i64 (((x).tell (outK x y (k))).1))), (5, 94, .val (.bool r4)), (6, 23, .val (.int .i64 (((x).tell (outK x y (k))).1))), (7, 24, .val (.bool r4))] := lok (by rfl) (by rfl)
        refine zH (wE := w15) (sz := 120) (n := 8) [0, 1, 3, 7, 15, 31, 63, 127] [(83, .val (.slice (od) (m) (cd))), (63, .val (.slice (some ⟨gt, 0, none⟩) (3) (3))), (0, .val (.agg (FR () 6 ((p).sc)))), (1, .val (.agg (FR () 6 ((q).sc)))), (2, .val (.string (user))), (3, .val (.int .i64 (mine))), (4, .val (.pointer (some (⟨g1_0, 0, none⟩)))), (5, .val (.pointer (some (⟨g1_1, 0, none⟩)))), (25, .val (.slice (some ba) (7) (cn))), (26, .val (.int .i64 (7))), (27, .val (.int .i64 ((i : Int)))), (28, .val (.bool false)), (64, .val (.int .i64 (3))), (65, .val (.int .i64 ((j : Int)))), (66, .val (.bool true)), (16, .val (.string (TN (j)))), (17, .val (.pointer (some (⟨g12_6, 0, none⟩)))), (19, .val (.pointer (some (⟨g13_6, 0, none⟩)))), (84, .val (.int .i64 ((m : Int)))), (85, .val (.int .i64 ((k : Int)))), (86, .val (.bool true)), (22, .val (.string (outK x y (k)))), (23, .val (.int .i64 (((x).tell (outK x y (k))).1))), (24, .val (.bool r4))] [(0, 90, .val (.agg (FR () 6 ((x).sc)))), (1, 91, .val (.string (outK x y (k)))), (2, 92, .val (.tuple #[.int .i64 (((x).tell (outK x y (k))).1), .bool r4])), (3, 89, .val (.tuple #[.int .i64 (((x).tell (outK x y (k))).1), .bool r4])), (4, 93, .val (.int .i64 (((x).tell (outK x y (k))).1))), (5, 94, .val (.bool r4)), (6, 23, .val (.int .i64 (((x).tell (outK x y (k))).1))), (7, 24, .val (.bool r4))] [] rfl (by rfl) HH22 rfl rfl hLo rfl HS22 (slS 0 rfl rfl (slS 1 rfl rfl (slS 2 rfl rfl (slS 3 rfl rfl (slS 4 rfl rfl (slS 5 rfl rfl (slS 6 rfl rfl (slS 7 rfl rfl (slS 8 rfl rfl (slS 9 rfl rfl (slS 10 rfl rfl (slS 11 rfl rfl (slS 12 rfl rfl (slS 13 rfl rfl (slS 14 rfl rfl (slS 15 rfl rfl (slS 16 rfl rfl (slS 17 rfl rfl (slS 18 rfl rfl (slS 19 rfl rfl (slS 20 rfl rfl (slS 21 rfl rfl (slL 6 (d := 6) rfl (slL 7 (d := 7) rfl (trivial))))))))))))))))))))))))) ?_ ?_
        · show ∀ i ∈ [0, 1, 2, 3, 4, 5, 6, 7], _
          refine zA (st_at 0 (⟨g12_6, 0, none⟩) rfl rfl rfl (fun _ _ _ _ => rfl) hLo rfl rfl Tryd.underlying25 (by kernel_rfl) rfl (row_at hRow17_0) (fun b G hb ho => zG rfl (HS22.get 16 rfl))) ?_
          refine zA (zB 1 _ rfl rfl hLo rfl rfl (fun _ _ _ _ => rfl) (fun b G w hb ho => zD (.inl rfl) (zG rfl (HS22.get 21 rfl)))) ?_
          refine zA (yB 2 _ #[.agg (FR () 6 ((x).sc)), .string (outK x y (k))] rfl rfl rfl (fun _ _ _ _ => rfl) hLo rfl rfl Tryd.func25 rfl rfl (fun b G hb ho => args2 (zC hLo 0 rfl HS22.1 rfl (hb 0 (by rfl))) (zC hLo 1 rfl HS22.1 rfl (hb 1 (by rfl)))) (fun w hw => (by have hq := num_calls (t := x) (outK x y (k)) (hInx_17.below hw) hRx.rise; rw [hr4] at hq; exact hq))) ?_
          refine zA (zB 3 _ rfl rfl hLo rfl rfl (fun _ _ _ _ => rfl) (fun b G w hb ho => zD (.inl rfl) (zC hLo 2 rfl HS22.1 rfl (hb 2 (by rfl))))) ?_
          refine zA (zB 4 _ rfl rfl hLo rfl rfl (fun _ _ _ _ => rfl) (fun b G w hb ho => zX rfl (zC hLo 3 rfl HS22.1 rfl (hb 3 (by rfl))) (by rfl))) ?_
          refine zA (zB 5 _ rfl rfl hLo rfl rfl (fun _ _ _ _ => rfl) (fun b G w hb ho => zX rfl (zC hLo 3 rfl HS22.1 rfl (hb 3 (by rfl))) (by rfl))) ?_
          refine zA (zB 6 _ rfl rfl hLo rfl rfl (fun _ _ _ _ => rfl) (fun b G w hb ho => zD (.inr rfl) (zC hLo 4 rfl HS22.1 rfl (hb 4 (by rfl))))) ?_
          refine zA (zB 7 _ rfl rfl hLo rfl rfl (fun _ _ _ _ => rfl) (fun b G w hb ho => zD (.inr rfl) (zC hLo 5 rfl HS22.1 rfl (hb 5 (by rfl))))) ?_
          exact zF
        clear hLo
        intro G a23 w23 hS hH
        have HS23 : Sl a23 120 [(83, .slice (od) (m) (cd)), (63, .slice (some ⟨gt, 0, none⟩) (3) (3)), (0, .agg (FR () 6 ((p).sc))), (1, .agg (FR () 6 ((q).sc))), (2, .string (user)), (3, .int .i64 (mine)), (4, .pointer (some (⟨g1_0, 0, none⟩))), (5, .pointer (some (⟨g1_1, 0, none⟩))), (25, .slice (some ba) (7) (cn)), (26, .int .i64 (7)), (27, .int .i64 ((i : Int))), (28, .bool false), (64, .int .i64 (3)), (65, .int .i64 ((j : Int))), (66, .bool true), (16, .string (TN (j))), (17, .pointer (some (⟨g12_6, 0, none⟩))), (19, .pointer (some (⟨g13_6, 0, none⟩))), (84, .int .i64 ((m : Int))), (85, .int .i64 ((k : Int))), (86, .bool true), (22, .string (outK x y (k))), (23, .int .i64 (((x).tell (outK x y (k))).1)), (24, .bool r4)] := hS
        have HH23 : Held w15 w23 [] := hH
        clear hS hH HS22 HH22
        refine then_ ?_
        obtain ⟨r5, hr5⟩ : ∃ r : Bool, (mayB x y (outK x y (k)) mine) = r := ⟨_, rfl⟩
        cases r5
        · skip
          refine wp_seq ?_
          have hLo : LOk [(0, 95, .val (.agg (FR () 6 ((x).sc)))), (1, 96, .val (.agg (FR () 6 ((y).sc)))), (2, 97, .val (.string (outK x y (k)))), (3, 98, .val (.int .i64 (mine))), (4, 99, .val (.bool false)), (5, 100, .val (.bool true)), (6, 101, .val (.bool true)), (7, 102, .val (undef)), (8, 103, .val (undef)), (9, 104, .val (undef)), (10, 105, .val (undef)), (11, 106, .val (undef)), (12, 107, .val (undef)), (13, 108, .val (undef)), (14, 109, .val (undef)), (15, 110, .val (undef)), (16, 111, .val (undef)), (17, 112, .val (undef)), (18, 113, .val (undef)), (19, 114, .val (undef)), (20, 115, .val (undef)), (21, 116, .val (undef)), (22, 117, .val (.bool true))] := lok (by rfl) (by rfl)
          refine zH (wE := w15) (sz := 120) (n := 23) [0, 1, 3, 7, 15, 31, 63, 127, 255, 511, 1023, 2047, 4095, 8191, 16383, 32767, 65535, 131071, 262143, 524287, 1048575, 2097151, 4194303] [(83, .val (.slice (od) (m) (cd))), (63, .val (.slice (some ⟨gt, 0, none⟩) (3) (3))), (0, .val (.agg (FR () 6 ((p).sc)))), (1, .val (.agg (FR () 6 ((q).sc)))), (2, .val (.string (user))), (3, .val (.int .i64 (mine))), (4, .val (.pointer (some (⟨g1_0, 0, none⟩)))), (5, .val (.pointer (some (⟨g1_1, 0, none⟩)))), (25, .val (.slice (some ba) (7) (cn))), (26, .val (.int .i64 (7))), (27, .val (.int .i64 ((i : Int)))), (28, .val (.bool false)), (64, .val (.int .i64 (3))), (65, .val (.int .i64 ((j : Int)))), (66, .val (.bool true)), (16, .val (.string (TN (j)))), (17, .val (.pointer (some (⟨g12_6, 0, none⟩)))), (19, .val (.pointer (some (⟨g13_6, 0, none⟩)))), (84, .val (.int .i64 ((m : Int)))), (85, .val (.int .i64 ((k : Int)))), (86, .val (.bool true)), (22, .val (.string (outK x y (k)))), (23, .val (.int .i64 (((x).tell (outK x y (k))).1))), (24, .val (.bool r4)), (117, .val (.bool true))] [(0, 95, .val (.agg (FR () 6 ((x).sc)))), (1, 96, .val (.agg (FR () 6 ((y).sc)))), (2, 97, .val (.string (outK x y (k)))), (3, 98, .val (.int .i64 (mine))), (4, 99, .val (.bool false)), (5, 100, .val (.bool true)), (6, 101, .val (.bool true)), (7, 102, .val (undef)), (8, 103, .val (undef)), (9, 104, .val (undef)), (10, 105, .val (undef)), (11, 106, .val (undef)), (12, 107, .val (undef)), (13, 108, .val (undef)), (14, 109, .val (undef)), (15, 110, .val (undef)), (16, 111, .val (undef)), (17, 112, .val (undef)), (18, 113, .val (undef)), (19, 114, .val (undef)), (20, 115, .val (undef)), (21, 116, .val (undef)), (22, 117, .val (.bool true))] [] rfl (by rfl) HH23 rfl rfl hLo rfl HS23 (slS 0 rfl rfl (slS 1 rfl rfl (slS 2 rfl rfl (slS 3 rfl rfl (slS 4 rfl rfl (slS 5 rfl rfl (slS 6 rfl rfl (slS 7 rfl rfl (slS 8 rfl rfl (slS 9 rfl rfl (slS 10 rfl rfl (slS 11 rfl rfl (slS 12 rfl rfl (slS 13 rfl rfl (slS 14 rfl rfl (slS 15 rfl rfl (slS 16 rfl rfl (slS 17 rfl rfl (slS 18 rfl rfl (slS 19 rfl rfl (slS 20 rfl rfl (slS 21 rfl rfl (slS 22 rfl rfl (slS 23 rfl rfl (slL 22 (d := 22) rfl (trivial)))))))))))))))))))))))))) ?_ ?_
          · show ∀ i ∈ [0, 1, 2, 3, 4, 5, 6, 7, 8, 9, 10, 11, 12, 13, 14, 15, 16, 17, 18, 19, 20, 21, 22], _
            refine zA (st_at 0 (⟨g12_6, 0, none⟩) rfl rfl rfl (fun _ _ _ _ => rfl) hLo rfl rfl Tryd.underlying25 (by kernel_rfl) rfl (row_at hRow17_0) (fun b G hb ho => zG rfl (HS23.get 16 rfl))) ?_
            refine zA (st_at 1 (⟨g13_6, 0, none⟩) rfl rfl rfl (fun _ _ _ _ => rfl) hLo rfl rfl Tryd.underlying25 (by kernel_rfl) rfl (row_at hRow17_1) (fun b G hb ho => zG rfl (HS23.get 17 rfl))) ?_
            refine zA (zB 2 _ rfl rfl hLo rfl rfl (fun _ _ _ _ => rfl) (fun b G w hb ho => zD (.inl rfl) (zG rfl (HS23.get 21 rfl)))) ?_
            refine zA (zB 3 _ rfl rfl hLo rfl rfl (fun _ _ _ _ => rfl) (fun b G w hb ho => zD (.inl rfl) (zG rfl (HS23.get 5 rfl)))) ?_
            refine zA (yB 4 _ #[.agg (FR () 6 ((x).sc)), .agg (FR () 6 ((y).sc)), .string (outK x y (k)), .int .i64 (mine)] rfl rfl rfl (fun _ _ _ _ => rfl) hLo rfl rfl Tryd.func32 rfl rfl (fun b G hb ho => args4 (zC hLo 0 rfl HS23.1 rfl (hb 0 (by rfl))) (zC hLo 1 rfl HS23.1 rfl (hb 1 (by rfl))) (zC hLo 2 rfl HS23.1 rfl (hb 2 (by rfl))) (zC hLo 3 rfl HS23.1 rfl (hb 3 (by rfl)))) (fun w hw => (by have hq := may_calls (a := x) (b := y) (outK x y (k)) mine (hInx_17.below hw) (hIny_17.below hw) hRx hRy; rw [hr5] at hq; exact hq))) ?_
            refine zA (zB 5 _ rfl rfl hLo rfl rfl (fun _ _ _ _ => rfl) (fun b G w hb ho => exec_un rfl (zC hLo 4 rfl HS23.1 rfl (hb 4 (by rfl))) (ru_not _))) ?_
            refine zA (zB 6 _ rfl rfl hLo rfl rfl (fun _ _ _ _ => rfl) (fun b G w hb ho => zD (.inl rfl) (zC hLo 5 rfl HS23.1 rfl (hb 5 (by rfl))))) ?_
            refine zA (zN 7 rfl rfl hLo rfl rfl (fun b G hb ho => zE rfl rfl rfl HS23.1 rfl (zC hLo 6 rfl HS23.1 rfl (hb 6 (by rfl))) rfl)) ?_
            refine zA (zN 8 rfl rfl hLo rfl rfl (fun b G hb ho => zE rfl rfl rfl HS23.1 rfl (zC hLo 6 rfl HS23.1 rfl (hb 6 (by rfl))) rfl)) ?_
            refine zA (zN 9 rfl rfl hLo rfl rfl (fun b G hb ho => zE rfl rfl rfl HS23.1 rfl (zC hLo 6 rfl HS23.1 rfl (hb 6 (by rfl))) rfl)) ?_
            refine zA (zN 10 rfl rfl hLo rfl rfl (fun b G hb ho => wanted_un rfl rfl rfl HS23.1 rfl (zC hLo 9 rfl HS23.1 rfl (hb 9 (by rfl))))) ?_
            refine zA (zN 11 rfl rfl hLo rfl rfl (fun b G hb ho => wanted_un rfl rfl rfl HS23.1 rfl (zC hLo 9 rfl HS23.1 rfl (hb 9 (by rfl))))) ?_
            refine zA (zN 12 rfl rfl hLo rfl rfl (fun b G hb ho => wanted_un rfl rfl rfl HS23.1 rfl (zC hLo 9 rfl HS23.1 rfl (hb 9 (by rfl))))) ?_
            refine zA (zN 13 rfl rfl hLo rfl rfl (fun b G hb ho => zE rfl rfl rfl HS23.1 rfl (zC hLo 6 rfl HS23.1 rfl (hb 6 (by rfl))) rfl)) ?_
            refine zA (zN 14 rfl rfl hLo rfl rfl (fun b G hb ho => zE rfl rfl rfl HS23.1 rfl (zC hLo 6 rfl HS23.1 rfl (hb 6 (by rfl))) rfl)) ?_
            refine zA (zN 15 rfl rfl hLo rfl rfl (fun b G hb ho => wanted_un rfl rfl rfl HS23.1 rfl (zC hLo 14 rfl HS23.1 rfl (hb 14 (by rfl))))) ?_
            refine zA (zN 16 rfl rfl hLo rfl rfl (fun b G hb ho => zE rfl rfl rfl HS23.1 rfl (zC hLo 6 rfl HS23.1 rfl (hb 6 (by rfl))) rfl)) ?_
            refine zA (zN 17 rfl rfl hLo rfl rfl (fun b G hb ho => zE rfl rfl rfl HS23.1 rfl (zC hLo 6 rfl HS23.1 rfl (hb 6 (by rfl))) rfl)) ?_
            refine zA (zN 18 rfl rfl hLo rfl rfl (fun b G hb ho => wanted_un rfl rfl rfl HS23.1 rfl (zC hLo 17 rfl HS23.1 rfl (hb 17 (by rfl))))) ?_
            refine zA (zN 19 rfl rfl hLo rfl rfl (fun b G hb ho => wanted_un rfl rfl rfl HS23.1 rfl (zC hLo 17 rfl HS23.1 rfl (hb 17 (by rfl))))) ?_
            refine zA (zN 20 rfl rfl hLo rfl rfl (fun b G hb ho => wanted_un rfl rfl rfl HS23.1 rfl (zC hLo 17 rfl HS23.1 rfl (hb 17 (by rfl))))) ?_
            refine zA (zN 21 rfl rfl hLo rfl rfl (fun b G hb ho => zE rfl rfl rfl HS23.1 rfl (zC hLo 6 rfl HS23.1 rfl (hb 6 (by rfl))) rfl)) ?_
            refine zA (zB 22 _ rfl rfl hLo rfl rfl (fun _ _ _ _ => rfl) (fun b G w hb ho => zL rfl (zC hLo 6 rfl HS23.1 rfl (hb 6 (by rfl))) (rfl))) ?_
            exact zF
          clear hLo
          intro G a24 w24 hS hH
          have HS24 : Sl a24 120 [(83, .slice (od) (m) (cd)), (63, .slice (some ⟨gt, 0, none⟩) (3) (3)), (0, .agg (FR () 6 ((p).sc))), (1, .agg (FR () 6 ((q).sc))), (2, .string (user)), (3, .int .i64 (mine)), (4, .pointer (some (⟨g1_0, 0, none⟩))), (5, .pointer (some (⟨g1_1, 0, none⟩))), (25, .slice (some ba) (7) (cn)), (26, .int .i64 (7)), (27, .int .i64 ((i : Int))), (28, .bool false), (64, .int .i64 (3)), (65, .int .i64 ((j : Int))), (66, .bool true), (16, .string (TN (j))), (17, .pointer (some (⟨g12_6, 0, none⟩))), (19, .pointer (some (⟨g13_6, 0, none⟩))), (84, .int .i64 ((m : Int))), (85, .int .i64 ((k : Int))), (86, .bool true), (22, .string (outK x y (k))), (23, .int .i64 (((x).tell (outK x y (k))).1)), (24, .bool r4), (117, .bool true)] := hS
          have HH24 : Held w15 w24 [] := hH
          clear hS hH HS23 HH23
          refine then_ ?_
          refine wp_cond_true (HS24.get 24 rfl) ?_
          refine wp_seq ?_
          have hLo : LOk [(0, 8, .val (.bool false))] := lok (by rfl) (by rfl)
          refine zH (wE := w15) (sz := 120) (n := 1) [0] [(83, .val (.slice (od) (m) (cd))), (63, .val (.slice (some ⟨gt, 0, none⟩) (3) (3))), (0, .val (.agg (FR () 6 ((p).sc)))), (1, .val (.agg (FR () 6 ((q).sc)))), (2, .val (.string (user))), (3, .val (.int .i64 (mine))), (4, .val (.pointer (some (⟨g1_0, 0, none⟩)))), (5, .val (.pointer (some (⟨g1_1, 0, none⟩)))), (25, .val (.slice (some ba) (7) (cn))), (26, .val (.int .i64 (7))), (27, .val (.int .i64 ((i : Int)))), (28, .val (.bool false)), (64, .val (.int .i64 (3))), (65, .val (.int .i64 ((j : Int)))), (66, .val (.bool true)), (16, .val (.string (TN (j)))), (17, .val (.pointer (some (⟨g12_6, 0, none⟩)))), (19, .val (.pointer (some (⟨g13_6, 0, none⟩)))), (84, .val (.int .i64 ((m : Int)))), (85, .val (.int .i64 ((k : Int)))), (86, .val (.bool true)), (22, .val (.string (outK x y (k)))), (23, .val (.int .i64 (((x).tell (outK x y (k))).1))), (24, .val (.bool r4)), (117, .val (.bool true)), (8, .val (.bool false))] [(0, 8, .val (.bool false))] [] rfl (by rfl) HH24 rfl rfl hLo rfl HS24 (slS 0 rfl rfl (slS 1 rfl rfl (slS 2 rfl rfl (slS 3 rfl rfl (slS 4 rfl rfl (slS 5 rfl rfl (slS 6 rfl rfl (slS 7 rfl rfl (slS 8 rfl rfl (slS 9 rfl rfl (slS 10 rfl rfl (slS 11 rfl rfl (slS 12 rfl rfl (slS 13 rfl rfl (slS 14 rfl rfl (slS 15 rfl rfl (slS 16 rfl rfl (slS 17 rfl rfl (slS 18 rfl rfl (slS 19 rfl rfl (slS 20 rfl rfl (slS 21 rfl rfl (slS 22 rfl rfl (slS 23 rfl rfl (slS 24 rfl rfl (slL 0 (d := 0) rfl (trivial))))))))))))))))))))))))))) ?_ ?_
          · show ∀ i ∈ [0], _
            refine zA (zB 0 _ rfl rfl hLo rfl rfl (fun _ _ _ _ => rfl) (fun b G w hb ho => zD (.inr rfl) (rfl))) ?_
            exact zF
          clear hLo
          intro G a25 w25 hS hH
          have HS25 : Sl a25 120 [(83, .slice (od) (m) (cd)), (63, .slice (some ⟨gt, 0, none⟩) (3) (3)), (0, .agg (FR () 6 ((p).sc))), (1, .agg (FR () 6 ((q).sc))), (2, .string (user)), (3, .int .i64 (mine)), (4, .pointer (some (⟨g1_0, 0, none⟩))), (5, .pointer (some (⟨g1_1, 0, none⟩))), (25, .slice (some ba) (7) (cn)), (26, .int .i64 (7)), (27, .int .i64 ((i : Int))), (28, .bool false), (64, .int .i64 (3)), (65, .int .i64 ((j : Int))), (66, .bool true), (16, .string (TN (j))), (17, .pointer (some (⟨g12_6, 0, none⟩))), (19, .pointer (some (⟨g13_6, 0, none⟩))), (84, .int .i64 ((m : Int))), (85, .int .i64 ((k : Int))), (86, .bool true), (22, .string (outK x y (k))), (23, .int .i64 (((x).tell (outK x y (k))).1)), (24, .bool r4), (117, .bool true), (8, .bool false)] := hS
          have HH25 : Held w15 w25 [] := hH
          clear hS hH HS24 HH24
          refine then_ ?_
          refine wp_ret ?_
          repeat (first | refine zR ?_ | refine zK ?_)
          have HH26 := Held.back HH16 HH25
          have HH27 := Held.back HH5 HH26
          exact b_tmp rfl HS25.2.1 (HS25.get 25 rfl) ⟨bool_ret (chg_no2 hltj (by unfold tabOk; rw [← hx, ← hy, ← hm]; exact allB_no hltk (by show (!keyBad x y user mine (TN j) (outK x y k)) = _; unfold keyBad; simp only [hr5, hr4]; try rfl))), HH27.1⟩
        · skip
          obtain ⟨r6, hr6⟩ : ∃ r : Bool, (decide ((TN (j) : ByteArray) = zS)) = r := ⟨_, rfl⟩
          cases r6
          · skip
            refine wp_seq ?_
            have hLo : LOk [(0, 95, .val (.agg (FR () 6 ((x).sc)))), (1, 96, .val (.agg (FR () 6 ((y).sc)))), (2, 97, .val (.string (outK x y (k)))), (3, 98, .val (.int .i64 (mine))), (4, 99, .val (.bool true)), (5, 100, .val (.bool false)), (6, 101, .val (.bool false)), (7, 102, .val (.string (TN (j)))), (8, 103, .val (.bool false)), (9, 104, .val (.bool false)), (10, 105, .val (undef)), (11, 106, .val (undef)), (12, 107, .val (undef)), (13, 108, .val (.bool false)), (14, 109, .val (.bool false)), (15, 110, .val (undef)), (16, 111, .val (.bool false)), (17, 112, .val (.bool false)), (18, 113, .val (undef)), (19, 114, .val (undef)), (20, 115, .val (undef)), (21, 116, .val (.bool false)), (22, 117, .val (.bool false))] := lok (by rfl) (by rfl)
            refine zH (wE := w15) (sz := 120) (n := 23) [0, 1, 3, 7, 15, 31, 63, 127, 255, 511, 1023, 2047, 4095, 8191, 16383, 32767, 65535, 131071, 262143, 524287, 1048575, 2097151, 4194303] [(83, .val (.slice (od) (m) (cd))), (63, .val (.slice (some ⟨gt, 0, none⟩) (3) (3))), (0, .val (.agg (FR () 6 ((p).sc)))), (1, .val (.agg (FR () 6 ((q).sc)))), (2, .val (.string (user))), (3, .val (.int .i64 (mine))), (4, .val (.pointer (some (⟨g1_0, 0, none⟩)))), (5, .val (.pointer (some (⟨g1_1, 0, none⟩)))), (25, .val (.slice (some ba) (7) (cn))), (26, .val (.int .i64 (7))), (27, .val (.int .i64 ((i : Int)))), (28, .val (.bool false)), (64, .val (.int .i64 (3))), (65, .val (.int .i64 ((j : Int)))), (66, .val (.bool true)), (16, .val (.string (TN (j)))), (17, .val (.pointer (some (⟨g12_6, 0, none⟩)))), (19, .val (.pointer (some (⟨g13_6, 0, none⟩)))), (84, .val (.int .i64 ((m : Int)))), (85, .val (.int .i64 ((k : Int)))), (86, .val (.bool true)), (22, .val (.string (outK x y (k)))), (23, .val (.int .i64 (((x).tell (outK x y (k))).1))), (24, .val (.bool r4)), (117, .val (.bool false))] [(0, 95, .val (.agg (FR () 6 ((x).sc)))), (1, 96, .val (.agg (FR () 6 ((y).sc)))), (2, 97, .val (.string (outK x y (k)))), (3, 98, .val (.int .i64 (mine))), (4, 99, .val (.bool true)), (5, 100, .val (.bool false)), (6, 101, .val (.bool false)), (7, 102, .val (.string (TN (j)))), (8, 103, .val (.bool false)), (9, 104, .val (.bool false)), (10, 105, .val (undef)), (11, 106, .val (undef)), (12, 107, .val (undef)), (13, 108, .val (.bool false)), (14, 109, .val (.bool false)), (15, 110, .val (undef)), (16, 111, .val (.bool false)), (17, 112, .val (.bool false)), (18, 113, .val (undef)), (19, 114, .val (undef)), (20, 115, .val (undef)), (21, 116, .val (.bool false)), (22, 117, .val (.bool false))] [] rfl (by rfl) HH23 rfl rfl hLo rfl HS23 (slS 0 rfl rfl (slS 1 rfl rfl (slS 2 rfl rfl (slS 3 rfl rfl (slS 4 rfl rfl (slS 5 rfl rfl (slS 6 rfl rfl (slS 7 rfl rfl (slS 8 rfl rfl (slS 9 rfl rfl (slS 10 rfl rfl (slS 11 rfl rfl (slS 12 rfl rfl (slS 13 rfl rfl (slS 14 rfl rfl (slS 15 rfl rfl (slS 16 rfl rfl (slS 17 rfl rfl (slS 18 rfl rfl (slS 19 rfl rfl (slS 20 rfl rfl (slS 21 rfl rfl (slS 22 rfl rfl (slS 23 rfl rfl (slL 22 (d := 22) rfl (trivial)))))))))))))))))))))))))) ?_ ?_
            · show ∀ i ∈ [0, 1, 2, 3, 4, 5, 6, 7, 8, 9, 10, 11, 12, 13, 14, 15, 16, 17, 18, 19, 20, 21, 22], _
              refine zA (st_at 0 (⟨g12_6, 0, none⟩) rfl rfl rfl (fun _ _ _ _ => rfl) hLo rfl rfl Tryd.underlying25 (by kernel_rfl) rfl (row_at hRow17_0) (fun b G hb ho => zG rfl (HS23.get 16 rfl))) ?_
              refine zA (st_at 1 (⟨g13_6, 0, none⟩) rfl rfl rfl (fun _ _ _ _ => rfl) hLo rfl rfl Tryd.underlying25 (by kernel_rfl) rfl (row_at hRow17_1) (fun b G hb ho => zG rfl (HS23.get 17 rfl))) ?_
              refine zA (zB 2 _ rfl rfl hLo rfl rfl (fun _ _ _ _ => rfl) (fun b G w hb ho => zD (.inl rfl) (zG rfl (HS23.get 21 rfl)))) ?_
              refine zA (zB 3 _ rfl rfl hLo rfl rfl (fun _ _ _ _ => rfl) (fun b G w hb ho => zD (.inl rfl) (zG rfl (HS23.get 5 rfl)))) ?_
              refine zA (yB 4 _ #[.agg (FR () 6 ((x).sc)), .agg (FR () 6 ((y).sc)), .string (outK x y (k)), .int .i64 (mine)] rfl rfl rfl (fun _ _ _ _ => rfl) hLo rfl rfl Tryd.func32 rfl rfl (fun b G hb ho => args4 (zC hLo 0 rfl HS23.1 rfl (hb 0 (by rfl))) (zC hLo 1 rfl HS23.1 rfl (hb 1 (by rfl))) (zC hLo 2 rfl HS23.1 rfl (hb 2 (by rfl))) (zC hLo 3 rfl HS23.1 rfl (hb 3 (by rfl)))) (fun w hw => (by have hq := may_calls (a := x) (b := y) (outK x y (k)) mine (hInx_17.below hw) (hIny_17.below hw) hRx hRy; rw [hr5] at hq; exact hq))) ?_
              refine zA (zB 5 _ rfl rfl hLo rfl rfl (fun _ _ _ _ => rfl) (fun b G w hb ho => exec_un rfl (zC hLo 4 rfl HS23.1 rfl (hb 4 (by rfl))) (ru_not _))) ?_
              refine zA (zB 6 _ rfl rfl hLo rfl rfl (fun _ _ _ _ => rfl) (fun b G w hb ho => zD (.inl rfl) (zC hLo 5 rfl HS23.1 rfl (hb 5 (by rfl))))) ?_
              refine zA (zB 7 _ rfl rfl hLo rfl rfl (fun b G hb ho => zE rfl rfl rfl HS23.1 rfl (zC hLo 6 rfl HS23.1 rfl (hb 6 (by rfl))) rfl) (fun b G w hb ho => zD (.inl rfl) (zG rfl (HS23.get 15 rfl)))) ?_
              refine zA (zB 8 _ rfl rfl hLo rfl rfl (fun b G hb ho => zE rfl rfl rfl HS23.1 rfl (zC hLo 6 rfl HS23.1 rfl (hb 6 (by rfl))) rfl) (fun b G w hb ho => zI rfl (zC hLo 7 rfl HS23.1 rfl (hb 7 (by rfl))) (rfl) (rb_seql hr6 _ _ _))) ?_
              refine zA (zB 9 _ rfl rfl hLo rfl rfl (fun b G hb ho => zE rfl rfl rfl HS23.1 rfl (zC hLo 6 rfl HS23.1 rfl (hb 6 (by rfl))) rfl) (fun b G w hb ho => zD (.inl rfl) (zC hLo 8 rfl HS23.1 rfl (hb 8 (by rfl))))) ?_
              refine zA (zN 10 rfl rfl hLo rfl rfl (fun b G hb ho => zE rfl rfl rfl HS23.1 rfl (zC hLo 9 rfl HS23.1 rfl (hb 9 (by rfl))) rfl)) ?_
              refine zA (zN 11 rfl rfl hLo rfl rfl (fun b G hb ho => zE rfl rfl rfl HS23.1 rfl (zC hLo 9 rfl HS23.1 rfl (hb 9 (by rfl))) rfl)) ?_
              refine zA (zN 12 rfl rfl hLo rfl rfl (fun b G hb ho => zE rfl rfl rfl HS23.1 rfl (zC hLo 9 rfl HS23.1 rfl (hb 9 (by rfl))) rfl)) ?_
              refine zA (zB 13 _ rfl rfl hLo rfl rfl (fun b G hb ho => zE rfl rfl rfl HS23.1 rfl (zC hLo 6 rfl HS23.1 rfl (hb 6 (by rfl))) rfl) (fun b G w hb ho => zL rfl (zC hLo 9 rfl HS23.1 rfl (hb 9 (by rfl))) (rfl))) ?_
              refine zA (zB 14 _ rfl rfl hLo rfl rfl (fun b G hb ho => zE rfl rfl rfl HS23.1 rfl (zC hLo 6 rfl HS23.1 rfl (hb 6 (by rfl))) rfl) (fun b G w hb ho => zD (.inl rfl) (zC hLo 13 rfl HS23.1 rfl (hb 13 (by rfl))))) ?_
              refine zA (zN 15 rfl rfl hLo rfl rfl (fun b G hb ho => zE rfl rfl rfl HS23.1 rfl (zC hLo 14 rfl HS23.1 rfl (hb 14 (by rfl))) rfl)) ?_
              refine zA (zB 16 _ rfl rfl hLo rfl rfl (fun b G hb ho => zE rfl rfl rfl HS23.1 rfl (zC hLo 6 rfl HS23.1 rfl (hb 6 (by rfl))) rfl) (fun b G w hb ho => zL rfl (zC hLo 14 rfl HS23.1 rfl (hb 14 (by rfl))) (rfl))) ?_
              refine zA (zB 17 _ rfl rfl hLo rfl rfl (fun b G hb ho => zE rfl rfl rfl HS23.1 rfl (zC hLo 6 rfl HS23.1 rfl (hb 6 (by rfl))) rfl) (fun b G w hb ho => zD (.inl rfl) (zC hLo 16 rfl HS23.1 rfl (hb 16 (by rfl))))) ?_
              refine zA (zN 18 rfl rfl hLo rfl rfl (fun b G hb ho => zE rfl rfl rfl HS23.1 rfl (zC hLo 17 rfl HS23.1 rfl (hb 17 (by rfl))) rfl)) ?_
              refine zA (zN 19 rfl rfl hLo rfl rfl (fun b G hb ho => zE rfl rfl rfl HS23.1 rfl (zC hLo 17 rfl HS23.1 rfl (hb 17 (by rfl))) rfl)) ?_
              refine zA (zN 20 rfl rfl hLo rfl rfl (fun b G hb ho => zE rfl rfl rfl HS23.1 rfl (zC hLo 17 rfl HS23.1 rfl (hb 17 (by rfl))) rfl)) ?_
              refine zA (zB 21 _ rfl rfl hLo rfl rfl (fun b G hb ho => zE rfl rfl rfl HS23.1 rfl (zC hLo 6 rfl HS23.1 rfl (hb 6 (by rfl))) rfl) (fun b G w hb ho => zL rfl (zC hLo 17 rfl HS23.1 rfl (hb 17 (by rfl))) (rfl))) ?_
              refine zA (zB 22 _ rfl rfl hLo rfl rfl (fun _ _ _ _ => rfl) (fun b G w hb ho => zL rfl (zC hLo 6 rfl HS23.1 rfl (hb 6 (by rfl))) (zC hLo 21 rfl HS23.1 rfl (hb 21 (by rfl))))) ?_
              exact zF
            clear hLo
            intro G a28 w28 hS hH
            have HS28 : Sl a28 120 [(83, .slice (od) (m) (cd)), (63, .slice (some ⟨gt, 0, none⟩) (3) (3)), (0, .agg (FR () 6 ((p).sc))), (1, .agg (FR () 6 ((q).sc))), (2, .string (user)), (3, .int .i64 (mine)), (4, .pointer (some (⟨g1_0, 0, none⟩))), (5, .pointer (some (⟨g1_1, 0, none⟩))), (25, .slice (some ba) (7) (cn)), (26, .int .i64 (7)), (27, .int .i64 ((i : Int))), (28, .bool false), (64, .int .i64 (3)), (65, .int .i64 ((j : Int))), (66, .bool true), (16, .string (TN (j))), (17, .pointer (some (⟨g12_6, 0, none⟩))), (19, .pointer (some (⟨g13_6, 0, none⟩))), (84, .int .i64 ((m : Int))), (85, .int .i64 ((k : Int))), (86, .bool true), (22, .string (outK x y (k))), (23, .int .i64 (((x).tell (outK x y (k))).1)), (24, .bool r4), (117, .bool false)] := hS
            have HH28 : Held w15 w28 [] := hH
            clear hS hH HS23 HH23
            refine then_ ?_
            refine wp_cond_false (HS28.get 24 rfl) ?_
            refine wp_skip ?_
            refine zQ ?_
            refine then_ ?_
            have hLo : LOk [(0, 118, .val (.int .i64 (((k + 1 : Nat) : Int)))), (1, 85, .val (.int .i64 (((k + 1 : Nat) : Int))))] := lok (by rfl) (by rfl)
            refine zH (wE := w15) (sz := 120) (n := 2) [0, 1] [(83, .val (.slice (od) (m) (cd))), (63, .val (.slice (some ⟨gt, 0, none⟩) (3) (3))), (0, .val (.agg (FR () 6 ((p).sc)))), (1, .val (.agg (FR () 6 ((q).sc)))), (2, .val (.string (user))), (3, .val (.int .i64 (mine))), (4, .val (.pointer (some (⟨g1_0, 0, none⟩)))), (5, .val (.pointer (some (⟨g1_1, 0, none⟩)))), (25, .val (.slice (some ba) (7) (cn))), (26, .val (.int .i64 (7))), (27, .val (.int .i64 ((i : Int)))), (28, .val (.bool false)), (64, .val (.int .i64 (3))), (65, .val (.int .i64 ((j : Int)))), (66, .val (.bool true)), (16, .val (.string (TN (j)))), (17, .val (.pointer (some (⟨g12_6, 0, none⟩)))), (19, .val (.pointer (some (⟨g13_6, 0, none⟩)))), (84, .val (.int .i64 ((m : Int)))), (86, .val (.bool true)), (22, .val (.string (outK x y (k)))), (23, .val (.int .i64 (((x).tell (outK x y (k))).1))), (24, .val (.bool r4)), (117, .val (.bool false)), (85, .val (.int .i64 (((k + 1 : Nat) : Int))))] [(0, 118, .val (.int .i64 (((k + 1 : Nat) : Int)))), (1, 85, .val (.int .i64 (((k + 1 : Nat) : Int))))] [] rfl (by rfl) HH28 rfl rfl hLo rfl HS28 (slS 0 rfl rfl (slS 1 rfl rfl (slS 2 rfl rfl (slS 3 rfl rfl (slS 4 rfl rfl (slS 5 rfl rfl (slS 6 rfl rfl (slS 7 rfl rfl (slS 8 rfl rfl (slS 9 rfl rfl (slS 10 rfl rfl (slS 11 rfl rfl (slS 12 rfl rfl (slS 13 rfl rfl (slS 14 rfl rfl (slS 15 rfl rfl (slS 16 rfl rfl (slS 17 rfl rfl (slS 18 rfl rfl (slS 20 rfl rfl (slS 21 rfl rfl (slS 22 rfl rfl (slS 23 rfl rfl (slS 24 rfl rfl (slL 1 (d := 1) rfl (trivial)))))))))))))))))))))))))) ?_ ?_
            · show ∀ i ∈ [0, 1], _
              refine zA (zB 0 _ rfl rfl hLo rfl rfl (fun _ _ _ _ => rfl) (fun b G w hb ho => zI rfl (ev_pre hLo 1 rfl (ho 1 (by rfl)) (HS28.get 19 rfl)) (rfl) (rb_add (w_nat (by omega) (by omega)) _ _ _))) ?_
              refine zA (zB 1 _ rfl rfl hLo rfl rfl (fun _ _ _ _ => rfl) (fun b G w hb ho => zD (.inl rfl) (zC hLo 0 rfl HS28.1 rfl (hb 0 (by rfl))))) ?_
              exact zF
            clear hLo
            intro G a29 w29 hS hH
            have HS29 : Sl a29 120 [(83, .slice (od) (m) (cd)), (63, .slice (some ⟨gt, 0, none⟩) (3) (3)), (0, .agg (FR () 6 ((p).sc))), (1, .agg (FR () 6 ((q).sc))), (2, .string (user)), (3, .int .i64 (mine)), (4, .pointer (some (⟨g1_0, 0, none⟩))), (5, .pointer (some (⟨g1_1, 0, none⟩))), (25, .slice (some ba) (7) (cn)), (26, .int .i64 (7)), (27, .int .i64 ((i : Int))), (28, .bool false), (64, .int .i64 (3)), (65, .int .i64 ((j : Int))), (66, .bool true), (16, .string (TN (j))), (17, .pointer (some (⟨g12_6, 0, none⟩))), (19, .pointer (some (⟨g13_6, 0, none⟩))), (84, .int .i64 ((m : Int))), (86, .bool true), (22, .string (outK x y (k))), (23, .int .i64 (((x).tell (outK x y (k))).1)), (24, .bool r4), (117, .bool false), (85, .int .i64 (((k + 1 : Nat) : Int)))] := hS
            have HH29 : Held w15 w29 [] := hH
            clear hS hH HS28 HH28
            refine then_ ?_
            have hSq2' : Sl _ 120 [(83, .slice (od) (m) (cd)), (63, .slice (some ⟨gt, 0, none⟩) (3) (3)), (0, .agg (FR () 6 ((p).sc))), (1, .agg (FR () 6 ((q).sc))), (2, .string (user)), (3, .int .i64 (mine)), (4, .pointer (some (⟨g1_0, 0, none⟩))), (5, .pointer (some (⟨g1_1, 0, none⟩))), (25, .slice (some ba) (7) (cn)), (26, .int .i64 (7)), (27, .int .i64 ((i : Int))), (28, .bool false), (64, .int .i64 (3)), (65, .int .i64 ((j : Int))), (66, .bool true), (16, .string (TN (j))), (17, .pointer (some (⟨g12_6, 0, none⟩))), (19, .pointer (some (⟨g13_6, 0, none⟩))), (84, .int .i64 ((m : Int))), (85, .int .i64 (((k + 1 : Nat) : Int)))] := yA HS29 [0, 1, 2, 3, 4, 5, 6, 7, 8, 9, 10, 11, 12, 13, 14, 15, 16, 17, 18, 24] (by rfl)
            have hHq2' : Held w15 _ [] := yD HH29 0 rfl
            exact ⟨⟨k + 1, by omega, allB_step hpk (by show (!keyBad x y user mine (TN j) (outK x y k)) = _; unfold keyBad; simp only [hr5, hr6, hr4]; try rfl), hSq2', hHq2'⟩, by rw [(hSq2'.get 19 rfl)]; show m - (((k + 1 : Nat) : Int)).toNat < m - k; omega⟩
          · skip
            obtain ⟨r7, hr7⟩ : ∃ r : Bool, (!decide ((outK x y (k) : ByteArray) = user)) = r := ⟨_, rfl⟩
            cases r7
            · skip
              refine wp_seq ?_
              have hLo : LOk [(0, 95, .val (.agg (FR () 6 ((x).sc)))), (1, 96, .val (.agg (FR () 6 ((y).sc)))), (2, 97, .val (.string (outK x y (k)))), (3, 98, .val (.int .i64 (mine))), (4, 99, .val (.bool true)), (5, 100, .val (.bool false)), (6, 101, .val (.bool false)), (7, 102, .val (.string (TN (j)))), (8, 103, .val (.bool true)), (9, 104, .val (.bool true)), (10, 105, .val (.string (outK x y (k)))), (11, 106, .val (.string (user))), (12, 107, .val (.bool false)), (13, 108, .val (.bool false)), (14, 109, .val (.bool false)), (15, 110, .val (undef)), (16, 111, .val (.bool false)), (17, 112, .val (.bool false)), (18, 113, .val (undef)), (19, 114, .val (undef)), (20, 115, .val (undef)), (21, 116, .val (.bool false)), (22, 117, .val (.bool false))] := lok (by rfl) (by rfl)
              refine zH (wE := w15) (sz := 120) (n := 23) [0, 1, 3, 7, 15, 31, 63, 127, 255, 511, 1023, 2047, 4095, 8191, 16383, 32767, 65535, 131071, 262143, 524287, 1048575, 2097151, 4194303] [(83, .val (.slice (od) (m) (cd))), (63, .val (.slice (some ⟨gt, 0, none⟩) (3) (3))), (0, .val (.agg (FR () 6 ((p).sc)))), (1, .val (.agg (FR () 6 ((q).sc)))), (2, .val (.string (user))), (3, .val (.int .i64 (mine))), (4, .val (.pointer (some (⟨g1_0, 0, none⟩)))), (5, .val (.pointer (some (⟨g1_1, 0, none⟩)))), (25, .val (.slice (some ba) (7) (cn))), (26, .val (.int .i64 (7))), (27, .val (.int .i64 ((i : Int)))), (28, .val (.bool false)), (64, .val (.int .i64 (3))), (65, .val (.int .i64 ((j : Int)))), (66, .val (.bool true)), (16, .val (.string (TN (j)))), (17, .val (.pointer (some (⟨g12_6, 0, none⟩)))), (19, .val (.pointer (some (⟨g13_6, 0, none⟩)))), (84, .val (.int .i64 ((m : Int)))), (85, .val (.int .i64 ((k : Int)))), (86, .val (.bool true)), (22, .val (.string (outK x y (k)))), (23, .val (.int .i64 (((x).tell (outK x y (k))).1))), (24, .val (.bool r4)), (117, .val (.bool false))] [(0, 95, .val (.agg (FR () 6 ((x).sc)))), (1, 96, .val (.agg (FR () 6 ((y).sc)))), (2, 97, .val (.string (outK x y (k)))), (3, 98, .val (.int .i64 (mine))), (4, 99, .val (.bool true)), (5, 100, .val (.bool false)), (6, 101, .val (.bool false)), (7, 102, .val (.string (TN (j)))), (8, 103, .val (.bool true)), (9, 104, .val (.bool true)), (10, 105, .val (.string (outK x y (k)))), (11, 106, .val (.string (user))), (12, 107, .val (.bool false)), (13, 108, .val (.bool false)), (14, 109, .val (.bool false)), (15, 110, .val (undef)), (16, 111, .val (.bool false)), (17, 112, .val (.bool false)), (18, 113, .val (undef)), (19, 114, .val (undef)), (20, 115, .val (undef)), (21, 116, .val (.bool false)), (22, 117, .val (.bool false))] [] rfl (by rfl) HH23 rfl rfl hLo rfl HS23 (slS 0 rfl rfl (slS 1 rfl rfl (slS 2 rfl rfl (slS 3 rfl rfl (slS 4 rfl rfl (slS 5 rfl rfl (slS 6 rfl rfl (slS 7 rfl rfl (slS 8 rfl rfl (slS 9 rfl rfl (slS 10 rfl rfl (slS 11 rfl rfl (slS 12 rfl rfl (slS 13 rfl rfl (slS 14 rfl rfl (slS 15 rfl rfl (slS 16 rfl rfl (slS 17 rfl rfl (slS 18 rfl rfl (slS 19 rfl rfl (slS 20 rfl rfl (slS 21 rfl rfl (slS 22 rfl rfl (slS 23 rfl rfl (slL 22 (d := 22) rfl (trivial)))))))))))))))))))))))))) ?_ ?_
              · show ∀ i ∈ [0, 1, 2, 3, 4, 5, 6, 7, 8, 9, 10, 11, 12, 13, 14, 15, 16, 17, 18, 19, 20, 21, 22], _
                refine zA (st_at 0 (⟨g12_6, 0, none⟩) rfl rfl rfl (fun _ _ _ _ => rfl) hLo rfl rfl Tryd.underlying25 (by kernel_rfl) rfl (row_at hRow17_0) (fun b G hb ho => zG rfl (HS23.get 16 rfl))) ?_
                refine zA (st_at 1 (⟨g13_6, 0, none⟩) rfl rfl rfl (fun _ _ _ _ => rfl) hLo rfl rfl Tryd.underlying25 (by kernel_rfl) rfl (row_at hRow17_1) (fun b G hb ho => zG rfl (HS23.get 17 rfl))) ?_
                refine zA (zB 2 _ rfl rfl hLo rfl rfl (fun _ _ _ _ => rfl) (fun b G w hb ho => zD (.inl rfl) (zG rfl (HS23.get 21 rfl)))) ?_
                refine zA (zB 3 _ rfl rfl hLo rfl rfl (fun _ _ _ _ => rfl) (fun b G w hb ho => zD (.inl rfl) (zG rfl (HS23.get 5 rfl)))) ?_
                refine zA (yB 4 _ #[.agg (FR () 6 ((x).sc)), .agg (FR () 6 ((y).sc)), .string (outK x y (k)), .int .i64 (mine)] rfl rfl rfl (fun _ _ _ _ => rfl) hLo rfl rfl Tryd.func32 rfl rfl (fun b G hb ho => args4 (zC hLo 0 rfl HS23.1 rfl (hb 0 (by rfl))) (zC hLo 1 rfl HS23.1 rfl (hb 1 (by rfl))) (zC hLo 2 rfl HS23.1 rfl (hb 2 (by rfl))) (zC hLo 3 rfl HS23.1 rfl (hb 3 (by rfl)))) (fun w hw => (by have hq := may_calls (a := x) (b := y) (outK x y (k)) mine (hInx_17.below hw) (hIny_17.below hw) hRx hRy; rw [hr5] at hq; exact hq))) ?_
                refine zA (zB 5 _ rfl rfl hLo rfl rfl (fun _ _ _ _ => rfl) (fun b G w hb ho => exec_un rfl (zC hLo 4 rfl HS23.1 rfl (hb 4 (by rfl))) (ru_not _))) ?_
                refine zA (zB 6 _ rfl rfl hLo rfl rfl (fun _ _ _ _ => rfl) (fun b G w hb ho => zD (.inl rfl) (zC hLo 5 rfl HS23.1 rfl (hb 5 (by rfl))))) ?_
                refine zA (zB 7 _ rfl rfl hLo rfl rfl (fun b G hb ho => zE rfl rfl rfl HS23.1 rfl (zC hLo 6 rfl HS23.1 rfl (hb 6 (by rfl))) rfl) (fun b G w hb ho => zD (.inl rfl) (zG rfl (HS23.get 15 rfl)))) ?_
                refine zA (zB 8 _ rfl rfl hLo rfl rfl (fun b G hb ho => zE rfl rfl rfl HS23.1 rfl (zC hLo 6 rfl HS23.1 rfl (hb 6 (by rfl))) rfl) (fun b G w hb ho => zI rfl (zC hLo 7 rfl HS23.1 rfl (hb 7 (by rfl))) (rfl) (rb_seql hr6 _ _ _))) ?_
                refine zA (zB 9 _ rfl rfl hLo rfl rfl (fun b G hb ho => zE rfl rfl rfl HS23.1 rfl (zC hLo 6 rfl HS23.1 rfl (hb 6 (by rfl))) rfl) (fun b G w hb ho => zD (.inl rfl) (zC hLo 8 rfl HS23.1 rfl (hb 8 (by rfl))))) ?_
                refine zA (zB 10 _ rfl rfl hLo rfl rfl (fun b G hb ho => zE rfl rfl rfl HS23.1 rfl (zC hLo 9 rfl HS23.1 rfl (hb 9 (by rfl))) rfl) (fun b G w hb ho => zD (.inl rfl) (zG rfl (HS23.get 21 rfl)))) ?_
                refine zA (zB 11 _ rfl rfl hLo rfl rfl (fun b G hb ho => zE rfl rfl rfl HS23.1 rfl (zC hLo 9 rfl HS23.1 rfl (hb 9 (by rfl))) rfl) (fun b G w hb ho => zD (.inl rfl) (zG rfl (HS23.get 4 rfl)))) ?_
                refine zA (zB 12 _ rfl rfl hLo rfl rfl (fun b G hb ho => zE rfl rfl rfl HS23.1 rfl (zC hLo 9 rfl HS23.1 rfl (hb 9 (by rfl))) rfl) (fun b G w hb ho => zI rfl (zC hLo 10 rfl HS23.1 rfl (hb 10 (by rfl))) (zC hLo 11 rfl HS23.1 rfl (hb 11 (by rfl))) (rb_sneq hr7 _ _ _))) ?_
                refine zA (zB 13 _ rfl rfl hLo rfl rfl (fun b G hb ho => zE rfl rfl rfl HS23.1 rfl (zC hLo 6 rfl HS23.1 rfl (hb 6 (by rfl))) rfl) (fun b G w hb ho => zL rfl (zC hLo 9 rfl HS23.1 rfl (hb 9 (by rfl))) (zC hLo 12 rfl HS23.1 rfl (hb 12 (by rfl))))) ?_
                refine zA (zB 14 _ rfl rfl hLo rfl rfl (fun b G hb ho => zE rfl rfl rfl HS23.1 rfl (zC hLo 6 rfl HS23.1 rfl (hb 6 (by rfl))) rfl) (fun b G w hb ho => zD (.inl rfl) (zC hLo 13 rfl HS23.1 rfl (hb 13 (by rfl))))) ?_
                refine zA (zN 15 rfl rfl hLo rfl rfl (fun b G hb ho => zE rfl rfl rfl HS23.1 rfl (zC hLo 14 rfl HS23.1 rfl (hb 14 (by rfl))) rfl)) ?_
                refine zA (zB 16 _ rfl rfl hLo rfl rfl (fun b G hb ho => zE rfl rfl rfl HS23.1 rfl (zC hLo 6 rfl HS23.1 rfl (hb 6 (by rfl))) rfl) (fun b G w hb ho => zL rfl (zC hLo 14 rfl HS23.1 rfl (hb 14 (by rfl))) (rfl))) ?_
                refine zA (zB 17 _ rfl rfl hLo rfl rfl (fun b G hb ho => zE rfl rfl rfl HS23.1 rfl (zC hLo 6 rfl HS23.1 rfl (hb 6 (by rfl))) rfl) (fun b G w hb ho => zD (.inl rfl) (zC hLo 16 rfl HS23.1 rfl (hb 16 (by rfl))))) ?_
                refine zA (zN 18 rfl rfl hLo rfl rfl (fun b G hb ho => zE rfl rfl rfl HS23.1 rfl (zC hLo 17 rfl HS23.1 rfl (hb 17 (by rfl))) rfl)) ?_
                refine zA (zN 19 rfl rfl hLo rfl rfl (fun b G hb ho => zE rfl rfl rfl HS23.1 rfl (zC hLo 17 rfl HS23.1 rfl (hb 17 (by rfl))) rfl)) ?_
                refine zA (zN 20 rfl rfl hLo rfl rfl (fun b G hb ho => zE rfl rfl rfl HS23.1 rfl (zC hLo 17 rfl HS23.1 rfl (hb 17 (by rfl))) rfl)) ?_
                refine zA (zB 21 _ rfl rfl hLo rfl rfl (fun b G hb ho => zE rfl rfl rfl HS23.1 rfl (zC hLo 6 rfl HS23.1 rfl (hb 6 (by rfl))) rfl) (fun b G w hb ho => zL rfl (zC hLo 17 rfl HS23.1 rfl (hb 17 (by rfl))) (rfl))) ?_
                refine zA (zB 22 _ rfl rfl hLo rfl rfl (fun _ _ _ _ => rfl) (fun b G w hb ho => zL rfl (zC hLo 6 rfl HS23.1 rfl (hb 6 (by rfl))) (zC hLo 21 rfl HS23.1 rfl (hb 21 (by rfl))))) ?_
                exact zF
              clear hLo
              intro G a30 w30 hS hH
              have HS30 : Sl a30 120 [(83, .slice (od) (m) (cd)), (63, .slice (some ⟨gt, 0, none⟩) (3) (3)), (0, .agg (FR () 6 ((p).sc))), (1, .agg (FR () 6 ((q).sc))), (2, .string (user)), (3, .int .i64 (mine)), (4, .pointer (some (⟨g1_0, 0, none⟩))), (5, .pointer (some (⟨g1_1, 0, none⟩))), (25, .slice (some ba) (7) (cn)), (26, .int .i64 (7)), (27, .int .i64 ((i : Int))), (28, .bool false), (64, .int .i64 (3)), (65, .int .i64 ((j : Int))), (66, .bool true), (16, .string (TN (j))), (17, .pointer (some (⟨g12_6, 0, none⟩))), (19, .pointer (some (⟨g13_6, 0, none⟩))), (84, .int .i64 ((m : Int))), (85, .int .i64 ((k : Int))), (86, .bool true), (22, .string (outK x y (k))), (23, .int .i64 (((x).tell (outK x y (k))).1)), (24, .bool r4), (117, .bool false)] := hS
              have HH30 : Held w15 w30 [] := hH
              clear hS hH HS23 HH23
              refine then_ ?_
              refine wp_cond_false (HS30.get 24 rfl) ?_
              refine wp_skip ?_
              refine zQ ?_
              refine then_ ?_
              have hLo : LOk [(0, 118, .val (.int .i64 (((k + 1 : Nat) : Int)))), (1, 85, .val (.int .i64 (((k + 1 : Nat) : Int))))] := lok (by rfl) (by rfl)
              refine zH (wE := w15) (sz := 120) (n := 2) [0, 1] [(83, .val (.slice (od) (m) (cd))), (63, .val (.slice (some ⟨gt, 0, none⟩) (3) (3))), (0, .val (.agg (FR () 6 ((p).sc)))), (1, .val (.agg (FR () 6 ((q).sc)))), (2, .val (.string (user))), (3, .val (.int .i64 (mine))), (4, .val (.pointer (some (⟨g1_0, 0, none⟩)))), (5, .val (.pointer (some (⟨g1_1, 0, none⟩)))), (25, .val (.slice (some ba) (7) (cn))), (26, .val (.int .i64 (7))), (27, .val (.int .i64 ((i : Int)))), (28, .val (.bool false)), (64, .val (.int .i64 (3))), (65, .val (.int .i64 ((j : Int)))), (66, .val (.bool true)), (16, .val (.string (TN (j)))), (17, .val (.pointer (some (⟨g12_6, 0, none⟩)))), (19, .val (.pointer (some (⟨g13_6, 0, none⟩)))), (84, .val (.int .i64 ((m : Int)))), (86, .val (.bool true)), (22, .val (.string (outK x y (k)))), (23, .val (.int .i64 (((x).tell (outK x y (k))).1))), (24, .val (.bool r4)), (117, .val (.bool false)), (85, .val (.int .i64 (((k + 1 : Nat) : Int))))] [(0, 118, .val (.int .i64 (((k + 1 : Nat) : Int)))), (1, 85, .val (.int .i64 (((k + 1 : Nat) : Int))))] [] rfl (by rfl) HH30 rfl rfl hLo rfl HS30 (slS 0 rfl rfl (slS 1 rfl rfl (slS 2 rfl rfl (slS 3 rfl rfl (slS 4 rfl rfl (slS 5 rfl rfl (slS 6 rfl rfl (slS 7 rfl rfl (slS 8 rfl rfl (slS 9 rfl rfl (slS 10 rfl rfl (slS 11 rfl rfl (slS 12 rfl rfl (slS 13 rfl rfl (slS 14 rfl rfl (slS 15 rfl rfl (slS 16 rfl rfl (slS 17 rfl rfl (slS 18 rfl rfl (slS 20 rfl rfl (slS 21 rfl rfl (slS 22 rfl rfl (slS 23 rfl rfl (slS 24 rfl rfl (slL 1 (d := 1) rfl (trivial)))))))))))))))))))))))))) ?_ ?_
              · show ∀ i ∈ [0, 1], _
                refine zA (zB 0 _ rfl rfl hLo rfl rfl (fun _ _ _ _ => rfl) (fun b G w hb ho => zI rfl (ev_pre hLo 1 rfl (ho 1 (by rfl)) (HS30.get 19 rfl)) (rfl) (rb_add (w_nat (by omega) (by omega)) _ _ _))) ?_
                refine zA (zB 1 _ rfl rfl hLo rfl rfl (fun _ _ _ _ => rfl) (fun b G w hb ho => zD (.inl rfl) (zC hLo 0 rfl HS30.1 rfl (hb 0 (by rfl))))) ?_
                exact zF
              clear hLo
              intro G a31 w31 hS hH
              have HS31 : Sl a31 120 [(83, .slice (od) (m) (cd)), (63, .slice (some ⟨gt, 0, none⟩) (3) (3)), (0, .agg (FR () 6 ((p).sc))), (1, .agg (FR () 6 ((q).sc))), (2, .string (user)), (3, .int .i64 (mine)), (4, .pointer (some (⟨g1_0, 0, none⟩))), (5, .pointer (some (⟨g1_1, 0, none⟩))), (25, .slice (some ba) (7) (cn)), (26, .int .i64 (7)), (27, .int .i64 ((i : Int))), (28, .bool false), (64, .int .i64 (3)), (65, .int .i64 ((j : Int))), (66, .bool true), (16, .string (TN (j))), (17, .pointer (some (⟨g12_6, 0, none⟩))), (19, .pointer (some (⟨g13_6, 0, none⟩))), (84, .int .i64 ((m : Int))), (86, .bool true), (22, .string (outK x y (k))), (23, .int .i64 (((x).tell (outK x y (k))).1)), (24, .bool r4), (117, .bool false), (85, .int .i64 (((k + 1 : Nat) : Int)))] := hS
              have HH31 : Held w15 w31 [] := hH
              clear hS hH HS30 HH30
              refine then_ ?_
              have hSq2' : Sl _ 120 [(83, .slice (od) (m) (cd)), (63, .slice (some ⟨gt, 0, none⟩) (3) (3)), (0, .agg (FR () 6 ((p).sc))), (1, .agg (FR () 6 ((q).sc))), (2, .string (user)), (3, .int .i64 (mine)), (4, .pointer (some (⟨g1_0, 0, none⟩))), (5, .pointer (some (⟨g1_1, 0, none⟩))), (25, .slice (some ba) (7) (cn)), (26, .int .i64 (7)), (27, .int .i64 ((i : Int))), (28, .bool false), (64, .int .i64 (3)), (65, .int .i64 ((j : Int))), (66, .bool true), (16, .string (TN (j))), (17, .pointer (some (⟨g12_6, 0, none⟩))), (19, .pointer (some (⟨g13_6, 0, none⟩))), (84, .int .i64 ((m : Int))), (85, .int .i64 (((k + 1 : Nat) : Int)))] := yA HS31 [0, 1, 2, 3, 4, 5, 6, 7, 8, 9, 10, 11, 12, 13, 14, 15, 16, 17, 18, 24] (by rfl)
              have hHq2' : Held w15 _ [] := yD HH31 0 rfl
              exact ⟨⟨k + 1, by omega, allB_step hpk (by show (!keyBad x y user mine (TN j) (outK x y k)) = _; unfold keyBad; simp only [hr5, hr6, hr7, hr4]; try rfl), hSq2', hHq2'⟩, by rw [(hSq2'.get 19 rfl)]; show m - (((k + 1 : Nat) : Int)).toNat < m - k; omega⟩
            · skip
              cases r4
              · skip
                refine wp_seq ?_
                have hLo : LOk [(0, 95, .val (.agg (FR () 6 ((x).sc)))), (1, 96, .val (.agg (FR () 6 ((y).sc)))), (2, 97, .val (.string (outK x y (k)))), (3, 98, .val (.int .i64 (mine))), (4, 99, .val (.bool true)), (5, 100, .val (.bool false)), (6, 101, .val (.bool false)), (7, 102, .val (.string (TN (j)))), (8, 103, .val (.bool true)), (9, 104, .val (.bool true)), (10, 105, .val (.string (outK x y (k)))), (11, 106, .val (.string (user))), (12, 107, .val (.bool true)), (13, 108, .val (.bool true)), (14, 109, .val (.bool true)), (15, 110, .val (.bool false)), (16, 111, .val (.bool false)), (17, 112, .val (.bool false)), (18, 113, .val (undef)), (19, 114, .val (undef)), (20, 115, .val (undef)), (21, 116, .val (.bool false)), (22, 117, .val (.bool false))] := lok (by rfl) (by rfl)
                refine zH (wE := w15) (sz := 120) (n := 23) [0, 1, 3, 7, 15, 31, 63, 127, 255, 511, 1023, 2047, 4095, 8191, 16383, 32767, 65535, 131071, 262143, 524287, 1048575, 2097151, 4194303] [(83, .val (.slice (od) (m) (cd))), (63, .val (.slice (some ⟨gt, 0, none⟩) (3) (3))), (0, .val (.agg (FR () 6 ((p).sc)))), (1, .val (.agg (FR () 6 ((q).sc)))), (2, .val (.string (user))), (3, .val (.int .i64 (mine))), (4, .val (.pointer (some (⟨g1_0, 0, none⟩)))), (5, .val (.pointer (some (⟨g1_1, 0, none⟩)))), (25, .val (.slice (some ba) (7) (cn))), (26, .val (.int .i64 (7))), (27, .val (.int .i64 ((i : Int)))), (28, .val (.bool false)), (64, .val (.int .i64 (3))), (65, .val (.int .i64 ((j : Int)))), (66, .val (.bool true)), (16, .val (.string (TN (j)))), (17, .val (.pointer (some (⟨g12_6, 0, none⟩)))), (19, .val (.pointer (some (⟨g13_6, 0, none⟩)))), (84, .val (.int .i64 ((m : Int)))), (85, .val (.int .i64 ((k : Int)))), (86, .val (.bool true)), (22, .val (.string (outK x y (k)))), (23, .val (.int .i64 (((x).tell (outK x y (k))).1))), (24, .val (.bool false)), (117, .val (.bool false))] [(0, 95, .val (.agg (FR () 6 ((x).sc)))), (1, 96, .val (.agg (FR () 6 ((y).sc)))), (2, 97, .val (.string (outK x y (k)))), (3, 98, .val (.int .i64 (mine))), (4, 99, .val (.bool true)), (5, 100, .val (.bool false)), (6, 101, .val (.bool false)), (7, 102, .val (.string (TN (j)))), (8, 103, .val (.bool true)), (9, 104, .val (.bool true)), (10, 105, .val (.string (outK x y (k)))), (11, 106, .val (.string (user))), (12, 107, .val (.bool true)), (13, 108, .val (.bool true)), (14, 109, .val (.bool true)), (15, 110, .val (.bool false)), (16, 111, .val (.bool false)), (17, 112, .val (.bool false)), (18, 113, .val (undef)), (19, 114, .val (undef)), (20, 115, .val (undef)), (21, 116, .val (.bool false)), (22, 117, .val (.bool false))] [] rfl (by rfl) HH23 rfl rfl hLo rfl HS23 (slS 0 rfl rfl (slS 1 rfl rfl (slS 2 rfl rfl (slS 3 rfl rfl (slS 4 rfl rfl (slS 5 rfl rfl (slS 6 rfl rfl (slS 7 rfl rfl (slS 8 rfl rfl (slS 9 rfl rfl (slS 10 rfl rfl (slS 11 rfl rfl (slS 12 rfl rfl (slS 13 rfl rfl (slS 14 rfl rfl (slS 15 rfl rfl (slS 16 rfl rfl (slS 17 rfl rfl (slS 18 rfl rfl (slS 19 rfl rfl (slS 20 rfl rfl (slS 21 rfl rfl (slS 22 rfl rfl (slS 23 rfl rfl (slL 22 (d := 22) rfl (trivial)))))))))))))))))))))))))) ?_ ?_
                · show ∀ i ∈ [0, 1, 2, 3, 4, 5, 6, 7, 8, 9, 10, 11, 12, 13, 14, 15, 16, 17, 18, 19, 20, 21, 22], _
                  refine zA (st_at 0 (⟨g12_6, 0, none⟩) rfl rfl rfl (fun _ _ _ _ => rfl) hLo rfl rfl Tryd.underlying25 (by kernel_rfl) rfl (row_at hRow17_0) (fun b G hb ho => zG rfl (HS23.get 16 rfl))) ?_
                  refine zA (st_at 1 (⟨g13_6, 0, none⟩) rfl rfl rfl (fun _ _ _ _ => rfl) hLo rfl rfl Tryd.underlying25 (by kernel_rfl) rfl (row_at hRow17_1) (fun b G hb ho => zG rfl (HS23.get 17 rfl))) ?_
                  refine zA (zB 2 _ rfl rfl hLo rfl rfl (fun _ _ _ _ => rfl) (fun b G w hb ho => zD (.inl rfl) (zG rfl (HS23.get 21 rfl)))) ?_
                  refine zA (zB 3 _ rfl rfl hLo rfl rfl (fun _ _ _ _ => rfl) (fun b G w hb ho => zD (.inl rfl) (zG rfl (HS23.get 5 rfl)))) ?_
                  refine zA (yB 4 _ #[.agg (FR () 6 ((x).sc)), .agg (FR () 6 ((y).sc)), .string (outK x y (k)), .int .i64 (mine)] rfl rfl rfl (fun _ _ _ _ => rfl) hLo rfl rfl Tryd.func32 rfl rfl (fun b G hb ho => args4 (zC hLo 0 rfl HS23.1 rfl (hb 0 (by rfl))) (zC hLo 1 rfl HS23.1 rfl (hb 1 (by rfl))) (zC hLo 2 rfl HS23.1 rfl (hb 2 (by rfl))) (zC hLo 3 rfl HS23.1 rfl (hb 3 (by rfl)))) (fun w hw => (by have hq := may_calls (a := x) (b := y) (outK x y (k)) mine (hInx_17.below hw) (hIny_17.below hw) hRx hRy; rw [hr5] at hq; exact hq))) ?_
                  refine zA (zB 5 _ rfl rfl hLo rfl rfl (fun _ _ _ _ => rfl) (fun b G w hb ho => exec_un rfl (zC hLo 4 rfl HS23.1 rfl (hb 4 (by rfl))) (ru_not _))) ?_
                  refine zA (zB 6 _ rfl rfl hLo rfl rfl (fun _ _ _ _ => rfl) (fun b G w hb ho => zD (.inl rfl) (zC hLo 5 rfl HS23.1 rfl (hb 5 (by rfl))))) ?_
                  refine zA (zB 7 _ rfl rfl hLo rfl rfl (fun b G hb ho => zE rfl rfl rfl HS23.1 rfl (zC hLo 6 rfl HS23.1 rfl (hb 6 (by rfl))) rfl) (fun b G w hb ho => zD (.inl rfl) (zG rfl (HS23.get 15 rfl)))) ?_
                  refine zA (zB 8 _ rfl rfl hLo rfl rfl (fun b G hb ho => zE rfl rfl rfl HS23.1 rfl (zC hLo 6 rfl HS23.1 rfl (hb 6 (by rfl))) rfl) (fun b G w hb ho => zI rfl (zC hLo 7 rfl HS23.1 rfl (hb 7 (by rfl))) (rfl) (rb_seql hr6 _ _ _))) ?_
                  refine zA (zB 9 _ rfl rfl hLo rfl rfl (fun b G hb ho => zE rfl rfl rfl HS23.1 rfl (zC hLo 6 rfl HS23.1 rfl (hb 6 (by rfl))) rfl) (fun b G w hb ho => zD (.inl rfl) (zC hLo 8 rfl HS23.1 rfl (hb 8 (by rfl))))) ?_
                  refine zA (zB 10 _ rfl rfl hLo rfl rfl (fun b G hb ho => zE rfl rfl rfl HS23.1 rfl (zC hLo 9 rfl HS23.1 rfl (hb 9 (by rfl))) rfl) (fun b G w hb ho => zD (.inl rfl) (zG rfl (HS23.get 21 rfl)))) ?_
                  refine zA (zB 11 _ rfl rfl hLo rfl rfl (fun b G hb ho => zE rfl rfl rfl HS23.1 rfl (zC hLo 9 rfl HS23.1 rfl (hb 9 (by rfl))) rfl) (fun b G w hb ho => zD (.inl rfl) (zG rfl (HS23.get 4 rfl)))) ?_
                  refine zA (zB 12 _ rfl rfl hLo rfl rfl (fun b G hb ho => zE rfl rfl rfl HS23.1 rfl (zC hLo 9 rfl HS23.1 rfl (hb 9 (by rfl))) rfl) (fun b G w hb ho => zI rfl (zC hLo 10 rfl HS23.1 rfl (hb 10 (by rfl))) (zC hLo 11 rfl HS23.1 rfl (hb 11 (by rfl))) (rb_sneq hr7 _ _ _))) ?_
                  refine zA (zB 13 _ rfl rfl hLo rfl rfl (fun b G hb ho => zE rfl rfl rfl HS23.1 rfl (zC hLo 6 rfl HS23.1 rfl (hb 6 (by rfl))) rfl) (fun b G w hb ho => zL rfl (zC hLo 9 rfl HS23.1 rfl (hb 9 (by rfl))) (zC hLo 12 rfl HS23.1 rfl (hb 12 (by rfl))))) ?_
                  refine zA (zB 14 _ rfl rfl hLo rfl rfl (fun b G hb ho => zE rfl rfl rfl HS23.1 rfl (zC hLo 6 rfl HS23.1 rfl (hb 6 (by rfl))) rfl) (fun b G w hb ho => zD (.inl rfl) (zC hLo 13 rfl HS23.1 rfl (hb 13 (by rfl))))) ?_
                  refine zA (zB 15 _ rfl rfl hLo rfl rfl (fun b G hb ho => zE rfl rfl rfl HS23.1 rfl (zC hLo 14 rfl HS23.1 rfl (hb 14 (by rfl))) rfl) (fun b G w hb ho => zD (.inl rfl) (zG rfl (HS23.get 23 rfl)))) ?_
                  refine zA (zB 16 _ rfl rfl hLo rfl rfl (fun b G hb ho => zE rfl rfl rfl HS23.1 rfl (zC hLo 6 rfl HS23.1 rfl (hb 6 (by rfl))) rfl) (fun b G w hb ho => zL rfl (zC hLo 14 rfl HS23.1 rfl (hb 14 (by rfl))) (zC hLo 15 rfl HS23.1 rfl (hb 15 (by rfl))))) ?_
                  refine zA (zB 17 _ rfl rfl hLo rfl rfl (fun b G hb ho => zE rfl rfl rfl HS23.1 rfl (zC hLo 6 rfl HS23.1 rfl (hb 6 (by rfl))) rfl) (fun b G w hb ho => zD (.inl rfl) (zC hLo 16 rfl HS23.1 rfl (hb 16 (by rfl))))) ?_
                  refine zA (zN 18 rfl rfl hLo rfl rfl (fun b G hb ho => zE rfl rfl rfl HS23.1 rfl (zC hLo 17 rfl HS23.1 rfl (hb 17 (by rfl))) rfl)) ?_
                  refine zA (zN 19 rfl rfl hLo rfl rfl (fun b G hb ho => zE rfl rfl rfl HS23.1 rfl (zC hLo 17 rfl HS23.1 rfl (hb 17 (by rfl))) rfl)) ?_
                  refine zA (zN 20 rfl rfl hLo rfl rfl (fun b G hb ho => zE rfl rfl rfl HS23.1 rfl (zC hLo 17 rfl HS23.1 rfl (hb 17 (by rfl))) rfl)) ?_
                  refine zA (zB 21 _ rfl rfl hLo rfl rfl (fun b G hb ho => zE rfl rfl rfl HS23.1 rfl (zC hLo 6 rfl HS23.1 rfl (hb 6 (by rfl))) rfl) (fun b G w hb ho => zL rfl (zC hLo 17 rfl HS23.1 rfl (hb 17 (by rfl))) (rfl))) ?_
                  refine zA (zB 22 _ rfl rfl hLo rfl rfl (fun _ _ _ _ => rfl) (fun b G w hb ho => zL rfl (zC hLo 6 rfl HS23.1 rfl (hb 6 (by rfl))) (zC hLo 21 rfl HS23.1 rfl (hb 21 (by rfl))))) ?_
                  exact zF
                clear hLo
                intro G a32 w32 hS hH
                have HS32 : Sl a32 120 [(83, .slice (od) (m) (cd)), (63, .slice (some ⟨gt, 0, none⟩) (3) (3)), (0, .agg (FR () 6 ((p).sc))), (1, .agg (FR () 6 ((q).sc))), (2, .string (user)), (3, .int .i64 (mine)), (4, .pointer (some (⟨g1_0, 0, none⟩))), (5, .pointer (some (⟨g1_1, 0, none⟩))), (25, .slice (some ba) (7) (cn)), (26, .int .i64 (7)), (27, .int .i64 ((i : Int))), (28, .bool false), (64, .int .i64 (3)), (65, .int .i64 ((j : Int))), (66, .bool true), (16, .string (TN (j))), (17, .pointer (some (⟨g12_6, 0, none⟩))), (19, .pointer (some (⟨g13_6, 0, none⟩))), (84, .int .i64 ((m : Int))), (85, .int .i64 ((k : Int))), (86, .bool true), (22, .string (outK x y (k))), (23, .int .i64 (((x).tell (outK x y (k))).1)), (24, .bool false), (117, .bool false)] := hS
                have HH32 : Held w15 w32 [] := hH
                clear hS hH HS23 HH23
                refine then_ ?_
                refine wp_cond_false (HS32.get 24 rfl) ?_
                refine wp_skip ?_
                refine zQ ?_
                refine then_ ?_
                have hLo : LOk [(0, 118, .val (.int .i64 (((k + 1 : Nat) : Int)))), (1, 85, .val (.int .i64 (((k + 1 : Nat) : Int))))] := lok (by rfl) (by rfl)
                refine zH (wE := w15) (sz := 120) (n := 2) [0, 1] [(83, .val (.slice (od) (m) (cd))), (63, .val (.slice (some ⟨gt, 0, none⟩) (3) (3))), (0, .val (.agg (FR () 6 ((p).sc)))), (1, .val (.agg (FR () 6 ((q).sc)))), (2, .val (.string (user))), (3, .val (.int .i64 (mine))), (4, .val (.pointer (some (⟨g1_0, 0, none⟩)))), (5, .val (.pointer (some (⟨g1_1, 0, none⟩)))), (25, .val (.slice (some ba) (7) (cn))), (26, .val (.int .i64 (7))), (27, .val (.int .i64 ((i : Int)))), (28, .val (.bool false)), (64, .val (.int .i64 (3))), (65, .val (.int .i64 ((j : Int)))), (66, .val (.bool true)), (16, .val (.string (TN (j)))), (17, .val (.pointer (some (⟨g12_6, 0, none⟩)))), (19, .val (.pointer (some (⟨g13_6, 0, none⟩)))), (84, .val (.int .i64 ((m : Int)))), (86, .val (.bool true)), (22, .val (.string (outK x y (k)))), (23, .val (.int .i64 (((x).tell (outK x y (k))).1))), (24, .val (.bool false)), (117, .val (.bool false)), (85, .val (.int .i64 (((k + 1 : Nat) : Int))))] [(0, 118, .val (.int .i64 (((k + 1 : Nat) : Int)))), (1, 85, .val (.int .i64 (((k + 1 : Nat) : Int))))] [] rfl (by rfl) HH32 rfl rfl hLo rfl HS32 (slS 0 rfl rfl (slS 1 rfl rfl (slS 2 rfl rfl (slS 3 rfl rfl (slS 4 rfl rfl (slS 5 rfl rfl (slS 6 rfl rfl (slS 7 rfl rfl (slS 8 rfl rfl (slS 9 rfl rfl (slS 10 rfl rfl (slS 11 rfl rfl (slS 12 rfl rfl (slS 13 rfl rfl (slS 14 rfl rfl (slS 15 rfl rfl (slS 16 rfl rfl (slS 17 rfl rfl (slS 18 rfl rfl (slS 20 rfl rfl (slS 21 rfl rfl (slS 22 rfl rfl (slS 23 rfl rfl (slS 24 rfl rfl (slL 1 (d := 1) rfl (trivial)))))))))))))))))))))))))) ?_ ?_
                · show ∀ i ∈ [0, 1], _
                  refine zA (zB 0 _ rfl rfl hLo rfl rfl (fun _ _ _ _ => rfl) (fun b G w hb ho => zI rfl (ev_pre hLo 1 rfl (ho 1 (by rfl)) (HS32.get 19 rfl)) (rfl) (rb_add (w_nat (by omega) (by omega)) _ _ _))) ?_
                  refine zA (zB 1 _ rfl rfl hLo rfl rfl (fun _ _ _ _ => rfl) (fun b G w hb ho => zD (.inl rfl) (zC hLo 0 rfl HS32.1 rfl (hb 0 (by rfl))))) ?_
                  exact zF
                clear hLo
                intro G a33 w33 hS hH
                have HS33 : Sl a33 120 [(83, .slice (od) (m) (cd)), (63, .slice (some ⟨gt, 0, none⟩) (3) (3)), (0, .agg (FR () 6 ((p).sc))), (1, .agg (FR () 6 ((q).sc))), (2, .string (user)), (3, .int .i64 (mine)), (4, .pointer (some (⟨g1_0, 0, none⟩))), (5, .pointer (some (⟨g1_1, 0, none⟩))), (25, .slice (some ba) (7) (cn)), (26, .int .i64 (7)), (27, .int .i64 ((i : Int))), (28, .bool false), (64, .int .i64 (3)), (65, .int .i64 ((j : Int))), (66, .bool true), (16, .string (TN (j))), (17, .pointer (some (⟨g12_6, 0, none⟩))), (19, .pointer (some (⟨g13_6, 0, none⟩))), (84, .int .i64 ((m : Int))), (86, .bool true), (22, .string (outK x y (k))), (23, .int .i64 (((x).tell (outK x y (k))).1)), (24, .bool false), (117, .bool false), (85, .int .i64 (((k + 1 : Nat) : Int)))] := hS
                have HH33 : Held w15 w33 [] := hH
                clear hS hH HS32 HH32
                refine then_ ?_
                have hSq2' : Sl _ 120 [(83, .slice (od) (m) (cd)), (63, .slice (some ⟨gt, 0, none⟩) (3) (3)), (0, .agg (FR () 6 ((p).sc))), (1, .agg (FR () 6 ((q).sc))), (2, .string (user)), (3, .int .i64 (mine)), (4, .pointer (some (⟨g1_0, 0, none⟩))), (5, .pointer (some (⟨g1_1, 0, none⟩))), (25, .slice (some ba) (7) (cn)), (26, .int .i64 (7)), (27, .int .i64 ((i : Int))), (28, .bool false), (64, .int .i64 (3)), (65, .int .i64 ((j : Int))), (66, .bool true), (16, .string (TN (j))), (17, .pointer (some (⟨g12_6, 0, none⟩))), (19, .pointer (some (⟨g13_6, 0, none⟩))), (84, .int .i64 ((m : Int))), (85, .int .i64 (((k + 1 : Nat) : Int)))] := yA HS33 [0, 1, 2, 3, 4, 5, 6, 7, 8, 9, 10, 11, 12, 13, 14, 15, 16, 17, 18, 24] (by rfl)
                have hHq2' : Held w15 _ [] := yD HH33 0 rfl
                exact ⟨⟨k + 1, by omega, allB_step hpk (by show (!keyBad x y user mine (TN j) (outK x y k)) = _; unfold keyBad; simp only [hr5, hr6, hr7, hr4]; try rfl), hSq2', hHq2'⟩, by rw [(hSq2'.get 19 rfl)]; show m - (((k + 1 : Nat) : Int)).toNat < m - k; omega⟩
              · skip
                obtain ⟨r8, hr8⟩ : ∃ r : Bool, (decide ((mine : Int) ≤ ((x).tell (outK x y (k))).1)) = r := ⟨_, rfl⟩
                refine wp_seq ?_
                have hLo : LOk [(0, 95, .val (.agg (FR () 6 ((x).sc)))), (1, 96, .val (.agg (FR () 6 ((y).sc)))), (2, 97, .val (.string (outK x y (k)))), (3, 98, .val (.int .i64 (mine))), (4, 99, .val (.bool true)), (5, 100, .val (.bool false)), (6, 101, .val (.bool false)), (7, 102, .val (.string (TN (j)))), (8, 103, .val (.bool true)), (9, 104, .val (.bool true)), (10, 105, .val (.string (outK x y (k)))), (11, 106, .val (.string (user))), (12, 107, .val (.bool true)), (13, 108, .val (.bool true)), (14, 109, .val (.bool true)), (15, 110, .val (.bool true)), (16, 111, .val (.bool true)), (17, 112, .val (.bool true)), (18, 113, .val (.int .i64 (((x).tell (outK x y (k))).1))), (19, 114, .val (.int .i64 (mine))), (20, 115, .val (.bool r8)), (21, 116, .val (.bool r8)), (22, 117, .val (.bool r8))] := lok (by rfl) (by rfl)
                refine zH (wE := w15) (sz := 120) (n := 23) [0, 1, 3, 7, 15, 31, 63, 127, 255, 511, 1023, 2047, 4095, 8191, 16383, 32767, 65535, 131071, 262143, 524287, 1048575, 2097151, 4194303] [(83, .val (.slice (od) (m) (cd))), (63, .val (.slice (some ⟨gt, 0, none⟩) (3) (3))), (0, .val (.agg (FR () 6 ((p).sc)))), (1, .val (.agg (FR () 6 ((q).sc)))), (2, .val (.string (user))), (3, .val (.int .i64 (mine))), (4, .val (.pointer (some (⟨g1_0, 0, none⟩)))), (5, .val (.pointer (some (⟨g1_1, 0, none⟩)))), (25, .val (.slice (some ba) (7) (cn))), (26, .val (.int .i64 (7))), (27, .val (.int .i64 ((i : Int)))), (28, .val (.bool false)), (64, .val (.int .i64 (3))), (65, .val (.int .i64 ((j : Int)))), (66, .val (.bool true)), (16, .val (.string (TN (j)))), (17, .val (.pointer (some (⟨g12_6, 0, none⟩)))), (19, .val (.pointer (some (⟨g13_6, 0, none⟩)))), (84, .val (.int .i64 ((m : Int)))), (85, .val (.int .i64 ((k : Int)))), (86, .val (.bool true)), (22, .val (.string (outK x y (k)))), (23, .val (.int .i64 (((x).tell (outK x y (k))).1))), (24, .val (.bool true)), (117, .val (.bool r8))] [(0, 95, .val (.agg (FR () 6 ((x).sc)))), (1, 96, .val (.agg (FR () 6 ((y).sc)))), (2, 97, .val (.string (outK x y (k)))), (3, 98, .val (.int .i64 (mine))), (4, 99, .val (.bool true)), (5, 100, .val (.bool false)), (6, 101, .val (.bool false)), (7, 102, .val (.string (TN (j)))), (8, 103, .val (.bool true)), (9, 104, .val (.bool true)), (10, 105, .val (.string (outK x y (k)))), (11, 106, .val (.string (user))), (12, 107, .val (.bool true)), (13, 108, .val (.bool true)), (14, 109, .val (.bool true)), (15, 110, .val (.bool true)), (16, 111, .val (.bool true)), (17, 112, .val (.bool true)), (18, 113, .val (.int .i64 (((x).tell (outK x y (k))).1))), (19, 114, .val (.int .i64 (mine))), (20, 115, .val (.bool r8)), (21, 116, .val (.bool r8)), (22, 117, .val (.bool r8))] [] rfl (by rfl) HH23 rfl rfl hLo rfl HS23 (slS 0 rfl rfl (slS 1 rfl rfl (slS 2 rfl rfl (slS 3 rfl rfl (slS 4 rfl rfl (slS 5 rfl rfl (slS 6 rfl rfl (slS 7 rfl rfl (slS 8 rfl rfl (slS 9 rfl rfl (slS 10 rfl rfl (slS 11 rfl rfl (slS 12 rfl rfl (slS 13 rfl rfl (slS 14 rfl rfl (slS 15 rfl rfl (slS 16 rfl rfl (slS 17 rfl rfl (slS 18 rfl rfl (slS 19 rfl rfl (slS 20 rfl rfl (slS 21 rfl rfl (slS 22 rfl rfl (slS 23 rfl rfl (slL 22 (d := 22) rfl (trivial)))))))))))))))))))))))))) ?_ ?_
                · show ∀ i ∈ [0, 1, 2, 3, 4, 5, 6, 7, 8, 9, 10, 11, 12, 13, 14, 15, 16, 17, 18, 19, 20, 21, 22], _
                  refine zA (st_at 0 (⟨g12_6, 0, none⟩) rfl rfl rfl (fun _ _ _ _ => rfl) hLo rfl rfl Tryd.underlying25 (by kernel_rfl) rfl (row_at hRow17_0) (fun b G hb ho => zG rfl (HS23.get 16 rfl))) ?_
                  refine zA (st_at 1 (⟨g13_6, 0, none⟩) rfl rfl rfl (fun _ _ _ _ => rfl) hLo rfl rfl Tryd.underlying25 (by kernel_rfl) rfl (row_at hRow17_1) (fun b G hb ho => zG rfl (HS23.get 17 rfl))) ?_
                  refine zA (zB 2 _ rfl rfl hLo rfl rfl (fun _ _ _ _ => rfl) (fun b G w hb ho => zD (.inl rfl) (zG rfl (HS23.get 21 rfl)))) ?_
                  refine zA (zB 3 _ rfl rfl hLo rfl rfl (fun _ _ _ _ => rfl) (fun b G w hb ho => zD (.inl rfl) (zG rfl (HS23.get 5 rfl)))) ?_
                  refine zA (yB 4 _ #[.agg (FR () 6 ((x).sc)), .agg (FR () 6 ((y).sc)), .string (outK x y (k)), .int .i64 (mine)] rfl rfl rfl (fun _ _ _ _ => rfl) hLo rfl rfl Tryd.func32 rfl rfl (fun b G hb ho => args4 (zC hLo 0 rfl HS23.1 rfl (hb 0 (by rfl))) (zC hLo 1 rfl HS23.1 rfl (hb 1 (by rfl))) (zC hLo 2 rfl HS23.1 rfl (hb 2 (by rfl))) (zC hLo 3 rfl HS23.1 rfl (hb 3 (by rfl)))) (fun w hw => (by have hq := may_calls (a := x) (b := y) (outK x y (k)) mine (hInx_17.below hw) (hIny_17.below hw) hRx hRy; rw [hr5] at hq; exact hq))) ?_
                  refine zA (zB 5 _ rfl rfl hLo rfl rfl (fun _ _ _ _ => rfl) (fun b G w hb ho => exec_un rfl (zC hLo 4 rfl HS23.1 rfl (hb 4 (by rfl))) (ru_not _))) ?_
                  refine zA (zB 6 _ rfl rfl hLo rfl rfl (fun _ _ _ _ => rfl) (fun b G w hb ho => zD (.inl rfl) (zC hLo 5 rfl HS23.1 rfl (hb 5 (by rfl))))) ?_
                  refine zA (zB 7 _ rfl rfl hLo rfl rfl (fun b G hb ho => zE rfl rfl rfl HS23.1 rfl (zC hLo 6 rfl HS23.1 rfl (hb 6 (by rfl))) rfl) (fun b G w hb ho => zD (.inl rfl) (zG rfl (HS23.get 15 rfl)))) ?_
                  refine zA (zB 8 _ rfl rfl hLo rfl rfl (fun b G hb ho => zE rfl rfl rfl HS23.1 rfl (zC hLo 6 rfl HS23.1 rfl (hb 6 (by rfl))) rfl) (fun b G w hb ho => zI rfl (zC hLo 7 rfl HS23.1 rfl (hb 7 (by rfl))) (rfl) (rb_seql hr6 _ _ _))) ?_
                  refine zA (zB 9 _ rfl rfl hLo rfl rfl (fun b G hb ho => zE rfl rfl rfl HS23.1 rfl (zC hLo 6 rfl HS23.1 rfl (hb 6 (by rfl))) rfl) (fun b G w hb ho => zD (.inl rfl) (zC hLo 8 rfl HS23.1 rfl (hb 8 (by rfl))))) ?_
                  refine zA (zB 10 _ rfl rfl hLo rfl rfl (fun b G hb ho => zE rfl rfl rfl HS23.1 rfl (zC hLo 9 rfl HS23.1 rfl (hb 9 (by rfl))) rfl) (fun b G w hb ho => zD (.inl rfl) (zG rfl (HS23.get 21 rfl)))) ?_
                  refine zA (zB 11 _ rfl rfl hLo rfl rfl (fun b G hb ho => zE rfl rfl rfl HS23.1 rfl (zC hLo 9 rfl HS23.1 rfl (hb 9 (by rfl))) rfl) (fun b G w hb ho => zD (.inl rfl) (zG rfl (HS23.get 4 rfl)))) ?_
                  refine zA (zB 12 _ rfl rfl hLo rfl rfl (fun b G hb ho => zE rfl rfl rfl HS23.1 rfl (zC hLo 9 rfl HS23.1 rfl (hb 9 (by rfl))) rfl) (fun b G w hb ho => zI rfl (zC hLo 10 rfl HS23.1 rfl (hb 10 (by rfl))) (zC hLo 11 rfl HS23.1 rfl (hb 11 (by rfl))) (rb_sneq hr7 _ _ _))) ?_
                  refine zA (zB 13 _ rfl rfl hLo rfl rfl (fun b G hb ho => zE rfl rfl rfl HS23.1 rfl (zC hLo 6 rfl HS23.1 rfl (hb 6 (by rfl))) rfl) (fun b G w hb ho => zL rfl (zC hLo 9 rfl HS23.1 rfl (hb 9 (by rfl))) (zC hLo 12 rfl HS23.1 rfl (hb 12 (by rfl))))) ?_
                  refine zA (zB 14 _ rfl rfl hLo rfl rfl (fun b G hb ho => zE rfl rfl rfl HS23.1 rfl (zC hLo 6 rfl HS23.1 rfl (hb 6 (by rfl))) rfl) (fun b G w hb ho => zD (.inl rfl) (zC hLo 13 rfl HS23.1 rfl (hb 13 (by rfl))))) ?_
                  refine zA (zB 15 _ rfl rfl hLo rfl rfl (fun b G hb ho => zE rfl rfl rfl HS23.1 rfl (zC hLo 14 rfl HS23.1 rfl (hb 14 (by rfl))) rfl) (fun b G w hb ho => zD (.inl rfl) (zG rfl (HS23.get 23 rfl)))) ?_
                  refine zA (zB 16 _ rfl rfl hLo rfl rfl (fun b G hb ho => zE rfl rfl rfl HS23.1 rfl (zC hLo 6 rfl HS23.1 rfl (hb 6 (by rfl))) rfl) (fun b G w hb ho => zL rfl (zC hLo 14 rfl HS23.1 rfl (hb 14 (by rfl))) (zC hLo 15 rfl HS23.1 rfl (hb 15 (by rfl))))) ?_
                  refine zA (zB 17 _ rfl rfl hLo rfl rfl (fun b G hb ho => zE rfl rfl rfl HS23.1 rfl (zC hLo 6 rfl HS23.1 rfl (hb 6 (by rfl))) rfl) (fun b G w hb ho => zD (.inl rfl) (zC hLo 16 rfl HS23.1 rfl (hb 16 (by rfl))))) ?_
                  refine zA (zB 18 _ rfl rfl hLo rfl rfl (fun b G hb ho => zE rfl rfl rfl HS23.1 rfl (zC hLo 17 rfl HS23.1 rfl (hb 17 (by rfl))) rfl) (fun b G w hb ho => zD (.inl rfl) (zG rfl (HS23.get 22 rfl)))) ?_
                  refine zA (zB 19 _ rfl rfl hLo rfl rfl (fun b G hb ho => zE rfl rfl rfl HS23.1 rfl (zC hLo 17 rfl HS23.1 rfl (hb 17 (by rfl))) rfl) (fun b G w hb ho => zD (.inl rfl) (zG rfl (HS23.get 5 rfl)))) ?_
                  refine zA (zB 20 _ rfl rfl hLo rfl rfl (fun b G hb ho => zE rfl rfl rfl HS23.1 rfl (zC hLo 17 rfl HS23.1 rfl (hb 17 (by rfl))) rfl) (fun b G w hb ho => zI rfl (zC hLo 18 rfl HS23.1 rfl (hb 18 (by rfl))) (zC hLo 19 rfl HS23.1 rfl (hb 19 (by rfl))) (rb_geq hr8 _ _ _))) ?_
                  refine zA (zB 21 _ rfl rfl hLo rfl rfl (fun b G hb ho => zE rfl rfl rfl HS23.1 rfl (zC hLo 6 rfl HS23.1 rfl (hb 6 (by rfl))) rfl) (fun b G w hb ho => zL rfl (zC hLo 17 rfl HS23.1 rfl (hb 17 (by rfl))) (zC hLo 20 rfl HS23.1 rfl (hb 20 (by rfl))))) ?_
                  refine zA (zB 22 _ rfl rfl hLo rfl rfl (fun _ _ _ _ => rfl) (fun b G w hb ho => zL rfl (zC hLo 6 rfl HS23.1 rfl (hb 6 (by rfl))) (zC hLo 21 rfl HS23.1 rfl (hb 21 (by rfl))))) ?_
                  exact zF
                clear hLo
                intro G a34 w34 hS hH
                have HS34 : Sl a34 120 [(83, .slice (od) (m) (cd)), (63, .slice (some ⟨gt, 0, none⟩) (3) (3)), (0, .agg (FR () 6 ((p).sc))), (1, .agg (FR () 6 ((q).sc))), (2, .string (user)), (3, .int .i64 (mine)), (4, .pointer (some (⟨g1_0, 0, none⟩))), (5, .pointer (some (⟨g1_1, 0, none⟩))), (25, .slice (some ba) (7) (cn)), (26, .int .i64 (7)), (27, .int .i64 ((i : Int))), (28, .bool false), (64, .int .i64 (3)), (65, .int .i64 ((j : Int))), (66, .bool true), (16, .string (TN (j))), (17, .pointer (some (⟨g12_6, 0, none⟩))), (19, .pointer (some (⟨g13_6, 0, none⟩))), (84, .int .i64 ((m : Int))), (85, .int .i64 ((k : Int))), (86, .bool true), (22, .string (outK x y (k))), (23, .int .i64 (((x).tell (outK x y (k))).1)), (24, .bool true), (117, .bool r8)] := hS
                have HH34 : Held w15 w34 [] := hH
                clear hS hH HS23 HH23
                refine then_ ?_
                cases r8
                · skip
                  refine wp_cond_false (HS34.get 24 rfl) ?_
                  refine wp_skip ?_
                  refine zQ ?_
                  refine then_ ?_
                  have hLo : LOk [(0, 118, .val (.int .i64 (((k + 1 : Nat) : Int)))), (1, 85, .val (.int .i64 (((k + 1 : Nat) : Int))))] := lok (by rfl) (by rfl)
                  refine zH (wE := w15) (sz := 120) (n := 2) [0, 1] [(83, .val (.slice (od) (m) (cd))), (63, .val (.slice (some ⟨gt, 0, none⟩) (3) (3))), (0, .val (.agg (FR () 6 ((p).sc)))), (1, .val (.agg (FR () 6 ((q).sc)))), (2, .val (.string (user))), (3, .val (.int .i64 (mine))), (4, .val (.pointer (some (⟨g1_0, 0, none⟩)))), (5, .val (.pointer (some (⟨g1_1, 0, none⟩)))), (25, .val (.slice (some ba) (7) (cn))), (26, .val (.int .i64 (7))), (27, .val (.int .i64 ((i : Int)))), (28, .val (.bool false)), (64, .val (.int .i64 (3))), (65, .val (.int .i64 ((j : Int)))), (66, .val (.bool true)), (16, .val (.string (TN (j)))), (17, .val (.pointer (some (⟨g12_6, 0, none⟩)))), (19, .val (.pointer (some (⟨g13_6, 0, none⟩)))), (84, .val (.int .i64 ((m : Int)))), (86, .val (.bool true)), (22, .val (.string (outK x y (k)))), (23, .val (.int .i64 (((x).tell (outK x y (k))).1))), (24, .val (.bool true)), (117, .val (.bool false)), (85, .val (.int .i64 (((k + 1 : Nat) : Int))))] [(0, 118, .val (.int .i64 (((k + 1 : Nat) : Int)))), (1, 85, .val (.int .i64 (((k + 1 : Nat) : Int))))] [] rfl (by rfl) HH34 rfl rfl hLo rfl HS34 (slS 0 rfl rfl (slS 1 rfl rfl (slS 2 rfl rfl (slS 3 rfl rfl (slS 4 rfl rfl (slS 5 rfl rfl (slS 6 rfl rfl (slS 7 rfl rfl (slS 8 rfl rfl (slS 9 rfl rfl (slS 10 rfl rfl (slS 11 rfl rfl (slS 12 rfl rfl (slS 13 rfl rfl (slS 14 rfl rfl (slS 15 rfl rfl (slS 16 rfl rfl (slS 17 rfl rfl (slS 18 rfl rfl (slS 20 rfl rfl (slS 21 rfl rfl (slS 22 rfl rfl (slS 23 rfl rfl (slS 24 rfl rfl (slL 1 (d := 1) rfl (trivial)))))))))))))))))))))))))) ?_ ?_
                  · show ∀ i ∈ [0, 1], _
                    refine zA (zB 0 _ rfl rfl hLo rfl rfl (fun _ _ _ _ => rfl) (fun b G w hb ho => zI rfl (ev_pre hLo 1 rfl (ho 1 (by rfl)) (HS34.get 19 rfl)) (rfl) (rb_add (w_nat (by omega) (by omega)) _ _ _))) ?_
                    refine zA (zB 1 _ rfl rfl hLo rfl rfl (fun _ _ _ _ => rfl) (fun b G w hb ho => zD (.inl rfl) (zC hLo 0 rfl HS34.1 rfl (hb 0 (by rfl))))) ?_
                    exact zF
                  clear hLo
                  intro G a35 w35 hS hH
                  have HS35 : Sl a35 120 [(83, .slice (od) (m) (cd)), (63, .slice (some ⟨gt, 0, none⟩) (3) (3)), (0, .agg (FR () 6 ((p).sc))), (1, .agg (FR () 6 ((q).sc))), (2, .string (user)), (3, .int .i64 (mine)), (4, .pointer (some (⟨g1_0, 0, none⟩))), (5, .pointer (some (⟨g1_1, 0, none⟩))), (25, .slice (some ba) (7) (cn)), (26, .int .i64 (7)), (27, .int .i64 ((i : Int))), (28, .bool false), (64, .int .i64 (3)), (65, .int .i64 ((j : Int))), (66, .bool true), (16, .string (TN (j))), (17, .pointer (some (⟨g12_6, 0, none⟩))), (19, .pointer (some (⟨g13_6, 0, none⟩))), (84, .int .i64 ((m : Int))), (86, .bool true), (22, .string (outK x y (k))), (23, .int .i64 (((x).tell (outK x y (k))).1)), (24, .bool true), (117, .bool false), (85, .int .i64 (((k + 1 : Nat) : Int)))] := hS
                  have HH35 : Held w15 w35 [] := hH
                  clear hS hH HS34 HH34
                  refine then_ ?_
                  have hSq2' : Sl _ 120 [(83, .slice (od) (m) (cd)), (63, .slice (some ⟨gt, 0, none⟩) (3) (3)), (0, .agg (FR () 6 ((p).sc))), (1, .agg (FR () 6 ((q).sc))), (2, .string (user)), (3, .int .i64 (mine)), (4, .pointer (some (⟨g1_0, 0, none⟩))), (5, .pointer (some (⟨g1_1, 0, none⟩))), (25, .slice (some ba) (7) (cn)), (26, .int .i64 (7)), (27, .int .i64 ((i : Int))), (28, .bool false), (64, .int .i64 (3)), (65, .int .i64 ((j : Int))), (66, .bool true), (16, .string (TN (j))), (17, .pointer (some (⟨g12_6, 0, none⟩))), (19, .pointer (some (⟨g13_6, 0, none⟩))), (84, .int .i64 ((m : Int))), (85, .int .i64 (((k + 1 : Nat) : Int)))] := yA HS35 [0, 1, 2, 3, 4, 5, 6, 7, 8, 9, 10, 11, 12, 13, 14, 15, 16, 17, 18, 24] (by rfl)
                  have hHq2' : Held w15 _ [] := yD HH35 0 rfl
                  exact ⟨⟨k + 1, by omega, allB_step hpk (by show (!keyBad x y user mine (TN j) (outK x y k)) = _; unfold keyBad; simp only [hr5, hr6, hr7, hr4, hr8]; try rfl), hSq2', hHq2'⟩, by rw [(hSq2'.get 19 rfl)]; show m - (((k + 1 : Nat) : Int)).toNat < m - k; omega⟩
                · skip
                  refine wp_cond_true (HS34.get 24 rfl) ?_
                  refine wp_seq ?_
                  have hLo : LOk [(0, 8, .val (.bool false))] := lok (by rfl) (by rfl)
                  refine zH (wE := w15) (sz := 120) (n := 1) [0] [(83, .val (.slice (od) (m) (cd))), (63, .val (.slice (some ⟨gt, 0, none⟩) (3) (3))), (0, .val (.agg (FR () 6 ((p).sc)))), (1, .val (.agg (FR () 6 ((q).sc)))), (2, .val (.string (user))), (3, .val (.int .i64 (mine))), (4, .val (.pointer (some (⟨g1_0, 0, none⟩)))), (5, .val (.pointer (some (⟨g1_1, 0, none⟩)))), (25, .val (.slice (some ba) (7) (cn))), (26, .val (.int .i64 (7))), (27, .val (.int .i64 ((i : Int)))), (28, .val (.bool false)), (64, .val (.int .i64 (3))), (65, .val (.int .i64 ((j : Int)))), (66, .val (.bool true)), (16, .val (.string (TN (j)))), (17, .val (.pointer (some (⟨g12_6, 0, none⟩)))), (19, .val (.pointer (some (⟨g13_6, 0, none⟩)))), (84, .val (.int .i64 ((m : Int)))), (85, .val (.int .i64 ((k : Int)))), (86, .val (.bool true)), (22, .val (.string (outK x y (k)))), (23, .val (.int .i64 (((x).tell (outK x y (k))).1))), (24, .val (.bool true)), (117, .val (.bool true)), (8, .val (.bool false))] [(0, 8, .val (.bool false))] [] rfl (by rfl) HH34 rfl rfl hLo rfl HS34 (slS 0 rfl rfl (slS 1 rfl rfl (slS 2 rfl rfl (slS 3 rfl rfl (slS 4 rfl rfl (slS 5 rfl rfl (slS 6 rfl rfl (slS 7 rfl rfl (slS 8 rfl rfl (slS 9 rfl rfl (slS 10 rfl rfl (slS 11 rfl rfl (slS 12 rfl rfl (slS 13 rfl rfl (slS 14 rfl rfl (slS 15 rfl rfl (slS 16 rfl rfl (slS 17 rfl rfl (slS 18 rfl rfl (slS 19 rfl rfl (slS 20 rfl rfl (slS 21 rfl rfl (slS 22 rfl rfl (slS 23 rfl rfl (slS 24 rfl rfl (slL 0 (d := 0) rfl (trivial))))))))))))))))))))))))))) ?_ ?_
                  · show ∀ i ∈ [0], _
                    refine zA (zB 0 _ rfl rfl hLo rfl rfl (fun _ _ _ _ => rfl) (fun b G w hb ho => zD (.inr rfl) (rfl))) ?_
                    exact zF
                  clear hLo
                  intro G a36 w36 hS hH
                  have HS36 : Sl a36 120 [(83, .slice (od) (m) (cd)), (63, .slice (some ⟨gt, 0, none⟩) (3) (3)), (0, .agg (FR () 6 ((p).sc))), (1, .agg (FR () 6 ((q).sc))), (2, .string (user)), (3, .int .i64 (mine)), (4, .pointer (some (⟨g1_0, 0, none⟩))), (5, .pointer (some (⟨g1_1, 0, none⟩))), (25, .slice (some ba) (7) (cn)), (26, .int .i64 (7)), (27, .int .i64 ((i : Int))), (28, .bool false), (64, .int .i64 (3)), (65, .int .i64 ((j : Int))), (66, .bool true), (16, .string (TN (j))), (17, .pointer (some (⟨g12_6, 0, none⟩))), (19, .pointer (some (⟨g13_6, 0, none⟩))), (84, .int .i64 ((m : Int))), (85, .int .i64 ((k : Int))), (86, .bool true), (22, .string (outK x y (k))), (23, .int .i64 (((x).tell (outK x y (k))).1)), (24, .bool true), (117, .bool true), (8, .bool false)] := hS
                  have HH36 : Held w15 w36 [] := hH
                  clear hS hH HS34 HH34
                  refine then_ ?_
                  refine wp_ret ?_
                  repeat (first | refine zR ?_ | refine zK ?_)
                  have HH37 := Held.back HH16 HH36
                  have HH38 := Held.back HH5 HH37
                  exact b_tmp rfl HS36.2.1 (HS36.get 25 rfl) ⟨bool_ret (chg_no2 hltj (by unfold tabOk; rw [← hx, ← hy, ← hm]; exact allB_no hltk (by show (!keyBad x y user mine (TN j) (outK x y k)) = _; unfold keyBad; simp only [hr5, hr6, hr7, hr4, hr8]; try rfl))), HH38.1⟩
  · skip
    have hlti : i < 7 := by have := of_decide_eq_true hr1; omega
    refine wp_cond_true (HS3.get 9 rfl) ?_
    refine wp_skip ?_
    refine then_ ?_
    refine wp_seq ?_
    refine wp_block ?_
    refine wp_seq ?_
    have hLo : LOk [(0, 29, .val (.pointer (some (ba.add ((i) * 2))))), (1, 30, .val (.agg (FR () 2 (lsc (ent (i)))))), (2, 10, .new 2 (fun g => .pointer (some ⟨g, 0, none⟩)))] := lok (by rfl) (by rfl)
    refine zH (wE := w) (sz := 120) (n := 4) [0, 1, 3, 7] [(0, .val (.agg (FR () 6 ((p).sc)))), (1, .val (.agg (FR () 6 ((q).sc)))), (2, .val (.string (user))), (3, .val (.int .i64 (mine))), (4, .val (.pointer (some ⟨g1_0, 0, none⟩))), (5, .val (.pointer (some ⟨g1_1, 0, none⟩))), (25, .val (.slice (some ba) (7) (cn))), (26, .val (.int .i64 (7))), (27, .val (.int .i64 ((i : Int)))), (28, .val (.bool true)), (10, .new 2 (fun g => .pointer (some ⟨g, 0, none⟩)))] [(0, 29, .val (.pointer (some (ba.add ((i) * 2))))), (1, 30, .val (.agg (FR () 2 (lsc (ent (i)))))), (2, 10, .new 2 (fun g => .pointer (some ⟨g, 0, none⟩)))] [⟨g1_0, none, none, (), 6, (p).sc, (p).sc, 25⟩, ⟨g1_1, none, none, (), 6, (q).sc, (q).sc, 25⟩, ⟨0, some 2, some 3, (), 2, lsc [.s (ByteArray.empty), .i .i64 (0)], lsc (ent (i)), 48⟩] rfl (by rfl) HH3 rfl rfl hLo rfl HS3 (slS 0 rfl rfl (slS 1 rfl rfl (slS 2 rfl rfl (slS 3 rfl rfl (slS 4 rfl rfl (slS 5 rfl rfl (slS 6 rfl rfl (slS 7 rfl rfl (slS 8 rfl rfl (slS 9 rfl rfl (slL 2 (d := 2) rfl (trivial)))))))))))) ?_ ?_
    · show ∀ i ∈ [0, 1, 2, 3], _
      refine zA (zB 0 _ rfl rfl hLo rfl rfl (fun _ _ _ _ => rfl) (fun b G w hb ho => zU rfl (zG rfl (HS3.get 6 rfl)) (zG rfl (HS3.get 8 rfl)) (index_sl Tryd.underlying47 (by kernel_rfl) rfl hlti _))) ?_
      refine zA (st_at 1 (ba.add ((i) * 2)) rfl rfl rfl (fun _ _ _ _ => rfl) hLo rfl rfl Tryd.underlying48 (by kernel_rfl) rfl (TT.at hT hlti) (fun b G hb ho => zC hLo 0 rfl HS3.1 rfl (hb 0 (by rfl)))) ?_
      refine zA (zZ 2 2 () 2 48 (some 3) _ _ rfl rfl (fun _ _ _ _ => rfl) rfl hLo rfl rfl rfl rfl (by rfl) (fun b G w _ _ => by kernel_rfl)) ?_
      refine zA (st_store 2 _ rfl rfl rfl rfl rfl (fun _ _ _ _ => rfl) rfl rfl rfl (by rfl) (by kernel_rfl) (fun b G hb ho => zC hLo 2 rfl HS3.1 rfl (hb 2 (by rfl))) (fun b G hb ho => zC hLo 1 rfl HS3.1 rfl (hb 1 (by rfl)))) ?_
      exact zF
    clear hLo
    intro G a39 w39 hS hH
    have HS39 : Sl a39 120 [(0, .agg (FR () 6 ((p).sc))), (1, .agg (FR () 6 ((q).sc))), (2, .string (user)), (3, .int .i64 (mine)), (4, .pointer (some ⟨g1_0, 0, none⟩)), (5, .pointer (some ⟨g1_1, 0, none⟩)), (25, .slice (some ba) (7) (cn)), (26, .int .i64 (7)), (27, .int .i64 ((i : Int))), (28, .bool true), (10, .pointer (some ⟨(G 2), 0, none⟩))] := hS
    have HH39 : Held w w39 [⟨g1_0, (), 6, (p).sc, 25⟩, ⟨g1_1, (), 6, (q).sc, 25⟩, ⟨(G 2), (), 2, lsc (ent (i)), 48⟩] := hH
    clear hS hH HS3 HH3
    generalize G 2 = g39_2 at HS39 HH39
    refine then_ ?_
    obtain ⟨r9, hr9⟩ : ∃ r : Bool, (((p).tell (NM (i))).2) = r := ⟨_, rfl⟩
    refine wp_seq ?_
    have hLo : LOk [(0, 32, .val (.agg (FR () 6 ((p).sc)))), (1, 33, .val (.pointer (some ⟨g39_2, 0, none⟩))), (2, 34, .val (.string (NM (i)))), (3, 35, .val (.tuple #[.int .i64 (((p).tell (NM (i))).1), .bool r9])), (4, 31, .val (.tuple #[.int .i64 (((p).tell (NM (i))).1), .bool r9])), (5, 36, .val (.int .i64 (((p).tell (NM (i))).1))), (6, 37, .val (.bool r9)), (7, 11, .val (.int .i64 (((p).tell (NM (i))).1))), (8, 12, .val (.bool r9))] := lok (by rfl) (by rfl)
    refine zH (wE := w) (sz := 120) (n := 9) [0, 1, 3, 7, 15, 31, 63, 127, 255] [(0, .val (.agg (FR () 6 ((p).sc)))), (1, .val (.agg (FR () 6 ((q).sc)))), (2, .val (.string (user))), (3, .val (.int .i64 (mine))), (4, .val (.pointer (some ⟨g1_0, 0, none⟩))), (5, .val (.pointer (some ⟨g1_1, 0, none⟩))), (25, .val (.slice (some ba) (7) (cn))), (26, .val (.int .i64 (7))), (27, .val (.int .i64 ((i : Int)))), (28, .val (.bool true)), (10, .val (.pointer (some ⟨g39_2, 0, none⟩))), (11, .val (.int .i64 (((p).tell (NM (i))).1))), (12, .val (.bool r9))] [(0, 32, .val (.agg (FR () 6 ((p).sc)))), (1, 33, .val (.pointer (some ⟨g39_2, 0, none⟩))), (2, 34, .val (.string (NM (i)))), (3, 35, .val (.tuple #[.int .i64 (((p).tell (NM (i))).1), .bool r9])), (4, 31, .val (.tuple #[.int .i64 (((p).tell (NM (i))).1), .bool r9])), (5, 36, .val (.int .i64 (((p).tell (NM (i))).1))), (6, 37, .val (.bool r9)), (7, 11, .val (.int .i64 (((p).tell (NM (i))).1))), (8, 12, .val (.bool r9))] [⟨g1_0, none, none, (), 6, (p).sc, (p).sc, 25⟩, ⟨g1_1, none, none, (), 6, (q).sc, (q).sc, 25⟩, ⟨g39_2, none, none, (), 2, lsc (ent (i)), lsc (ent (i)), 48⟩] rfl (by rfl) HH39 rfl rfl hLo rfl HS39 (slS 0 rfl rfl (slS 1 rfl rfl (slS 2 rfl rfl (slS 3 rfl rfl (slS 4 rfl rfl (slS 5 rfl rfl (slS 6 rfl rfl (slS 7 rfl rfl (slS 8 rfl rfl (slS 9 rfl rfl (slS 10 rfl rfl (slL 7 (d := 7) rfl (slL 8 (d := 8) rfl (trivial)))))))))))))) ?_ ?_
    · show ∀ i ∈ [0, 1, 2, 3, 4, 5, 6, 7, 8], _
      refine zA (yG 0 0 _ rfl rfl rfl rfl (fun _ _ _ _ => rfl) hLo rfl rfl rfl (by rfl) Tryd.underlying25 (by kernel_rfl) rfl (fun b G hb ho => zG rfl (HS39.get 4 rfl))) ?_
      refine zA (zB 1 _ rfl rfl hLo rfl rfl (fun _ _ _ _ => rfl) (fun b G w hb ho => zJ rfl (zG rfl (HS39.get 10 rfl)) (by kernel_rfl))) ?_
      refine zA (zW 2 2 _ _ rfl rfl rfl hLo rfl rfl (fun _ _ _ _ => rfl) (by rfl) (by rfl) (fun b G w hb ho hr => zP hr (Nat.le_of_ble_eq_true rfl) Tryd.underlying9 rfl rfl (zC hLo 1 rfl HS39.1 rfl (hb 1 (by rfl))))) ?_
      refine zA (yB 3 _ #[.agg (FR () 6 ((p).sc)), .string (NM (i))] rfl rfl rfl (fun _ _ _ _ => rfl) hLo rfl rfl Tryd.func25 rfl rfl (fun b G hb ho => args2 (zC hLo 0 rfl HS39.1 rfl (hb 0 (by rfl))) (zC hLo 2 rfl HS39.1 rfl (hb 2 (by rfl)))) (fun w hw => (by have hq := num_calls (t := p) (NM (i)) (hInp.below hw) hRp.rise; rw [hr9] at hq; exact hq))) ?_
      refine zA (zB 4 _ rfl rfl hLo rfl rfl (fun _ _ _ _ => rfl) (fun b G w hb ho => zD (.inl rfl) (zC hLo 3 rfl HS39.1 rfl (hb 3 (by rfl))))) ?_
      refine zA (zB 5 _ rfl rfl hLo rfl rfl (fun _ _ _ _ => rfl) (fun b G w hb ho => zX rfl (zC hLo 4 rfl HS39.1 rfl (hb 4 (by rfl))) (by rfl))) ?_
      refine zA (zB 6 _ rfl rfl hLo rfl rfl (fun _ _ _ _ => rfl) (fun b G w hb ho => zX rfl (zC hLo 4 rfl HS39.1 rfl (hb 4 (by rfl))) (by rfl))) ?_
      refine zA (zB 7 _ rfl rfl hLo rfl rfl (fun _ _ _ _ => rfl) (fun b G w hb ho => zD (.inr rfl) (zC hLo 5 rfl HS39.1 rfl (hb 5 (by rfl))))) ?_
      refine zA (zB 8 _ rfl rfl hLo rfl rfl (fun _ _ _ _ => rfl) (fun b G w hb ho => zD (.inr rfl) (zC hLo 6 rfl HS39.1 rfl (hb 6 (by rfl))))) ?_
      exact zF
    clear hLo
    intro G a40 w40 hS hH
    have HS40 : Sl a40 120 [(0, .agg (FR () 6 ((p).sc))), (1, .agg (FR () 6 ((q).sc))), (2, .string (user)), (3, .int .i64 (mine)), (4, .pointer (some ⟨g1_0, 0, none⟩)), (5, .pointer (some ⟨g1_1, 0, none⟩)), (25, .slice (some ba) (7) (cn)), (26, .int .i64 (7)), (27, .int .i64 ((i : Int))), (28, .bool true), (10, .pointer (some ⟨g39_2, 0, none⟩)), (11, .int .i64 (((p).tell (NM (i))).1)), (12, .bool r9)] := hS
    have HH40 : Held w w40 [⟨g1_0, (), 6, (p).sc, 25⟩, ⟨g1_1, (), 6, (q).sc, 25⟩, ⟨g39_2, (), 2, lsc (ent (i)), 48⟩] := hH
    clear hS hH HS39 HH39
    refine then_ ?_
    obtain ⟨r10, hr10⟩ : ∃ r : Bool, (((q).tell (NM (i))).2) = r := ⟨_, rfl⟩
    refine wp_seq ?_
    have hLo : LOk [(0, 39, .val (.agg (FR () 6 ((q).sc)))), (1, 40, .val (.pointer (some ⟨g39_2, 0, none⟩))), (2, 41, .val (.string (NM (i)))), (3, 42, .val (.tuple #[.int .i64 (((q).tell (NM (i))).1), .bool r10])), (4, 38, .val (.tuple #[.int .i64 (((q).tell (NM (i))).1), .bool r10])), (5, 43, .val (.int .i64 (((q).tell (NM (i))).1))), (6, 44, .val (.bool r10)), (7, 13, .val (.int .i64 (((q).tell (NM (i))).1))), (8, 14, .val (.bool r10))] := lok (by rfl) (by rfl)
    refine zH (wE := w) (sz := 120) (n := 9) [0, 1, 3, 7, 15, 31, 63, 127, 255] [(0, .val (.agg (FR () 6 ((p).sc)))), (1, .val (.agg (FR () 6 ((q).sc)))), (2, .val (.string (user))), (3, .val (.int .i64 (mine))), (4, .val (.pointer (some ⟨g1_0, 0, none⟩))), (5, .val (.pointer (some ⟨g1_1, 0, none⟩))), (25, .val (.slice (some ba) (7) (cn))), (26, .val (.int .i64 (7))), (27, .val (.int .i64 ((i : Int)))), (28, .val (.bool true)), (10, .val (.pointer (some ⟨g39_2, 0, none⟩))), (11, .val (.int .i64 (((p).tell (NM (i))).1))), (12, .val (.bool r9)), (13, .val (.int .i64 (((q).tell (NM (i))).1))), (14, .val (.bool r10))] [(0, 39, .val (.agg (FR () 6 ((q).sc)))), (1, 40, .val (.pointer (some ⟨g39_2, 0, none⟩))), (2, 41, .val (.string (NM (i)))), (3, 42, .val (.tuple #[.int .i64 (((q).tell (NM (i))).1), .bool r10])), (4, 38, .val (.tuple #[.int .i64 (((q).tell (NM (i))).1), .bool r10])), (5, 43, .val (.int .i64 (((q).tell (NM (i))).1))), (6, 44, .val (.bool r10)), (7, 13, .val (.int .i64 (((q).tell (NM (i))).1))), (8, 14, .val (.bool r10))] [⟨g1_0, none, none, (), 6, (p).sc, (p).sc, 25⟩, ⟨g1_1, none, none, (), 6, (q).sc, (q).sc, 25⟩, ⟨g39_2, none, none, (), 2, lsc (ent (i)), lsc (ent (i)), 48⟩] rfl (by rfl) HH40 rfl rfl hLo rfl HS40 (slS 0 rfl rfl (slS 1 rfl rfl (slS 2 rfl rfl (slS 3 rfl rfl (slS 4 rfl rfl (slS 5 rfl rfl (slS 6 rfl rfl (slS 7 rfl rfl (slS 8 rfl rfl (slS 9 rfl rfl (slS 10 rfl rfl (slS 11 rfl rfl (slS 12 rfl rfl (slL 7 (d := 7) rfl (slL 8 (d := 8) rfl (trivial)))))))))))))))) ?_ ?_
    · show ∀ i ∈ [0, 1, 2, 3, 4, 5, 6, 7, 8], _
      refine zA (yG 0 1 _ rfl rfl rfl rfl (fun _ _ _ _ => rfl) hLo rfl rfl rfl (by rfl) Tryd.underlying25 (by kernel_rfl) rfl (fun b G hb ho => zG rfl (HS40.get 5 rfl))) ?_
      refine zA (zB 1 _ rfl rfl hLo rfl rfl (fun _ _ _ _ => rfl) (fun b G w hb ho => zJ rfl (zG rfl (HS40.get 10 rfl)) (by kernel_rfl))) ?_
      refine zA (zW 2 2 _ _ rfl rfl rfl hLo rfl rfl (fun _ _ _ _ => rfl) (by rfl) (by rfl) (fun b G w hb ho hr => zP hr (Nat.le_of_ble_eq_true rfl) Tryd.underlying9 rfl rfl (zC hLo 1 rfl HS40.1 rfl (hb 1 (by rfl))))) ?_
      refine zA (yB 3 _ #[.agg (FR () 6 ((q).sc)), .string (NM (i))] rfl rfl rfl (fun _ _ _ _ => rfl) hLo rfl rfl Tryd.func25 rfl rfl (fun b G hb ho => args2 (zC hLo 0 rfl HS40.1 rfl (hb 0 (by rfl))) (zC hLo 2 rfl HS40.1 rfl (hb 2 (by rfl)))) (fun w hw => (by have hq := num_calls (t := q) (NM (i)) (hInq.below hw) hRq.rise; rw [hr10] at hq; exact hq))) ?_
      refine zA (zB 4 _ rfl rfl hLo rfl rfl (fun _ _ _ _ => rfl) (fun b G w hb ho => zD (.inl rfl) (zC hLo 3 rfl HS40.1 rfl (hb 3 (by rfl))))) ?_
      refine zA (zB 5 _ rfl rfl hLo rfl rfl (fun _ _ _ _ => rfl) (fun b G w hb ho => zX rfl (zC hLo 4 rfl HS40.1 rfl (hb 4 (by rfl))) (by rfl))) ?_
      refine zA (zB 6 _ rfl rfl hLo rfl rfl (fun _ _ _ _ => rfl) (fun b G w hb ho => zX rfl (zC hLo 4 rfl HS40.1 rfl (hb 4 (by rfl))) (by rfl))) ?_
      refine zA (zB 7 _ rfl rfl hLo rfl rfl (fun _ _ _ _ => rfl) (fun b G w hb ho => zD (.inr rfl) (zC hLo 5 rfl HS40.1 rfl (hb 5 (by rfl))))) ?_
      refine zA (zB 8 _ rfl rfl hLo rfl rfl (fun _ _ _ _ => rfl) (fun b G w hb ho => zD (.inr rfl) (zC hLo 6 rfl HS40.1 rfl (hb 6 (by rfl))))) ?_
      exact zF
    clear hLo
    intro G a41 w41 hS hH
    have HS41 : Sl a41 120 [(0, .agg (FR () 6 ((p).sc))), (1, .agg (FR () 6 ((q).sc))), (2, .string (user)), (3, .int .i64 (mine)), (4, .pointer (some ⟨g1_0, 0, none⟩)), (5, .pointer (some ⟨g1_1, 0, none⟩)), (25, .slice (some ba) (7) (cn)), (26, .int .i64 (7)), (27, .int .i64 ((i : Int))), (28, .bool true), (10, .pointer (some ⟨g39_2, 0, none⟩)), (11, .int .i64 (((p).tell (NM (i))).1)), (12, .bool r9), (13, .int .i64 (((q).tell (NM (i))).1)), (14, .bool r10)] := hS
    have HH41 : Held w w41 [⟨g1_0, (), 6, (p).sc, 25⟩, ⟨g1_1, (), 6, (q).sc, 25⟩, ⟨g39_2, (), 2, lsc (ent (i)), 48⟩] := hH
    clear hS hH HS40 HH40
    refine then_ ?_
    cases r9
    · skip
      cases r10
      · skip
        obtain ⟨r11, hr11⟩ : ∃ r : Bool, (((((p).tell (NM (i))).1 : Int) != ((q).tell (NM (i))).1)) = r := ⟨_, rfl⟩
        cases r11
        · skip
          refine wp_seq ?_
          have hLo : LOk [(0, 45, .val (.bool false)), (1, 46, .val (.bool false)), (2, 47, .val (.bool false)), (3, 48, .val (.bool false)), (4, 49, .val (.int .i64 (((p).tell (NM (i))).1))), (5, 50, .val (.int .i64 (((q).tell (NM (i))).1))), (6, 51, .val (.bool false)), (7, 52, .val (.bool false)), (8, 53, .val (.bool false)), (9, 54, .val (undef)), (10, 55, .val (undef)), (11, 56, .val (undef)), (12, 57, .val (undef)), (13, 58, .val (undef)), (14, 59, .val (undef)), (15, 60, .val (undef)), (16, 61, .val (.bool false))] := lok (by rfl) (by rfl)
          refine zH (wE := w) (sz := 120) (n := 17) [0, 1, 3, 7, 15, 31, 63, 127, 255, 511, 1023, 2047, 4095, 8191, 16383, 32767, 65535] [(0, .val (.agg (FR () 6 ((p).sc)))), (1, .val (.agg (FR () 6 ((q).sc)))), (2, .val (.string (user))), (3, .val (.int .i64 (mine))), (4, .val (.pointer (some ⟨g1_0, 0, none⟩))), (5, .val (.pointer (some ⟨g1_1, 0, none⟩))), (25, .val (.slice (some ba) (7) (cn))), (26, .val (.int .i64 (7))), (27, .val (.int .i64 ((i : Int)))), (28, .val (.bool true)), (10, .val (.pointer (some ⟨g39_2, 0, none⟩))), (11, .val (.int .i64 (((p).tell (NM (i))).1))), (12, .val (.bool false)), (13, .val (.int .i64 (((q).tell (NM (i))).1))), (14, .val (.bool false)), (61, .val (.bool false))] [(0, 45, .val (.bool false)), (1, 46, .val (.bool false)), (2, 47, .val (.bool false)), (3, 48, .val (.bool false)), (4, 49, .val (.int .i64 (((p).tell (NM (i))).1))), (5, 50, .val (.int .i64 (((q).tell (NM (i))).1))), (6, 51, .val (.bool false)), (7, 52, .val (.bool false)), (8, 53, .val (.bool false)), (9, 54, .val (undef)), (10, 55, .val (undef)), (11, 56, .val (undef)), (12, 57, .val (undef)), (13, 58, .val (undef)), (14, 59, .val (undef)), (15, 60, .val (undef)), (16, 61, .val (.bool false))] [⟨g1_0, none, none, (), 6, (p).sc, (p).sc, 25⟩, ⟨g1_1, none, none, (), 6, (q).sc, (q).sc, 25⟩, ⟨g39_2, none, none, (), 2, lsc (ent (i)), lsc (ent (i)), 48⟩] rfl (by rfl) HH41 rfl rfl hLo rfl HS41 (slS 0 rfl rfl (slS 1 rfl rfl (slS 2 rfl rfl (slS 3 rfl rfl (slS 4 rfl rfl (slS 5 rfl rfl (slS 6 rfl rfl (slS 7 rfl rfl (slS 8 rfl rfl (slS 9 rfl rfl (slS 10 rfl rfl (slS 11 rfl rfl (slS 12 rfl rfl (slS 13 rfl rfl (slS 14 rfl rfl (slL 16 (d := 16) rfl (trivial))))))))))))))))) ?_ ?_
          · show ∀ i ∈ [0, 1, 2, 3, 4, 5, 6, 7, 8, 9, 10, 11, 12, 13, 14, 15, 16], _
            refine zA (zB 0 _ rfl rfl hLo rfl rfl (fun _ _ _ _ => rfl) (fun b G w hb ho => zD (.inl rfl) (zG rfl (HS41.get 12 rfl)))) ?_
            refine zA (zB 1 _ rfl rfl hLo rfl rfl (fun _ _ _ _ => rfl) (fun b G w hb ho => zD (.inl rfl) (zG rfl (HS41.get 14 rfl)))) ?_
            refine zA (zB 2 _ rfl rfl hLo rfl rfl (fun _ _ _ _ => rfl) (fun b G w hb ho => zI rfl (zC hLo 0 rfl HS41.1 rfl (hb 0 (by rfl))) (zC hLo 1 rfl HS41.1 rfl (hb 1 (by rfl))) (rb_bneq Tryd.underlying4 (rfl) _ _ _))) ?_
            refine zA (zB 3 _ rfl rfl hLo rfl rfl (fun _ _ _ _ => rfl) (fun b G w hb ho => zD (.inl rfl) (zC hLo 2 rfl HS41.1 rfl (hb 2 (by rfl))))) ?_
            refine zA (zB 4 _ rfl rfl hLo rfl rfl (fun b G hb ho => zE rfl rfl rfl HS41.1 rfl (zC hLo 3 rfl HS41.1 rfl (hb 3 (by rfl))) rfl) (fun b G w hb ho => zD (.inl rfl) (zG rfl (HS41.get 11 rfl)))) ?_
            refine zA (zB 5 _ rfl rfl hLo rfl rfl (fun b G hb ho => zE rfl rfl rfl HS41.1 rfl (zC hLo 3 rfl HS41.1 rfl (hb 3 (by rfl))) rfl) (fun b G w hb ho => zD (.inl rfl) (zG rfl (HS41.get 13 rfl)))) ?_
            refine zA (zB 6 _ rfl rfl hLo rfl rfl (fun b G hb ho => zE rfl rfl rfl HS41.1 rfl (zC hLo 3 rfl HS41.1 rfl (hb 3 (by rfl))) rfl) (fun b G w hb ho => zI rfl (zC hLo 4 rfl HS41.1 rfl (hb 4 (by rfl))) (zC hLo 5 rfl HS41.1 rfl (hb 5 (by rfl))) (rb_neq hr11 _ _ _))) ?_
            refine zA (zB 7 _ rfl rfl hLo rfl rfl (fun _ _ _ _ => rfl) (fun b G w hb ho => zL rfl (zC hLo 3 rfl HS41.1 rfl (hb 3 (by rfl))) (zC hLo 6 rfl HS41.1 rfl (hb 6 (by rfl))))) ?_
            refine zA (zB 8 _ rfl rfl hLo rfl rfl (fun _ _ _ _ => rfl) (fun b G w hb ho => zD (.inl rfl) (zC hLo 7 rfl HS41.1 rfl (hb 7 (by rfl))))) ?_
            refine zA (zN 9 rfl rfl hLo rfl rfl (fun b G hb ho => zE rfl rfl rfl HS41.1 rfl (zC hLo 8 rfl HS41.1 rfl (hb 8 (by rfl))) rfl)) ?_
            refine zA (zN 10 rfl rfl hLo rfl rfl (fun b G hb ho => zE rfl rfl rfl HS41.1 rfl (zC hLo 8 rfl HS41.1 rfl (hb 8 (by rfl))) rfl)) ?_
            refine zA (zN 11 rfl rfl hLo rfl rfl (fun b G hb ho => zE rfl rfl rfl HS41.1 rfl (zC hLo 8 rfl HS41.1 rfl (hb 8 (by rfl))) rfl)) ?_
            refine zA (zN 12 rfl rfl hLo rfl rfl (fun b G hb ho => zE rfl rfl rfl HS41.1 rfl (zC hLo 8 rfl HS41.1 rfl (hb 8 (by rfl))) rfl)) ?_
            refine zA (zN 13 rfl rfl hLo rfl rfl (fun b G hb ho => zE rfl rfl rfl HS41.1 rfl (zC hLo 8 rfl HS41.1 rfl (hb 8 (by rfl))) rfl)) ?_
            refine zA (zN 14 rfl rfl hLo rfl rfl (fun b G hb ho => zE rfl rfl rfl HS41.1 rfl (zC hLo 8 rfl HS41.1 rfl (hb 8 (by rfl))) rfl)) ?_
            refine zA (zN 15 rfl rfl hLo rfl rfl (fun b G hb ho => zE rfl rfl rfl HS41.1 rfl (zC hLo 8 rfl HS41.1 rfl (hb 8 (by rfl))) rfl)) ?_
            refine zA (zB 16 _ rfl rfl hLo rfl rfl (fun _ _ _ _ => rfl) (fun b G w hb ho => zL rfl (zC hLo 8 rfl HS41.1 rfl (hb 8 (by rfl))) (rfl))) ?_
            exact zF
          clear hLo
          intro G a42 w42 hS hH
          have HS42 : Sl a42 120 [(0, .agg (FR () 6 ((p).sc))), (1, .agg (FR () 6 ((q).sc))), (2, .string (user)), (3, .int .i64 (mine)), (4, .pointer (some ⟨g1_0, 0, none⟩)), (5, .pointer (some ⟨g1_1, 0, none⟩)), (25, .slice (some ba) (7) (cn)), (26, .int .i64 (7)), (27, .int .i64 ((i : Int))), (28, .bool true), (10, .pointer (some ⟨g39_2, 0, none⟩)), (11, .int .i64 (((p).tell (NM (i))).1)), (12, .bool false), (13, .int .i64 (((q).tell (NM (i))).1)), (14, .bool false), (61, .bool false)] := hS
          have HH42 : Held w w42 [⟨g1_0, (), 6, (p).sc, 25⟩, ⟨g1_1, (), 6, (q).sc, 25⟩, ⟨g39_2, (), 2, lsc (ent (i)), 48⟩] := hH
          clear hS hH HS41 HH41
          refine then_ ?_
          refine wp_cond_false (HS42.get 15 rfl) ?_
          refine wp_skip ?_
          refine zQ ?_
          refine then_ ?_
          have hLo : LOk [(0, 62, .val (.int .i64 (((i + 1 : Nat) : Int)))), (1, 27, .val (.int .i64 (((i + 1 : Nat) : Int))))] := lok (by rfl) (by rfl)
          refine zH (wE := w) (sz := 120) (n := 2) [0, 1] [(0, .val (.agg (FR () 6 ((p).sc)))), (1, .val (.agg (FR () 6 ((q).sc)))), (2, .val (.string (user))), (3, .val (.int .i64 (mine))), (4, .val (.pointer (some ⟨g1_0, 0, none⟩))), (5, .val (.pointer (some ⟨g1_1, 0, none⟩))), (25, .val (.slice (some ba) (7) (cn))), (26, .val (.int .i64 (7))), (28, .val (.bool true)), (10, .val (.pointer (some ⟨g39_2, 0, none⟩))), (11, .val (.int .i64 (((p).tell (NM (i))).1))), (12, .val (.bool false)), (13, .val (.int .i64 (((q).tell (NM (i))).1))), (14, .val (.bool false)), (61, .val (.bool false)), (27, .val (.int .i64 (((i + 1 : Nat) : Int))))] [(0, 62, .val (.int .i64 (((i + 1 : Nat) : Int)))), (1, 27, .val (.int .i64 (((i + 1 : Nat) : Int))))] [⟨g1_0, none, none, (), 6, (p).sc, (p).sc, 25⟩, ⟨g1_1, none, none, (), 6, (q).sc, (q).sc, 25⟩, ⟨g39_2, none, none, (), 2, lsc (ent (i)), lsc (ent (i)), 48⟩] rfl (by rfl) HH42 rfl rfl hLo rfl HS42 (slS 0 rfl rfl (slS 1 rfl rfl (slS 2 rfl rfl (slS 3 rfl rfl (slS 4 rfl rfl (slS 5 rfl rfl (slS 6 rfl rfl (slS 7 rfl rfl (slS 9 rfl rfl (slS 10 rfl rfl (slS 11 rfl rfl (slS 12 rfl rfl (slS 13 rfl rfl (slS 14 rfl rfl (slS 15 rfl rfl (slL 1 (d := 1) rfl (trivial))))))))))))))))) ?_ ?_
          · show ∀ i ∈ [0, 1], _
            refine zA (zB 0 _ rfl rfl hLo rfl rfl (fun _ _ _ _ => rfl) (fun b G w hb ho => zI rfl (ev_pre hLo 1 rfl (ho 1 (by rfl)) (HS42.get 8 rfl)) (rfl) (rb_add (w_nat (by omega) (by omega)) _ _ _))) ?_
            refine zA (zB 1 _ rfl rfl hLo rfl rfl (fun _ _ _ _ => rfl) (fun b G w hb ho => zD (.inl rfl) (zC hLo 0 rfl HS42.1 rfl (hb 0 (by rfl))))) ?_
            exact zF
          clear hLo
          intro G a43 w43 hS hH
          have HS43 : Sl a43 120 [(0, .agg (FR () 6 ((p).sc))), (1, .agg (FR () 6 ((q).sc))), (2, .string (user)), (3, .int .i64 (mine)), (4, .pointer (some ⟨g1_0, 0, none⟩)), (5, .pointer (some ⟨g1_1, 0, none⟩)), (25, .slice (some ba) (7) (cn)), (26, .int .i64 (7)), (28, .bool true), (10, .pointer (some ⟨g39_2, 0, none⟩)), (11, .int .i64 (((p).tell (NM (i))).1)), (12, .bool false), (13, .int .i64 (((q).tell (NM (i))).1)), (14, .bool false), (61, .bool false), (27, .int .i64 (((i + 1 : Nat) : Int)))] := hS
          have HH43 : Held w w43 [⟨g1_0, (), 6, (p).sc, 25⟩, ⟨g1_1, (), 6, (q).sc, 25⟩, ⟨g39_2, (), 2, lsc (ent (i)), 48⟩] := hH
          clear hS hH HS42 HH42
          refine then_ ?_
          have hSq0' : Sl _ 120 [(0, .agg (FR () 6 ((p).sc))), (1, .agg (FR () 6 ((q).sc))), (2, .string (user)), (3, .int .i64 (mine)), (4, .pointer (some ⟨g1_0, 0, none⟩)), (5, .pointer (some ⟨g1_1, 0, none⟩)), (25, .slice (some ba) (7) (cn)), (26, .int .i64 (7)), (27, .int .i64 (((i + 1 : Nat) : Int)))] := yA HS43 [0, 1, 2, 3, 4, 5, 6, 7, 15] (by rfl)
          have hHq0' : Held w _ [⟨g1_0, (), 6, (p).sc, 25⟩, ⟨g1_1, (), 6, (q).sc, 25⟩] := yD HH43 2 rfl
          exact ⟨⟨i + 1, by omega, allB_step hpi (name_ok1 (differs_of hr9 hr10 (by rw [hr11]; rfl))), hSq0', hHq0'⟩, by rw [(hSq0'.get 8 rfl)]; show 7 - (((i + 1 : Nat) : Int)).toNat < 7 - i; omega⟩
        · skip
          obtain ⟨r12, hr12⟩ : ∃ r : Bool, (mayB p q (NM (i)) mine) = r := ⟨_, rfl⟩
          refine wp_seq ?_
          have hLo : LOk [(0, 45, .val (.bool false)), (1, 46, .val (.bool false)), (2, 47, .val (.bool false)), (3, 48, .val (.bool false)), (4, 49, .val (.int .i64 (((p).tell (NM (i))).1))), (5, 50, .val (.int .i64 (((q).tell (NM (i))).1))), (6, 51, .val (.bool true)), (7, 52, .val (.bool true)), (8, 53, .val (.bool true)), (9, 54, .val (.agg (FR () 6 ((p).sc)))), (10, 55, .val (.agg (FR () 6 ((q).sc)))), (11, 56, .val (.pointer (some ⟨g39_2, 0, none⟩))), (12, 57, .val (.string (NM (i)))), (13, 58, .val (.int .i64 (mine))), (14, 59, .val (.bool r12)), (15, 60, .val (.bool (!r12))), (16, 61, .val (.bool (!r12)))] := lok (by rfl) (by rfl)
          refine zH (wE := w) (sz := 120) (n := 17) [0, 1, 3, 7, 15, 31, 63, 127, 255, 511, 1023, 2047, 4095, 8191, 16383, 32767, 65535] [(0, .val (.agg (FR () 6 ((p).sc)))), (1, .val (.agg (FR () 6 ((q).sc)))), (2, .val (.string (user))), (3, .val (.int .i64 (mine))), (4, .val (.pointer (some ⟨g1_0, 0, none⟩))), (5, .val (.pointer (some ⟨g1_1, 0, none⟩))), (25, .val (.slice (some ba) (7) (cn))), (26, .val (.int .i64 (7))), (27, .val (.int .i64 ((i : Int)))), (28, .val (.bool true)), (10, .val (.pointer (some ⟨g39_2, 0, none⟩))), (11, .val (.int .i64 (((p).tell (NM (i))).1))), (12, .val (.bool false)), (13, .val (.int .i64 (((q).tell (NM (i))).1))), (14, .val (.bool false)), (61, .val (.bool (!r12)))] [(0, 45, .val (.bool false)), (1, 46, .val (.bool false)), (2, 47, .val (.bool false)), (3, 48, .val (.bool false)), (4, 49, .val (.int .i64 (((p).tell (NM (i))).1))), (5, 50, .val (.int .i64 (((q).tell (NM (i))).1))), (6, 51, .val (.bool true)), (7, 52, .val (.bool true)), (8, 53, .val (.bool true)), (9, 54, .val (.agg (FR () 6 ((p).sc)))), (10, 55, .val (.agg (FR () 6 ((q).sc)))), (11, 56, .val (.pointer (some ⟨g39_2, 0, none⟩))), (12, 57, .val (.string (NM (i)))), (13, 58, .val (.int .i64 (mine))), (14, 59, .val (.bool r12)), (15, 60, .val (.bool (!r12))), (16, 61, .val (.bool (!r12)))] [⟨g1_0, none, none, (), 6, (p).sc, (p).sc, 25⟩, ⟨g1_1, none, none, (), 6, (q).sc, (q).sc, 25⟩, ⟨g39_2, none, none, (), 2, lsc (ent (i)), lsc (ent (i)), 48⟩] rfl (by rfl) HH41 rfl rfl hLo rfl HS41 (slS 0 rfl rfl (slS 1 rfl rfl (slS 2 rfl rfl (slS 3 rfl rfl (slS 4 rfl rfl (slS 5 rfl rfl (slS 6 rfl rfl (slS 7 rfl rfl (slS 8 rfl rfl (slS 9 rfl rfl (slS 10 rfl rfl (slS 11 rfl rfl (slS 12 rfl rfl (slS 13 rfl rfl (slS 14 rfl rfl (slL 16 (d := 16) rfl (trivial))))))))))))))))) ?_ ?_
          · show ∀ i ∈ [0, 1, 2, 3, 4, 5, 6, 7, 8, 9, 10, 11, 12, 13, 14, 15, 16], _
            refine zA (zB 0 _ rfl rfl hLo rfl rfl (fun _ _ _ _ => rfl) (fun b G w hb ho => zD (.inl rfl) (zG rfl (HS41.get 12 rfl)))) ?_
            refine zA (zB 1 _ rfl rfl hLo rfl rfl (fun _ _ _ _ => rfl) (fun b G w hb ho => zD (.inl rfl) (zG rfl (HS41.get 14 rfl)))) ?_
            refine zA (zB 2 _ rfl rfl hLo rfl rfl (fun _ _ _ _ => rfl) (fun b G w hb ho => zI rfl (zC hLo 0 rfl HS41.1 rfl (hb 0 (by rfl))) (zC hLo 1 rfl HS41.1 rfl (hb 1 (by rfl))) (rb_bneq Tryd.underlying4 (rfl) _ _ _))) ?_
            refine zA (zB 3 _ rfl rfl hLo rfl rfl (fun _ _ _ _ => rfl) (fun b G w hb ho => zD (.inl rfl) (zC hLo 2 rfl HS41.1 rfl (hb 2 (by rfl))))) ?_
            refine zA (zB 4 _ rfl rfl hLo rfl rfl (fun b G hb ho => zE rfl rfl rfl HS41.1 rfl (zC hLo 3 rfl HS41.1 rfl (hb 3 (by rfl))) rfl) (fun b G w hb ho => zD (.inl rfl) (zG rfl (HS41.get 11 rfl)))) ?_
            refine zA (zB 5 _ rfl rfl hLo rfl rfl (fun b G hb ho => zE rfl rfl rfl HS41.1 rfl (zC hLo 3 rfl HS41.1 rfl (hb 3 (by rfl))) rfl) (fun b G w hb ho => zD (.inl rfl) (zG rfl (HS41.get 13 rfl)))) ?_
            refine zA (zB 6 _ rfl rfl hLo rfl rfl (fun b G hb ho => zE rfl rfl rfl HS41.1 rfl (zC hLo 3 rfl HS41.1 rfl (hb 3 (by rfl))) rfl) (fun b G w hb ho => zI rfl (zC hLo 4 rfl HS41.1 rfl (hb 4 (by rfl))) (zC hLo 5 rfl HS41.1 rfl (hb 5 (by rfl))) (rb_neq hr11 _ _ _))) ?_
            refine zA (zB 7 _ rfl rfl hLo rfl rfl (fun _ _ _ _ => rfl) (fun b G w hb ho => zL rfl (zC hLo 3 rfl HS41.1 rfl (hb 3 (by rfl))) (zC hLo 6 rfl HS41.1 rfl (hb 6 (by rfl))))) ?_
            refine zA (zB 8 _ rfl rfl hLo rfl rfl (fun _ _ _ _ => rfl) (fun b G w hb ho => zD (.inl rfl) (zC hLo 7 rfl HS41.1 rfl (hb 7 (by rfl))))) ?_
            refine zA (yG 9 0 _ rfl rfl rfl rfl (fun b G hb ho => zE rfl rfl rfl HS41.1 rfl (zC hLo 8 rfl HS41.1 rfl (hb 8 (by rfl))) rfl) hLo rfl rfl rfl (by rfl) Tryd.underlying25 (by kernel_rfl) rfl (fun b G hb ho => zG rfl (HS41.get 4 rfl))) ?_
            refine zA (yG 10 1 _ rfl rfl rfl rfl (fun b G hb ho => zE rfl rfl rfl HS41.1 rfl (zC hLo 8 rfl HS41.1 rfl (hb 8 (by rfl))) rfl) hLo rfl rfl rfl (by rfl) Tryd.underlying25 (by kernel_rfl) rfl (fun b G hb ho => zG rfl (HS41.get 5 rfl))) ?_
            refine zA (zB 11 _ rfl rfl hLo rfl rfl (fun b G hb ho => zE rfl rfl rfl HS41.1 rfl (zC hLo 8 rfl HS41.1 rfl (hb 8 (by rfl))) rfl) (fun b G w hb ho => zJ rfl (zG rfl (HS41.get 10 rfl)) (by kernel_rfl))) ?_
            refine zA (zW 12 2 _ _ rfl rfl rfl hLo rfl rfl (fun b G hb ho => zE rfl rfl rfl HS41.1 rfl (zC hLo 8 rfl HS41.1 rfl (hb 8 (by rfl))) rfl) (by rfl) (by rfl) (fun b G w hb ho hr => zP hr (Nat.le_of_ble_eq_true rfl) Tryd.underlying9 rfl rfl (zC hLo 11 rfl HS41.1 rfl (hb 11 (by rfl))))) ?_
            refine zA (zB 13 _ rfl rfl hLo rfl rfl (fun b G hb ho => zE rfl rfl rfl HS41.1 rfl (zC hLo 8 rfl HS41.1 rfl (hb 8 (by rfl))) rfl) (fun b G w hb ho => zD (.inl rfl) (zG rfl (HS41.get 3 rfl)))) ?_
            refine zA (yB 14 _ #[.agg (FR () 6 ((p).sc)), .agg (FR () 6 ((q).sc)), .string (NM (i)), .int .i64 (mine)] rfl rfl rfl (fun b G hb ho => zE rfl rfl rfl HS41.1 rfl (zC hLo 8 rfl HS41.1 rfl (hb 8 (by rfl))) rfl) hLo rfl rfl Tryd.func32 rfl rfl (fun b G hb ho => args4 (zC hLo 9 rfl HS41.1 rfl (hb 9 (by rfl))) (zC hLo 10 rfl HS41.1 rfl (hb 10 (by rfl))) (zC hLo 12 rfl HS41.1 rfl (hb 12 (by rfl))) (zC hLo 13 rfl HS41.1 rfl (hb 13 (by rfl)))) (fun w hw => (by have hq := may_calls (a := p) (b := q) (NM (i)) mine (hInp.below hw) (hInq.below hw) hRp hRq; rw [hr12] at hq; exact hq))) ?_
            refine zA (zB 15 _ rfl rfl hLo rfl rfl (fun b G hb ho => zE rfl rfl rfl HS41.1 rfl (zC hLo 8 rfl HS41.1 rfl (hb 8 (by rfl))) rfl) (fun b G w hb ho => exec_un rfl (zC hLo 14 rfl HS41.1 rfl (hb 14 (by rfl))) (ru_not _))) ?_
            refine zA (zB 16 _ rfl rfl hLo rfl rfl (fun _ _ _ _ => rfl) (fun b G w hb ho => zL rfl (zC hLo 8 rfl HS41.1 rfl (hb 8 (by rfl))) (zC hLo 15 rfl HS41.1 rfl (hb 15 (by rfl))))) ?_
            exact zF
          clear hLo
          intro G a44 w44 hS hH
          have HS44 : Sl a44 120 [(0, .agg (FR () 6 ((p).sc))), (1, .agg (FR () 6 ((q).sc))), (2, .string (user)), (3, .int .i64 (mine)), (4, .pointer (some ⟨g1_0, 0, none⟩)), (5, .pointer (some ⟨g1_1, 0, none⟩)), (25, .slice (some ba) (7) (cn)), (26, .int .i64 (7)), (27, .int .i64 ((i : Int))), (28, .bool true), (10, .pointer (some ⟨g39_2, 0, none⟩)), (11, .int .i64 (((p).tell (NM (i))).1)), (12, .bool false), (13, .int .i64 (((q).tell (NM (i))).1)), (14, .bool false), (61, .bool (!r12))] := hS
          have HH44 : Held w w44 [⟨g1_0, (), 6, (p).sc, 25⟩, ⟨g1_1, (), 6, (q).sc, 25⟩, ⟨g39_2, (), 2, lsc (ent (i)), 48⟩] := hH
          clear hS hH HS41 HH41
          refine then_ ?_
          cases r12
          · skip
            refine wp_cond_true (HS44.get 15 rfl) ?_
            refine wp_seq ?_
            have hLo : LOk [(0, 8, .val (.bool false))] := lok (by rfl) (by rfl)
            refine zH (wE := w) (sz := 120) (n := 1) [0] [(0, .val (.agg (FR () 6 ((p).sc)))), (1, .val (.agg (FR () 6 ((q).sc)))), (2, .val (.string (user))), (3, .val (.int .i64 (mine))), (4, .val (.pointer (some ⟨g1_0, 0, none⟩))), (5, .val (.pointer (some ⟨g1_1, 0, none⟩))), (25, .val (.slice (some ba) (7) (cn))), (26, .val (.int .i64 (7))), (27, .val (.int .i64 ((i : Int)))), (28, .val (.bool true)), (10, .val (.pointer (some ⟨g39_2, 0, none⟩))), (11, .val (.int .i64 (((p).tell (NM (i))).1))), (12, .val (.bool false)), (13, .val (.int .i64 (((q).tell (NM (i))).1))), (14, .val (.bool false)), (61, .val (.bool true)), (8, .val (.bool false))] [(0, 8, .val (.bool false))] [⟨g1_0, none, none, (), 6, (p).sc, (p).sc, 25⟩, ⟨g1_1, none, none, (), 6, (q).sc, (q).sc, 25⟩, ⟨g39_2, none, none, (), 2, lsc (ent (i)), lsc (ent (i)), 48⟩] rfl (by rfl) HH44 rfl rfl hLo rfl HS44 (slS 0 rfl rfl (slS 1 rfl rfl (slS 2 rfl rfl (slS 3 rfl rfl (slS 4 rfl rfl (slS 5 rfl rfl (slS 6 rfl rfl (slS 7 rfl rfl (slS 8 rfl rfl (slS 9 rfl rfl (slS 10 rfl rfl (slS 11 rfl rfl (slS 12 rfl rfl (slS 13 rfl rfl (slS 14 rfl rfl (slS 15 rfl rfl (slL 0 (d := 0) rfl (trivial)))))))))))))))))) ?_ ?_
            · show ∀ i ∈ [0], _
              refine zA (zB 0 _ rfl rfl hLo rfl rfl (fun _ _ _ _ => rfl) (fun b G w hb ho => zD (.inr rfl) (rfl))) ?_
              exact zF
            clear hLo
            intro G a45 w45 hS hH
            have HS45 : Sl a45 120 [(0, .agg (FR () 6 ((p).sc))), (1, .agg (FR () 6 ((q).sc))), (2, .string (user)), (3, .int .i64 (mine)), (4, .pointer (some ⟨g1_0, 0, none⟩)), (5, .pointer (some ⟨g1_1, 0, none⟩)), (25, .slice (some ba) (7) (cn)), (26, .int .i64 (7)), (27, .int .i64 ((i : Int))), (28, .bool true), (10, .pointer (some ⟨g39_2, 0, none⟩)), (11, .int .i64 (((p).tell (NM (i))).1)), (12, .bool false), (13, .int .i64 (((q).tell (NM (i))).1)), (14, .bool false), (61, .bool true), (8, .bool false)] := hS
            have HH45 : Held w w45 [⟨g1_0, (), 6, (p).sc, 25⟩, ⟨g1_1, (), 6, (q).sc, 25⟩, ⟨g39_2, (), 2, lsc (ent (i)), 48⟩] := hH
            clear hS hH HS44 HH44
            refine then_ ?_
            refine wp_ret ?_
            repeat (first | refine zR ?_ | refine zK ?_)
            exact b_tmp rfl HS45.2.1 (HS45.get 16 rfl) ⟨bool_ret (chg_no1 hlti (name_bad (differs_of hr9 hr10 (by rw [hr11]; rfl)) hr12)), HH45.1⟩
          · skip
            refine wp_cond_false (HS44.get 15 rfl) ?_
            refine wp_skip ?_
            refine zQ ?_
            refine then_ ?_
            have hLo : LOk [(0, 62, .val (.int .i64 (((i + 1 : Nat) : Int)))), (1, 27, .val (.int .i64 (((i + 1 : Nat) : Int))))] := lok (by rfl) (by rfl)
            refine zH (wE := w) (sz := 120) (n := 2) [0, 1] [(0, .val (.agg (FR () 6 ((p).sc)))), (1, .val (.agg (FR () 6 ((q).sc)))), (2, .val (.string (user))), (3, .val (.int .i64 (mine))), (4, .val (.pointer (some ⟨g1_0, 0, none⟩))), (5, .val (.pointer (some ⟨g1_1, 0, none⟩))), (25, .val (.slice (some ba) (7) (cn))), (26, .val (.int .i64 (7))), (28, .val (.bool true)), (10, .val (.pointer (some ⟨g39_2, 0, none⟩))), (11, .val (.int .i64 (((p).tell (NM (i))).1))), (12, .val (.bool false)), (13, .val (.int .i64 (((q).tell (NM (i))).1))), (14, .val (.bool false)), (61, .val (.bool false)), (27, .val (.int .i64 (((i + 1 : Nat) : Int))))] [(0, 62, .val (.int .i64 (((i + 1 : Nat) : Int)))), (1, 27, .val (.int .i64 (((i + 1 : Nat) : Int))))] [⟨g1_0, none, none, (), 6, (p).sc, (p).sc, 25⟩, ⟨g1_1, none, none, (), 6, (q).sc, (q).sc, 25⟩, ⟨g39_2, none, none, (), 2, lsc (ent (i)), lsc (ent (i)), 48⟩] rfl (by rfl) HH44 rfl rfl hLo rfl HS44 (slS 0 rfl rfl (slS 1 rfl rfl (slS 2 rfl rfl (slS 3 rfl rfl (slS 4 rfl rfl (slS 5 rfl rfl (slS 6 rfl rfl (slS 7 rfl rfl (slS 9 rfl rfl (slS 10 rfl rfl (slS 11 rfl rfl (slS 12 rfl rfl (slS 13 rfl rfl (slS 14 rfl rfl (slS 15 rfl rfl (slL 1 (d := 1) rfl (trivial))))))))))))))))) ?_ ?_
            · show ∀ i ∈ [0, 1], _
              refine zA (zB 0 _ rfl rfl hLo rfl rfl (fun _ _ _ _ => rfl) (fun b G w hb ho => zI rfl (ev_pre hLo 1 rfl (ho 1 (by rfl)) (HS44.get 8 rfl)) (rfl) (rb_add (w_nat (by omega) (by omega)) _ _ _))) ?_
              refine zA (zB 1 _ rfl rfl hLo rfl rfl (fun _ _ _ _ => rfl) (fun b G w hb ho => zD (.inl rfl) (zC hLo 0 rfl HS44.1 rfl (hb 0 (by rfl))))) ?_
              exact zF
            clear hLo
            intro G a46 w46 hS hH
            have HS46 : Sl a46 120 [(0, .agg (FR () 6 ((p).sc))), (1, .agg (FR () 6 ((q).sc))), (2, .string (user)), (3, .int .i64 (mine)), (4, .pointer (some ⟨g1_0, 0, none⟩)), (5, .pointer (some ⟨g1_1, 0, none⟩)), (25, .slice (some ba) (7) (cn)), (26, .int .i64 (7)), (28, .bool true), (10, .pointer (some ⟨g39_2, 0, none⟩)), (11, .int .i64 (((p).tell (NM (i))).1)), (12, .bool false), (13, .int .i64 (((q).tell (NM (i))).1)), (14, .bool false), (61, .bool false), (27, .int .i64 (((i + 1 : Nat) : Int)))] := hS
            have HH46 : Held w w46 [⟨g1_0, (), 6, (p).sc, 25⟩, ⟨g1_1, (), 6, (q).sc, 25⟩, ⟨g39_2, (), 2, lsc (ent (i)), 48⟩] := hH
            clear hS hH HS44 HH44
            refine then_ ?_
            have hSq0' : Sl _ 120 [(0, .agg (FR () 6 ((p).sc))), (1, .agg (FR () 6 ((q).sc))), (2, .string (user)), (3, .int .i64 (mine)), (4, .pointer (some ⟨g1_0, 0, none⟩)), (5, .pointer (some ⟨g1_1, 0, none⟩)), (25, .slice (some ba) (7) (cn)), (26, .int .i64 (7)), (27, .int .i64 (((i + 1 : Nat) : Int)))] := yA HS46 [0, 1, 2, 3, 4, 5, 6, 7, 15] (by rfl)
            have hHq0' : Held w _ [⟨g1_0, (), 6, (p).sc, 25⟩, ⟨g1_1, (), 6, (q).sc, 25⟩] := yD HH46 2 rfl
            exact ⟨⟨i + 1, by omega, allB_step hpi (name_ok2 hr12), hSq0', hHq0'⟩, by rw [(hSq0'.get 8 rfl)]; show 7 - (((i + 1 : Nat) : Int)).toNat < 7 - i; omega⟩
      · skip
        obtain ⟨r13, hr13⟩ : ∃ r : Bool, (mayB p q (NM (i)) mine) = r := ⟨_, rfl⟩
        refine wp_seq ?_
        have hLo : LOk [(0, 45, .val (.bool false)), (1, 46, .val (.bool true)), (2, 47, .val (.bool true)), (3, 48, .val (.bool true)), (4, 49, .val (undef)), (5, 50, .val (undef)), (6, 51, .val (undef)), (7, 52, .val (.bool true)), (8, 53, .val (.bool true)), (9, 54, .val (.agg (FR () 6 ((p).sc)))), (10, 55, .val (.agg (FR () 6 ((q).sc)))), (11, 56, .val (.pointer (some ⟨g39_2, 0, none⟩))), (12, 57, .val (.string (NM (i)))), (13, 58, .val (.int .i64 (mine))), (14, 59, .val (.bool r13)), (15, 60, .val (.bool (!r13))), (16, 61, .val (.bool (!r13)))] := lok (by rfl) (by rfl)
        refine zH (wE := w) (sz := 120) (n := 17) [0, 1, 3, 7, 15, 31, 63, 127, 255, 511, 1023, 2047, 4095, 8191, 16383, 32767, 65535] [(0, .val (.agg (FR () 6 ((p).sc)))), (1, .val (.agg (FR () 6 ((q).sc)))), (2, .val (.string (user))), (3, .val (.int .i64 (mine))), (4, .val (.pointer (some ⟨g1_0, 0, none⟩))), (5, .val (.pointer (some ⟨g1_1, 0, none⟩))), (25, .val (.slice (some ba) (7) (cn))), (26, .val (.int .i64 (7))), (27, .val (.int .i64 ((i : Int)))), (28, .val (.bool true)), (10, .val (.pointer (some ⟨g39_2, 0, none⟩))), (11, .val (.int .i64 (((p).tell (NM (i))).1))), (12, .val (.bool false)), (13, .val (.int .i64 (((q).tell (NM (i))).1))), (14, .val (.bool true)), (61, .val (.bool (!r13)))] [(0, 45, .val (.bool false)), (1, 46, .val (.bool true)), (2, 47, .val (.bool true)), (3, 48, .val (.bool true)), (4, 49, .val (undef)), (5, 50, .val (undef)), (6, 51, .val (undef)), (7, 52, .val (.bool true)), (8, 53, .val (.bool true)), (9, 54, .val (.agg (FR () 6 ((p).sc)))), (10, 55, .val (.agg (FR () 6 ((q).sc)))), (11, 56, .val (.pointer (some ⟨g39_2, 0, none⟩))), (12, 57, .val (.string (NM (i)))), (13, 58, .val (.int .i64 (mine))), (14, 59, .val (.bool r13)), (15, 60, .val (.bool (!r13))), (16, 61, .val (.bool (!r13)))] [⟨g1_0, none, none, (), 6, (p).sc, (p).sc, 25⟩, ⟨g1_1, none, none, (), 6, (q).sc, (q).sc, 25⟩, ⟨g39_2, none, none, (), 2, lsc (ent (i)), lsc (ent (i)), 48⟩] rfl (by rfl) HH41 rfl rfl hLo rfl HS41 (slS 0 rfl rfl (slS 1 rfl rfl (slS 2 rfl rfl (slS 3 rfl rfl (slS 4 rfl rfl (slS 5 rfl rfl (slS 6 rfl rfl (slS 7 rfl rfl (slS 8 rfl rfl (slS 9 rfl rfl (slS 10 rfl rfl (slS 11 rfl rfl (slS 12 rfl rfl (slS 13 rfl rfl (slS 14 rfl rfl (slL 16 (d := 16) rfl (trivial))))))))))))))))) ?_ ?_
        · show ∀ i ∈ [0, 1, 2, 3, 4, 5, 6, 7, 8, 9, 10, 11, 12, 13, 14, 15, 16], _
          refine zA (zB 0 _ rfl rfl hLo rfl rfl (fun _ _ _ _ => rfl) (fun b G w hb ho => zD (.inl rfl) (zG rfl (HS41.get 12 rfl)))) ?_
          refine zA (zB 1 _ rfl rfl hLo rfl rfl (fun _ _ _ _ => rfl) (fun b G w hb ho => zD (.inl rfl) (zG rfl (HS41.get 14 rfl)))) ?_
          refine zA (zB 2 _ rfl rfl hLo rfl rfl (fun _ _ _ _ => rfl) (fun b G w hb ho => zI rfl (zC hLo 0 rfl HS41.1 rfl (hb 0 (by rfl))) (zC hLo 1 rfl HS41.1 rfl (hb 1 (by rfl))) (rb_bneq Tryd.underlying4 (rfl) _ _ _))) ?_
          refine zA (zB 3 _ rfl rfl hLo rfl rfl (fun _ _ _ _ => rfl) (fun b G w hb ho => zD (.inl rfl) (zC hLo 2 rfl HS41.1 rfl (hb 2 (by rfl))))) ?_
          refine zA (zN 4 rfl rfl hLo rfl rfl (fun b G hb ho => zE rfl rfl rfl HS41.1 rfl (zC hLo 3 rfl HS41.1 rfl (hb 3 (by rfl))) rfl)) ?_
          refine zA (zN 5 rfl rfl hLo rfl rfl (fun b G hb ho => zE rfl rfl rfl HS41.1 rfl (zC hLo 3 rfl HS41.1 rfl (hb 3 (by rfl))) rfl)) ?_
          refine zA (zN 6 rfl rfl hLo rfl rfl (fun b G hb ho => zE rfl rfl rfl HS41.1 rfl (zC hLo 3 rfl HS41.1 rfl (hb 3 (by rfl))) rfl)) ?_
          refine zA (zB 7 _ rfl rfl hLo rfl rfl (fun _ _ _ _ => rfl) (fun b G w hb ho => zL rfl (zC hLo 3 rfl HS41.1 rfl (hb 3 (by rfl))) (rfl))) ?_
          refine zA (zB 8 _ rfl rfl hLo rfl rfl (fun _ _ _ _ => rfl) (fun b G w hb ho => zD (.inl rfl) (zC hLo 7 rfl HS41.1 rfl (hb 7 (by rfl))))) ?_
          refine zA (yG 9 0 _ rfl rfl rfl rfl (fun b G hb ho => zE rfl rfl rfl HS41.1 rfl (zC hLo 8 rfl HS41.1 rfl (hb 8 (by rfl))) rfl) hLo rfl rfl rfl (by rfl) Tryd.underlying25 (by kernel_rfl) rfl (fun b G hb ho => zG rfl (HS41.get 4 rfl))) ?_
          refine zA (yG 10 1 _ rfl rfl rfl rfl (fun b G hb ho => zE rfl rfl rfl HS41.1 rfl (zC hLo 8 rfl HS41.1 rfl (hb 8 (by rfl))) rfl) hLo rfl rfl rfl (by rfl) Tryd.underlying25 (by kernel_rfl) rfl (fun b G hb ho => zG rfl (HS41.get 5 rfl))) ?_
          refine zA (zB 11 _ rfl rfl hLo rfl rfl (fun b G hb ho => zE rfl rfl rfl HS41.1 rfl (zC hLo 8 rfl HS41.1 rfl (hb 8 (by rfl))) rfl) (fun b G w hb ho => zJ rfl (zG rfl (HS41.get 10 rfl)) (by kernel_rfl))) ?_
          refine zA (zW 12 2 _ _ rfl rfl rfl hLo rfl rfl (fun b G hb ho => zE rfl rfl rfl HS41.1 rfl (zC hLo 8 rfl HS41.1 rfl (hb 8 (by rfl))) rfl) (by rfl) (by rfl) (fun b G w hb ho hr => zP hr (Nat.le_of_ble_eq_true rfl) Tryd.underlying9 rfl rfl (zC hLo 11 rfl HS41.1 rfl (hb 11 (by rfl))))) ?_
          refine zA (zB 13 _ rfl rfl hLo rfl rfl (fun b G hb ho => zE rfl rfl rfl HS41.1 rfl (zC hLo 8 rfl HS41.1 rfl (hb 8 (by rfl))) rfl) (fun b G w hb ho => zD (.inl rfl) (zG rfl (HS41.get 3 rfl)))) ?_
          refine zA (yB 14 _ #[.agg (FR () 6 ((p).sc)), .agg (FR () 6 ((q).sc)), .string (NM (i)), .int .i64 (mine)] rfl rfl rfl (fun b G hb ho => zE rfl rfl rfl HS41.1 rfl (zC hLo 8 rfl HS41.1 rfl (hb 8 (by rfl))) rfl) hLo rfl rfl Tryd.func32 rfl rfl (fun b G hb ho => args4 (zC hLo 9 rfl HS41.1 rfl (hb 9 (by rfl))) (zC hLo 10 rfl HS41.1 rfl (hb 10 (by rfl))) (zC hLo 12 rfl HS41.1 rfl (hb 12 (by rfl))) (zC hLo 13 rfl HS41.1 rfl (hb 13 (by rfl)))) (fun w hw => (by have hq := may_calls (a := p) (b := q) (NM (i)) mine (hInp.below hw) (hInq.below hw) hRp hRq; rw [hr13] at hq; exact hq))) ?_
          refine zA (zB 15 _ rfl rfl hLo rfl rfl (fun b G hb ho => zE rfl rfl rfl HS41.1 rfl (zC hLo 8 rfl HS41.1 rfl (hb 8 (by rfl))) rfl) (fun b G w hb ho => exec_un rfl (zC hLo 14 rfl HS41.1 rfl (hb 14 (by rfl))) (ru_not _))) ?_
          refine zA (zB 16 _ rfl rfl hLo rfl rfl (fun _ _ _ _ => rfl) (fun b G w hb ho => zL rfl (zC hLo 8 rfl HS41.1 rfl (hb 8 (by rfl))) (zC hLo 15 rfl HS41.1 rfl (hb 15 (by rfl))))) ?_
          exact zF
        clear hLo
        intro G a47 w47 hS hH
        have HS47 : Sl a47 120 [(0, .agg (FR () 6 ((p).sc))), (1, .agg (FR () 6 ((q).sc))), (2, .string (user)), (3, .int .i64 (mine)), (4, .pointer (some ⟨g1_0, 0, none⟩)), (5, .pointer (some ⟨g1_1, 0, none⟩)), (25, .slice (some ba) (7) (cn)), (26, .int .i64 (7)), (27, .int .i64 ((i : Int))), (28, .bool true), (10, .pointer (some ⟨g39_2, 0, none⟩)), (11, .int .i64 (((p).tell (NM (i))).1)), (12, .bool false), (13, .int .i64 (((q).tell (NM (i))).1)), (14, .bool true), (61, .bool (!r13))] := hS
        have HH47 : Held w w47 [⟨g1_0, (), 6, (p).sc, 25⟩, ⟨g1_1, (), 6, (q).sc, 25⟩, ⟨g39_2, (), 2, lsc (ent (i)), 48⟩] := hH
        clear hS hH HS41 HH41
        refine then_ ?_
        cases r13
        · skip
          refine wp_cond_true (HS47.get 15 rfl) ?_
          refine wp_seq ?_
          have hLo : LOk [(0, 8, .val (.bool false))] := lok (by rfl) (by rfl)
          refine zH (wE := w) (sz := 120) (n := 1) [0] [(0, .val (.agg (FR () 6 ((p).sc)))), (1, .val (.agg (FR () 6 ((q).sc)))), (2, .val (.string (user))), (3, .val (.int .i64 (mine))), (4, .val (.pointer (some ⟨g1_0, 0, none⟩))), (5, .val (.pointer (some ⟨g1_1, 0, none⟩))), (25, .val (.slice (some ba) (7) (cn))), (26, .val (.int .i64 (7))), (27, .val (.int .i64 ((i : Int)))), (28, .val (.bool true)), (10, .val (.pointer (some ⟨g39_2, 0, none⟩))), (11, .val (.int .i64 (((p).tell (NM (i))).1))), (12, .val (.bool false)), (13, .val (.int .i64 (((q).tell (NM (i))).1))), (14, .val (.bool true)), (61, .val (.bool true)), (8, .val (.bool false))] [(0, 8, .val (.bool false))] [⟨g1_0, none, none, (), 6, (p).sc, (p).sc, 25⟩, ⟨g1_1, none, none, (), 6, (q).sc, (q).sc, 25⟩, ⟨g39_2, none, none, (), 2, lsc (ent (i)), lsc (ent (i)), 48⟩] rfl (by rfl) HH47 rfl rfl hLo rfl HS47 (slS 0 rfl rfl (slS 1 rfl rfl (slS 2 rfl rfl (slS 3 rfl rfl (slS 4 rfl rfl (slS 5 rfl rfl (slS 6 rfl rfl (slS 7 rfl rfl (slS 8 rfl rfl (slS 9 rfl rfl (slS 10 rfl rfl (slS 11 rfl rfl (slS 12 rfl rfl (slS 13 rfl rfl (slS 14 rfl rfl (slS 15 rfl rfl (slL 0 (d := 0) rfl (trivial)))))))))))))))))) ?_ ?_
          · show ∀ i ∈ [0], _
            refine zA (zB 0 _ rfl rfl hLo rfl rfl (fun _ _ _ _ => rfl) (fun b G w hb ho => zD (.inr rfl) (rfl))) ?_
            exact zF
          clear hLo
          intro G a48 w48 hS hH
          have HS48 : Sl a48 120 [(0, .agg (FR () 6 ((p).sc))), (1, .agg (FR () 6 ((q).sc))), (2, .string (user)), (3, .int .i64 (mine)), (4, .pointer (some ⟨g1_0, 0, none⟩)), (5, .pointer (some ⟨g1_1, 0, none⟩)), (25, .slice (some ba) (7) (cn)), (26, .int .i64 (7)), (27, .int .i64 ((i : Int))), (28, .bool true), (10, .pointer (some ⟨g39_2, 0, none⟩)), (11, .int .i64 (((p).tell (NM (i))).1)), (12, .bool false), (13, .int .i64 (((q).tell (NM (i))).1)), (14, .bool true), (61, .bool true), (8, .bool false)] := hS
          have HH48 : Held w w48 [⟨g1_0, (), 6, (p).sc, 25⟩, ⟨g1_1, (), 6, (q).sc, 25⟩, ⟨g39_2, (), 2, lsc (ent (i)), 48⟩] := hH
          clear hS hH HS47 HH47
          refine then_ ?_
          refine wp_ret ?_
          repeat (first | refine zR ?_ | refine zK ?_)
          exact b_tmp rfl HS48.2.1 (HS48.get 16 rfl) ⟨bool_ret (chg_no1 hlti (name_bad (differs_of hr9 hr10 (by rfl)) hr13)), HH48.1⟩
        · skip
          refine wp_cond_false (HS47.get 15 rfl) ?_
          refine wp_skip ?_
          refine zQ ?_
          refine then_ ?_
          have hLo : LOk [(0, 62, .val (.int .i64 (((i + 1 : Nat) : Int)))), (1, 27, .val (.int .i64 (((i + 1 : Nat) : Int))))] := lok (by rfl) (by rfl)
          refine zH (wE := w) (sz := 120) (n := 2) [0, 1] [(0, .val (.agg (FR () 6 ((p).sc)))), (1, .val (.agg (FR () 6 ((q).sc)))), (2, .val (.string (user))), (3, .val (.int .i64 (mine))), (4, .val (.pointer (some ⟨g1_0, 0, none⟩))), (5, .val (.pointer (some ⟨g1_1, 0, none⟩))), (25, .val (.slice (some ba) (7) (cn))), (26, .val (.int .i64 (7))), (28, .val (.bool true)), (10, .val (.pointer (some ⟨g39_2, 0, none⟩))), (11, .val (.int .i64 (((p).tell (NM (i))).1))), (12, .val (.bool false)), (13, .val (.int .i64 (((q).tell (NM (i))).1))), (14, .val (.bool true)), (61, .val (.bool false)), (27, .val (.int .i64 (((i + 1 : Nat) : Int))))] [(0, 62, .val (.int .i64 (((i + 1 : Nat) : Int)))), (1, 27, .val (.int .i64 (((i + 1 : Nat) : Int))))] [⟨g1_0, none, none, (), 6, (p).sc, (p).sc, 25⟩, ⟨g1_1, none, none, (), 6, (q).sc, (q).sc, 25⟩, ⟨g39_2, none, none, (), 2, lsc (ent (i)), lsc (ent (i)), 48⟩] rfl (by rfl) HH47 rfl rfl hLo rfl HS47 (slS 0 rfl rfl (slS 1 rfl rfl (slS 2 rfl rfl (slS 3 rfl rfl (slS 4 rfl rfl (slS 5 rfl rfl (slS 6 rfl rfl (slS 7 rfl rfl (slS 9 rfl rfl (slS 10 rfl rfl (slS 11 rfl rfl (slS 12 rfl rfl (slS 13 rfl rfl (slS 14 rfl rfl (slS 15 rfl rfl (slL 1 (d := 1) rfl (trivial))))))))))))))))) ?_ ?_
          · show ∀ i ∈ [0, 1], _
            refine zA (zB 0 _ rfl rfl hLo rfl rfl (fun _ _ _ _ => rfl) (fun b G w hb ho => zI rfl (ev_pre hLo 1 rfl (ho 1 (by rfl)) (HS47.get 8 rfl)) (rfl) (rb_add (w_nat (by omega) (by omega)) _ _ _))) ?_
            refine zA (zB 1 _ rfl rfl hLo rfl rfl (fun _ _ _ _ => rfl) (fun b G w hb ho => zD (.inl rfl) (zC hLo 0 rfl HS47.1 rfl (hb 0 (by rfl))))) ?_
            exact zF
          clear hLo
          intro G a49 w49 hS hH
          have HS49 : Sl a49 120 [(0, .agg (FR () 6 ((p).sc))), (1, .agg (FR () 6 ((q).sc))), (2, .string (user)), (3, .int .i64 (mine)), (4, .pointer (some ⟨g1_0, 0, none⟩)), (5, .pointer (some ⟨g1_1, 0, none⟩)), (25, .slice (some ba) (7) (cn)), (26, .int .i64 (7)), (28, .bool true), (10, .pointer (some ⟨g39_2, 0, none⟩)), (11, .int .i64 (((p).tell (NM (i))).1)), (12, .bool false), (13, .int .i64 (((q).tell (NM (i))).1)), (14, .bool true), (61, .bool false), (27, .int .i64 (((i + 1 : Nat) : Int)))] := hS
          have HH49 : Held w w49 [⟨g1_0, (), 6, (p).sc, 25⟩, ⟨g1_1, (), 6, (q).sc, 25⟩, ⟨g39_2, (), 2, lsc (ent (i)), 48⟩] := hH
          clear hS hH HS47 HH47
          refine then_ ?_
          have hSq0' : Sl _ 120 [(0, .agg (FR () 6 ((p).sc))), (1, .agg (FR () 6 ((q).sc))), (2, .string (user)), (3, .int .i64 (mine)), (4, .pointer (some ⟨g1_0, 0, none⟩)), (5, .pointer (some ⟨g1_1, 0, none⟩)), (25, .slice (some ba) (7) (cn)), (26, .int .i64 (7)), (27, .int .i64 (((i + 1 : Nat) : Int)))] := yA HS49 [0, 1, 2, 3, 4, 5, 6, 7, 15] (by rfl)
          have hHq0' : Held w _ [⟨g1_0, (), 6, (p).sc, 25⟩, ⟨g1_1, (), 6, (q).sc, 25⟩] := yD HH49 2 rfl
          exact ⟨⟨i + 1, by omega, allB_step hpi (name_ok2 hr13), hSq0', hHq0'⟩, by rw [(hSq0'.get 8 rfl)]; show 7 - (((i + 1 : Nat) : Int)).toNat < 7 - i; omega⟩
    · skip
      cases r10
      · skip
        obtain ⟨r14, hr14⟩ : ∃ r : Bool, (mayB p q (NM (i)) mine) = r := ⟨_, rfl⟩
        refine wp_seq ?_
        have hLo : LOk [(0, 45, .val (.bool true)), (1, 46, .val (.bool false)), (2, 47, .val (.bool true)), (3, 48, .val (.bool true)), (4, 49, .val (undef)), (5, 50, .val (undef)), (6, 51, .val (undef)), (7, 52, .val (.bool true)), (8, 53, .val (.bool true)), (9, 54, .val (.agg (FR () 6 ((p).sc)))), (10, 55, .val (.agg (FR () 6 ((q).sc)))), (11, 56, .val (.pointer (some ⟨g39_2, 0, none⟩))), (12, 57, .val (.string (NM (i)))), (13, 58, .val (.int .i64 (mine))), (14, 59, .val (.bool r14)), (15, 60, .val (.bool (!r14))), (16, 61, .val (.bool (!r14)))] := lok (by rfl) (by rfl)
        refine zH (wE := w) (sz := 120) (n := 17) [0, 1, 3, 7, 15, 31, 63, 127, 255, 511, 1023, 2047, 4095, 8191, 16383, 32767, 65535] [(0, .val (.agg (FR () 6 ((p).sc)))), (1, .val (.agg (FR () 6 ((q).sc)))), (2, .val (.string (user))), (3, .val (.int .i64 (mine))), (4, .val (.pointer (some ⟨g1_0, 0, none⟩))), (5, .val (.pointer (some ⟨g1_1, 0, none⟩))), (25, .val (.slice (some ba) (7) (cn))), (26, .val (.int .i64 (7))), (27, .val (.int .i64 ((i : Int)))), (28, .val (.bool true)), (10, .val (.pointer (some ⟨g39_2, 0, none⟩))), (11, .val (.int .i64 (((p).tell (NM (i))).1))), (12, .val (.bool true)), (13, .val (.int .i64 (((q).tell (NM (i))).1))), (14, .val (.bool false)), (61, .val (.bool (!r14)))] [(0, 45, .val (.bool true)), (1, 46, .val (.bool false)), (2, 47, .val (.bool true)), (3, 48, .val (.bool true)), (4, 49, .val (undef)), (5, 50, .val (undef)), (6, 51, .val (undef)), (7, 52, .val (.bool true)), (8, 53, .val (.bool true)), (9, 54, .val (.agg (FR () 6 ((p).sc)))), (10, 55, .val (.agg (FR () 6 ((q).sc)))), (11, 56, .val (.pointer (some ⟨g39_2, 0, none⟩))), (12, 57, .val (.string (NM (i)))), (13, 58, .val (.int .i64 (mine))), (14, 59, .val (.bool r14)), (15, 60, .val (.bool (!r14))), (16, 61, .val (.bool (!r14)))] [⟨g1_0, none, none, (), 6, (p).sc, (p).sc, 25⟩, ⟨g1_1, none, none, (), 6, (q).sc, (q).sc, 25⟩, ⟨g39_2, none, none, (), 2, lsc (ent (i)), lsc (ent (i)), 48⟩] rfl (by rfl) HH41 rfl rfl hLo rfl HS41 (slS 0 rfl rfl (slS 1 rfl rfl (slS 2 rfl rfl (slS 3 rfl rfl (slS 4 rfl rfl (slS 5 rfl rfl (slS 6 rfl rfl (slS 7 rfl rfl (slS 8 rfl rfl (slS 9 rfl rfl (slS 10 rfl rfl (slS 11 rfl rfl (slS 12 rfl rfl (slS 13 rfl rfl (slS 14 rfl rfl (slL 16 (d := 16) rfl (trivial))))))))))))))))) ?_ ?_
        · show ∀ i ∈ [0, 1, 2, 3, 4, 5, 6, 7, 8, 9, 10, 11, 12, 13, 14, 15, 16], _
          refine zA (zB 0 _ rfl rfl hLo rfl rfl (fun _ _ _ _ => rfl) (fun b G w hb ho => zD (.inl rfl) (zG rfl (HS41.get 12 rfl)))) ?_
          refine zA (zB 1 _ rfl rfl hLo rfl rfl (fun _ _ _ _ => rfl) (fun b G w hb ho => zD (.inl rfl) (zG rfl (HS41.get 14 rfl)))) ?_
          refine zA (zB 2 _ rfl rfl hLo rfl rfl (fun _ _ _ _ => rfl) (fun b G w hb ho => zI rfl (zC hLo 0 rfl HS41.1 rfl (hb 0 (by rfl))) (zC hLo 1 rfl HS41.1 rfl (hb 1 (by rfl))) (rb_bneq Tryd.underlying4 (rfl) _ _ _))) ?_
          refine zA (zB 3 _ rfl rfl hLo rfl rfl (fun _ _ _ _ => rfl) (fun b G w hb ho => zD (.inl rfl) (zC hLo 2 rfl HS41.1 rfl (hb 2 (by rfl))))) ?_
          refine zA (zN 4 rfl rfl hLo rfl rfl (fun b G hb ho => zE rfl rfl rfl HS41.1 rfl (zC hLo 3 rfl HS41.1 rfl (hb 3 (by rfl))) rfl)) ?_
          refine zA (zN 5 rfl rfl hLo rfl rfl (fun b G hb ho => zE rfl rfl rfl HS41.1 rfl (zC hLo 3 rfl HS41.1 rfl (hb 3 (by rfl))) rfl)) ?_
          refine zA (zN 6 rfl rfl hLo rfl rfl (fun b G hb ho => zE rfl rfl rfl HS41.1 rfl (zC hLo 3 rfl HS41.1 rfl (hb 3 (by rfl))) rfl)) ?_
          refine zA (zB 7 _ rfl rfl hLo rfl rfl (fun _ _ _ _ => rfl) (fun b G w hb ho => zL rfl (zC hLo 3 rfl HS41.1 rfl (hb 3 (by rfl))) (rfl))) ?_
          refine zA (zB 8 _ rfl rfl hLo rfl rfl (fun _ _ _ _ => rfl) (fun b G w hb ho => zD (.inl rfl) (zC hLo 7 rfl HS41.1 rfl (hb 7 (by rfl))))) ?_
          refine zA (yG 9 0 _ rfl rfl rfl rfl (fun b G hb ho => zE rfl rfl rfl HS41.1 rfl (zC hLo 8 rfl HS41.1 rfl (hb 8 (by rfl))) rfl) hLo rfl rfl rfl (by rfl) Tryd.underlying25 (by kernel_rfl) rfl (fun b G hb ho => zG rfl (HS41.get 4 rfl))) ?_
          refine zA (yG 10 1 _ rfl rfl rfl rfl (fun b G hb ho => zE rfl rfl rfl HS41.1 rfl (zC hLo 8 rfl HS41.1 rfl (hb 8 (by rfl))) rfl) hLo rfl rfl rfl (by rfl) Tryd.underlying25 (by kernel_rfl) rfl (fun b G hb ho => zG rfl (HS41.get 5 rfl))) ?_
          refine zA (zB 11 _ rfl rfl hLo rfl rfl (fun b G hb ho => zE rfl rfl rfl HS41.1 rfl (zC hLo 8 rfl HS41.1 rfl (hb 8 (by rfl))) rfl) (fun b G w hb ho => zJ rfl (zG rfl (HS41.get 10 rfl)) (by kernel_rfl))) ?_
          refine zA (zW 12 2 _ _ rfl rfl rfl hLo rfl rfl (fun b G hb ho => zE rfl rfl rfl HS41.1 rfl (zC hLo 8 rfl HS41.1 rfl (hb 8 (by rfl))) rfl) (by rfl) (by rfl) (fun b G w hb ho hr => zP hr (Nat.le_of_ble_eq_true rfl) Tryd.underlying9 rfl rfl (zC hLo 11 rfl HS41.1 rfl (hb 11 (by rfl))))) ?_
          refine zA (zB 13 _ rfl rfl hLo rfl rfl (fun b G hb ho => zE rfl rfl rfl HS41.1 rfl (zC hLo 8 rfl HS41.1 rfl (hb 8 (by rfl))) rfl) (fun b G w hb ho => zD (.inl rfl) (zG rfl (HS41.get 3 rfl)))) ?_
          refine zA (yB 14 _ #[.agg (FR () 6 ((p).sc)), .agg (FR () 6 ((q).sc)), .string (NM (i)), .int .i64 (mine)] rfl rfl rfl (fun b G hb ho => zE rfl rfl rfl HS41.1 rfl (zC hLo 8 rfl HS41.1 rfl (hb 8 (by rfl))) rfl) hLo rfl rfl Tryd.func32 rfl rfl (fun b G hb ho => args4 (zC hLo 9 rfl HS41.1 rfl (hb 9 (by rfl))) (zC hLo 10 rfl HS41.1 rfl (hb 10 (by rfl))) (zC hLo 12 rfl HS41.1 rfl (hb 12 (by rfl))) (zC hLo 13 rfl HS41.1 rfl (hb 13 (by rfl)))) (fun w hw => (by have hq := may_calls (a := p) (b := q) (NM (i)) mine (hInp.below hw) (hInq.below hw) hRp hRq; rw [hr14] at hq; exact hq))) ?_
          refine zA (zB 15 _ rfl rfl hLo rfl rfl (fun b G hb ho => zE rfl rfl rfl HS41.1 rfl (zC hLo 8 rfl HS41.1 rfl (hb 8 (by rfl))) rfl) (fun b G w hb ho => exec_un rfl (zC hLo 14 rfl HS41.1 rfl (hb 14 (by rfl))) (ru_not _))) ?_
          refine zA (zB 16 _ rfl rfl hLo rfl rfl (fun _ _ _ _ => rfl) (fun b G w hb ho => zL rfl (zC hLo 8 rfl HS41.1 rfl (hb 8 (by rfl))) (zC hLo 15 rfl HS41.1 rfl (hb 15 (by rfl))))) ?_
          exact zF
        clear hLo
        intro G a50 w50 hS hH
        have HS50 : Sl a50 120 [(0, .agg (FR () 6 ((p).sc))), (1, .agg (FR () 6 ((q).sc))), (2, .string (user)), (3, .int .i64 (mine)), (4, .pointer (some ⟨g1_0, 0, none⟩)), (5, .pointer (some ⟨g1_1, 0, none⟩)), (25, .slice (some ba) (7) (cn)), (26, .int .i64 (7)), (27, .int .i64 ((i : Int))), (28, .bool true), (10, .pointer (some ⟨g39_2, 0, none⟩)), (11, .int .i64 (((p).tell (NM (i))).1)), (12, .bool true), (13, .int .i64 (((q).tell (NM (i))).1)), (14, .bool false), (61, .bool (!r14))] := hS
        have HH50 : Held w w50 [⟨g1_0, (), 6, (p).sc, 25⟩, ⟨g1_1, (), 6, (q).sc, 25⟩, ⟨g39_2, (), 2, lsc (ent (i)), 48⟩] := hH
        clear hS hH HS41 HH41
        refine then_ ?_
        cases r14
        · skip
          refine wp_cond_true (HS50.get 15 rfl) ?_
          refine wp_seq ?_
          have hLo : LOk [(0, 8, .val (.bool false))] := lok (by rfl) (by rfl)
          refine zH (wE := w) (sz := 120) (n := 1) [0] [(0, .val (.agg (FR () 6 ((p).sc)))), (1, .val (.agg (FR () 6 ((q).sc)))), (2, .val (.string (user))), (3, .val (.int .i64 (mine))), (4, .val (.pointer (some ⟨g1_0, 0, none⟩))), (5, .val (.pointer (some ⟨g1_1, 0, none⟩))), (25, .val (.slice (some ba) (7) (cn))), (26, .val (.int .i64 (7))), (27, .val (.int .i64 ((i : Int)))), (28, .val (.bool true)), (10, .val (.pointer (some ⟨g39_2, 0, none⟩))), (11, .val (.int .i64 (((p).tell (NM (i))).1))), (12, .val (.bool true)), (13, .val (.int .i64 (((q).tell (NM (i))).1))), (14, .val (.bool false)), (61, .val (.bool true)), (8, .val (.bool false))] [(0, 8, .val (.bool false))] [⟨g1_0, none, none, (), 6, (p).sc, (p).sc, 25⟩, ⟨g1_1, none, none, (), 6, (q).sc, (q).sc, 25⟩, ⟨g39_2, none, none, (), 2, lsc (ent (i)), lsc (ent (i)), 48⟩] rfl (by rfl) HH50 rfl rfl hLo rfl HS50 (slS 0 rfl rfl (slS 1 rfl rfl (slS 2 rfl rfl (slS 3 rfl rfl (slS 4 rfl rfl (slS 5 rfl rfl (slS 6 rfl rfl (slS 7 rfl rfl (slS 8 rfl rfl (slS 9 rfl rfl (slS 10 rfl rfl (slS 11 rfl rfl (slS 12 rfl rfl (slS 13 rfl rfl (slS 14 rfl rfl (slS 15 rfl rfl (slL 0 (d := 0) rfl (trivial)))))))))))))))))) ?_ ?_
          · show ∀ i ∈ [0], _
            refine zA (zB 0 _ rfl rfl hLo rfl rfl (fun _ _ _ _ => rfl) (fun b G w hb ho => zD (.inr rfl) (rfl))) ?_
            exact zF
          clear hLo
          intro G a51 w51 hS hH
          have HS51 : Sl a51 120 [(0, .agg (FR () 6 ((p).sc))), (1, .agg (FR () 6 ((q).sc))), (2, .string (user)), (3, .int .i64 (mine)), (4, .pointer (some ⟨g1_0, 0, none⟩)), (5, .pointer (some ⟨g1_1, 0, none⟩)), (25, .slice (some ba) (7) (cn)), (26, .int .i64 (7)), (27, .int .i64 ((i : Int))), (28, .bool true), (10, .pointer (some ⟨g39_2, 0, none⟩)), (11, .int .i64 (((p).tell (NM (i))).1)), (12, .bool true), (13, .int .i64 (((q).tell (NM (i))).1)), (14, .bool false), (61, .bool true), (8, .bool false)] := hS
          have HH51 : Held w w51 [⟨g1_0, (), 6, (p).sc, 25⟩, ⟨g1_1, (), 6, (q).sc, 25⟩, ⟨g39_2, (), 2, lsc (ent (i)), 48⟩] := hH
          clear hS hH HS50 HH50
          refine then_ ?_
          refine wp_ret ?_
          repeat (first | refine zR ?_ | refine zK ?_)
          exact b_tmp rfl HS51.2.1 (HS51.get 16 rfl) ⟨bool_ret (chg_no1 hlti (name_bad (differs_of hr9 hr10 (by rfl)) hr14)), HH51.1⟩
        · skip
          refine wp_cond_false (HS50.get 15 rfl) ?_
          refine wp_skip ?_
          refine zQ ?_
          refine then_ ?_
          have hLo : LOk [(0, 62, .val (.int .i64 (((i + 1 : Nat) : Int)))), (1, 27, .val (.int .i64 (((i + 1 : Nat) : Int))))] := lok (by rfl) (by rfl)
          refine zH (wE := w) (sz := 120) (n := 2) [0, 1] [(0, .val (.agg (FR () 6 ((p).sc)))), (1, .val (.agg (FR () 6 ((q).sc)))), (2, .val (.string (user))), (3, .val (.int .i64 (mine))), (4, .val (.pointer (some ⟨g1_0, 0, none⟩))), (5, .val (.pointer (some ⟨g1_1, 0, none⟩))), (25, .val (.slice (some ba) (7) (cn))), (26, .val (.int .i64 (7))), (28, .val (.bool true)), (10, .val (.pointer (some ⟨g39_2, 0, none⟩))), (11, .val (.int .i64 (((p).tell (NM (i))).1))), (12, .val (.bool true)), (13, .val (.int .i64 (((q).tell (NM (i))).1))), (14, .val (.bool false)), (61, .val (.bool false)), (27, .val (.int .i64 (((i + 1 : Nat) : Int))))] [(0, 62, .val (.int .i64 (((i + 1 : Nat) : Int)))), (1, 27, .val (.int .i64 (((i + 1 : Nat) : Int))))] [⟨g1_0, none, none, (), 6, (p).sc, (p).sc, 25⟩, ⟨g1_1, none, none, (), 6, (q).sc, (q).sc, 25⟩, ⟨g39_2, none, none, (), 2, lsc (ent (i)), lsc (ent (i)), 48⟩] rfl (by rfl) HH50 rfl rfl hLo rfl HS50 (slS 0 rfl rfl (slS 1 rfl rfl (slS 2 rfl rfl (slS 3 rfl rfl (slS 4 rfl rfl (slS 5 rfl rfl (slS 6 rfl rfl (slS 7 rfl rfl (slS 9 rfl rfl (slS 10 rfl rfl (slS 11 rfl rfl (slS 12 rfl rfl (slS 13 rfl rfl (slS 14 rfl rfl (slS 15 rfl rfl (slL 1 (d := 1) rfl (trivial))))))))))))))))) ?_ ?_
          · show ∀ i ∈ [0, 1], _
            refine zA (zB 0 _ rfl rfl hLo rfl rfl (fun _ _ _ _ => rfl) (fun b G w hb ho => zI rfl (ev_pre hLo 1 rfl (ho 1 (by rfl)) (HS50.get 8 rfl)) (rfl) (rb_add (w_nat (by omega) (by omega)) _ _ _))) ?_
            refine zA (zB 1 _ rfl rfl hLo rfl rfl (fun _ _ _ _ => rfl) (fun b G w hb ho => zD (.inl rfl) (zC hLo 0 rfl HS50.1 rfl (hb 0 (by rfl))))) ?_
            exact zF
          clear hLo
          intro G a52 w52 hS hH
          have HS52 : Sl a52 120 [(0, .agg (FR () 6 ((p).sc))), (1, .agg (FR () 6 ((q).sc))), (2, .string (user)), (3, .int .i64 (mine)), (4, .pointer (some ⟨g1_0, 0, none⟩)), (5, .pointer (some ⟨g1_1, 0, none⟩)), (25, .slice (some ba) (7) (cn)), (26, .int .i64 (7)), (28, .bool true), (10, .pointer (some ⟨g39_2, 0, none⟩)), (11, .int .i64 (((p).tell (NM (i))).1)), (12, .bool true), (13, .int .i64 (((q).tell (NM (i))).1)), (14, .bool false), (61, .bool false), (27, .int .i64 (((i + 1 : Nat) : Int)))] := hS
          have HH52 : Held w w52 [⟨g1_0, (), 6, (p).sc, 25⟩, ⟨g1_1, (), 6, (q).sc, 25⟩, ⟨g39_2, (), 2, lsc (ent (i)), 48⟩] := hH
          clear hS hH HS50 HH50
          refine then_ ?_
          have hSq0' : Sl _ 120 [(0, .agg (FR () 6 ((p).sc))), (1, .agg (FR () 6 ((q).sc))), (2, .string (user)), (3, .int .i64 (mine)), (4, .pointer (some ⟨g1_0, 0, none⟩)), (5, .pointer (some ⟨g1_1, 0, none⟩)), (25, .slice (some ba) (7) (cn)), (26, .int .i64 (7)), (27, .int .i64 (((i + 1 : Nat) : Int)))] := yA HS52 [0, 1, 2, 3, 4, 5, 6, 7, 15] (by rfl)
          have hHq0' : Held w _ [⟨g1_0, (), 6, (p).sc, 25⟩, ⟨g1_1, (), 6, (q).sc, 25⟩] := yD HH52 2 rfl
          exact ⟨⟨i + 1, by omega, allB_step hpi (name_ok2 hr14), hSq0', hHq0'⟩, by rw [(hSq0'.get 8 rfl)]; show 7 - (((i + 1 : Nat) : Int)).toNat < 7 - i; omega⟩
      · skip
        obtain ⟨r15, hr15⟩ : ∃ r : Bool, (((((p).tell (NM (i))).1 : Int) != ((q).tell (NM (i))).1)) = r := ⟨_, rfl⟩
        cases r15
        · skip
          refine wp_seq ?_
          have hLo : LOk [(0, 45, .val (.bool true)), (1, 46, .val (.bool true)), (2, 47, .val (.bool false)), (3, 48, .val (.bool false)), (4, 49, .val (.int .i64 (((p).tell (NM (i))).1))), (5, 50, .val (.int .i64 (((q).tell (NM (i))).1))), (6, 51, .val (.bool false)), (7, 52, .val (.bool false)), (8, 53, .val (.bool false)), (9, 54, .val (undef)), (10, 55, .val (undef)), (11, 56, .val (undef)), (12, 57, .val (undef)), (13, 58, .val (undef)), (14, 59, .val (undef)), (15, 60, .val (undef)), (16, 61, .val (.bool false))] := lok (by rfl) (by rfl)
          refine zH (wE := w) (sz := 120) (n := 17) [0, 1, 3, 7, 15, 31, 63, 127, 255, 511, 1023, 2047, 4095, 8191, 16383, 32767, 65535] [(0, .val (.agg (FR () 6 ((p).sc)))), (1, .val (.agg (FR () 6 ((q).sc)))), (2, .val (.string (user))), (3, .val (.int .i64 (mine))), (4, .val (.pointer (some ⟨g1_0, 0, none⟩))), (5, .val (.pointer (some ⟨g1_1, 0, none⟩))), (25, .val (.slice (some ba) (7) (cn))), (26, .val (.int .i64 (7))), (27, .val (.int .i64 ((i : Int)))), (28, .val (.bool true)), (10, .val (.pointer (some ⟨g39_2, 0, none⟩))), (11, .val (.int .i64 (((p).tell (NM (i))).1))), (12, .val (.bool true)), (13, .val (.int .i64 (((q).tell (NM (i))).1))), (14, .val (.bool true)), (61, .val (.bool false))] [(0, 45, .val (.bool true)), (1, 46, .val (.bool true)), (2, 47, .val (.bool false)), (3, 48, .val (.bool false)), (4, 49, .val (.int .i64 (((p).tell (NM (i))).1))), (5, 50, .val (.int .i64 (((q).tell (NM (i))).1))), (6, 51, .val (.bool false)), (7, 52, .val (.bool false)), (8, 53, .val (.bool false)), (9, 54, .val (undef)), (10, 55, .val (undef)), (11, 56, .val (undef)), (12, 57, .val (undef)), (13, 58, .val (undef)), (14, 59, .val (undef)), (15, 60, .val (undef)), (16, 61, .val (.bool false))] [⟨g1_0, none, none, (), 6, (p).sc, (p).sc, 25⟩, ⟨g1_1, none, none, (), 6, (q).sc, (q).sc, 25⟩, ⟨g39_2, none, none, (), 2, lsc (ent (i)), lsc (ent (i)), 48⟩] rfl (by rfl) HH41 rfl rfl hLo rfl HS41 (slS 0 rfl rfl (slS 1 rfl rfl (slS 2 rfl rfl (slS 3 rfl rfl (slS 4 rfl rfl (slS 5 rfl rfl (slS 6 rfl rfl (slS 7 rfl rfl (slS 8 rfl rfl (slS 9 rfl rfl (slS 10 rfl rfl (slS 11 rfl rfl (slS 12 rfl rfl (slS 13 rfl rfl (slS 14 rfl rfl (slL 16 (d := 16) rfl (trivial))))))))))))))))) ?_ ?_
          · show ∀ i ∈ [0, 1, 2, 3, 4, 5, 6, 7, 8, 9, 10, 11, 12, 13, 14, 15, 16], _
            refine zA (zB 0 _ rfl rfl hLo rfl rfl (fun _ _ _ _ => rfl) (fun b G w hb ho => zD (.inl rfl) (zG rfl (HS41.get 12 rfl)))) ?_
            refine zA (zB 1 _ rfl rfl hLo rfl rfl (fun _ _ _ _ => rfl) (fun b G w hb ho => zD (.inl rfl) (zG rfl (HS41.get 14 rfl)))) ?_
            refine zA (zB 2 _ rfl rfl hLo rfl rfl (fun _ _ _ _ => rfl) (fun b G w hb ho => zI rfl (zC hLo 0 rfl HS41.1 rfl (hb 0 (by rfl))) (zC hLo 1 rfl HS41.1 rfl (hb 1 (by rfl))) (rb_bneq Tryd.underlying4 (rfl) _ _ _))) ?_
            refine zA (zB 3 _ rfl rfl hLo rfl rfl (fun _ _ _ _ => rfl) (fun b G w hb ho => zD (.inl rfl) (zC hLo 2 rfl HS41.1 rfl (hb 2 (by rfl))))) ?_
            refine zA (zB 4 _ rfl rfl hLo rfl rfl (fun b G hb ho => zE rfl rfl rfl HS41.1 rfl (zC hLo 3 rfl HS41.1 rfl (hb 3 (by rfl))) rfl) (fun b G w hb ho => zD (.inl rfl) (zG rfl (HS41.get 11 rfl)))) ?_
            refine zA (zB 5 _ rfl rfl hLo rfl rfl (fun b G hb ho => zE rfl rfl rfl HS41.1 rfl (zC hLo 3 rfl HS41.1 rfl (hb 3 (by rfl))) rfl) (fun b G w hb ho => zD (.inl rfl) (zG rfl (HS41.get 13 rfl)))) ?_
            refine zA (zB 6 _ rfl rfl hLo rfl rfl (fun b G hb ho => zE rfl rfl rfl HS41.1 rfl (zC hLo 3 rfl HS41.1 rfl (hb 3 (by rfl))) rfl) (fun b G w hb ho => zI rfl (zC hLo 4 rfl HS41.1 rfl (hb 4 (by rfl))) (zC hLo 5 rfl HS41.1 rfl (hb 5 (by rfl))) (rb_neq hr15 _ _ _))) ?_
            refine zA (zB 7 _ rfl rfl hLo rfl rfl (fun _ _ _ _ => rfl) (fun b G w hb ho => zL rfl (zC hLo 3 rfl HS41.1 rfl (hb 3 (by rfl))) (zC hLo 6 rfl HS41.1 rfl (hb 6 (by rfl))))) ?_
            refine zA (zB 8 _ rfl rfl hLo rfl rfl (fun _ _ _ _ => rfl) (fun b G w hb ho => zD (.inl rfl) (zC hLo 7 rfl HS41.1 rfl (hb 7 (by rfl))))) ?_
            refine zA (zN 9 rfl rfl hLo rfl rfl (fun b G hb ho => zE rfl rfl rfl HS41.1 rfl (zC hLo 8 rfl HS41.1 rfl (hb 8 (by rfl))) rfl)) ?_
            refine zA (zN 10 rfl rfl hLo rfl rfl (fun b G hb ho => zE rfl rfl rfl HS41.1 rfl (zC hLo 8 rfl HS41.1 rfl (hb 8 (by rfl))) rfl)) ?_
            refine zA (zN 11 rfl rfl hLo rfl rfl (fun b G hb ho => zE rfl rfl rfl HS41.1 rfl (zC hLo 8 rfl HS41.1 rfl (hb 8 (by rfl))) rfl)) ?_
            refine zA (zN 12 rfl rfl hLo rfl rfl (fun b G hb ho => zE rfl rfl rfl HS41.1 rfl (zC hLo 8 rfl HS41.1 rfl (hb 8 (by rfl))) rfl)) ?_
            refine zA (zN 13 rfl rfl hLo rfl rfl (fun b G hb ho => zE rfl rfl rfl HS41.1 rfl (zC hLo 8 rfl HS41.1 rfl (hb 8 (by rfl))) rfl)) ?_
            refine zA (zN 14 rfl rfl hLo rfl rfl (fun b G hb ho => zE rfl rfl rfl HS41.1 rfl (zC hLo 8 rfl HS41.1 rfl (hb 8 (by rfl))) rfl)) ?_
            refine zA (zN 15 rfl rfl hLo rfl rfl (fun b G hb ho => zE rfl rfl rfl HS41.1 rfl (zC hLo 8 rfl HS41.1 rfl (hb 8 (by rfl))) rfl)) ?_
            refine zA (zB 16 _ rfl rfl hLo rfl rfl (fun _ _ _ _ => rfl) (fun b G w hb ho => zL rfl (zC hLo 8 rfl HS41.1 rfl (hb 8 (by rfl))) (rfl))) ?_
            exact zF
          clear hLo
          intro G a53 w53 hS hH
          have HS53 : Sl a53 120 [(0, .agg (FR () 6 ((p).sc))), (1, .agg (FR () 6 ((q).sc))), (2, .string (user)), (3, .int .i64 (mine)), (4, .pointer (some ⟨g1_0, 0, none⟩)), (5, .pointer (some ⟨g1_1, 0, none⟩)), (25, .slice (some ba) (7) (cn)), (26, .int .i64 (7)), (27, .int .i64 ((i : Int))), (28, .bool true), (10, .pointer (some ⟨g39_2, 0, none⟩)), (11, .int .i64 (((p).tell (NM (i))).1)), (12, .bool true), (13, .int .i64 (((q).tell (NM (i))).1)), (14, .bool true), (61, .bool false)] := hS
          have HH53 : Held w w53 [⟨g1_0, (), 6, (p).sc, 25⟩, ⟨g1_1, (), 6, (q).sc, 25⟩, ⟨g39_2, (), 2, lsc (ent (i)), 48⟩] := hH
          clear hS hH HS41 HH41
          refine then_ ?_
          refine wp_cond_false (HS53.get 15 rfl) ?_
          refine wp_skip ?_
          refine zQ ?_
          refine then_ ?_
          have hLo : LOk [(0, 62, .val (.int .i64 (((i + 1 : Nat) : Int)))), (1, 27, .val (.int .i64 (((i + 1 : Nat) : Int))))] := lok (by rfl) (by rfl)
          refine zH (wE := w) (sz := 120) (n := 2) [0, 1] [(0, .val (.agg (FR () 6 ((p).sc)))), (1, .val (.agg (FR () 6 ((q).sc)))), (2, .val (.string (user))), (3, .val (.int .i64 (mine))), (4, .val (.pointer (some ⟨g1_0, 0, none⟩))), (5, .val (.pointer (some ⟨g1_1, 0, none⟩))), (25, .val (.slice (some ba) (7) (cn))), (26, .val (.int .i64 (7))), (28, .val (.bool true)), (10, .val (.pointer (some ⟨g39_2, 0, none⟩))), (11, .val (.int .i64 (((p).tell (NM (i))).1))), (12, .val (.bool true)), (13, .val (.int .i64 (((q).tell (NM (i))).1))), (14, .val (.bool true)), (61, .val (.bool false)), (27, .val (.int .i64 (((i + 1 : Nat) : Int))))] [(0, 62, .val (.int .i64 (((i + 1 : Nat) : Int)))), (1, 27, .val (.int .i64 (((i + 1 : Nat) : Int))))] [⟨g1_0, none, none, (), 6, (p).sc, (p).sc, 25⟩, ⟨g1_1, none, none, (), 6, (q).sc, (q).sc, 25⟩, ⟨g39_2, none, none, (), 2, lsc (ent (i)), lsc (ent (i)), 48⟩] rfl (by rfl) HH53 rfl rfl hLo rfl HS53 (slS 0 rfl rfl (slS 1 rfl rfl (slS 2 rfl rfl (slS 3 rfl rfl (slS 4 rfl rfl (slS 5 rfl rfl (slS 6 rfl rfl (slS 7 rfl rfl (slS 9 rfl rfl (slS 10 rfl rfl (slS 11 rfl rfl (slS 12 rfl rfl (slS 13 rfl rfl (slS 14 rfl rfl (slS 15 rfl rfl (slL 1 (d := 1) rfl (trivial))))))))))))))))) ?_ ?_
          · show ∀ i ∈ [0, 1], _
            refine zA (zB 0 _ rfl rfl hLo rfl rfl (fun _ _ _ _ => rfl) (fun b G w hb ho => zI rfl (ev_pre hLo 1 rfl (ho 1 (by rfl)) (HS53.get 8 rfl)) (rfl) (rb_add (w_nat (by omega) (by omega)) _ _ _))) ?_
            refine zA (zB 1 _ rfl rfl hLo rfl rfl (fun _ _ _ _ => rfl) (fun b G w hb ho => zD (.inl rfl) (zC hLo 0 rfl HS53.1 rfl (hb 0 (by rfl))))) ?_
            exact zF
          clear hLo
          intro G a54 w54 hS hH
          have HS54 : Sl a54 120 [(0, .agg (FR () 6 ((p).sc))), (1, .agg (FR () 6 ((q).sc))), (2, .string (user)), (3, .int .i64 (mine)), (4, .pointer (some ⟨g1_0, 0, none⟩)), (5, .pointer (some ⟨g1_1, 0, none⟩)), (25, .slice (some ba) (7) (cn)), (26, .int .i64 (7)), (28, .bool true), (10, .pointer (some ⟨g39_2, 0, none⟩)), (11, .int .i64 (((p).tell (NM (i))).1)), (12, .bool true), (13, .int .i64 (((q).tell (NM (i))).1)), (14, .bool true), (61, .bool false), (27, .int .i64 (((i + 1 : Nat) : Int)))] := hS
          have HH54 : Held w w54 [⟨g1_0, (), 6, (p).sc, 25⟩, ⟨g1_1, (), 6, (q).sc, 25⟩, ⟨g39_2, (), 2, lsc (ent (i)), 48⟩] := hH
          clear hS hH HS53 HH53
          refine then_ ?_
          have hSq0' : Sl _ 120 [(0, .agg (FR () 6 ((p).sc))), (1, .agg (FR () 6 ((q).sc))), (2, .string (user)), (3, .int .i64 (mine)), (4, .pointer (some ⟨g1_0, 0, none⟩)), (5, .pointer (some ⟨g1_1, 0, none⟩)), (25, .slice (some ba) (7) (cn)), (26, .int .i64 (7)), (27, .int .i64 (((i + 1 : Nat) : Int)))] := yA HS54 [0, 1, 2, 3, 4, 5, 6, 7, 15] (by rfl)
          have hHq0' : Held w _ [⟨g1_0, (), 6, (p).sc, 25⟩, ⟨g1_1, (), 6, (q).sc, 25⟩] := yD HH54 2 rfl
          exact ⟨⟨i + 1, by omega, allB_step hpi (name_ok1 (differs_of hr9 hr10 (by rw [hr15]; rfl))), hSq0', hHq0'⟩, by rw [(hSq0'.get 8 rfl)]; show 7 - (((i + 1 : Nat) : Int)).toNat < 7 - i; omega⟩
        · skip
          obtain ⟨r16, hr16⟩ : ∃ r : Bool, (mayB p q (NM (i)) mine) = r := ⟨_, rfl⟩
          refine wp_seq ?_
          have hLo : LOk [(0, 45, .val (.bool true)), (1, 46, .val (.bool true)), (2, 47, .val (.bool false)), (3, 48, .val (.bool false)), (4, 49, .val (.int .i64 (((p).tell (NM (i))).1))), (5, 50, .val (.int .i64 (((q).tell (NM (i))).1))), (6, 51, .val (.bool true)), (7, 52, .val (.bool true)), (8, 53, .val (.bool true)), (9, 54, .val (.agg (FR () 6 ((p).sc)))), (10, 55, .val (.agg (FR () 6 ((q).sc)))), (11, 56, .val (.pointer (some ⟨g39_2, 0, none⟩))), (12, 57, .val (.string (NM (i)))), (13, 58, .val (.int .i64 (mine))), (14, 59, .val (.bool r16)), (15, 60, .val (.bool (!r16))), (16, 61, .val (.bool (!r16)))] := lok (by rfl) (by rfl)
          refine zH (wE := w) (sz := 120) (n := 17) [0, 1, 3, 7, 15, 31, 63, 127, 255, 511, 1023, 2047, 4095, 8191, 16383, 32767, 65535] [(0, .val (.agg (FR () 6 ((p).sc)))), (1, .val (.agg (FR () 6 ((q).sc)))), (2, .val (.string (user))), (3, .val (.int .i64 (mine))), (4, .val (.pointer (some ⟨g1_0, 0, none⟩))), (5, .val (.pointer (some ⟨g1_1, 0, none⟩))), (25, .val (.slice (some ba) (7) (cn))), (26, .val (.int .i64 (7))), (27, .val (.int .i64 ((i : Int)))), (28, .val (.bool true)), (10, .val (.pointer (some ⟨g39_2, 0, none⟩))), (11, .val (.int .i64 (((p).tell (NM (i))).1))), (12, .val (.bool true)), (13, .val (.int .i64 (((q).tell (NM (i))).1))), (14, .val (.bool true)), (61, .val (.bool (!r16)))] [(0, 45, .val (.bool true)), (1, 46, .val (.bool true)), (2, 47, .val (.bool false)), (3, 48, .val (.bool false)), (4, 49, .val (.int .i64 (((p).tell (NM (i))).1))), (5, 50, .val (.int .i64 (((q).tell (NM (i))).1))), (6, 51, .val (.bool true)), (7, 52, .val (.bool true)), (8, 53, .val (.bool true)), (9, 54, .val (.agg (FR () 6 ((p).sc)))), (10, 55, .val (.agg (FR () 6 ((q).sc)))), (11, 56, .val (.pointer (some ⟨g39_2, 0, none⟩))), (12, 57, .val (.string (NM (i)))), (13, 58, .val (.int .i64 (mine))), (14, 59, .val (.bool r16)), (15, 60, .val (.bool (!r16))), (16, 61, .val (.bool (!r16)))] [⟨g1_0, none, none, (), 6, (p).sc, (p).sc, 25⟩, ⟨g1_1, none, none, (), 6, (q).sc, (q).sc, 25⟩, ⟨g39_2, none, none, (), 2, lsc (ent (i)), lsc (ent (i)), 48⟩] rfl (by rfl) HH41 rfl rfl hLo rfl HS41 (slS 0 rfl rfl (slS 1 rfl rfl (slS 2 rfl rfl (slS 3 rfl rfl (slS 4 rfl rfl (slS 5 rfl rfl (slS 6 rfl rfl (slS 7 rfl rfl (slS 8 rfl rfl (slS 9 rfl rfl (slS 10 rfl rfl (slS 11 rfl rfl (slS 12 rfl rfl (slS 13 rfl rfl (slS 14 rfl rfl (slL 16 (d := 16) rfl (trivial))))))))))))))))) ?_ ?_
          · show ∀ i ∈ [0, 1, 2, 3, 4, 5, 6, 7, 8, 9, 10, 11, 12, 13, 14, 15, 16], _
            refine zA (zB 0 _ rfl rfl hLo rfl rfl (fun _ _ _ _ => rfl) (fun b G w hb ho => zD (.inl rfl) (zG rfl (HS41.get 12 rfl)))) ?_
            refine zA (zB 1 _ rfl rfl hLo rfl rfl (fun _ _ _ _ => rfl) (fun b G w hb ho => zD (.inl rfl) (zG rfl (HS41.get 14 rfl)))) ?_
            refine zA (zB 2 _ rfl rfl hLo rfl rfl (fun _ _ _ _ => rfl) (fun b G w hb ho => zI rfl (zC hLo 0 rfl HS41.1 rfl (hb 0 (by rfl))) (zC hLo 1 rfl HS41.1 rfl (hb 1 (by rfl))) (rb_bneq Tryd.underlying4 (rfl) _ _ _))) ?_
            refine zA (zB 3 _ rfl rfl hLo rfl rfl (fun _ _ _ _ => rfl) (fun b G w hb ho => zD (.inl rfl) (zC hLo 2 rfl HS41.1 rfl (hb 2 (by rfl))))) ?_
            refine zA (zB 4 _ rfl rfl hLo rfl rfl (fun b G hb ho => zE rfl rfl rfl HS41.1 rfl (zC hLo 3 rfl HS41.1 rfl (hb 3 (by rfl))) rfl) (fun b G w hb ho => zD (.inl rfl) (zG rfl (HS41.get 11 rfl)))) ?_
            refine zA (zB 5 _ rfl rfl hLo rfl rfl (fun b G hb ho => zE rfl rfl rfl HS41.1 rfl (zC hLo 3 rfl HS41.1 rfl (hb 3 (by rfl))) rfl) (fun b G w hb ho => zD (.inl rfl) (zG rfl (HS41.get 13 rfl)))) ?_
            refine zA (zB 6 _ rfl rfl hLo rfl rfl (fun b G hb ho => zE rfl rfl rfl HS41.1 rfl (zC hLo 3 rfl HS41.1 rfl (hb 3 (by rfl))) rfl) (fun b G w hb ho => zI rfl (zC hLo 4 rfl HS41.1 rfl (hb 4 (by rfl))) (zC hLo 5 rfl HS41.1 rfl (hb 5 (by rfl))) (rb_neq hr15 _ _ _))) ?_
            refine zA (zB 7 _ rfl rfl hLo rfl rfl (fun _ _ _ _ => rfl) (fun b G w hb ho => zL rfl (zC hLo 3 rfl HS41.1 rfl (hb 3 (by rfl))) (zC hLo 6 rfl HS41.1 rfl (hb 6 (by rfl))))) ?_
            refine zA (zB 8 _ rfl rfl hLo rfl rfl (fun _ _ _ _ => rfl) (fun b G w hb ho => zD (.inl rfl) (zC hLo 7 rfl HS41.1 rfl (hb 7 (by rfl))))) ?_
            refine zA (yG 9 0 _ rfl rfl rfl rfl (fun b G hb ho => zE rfl rfl rfl HS41.1 rfl (zC hLo 8 rfl HS41.1 rfl (hb 8 (by rfl))) rfl) hLo rfl rfl rfl (by rfl) Tryd.underlying25 (by kernel_rfl) rfl (fun b G hb ho => zG rfl (HS41.get 4 rfl))) ?_
            refine zA (yG 10 1 _ rfl rfl rfl rfl (fun b G hb ho => zE rfl rfl rfl HS41.1 rfl (zC hLo 8 rfl HS41.1 rfl (hb 8 (by rfl))) rfl) hLo rfl rfl rfl (by rfl) Tryd.underlying25 (by kernel_rfl) rfl (fun b G hb ho => zG rfl (HS41.get 5 rfl))) ?_
            refine zA (zB 11 _ rfl rfl hLo rfl rfl (fun b G hb ho => zE rfl rfl rfl HS41.1 rfl (zC hLo 8 rfl HS41.1 rfl (hb 8 (by rfl))) rfl) (fun b G w hb ho => zJ rfl (zG rfl (HS41.get 10 rfl)) (by kernel_rfl))) ?_
            refine zA (zW 12 2 _ _ rfl rfl rfl hLo rfl rfl (fun b G hb ho => zE rfl rfl rfl HS41.1 rfl (zC hLo 8 rfl HS41.1 rfl (hb 8 (by rfl))) rfl) (by rfl) (by rfl) (fun b G w hb ho hr => zP hr (Nat.le_of_ble_eq_true rfl) Tryd.underlying9 rfl rfl (zC hLo 11 rfl HS41.1 rfl (hb 11 (by rfl))))) ?_
            refine zA (zB 13 _ rfl rfl hLo rfl rfl (fun b G hb ho => zE rfl rfl rfl HS41.1 rfl (zC hLo 8 rfl HS41.1 rfl (hb 8 (by rfl))) rfl) (fun b G w hb ho => zD (.inl rfl) (zG rfl (HS41.get 3 rfl)))) ?_
            refine zA (yB 14 _ #[.agg (FR () 6 ((p).sc)), .agg (FR () 6 ((q).sc)), .string (NM (i)), .int .i64 (mine)] rfl rfl rfl (fun b G hb ho => zE rfl rfl rfl HS41.1 rfl (zC hLo 8 rfl HS41.1 rfl (hb 8 (by rfl))) rfl) hLo rfl rfl Tryd.func32 rfl rfl (fun b G hb ho => args4 (zC hLo 9 rfl HS41.1 rfl (hb 9 (by rfl))) (zC hLo 10 rfl HS41.1 rfl (hb 10 (by rfl))) (zC hLo 12 rfl HS41.1 rfl (hb 12 (by rfl))) (zC hLo 13 rfl HS41.1 rfl (hb 13 (by rfl)))) (fun w hw => (by have hq := may_calls (a := p) (b := q) (NM (i)) mine (hInp.below hw) (hInq.below hw) hRp hRq; rw [hr16] at hq; exact hq))) ?_
            refine zA (zB 15 _ rfl rfl hLo rfl rfl (fun b G hb ho => zE rfl rfl rfl HS41.1 rfl (zC hLo 8 rfl HS41.1 rfl (hb 8 (by rfl))) rfl) (fun b G w hb ho => exec_un rfl (zC hLo 14 rfl HS41.1 rfl (hb 14 (by rfl))) (ru_not _))) ?_
            refine zA (zB 16 _ rfl rfl hLo rfl rfl (fun _ _ _ _ => rfl) (fun b G w hb ho => zL rfl (zC hLo 8 rfl HS41.1 rfl (hb 8 (by rfl))) (zC hLo 15 rfl HS41.1 rfl (hb 15 (by rfl))))) ?_
            exact zF
          clear hLo
          intro G a55 w55 hS hH
          have HS55 : Sl a55 120 [(0, .agg (FR () 6 ((p).sc))), (1, .agg (FR () 6 ((q).sc))), (2, .string (user)), (3, .int .i64 (mine)), (4, .pointer (some ⟨g1_0, 0, none⟩)), (5, .pointer (some ⟨g1_1, 0, none⟩)), (25, .slice (some ba) (7) (cn)), (26, .int .i64 (7)), (27, .int .i64 ((i : Int))), (28, .bool true), (10, .pointer (some ⟨g39_2, 0, none⟩)), (11, .int .i64 (((p).tell (NM (i))).1)), (12, .bool true), (13, .int .i64 (((q).tell (NM (i))).1)), (14, .bool true), (61, .bool (!r16))] := hS
          have HH55 : Held w w55 [⟨g1_0, (), 6, (p).sc, 25⟩, ⟨g1_1, (), 6, (q).sc, 25⟩, ⟨g39_2, (), 2, lsc (ent (i)), 48⟩] := hH
          clear hS hH HS41 HH41
          refine then_ ?_
          cases r16
          · skip
            refine wp_cond_true (HS55.get 15 rfl) ?_
            refine wp_seq ?_
            have hLo : LOk [(0, 8, .val (.bool false))] := lok (by rfl) (by rfl)
            refine zH (wE := w) (sz := 120) (n := 1) [0] [(0, .val (.agg (FR () 6 ((p).sc)))), (1, .val (.agg (FR () 6 ((q).sc)))), (2, .val (.string (user))), (3, .val (.int .i64 (mine))), (4, .val (.pointer (some ⟨g1_0, 0, none⟩))), (5, .val (.pointer (some ⟨g1_1, 0, none⟩))), (25, .val (.slice (some ba) (7) (cn))), (26, .val (.int .i64 (7))), (27, .val (.int .i64 ((i : Int)))), (28, .val (.bool true)), (10, .val (.pointer (some ⟨g39_2, 0, none⟩))), (11, .val (.int .i64 (((p).tell (NM (i))).1))), (12, .val (.bool true)), (13, .val (.int .i64 (((q).tell (NM (i))).1))), (14, .val (.bool true)), (61, .val (.bool true)), (8, .val (.bool false))] [(0, 8, .val (.bool false))] [⟨g1_0, none, none, (), 6, (p).sc, (p).sc, 25⟩, ⟨g1_1, none, none, (), 6, (q).sc, (q).sc, 25⟩, ⟨g39_2, none, none, (), 2, lsc (ent (i)), lsc (ent (i)), 48⟩] rfl (by rfl) HH55 rfl rfl hLo rfl HS55 (slS 0 rfl rfl (slS 1 rfl rfl (slS 2 rfl rfl (slS 3 rfl rfl (slS 4 rfl rfl (slS 5 rfl rfl (slS 6 rfl rfl (slS 7 rfl rfl (slS 8 rfl rfl (slS 9 rfl rfl (slS 10 rfl rfl (slS 11 rfl rfl (slS 12 rfl rfl (slS 13 rfl rfl (slS 14 rfl rfl (slS 15 rfl rfl (slL 0 (d := 0) rfl (trivial)))))))))))))))))) ?_ ?_
            · show ∀ i ∈ [0], _
              refine zA (zB 0 _ rfl rfl hLo rfl rfl (fun _ _ _ _ => rfl) (fun b G w hb ho => zD (.inr rfl) (rfl))) ?_
              exact zF
            clear hLo
            intro G a56 w56 hS hH
            have HS56 : Sl a56 120 [(0, .agg (FR () 6 ((p).sc))), (1, .agg (FR () 6 ((q).sc))), (2, .string (user)), (3, .int .i64 (mine)), (4, .pointer (some ⟨g1_0, 0, none⟩)), (5, .pointer (some ⟨g1_1, 0, none⟩)), (25, .slice (some ba) (7) (cn)), (26, .int .i64 (7)), (27, .int .i64 ((i : Int))), (28, .bool true), (10, .pointer (some ⟨g39_2, 0, none⟩)), (11, .int .i64 (((p).tell (NM (i))).1)), (12, .bool true), (13, .int .i64 (((q).tell (NM (i))).1)), (14, .bool true), (61, .bool true), (8, .bool false)] := hS
            have HH56 : Held w w56 [⟨g1_0, (), 6, (p).sc, 25⟩, ⟨g1_1, (), 6, (q).sc, 25⟩, ⟨g39_2, (), 2, lsc (ent (i)), 48⟩] := hH
            clear hS hH HS55 HH55
            refine then_ ?_
            refine wp_ret ?_
            repeat (first | refine zR ?_ | refine zK ?_)
            exact b_tmp rfl HS56.2.1 (HS56.get 16 rfl) ⟨bool_ret (chg_no1 hlti (name_bad (differs_of hr9 hr10 (by rw [hr15]; rfl)) hr16)), HH56.1⟩
          · skip
            refine wp_cond_false (HS55.get 15 rfl) ?_
            refine wp_skip ?_
            refine zQ ?_
            refine then_ ?_
            have hLo : LOk [(0, 62, .val (.int .i64 (((i + 1 : Nat) : Int)))), (1, 27, .val (.int .i64 (((i + 1 : Nat) : Int))))] := lok (by rfl) (by rfl)
            refine zH (wE := w) (sz := 120) (n := 2) [0, 1] [(0, .val (.agg (FR () 6 ((p).sc)))), (1, .val (.agg (FR () 6 ((q).sc)))), (2, .val (.string (user))), (3, .val (.int .i64 (mine))), (4, .val (.pointer (some ⟨g1_0, 0, none⟩))), (5, .val (.pointer (some ⟨g1_1, 0, none⟩))), (25, .val (.slice (some ba) (7) (cn))), (26, .val (.int .i64 (7))), (28, .val (.bool true)), (10, .val (.pointer (some ⟨g39_2, 0, none⟩))), (11, .val (.int .i64 (((p).tell (NM (i))).1))), (12, .val (.bool true)), (13, .val (.int .i64 (((q).tell (NM (i))).1))), (14, .val (.bool true)), (61, .val (.bool false)), (27, .val (.int .i64 (((i + 1 : Nat) : Int))))] [(0, 62, .val (.int .i64 (((i + 1 : Nat) : Int)))), (1, 27, .val (.int .i64 (((i + 1 : Nat) : Int))))] [⟨g1_0, none, none, (), 6, (p).sc, (p).sc, 25⟩, ⟨g1_1, none, none, (), 6, (q).sc, (q).sc, 25⟩, ⟨g39_2, none, none, (), 2, lsc (ent (i)), lsc (ent (i)), 48⟩] rfl (by rfl) HH55 rfl rfl hLo rfl HS55 (slS 0 rfl rfl (slS 1 rfl rfl (slS 2 rfl rfl (slS 3 rfl rfl (slS 4 rfl rfl (slS 5 rfl rfl (slS 6 rfl rfl (slS 7 rfl rfl (slS 9 rfl rfl (slS 10 rfl rfl (slS 11 rfl rfl (slS 12 rfl rfl (slS 13 rfl rfl (slS 14 rfl rfl (slS 15 rfl rfl (slL 1 (d := 1) rfl (trivial))))))))))))))))) ?_ ?_
            · show ∀ i ∈ [0, 1], _
              refine zA (zB 0 _ rfl rfl hLo rfl rfl (fun _ _ _ _ => rfl) (fun b G w hb ho => zI rfl (ev_pre hLo 1 rfl (ho 1 (by rfl)) (HS55.get 8 rfl)) (rfl) (rb_add (w_nat (by omega) (by omega)) _ _ _))) ?_
              refine zA (zB 1 _ rfl rfl hLo rfl rfl (fun _ _ _ _ => rfl) (fun b G w hb ho => zD (.inl rfl) (zC hLo 0 rfl HS55.1 rfl (hb 0 (by rfl))))) ?_
              exact zF
            clear hLo
            intro G a57 w57 hS hH
            have HS57 : Sl a57 120 [(0, .agg (FR () 6 ((p).sc))), (1, .agg (FR () 6 ((q).sc))), (2, .string (user)), (3, .int .i64 (mine)), (4, .pointer (some ⟨g1_0, 0, none⟩)), (5, .pointer (some ⟨g1_1, 0, none⟩)), (25, .slice (some ba) (7) (cn)), (26, .int .i64 (7)), (28, .bool true), (10, .pointer (some ⟨g39_2, 0, none⟩)), (11, .int .i64 (((p).tell (NM (i))).1)), (12, .bool true), (13, .int .i64 (((q).tell (NM (i))).1)), (14, .bool true), (61, .bool false), (27, .int .i64 (((i + 1 : Nat) : Int)))] := hS
            have HH57 : Held w w57 [⟨g1_0, (), 6, (p).sc, 25⟩, ⟨g1_1, (), 6, (q).sc, 25⟩, ⟨g39_2, (), 2, lsc (ent (i)), 48⟩] := hH
            clear hS hH HS55 HH55
            refine then_ ?_
            have hSq0' : Sl _ 120 [(0, .agg (FR () 6 ((p).sc))), (1, .agg (FR () 6 ((q).sc))), (2, .string (user)), (3, .int .i64 (mine)), (4, .pointer (some ⟨g1_0, 0, none⟩)), (5, .pointer (some ⟨g1_1, 0, none⟩)), (25, .slice (some ba) (7) (cn)), (26, .int .i64 (7)), (27, .int .i64 (((i + 1 : Nat) : Int)))] := yA HS57 [0, 1, 2, 3, 4, 5, 6, 7, 15] (by rfl)
            have hHq0' : Held w _ [⟨g1_0, (), 6, (p).sc, 25⟩, ⟨g1_1, (), 6, (q).sc, 25⟩] := yD HH57 2 rfl
            exact ⟨⟨i + 1, by omega, allB_step hpi (name_ok2 hr16), hSq0', hHq0'⟩, by rw [(hSq0'.get 8 rfl)]; show 7 - (((i + 1 : Nat) : Int)).toNat < 7 - i; omega⟩
def LF (T : List (Nat × Tmp)) (V : Nat → Value) : List (Nat × Tmp × SV) := T.map fun e => (e.1, e.2, .val (V e.1))
def TOk (T : List (Nat × Tmp)) : Prop := nodB (T.map fun e => e.1) = true ∧ nodB (T.map fun e => e.2) = true
theorem TOk.lf {T : List (Nat × Tmp)} (h : TOk T) (V : Nat → Value) : LOk (LF T V) := by
  refine lok ?_ ?_
  · unfold LF; rw [List.map_map]; exact h.1
  · unfold LF; rw [List.map_map]; exact h.2
def setV (V : Nat → Value) (i : Nat) (v : Value) : Nat → Value := fun j => if j = i then v else V j
theorem LF_get {T : List (Nat × Tmp)} {V : Nat → Value} {k : Nat} {e : Nat × Tmp} (h : T[k]? = some e) : (LF T V)[k]? = some (e.1, e.2, .val (V e.1)) := by
  unfold LF; rw [List.getElem?_map, h]; rfl
abbrev act (a0 : Act) (T : List (Nat × Tmp)) (V : Nat → Value) (b : Nat → Bool) : Act := yC a0 b (vals (fun _ => 0) (LF T V))
def CI (a0 : Act) (T : List (Nat × Tmp)) (F : (Nat → Value) → (Nat → Bool) → World → Prop) (b : Nat → Bool) (a : Act) (w : World) : Prop := ∃ V, a = act a0 T V b ∧ F V b w
section
variable {P : Program} {ops : Array Oper} {Q : Exit → Act → World → Prop} {B O : List Nat} {a0 : Act} {i : Nat} {T : List (Nat × Tmp)} {F : (Nat → Value) → (Nat → Bool) → World → Prop}
theorem cf_on {V : Nat → Value} {b : Nat → Bool} {d : Nat} {t : Tmp} (hLo : TOk T) (k : Nat) (hT : T[k]? = some (d, t)) {sz : Nat} (hsz : a0.tmps.size = sz) (hs : Nat.ble (t + 1) sz = true) (hb : b d = true) : (act a0 T V b).eval (.tmp t) = V d :=
  zC (hLo.lf V) k (LF_get hT) hsz hs hb
theorem cf_off {V : Nat → Value} {b : Nat → Bool} {t : Tmp} {v : Value} (h : (T.all fun e => !(e.2 == t)) = true) (hv : a0.eval (.tmp t) = v) : (act a0 T V b).eval (.tmp t) = v :=
  zG (by unfold LF; rw [List.all_map]; exact h) hv
theorem cf_put {V : Nat → Value} {b : Nat → Bool} {N : Tmp} {k : Nat} (v : Value) (hLo : TOk T) (hT : T[k]? = some (i, N)) (hb : b i = false) : (act a0 T V b).put (some N) v = act a0 T (setV V i v) (up b i) := by
  have hL := LF_get (V := V) hT
  have hlt : k < T.length := (List.getElem?_eq_some_iff.1 hT).1
  refine putSel_upk k hb (vals_get hL) ?_ ((hLo.lf V).rest hL _)
  apply List.ext_getElem?
  intro j
  by_cases hj : j = k
  · subst hj
    rw [List.getElem?_set_self (by unfold vals LF; simpa using hlt), vals_get (LF_get hT)]
    simp [SV.at, setV]
  · rw [List.getElem?_set_ne (fun e => hj e.symm)]
    cases e : T[j]? with
    | none =>
      unfold vals LF
      simp [e]
    | some x =>
      rw [vals_get (LF_get e), vals_get (LF_get e)]
      have hne : x.1 ≠ i := fun he => by
        have h1 := nodB_is hLo.1
        rw [List.nodup_iff_pairwise_ne, List.pairwise_iff_getElem] at h1
        obtain ⟨hl, hle⟩ := List.getElem?_eq_some_iff.1 e
        obtain ⟨_, hke⟩ := List.getElem?_eq_some_iff.1 hT
        rcases Nat.lt_or_ge j k with hlt2 | hge
        · have := h1 j k (by simpa using hl) (by simpa using hlt) hlt2
          simp only [List.getElem_map, hle, hke] at this
          exact this he
        · have := h1 k j (by simpa using hlt) (by simpa using hl) (by omega)
          simp only [List.getElem_map, hle, hke] at this
          exact this he.symm
      simp [SV.at, setV, hne]
theorem ci_go {N : Tmp} {oi : Oper} (k : Nat) (hLo : TOk T) (hoi : ops[i]? = some oi) (hN : oi.dst = some N) (hT : T[k]? = some (i, N))
    (hgo : ∀ V b w (K : Act → World → Prop), F V b w → b i = false → Ons B O i b → Offs B O i b → (∀ v w', F (setV V i v) (up b i) w' → K ((act a0 T V b).put (some N) v) w') →
      if Region.wanted oi (yielded ops (act a0 T V b).tmps) = true then Oper.wp P oi (act a0 T V b) w K Q else K ((act a0 T V b).put (some N) undef) w) : StepAt P ops Q B O (CI a0 T F) i := by
  rintro b a w ⟨V, rfl, hF⟩ hb hon hoff
  refine ⟨oi, hoi, fun K hK => ?_⟩
  rw [hN]
  exact hgo V b w K hF hb hon hoff (fun v w' hF' => by
    rw [cf_put v hLo hT hb]
    exact hK _ _ ⟨_, rfl, hF'⟩)
theorem ci_run {N : Tmp} {oi : Oper} (k : Nat) (hLo : TOk T) (hoi : ops[i]? = some oi) (hN : oi.dst = some N) (hT : T[k]? = some (i, N)) (hg : ∀ V b, Region.wanted oi (yielded ops (act a0 T V b).tmps) = true)
    (h : ∀ V b w, F V b w → b i = false → Ons B O i b → Offs B O i b → ∃ v w', (execOp (act a0 T V b).eval oi).run P w = .ok (.value v) w' ∧ F (setV V i v) (up b i) w') : StepAt P ops Q B O (CI a0 T F) i :=
  ci_go k hLo hoi hN hT (fun V b w K hF hbi hon hoff hK => by
    obtain ⟨v, w', hr, hF'⟩ := h V b w hF hbi hon hoff
    rw [← hN] at hK ⊢
    exact event_step (hg V b) hr (hK v w' hF'))
theorem ci_call {N : Tmp} {oi : Oper} {f : FuncId} {fn : Func} {asx : Array Operand} {ts : Array TypeId} (k : Nat) (hLo : TOk T) (hoi : ops[i]? = some oi) (hN : oi.dst = some N) (hT : T[k]? = some (i, N)) (hop : oi.op = .call { callee := .value (.func f), args := asx, argTypes := ts }) (hg : ∀ V b, Region.wanted oi (yielded ops (act a0 T V b).tmps) = true)
    (hf : P.funcs[f]? = some fn) (hname : (fn.name == "runtime.NumGoroutine") = false) (hbd : fn.body.isSome = true)
    (h : ∀ V b w, F V b w → b i = false → Ons B O i b → Offs B O i b → ∃ args, asx.map (act a0 T V b).eval = args ∧ Calls P f args w fun e w' => ∃ v, e = .returned v ∧ F (setV V i v) (up b i) w') : StepAt P ops Q B O (CI a0 T F) i :=
  ci_go k hLo hoi hN hT (fun V b w K hF hbi hon hoff hK => by
    obtain ⟨args, ha, hc⟩ := h V b w hF hbi hon hoff
    exact goes_ hf hname hbd args (hg V b) hN hop ha (hc.mono (by
      rintro e w' ⟨v, rfl, hF'⟩
      exact ⟨v, rfl, hK v w' hF'⟩)))
theorem regionF_ {T0 : Bool × List (List Nat × List Nat)} {w : World} {id n sz : Nat} {S : List (Tmp × Value)} (O : List Nat) (T : List (Nat × Tmp)) (F : (Nat → Value) → (Nat → Bool) → World → Prop) (hm : P.follows .mixedOrders = true) (hn : ops.size = n) (hT : rtab .any ops = T0) (hw : waitsOk T0.2 B = true) (hk : baseOk T0.2 O = true)
    (hl : (lof T0.2.length O (fun _ => false) == List.replicate n false && O.length == n) = true) (hTO : (T.all fun e => O.contains e.1 && Nat.ble (e.2 + 1) sz) = true) (hLo : TOk T) (hS : Sl a0 sz S) (h0 : ∀ V, F V (fun _ => false) w.drew) (hs : ∀ i ∈ O, StepAt P ops Q B O (CI a0 T F) i)
    (hend : ∀ V b a' w', (∀ j, O.contains j = true → b j = true) → F V b w' → Sl a' sz ((T.map fun e => (e.2, V e.1)) ++ S.filter fun e => T.all fun d => !(d.2 == e.1)) → Q .normal a' w') : (Code.region id ops true).wp P Q a0 w := by
  refine start_ (n := n) (S := fun _ => True) (ds := []) (Array.replicate n false) hm hn rfl trivial (fun _ => ?_)
  refine inv_ O (CI a0 T F) hT hw hk (by simpa using hl) ⟨fun _ => undef, ?_, h0 _⟩ hs (fun b a' w' hall hI => ?_)
  · exact (putSel_nil fun _ => rfl).symm
  · obtain ⟨V, rfl, hF⟩ := hI
    refine hend V b _ w' hall hF ⟨(putSel_size b _ _).1.trans hS.1, (putSel_size b _ _).2.trans hS.2.1, fun e he => ?_⟩
    rcases List.mem_append.1 he with he | he
    · obtain ⟨d, hd, rfl⟩ := List.mem_map.1 he
      obtain ⟨k, hk2⟩ := List.getElem?_of_mem hd
      have h1 := List.all_eq_true.1 hTO d hd
      rw [Bool.and_eq_true] at h1
      exact cf_on hLo k hk2 hS.1 h1.2 (hall d.1 h1.1)
    · obtain ⟨h1, h2⟩ := List.mem_filter.1 he
      exact cf_off h2 (hS.2.2 e h1)
end
structure CatF (we : World) (x y : T) (g h : Nat) (V : Nat → Value) (b : Nat → Bool) (w : World) : Prop where
  bel : Below we.heap.size we w
  o63 : b 6 = true → b 3 = true
  o30 : b 3 = true → b 0 = true
  f1 : b 1 = true → V 1 = .pointer (some ((⟨g, 0, none⟩ : Addr).add 5))
  f2 : b 2 = true → V 2 = .slice x.xm x.ml x.cm
  f4 : b 4 = true → V 4 = .pointer (some ((⟨h, 0, none⟩ : Addr).add 5))
  f5 : b 5 = true → V 5 = .slice y.xm y.ml y.cm
  f7 : b 7 = true → V 7 = .int .i64 ((x.ml + y.ml : Nat) : Int)
  f8 : b 8 = true → V 8 = .int .i64 0
  c0 : b 3 = false → b 0 = true → OwnR we.heap.size w 44 7 [] (V 0) 0 []
  c3 : b 6 = false → b 3 = true → OwnR we.heap.size w 44 7 [] (V 3) x.ml (mcells x.key x.mem x.ml)
  c6 : b 6 = true → OwnR we.heap.size w 44 7 [] (V 6) (x.ml + y.ml) (mcells (catK x y) (catM x y) (x.ml + y.ml))
theorem wanted_none {ops : Array Oper} {o : Oper} {l : Array Value} (h : o.guard = none) : Region.wanted o (yielded ops l) = true := by simp [Region.wanted, h]
theorem iterW_le {f : Nat → Int → Int} {n : Nat} (hf : ∀ i x, i < n → 0 ≤ x → x ≤ 4096 → 0 ≤ f i x → f i x + 1 ≤ x) : ∀ (k : Nat) (l : Int), k ≤ n → l ≤ 4096 → 0 ≤ iterW f n k l → iterW f n k l + k ≤ l
  | 0, l, _, _, h => by unfold iterW; omega
  | k + 1, l, hk, hl, h => by
    by_cases h0 : 0 ≤ l
    · have e : iterW f n (k + 1) l = iterW f n k (f (n - (k + 1)) l) := by
        show (if 0 ≤ l then iterW f n k (f (n - (k + 1)) l) else l) = _
        rw [if_pos h0]
      rw [e] at h ⊢
      by_cases h1 : 0 ≤ f (n - (k + 1)) l
      · have h2 := hf (n - (k + 1)) l (by omega) h0 hl h1
        have h3 := iterW_le hf k _ (by omega) (by omega) h
        omega
      · rw [iterW_stop h1] at h; omega
    · rw [iterW_stop h0] at h; omega
theorem iterW_all {f : Nat → Int → Int} {n : Nat} (hf : ∀ i x, i < n → 0 ≤ x → x ≤ 4096 → 0 ≤ f i x → f i x + 1 ≤ x) : ∀ (k : Nat) (l : Int), k ≤ n → l ≤ 4096 → 0 ≤ iterW f n k l → ∀ i, n - k ≤ i → i < n → ∃ x, 0 ≤ x ∧ x ≤ 4096 ∧ 0 ≤ f i x
  | 0, l, _, _, h => fun i h1 h2 => by omega
  | k + 1, l, hk, hl, h => fun i h1 h2 => by
    by_cases h0 : 0 ≤ l
    · have e : iterW f n (k + 1) l = iterW f n k (f (n - (k + 1)) l) := by
        show (if 0 ≤ l then iterW f n k (f (n - (k + 1)) l) else l) = _
        rw [if_pos h0]
      rw [e] at h
      by_cases h3 : 0 ≤ f (n - (k + 1)) l
      · have h4 := hf (n - (k + 1)) l (by omega) h0 hl h3
        by_cases hi : i = n - (k + 1)
        · subst hi; exact ⟨l, h0, hl, h3⟩
        · exact iterW_all hf k _ (by omega) (by omega) h i (by omega) h2
      · rw [iterW_stop h3] at h; omega
    · rw [iterW_stop h0] at h; omega
theorem i64_id {z : Int} (h : -9223372036854775808 ≤ z ∧ z ≤ 9223372036854775807) : IntKind.i64.wrap z = z := (i64_w _).trans (w64 _ h)
theorem weigh_le : ∀ (t : T) (w : World), In w t → ∀ l d : Int, -1125899906842624 ≤ l → l ≤ 4096 → 0 ≤ weigh t l d → weigh t l d + 1 + t.ml ≤ l ∧ ∀ i, i < t.ml → ∃ x d, -1125899906842624 ≤ x ∧ x ≤ 4096 ∧ 0 ≤ weigh (t.mem i) x d :=
  T.rec2 (Q := fun t => ∀ w : World, In w t → ∀ l d : Int, -1125899906842624 ≤ l → l ≤ 4096 → 0 ≤ weigh t l d → weigh t l d + 1 + t.ml ≤ l ∧ ∀ i, i < t.ml → ∃ x d, -1125899906842624 ≤ x ∧ x ≤ 4096 ∧ 0 ≤ weigh (t.mem i) x d) fun t ihM ihL w hIn l d hl1 hl2 h => by
    rw [weigh_eq hIn] at h ⊢
    by_cases hd : d = 0
    · rw [if_pos hd] at h; omega
    · rw [if_neg hd] at h ⊢
      have hts := hIn.own.2.2.1
      unfold reach47 at hts
      rw [i64_id (z := l - 1) (by omega), i64_id (z := l - 1 - _) (by omega)] at h ⊢
      have hL : ∀ i x, i < t.ll → 0 ≤ x → x ≤ 4096 → 0 ≤ weigh (t.elm i) x (IntKind.i64.wrap (d - 1)) → weigh (t.elm i) x (IntKind.i64.wrap (d - 1)) + 1 ≤ x := fun i x hi h0 h1 h2 => by
        have := (ihL i hi w (hIn.elms hi).2 x _ (by omega) h1 h2).1
        omega
      have hM : ∀ i x, i < t.ml → 0 ≤ x → x ≤ 4096 → 0 ≤ weigh (t.mem i) (IntKind.i64.wrap (x - (t.key i).size)) (IntKind.i64.wrap (d - 1)) → weigh (t.mem i) (IntKind.i64.wrap (x - (t.key i).size)) (IntKind.i64.wrap (d - 1)) + 1 ≤ x := fun i x hi h0 h1 h2 => by
        have hk := (hIn.mems hi).2.1
        unfold reach47 at hk
        rw [i64_id (z := x - _) (by omega)] at h2 ⊢
        have := (ihM i hi w (hIn.mem hi) (x - (t.key i).size) _ (by omega) (by omega) h2).1
        omega
      obtain ⟨m, hm⟩ : ∃ m, m = iterW (fun i x => weigh (t.elm i) x (IntKind.i64.wrap (d - 1))) t.ll t.ll (l - 1 - (t.txt).size) := ⟨_, rfl⟩
      rw [← hm] at h ⊢
      have hm1 : 0 ≤ m → m ≤ l - 1 := fun h0 => by
        have := iterW_le (n := t.ll) (f := fun i x => weigh (t.elm i) x (IntKind.i64.wrap (d - 1))) (fun i x hi h0 h1 h2 => hL i x hi h0 h1 h2) t.ll (l - 1 - (t.txt).size) (Nat.le_refl _) (by omega) (by rw [← hm]; exact h0)
        rw [← hm] at this
        omega
      have hm0 : 0 ≤ m := by
        apply Decidable.byContradiction
        intro hn
        rw [iterW_stop hn] at h; exact hn h
      have hm2 := hm1 hm0
      have h3 := iterW_le (n := t.ml) (fun i x hi h0 h1 h2 => hM i x hi h0 h1 h2) t.ml m (Nat.le_refl _) (by omega) h
      refine ⟨by omega, fun i hi => ?_⟩
      obtain ⟨x, h4, h5, h6⟩ := iterW_all (n := t.ml) (fun i x hi h0 h1 h2 => hM i x hi h0 h1 h2) t.ml m (Nat.le_refl _) (by omega) h i (by omega) hi
      have hk := (hIn.mems hi).2.1
      unfold reach47 at hk
      refine ⟨_, _, ?_, ?_, h6⟩
      · rw [i64_id (by omega)]; omega
      · rw [i64_id (by omega)]; omega
theorem great_small {w : World} {t : T} (hIn : In w t) (h : greatB t = false) : ∀ i, i < t.ml → (t.mem i).ml ≤ 1073741824 := by
  unfold greatB at h
  rw [Bool.or_eq_false_iff] at h
  have h0 : 0 ≤ weigh t 4096 60 := by have := of_decide_eq_false h.1; omega
  intro i hi
  obtain ⟨x, d, h1, h2, h3⟩ := (weigh_le t w hIn 4096 60 (by decide) (by decide) h0).2 i hi
  have := (weigh_le (t.mem i) w (hIn.mem hi) x d h1 h2 h3).1
  omega
theorem tbl_small {t : T} (h : ∀ i, i < t.ml → (t.mem i).ml ≤ 1073741824) (k : ByteArray) : (t.tbl k).ml ≤ 1073741824 := by
  unfold T.tbl
  cases e : t.get k with
  | none => exact Nat.zero_le _
  | some x => obtain ⟨i, hi, rfl⟩ := T.get_mem e; exact h i hi
def Eqv : T → T → Prop
  | .no, _ => False
  | .mk k b n s _ ll _ L _ ml _ K M, u => (u.kind = k ∧ u.is = b ∧ u.num = n ∧ u.txt = s ∧ u.ll = ll ∧ u.ml = ml) ∧ (∀ i, i < ll → Eqv (L i) (u.elm i)) ∧ ∀ i, i < ml → u.key i = K i ∧ Eqv (M i) (u.mem i)
theorem Eqv.own {t u : T} (h : Eqv t u) : u.kind = t.kind ∧ u.is = t.is ∧ u.num = t.num ∧ u.txt = t.txt ∧ u.ll = t.ll ∧ u.ml = t.ml := by
  cases t with
  | no => exact h.elim
  | mk k is n s xl ll cl L xm ml cm K M => exact h.1
theorem Eqv.elm {t u : T} (h : Eqv t u) {i : Nat} (hi : i < t.ll) : Eqv (t.elm i) (u.elm i) := by
  cases t with
  | no => exact h.elim
  | mk k is n s xl ll cl L xm ml cm K M => exact h.2.1 i hi
theorem Eqv.mem {t u : T} (h : Eqv t u) {i : Nat} (hi : i < t.ml) : u.key i = t.key i ∧ Eqv (t.mem i) (u.mem i) := by
  cases t with
  | no => exact h.elim
  | mk k is n s xl ll cl L xm ml cm K M => exact h.2.2 i hi
theorem Eqv.rises : ∀ {t u : T}, Eqv t u → Rises t → Rises u := by
  intro t
  induction t with
  | no => exact fun h => h.elim
  | mk k is n s xl ll cl L xm ml cm K M ihL ihM =>
    intro u h hr
    cases u with
    | no => trivial
    | mk k2 is2 n2 s2 xl2 ll2 cl2 L2 xm2 ml2 cm2 K2 M2 =>
      obtain ⟨⟨_, _, _, _, e1, e2⟩, h2, h3⟩ := h
      have e1 : ll2 = ll := e1
      have e2 : ml2 = ml := e2
      subst e1; subst e2
      refine ⟨fun i hi => ?_, fun i hi => ihL i (h2 i hi) (hr.2.1 i hi), fun i hi => ihM i (h3 i hi).2 (hr.2.2 i hi)⟩
      have := hr.1 i hi
      have a1 : K2 i = K i := (h3 i (by omega)).1
      have a2 : K2 (i + 1) = K (i + 1) := (h3 (i + 1) hi).1
      show cmpB (bl (K2 i)) (bl (K2 (i + 1))) < 0
      rw [a1, a2]; exact this
def msk (p : Nat → Bool) (w : World) : World := { w with heap := w.heap.mapIdx fun k o => if p k then o else .cells #[] 0 }
theorem msk_cell {p : Nat → Bool} {w : World} {x : Addr} {v : Value} : (msk p w).cell? x = some v ↔ p x.block = true ∧ w.cell? x = some v := by
  unfold World.cell? msk
  simp only [Array.getElem?_mapIdx]
  cases e : w.heap[x.block]? with
  | none => simp
  | some o =>
    by_cases h : p x.block = true
    · simp [h]
    · have h : p x.block = false := by simpa using h
      simp [h]
def Sub (a b : World) : Prop := ∀ x v, a.cell? x = some v → b.cell? x = some v
theorem Sub.trans {a b c : World} (h : Sub a b) (h2 : Sub b c) : Sub a c := fun x v hv => h2 x v (h x v hv)
theorem msk_sub (p : Nat → Bool) (w : World) : Sub (msk p w) w := fun x v h => (msk_cell.1 h).2
theorem msk_below {p q : Nat → Bool} {w w' : World} (hb : Below w.heap.size w w') (hp : ∀ k, k < w.heap.size → p k = true → q k = true) : Sub (msk p w) (msk q w') := fun x v h => by
  obtain ⟨h1, h2⟩ := msk_cell.1 h
  exact msk_cell.2 ⟨hp _ (cell_lt h2) h1, bel_kept hb _ _ h2⟩
theorem msk_grown {p q : Nat → Bool} {w w' : World} {row : Option Nat} (hg : w.grownBy w' row) (hr : ∀ k, row = some k → p k = false) (hp : ∀ k, k < w.heap.size → p k = true → q k = true) : Sub (msk p w) (msk q w') := fun x v h => by
  obtain ⟨h1, h2⟩ := msk_cell.1 h
  refine msk_cell.2 ⟨hp _ (cell_lt h2) h1, hg.cell h2 fun e => ?_⟩
  rw [hr _ e.symm] at h1; cases h1
theorem msk_stored {p : Nat → Bool} {w w' : World} {g : Nat} (hs : Stored w w' g) (hr : p g = false) : Sub (msk p w) (msk p w') := fun x v h => by
  obtain ⟨h1, h2⟩ := msk_cell.1 h
  refine msk_cell.2 ⟨h1, ?_⟩
  rw [World.cell?_of_block (hs.other x.block fun e => by rw [e, hr] at h1; cases h1)]
  exact h2
def apart (B : Nat) (gs : List Nat) (own : Option Nat) (k : Nat) : Bool := decide (B ≤ k) && !gs.contains k && !(own == some k)
theorem apart_is {B : Nat} {gs : List Nat} {own : Option Nat} {k : Nat} : apart B gs own k = true ↔ B ≤ k ∧ k ∉ gs ∧ own ≠ some k := by
  unfold apart
  simp [and_assoc]
theorem apart_no {B : Nat} {gs : List Nat} {own : Option Nat} {k : Nat} (h : own = some k) : apart B gs own k = false := by
  cases e : apart B gs own k with
  | false => rfl
  | true => exact absurd h (apart_is.1 e).2.2
theorem apart_gs {B : Nat} {gs : List Nat} {own : Option Nat} {k : Nat} (h : k ∈ gs) : apart B gs own k = false := by
  cases e : apart B gs own k with
  | false => rfl
  | true => exact absurd h (apart_is.1 e).2.1
def Kin (m : World) (n : Nat) (E L : Nat → T) : Prop := ∀ j, j < n → In m (L j) ∧ Eqv (E j) (L j)
theorem Kin.sub {m m' : World} {n : Nat} {E L : Nat → T} (h : Kin m n E L) (hs : Sub m m') : Kin m' n E L := fun j hj => ⟨(h j hj).1.mono hs, (h j hj).2⟩
theorem Kin.none {m : World} {E L : Nat → T} : Kin m 0 E L := fun j h => absurd h (Nat.not_lt_zero _)
def snoc {α : Type} (L : Nat → α) (i : Nat) (u : α) : Nat → α := fun j => if j = i then u else L j
theorem Kin.snoc {m : World} {n : Nat} {E L : Nat → T} {u : T} (h : Kin m n E L) (hu : In m u) (he : Eqv (E n) u) : Kin m (n + 1) E (snoc L n u) := fun j hj => by
  unfold P.snoc
  by_cases e : j = n
  · subst e; rw [if_pos rfl]; exact ⟨hu, he⟩
  · rw [if_neg e]; exact h j (by omega)
def ElsAt (m : World) (oa : Option Addr) (n : Nat) (L : Nat → T) : Prop := ∀ i, i < n → ∃ x, oa = some x ∧ At6 m x (i * 6) (L i)
theorem ElsAt.sub {m m' : World} {oa : Option Addr} {n : Nat} {L : Nat → T} (h : ElsAt m oa n L) (hs : Sub m m') : ElsAt m' oa n L := fun i hi => by
  obtain ⟨x, hx, hc⟩ := h i hi
  exact ⟨x, hx, hc.mono hs⟩
theorem MemsAt.sub {m m' : World} {oa : Option Addr} {n : Nat} {K : Nat → ByteArray} {M : Nat → T} (h : MemsAt m oa n K M) (hs : Sub m m') : MemsAt m' oa n K M := fun i hi => by
  obtain ⟨x, hx, hc, ha⟩ := h i hi
  exact ⟨x, hx, hs _ _ hc, ha.mono hs⟩
def vcells (L : Nat → T) (n : Nat) : List Value := (List.range (n * 6)).map fun j => mkc () ((L (j / 6)).sc (j % 6))
theorem vcells_len {L : Nat → T} {n : Nat} : (vcells L n).length = n * 6 := by unfold vcells; simp
theorem vcells_one {L : Nat → T} {n : Nat} : ∀ u ∈ vcells L n, u.oneCell' = true := by
  intro u hu
  obtain ⟨j, _, rfl⟩ := List.mem_map.1 hu
  exact mkc_one _ _
theorem vcells_at {L : Nat → T} {n j : Nat} (h : j < n * 6) : (vcells L n)[j]? = some (mkc () ((L (j / 6)).sc (j % 6))) := by
  unfold vcells; rw [List.getElem?_map, List.getElem?_range h]; rfl
theorem vcells_out {L : Nat → T} {n j : Nat} (h : ¬ j < n * 6) : (vcells L n)[j]? = none := List.getElem?_eq_none (by rw [vcells_len]; omega)
theorem vcells_snoc {L : Nat → T} {n : Nat} {u : T} : vcells L n ++ vcells (fun _ => u) 1 = vcells (snoc L n u) (n + 1) := by
  apply List.ext_getElem?
  intro j
  unfold snoc
  by_cases h1 : j < n * 6
  · rw [List.getElem?_append_left (by rw [vcells_len]; exact h1), vcells_at h1, vcells_at (by omega)]
    simp only [if_neg (show ¬ j / 6 = n by omega)]
  · rw [List.getElem?_append_right (by rw [vcells_len]; omega), vcells_len]
    by_cases h2 : j < (n + 1) * 6
    · rw [vcells_at (by omega), vcells_at h2]
      simp only [if_pos (show j / 6 = n by omega)]
      rw [show (j - n * 6) % 6 = j % 6 by omega]
    · rw [vcells_out (by omega), vcells_out h2]
theorem mcells_snoc {K : Nat → ByteArray} {M : Nat → T} {n : Nat} {k : ByteArray} {u : T} : mcells K M n ++ mcells (fun _ => k) (fun _ => u) 1 = mcells (snoc K n k) (snoc M n u) (n + 1) := by
  rw [mcells_add]
  refine mcells_congr fun i hi => ?_
  unfold snoc
  by_cases e : i = n
  · subst e; simp
  · have : i < n := by omega
    simp [e, this]
theorem src_v1 {P : Program} {w : World} {ty e : TypeId} {g : Nat} {u : T} {t : TypeId} (hr : Row w g () 6 u.sc t) (ht : P.underlying ty = some (.slice e)) : Src P 6 ty (.slice (some ⟨g, 0, none⟩) 1 1) 1 (vcells (fun _ => u) 1) w :=
  src_of ht vcells_len vcells_one (fun x hx j v hv => by
    injection hx with hx; subst hx
    by_cases hj : j < 1 * 6
    · rw [vcells_at hj] at hv
      injection hv with hv; subst hv
      rw [Nat.mod_eq_of_lt (by omega)]
      exact row_at hr j (by omega)
    · rw [vcells_out hj] at hv; cases hv) (fun h => by cases h)
theorem src_m1 {P : Program} {w : World} {ty e : TypeId} {g : Nat} {k : ByteArray} {u : T} {t : TypeId} (hr : Row w g () 7 (msc k u) t) (ht : P.underlying ty = some (.slice e)) : Src P 7 ty (.slice (some ⟨g, 0, none⟩) 1 1) 1 (mcells (fun _ => k) (fun _ => u) 1) w :=
  src_of ht mcells_len mcells_one (fun x hx j v hv => by
    injection hx with hx; subst hx
    by_cases hj : j < 1 * 7
    · rw [mcells_at hj] at hv
      injection hv with hv; subst hv
      rw [Nat.mod_eq_of_lt (by omega)]
      exact row_at hr j (by omega)
    · rw [mcells_out hj] at hv; cases hv) (fun h => by cases h)
theorem OwnR.at {B : Nat} {w : World} {e : TypeId} {size n c : Nat} {gs : List Nat} {oa : Option Addr} {xs : List Value} (h : OwnR B w e size gs (.slice oa n c) n xs) {x : Addr} (hx : oa = some x) {j : Nat} {v : Value} (hv : xs[j]? = some v) : (msk (P.apart B gs Option.none) w).cell? (x.add j) = some v := by
  subst hx
  obtain ⟨oa', c', he, h0, hc⟩ := h.slice
  injection he with h1 h2 h3; subst h1
  refine msk_cell.2 ⟨apart_is.2 ⟨?_, ?_, by simp⟩, hc x rfl j v hv⟩
  · have := (h.own.lt x.block rfl).1
    rw [show (x.add j).block = x.block by unfold Addr.add; split <;> rfl]
    exact this
  · rw [show (x.add j).block = x.block by unfold Addr.add; split <;> rfl]
    intro hm
    exact h.apart _ hm rfl
theorem ElsAt.own {B : Nat} {w : World} {e : TypeId} {n c : Nat} {gs : List Nat} {oa : Option Addr} {L : Nat → T} (h : OwnR B w e 6 gs (.slice oa n c) n (vcells L n)) : ElsAt (msk (apart B gs none) w) oa n L := fun i hi => by
  cases oa with
  | none =>
    obtain ⟨oa', c', he, h0, hc⟩ := h.slice
    injection he with h1 h2 h3; subst h1
    have := h0 rfl; omega
  | some x =>
    refine ⟨x, rfl, fun j hj => h.at rfl ?_⟩
    rw [vcells_at (by omega), show (i * 6 + j) / 6 = i by omega, show (i * 6 + j) % 6 = j by omega]
theorem MemsAt.ownM {B : Nat} {w : World} {e : TypeId} {n c : Nat} {gs : List Nat} {oa : Option Addr} {K : Nat → ByteArray} {M : Nat → T} (h : OwnR B w e 7 gs (.slice oa n c) n (mcells K M n)) : MemsAt (msk (P.apart B gs Option.none) w) oa n K M := fun i hi => by
  cases oa with
  | none =>
    obtain ⟨oa', c', he, h0, hc⟩ := h.slice
    injection he with h1 h2 h3; subst h1
    have := h0 rfl; omega
  | some x =>
    refine ⟨x, rfl, h.at rfl ?_, fun j hj => h.at rfl ?_⟩
    · rw [mcells_at (by omega), show i * 7 / 7 = i by omega, show i * 7 % 7 = 0 by omega]; rfl
    · rw [mcells_at (by omega), show (i * 7 + 1 + j) / 7 = i by omega, show (i * 7 + 1 + j) % 7 = j + 1 by omega]; rfl
theorem OwnR.caps {B : Nat} {w : World} {e : TypeId} {size n c : Nat} {gs : List Nat} {oa : Option Addr} {xs : List Value} (h : OwnR B w e size gs (.slice oa n c) n xs) : n ≤ c ∧ c ≤ maxLen := by
  rcases h.own.2 with ⟨h1, h2⟩ | ⟨g, cap, cur, h1, _, _, h4, h5, _⟩
  · injection h1 with a b c; subst b; subst c; exact ⟨Nat.le_refl _, Nat.zero_le _⟩
  · injection h1 with a b c; subst c; exact ⟨h4, h5⟩
theorem In.made {m : World} {k : Int} {b : Bool} {n : Int} {s : ByteArray} {ol om : Option Addr} {ll cl ml cm : Nat} {L M : Nat → T} {K : Nat → ByteArray}
    (h1 : (Lit.int .i64 k).wf = true) (h2 : (Lit.int .i64 n).wf = true) (h3 : s.size ≤ reach47) (h4 : ll ≤ reach47) (h5 : ml ≤ reach47) (h6 : ll ≤ cl ∧ cl ≤ maxLen) (h7 : ml ≤ cm ∧ cm ≤ maxLen) (hL : ElsAt m ol ll L) (hIL : ∀ j, j < ll → In m (L j)) (hM : MemsAt m om ml K M) (hK : ∀ j, j < ml → (K j).size ≤ reach47) (hIM : ∀ j, j < ml → In m (M j)) :
    In m (.mk k b n s ol ll cl L om ml cm K M) :=
  ⟨⟨h1, h2, h3, h4, h5, h6.1, h7.1, h6.2, h7.2⟩, fun i hi => ⟨hL i hi, hIL i hi⟩, fun i hi => ⟨hM i hi, hK i hi, hIM i hi⟩⟩
end Go.Proofs.YtjpiofbedglagaaDoor.P
end
