/- Merged of the texts: Ka, Vd, Kb, Kc, Kd, Ke, WSized (trim.py). -/
import Derived.SizedLaws
import Derived.ChangeSlices
import Derived.Test.YtjpiofbedglagaaDoorYf3
section
namespace Go.Proofs.YtjpiofbedglagaaDoor.P
set_option linter.unusedVariables false
set_option linter.unusedSimpArgs false
open Go.RowKit Go.ChangeShapes Go.WideShapes Go.Proofs.YtjpiofbedglagaaDoorW.PrintWords Go.Proofs.YtjpiofbedglagaaDoorW.PrintLast Go.Proofs.YtjpiofbedglagaaDoorW.PrintMore
theorem name_bad {a b : T} {mine : Int} {i : Nat} (h : differs a b (NM i) = true) (h2 : mayB a b (NM i) mine = false) : nameOk a b mine i = false := by unfold nameOk; rw [h, h2]; rfl
theorem name_ok1 {a b : T} {mine : Int} {i : Nat} (h : differs a b (NM i) = false) : nameOk a b mine i = true := by unfold nameOk; rw [h]; rfl
theorem name_ok2 {a b : T} {mine : Int} {i : Nat} (h2 : mayB a b (NM i) mine = true) : nameOk a b mine i = true := by unfold nameOk; rw [h2, Bool.not_true, Bool.and_false]; rfl
theorem tt_below {W W' : World} {a : Addr} (h : ∀ i, i < 7 → W.cell? (a.add (i * 2)) = some (.string (NM i)) ∧ W.cell? (a.add (i * 2 + 1)) = some (.int .i64 (LV i))) (hb : Below W.heap.size W W') : ∀ i, i < 7 → W'.cell? (a.add (i * 2)) = some (.string (NM i)) ∧ W'.cell? (a.add (i * 2 + 1)) = some (.int .i64 (LV i)) :=
  fun i hi => ⟨bel_kept hb _ _ (h i hi).1, bel_kept hb _ _ (h i hi).2⟩
theorem bool_ret {b c : Bool} (h : c = b) : Ending.returned (.bool b) = .returned (.bool c) := by rw [h]
theorem TT.at {W : World} {a : Addr} (h : ∀ i, i < 7 → W.cell? (a.add (i * 2)) = some (.string (NM i)) ∧ W.cell? (a.add (i * 2 + 1)) = some (.int .i64 (LV i))) {i : Nat} (hi : i < 7) : ∀ j, j < 2 → W.cell? ((a.add (i * 2)).add j) = some (mkc () (lsc (ent i) j)) := Tab.at h hi
set_option maxHeartbeats 4000000 in
theorem change_calls {w : World} {p q : T} (user : ByteArray) (mine : Int) (hInp : In w p) (hInq : In w q) (hRp : Rises p) (hRq : Rises q) (hmp : ∀ k, (p.tbl k).ml ≤ 1073741824) (hmq : ∀ k, (q.tbl k).ml ≤ 1073741824) (hTab : Tab w) : Calls Tryd.prog 19 #[.agg (FR () 6 ((p).sc)), .agg (FR () 6 ((q).sc)), .string (user), .int .i64 (mine)] w fun e w' => e = .returned (.bool (chgB p q user mine)) ∧ Below w.heap.size w w' := by
  obtain ⟨ba, cn, hG, hT⟩ := hTab
  refine enter_ 120 Tryd.func19 rfl rfl (fun a0 hS => ?_)
  have HS0 : Sl a0 120 [(0, .agg (FR () 6 ((p).sc))), (1, .agg (FR () 6 ((q).sc))), (2, .string (user)), (3, .int .i64 (mine))] := hS
  have HH0 : Held w w [] := Held.first w
  clear hS
  refine wp_seq ?_
  have hLo : LOk [(0, 4, .new 0 (fun g => .pointer (some ⟨g, 0, none⟩))), (1, 5, .new 1 (fun g => .pointer (some ⟨g, 0, none⟩))), (2, 8, .val (.bool false))] := lok (by rfl) (by rfl)
  refine zH (wE := w) (sz := 120) (n := 3) [0, 1, 3] [(0, .val (.agg (FR () 6 ((p).sc)))), (1, .val (.agg (FR () 6 ((q).sc)))), (2, .val (.string (user))), (3, .val (.int .i64 (mine))), (4, .new 0 (fun g => .pointer (some ⟨g, 0, none⟩))), (5, .new 1 (fun g => .pointer (some ⟨g, 0, none⟩))), (8, .val (.bool false))] [(0, 4, .new 0 (fun g => .pointer (some ⟨g, 0, none⟩))), (1, 5, .new 1 (fun g => .pointer (some ⟨g, 0, none⟩))), (2, 8, .val (.bool false))] [⟨0, some 0, none, (), 6, (p).sc, (p).sc, 25⟩, ⟨0, some 1, none, (), 6, (q).sc, (q).sc, 25⟩] rfl (by rfl) HH0 rfl rfl hLo rfl HS0 (slS 0 rfl rfl (slS 1 rfl rfl (slS 2 rfl rfl (slS 3 rfl rfl (slL 0 (d := 0) rfl (slL 1 (d := 1) rfl (slL 2 (d := 2) rfl (trivial)))))))) ?_ ?_
  · show ∀ i ∈ [0, 1, 2], _
    refine zA (zX 0 0 () 6 25 none _ _ rfl rfl (fun _ _ _ _ => rfl) rfl hLo rfl rfl rfl rfl (by rfl) (fun b G w hb ho => exec_box rfl (zG rfl (HS0.get 0 rfl)) (by kernel_rfl))) ?_
    refine zA (zX 1 1 () 6 25 none _ _ rfl rfl (fun _ _ _ _ => rfl) rfl hLo rfl rfl rfl rfl (by rfl) (fun b G w hb ho => exec_box rfl (zG rfl (HS0.get 1 rfl)) (by kernel_rfl))) ?_
    refine zA (zD 2 _ rfl rfl hLo rfl rfl (fun _ _ _ _ => rfl) (fun b G w hb ho => zB (.inr rfl) (rfl))) ?_
    exact zF
  clear hLo
  intro G a1 w1 hS hH
  have HS1 : Sl a1 120 [(0, .agg (FR () 6 ((p).sc))), (1, .agg (FR () 6 ((q).sc))), (2, .string (user)), (3, .int .i64 (mine)), (4, .pointer (some ⟨(G 0), 0, none⟩)), (5, .pointer (some ⟨(G 1), 0, none⟩)), (8, .bool false)] := hS
  have HH1 : Held w w1 [⟨(G 0), (), 6, (p).sc, 25⟩, ⟨(G 1), (), 6, (q).sc, 25⟩] := hH
  clear hS hH HS0 HH0
  generalize G 0 = g1_0 at HS1 HH1
  generalize G 1 = g1_1 at HS1 HH1
  refine then_ ?_
  refine wp_seq ?_
  refine wp_seq ?_
  have hLo : LOk [(0, 25, .val (.slice (some ba) (7) (cn))), (1, 26, .val (.int .i64 (7))), (2, 27, .val (.int .i64 (0)))] := lok (by rfl) (by rfl)
  refine zH (wE := w) (sz := 120) (n := 3) [0, 1, 3] [(0, .val (.agg (FR () 6 ((p).sc)))), (1, .val (.agg (FR () 6 ((q).sc)))), (2, .val (.string (user))), (3, .val (.int .i64 (mine))), (4, .val (.pointer (some ⟨g1_0, 0, none⟩))), (5, .val (.pointer (some ⟨g1_1, 0, none⟩))), (8, .val (.bool false)), (25, .val (.slice (some ba) (7) (cn))), (26, .val (.int .i64 (7))), (27, .val (.int .i64 (0)))] [(0, 25, .val (.slice (some ba) (7) (cn))), (1, 26, .val (.int .i64 (7))), (2, 27, .val (.int .i64 (0)))] [⟨g1_0, none, none, (), 6, (p).sc, (p).sc, 25⟩, ⟨g1_1, none, none, (), 6, (q).sc, (q).sc, 25⟩] rfl (by rfl) HH1 rfl rfl hLo rfl HS1 (slS 0 rfl rfl (slS 1 rfl rfl (slS 2 rfl rfl (slS 3 rfl rfl (slS 4 rfl rfl (slS 5 rfl rfl (slS 6 rfl rfl (slL 0 (d := 0) rfl (slL 1 (d := 1) rfl (slL 2 (d := 2) rfl (trivial))))))))))) ?_ ?_
  · show ∀ i ∈ [0, 1, 2], _
    refine zA (st_at1 0 (⟨0, 0, none⟩) _ rfl rfl rfl (fun _ _ _ _ => rfl) hLo rfl rfl Tryd.underlying47 rfl (hG) (fun b G hb ho => rfl)) ?_
    refine zA (zD 1 _ rfl rfl hLo rfl rfl (fun _ _ _ _ => rfl) (fun b G w hb ho => exec_lenL Tryd.underlying47 rfl (zC hLo 0 rfl HS1.1 rfl (hb 0 (by rfl))))) ?_
    refine zA (zD 2 _ rfl rfl hLo rfl rfl (fun _ _ _ _ => rfl) (fun b G w hb ho => zB (.inl rfl) (rfl))) ?_
    exact zF
  clear hLo
  intro G a2 w2 hS hH
  have HS2 : Sl a2 120 [(0, .agg (FR () 6 ((p).sc))), (1, .agg (FR () 6 ((q).sc))), (2, .string (user)), (3, .int .i64 (mine)), (4, .pointer (some ⟨g1_0, 0, none⟩)), (5, .pointer (some ⟨g1_1, 0, none⟩)), (8, .bool false), (25, .slice (some ba) (7) (cn)), (26, .int .i64 (7)), (27, .int .i64 (0))] := hS
  have HH2 : Held w w2 [⟨g1_0, (), 6, (p).sc, 25⟩, ⟨g1_1, (), 6, (q).sc, 25⟩] := hH
  clear hS hH HS1 HH1
  refine then_ ?_
  refine wp_block ?_
  have hSq0 : Sl _ 120 [(0, .agg (FR () 6 ((p).sc))), (1, .agg (FR () 6 ((q).sc))), (2, .string (user)), (3, .int .i64 (mine)), (4, .pointer (some ⟨g1_0, 0, none⟩)), (5, .pointer (some ⟨g1_1, 0, none⟩)), (25, .slice (some ba) (7) (cn)), (26, .int .i64 (7)), (27, .int .i64 (0))] := sl_keep HS2 [0, 1, 2, 3, 4, 5, 7, 8, 9] (by rfl)
  refine wp_loop (fun a w' => ∃ i : Nat, i ≤ 7 ∧ allB (nameOk p q mine) i = true ∧ Sl a 120 [(0, .agg (FR () 6 ((p).sc))), (1, .agg (FR () 6 ((q).sc))), (2, .string (user)), (3, .int .i64 (mine)), (4, .pointer (some ⟨g1_0, 0, none⟩)), (5, .pointer (some ⟨g1_1, 0, none⟩)), (25, .slice (some ba) (7) (cn)), (26, .int .i64 (7)), (27, .int .i64 ((i : Int)))] ∧ Held w w' [⟨g1_0, (), 6, (p).sc, 25⟩, ⟨g1_1, (), 6, (q).sc, 25⟩]) (fun a w' => 7 - (intOf (a.eval (.tmp 27))).toNat) ⟨0, Nat.zero_le _, rfl, hSq0, HH2⟩ ?_
  clear hSq0 HS2 HH2
  rintro aq0 wq0 ⟨i, hlei, hpi, HSq0, HHq0⟩
  have hm' : (intOf (aq0.eval (.tmp 27))).toNat = i := by rw [(HSq0.get 8 rfl)]; rfl
  rw [hm']
  clear hm'
  obtain ⟨r1, hr1⟩ : ∃ r : Bool, (decide (((i : Int) : Int) < 7)) = r := ⟨_, rfl⟩
  refine wp_seq ?_
  have hLo : LOk [(0, 28, .val (.bool r1))] := lok (by rfl) (by rfl)
  refine zH (wE := w) (sz := 120) (n := 1) [0] [(0, .val (.agg (FR () 6 ((p).sc)))), (1, .val (.agg (FR () 6 ((q).sc)))), (2, .val (.string (user))), (3, .val (.int .i64 (mine))), (4, .val (.pointer (some ⟨g1_0, 0, none⟩))), (5, .val (.pointer (some ⟨g1_1, 0, none⟩))), (25, .val (.slice (some ba) (7) (cn))), (26, .val (.int .i64 (7))), (27, .val (.int .i64 ((i : Int)))), (28, .val (.bool r1))] [(0, 28, .val (.bool r1))] [⟨g1_0, none, none, (), 6, (p).sc, (p).sc, 25⟩, ⟨g1_1, none, none, (), 6, (q).sc, (q).sc, 25⟩] rfl (by rfl) HHq0 rfl rfl hLo rfl HSq0 (slS 0 rfl rfl (slS 1 rfl rfl (slS 2 rfl rfl (slS 3 rfl rfl (slS 4 rfl rfl (slS 5 rfl rfl (slS 6 rfl rfl (slS 7 rfl rfl (slS 8 rfl rfl (slL 0 (d := 0) rfl (trivial))))))))))) ?_ ?_
  · show ∀ i ∈ [0], _
    refine zA (zD 0 _ rfl rfl hLo rfl rfl (fun _ _ _ _ => rfl) (fun b G w hb ho => zI rfl (zG rfl (HSq0.get 8 rfl)) (zG rfl (HSq0.get 7 rfl)) (rb_lss hr1 _ _ _))) ?_
    exact zF
  clear hLo
  intro G a3 w3 hS hH
  have HS3 : Sl a3 120 [(0, .agg (FR () 6 ((p).sc))), (1, .agg (FR () 6 ((q).sc))), (2, .string (user)), (3, .int .i64 (mine)), (4, .pointer (some ⟨g1_0, 0, none⟩)), (5, .pointer (some ⟨g1_1, 0, none⟩)), (25, .slice (some ba) (7) (cn)), (26, .int .i64 (7)), (27, .int .i64 ((i : Int))), (28, .bool r1)] := hS
  have HH3 : Held w w3 [⟨g1_0, (), 6, (p).sc, 25⟩, ⟨g1_1, (), 6, (q).sc, 25⟩] := hH
  clear hS hH HSq0 HHq0
  refine then_ ?_
  refine wp_seq ?_
  cases r1
  · skip
    have hendi : i = 7 := by have := of_decide_eq_false hr1; omega
    have hqi := hpi
    rw [hendi] at hqi
    refine wp_cond_false (HS3.get 9 rfl) ?_
    refine wp_exit ?_
    refine then_exit ?_
    refine then_exit ?_
    refine inBlock_exit ?_
    refine then_ ?_
    refine wp_seq ?_
    refine wp_seq ?_
    refine whole_ ?_
    refine cut_call _ rfl rfl rfl rfl Tryd.func33 rfl rfl (args0 ) (tables_calls _) HS3 rfl ?_
    rintro e4 w4 ⟨⟨gt, rfl, hTN⟩, hbt⟩
    refine ⟨_, rfl, fun a4 hS => ?_⟩
    have HS5 : Sl a4 120 [(63, .slice (some ⟨gt, 0, none⟩) (3) (3)), (0, .agg (FR () 6 ((p).sc))), (1, .agg (FR () 6 ((q).sc))), (2, .string (user)), (3, .int .i64 (mine)), (4, .pointer (some ⟨g1_0, 0, none⟩)), (5, .pointer (some ⟨g1_1, 0, none⟩)), (25, .slice (some ba) (7) (cn)), (26, .int .i64 (7)), (27, .int .i64 ((i : Int))), (28, .bool false)] := hS
    have HH5 : Held w w4 [⟨g1_0, (), 6, (p).sc, 25⟩, ⟨g1_1, (), 6, (q).sc, 25⟩] := HH3.call hbt
    clear hS
    have hRow6_0 := HH5.row 0 rfl
    have hRow6_1 := HH5.row 1 rfl
    have hInp_6 := hInp.below HH5.1
    have hInq_6 := hInq.below HH5.1
    have hG_6 := bel_kept HH5.1 _ _ hG
    have hT_6 := tt_below hT HH5.1
    have HH6 : Held w4 w4 [] := Held.first w4
    have HS6 : Sl a4 120 [(63, .slice (some ⟨gt, 0, none⟩) (3) (3)), (0, .agg (FR () 6 ((p).sc))), (1, .agg (FR () 6 ((q).sc))), (2, .string (user)), (3, .int .i64 (mine)), (4, .pointer (some (⟨g1_0, 0, none⟩))), (5, .pointer (some (⟨g1_1, 0, none⟩))), (25, .slice (some ba) (7) (cn)), (26, .int .i64 (7)), (27, .int .i64 ((i : Int))), (28, .bool false)] := HS5
    have hLo : LOk [(1, 64, .val (.int .i64 (3))), (2, 65, .val (.int .i64 (0)))] := lok (by rfl) (by rfl)
    refine part_ (wE := w4) (sz := 120) (n := 3) 1 3 [0, 1, 3] [(63, .val (.slice (some ⟨gt, 0, none⟩) (3) (3))), (0, .val (.agg (FR () 6 ((p).sc)))), (1, .val (.agg (FR () 6 ((q).sc)))), (2, .val (.string (user))), (3, .val (.int .i64 (mine))), (4, .val (.pointer (some (⟨g1_0, 0, none⟩)))), (5, .val (.pointer (some (⟨g1_1, 0, none⟩)))), (25, .val (.slice (some ba) (7) (cn))), (26, .val (.int .i64 (7))), (27, .val (.int .i64 ((i : Int)))), (28, .val (.bool false)), (64, .val (.int .i64 (3))), (65, .val (.int .i64 (0)))] [(1, 64, .val (.int .i64 (3))), (2, 65, .val (.int .i64 (0)))] [] rfl rfl (by rfl) HH6 rfl rfl hLo rfl HS6 (slS 0 rfl rfl (slS 1 rfl rfl (slS 2 rfl rfl (slS 3 rfl rfl (slS 4 rfl rfl (slS 5 rfl rfl (slS 6 rfl rfl (slS 7 rfl rfl (slS 8 rfl rfl (slS 9 rfl rfl (slS 10 rfl rfl (slL 0 (d := 1) rfl (slL 1 (d := 2) rfl (trivial)))))))))))))) ?_ ?_
    · show ∀ i ∈ [1, 2], _
      refine zA (zD 0 _ rfl rfl hLo rfl rfl (fun _ _ _ _ => rfl) (fun b G w hb ho => exec_lenL Tryd.underlying54 rfl (zG rfl (HS6.get 0 rfl)))) ?_
      refine zA (zD 1 _ rfl rfl hLo rfl rfl (fun _ _ _ _ => rfl) (fun b G w hb ho => zB (.inl rfl) (rfl))) ?_
      exact zF
    clear hLo
    intro G a7 w7 hS hH
    have HS7 : Sl a7 120 [(63, .slice (some ⟨gt, 0, none⟩) (3) (3)), (0, .agg (FR () 6 ((p).sc))), (1, .agg (FR () 6 ((q).sc))), (2, .string (user)), (3, .int .i64 (mine)), (4, .pointer (some (⟨g1_0, 0, none⟩))), (5, .pointer (some (⟨g1_1, 0, none⟩))), (25, .slice (some ba) (7) (cn)), (26, .int .i64 (7)), (27, .int .i64 ((i : Int))), (28, .bool false), (64, .int .i64 (3)), (65, .int .i64 (0))] := hS
    have HH7 : Held w4 w7 [] := hH
    clear hS hH HS6 HH6
    refine end_ rfl ?_
    refine then_ ?_
    refine wp_block ?_
    have hSq1 : Sl _ 120 [(63, .slice (some ⟨gt, 0, none⟩) (3) (3)), (0, .agg (FR () 6 ((p).sc))), (1, .agg (FR () 6 ((q).sc))), (2, .string (user)), (3, .int .i64 (mine)), (4, .pointer (some (⟨g1_0, 0, none⟩))), (5, .pointer (some (⟨g1_1, 0, none⟩))), (25, .slice (some ba) (7) (cn)), (26, .int .i64 (7)), (27, .int .i64 ((i : Int))), (28, .bool false), (64, .int .i64 (3)), (65, .int .i64 (0))] := sl_keep HS7 [0, 1, 2, 3, 4, 5, 6, 7, 8, 9, 10, 11, 12] (by rfl)
    refine wp_loop (fun a w' => ∃ j : Nat, j ≤ 3 ∧ allB (tabOk p q user mine) j = true ∧ Sl a 120 [(63, .slice (some ⟨gt, 0, none⟩) (3) (3)), (0, .agg (FR () 6 ((p).sc))), (1, .agg (FR () 6 ((q).sc))), (2, .string (user)), (3, .int .i64 (mine)), (4, .pointer (some (⟨g1_0, 0, none⟩))), (5, .pointer (some (⟨g1_1, 0, none⟩))), (25, .slice (some ba) (7) (cn)), (26, .int .i64 (7)), (27, .int .i64 ((i : Int))), (28, .bool false), (64, .int .i64 (3)), (65, .int .i64 ((j : Int)))] ∧ Held w4 w' []) (fun a w' => 3 - (intOf (a.eval (.tmp 65))).toNat) ⟨0, Nat.zero_le _, rfl, hSq1, HH7⟩ ?_
    clear hSq1 HS7 HH7
    rintro aq1 wq1 ⟨j, hlej, hpj, HSq1, HHq1⟩
    have hm' : (intOf (aq1.eval (.tmp 65))).toNat = j := by rw [(HSq1.get 12 rfl)]; rfl
    rw [hm']
    clear hm'
    obtain ⟨x, hx⟩ : ∃ t : T, t = p.tbl (TN j) := ⟨_, rfl⟩
    have hInx : In w4 x := by rw [hx]; exact hInp_6.tbl
    have hRx : Rises x := by rw [hx]; exact hRp.tbl
    have hmx : x.ml ≤ 1073741824 := by rw [hx]; exact hmp _
    obtain ⟨y, hy⟩ : ∃ t : T, t = q.tbl (TN j) := ⟨_, rfl⟩
    have hIny : In w4 y := by rw [hy]; exact hInq_6.tbl
    have hRy : Rises y := by rw [hy]; exact hRq.tbl
    have hmy : y.ml ≤ 1073741824 := by rw [hy]; exact hmq _
    obtain ⟨r2, hr2⟩ : ∃ r : Bool, (decide (((j : Int) : Int) < 3)) = r := ⟨_, rfl⟩
    refine wp_seq ?_
    have hLo : LOk [(0, 66, .val (.bool r2))] := lok (by rfl) (by rfl)
    refine zH (wE := w4) (sz := 120) (n := 1) [0] [(63, .val (.slice (some ⟨gt, 0, none⟩) (3) (3))), (0, .val (.agg (FR () 6 ((p).sc)))), (1, .val (.agg (FR () 6 ((q).sc)))), (2, .val (.string (user))), (3, .val (.int .i64 (mine))), (4, .val (.pointer (some (⟨g1_0, 0, none⟩)))), (5, .val (.pointer (some (⟨g1_1, 0, none⟩)))), (25, .val (.slice (some ba) (7) (cn))), (26, .val (.int .i64 (7))), (27, .val (.int .i64 ((i : Int)))), (28, .val (.bool false)), (64, .val (.int .i64 (3))), (65, .val (.int .i64 ((j : Int)))), (66, .val (.bool r2))] [(0, 66, .val (.bool r2))] [] rfl (by rfl) HHq1 rfl rfl hLo rfl HSq1 (slS 0 rfl rfl (slS 1 rfl rfl (slS 2 rfl rfl (slS 3 rfl rfl (slS 4 rfl rfl (slS 5 rfl rfl (slS 6 rfl rfl (slS 7 rfl rfl (slS 8 rfl rfl (slS 9 rfl rfl (slS 10 rfl rfl (slS 11 rfl rfl (slS 12 rfl rfl (slL 0 (d := 0) rfl (trivial))))))))))))))) ?_ ?_
    · show ∀ i ∈ [0], _
      refine zA (zD 0 _ rfl rfl hLo rfl rfl (fun _ _ _ _ => rfl) (fun b G w hb ho => zI rfl (zG rfl (HSq1.get 12 rfl)) (zG rfl (HSq1.get 11 rfl)) (rb_lss hr2 _ _ _))) ?_
      exact zF
    clear hLo
    intro G a8 w8 hS hH
    have HS8 : Sl a8 120 [(63, .slice (some ⟨gt, 0, none⟩) (3) (3)), (0, .agg (FR () 6 ((p).sc))), (1, .agg (FR () 6 ((q).sc))), (2, .string (user)), (3, .int .i64 (mine)), (4, .pointer (some (⟨g1_0, 0, none⟩))), (5, .pointer (some (⟨g1_1, 0, none⟩))), (25, .slice (some ba) (7) (cn)), (26, .int .i64 (7)), (27, .int .i64 ((i : Int))), (28, .bool false), (64, .int .i64 (3)), (65, .int .i64 ((j : Int))), (66, .bool r2)] := hS
    have HH8 : Held w4 w8 [] := hH
    clear hS hH HSq1 HHq1
    refine then_ ?_
    refine wp_seq ?_
    cases r2
    · skip
      have hendj : j = 3 := by have := of_decide_eq_false hr2; omega
      have hqj := hpj
      rw [hendj] at hqj
      refine wp_cond_false (HS8.get 13 rfl) ?_
      refine wp_exit ?_
      refine then_exit ?_
      refine then_exit ?_
      refine inBlock_exit ?_
      refine then_ ?_
      refine wp_seq ?_
      have hLo : LOk [(0, 8, .val (.bool true))] := lok (by rfl) (by rfl)
      refine zH (wE := w4) (sz := 120) (n := 1) [0] [(63, .val (.slice (some ⟨gt, 0, none⟩) (3) (3))), (0, .val (.agg (FR () 6 ((p).sc)))), (1, .val (.agg (FR () 6 ((q).sc)))), (2, .val (.string (user))), (3, .val (.int .i64 (mine))), (4, .val (.pointer (some (⟨g1_0, 0, none⟩)))), (5, .val (.pointer (some (⟨g1_1, 0, none⟩)))), (25, .val (.slice (some ba) (7) (cn))), (26, .val (.int .i64 (7))), (27, .val (.int .i64 ((i : Int)))), (28, .val (.bool false)), (64, .val (.int .i64 (3))), (65, .val (.int .i64 ((j : Int)))), (66, .val (.bool false)), (8, .val (.bool true))] [(0, 8, .val (.bool true))] [] rfl (by rfl) HH8 rfl rfl hLo rfl HS8 (slS 0 rfl rfl (slS 1 rfl rfl (slS 2 rfl rfl (slS 3 rfl rfl (slS 4 rfl rfl (slS 5 rfl rfl (slS 6 rfl rfl (slS 7 rfl rfl (slS 8 rfl rfl (slS 9 rfl rfl (slS 10 rfl rfl (slS 11 rfl rfl (slS 12 rfl rfl (slS 13 rfl rfl (slL 0 (d := 0) rfl (trivial)))))))))))))))) ?_ ?_
      · show ∀ i ∈ [0], _
        refine zA (zD 0 _ rfl rfl hLo rfl rfl (fun _ _ _ _ => rfl) (fun b G w hb ho => zB (.inr rfl) (rfl))) ?_
        exact zF
      clear hLo
      intro G a9 w9 hS hH
      have HS9 : Sl a9 120 [(63, .slice (some ⟨gt, 0, none⟩) (3) (3)), (0, .agg (FR () 6 ((p).sc))), (1, .agg (FR () 6 ((q).sc))), (2, .string (user)), (3, .int .i64 (mine)), (4, .pointer (some (⟨g1_0, 0, none⟩))), (5, .pointer (some (⟨g1_1, 0, none⟩))), (25, .slice (some ba) (7) (cn)), (26, .int .i64 (7)), (27, .int .i64 ((i : Int))), (28, .bool false), (64, .int .i64 (3)), (65, .int .i64 ((j : Int))), (66, .bool false), (8, .bool true)] := hS
      have HH9 : Held w4 w9 [] := hH
      clear hS hH HS8 HH8
      refine then_ ?_
      refine wp_ret ?_
      repeat (first | refine zS ?_ | refine zN ?_)
      have HH10 := Held.back HH5 HH9
      exact b_tmp rfl HS9.2.1 (HS9.get 14 rfl) ⟨bool_ret (chg_yes hqi hqj), HH10.1⟩
    · skip
      have hltj : j < 3 := by have := of_decide_eq_true hr2; omega
      refine wp_cond_true (HS8.get 13 rfl) ?_
      refine wp_skip ?_
      refine then_ ?_
      refine wp_seq ?_
      refine wp_block ?_
      obtain ⟨xj, hxj, hcj⟩ := hTN j hltj
      refine wp_seq ?_
      have hLo : LOk [(0, 67, .val (.pointer (some (xj.add ((j) * 1))))), (1, 68, .val (.string (TN (j)))), (2, 16, .val (.string (TN (j))))] := lok (by rfl) (by rfl)
      refine zH (wE := w4) (sz := 120) (n := 3) [0, 1, 3] [(63, .val (.slice (some ⟨gt, 0, none⟩) (3) (3))), (0, .val (.agg (FR () 6 ((p).sc)))), (1, .val (.agg (FR () 6 ((q).sc)))), (2, .val (.string (user))), (3, .val (.int .i64 (mine))), (4, .val (.pointer (some (⟨g1_0, 0, none⟩)))), (5, .val (.pointer (some (⟨g1_1, 0, none⟩)))), (25, .val (.slice (some ba) (7) (cn))), (26, .val (.int .i64 (7))), (27, .val (.int .i64 ((i : Int)))), (28, .val (.bool false)), (64, .val (.int .i64 (3))), (65, .val (.int .i64 ((j : Int)))), (66, .val (.bool true)), (16, .val (.string (TN (j))))] [(0, 67, .val (.pointer (some (xj.add ((j) * 1))))), (1, 68, .val (.string (TN (j)))), (2, 16, .val (.string (TN (j))))] [] rfl (by rfl) HH8 rfl rfl hLo rfl HS8 (slS 0 rfl rfl (slS 1 rfl rfl (slS 2 rfl rfl (slS 3 rfl rfl (slS 4 rfl rfl (slS 5 rfl rfl (slS 6 rfl rfl (slS 7 rfl rfl (slS 8 rfl rfl (slS 9 rfl rfl (slS 10 rfl rfl (slS 11 rfl rfl (slS 12 rfl rfl (slS 13 rfl rfl (slL 2 (d := 2) rfl (trivial)))))))))))))))) ?_ ?_
      · show ∀ i ∈ [0, 1, 2], _
        refine zA (zD 0 _ rfl rfl hLo rfl rfl (fun _ _ _ _ => rfl) (fun b G w hb ho => exec_indexAddr rfl (zG rfl (HS8.get 0 rfl)) (zG rfl (HS8.get 12 rfl)) (index_sl Tryd.underlying54 (by kernel_rfl) hxj hltj _))) ?_
        refine zA (st_at1 1 (xj.add ((j) * 1)) _ rfl rfl rfl (fun _ _ _ _ => rfl) hLo rfl rfl Tryd.underlying9 rfl (hcj) (fun b G hb ho => zC hLo 0 rfl HS8.1 rfl (hb 0 (by rfl)))) ?_
        refine zA (zD 2 _ rfl rfl hLo rfl rfl (fun _ _ _ _ => rfl) (fun b G w hb ho => zB (.inr rfl) (zC hLo 1 rfl HS8.1 rfl (hb 1 (by rfl))))) ?_
        exact zF
      clear hLo
      intro G a11 w11 hS hH
      have HS11 : Sl a11 120 [(63, .slice (some ⟨gt, 0, none⟩) (3) (3)), (0, .agg (FR () 6 ((p).sc))), (1, .agg (FR () 6 ((q).sc))), (2, .string (user)), (3, .int .i64 (mine)), (4, .pointer (some (⟨g1_0, 0, none⟩))), (5, .pointer (some (⟨g1_1, 0, none⟩))), (25, .slice (some ba) (7) (cn)), (26, .int .i64 (7)), (27, .int .i64 ((i : Int))), (28, .bool false), (64, .int .i64 (3)), (65, .int .i64 ((j : Int))), (66, .bool true), (16, .string (TN (j)))] := hS
      have HH11 : Held w4 w11 [] := hH
      clear hS hH HS8 HH8
      refine then_ ?_
      refine wp_seq ?_
      have hLo : LOk [(0, 70, .val (.agg (FR () 6 ((p).sc)))), (1, 71, .val (.string (TN (j)))), (2, 72, .val (.tuple #[.agg (FR () 6 ((x).sc)), .bool ((p.get (TN (j))).isSome)])), (3, 69, .val (.tuple #[.agg (FR () 6 ((x).sc)), .bool ((p.get (TN (j))).isSome)])), (4, 73, .val (.agg (FR () 6 ((x).sc)))), (5, 74, .val (.bool ((p.get (TN (j))).isSome))), (6, 17, .new 6 (fun g => .pointer (some ⟨g, 0, none⟩))), (8, 18, .val (.bool ((p.get (TN (j))).isSome)))] := lok (by rfl) (by rfl)
      refine zH (wE := w4) (sz := 120) (n := 9) [0, 1, 3, 7, 15, 31, 63, 127, 255] [(63, .val (.slice (some ⟨gt, 0, none⟩) (3) (3))), (0, .val (.agg (FR () 6 ((p).sc)))), (1, .val (.agg (FR () 6 ((q).sc)))), (2, .val (.string (user))), (3, .val (.int .i64 (mine))), (4, .val (.pointer (some (⟨g1_0, 0, none⟩)))), (5, .val (.pointer (some (⟨g1_1, 0, none⟩)))), (25, .val (.slice (some ba) (7) (cn))), (26, .val (.int .i64 (7))), (27, .val (.int .i64 ((i : Int)))), (28, .val (.bool false)), (64, .val (.int .i64 (3))), (65, .val (.int .i64 ((j : Int)))), (66, .val (.bool true)), (16, .val (.string (TN (j)))), (17, .new 6 (fun g => .pointer (some ⟨g, 0, none⟩)))] [(0, 70, .val (.agg (FR () 6 ((p).sc)))), (1, 71, .val (.string (TN (j)))), (2, 72, .val (.tuple #[.agg (FR () 6 ((x).sc)), .bool ((p.get (TN (j))).isSome)])), (3, 69, .val (.tuple #[.agg (FR () 6 ((x).sc)), .bool ((p.get (TN (j))).isSome)])), (4, 73, .val (.agg (FR () 6 ((x).sc)))), (5, 74, .val (.bool ((p.get (TN (j))).isSome))), (6, 17, .new 6 (fun g => .pointer (some ⟨g, 0, none⟩))), (8, 18, .val (.bool ((p.get (TN (j))).isSome)))] [⟨0, some 6, some 7, (), 6, lsc [.i .i64 (0), .b (false), .i .i64 (0), .s (ByteArray.empty), .sl (none) (0) (0), .sl (none) (0) (0)], (x).sc, 25⟩] rfl (by rfl) HH11 rfl rfl hLo rfl HS11 (slS 0 rfl rfl (slS 1 rfl rfl (slS 2 rfl rfl (slS 3 rfl rfl (slS 4 rfl rfl (slS 5 rfl rfl (slS 6 rfl rfl (slS 7 rfl rfl (slS 8 rfl rfl (slS 9 rfl rfl (slS 10 rfl rfl (slS 11 rfl rfl (slS 12 rfl rfl (slS 13 rfl rfl (slS 14 rfl rfl (slL 6 (d := 6) rfl (trivial))))))))))))))))) ?_ ?_
      · show ∀ i ∈ [0, 1, 2, 3, 4, 5, 6, 7, 8], _
        refine zA (st_at 0 (⟨g1_0, 0, none⟩) rfl rfl rfl (fun _ _ _ _ => rfl) hLo rfl rfl Tryd.underlying25 (by kernel_rfl) rfl (row_at hRow6_0) (fun b G hb ho => zG rfl (HS11.get 5 rfl))) ?_
        refine zA (zD 1 _ rfl rfl hLo rfl rfl (fun _ _ _ _ => rfl) (fun b G w hb ho => zB (.inl rfl) (zG rfl (HS11.get 14 rfl)))) ?_
        refine zA (zT 2 _ #[.agg (FR () 6 ((p).sc)), .string (TN (j))] rfl rfl rfl (fun _ _ _ _ => rfl) hLo rfl rfl Tryd.func31 rfl rfl (fun b G hb ho => args2 (zC hLo 0 rfl HS11.1 rfl (hb 0 (by rfl))) (zC hLo 1 rfl HS11.1 rfl (hb 1 (by rfl)))) (fun w hw => (by have hq := get_calls (t := p) (TN (j)) (hInp_6.below hw) hRp.rise; rw [← hx] at hq; exact hq))) ?_
        refine zA (zD 3 _ rfl rfl hLo rfl rfl (fun _ _ _ _ => rfl) (fun b G w hb ho => zB (.inl rfl) (zC hLo 2 rfl HS11.1 rfl (hb 2 (by rfl))))) ?_
        refine zA (zD 4 _ rfl rfl hLo rfl rfl (fun _ _ _ _ => rfl) (fun b G w hb ho => zQ rfl (zC hLo 3 rfl HS11.1 rfl (hb 3 (by rfl))) (by rfl))) ?_
        refine zA (zD 5 _ rfl rfl hLo rfl rfl (fun _ _ _ _ => rfl) (fun b G w hb ho => zQ rfl (zC hLo 3 rfl HS11.1 rfl (hb 3 (by rfl))) (by rfl))) ?_
        refine zA (zX 6 0 () 6 25 (some 7) _ _ rfl rfl (fun _ _ _ _ => rfl) rfl hLo rfl rfl rfl rfl (by rfl) (fun b G w _ _ => by kernel_rfl)) ?_
        refine zA (st_store 0 _ rfl rfl rfl rfl rfl (fun _ _ _ _ => rfl) rfl rfl rfl (by rfl) (by kernel_rfl) (fun b G hb ho => zC hLo 6 rfl HS11.1 rfl (hb 6 (by rfl))) (fun b G hb ho => zC hLo 4 rfl HS11.1 rfl (hb 4 (by rfl)))) ?_
        refine zA (zD 7 _ rfl rfl hLo rfl rfl (fun _ _ _ _ => rfl) (fun b G w hb ho => zB (.inr rfl) (zC hLo 5 rfl HS11.1 rfl (hb 5 (by rfl))))) ?_
        exact zF
      clear hLo
      intro G a12 w12 hS hH
      have HS12 : Sl a12 120 [(63, .slice (some ⟨gt, 0, none⟩) (3) (3)), (0, .agg (FR () 6 ((p).sc))), (1, .agg (FR () 6 ((q).sc))), (2, .string (user)), (3, .int .i64 (mine)), (4, .pointer (some (⟨g1_0, 0, none⟩))), (5, .pointer (some (⟨g1_1, 0, none⟩))), (25, .slice (some ba) (7) (cn)), (26, .int .i64 (7)), (27, .int .i64 ((i : Int))), (28, .bool false), (64, .int .i64 (3)), (65, .int .i64 ((j : Int))), (66, .bool true), (16, .string (TN (j))), (17, .pointer (some ⟨(G 6), 0, none⟩))] := hS
      have HH12 : Held w4 w12 [⟨(G 6), (), 6, (x).sc, 25⟩] := hH
      clear hS hH HS11 HH11
      generalize G 6 = g12_6 at HS12 HH12
      refine then_ ?_
      refine wp_seq ?_
      have hLo : LOk [(0, 76, .val (.agg (FR () 6 ((q).sc)))), (1, 77, .val (.string (TN (j)))), (2, 78, .val (.tuple #[.agg (FR () 6 ((y).sc)), .bool ((q.get (TN (j))).isSome)])), (3, 75, .val (.tuple #[.agg (FR () 6 ((y).sc)), .bool ((q.get (TN (j))).isSome)])), (4, 79, .val (.agg (FR () 6 ((y).sc)))), (5, 80, .val (.bool ((q.get (TN (j))).isSome))), (6, 19, .new 6 (fun g => .pointer (some ⟨g, 0, none⟩))), (8, 20, .val (.bool ((q.get (TN (j))).isSome)))] := lok (by rfl) (by rfl)
      refine zH (wE := w4) (sz := 120) (n := 9) [0, 1, 3, 7, 15, 31, 63, 127, 255] [(63, .val (.slice (some ⟨gt, 0, none⟩) (3) (3))), (0, .val (.agg (FR () 6 ((p).sc)))), (1, .val (.agg (FR () 6 ((q).sc)))), (2, .val (.string (user))), (3, .val (.int .i64 (mine))), (4, .val (.pointer (some (⟨g1_0, 0, none⟩)))), (5, .val (.pointer (some (⟨g1_1, 0, none⟩)))), (25, .val (.slice (some ba) (7) (cn))), (26, .val (.int .i64 (7))), (27, .val (.int .i64 ((i : Int)))), (28, .val (.bool false)), (64, .val (.int .i64 (3))), (65, .val (.int .i64 ((j : Int)))), (66, .val (.bool true)), (16, .val (.string (TN (j)))), (17, .val (.pointer (some ⟨g12_6, 0, none⟩))), (19, .new 6 (fun g => .pointer (some ⟨g, 0, none⟩)))] [(0, 76, .val (.agg (FR () 6 ((q).sc)))), (1, 77, .val (.string (TN (j)))), (2, 78, .val (.tuple #[.agg (FR () 6 ((y).sc)), .bool ((q.get (TN (j))).isSome)])), (3, 75, .val (.tuple #[.agg (FR () 6 ((y).sc)), .bool ((q.get (TN (j))).isSome)])), (4, 79, .val (.agg (FR () 6 ((y).sc)))), (5, 80, .val (.bool ((q.get (TN (j))).isSome))), (6, 19, .new 6 (fun g => .pointer (some ⟨g, 0, none⟩))), (8, 20, .val (.bool ((q.get (TN (j))).isSome)))] [⟨g12_6, none, none, (), 6, (x).sc, (x).sc, 25⟩, ⟨0, some 6, some 7, (), 6, lsc [.i .i64 (0), .b (false), .i .i64 (0), .s (ByteArray.empty), .sl (none) (0) (0), .sl (none) (0) (0)], (y).sc, 25⟩] rfl (by rfl) HH12 rfl rfl hLo rfl HS12 (slS 0 rfl rfl (slS 1 rfl rfl (slS 2 rfl rfl (slS 3 rfl rfl (slS 4 rfl rfl (slS 5 rfl rfl (slS 6 rfl rfl (slS 7 rfl rfl (slS 8 rfl rfl (slS 9 rfl rfl (slS 10 rfl rfl (slS 11 rfl rfl (slS 12 rfl rfl (slS 13 rfl rfl (slS 14 rfl rfl (slS 15 rfl rfl (slL 6 (d := 6) rfl (trivial)))))))))))))))))) ?_ ?_
      · show ∀ i ∈ [0, 1, 2, 3, 4, 5, 6, 7, 8], _
        refine zA (st_at 0 (⟨g1_1, 0, none⟩) rfl rfl rfl (fun _ _ _ _ => rfl) hLo rfl rfl Tryd.underlying25 (by kernel_rfl) rfl (row_at hRow6_1) (fun b G hb ho => zG rfl (HS12.get 6 rfl))) ?_
        refine zA (zD 1 _ rfl rfl hLo rfl rfl (fun _ _ _ _ => rfl) (fun b G w hb ho => zB (.inl rfl) (zG rfl (HS12.get 14 rfl)))) ?_
        refine zA (zT 2 _ #[.agg (FR () 6 ((q).sc)), .string (TN (j))] rfl rfl rfl (fun _ _ _ _ => rfl) hLo rfl rfl Tryd.func31 rfl rfl (fun b G hb ho => args2 (zC hLo 0 rfl HS12.1 rfl (hb 0 (by rfl))) (zC hLo 1 rfl HS12.1 rfl (hb 1 (by rfl)))) (fun w hw => (by have hq := get_calls (t := q) (TN (j)) (hInq_6.below hw) hRq.rise; rw [← hy] at hq; exact hq))) ?_
        refine zA (zD 3 _ rfl rfl hLo rfl rfl (fun _ _ _ _ => rfl) (fun b G w hb ho => zB (.inl rfl) (zC hLo 2 rfl HS12.1 rfl (hb 2 (by rfl))))) ?_
        refine zA (zD 4 _ rfl rfl hLo rfl rfl (fun _ _ _ _ => rfl) (fun b G w hb ho => zQ rfl (zC hLo 3 rfl HS12.1 rfl (hb 3 (by rfl))) (by rfl))) ?_
        refine zA (zD 5 _ rfl rfl hLo rfl rfl (fun _ _ _ _ => rfl) (fun b G w hb ho => zQ rfl (zC hLo 3 rfl HS12.1 rfl (hb 3 (by rfl))) (by rfl))) ?_
        refine zA (zX 6 1 () 6 25 (some 7) _ _ rfl rfl (fun _ _ _ _ => rfl) rfl hLo rfl rfl rfl rfl (by rfl) (fun b G w _ _ => by kernel_rfl)) ?_
        refine zA (st_store 1 _ rfl rfl rfl rfl rfl (fun _ _ _ _ => rfl) rfl rfl rfl (by rfl) (by kernel_rfl) (fun b G hb ho => zC hLo 6 rfl HS12.1 rfl (hb 6 (by rfl))) (fun b G hb ho => zC hLo 4 rfl HS12.1 rfl (hb 4 (by rfl)))) ?_
        refine zA (zD 7 _ rfl rfl hLo rfl rfl (fun _ _ _ _ => rfl) (fun b G w hb ho => zB (.inr rfl) (zC hLo 5 rfl HS12.1 rfl (hb 5 (by rfl))))) ?_
        exact zF
      clear hLo
      intro G a13 w13 hS hH
      have HS13 : Sl a13 120 [(63, .slice (some ⟨gt, 0, none⟩) (3) (3)), (0, .agg (FR () 6 ((p).sc))), (1, .agg (FR () 6 ((q).sc))), (2, .string (user)), (3, .int .i64 (mine)), (4, .pointer (some (⟨g1_0, 0, none⟩))), (5, .pointer (some (⟨g1_1, 0, none⟩))), (25, .slice (some ba) (7) (cn)), (26, .int .i64 (7)), (27, .int .i64 ((i : Int))), (28, .bool false), (64, .int .i64 (3)), (65, .int .i64 ((j : Int))), (66, .bool true), (16, .string (TN (j))), (17, .pointer (some ⟨g12_6, 0, none⟩)), (19, .pointer (some ⟨(G 6), 0, none⟩))] := hS
      have HH13 : Held w4 w13 [⟨g12_6, (), 6, (x).sc, 25⟩, ⟨(G 6), (), 6, (y).sc, 25⟩] := hH
      clear hS hH HS12 HH12
      generalize G 6 = g13_6 at HS13 HH13
      refine then_ ?_
      refine wp_seq ?_
      refine whole_ ?_
      have hLo : LOk [(0, 81, .val (.agg (FR () 6 ((x).sc)))), (1, 82, .val (.agg (FR () 6 ((y).sc))))] := lok (by rfl) (by rfl)
      refine part_ (wE := w4) (sz := 120) (n := 5) 0 2 [0, 1, 3, 7, 15] [(63, .val (.slice (some ⟨gt, 0, none⟩) (3) (3))), (0, .val (.agg (FR () 6 ((p).sc)))), (1, .val (.agg (FR () 6 ((q).sc)))), (2, .val (.string (user))), (3, .val (.int .i64 (mine))), (4, .val (.pointer (some (⟨g1_0, 0, none⟩)))), (5, .val (.pointer (some (⟨g1_1, 0, none⟩)))), (25, .val (.slice (some ba) (7) (cn))), (26, .val (.int .i64 (7))), (27, .val (.int .i64 ((i : Int)))), (28, .val (.bool false)), (64, .val (.int .i64 (3))), (65, .val (.int .i64 ((j : Int)))), (66, .val (.bool true)), (16, .val (.string (TN (j)))), (17, .val (.pointer (some ⟨g12_6, 0, none⟩))), (19, .val (.pointer (some ⟨g13_6, 0, none⟩))), (81, .val (.agg (FR () 6 ((x).sc)))), (82, .val (.agg (FR () 6 ((y).sc))))] [(0, 81, .val (.agg (FR () 6 ((x).sc)))), (1, 82, .val (.agg (FR () 6 ((y).sc))))] [⟨g12_6, none, none, (), 6, (x).sc, (x).sc, 25⟩, ⟨g13_6, none, none, (), 6, (y).sc, (y).sc, 25⟩] rfl rfl (by rfl) HH13 rfl rfl hLo rfl HS13 (slS 0 rfl rfl (slS 1 rfl rfl (slS 2 rfl rfl (slS 3 rfl rfl (slS 4 rfl rfl (slS 5 rfl rfl (slS 6 rfl rfl (slS 7 rfl rfl (slS 8 rfl rfl (slS 9 rfl rfl (slS 10 rfl rfl (slS 11 rfl rfl (slS 12 rfl rfl (slS 13 rfl rfl (slS 14 rfl rfl (slS 15 rfl rfl (slS 16 rfl rfl (slL 0 (d := 0) rfl (slL 1 (d := 1) rfl (trivial)))))))))))))))))))) ?_ ?_
      · show ∀ i ∈ [0, 1], _
        refine zA (zY 0 0 _ rfl rfl rfl rfl (fun _ _ _ _ => rfl) hLo rfl rfl rfl (by rfl) Tryd.underlying25 (by kernel_rfl) rfl (fun b G hb ho => zG rfl (HS13.get 15 rfl))) ?_
        refine zA (zY 1 1 _ rfl rfl rfl rfl (fun _ _ _ _ => rfl) hLo rfl rfl rfl (by rfl) Tryd.underlying25 (by kernel_rfl) rfl (fun b G hb ho => zG rfl (HS13.get 16 rfl))) ?_
        exact zF
      clear hLo
      intro G a14 w14 hS hH
      have HS14 : Sl a14 120 [(63, .slice (some ⟨gt, 0, none⟩) (3) (3)), (0, .agg (FR () 6 ((p).sc))), (1, .agg (FR () 6 ((q).sc))), (2, .string (user)), (3, .int .i64 (mine)), (4, .pointer (some (⟨g1_0, 0, none⟩))), (5, .pointer (some (⟨g1_1, 0, none⟩))), (25, .slice (some ba) (7) (cn)), (26, .int .i64 (7)), (27, .int .i64 ((i : Int))), (28, .bool false), (64, .int .i64 (3)), (65, .int .i64 ((j : Int))), (66, .bool true), (16, .string (TN (j))), (17, .pointer (some ⟨g12_6, 0, none⟩)), (19, .pointer (some ⟨g13_6, 0, none⟩)), (81, .agg (FR () 6 ((x).sc))), (82, .agg (FR () 6 ((y).sc)))] := hS
      have HH14 : Held w4 w14 [⟨g12_6, (), 6, (x).sc, 25⟩, ⟨g13_6, (), 6, (y).sc, 25⟩] := hH
      clear hS hH HS13 HH13
      obtain ⟨m, hm⟩ : ∃ m, m = (outL x y (x.ml + y.ml)).length := ⟨_, rfl⟩
      refine cut_call _ rfl rfl rfl rfl Tryd.func34 rfl rfl (args2 (HS14.get 17 rfl) (HS14.get 18 rfl)) ((by have hq := differ_calls _ (hInx.below HH14.1) (hIny.below HH14.1) hRx hRy hmx hmy; rw [← hm] at hq; exact hq)) HS14 rfl ?_
      rintro e15 w15 ⟨⟨od, cd, rfl, hD⟩, hbd⟩
      refine ⟨_, rfl, fun a15 hS => ?_⟩
      have HS16 : Sl a15 120 [(83, .slice (od) (m) (cd)), (63, .slice (some ⟨gt, 0, none⟩) (3) (3)), (0, .agg (FR () 6 ((p).sc))), (1, .agg (FR () 6 ((q).sc))), (2, .string (user)), (3, .int .i64 (mine)), (4, .pointer (some (⟨g1_0, 0, none⟩))), (5, .pointer (some (⟨g1_1, 0, none⟩))), (25, .slice (some ba) (7) (cn)), (26, .int .i64 (7)), (27, .int .i64 ((i : Int))), (28, .bool false), (64, .int .i64 (3)), (65, .int .i64 ((j : Int))), (66, .bool true), (16, .string (TN (j))), (17, .pointer (some ⟨g12_6, 0, none⟩)), (19, .pointer (some ⟨g13_6, 0, none⟩)), (81, .agg (FR () 6 ((x).sc))), (82, .agg (FR () 6 ((y).sc)))] := hS
      have HH16 : Held w4 w15 [⟨g12_6, (), 6, (x).sc, 25⟩, ⟨g13_6, (), 6, (y).sc, 25⟩] := HH14.call hbd
      clear hS
      have hmb : m ≤ 2147483648 := by have := outL_len (a := x) (b := y) (x.ml + y.ml); omega
      have hRow17_0 := HH16.row 0 rfl
      have hRow17_1 := HH16.row 1 rfl
      have hInp_17 := hInp_6.below HH16.1
      have hInq_17 := hInq_6.below HH16.1
      have hG_17 := bel_kept HH16.1 _ _ hG_6
      have hT_17 := tt_below hT_6 HH16.1
      have hRow6_0_17 := (hRow6_0).below HH16.1 (hRow6_0).lt
      have hRow6_1_17 := (hRow6_1).below HH16.1 (hRow6_1).lt
      have hTN_17 := hTN.below HH16.1
      have hInx_17 := hInx.below HH16.1
      have hIny_17 := hIny.below HH16.1
      have HH17 : Held w15 w15 [] := Held.first w15
      have HS17 : Sl a15 120 [(83, .slice (od) (m) (cd)), (63, .slice (some ⟨gt, 0, none⟩) (3) (3)), (0, .agg (FR () 6 ((p).sc))), (1, .agg (FR () 6 ((q).sc))), (2, .string (user)), (3, .int .i64 (mine)), (4, .pointer (some (⟨g1_0, 0, none⟩))), (5, .pointer (some (⟨g1_1, 0, none⟩))), (25, .slice (some ba) (7) (cn)), (26, .int .i64 (7)), (27, .int .i64 ((i : Int))), (28, .bool false), (64, .int .i64 (3)), (65, .int .i64 ((j : Int))), (66, .bool true), (16, .string (TN (j))), (17, .pointer (some (⟨g12_6, 0, none⟩))), (19, .pointer (some (⟨g13_6, 0, none⟩))), (81, .agg (FR () 6 ((x).sc))), (82, .agg (FR () 6 ((y).sc)))] := HS16
      have hLo : LOk [(3, 84, .val (.int .i64 ((m : Int)))), (4, 85, .val (.int .i64 (0)))] := lok (by rfl) (by rfl)
      refine part_ (wE := w15) (sz := 120) (n := 5) 3 5 [0, 1, 3, 7, 15] [(83, .val (.slice (od) (m) (cd))), (63, .val (.slice (some ⟨gt, 0, none⟩) (3) (3))), (0, .val (.agg (FR () 6 ((p).sc)))), (1, .val (.agg (FR () 6 ((q).sc)))), (2, .val (.string (user))), (3, .val (.int .i64 (mine))), (4, .val (.pointer (some (⟨g1_0, 0, none⟩)))), (5, .val (.pointer (some (⟨g1_1, 0, none⟩)))), (25, .val (.slice (some ba) (7) (cn))), (26, .val (.int .i64 (7))), (27, .val (.int .i64 ((i : Int)))), (28, .val (.bool false)), (64, .val (.int .i64 (3))), (65, .val (.int .i64 ((j : Int)))), (66, .val (.bool true)), (16, .val (.string (TN (j)))), (17, .val (.pointer (some (⟨g12_6, 0, none⟩)))), (19, .val (.pointer (some (⟨g13_6, 0, none⟩)))), (84, .val (.int .i64 ((m : Int)))), (85, .val (.int .i64 (0)))] [(3, 84, .val (.int .i64 ((m : Int)))), (4, 85, .val (.int .i64 (0)))] [] rfl rfl (by rfl) HH17 rfl rfl hLo rfl HS17 (slS 0 rfl rfl (slS 1 rfl rfl (slS 2 rfl rfl (slS 3 rfl rfl (slS 4 rfl rfl (slS 5 rfl rfl (slS 6 rfl rfl (slS 7 rfl rfl (slS 8 rfl rfl (slS 9 rfl rfl (slS 10 rfl rfl (slS 11 rfl rfl (slS 12 rfl rfl (slS 13 rfl rfl (slS 14 rfl rfl (slS 15 rfl rfl (slS 16 rfl rfl (slS 17 rfl rfl (slL 0 (d := 3) rfl (slL 1 (d := 4) rfl (trivial))))))))))))))))))))) ?_ ?_
      · show ∀ i ∈ [3, 4], _
        refine zA (zD 0 _ rfl rfl hLo rfl rfl (fun _ _ _ _ => rfl) (fun b G w hb ho => exec_lenL Tryd.underlying54 rfl (zG rfl (HS17.get 0 rfl)))) ?_
        refine zA (zD 1 _ rfl rfl hLo rfl rfl (fun _ _ _ _ => rfl) (fun b G w hb ho => zB (.inl rfl) (rfl))) ?_
        exact zF
      clear hLo
      intro G a18 w18 hS hH
      have HS18 : Sl a18 120 [(83, .slice (od) (m) (cd)), (63, .slice (some ⟨gt, 0, none⟩) (3) (3)), (0, .agg (FR () 6 ((p).sc))), (1, .agg (FR () 6 ((q).sc))), (2, .string (user)), (3, .int .i64 (mine)), (4, .pointer (some (⟨g1_0, 0, none⟩))), (5, .pointer (some (⟨g1_1, 0, none⟩))), (25, .slice (some ba) (7) (cn)), (26, .int .i64 (7)), (27, .int .i64 ((i : Int))), (28, .bool false), (64, .int .i64 (3)), (65, .int .i64 ((j : Int))), (66, .bool true), (16, .string (TN (j))), (17, .pointer (some (⟨g12_6, 0, none⟩))), (19, .pointer (some (⟨g13_6, 0, none⟩))), (84, .int .i64 ((m : Int))), (85, .int .i64 (0))] := hS
      have HH18 : Held w15 w18 [] := hH
      clear hS hH HS17 HH17
      refine end_ rfl ?_
      refine then_ ?_
      refine wp_block ?_
      have hSq2 : Sl _ 120 [(83, .slice (od) (m) (cd)), (63, .slice (some ⟨gt, 0, none⟩) (3) (3)), (0, .agg (FR () 6 ((p).sc))), (1, .agg (FR () 6 ((q).sc))), (2, .string (user)), (3, .int .i64 (mine)), (4, .pointer (some (⟨g1_0, 0, none⟩))), (5, .pointer (some (⟨g1_1, 0, none⟩))), (25, .slice (some ba) (7) (cn)), (26, .int .i64 (7)), (27, .int .i64 ((i : Int))), (28, .bool false), (64, .int .i64 (3)), (65, .int .i64 ((j : Int))), (66, .bool true), (16, .string (TN (j))), (17, .pointer (some (⟨g12_6, 0, none⟩))), (19, .pointer (some (⟨g13_6, 0, none⟩))), (84, .int .i64 ((m : Int))), (85, .int .i64 (0))] := sl_keep HS18 [0, 1, 2, 3, 4, 5, 6, 7, 8, 9, 10, 11, 12, 13, 14, 15, 16, 17, 18, 19] (by rfl)
      refine wp_loop (fun a w' => ∃ k : Nat, k ≤ m ∧ allB (fun k => !keyBad x y user mine (TN j) (outK x y k)) k = true ∧ Sl a 120 [(83, .slice (od) (m) (cd)), (63, .slice (some ⟨gt, 0, none⟩) (3) (3)), (0, .agg (FR () 6 ((p).sc))), (1, .agg (FR () 6 ((q).sc))), (2, .string (user)), (3, .int .i64 (mine)), (4, .pointer (some (⟨g1_0, 0, none⟩))), (5, .pointer (some (⟨g1_1, 0, none⟩))), (25, .slice (some ba) (7) (cn)), (26, .int .i64 (7)), (27, .int .i64 ((i : Int))), (28, .bool false), (64, .int .i64 (3)), (65, .int .i64 ((j : Int))), (66, .bool true), (16, .string (TN (j))), (17, .pointer (some (⟨g12_6, 0, none⟩))), (19, .pointer (some (⟨g13_6, 0, none⟩))), (84, .int .i64 ((m : Int))), (85, .int .i64 ((k : Int)))] ∧ Held w15 w' []) (fun a w' => m - (intOf (a.eval (.tmp 85))).toNat) ⟨0, Nat.zero_le _, rfl, hSq2, HH18⟩ ?_
      clear hSq2 HS18 HH18
      rintro aq2 wq2 ⟨k, hlek, hpk, HSq2, HHq2⟩
      have hm' : (intOf (aq2.eval (.tmp 85))).toNat = k := by rw [(HSq2.get 19 rfl)]; rfl
      rw [hm']
      clear hm'
      obtain ⟨r3, hr3⟩ : ∃ r : Bool, (decide (((k : Int) : Int) < (m : Int))) = r := ⟨_, rfl⟩
      refine wp_seq ?_
      have hLo : LOk [(0, 86, .val (.bool r3))] := lok (by rfl) (by rfl)
      refine zH (wE := w15) (sz := 120) (n := 1) [0] [(83, .val (.slice (od) (m) (cd))), (63, .val (.slice (some ⟨gt, 0, none⟩) (3) (3))), (0, .val (.agg (FR () 6 ((p).sc)))), (1, .val (.agg (FR () 6 ((q).sc)))), (2, .val (.string (user))), (3, .val (.int .i64 (mine))), (4, .val (.pointer (some (⟨g1_0, 0, none⟩)))), (5, .val (.pointer (some (⟨g1_1, 0, none⟩)))), (25, .val (.slice (some ba) (7) (cn))), (26, .val (.int .i64 (7))), (27, .val (.int .i64 ((i : Int)))), (28, .val (.bool false)), (64, .val (.int .i64 (3))), (65, .val (.int .i64 ((j : Int)))), (66, .val (.bool true)), (16, .val (.string (TN (j)))), (17, .val (.pointer (some (⟨g12_6, 0, none⟩)))), (19, .val (.pointer (some (⟨g13_6, 0, none⟩)))), (84, .val (.int .i64 ((m : Int)))), (85, .val (.int .i64 ((k : Int)))), (86, .val (.bool r3))] [(0, 86, .val (.bool r3))] [] rfl (by rfl) HHq2 rfl rfl hLo rfl HSq2 (slS 0 rfl rfl (slS 1 rfl rfl (slS 2 rfl rfl (slS 3 rfl rfl (slS 4 rfl rfl (slS 5 rfl rfl (slS 6 rfl rfl (slS 7 rfl rfl (slS 8 rfl rfl (slS 9 rfl rfl (slS 10 rfl rfl (slS 11 rfl rfl (slS 12 rfl rfl (slS 13 rfl rfl (slS 14 rfl rfl (slS 15 rfl rfl (slS 16 rfl rfl (slS 17 rfl rfl (slS 18 rfl rfl (slS 19 rfl rfl (slL 0 (d := 0) rfl (trivial)))))))))))))))))))))) ?_ ?_
      · show ∀ i ∈ [0], _
        refine zA (zD 0 _ rfl rfl hLo rfl rfl (fun _ _ _ _ => rfl) (fun b G w hb ho => zI rfl (zG rfl (HSq2.get 19 rfl)) (zG rfl (HSq2.get 18 rfl)) (rb_lss hr3 _ _ _))) ?_
        exact zF
      clear hLo
      intro G a19 w19 hS hH
      have HS19 : Sl a19 120 [(83, .slice (od) (m) (cd)), (63, .slice (some ⟨gt, 0, none⟩) (3) (3)), (0, .agg (FR () 6 ((p).sc))), (1, .agg (FR () 6 ((q).sc))), (2, .string (user)), (3, .int .i64 (mine)), (4, .pointer (some (⟨g1_0, 0, none⟩))), (5, .pointer (some (⟨g1_1, 0, none⟩))), (25, .slice (some ba) (7) (cn)), (26, .int .i64 (7)), (27, .int .i64 ((i : Int))), (28, .bool false), (64, .int .i64 (3)), (65, .int .i64 ((j : Int))), (66, .bool true), (16, .string (TN (j))), (17, .pointer (some (⟨g12_6, 0, none⟩))), (19, .pointer (some (⟨g13_6, 0, none⟩))), (84, .int .i64 ((m : Int))), (85, .int .i64 ((k : Int))), (86, .bool r3)] := hS
      have HH19 : Held w15 w19 [] := hH
      clear hS hH HSq2 HHq2
      refine then_ ?_
      refine wp_seq ?_
      cases r3
      · skip
        have hendk : k = m := by have := of_decide_eq_false hr3; omega
        have hTj : tabOk p q user mine j = true := by unfold tabOk; rw [← hx, ← hy, ← hm, ← hendk]; exact hpk
        refine wp_cond_false (HS19.get 20 rfl) ?_
        refine wp_exit ?_
        refine then_exit ?_
        refine then_exit ?_
        refine inBlock_exit ?_
        refine zR ?_
        refine then_ ?_
        have hLo : LOk [(0, 119, .val (.int .i64 (((j + 1 : Nat) : Int)))), (1, 65, .val (.int .i64 (((j + 1 : Nat) : Int))))] := lok (by rfl) (by rfl)
        refine zH (wE := w15) (sz := 120) (n := 2) [0, 1] [(83, .val (.slice (od) (m) (cd))), (63, .val (.slice (some ⟨gt, 0, none⟩) (3) (3))), (0, .val (.agg (FR () 6 ((p).sc)))), (1, .val (.agg (FR () 6 ((q).sc)))), (2, .val (.string (user))), (3, .val (.int .i64 (mine))), (4, .val (.pointer (some (⟨g1_0, 0, none⟩)))), (5, .val (.pointer (some (⟨g1_1, 0, none⟩)))), (25, .val (.slice (some ba) (7) (cn))), (26, .val (.int .i64 (7))), (27, .val (.int .i64 ((i : Int)))), (28, .val (.bool false)), (64, .val (.int .i64 (3))), (66, .val (.bool true)), (16, .val (.string (TN (j)))), (17, .val (.pointer (some (⟨g12_6, 0, none⟩)))), (19, .val (.pointer (some (⟨g13_6, 0, none⟩)))), (84, .val (.int .i64 ((m : Int)))), (85, .val (.int .i64 ((k : Int)))), (86, .val (.bool false)), (65, .val (.int .i64 (((j + 1 : Nat) : Int))))] [(0, 119, .val (.int .i64 (((j + 1 : Nat) : Int)))), (1, 65, .val (.int .i64 (((j + 1 : Nat) : Int))))] [] rfl (by rfl) HH19 rfl rfl hLo rfl HS19 (slS 0 rfl rfl (slS 1 rfl rfl (slS 2 rfl rfl (slS 3 rfl rfl (slS 4 rfl rfl (slS 5 rfl rfl (slS 6 rfl rfl (slS 7 rfl rfl (slS 8 rfl rfl (slS 9 rfl rfl (slS 10 rfl rfl (slS 11 rfl rfl (slS 12 rfl rfl (slS 14 rfl rfl (slS 15 rfl rfl (slS 16 rfl rfl (slS 17 rfl rfl (slS 18 rfl rfl (slS 19 rfl rfl (slS 20 rfl rfl (slL 1 (d := 1) rfl (trivial)))))))))))))))))))))) ?_ ?_
        · show ∀ i ∈ [0, 1], _
          refine zA (zD 0 _ rfl rfl hLo rfl rfl (fun _ _ _ _ => rfl) (fun b G w hb ho => zI rfl (ev_pre hLo 1 rfl (ho 1 (by rfl)) (HS19.get 13 rfl)) (rfl) (rb_add (w_nat (by omega) (by omega)) _ _ _))) ?_
          refine zA (zD 1 _ rfl rfl hLo rfl rfl (fun _ _ _ _ => rfl) (fun b G w hb ho => zB (.inl rfl) (zC hLo 0 rfl HS19.1 rfl (hb 0 (by rfl))))) ?_
          exact zF
        clear hLo
        intro G a20 w20 hS hH
        have HS20 : Sl a20 120 [(83, .slice (od) (m) (cd)), (63, .slice (some ⟨gt, 0, none⟩) (3) (3)), (0, .agg (FR () 6 ((p).sc))), (1, .agg (FR () 6 ((q).sc))), (2, .string (user)), (3, .int .i64 (mine)), (4, .pointer (some (⟨g1_0, 0, none⟩))), (5, .pointer (some (⟨g1_1, 0, none⟩))), (25, .slice (some ba) (7) (cn)), (26, .int .i64 (7)), (27, .int .i64 ((i : Int))), (28, .bool false), (64, .int .i64 (3)), (66, .bool true), (16, .string (TN (j))), (17, .pointer (some (⟨g12_6, 0, none⟩))), (19, .pointer (some (⟨g13_6, 0, none⟩))), (84, .int .i64 ((m : Int))), (85, .int .i64 ((k : Int))), (86, .bool false), (65, .int .i64 (((j + 1 : Nat) : Int)))] := hS
        have HH20 : Held w15 w20 [] := hH
        clear hS hH HS19 HH19
        refine then_ ?_
        have HH21 := Held.back HH16 HH20
        have hSq1' : Sl _ 120 [(63, .slice (some ⟨gt, 0, none⟩) (3) (3)), (0, .agg (FR () 6 ((p).sc))), (1, .agg (FR () 6 ((q).sc))), (2, .string (user)), (3, .int .i64 (mine)), (4, .pointer (some (⟨g1_0, 0, none⟩))), (5, .pointer (some (⟨g1_1, 0, none⟩))), (25, .slice (some ba) (7) (cn)), (26, .int .i64 (7)), (27, .int .i64 ((i : Int))), (28, .bool false), (64, .int .i64 (3)), (65, .int .i64 (((j + 1 : Nat) : Int)))] := sl_keep HS20 [1, 2, 3, 4, 5, 6, 7, 8, 9, 10, 11, 12, 20] (by rfl)
        have hHq1' : Held w4 _ [] := held_keep HH21 0 rfl
        exact ⟨⟨j + 1, by omega, allB_step hpj (hTj), hSq1', hHq1'⟩, by rw [(hSq1'.get 12 rfl)]; show 3 - (((j + 1 : Nat) : Int)).toNat < 3 - j; omega⟩
      · skip
        have hltk : k < m := by have := of_decide_eq_true hr3; omega
        refine wp_cond_true (HS19.get 20 rfl) ?_
        refine wp_skip ?_
        refine then_ ?_
        refine wp_seq ?_
        refine wp_block ?_
        obtain ⟨xk, hxk, hck⟩ := hD k hltk
        refine wp_seq ?_
        have hLo : LOk [(0, 87, .val (.pointer (some (xk.add ((k) * 1))))), (1, 88, .val (.string (outK x y (k)))), (2, 22, .val (.string (outK x y (k))))] := lok (by rfl) (by rfl)
        refine zH (wE := w15) (sz := 120) (n := 3) [0, 1, 3] [(83, .val (.slice (od) (m) (cd))), (63, .val (.slice (some ⟨gt, 0, none⟩) (3) (3))), (0, .val (.agg (FR () 6 ((p).sc)))), (1, .val (.agg (FR () 6 ((q).sc)))), (2, .val (.string (user))), (3, .val (.int .i64 (mine))), (4, .val (.pointer (some (⟨g1_0, 0, none⟩)))), (5, .val (.pointer (some (⟨g1_1, 0, none⟩)))), (25, .val (.slice (some ba) (7) (cn))), (26, .val (.int .i64 (7))), (27, .val (.int .i64 ((i : Int)))), (28, .val (.bool false)), (64, .val (.int .i64 (3))), (65, .val (.int .i64 ((j : Int)))), (66, .val (.bool true)), (16, .val (.string (TN (j)))), (17, .val (.pointer (some (⟨g12_6, 0, none⟩)))), (19, .val (.pointer (some (⟨g13_6, 0, none⟩)))), (84, .val (.int .i64 ((m : Int)))), (85, .val (.int .i64 ((k : Int)))), (86, .val (.bool true)), (22, .val (.string (outK x y (k))))] [(0, 87, .val (.pointer (some (xk.add ((k) * 1))))), (1, 88, .val (.string (outK x y (k)))), (2, 22, .val (.string (outK x y (k))))] [] rfl (by rfl) HH19 rfl rfl hLo rfl HS19 (slS 0 rfl rfl (slS 1 rfl rfl (slS 2 rfl rfl (slS 3 rfl rfl (slS 4 rfl rfl (slS 5 rfl rfl (slS 6 rfl rfl (slS 7 rfl rfl (slS 8 rfl rfl (slS 9 rfl rfl (slS 10 rfl rfl (slS 11 rfl rfl (slS 12 rfl rfl (slS 13 rfl rfl (slS 14 rfl rfl (slS 15 rfl rfl (slS 16 rfl rfl (slS 17 rfl rfl (slS 18 rfl rfl (slS 19 rfl rfl (slS 20 rfl rfl (slL 2 (d := 2) rfl (trivial))))))))))))))))))))))) ?_ ?_
        · show ∀ i ∈ [0, 1, 2], _
          refine zA (zD 0 _ rfl rfl hLo rfl rfl (fun _ _ _ _ => rfl) (fun b G w hb ho => exec_indexAddr rfl (zG rfl (HS19.get 0 rfl)) (zG rfl (HS19.get 19 rfl)) (index_sl Tryd.underlying54 (by kernel_rfl) hxk hltk _))) ?_
          refine zA (st_at1 1 (xk.add ((k) * 1)) _ rfl rfl rfl (fun _ _ _ _ => rfl) hLo rfl rfl Tryd.underlying9 rfl (hck) (fun b G hb ho => zC hLo 0 rfl HS19.1 rfl (hb 0 (by rfl)))) ?_
          refine zA (zD 2 _ rfl rfl hLo rfl rfl (fun _ _ _ _ => rfl) (fun b G w hb ho => zB (.inr rfl) (zC hLo 1 rfl HS19.1 rfl (hb 1 (by rfl))))) ?_
          exact zF
        clear hLo
        intro G a22 w22 hS hH
        have HS22 : Sl a22 120 [(83, .slice (od) (m) (cd)), (63, .slice (some ⟨gt, 0, none⟩) (3) (3)), (0, .agg (FR () 6 ((p).sc))), (1, .agg (FR () 6 ((q).sc))), (2, .string (user)), (3, .int .i64 (mine)), (4, .pointer (some (⟨g1_0, 0, none⟩))), (5, .pointer (some (⟨g1_1, 0, none⟩))), (25, .slice (some ba) (7) (cn)), (26, .int .i64 (7)), (27, .int .i64 ((i : Int))), (28, .bool false), (64, .int .i64 (3)), (65, .int .i64 ((j : Int))), (66, .bool true), (16, .string (TN (j))), (17, .pointer (some (⟨g12_6, 0, none⟩))), (19, .pointer (some (⟨g13_6, 0, none⟩))), (84, .int .i64 ((m : Int))), (85, .int .i64 ((k : Int))), (86, .bool true), (22, .string (outK x y (k)))] := hS
        have HH22 : Held w15 w22 [] := hH
        clear hS hH HS19 HH19
        refine then_ ?_
        obtain ⟨r4, hr4⟩ : ∃ r : Bool, (((x).tell (outK x y (k))).2) = r := ⟨_, rfl⟩
        refine wp_seq ?_
        have hLo : LOk [(0, 90, .val (.agg (FR () 6 ((x).sc)))), (1, 91, .val (.string (outK x y (k)))), (2, 92, .val (.tuple #[.int .i64 (((x).tell (outK x y (k))).1), .bool r4])), (3, 89, .val (.tuple #[.int .i64 (((x).tell (outK x y (k))).1), .bool r4])), (4, 93, .val (.int .i64 (((x).tell (outK x y (k))).1))), (5, 94, .val (.bool r4)), (6, 23, .val (.int .i64 (((x).tell (outK x y (k))).1))), (7, 24, .val (.bool r4))] := lok (by rfl) (by rfl)
        refine zH (wE := w15) (sz := 120) (n := 8) [0, 1, 3, 7, 15, 31, 63, 127] [(83, .val (.slice (od) (m) (cd))), (63, .val (.slice (some ⟨gt, 0, none⟩) (3) (3))), (0, .val (.agg (FR () 6 ((p).sc)))), (1, .val (.agg (FR () 6 ((q).sc)))), (2, .val (.string (user))), (3, .val (.int .i64 (mine))), (4, .val (.pointer (some (⟨g1_0, 0, none⟩)))), (5, .val (.pointer (some (⟨g1_1, 0, none⟩)))), (25, .val (.slice (some ba) (7) (cn))), (26, .val (.int .i64 (7))), (27, .val (.int .i64 ((i : Int)))), (28, .val (.bool false)), (64, .val (.int .i64 (3))), (65, .val (.int .i64 ((j : Int)))), (66, .val (.bool true)), (16, .val (.string (TN (j)))), (17, .val (.pointer (some (⟨g12_6, 0, none⟩)))), (19, .val (.pointer (some (⟨g13_6, 0, none⟩)))), (84, .val (.int .i64 ((m : Int)))), (85, .val (.int .i64 ((k : Int)))), (86, .val (.bool true)), (22, .val (.string (outK x y (k)))), (23, .val (.int .i64 (((x).tell (outK x y (k))).1))), (24, .val (.bool r4))] [(0, 90, .val (.agg (FR () 6 ((x).sc)))), (1, 91, .val (.string (outK x y (k)))), (2, 92, .val (.tuple #[.int .i64 (((x).tell (outK x y (k))).1), .bool r4])), (3, 89, .val (.tuple #[.int .i64 (((x).tell (outK x y (k))).1), .bool r4])), (4, 93, .val (.int .i64 (((x).tell (outK x y (k))).1))), (5, 94, .val (.bool r4)), (6, 23, .val (.int .i64 (((x).tell (outK x y (k))).1))), (7, 24, .val (.bool r4))] [] rfl (by rfl) HH22 rfl rfl hLo rfl HS22 (slS 0 rfl rfl (slS 1 rfl rfl (slS 2 rfl rfl (slS 3 rfl rfl (slS 4 rfl rfl (slS 5 rfl rfl (slS 6 rfl rfl (slS 7 rfl rfl (slS 8 rfl rfl (slS 9 rfl rfl (slS 10 rfl rfl (slS 11 rfl rfl (slS 12 rfl rfl (slS 13 rfl rfl (slS 14 rfl rfl (slS 15 rfl rfl (slS 16 rfl rfl (slS 17 rfl rfl (slS 18 rfl rfl (slS 19 rfl rfl (slS 20 rfl rfl (slS 21 rfl rfl (slL 6 (d := 6) rfl (slL 7 (d := 7) rfl (trivial))))))))))))))))))))))))) ?_ ?_
        · show ∀ i ∈ [0, 1, 2, 3, 4, 5, 6, 7], _
          refine zA (st_at 0 (⟨g12_6, 0, none⟩) rfl rfl rfl (fun _ _ _ _ => rfl) hLo rfl rfl Tryd.underlying25 (by kernel_rfl) rfl (row_at hRow17_0) (fun b G hb ho => zG rfl (HS22.get 16 rfl))) ?_
          refine zA (zD 1 _ rfl rfl hLo rfl rfl (fun _ _ _ _ => rfl) (fun b G w hb ho => zB (.inl rfl) (zG rfl (HS22.get 21 rfl)))) ?_
          refine zA (zT 2 _ #[.agg (FR () 6 ((x).sc)), .string (outK x y (k))] rfl rfl rfl (fun _ _ _ _ => rfl) hLo rfl rfl Tryd.func25 rfl rfl (fun b G hb ho => args2 (zC hLo 0 rfl HS22.1 rfl (hb 0 (by rfl))) (zC hLo 1 rfl HS22.1 rfl (hb 1 (by rfl)))) (fun w hw => (by have hq := num_calls (t := x) (outK x y (k)) (hInx_17.below hw) hRx.rise; rw [hr4] at hq; exact hq))) ?_
          refine zA (zD 3 _ rfl rfl hLo rfl rfl (fun _ _ _ _ => rfl) (fun b G w hb ho => zB (.inl rfl) (zC hLo 2 rfl HS22.1 rfl (hb 2 (by rfl))))) ?_
          refine zA (zD 4 _ rfl rfl hLo rfl rfl (fun _ _ _ _ => rfl) (fun b G w hb ho => zQ rfl (zC hLo 3 rfl HS22.1 rfl (hb 3 (by rfl))) (by rfl))) ?_
          refine zA (zD 5 _ rfl rfl hLo rfl rfl (fun _ _ _ _ => rfl) (fun b G w hb ho => zQ rfl (zC hLo 3 rfl HS22.1 rfl (hb 3 (by rfl))) (by rfl))) ?_
          refine zA (zD 6 _ rfl rfl hLo rfl rfl (fun _ _ _ _ => rfl) (fun b G w hb ho => zB (.inr rfl) (zC hLo 4 rfl HS22.1 rfl (hb 4 (by rfl))))) ?_
          refine zA (zD 7 _ rfl rfl hLo rfl rfl (fun _ _ _ _ => rfl) (fun b G w hb ho => zB (.inr rfl) (zC hLo 5 rfl HS22.1 rfl (hb 5 (by rfl))))) ?_
          exact zF
        clear hLo
        intro G a23 w23 hS hH
        have HS23 : Sl a23 120 [(83, .slice (od) (m) (cd)), (63, .slice (some ⟨gt, 0, none⟩) (3) (3)), (0, .agg (FR () 6 ((p).sc))), (1, .agg (FR () 6 ((q).sc))), (2, .string (user)), (3, .int .i64 (mine)), (4, .pointer (some (⟨g1_0, 0, none⟩))), (5, .pointer (some (⟨g1_1, 0, none⟩))), (25, .slice (some ba) (7) (cn)), (26, .int .i64 (7)), (27, .int .i64 ((i : Int))), (28, .bool false), (64, .int .i64 (3)), (65, .int .i64 ((j : Int))), (66, .bool true), (16, .string (TN (j))), (17, .pointer (some (⟨g12_6, 0, none⟩))), (19, .pointer (some (⟨g13_6, 0, none⟩))), (84, .int .i64 ((m : Int))), (85, .int .i64 ((k : Int))), (86, .bool true), (22, .string (outK x y (k))), (23, .int .i64 (((x).tell (outK x y (k))).1)), (24, .bool r4)] := hS
        have HH23 : Held w15 w23 [] := hH
        clear hS hH HS22 HH22
        refine then_ ?_
        obtain ⟨r5, hr5⟩ : ∃ r : Bool, (mayB x y (outK x y (k)) mine) = r := ⟨_, rfl⟩
        cases r5
        · skip
          refine wp_seq ?_
          have hLo : LOk [(0, 95, .val (.agg (FR () 6 ((x).sc)))), (1, 96, .val (.agg (FR () 6 ((y).sc)))), (2, 97, .val (.string (outK x y (k)))), (3, 98, .val (.int .i64 (mine))), (4, 99, .val (.bool false)), (5, 100, .val (.bool true)), (6, 101, .val (.bool true)), (7, 102, .val (undef)), (8, 103, .val (undef)), (9, 104, .val (undef)), (10, 105, .val (undef)), (11, 106, .val (undef)), (12, 107, .val (undef)), (13, 108, .val (undef)), (14, 109, .val (undef)), (15, 110, .val (undef)), (16, 111, .val (undef)), (17, 112, .val (undef)), (18, 113, .val (undef)), (19, 114, .val (undef)), (20, 115, .val (undef)), (21, 116, .val (undef)), (22, 117, .val (.bool true))] := lok (by rfl) (by rfl)
          refine zH (wE := w15) (sz := 120) (n := 23) [0, 1, 3, 7, 15, 31, 63, 127, 255, 511, 1023, 2047, 4095, 8191, 16383, 32767, 65535, 131071, 262143, 524287, 1048575, 2097151, 4194303] [(83, .val (.slice (od) (m) (cd))), (63, .val (.slice (some ⟨gt, 0, none⟩) (3) (3))), (0, .val (.agg (FR () 6 ((p).sc)))), (1, .val (.agg (FR () 6 ((q).sc)))), (2, .val (.string (user))), (3, .val (.int .i64 (mine))), (4, .val (.pointer (some (⟨g1_0, 0, none⟩)))), (5, .val (.pointer (some (⟨g1_1, 0, none⟩)))), (25, .val (.slice (some ba) (7) (cn))), (26, .val (.int .i64 (7))), (27, .val (.int .i64 ((i : Int)))), (28, .val (.bool false)), (64, .val (.int .i64 (3))), (65, .val (.int .i64 ((j : Int)))), (66, .val (.bool true)), (16, .val (.string (TN (j)))), (17, .val (.pointer (some (⟨g12_6, 0, none⟩)))), (19, .val (.pointer (some (⟨g13_6, 0, none⟩)))), (84, .val (.int .i64 ((m : Int)))), (85, .val (.int .i64 ((k : Int)))), (86, .val (.bool true)), (22, .val (.string (outK x y (k)))), (23, .val (.int .i64 (((x).tell (outK x y (k))).1))), (24, .val (.bool r4)), (117, .val (.bool true))] [(0, 95, .val (.agg (FR () 6 ((x).sc)))), (1, 96, .val (.agg (FR () 6 ((y).sc)))), (2, 97, .val (.string (outK x y (k)))), (3, 98, .val (.int .i64 (mine))), (4, 99, .val (.bool false)), (5, 100, .val (.bool true)), (6, 101, .val (.bool true)), (7, 102, .val (undef)), (8, 103, .val (undef)), (9, 104, .val (undef)), (10, 105, .val (undef)), (11, 106, .val (undef)), (12, 107, .val (undef)), (13, 108, .val (undef)), (14, 109, .val (undef)), (15, 110, .val (undef)), (16, 111, .val (undef)), (17, 112, .val (undef)), (18, 113, .val (undef)), (19, 114, .val (undef)), (20, 115, .val (undef)), (21, 116, .val (undef)), (22, 117, .val (.bool true))] [] rfl (by rfl) HH23 rfl rfl hLo rfl HS23 (slS 0 rfl rfl (slS 1 rfl rfl (slS 2 rfl rfl (slS 3 rfl rfl (slS 4 rfl rfl (slS 5 rfl rfl (slS 6 rfl rfl (slS 7 rfl rfl (slS 8 rfl rfl (slS 9 rfl rfl (slS 10 rfl rfl (slS 11 rfl rfl (slS 12 rfl rfl (slS 13 rfl rfl (slS 14 rfl rfl (slS 15 rfl rfl (slS 16 rfl rfl (slS 17 rfl rfl (slS 18 rfl rfl (slS 19 rfl rfl (slS 20 rfl rfl (slS 21 rfl rfl (slS 22 rfl rfl (slS 23 rfl rfl (slL 22 (d := 22) rfl (trivial)))))))))))))))))))))))))) ?_ ?_
          · show ∀ i ∈ [0, 1, 2, 3, 4, 5, 6, 7, 8, 9, 10, 11, 12, 13, 14, 15, 16, 17, 18, 19, 20, 21, 22], _
            refine zA (st_at 0 (⟨g12_6, 0, none⟩) rfl rfl rfl (fun _ _ _ _ => rfl) hLo rfl rfl Tryd.underlying25 (by kernel_rfl) rfl (row_at hRow17_0) (fun b G hb ho => zG rfl (HS23.get 16 rfl))) ?_
            refine zA (st_at 1 (⟨g13_6, 0, none⟩) rfl rfl rfl (fun _ _ _ _ => rfl) hLo rfl rfl Tryd.underlying25 (by kernel_rfl) rfl (row_at hRow17_1) (fun b G hb ho => zG rfl (HS23.get 17 rfl))) ?_
            refine zA (zD 2 _ rfl rfl hLo rfl rfl (fun _ _ _ _ => rfl) (fun b G w hb ho => zB (.inl rfl) (zG rfl (HS23.get 21 rfl)))) ?_
            refine zA (zD 3 _ rfl rfl hLo rfl rfl (fun _ _ _ _ => rfl) (fun b G w hb ho => zB (.inl rfl) (zG rfl (HS23.get 5 rfl)))) ?_
            refine zA (zT 4 _ #[.agg (FR () 6 ((x).sc)), .agg (FR () 6 ((y).sc)), .string (outK x y (k)), .int .i64 (mine)] rfl rfl rfl (fun _ _ _ _ => rfl) hLo rfl rfl Tryd.func32 rfl rfl (fun b G hb ho => args4 (zC hLo 0 rfl HS23.1 rfl (hb 0 (by rfl))) (zC hLo 1 rfl HS23.1 rfl (hb 1 (by rfl))) (zC hLo 2 rfl HS23.1 rfl (hb 2 (by rfl))) (zC hLo 3 rfl HS23.1 rfl (hb 3 (by rfl)))) (fun w hw => (by have hq := may_calls (a := x) (b := y) (outK x y (k)) mine (hInx_17.below hw) (hIny_17.below hw) hRx hRy; rw [hr5] at hq; exact hq))) ?_
            refine zA (zD 5 _ rfl rfl hLo rfl rfl (fun _ _ _ _ => rfl) (fun b G w hb ho => exec_un rfl (zC hLo 4 rfl HS23.1 rfl (hb 4 (by rfl))) (ru_not _))) ?_
            refine zA (zD 6 _ rfl rfl hLo rfl rfl (fun _ _ _ _ => rfl) (fun b G w hb ho => zB (.inl rfl) (zC hLo 5 rfl HS23.1 rfl (hb 5 (by rfl))))) ?_
            refine zA (zL 7 rfl rfl hLo rfl rfl (fun b G hb ho => zE rfl rfl rfl HS23.1 rfl (zC hLo 6 rfl HS23.1 rfl (hb 6 (by rfl))) rfl)) ?_
            refine zA (zL 8 rfl rfl hLo rfl rfl (fun b G hb ho => zE rfl rfl rfl HS23.1 rfl (zC hLo 6 rfl HS23.1 rfl (hb 6 (by rfl))) rfl)) ?_
            refine zA (zL 9 rfl rfl hLo rfl rfl (fun b G hb ho => zE rfl rfl rfl HS23.1 rfl (zC hLo 6 rfl HS23.1 rfl (hb 6 (by rfl))) rfl)) ?_
            refine zA (zL 10 rfl rfl hLo rfl rfl (fun b G hb ho => wanted_un rfl rfl rfl HS23.1 rfl (zC hLo 9 rfl HS23.1 rfl (hb 9 (by rfl))))) ?_
            refine zA (zL 11 rfl rfl hLo rfl rfl (fun b G hb ho => wanted_un rfl rfl rfl HS23.1 rfl (zC hLo 9 rfl HS23.1 rfl (hb 9 (by rfl))))) ?_
            refine zA (zL 12 rfl rfl hLo rfl rfl (fun b G hb ho => wanted_un rfl rfl rfl HS23.1 rfl (zC hLo 9 rfl HS23.1 rfl (hb 9 (by rfl))))) ?_
            refine zA (zL 13 rfl rfl hLo rfl rfl (fun b G hb ho => zE rfl rfl rfl HS23.1 rfl (zC hLo 6 rfl HS23.1 rfl (hb 6 (by rfl))) rfl)) ?_
            refine zA (zL 14 rfl rfl hLo rfl rfl (fun b G hb ho => zE rfl rfl rfl HS23.1 rfl (zC hLo 6 rfl HS23.1 rfl (hb 6 (by rfl))) rfl)) ?_
            refine zA (zL 15 rfl rfl hLo rfl rfl (fun b G hb ho => wanted_un rfl rfl rfl HS23.1 rfl (zC hLo 14 rfl HS23.1 rfl (hb 14 (by rfl))))) ?_
            refine zA (zL 16 rfl rfl hLo rfl rfl (fun b G hb ho => zE rfl rfl rfl HS23.1 rfl (zC hLo 6 rfl HS23.1 rfl (hb 6 (by rfl))) rfl)) ?_
            refine zA (zL 17 rfl rfl hLo rfl rfl (fun b G hb ho => zE rfl rfl rfl HS23.1 rfl (zC hLo 6 rfl HS23.1 rfl (hb 6 (by rfl))) rfl)) ?_
            refine zA (zL 18 rfl rfl hLo rfl rfl (fun b G hb ho => wanted_un rfl rfl rfl HS23.1 rfl (zC hLo 17 rfl HS23.1 rfl (hb 17 (by rfl))))) ?_
            refine zA (zL 19 rfl rfl hLo rfl rfl (fun b G hb ho => wanted_un rfl rfl rfl HS23.1 rfl (zC hLo 17 rfl HS23.1 rfl (hb 17 (by rfl))))) ?_
            refine zA (zL 20 rfl rfl hLo rfl rfl (fun b G hb ho => wanted_un rfl rfl rfl HS23.1 rfl (zC hLo 17 rfl HS23.1 rfl (hb 17 (by rfl))))) ?_
            refine zA (zL 21 rfl rfl hLo rfl rfl (fun b G hb ho => zE rfl rfl rfl HS23.1 rfl (zC hLo 6 rfl HS23.1 rfl (hb 6 (by rfl))) rfl)) ?_
            refine zA (zD 22 _ rfl rfl hLo rfl rfl (fun _ _ _ _ => rfl) (fun b G w hb ho => zJ rfl (zC hLo 6 rfl HS23.1 rfl (hb 6 (by rfl))) (rfl))) ?_
            exact zF
          clear hLo
          intro G a24 w24 hS hH
          have HS24 : Sl a24 120 [(83, .slice (od) (m) (cd)), (63, .slice (some ⟨gt, 0, none⟩) (3) (3)), (0, .agg (FR () 6 ((p).sc))), (1, .agg (FR () 6 ((q).sc))), (2, .string (user)), (3, .int .i64 (mine)), (4, .pointer (some (⟨g1_0, 0, none⟩))), (5, .pointer (some (⟨g1_1, 0, none⟩))), (25, .slice (some ba) (7) (cn)), (26, .int .i64 (7)), (27, .int .i64 ((i : Int))), (28, .bool false), (64, .int .i64 (3)), (65, .int .i64 ((j : Int))), (66, .bool true), (16, .string (TN (j))), (17, .pointer (some (⟨g12_6, 0, none⟩))), (19, .pointer (some (⟨g13_6, 0, none⟩))), (84, .int .i64 ((m : Int))), (85, .int .i64 ((k : Int))), (86, .bool true), (22, .string (outK x y (k))), (23, .int .i64 (((x).tell (outK x y (k))).1)), (24, .bool r4), (117, .bool true)] := hS
          have HH24 : Held w15 w24 [] := hH
          clear hS hH HS23 HH23
          refine then_ ?_
          refine wp_cond_true (HS24.get 24 rfl) ?_
          refine wp_seq ?_
          have hLo : LOk [(0, 8, .val (.bool false))] := lok (by rfl) (by rfl)
          refine zH (wE := w15) (sz := 120) (n := 1) [0] [(83, .val (.slice (od) (m) (cd))), (63, .val (.slice (some ⟨gt, 0, none⟩) (3) (3))), (0, .val (.agg (FR () 6 ((p).sc)))), (1, .val (.agg (FR () 6 ((q).sc)))), (2, .val (.string (user))), (3, .val (.int .i64 (mine))), (4, .val (.pointer (some (⟨g1_0, 0, none⟩)))), (5, .val (.pointer (some (⟨g1_1, 0, none⟩)))), (25, .val (.slice (some ba) (7) (cn))), (26, .val (.int .i64 (7))), (27, .val (.int .i64 ((i : Int)))), (28, .val (.bool false)), (64, .val (.int .i64 (3))), (65, .val (.int .i64 ((j : Int)))), (66, .val (.bool true)), (16, .val (.string (TN (j)))), (17, .val (.pointer (some (⟨g12_6, 0, none⟩)))), (19, .val (.pointer (some (⟨g13_6, 0, none⟩)))), (84, .val (.int .i64 ((m : Int)))), (85, .val (.int .i64 ((k : Int)))), (86, .val (.bool true)), (22, .val (.string (outK x y (k)))), (23, .val (.int .i64 (((x).tell (outK x y (k))).1))), (24, .val (.bool r4)), (117, .val (.bool true)), (8, .val (.bool false))] [(0, 8, .val (.bool false))] [] rfl (by rfl) HH24 rfl rfl hLo rfl HS24 (slS 0 rfl rfl (slS 1 rfl rfl (slS 2 rfl rfl (slS 3 rfl rfl (slS 4 rfl rfl (slS 5 rfl rfl (slS 6 rfl rfl (slS 7 rfl rfl (slS 8 rfl rfl (slS 9 rfl rfl (slS 10 rfl rfl (slS 11 rfl rfl (slS 12 rfl rfl (slS 13 rfl rfl (slS 14 rfl rfl (slS 15 rfl rfl (slS 16 rfl rfl (slS 17 rfl rfl (slS 18 rfl rfl (slS 19 rfl rfl (slS 20 rfl rfl (slS 21 rfl rfl (slS 22 rfl rfl (slS 23 rfl rfl (slS 24 rfl rfl (slL 0 (d := 0) rfl (trivial))))))))))))))))))))))))))) ?_ ?_
          · show ∀ i ∈ [0], _
            refine zA (zD 0 _ rfl rfl hLo rfl rfl (fun _ _ _ _ => rfl) (fun b G w hb ho => zB (.inr rfl) (rfl))) ?_
            exact zF
          clear hLo
          intro G a25 w25 hS hH
          have HS25 : Sl a25 120 [(83, .slice (od) (m) (cd)), (63, .slice (some ⟨gt, 0, none⟩) (3) (3)), (0, .agg (FR () 6 ((p).sc))), (1, .agg (FR () 6 ((q).sc))), (2, .string (user)), (3, .int .i64 (mine)), (4, .pointer (some (⟨g1_0, 0, none⟩))), (5, .pointer (some (⟨g1_1, 0, none⟩))), (25, .slice (some ba) (7) (cn)), (26, .int .i64 (7)), (27, .int .i64 ((i : Int))), (28, .bool false), (64, .int .i64 (3)), (65, .int .i64 ((j : Int))), (66, .bool true), (16, .string (TN (j))), (17, .pointer (some (⟨g12_6, 0, none⟩))), (19, .pointer (some (⟨g13_6, 0, none⟩))), (84, .int .i64 ((m : Int))), (85, .int .i64 ((k : Int))), (86, .bool true), (22, .string (outK x y (k))), (23, .int .i64 (((x).tell (outK x y (k))).1)), (24, .bool r4), (117, .bool true), (8, .bool false)] := hS
          have HH25 : Held w15 w25 [] := hH
          clear hS hH HS24 HH24
          refine then_ ?_
          refine wp_ret ?_
          repeat (first | refine zS ?_ | refine zN ?_)
          have HH26 := Held.back HH16 HH25
          have HH27 := Held.back HH5 HH26
          exact b_tmp rfl HS25.2.1 (HS25.get 25 rfl) ⟨bool_ret (chg_no2 hltj (by unfold tabOk; rw [← hx, ← hy, ← hm]; exact allB_no hltk (by show (!keyBad x y user mine (TN j) (outK x y k)) = _; unfold keyBad; simp only [hr5, hr4]; try rfl))), HH27.1⟩
        · skip
          obtain ⟨r6, hr6⟩ : ∃ r : Bool, (decide ((TN (j) : ByteArray) = zO)) = r := ⟨_, rfl⟩
          cases r6
          · skip
            refine wp_seq ?_
            have hLo : LOk [(0, 95, .val (.agg (FR () 6 ((x).sc)))), (1, 96, .val (.agg (FR () 6 ((y).sc)))), (2, 97, .val (.string (outK x y (k)))), (3, 98, .val (.int .i64 (mine))), (4, 99, .val (.bool true)), (5, 100, .val (.bool false)), (6, 101, .val (.bool false)), (7, 102, .val (.string (TN (j)))), (8, 103, .val (.bool false)), (9, 104, .val (.bool false)), (10, 105, .val (undef)), (11, 106, .val (undef)), (12, 107, .val (undef)), (13, 108, .val (.bool false)), (14, 109, .val (.bool false)), (15, 110, .val (undef)), (16, 111, .val (.bool false)), (17, 112, .val (.bool false)), (18, 113, .val (undef)), (19, 114, .val (undef)), (20, 115, .val (undef)), (21, 116, .val (.bool false)), (22, 117, .val (.bool false))] := lok (by rfl) (by rfl)
            refine zH (wE := w15) (sz := 120) (n := 23) [0, 1, 3, 7, 15, 31, 63, 127, 255, 511, 1023, 2047, 4095, 8191, 16383, 32767, 65535, 131071, 262143, 524287, 1048575, 2097151, 4194303] [(83, .val (.slice (od) (m) (cd))), (63, .val (.slice (some ⟨gt, 0, none⟩) (3) (3))), (0, .val (.agg (FR () 6 ((p).sc)))), (1, .val (.agg (FR () 6 ((q).sc)))), (2, .val (.string (user))), (3, .val (.int .i64 (mine))), (4, .val (.pointer (some (⟨g1_0, 0, none⟩)))), (5, .val (.pointer (some (⟨g1_1, 0, none⟩)))), (25, .val (.slice (some ba) (7) (cn))), (26, .val (.int .i64 (7))), (27, .val (.int .i64 ((i : Int)))), (28, .val (.bool false)), (64, .val (.int .i64 (3))), (65, .val (.int .i64 ((j : Int)))), (66, .val (.bool true)), (16, .val (.string (TN (j)))), (17, .val (.pointer (some (⟨g12_6, 0, none⟩)))), (19, .val (.pointer (some (⟨g13_6, 0, none⟩)))), (84, .val (.int .i64 ((m : Int)))), (85, .val (.int .i64 ((k : Int)))), (86, .val (.bool true)), (22, .val (.string (outK x y (k)))), (23, .val (.int .i64 (((x).tell (outK x y (k))).1))), (24, .val (.bool r4)), (117, .val (.bool false))] [(0, 95, .val (.agg (FR () 6 ((x).sc)))), (1, 96, .val (.agg (FR () 6 ((y).sc)))), (2, 97, .val (.string (outK x y (k)))), (3, 98, .val (.int .i64 (mine))), (4, 99, .val (.bool true)), (5, 100, .val (.bool false)), (6, 101, .val (.bool false)), (7, 102, .val (.string (TN (j)))), (8, 103, .val (.bool false)), (9, 104, .val (.bool false)), (10, 105, .val (undef)), (11, 106, .val (undef)), (12, 107, .val (undef)), (13, 108, .val (.bool false)), (14, 109, .val (.bool false)), (15, 110, .val (undef)), (16, 111, .val (.bool false)), (17, 112, .val (.bool false)), (18, 113, .val (undef)), (19, 114, .val (undef)), (20, 115, .val (undef)), (21, 116, .val (.bool false)), (22, 117, .val (.bool false))] [] rfl (by rfl) HH23 rfl rfl hLo rfl HS23 (slS 0 rfl rfl (slS 1 rfl rfl (slS 2 rfl rfl (slS 3 rfl rfl (slS 4 rfl rfl (slS 5 rfl rfl (slS 6 rfl rfl (slS 7 rfl rfl (slS 8 rfl rfl (slS 9 rfl rfl (slS 10 rfl rfl (slS 11 rfl rfl (slS 12 rfl rfl (slS 13 rfl rfl (slS 14 rfl rfl (slS 15 rfl rfl (slS 16 rfl rfl (slS 17 rfl rfl (slS 18 rfl rfl (slS 19 rfl rfl (slS 20 rfl rfl (slS 21 rfl rfl (slS 22 rfl rfl (slS 23 rfl rfl (slL 22 (d := 22) rfl (trivial)))))))))))))))))))))))))) ?_ ?_
            · show ∀ i ∈ [0, 1, 2, 3, 4, 5, 6, 7, 8, 9, 10, 11, 12, 13, 14, 15, 16, 17, 18, 19, 20, 21, 22], _
              refine zA (st_at 0 (⟨g12_6, 0, none⟩) rfl rfl rfl (fun _ _ _ _ => rfl) hLo rfl rfl Tryd.underlying25 (by kernel_rfl) rfl (row_at hRow17_0) (fun b G hb ho => zG rfl (HS23.get 16 rfl))) ?_
              refine zA (st_at 1 (⟨g13_6, 0, none⟩) rfl rfl rfl (fun _ _ _ _ => rfl) hLo rfl rfl Tryd.underlying25 (by kernel_rfl) rfl (row_at hRow17_1) (fun b G hb ho => zG rfl (HS23.get 17 rfl))) ?_
              refine zA (zD 2 _ rfl rfl hLo rfl rfl (fun _ _ _ _ => rfl) (fun b G w hb ho => zB (.inl rfl) (zG rfl (HS23.get 21 rfl)))) ?_
              refine zA (zD 3 _ rfl rfl hLo rfl rfl (fun _ _ _ _ => rfl) (fun b G w hb ho => zB (.inl rfl) (zG rfl (HS23.get 5 rfl)))) ?_
              refine zA (zT 4 _ #[.agg (FR () 6 ((x).sc)), .agg (FR () 6 ((y).sc)), .string (outK x y (k)), .int .i64 (mine)] rfl rfl rfl (fun _ _ _ _ => rfl) hLo rfl rfl Tryd.func32 rfl rfl (fun b G hb ho => args4 (zC hLo 0 rfl HS23.1 rfl (hb 0 (by rfl))) (zC hLo 1 rfl HS23.1 rfl (hb 1 (by rfl))) (zC hLo 2 rfl HS23.1 rfl (hb 2 (by rfl))) (zC hLo 3 rfl HS23.1 rfl (hb 3 (by rfl)))) (fun w hw => (by have hq := may_calls (a := x) (b := y) (outK x y (k)) mine (hInx_17.below hw) (hIny_17.below hw) hRx hRy; rw [hr5] at hq; exact hq))) ?_
              refine zA (zD 5 _ rfl rfl hLo rfl rfl (fun _ _ _ _ => rfl) (fun b G w hb ho => exec_un rfl (zC hLo 4 rfl HS23.1 rfl (hb 4 (by rfl))) (ru_not _))) ?_
              refine zA (zD 6 _ rfl rfl hLo rfl rfl (fun _ _ _ _ => rfl) (fun b G w hb ho => zB (.inl rfl) (zC hLo 5 rfl HS23.1 rfl (hb 5 (by rfl))))) ?_
              refine zA (zD 7 _ rfl rfl hLo rfl rfl (fun b G hb ho => zE rfl rfl rfl HS23.1 rfl (zC hLo 6 rfl HS23.1 rfl (hb 6 (by rfl))) rfl) (fun b G w hb ho => zB (.inl rfl) (zG rfl (HS23.get 15 rfl)))) ?_
              refine zA (zD 8 _ rfl rfl hLo rfl rfl (fun b G hb ho => zE rfl rfl rfl HS23.1 rfl (zC hLo 6 rfl HS23.1 rfl (hb 6 (by rfl))) rfl) (fun b G w hb ho => zI rfl (zC hLo 7 rfl HS23.1 rfl (hb 7 (by rfl))) (rfl) (rb_seql hr6 _ _ _))) ?_
              refine zA (zD 9 _ rfl rfl hLo rfl rfl (fun b G hb ho => zE rfl rfl rfl HS23.1 rfl (zC hLo 6 rfl HS23.1 rfl (hb 6 (by rfl))) rfl) (fun b G w hb ho => zB (.inl rfl) (zC hLo 8 rfl HS23.1 rfl (hb 8 (by rfl))))) ?_
              refine zA (zL 10 rfl rfl hLo rfl rfl (fun b G hb ho => zE rfl rfl rfl HS23.1 rfl (zC hLo 9 rfl HS23.1 rfl (hb 9 (by rfl))) rfl)) ?_
              refine zA (zL 11 rfl rfl hLo rfl rfl (fun b G hb ho => zE rfl rfl rfl HS23.1 rfl (zC hLo 9 rfl HS23.1 rfl (hb 9 (by rfl))) rfl)) ?_
              refine zA (zL 12 rfl rfl hLo rfl rfl (fun b G hb ho => zE rfl rfl rfl HS23.1 rfl (zC hLo 9 rfl HS23.1 rfl (hb 9 (by rfl))) rfl)) ?_
              refine zA (zD 13 _ rfl rfl hLo rfl rfl (fun b G hb ho => zE rfl rfl rfl HS23.1 rfl (zC hLo 6 rfl HS23.1 rfl (hb 6 (by rfl))) rfl) (fun b G w hb ho => zJ rfl (zC hLo 9 rfl HS23.1 rfl (hb 9 (by rfl))) (rfl))) ?_
              refine zA (zD 14 _ rfl rfl hLo rfl rfl (fun b G hb ho => zE rfl rfl rfl HS23.1 rfl (zC hLo 6 rfl HS23.1 rfl (hb 6 (by rfl))) rfl) (fun b G w hb ho => zB (.inl rfl) (zC hLo 13 rfl HS23.1 rfl (hb 13 (by rfl))))) ?_
              refine zA (zL 15 rfl rfl hLo rfl rfl (fun b G hb ho => zE rfl rfl rfl HS23.1 rfl (zC hLo 14 rfl HS23.1 rfl (hb 14 (by rfl))) rfl)) ?_
              refine zA (zD 16 _ rfl rfl hLo rfl rfl (fun b G hb ho => zE rfl rfl rfl HS23.1 rfl (zC hLo 6 rfl HS23.1 rfl (hb 6 (by rfl))) rfl) (fun b G w hb ho => zJ rfl (zC hLo 14 rfl HS23.1 rfl (hb 14 (by rfl))) (rfl))) ?_
              refine zA (zD 17 _ rfl rfl hLo rfl rfl (fun b G hb ho => zE rfl rfl rfl HS23.1 rfl (zC hLo 6 rfl HS23.1 rfl (hb 6 (by rfl))) rfl) (fun b G w hb ho => zB (.inl rfl) (zC hLo 16 rfl HS23.1 rfl (hb 16 (by rfl))))) ?_
              refine zA (zL 18 rfl rfl hLo rfl rfl (fun b G hb ho => zE rfl rfl rfl HS23.1 rfl (zC hLo 17 rfl HS23.1 rfl (hb 17 (by rfl))) rfl)) ?_
              refine zA (zL 19 rfl rfl hLo rfl rfl (fun b G hb ho => zE rfl rfl rfl HS23.1 rfl (zC hLo 17 rfl HS23.1 rfl (hb 17 (by rfl))) rfl)) ?_
              refine zA (zL 20 rfl rfl hLo rfl rfl (fun b G hb ho => zE rfl rfl rfl HS23.1 rfl (zC hLo 17 rfl HS23.1 rfl (hb 17 (by rfl))) rfl)) ?_
              refine zA (zD 21 _ rfl rfl hLo rfl rfl (fun b G hb ho => zE rfl rfl rfl HS23.1 rfl (zC hLo 6 rfl HS23.1 rfl (hb 6 (by rfl))) rfl) (fun b G w hb ho => zJ rfl (zC hLo 17 rfl HS23.1 rfl (hb 17 (by rfl))) (rfl))) ?_
              refine zA (zD 22 _ rfl rfl hLo rfl rfl (fun _ _ _ _ => rfl) (fun b G w hb ho => zJ rfl (zC hLo 6 rfl HS23.1 rfl (hb 6 (by rfl))) (zC hLo 21 rfl HS23.1 rfl (hb 21 (by rfl))))) ?_
              exact zF
            clear hLo
            intro G a28 w28 hS hH
            have HS28 : Sl a28 120 [(83, .slice (od) (m) (cd)), (63, .slice (some ⟨gt, 0, none⟩) (3) (3)), (0, .agg (FR () 6 ((p).sc))), (1, .agg (FR () 6 ((q).sc))), (2, .string (user)), (3, .int .i64 (mine)), (4, .pointer (some (⟨g1_0, 0, none⟩))), (5, .pointer (some (⟨g1_1, 0, none⟩))), (25, .slice (some ba) (7) (cn)), (26, .int .i64 (7)), (27, .int .i64 ((i : Int))), (28, .bool false), (64, .int .i64 (3)), (65, .int .i64 ((j : Int))), (66, .bool true), (16, .string (TN (j))), (17, .pointer (some (⟨g12_6, 0, none⟩))), (19, .pointer (some (⟨g13_6, 0, none⟩))), (84, .int .i64 ((m : Int))), (85, .int .i64 ((k : Int))), (86, .bool true), (22, .string (outK x y (k))), (23, .int .i64 (((x).tell (outK x y (k))).1)), (24, .bool r4), (117, .bool false)] := hS
            have HH28 : Held w15 w28 [] := hH
            clear hS hH HS23 HH23
            refine then_ ?_
            refine wp_cond_false (HS28.get 24 rfl) ?_
            refine wp_skip ?_
            refine zR ?_
            refine then_ ?_
            have hLo : LOk [(0, 118, .val (.int .i64 (((k + 1 : Nat) : Int)))), (1, 85, .val (.int .i64 (((k + 1 : Nat) : Int))))] := lok (by rfl) (by rfl)
            refine zH (wE := w15) (sz := 120) (n := 2) [0, 1] [(83, .val (.slice (od) (m) (cd))), (63, .val (.slice (some ⟨gt, 0, none⟩) (3) (3))), (0, .val (.agg (FR () 6 ((p).sc)))), (1, .val (.agg (FR () 6 ((q).sc)))), (2, .val (.string (user))), (3, .val (.int .i64 (mine))), (4, .val (.pointer (some (⟨g1_0, 0, none⟩)))), (5, .val (.pointer (some (⟨g1_1, 0, none⟩)))), (25, .val (.slice (some ba) (7) (cn))), (26, .val (.int .i64 (7))), (27, .val (.int .i64 ((i : Int)))), (28, .val (.bool false)), (64, .val (.int .i64 (3))), (65, .val (.int .i64 ((j : Int)))), (66, .val (.bool true)), (16, .val (.string (TN (j)))), (17, .val (.pointer (some (⟨g12_6, 0, none⟩)))), (19, .val (.pointer (some (⟨g13_6, 0, none⟩)))), (84, .val (.int .i64 ((m : Int)))), (86, .val (.bool true)), (22, .val (.string (outK x y (k)))), (23, .val (.int .i64 (((x).tell (outK x y (k))).1))), (24, .val (.bool r4)), (117, .val (.bool false)), (85, .val (.int .i64 (((k + 1 : Nat) : Int))))] [(0, 118, .val (.int .i64 (((k + 1 : Nat) : Int)))), (1, 85, .val (.int .i64 (((k + 1 : Nat) : Int))))] [] rfl (by rfl) HH28 rfl rfl hLo rfl HS28 (slS 0 rfl rfl (slS 1 rfl rfl (slS 2 rfl rfl (slS 3 rfl rfl (slS 4 rfl rfl (slS 5 rfl rfl (slS 6 rfl rfl (slS 7 rfl rfl (slS 8 rfl rfl (slS 9 rfl rfl (slS 10 rfl rfl (slS 11 rfl rfl (slS 12 rfl rfl (slS 13 rfl rfl (slS 14 rfl rfl (slS 15 rfl rfl (slS 16 rfl rfl (slS 17 rfl rfl (slS 18 rfl rfl (slS 20 rfl rfl (slS 21 rfl rfl (slS 22 rfl rfl (slS 23 rfl rfl (slS 24 rfl rfl (slL 1 (d := 1) rfl (trivial)))))))))))))))))))))))))) ?_ ?_
            · show ∀ i ∈ [0, 1], _
              refine zA (zD 0 _ rfl rfl hLo rfl rfl (fun _ _ _ _ => rfl) (fun b G w hb ho => zI rfl (ev_pre hLo 1 rfl (ho 1 (by rfl)) (HS28.get 19 rfl)) (rfl) (rb_add (w_nat (by omega) (by omega)) _ _ _))) ?_
              refine zA (zD 1 _ rfl rfl hLo rfl rfl (fun _ _ _ _ => rfl) (fun b G w hb ho => zB (.inl rfl) (zC hLo 0 rfl HS28.1 rfl (hb 0 (by rfl))))) ?_
              exact zF
            clear hLo
            intro G a29 w29 hS hH
            have HS29 : Sl a29 120 [(83, .slice (od) (m) (cd)), (63, .slice (some ⟨gt, 0, none⟩) (3) (3)), (0, .agg (FR () 6 ((p).sc))), (1, .agg (FR () 6 ((q).sc))), (2, .string (user)), (3, .int .i64 (mine)), (4, .pointer (some (⟨g1_0, 0, none⟩))), (5, .pointer (some (⟨g1_1, 0, none⟩))), (25, .slice (some ba) (7) (cn)), (26, .int .i64 (7)), (27, .int .i64 ((i : Int))), (28, .bool false), (64, .int .i64 (3)), (65, .int .i64 ((j : Int))), (66, .bool true), (16, .string (TN (j))), (17, .pointer (some (⟨g12_6, 0, none⟩))), (19, .pointer (some (⟨g13_6, 0, none⟩))), (84, .int .i64 ((m : Int))), (86, .bool true), (22, .string (outK x y (k))), (23, .int .i64 (((x).tell (outK x y (k))).1)), (24, .bool r4), (117, .bool false), (85, .int .i64 (((k + 1 : Nat) : Int)))] := hS
            have HH29 : Held w15 w29 [] := hH
            clear hS hH HS28 HH28
            refine then_ ?_
            have hSq2' : Sl _ 120 [(83, .slice (od) (m) (cd)), (63, .slice (some ⟨gt, 0, none⟩) (3) (3)), (0, .agg (FR () 6 ((p).sc))), (1, .agg (FR () 6 ((q).sc))), (2, .string (user)), (3, .int .i64 (mine)), (4, .pointer (some (⟨g1_0, 0, none⟩))), (5, .pointer (some (⟨g1_1, 0, none⟩))), (25, .slice (some ba) (7) (cn)), (26, .int .i64 (7)), (27, .int .i64 ((i : Int))), (28, .bool false), (64, .int .i64 (3)), (65, .int .i64 ((j : Int))), (66, .bool true), (16, .string (TN (j))), (17, .pointer (some (⟨g12_6, 0, none⟩))), (19, .pointer (some (⟨g13_6, 0, none⟩))), (84, .int .i64 ((m : Int))), (85, .int .i64 (((k + 1 : Nat) : Int)))] := sl_keep HS29 [0, 1, 2, 3, 4, 5, 6, 7, 8, 9, 10, 11, 12, 13, 14, 15, 16, 17, 18, 24] (by rfl)
            have hHq2' : Held w15 _ [] := held_keep HH29 0 rfl
            exact ⟨⟨k + 1, by omega, allB_step hpk (by show (!keyBad x y user mine (TN j) (outK x y k)) = _; unfold keyBad; simp only [hr5, hr6, hr4]; try rfl), hSq2', hHq2'⟩, by rw [(hSq2'.get 19 rfl)]; show m - (((k + 1 : Nat) : Int)).toNat < m - k; omega⟩
          · skip
            obtain ⟨r7, hr7⟩ : ∃ r : Bool, (!decide ((outK x y (k) : ByteArray) = user)) = r := ⟨_, rfl⟩
            cases r7
            · skip
              refine wp_seq ?_
              have hLo : LOk [(0, 95, .val (.agg (FR () 6 ((x).sc)))), (1, 96, .val (.agg (FR () 6 ((y).sc)))), (2, 97, .val (.string (outK x y (k)))), (3, 98, .val (.int .i64 (mine))), (4, 99, .val (.bool true)), (5, 100, .val (.bool false)), (6, 101, .val (.bool false)), (7, 102, .val (.string (TN (j)))), (8, 103, .val (.bool true)), (9, 104, .val (.bool true)), (10, 105, .val (.string (outK x y (k)))), (11, 106, .val (.string (user))), (12, 107, .val (.bool false)), (13, 108, .val (.bool false)), (14, 109, .val (.bool false)), (15, 110, .val (undef)), (16, 111, .val (.bool false)), (17, 112, .val (.bool false)), (18, 113, .val (undef)), (19, 114, .val (undef)), (20, 115, .val (undef)), (21, 116, .val (.bool false)), (22, 117, .val (.bool false))] := lok (by rfl) (by rfl)
              refine zH (wE := w15) (sz := 120) (n := 23) [0, 1, 3, 7, 15, 31, 63, 127, 255, 511, 1023, 2047, 4095, 8191, 16383, 32767, 65535, 131071, 262143, 524287, 1048575, 2097151, 4194303] [(83, .val (.slice (od) (m) (cd))), (63, .val (.slice (some ⟨gt, 0, none⟩) (3) (3))), (0, .val (.agg (FR () 6 ((p).sc)))), (1, .val (.agg (FR () 6 ((q).sc)))), (2, .val (.string (user))), (3, .val (.int .i64 (mine))), (4, .val (.pointer (some (⟨g1_0, 0, none⟩)))), (5, .val (.pointer (some (⟨g1_1, 0, none⟩)))), (25, .val (.slice (some ba) (7) (cn))), (26, .val (.int .i64 (7))), (27, .val (.int .i64 ((i : Int)))), (28, .val (.bool false)), (64, .val (.int .i64 (3))), (65, .val (.int .i64 ((j : Int)))), (66, .val (.bool true)), (16, .val (.string (TN (j)))), (17, .val (.pointer (some (⟨g12_6, 0, none⟩)))), (19, .val (.pointer (some (⟨g13_6, 0, none⟩)))), (84, .val (.int .i64 ((m : Int)))), (85, .val (.int .i64 ((k : Int)))), (86, .val (.bool true)), (22, .val (.string (outK x y (k)))), (23, .val (.int .i64 (((x).tell (outK x y (k))).1))), (24, .val (.bool r4)), (117, .val (.bool false))] [(0, 95, .val (.agg (FR () 6 ((x).sc)))), (1, 96, .val (.agg (FR () 6 ((y).sc)))), (2, 97, .val (.string (outK x y (k)))), (3, 98, .val (.int .i64 (mine))), (4, 99, .val (.bool true)), (5, 100, .val (.bool false)), (6, 101, .val (.bool false)), (7, 102, .val (.string (TN (j)))), (8, 103, .val (.bool true)), (9, 104, .val (.bool true)), (10, 105, .val (.string (outK x y (k)))), (11, 106, .val (.string (user))), (12, 107, .val (.bool false)), (13, 108, .val (.bool false)), (14, 109, .val (.bool false)), (15, 110, .val (undef)), (16, 111, .val (.bool false)), (17, 112, .val (.bool false)), (18, 113, .val (undef)), (19, 114, .val (undef)), (20, 115, .val (undef)), (21, 116, .val (.bool false)), (22, 117, .val (.bool false))] [] rfl (by rfl) HH23 rfl rfl hLo rfl HS23 (slS 0 rfl rfl (slS 1 rfl rfl (slS 2 rfl rfl (slS 3 rfl rfl (slS 4 rfl rfl (slS 5 rfl rfl (slS 6 rfl rfl (slS 7 rfl rfl (slS 8 rfl rfl (slS 9 rfl rfl (slS 10 rfl rfl (slS 11 rfl rfl (slS 12 rfl rfl (slS 13 rfl rfl (slS 14 rfl rfl (slS 15 rfl rfl (slS 16 rfl rfl (slS 17 rfl rfl (slS 18 rfl rfl (slS 19 rfl rfl (slS 20 rfl rfl (slS 21 rfl rfl (slS 22 rfl rfl (slS 23 rfl rfl (slL 22 (d := 22) rfl (trivial)))))))))))))))))))))))))) ?_ ?_
              · show ∀ i ∈ [0, 1, 2, 3, 4, 5, 6, 7, 8, 9, 10, 11, 12, 13, 14, 15, 16, 17, 18, 19, 20, 21, 22], _
                refine zA (st_at 0 (⟨g12_6, 0, none⟩) rfl rfl rfl (fun _ _ _ _ => rfl) hLo rfl rfl Tryd.underlying25 (by kernel_rfl) rfl (row_at hRow17_0) (fun b G hb ho => zG rfl (HS23.get 16 rfl))) ?_
                refine zA (st_at 1 (⟨g13_6, 0, none⟩) rfl rfl rfl (fun _ _ _ _ => rfl) hLo rfl rfl Tryd.underlying25 (by kernel_rfl) rfl (row_at hRow17_1) (fun b G hb ho => zG rfl (HS23.get 17 rfl))) ?_
                refine zA (zD 2 _ rfl rfl hLo rfl rfl (fun _ _ _ _ => rfl) (fun b G w hb ho => zB (.inl rfl) (zG rfl (HS23.get 21 rfl)))) ?_
                refine zA (zD 3 _ rfl rfl hLo rfl rfl (fun _ _ _ _ => rfl) (fun b G w hb ho => zB (.inl rfl) (zG rfl (HS23.get 5 rfl)))) ?_
                refine zA (zT 4 _ #[.agg (FR () 6 ((x).sc)), .agg (FR () 6 ((y).sc)), .string (outK x y (k)), .int .i64 (mine)] rfl rfl rfl (fun _ _ _ _ => rfl) hLo rfl rfl Tryd.func32 rfl rfl (fun b G hb ho => args4 (zC hLo 0 rfl HS23.1 rfl (hb 0 (by rfl))) (zC hLo 1 rfl HS23.1 rfl (hb 1 (by rfl))) (zC hLo 2 rfl HS23.1 rfl (hb 2 (by rfl))) (zC hLo 3 rfl HS23.1 rfl (hb 3 (by rfl)))) (fun w hw => (by have hq := may_calls (a := x) (b := y) (outK x y (k)) mine (hInx_17.below hw) (hIny_17.below hw) hRx hRy; rw [hr5] at hq; exact hq))) ?_
                refine zA (zD 5 _ rfl rfl hLo rfl rfl (fun _ _ _ _ => rfl) (fun b G w hb ho => exec_un rfl (zC hLo 4 rfl HS23.1 rfl (hb 4 (by rfl))) (ru_not _))) ?_
                refine zA (zD 6 _ rfl rfl hLo rfl rfl (fun _ _ _ _ => rfl) (fun b G w hb ho => zB (.inl rfl) (zC hLo 5 rfl HS23.1 rfl (hb 5 (by rfl))))) ?_
                refine zA (zD 7 _ rfl rfl hLo rfl rfl (fun b G hb ho => zE rfl rfl rfl HS23.1 rfl (zC hLo 6 rfl HS23.1 rfl (hb 6 (by rfl))) rfl) (fun b G w hb ho => zB (.inl rfl) (zG rfl (HS23.get 15 rfl)))) ?_
                refine zA (zD 8 _ rfl rfl hLo rfl rfl (fun b G hb ho => zE rfl rfl rfl HS23.1 rfl (zC hLo 6 rfl HS23.1 rfl (hb 6 (by rfl))) rfl) (fun b G w hb ho => zI rfl (zC hLo 7 rfl HS23.1 rfl (hb 7 (by rfl))) (rfl) (rb_seql hr6 _ _ _))) ?_
                refine zA (zD 9 _ rfl rfl hLo rfl rfl (fun b G hb ho => zE rfl rfl rfl HS23.1 rfl (zC hLo 6 rfl HS23.1 rfl (hb 6 (by rfl))) rfl) (fun b G w hb ho => zB (.inl rfl) (zC hLo 8 rfl HS23.1 rfl (hb 8 (by rfl))))) ?_
                refine zA (zD 10 _ rfl rfl hLo rfl rfl (fun b G hb ho => zE rfl rfl rfl HS23.1 rfl (zC hLo 9 rfl HS23.1 rfl (hb 9 (by rfl))) rfl) (fun b G w hb ho => zB (.inl rfl) (zG rfl (HS23.get 21 rfl)))) ?_
                refine zA (zD 11 _ rfl rfl hLo rfl rfl (fun b G hb ho => zE rfl rfl rfl HS23.1 rfl (zC hLo 9 rfl HS23.1 rfl (hb 9 (by rfl))) rfl) (fun b G w hb ho => zB (.inl rfl) (zG rfl (HS23.get 4 rfl)))) ?_
                refine zA (zD 12 _ rfl rfl hLo rfl rfl (fun b G hb ho => zE rfl rfl rfl HS23.1 rfl (zC hLo 9 rfl HS23.1 rfl (hb 9 (by rfl))) rfl) (fun b G w hb ho => zI rfl (zC hLo 10 rfl HS23.1 rfl (hb 10 (by rfl))) (zC hLo 11 rfl HS23.1 rfl (hb 11 (by rfl))) (rb_sneq hr7 _ _ _))) ?_
                refine zA (zD 13 _ rfl rfl hLo rfl rfl (fun b G hb ho => zE rfl rfl rfl HS23.1 rfl (zC hLo 6 rfl HS23.1 rfl (hb 6 (by rfl))) rfl) (fun b G w hb ho => zJ rfl (zC hLo 9 rfl HS23.1 rfl (hb 9 (by rfl))) (zC hLo 12 rfl HS23.1 rfl (hb 12 (by rfl))))) ?_
                refine zA (zD 14 _ rfl rfl hLo rfl rfl (fun b G hb ho => zE rfl rfl rfl HS23.1 rfl (zC hLo 6 rfl HS23.1 rfl (hb 6 (by rfl))) rfl) (fun b G w hb ho => zB (.inl rfl) (zC hLo 13 rfl HS23.1 rfl (hb 13 (by rfl))))) ?_
                refine zA (zL 15 rfl rfl hLo rfl rfl (fun b G hb ho => zE rfl rfl rfl HS23.1 rfl (zC hLo 14 rfl HS23.1 rfl (hb 14 (by rfl))) rfl)) ?_
                refine zA (zD 16 _ rfl rfl hLo rfl rfl (fun b G hb ho => zE rfl rfl rfl HS23.1 rfl (zC hLo 6 rfl HS23.1 rfl (hb 6 (by rfl))) rfl) (fun b G w hb ho => zJ rfl (zC hLo 14 rfl HS23.1 rfl (hb 14 (by rfl))) (rfl))) ?_
                refine zA (zD 17 _ rfl rfl hLo rfl rfl (fun b G hb ho => zE rfl rfl rfl HS23.1 rfl (zC hLo 6 rfl HS23.1 rfl (hb 6 (by rfl))) rfl) (fun b G w hb ho => zB (.inl rfl) (zC hLo 16 rfl HS23.1 rfl (hb 16 (by rfl))))) ?_
                refine zA (zL 18 rfl rfl hLo rfl rfl (fun b G hb ho => zE rfl rfl rfl HS23.1 rfl (zC hLo 17 rfl HS23.1 rfl (hb 17 (by rfl))) rfl)) ?_
                refine zA (zL 19 rfl rfl hLo rfl rfl (fun b G hb ho => zE rfl rfl rfl HS23.1 rfl (zC hLo 17 rfl HS23.1 rfl (hb 17 (by rfl))) rfl)) ?_
                refine zA (zL 20 rfl rfl hLo rfl rfl (fun b G hb ho => zE rfl rfl rfl HS23.1 rfl (zC hLo 17 rfl HS23.1 rfl (hb 17 (by rfl))) rfl)) ?_
                refine zA (zD 21 _ rfl rfl hLo rfl rfl (fun b G hb ho => zE rfl rfl rfl HS23.1 rfl (zC hLo 6 rfl HS23.1 rfl (hb 6 (by rfl))) rfl) (fun b G w hb ho => zJ rfl (zC hLo 17 rfl HS23.1 rfl (hb 17 (by rfl))) (rfl))) ?_
                refine zA (zD 22 _ rfl rfl hLo rfl rfl (fun _ _ _ _ => rfl) (fun b G w hb ho => zJ rfl (zC hLo 6 rfl HS23.1 rfl (hb 6 (by rfl))) (zC hLo 21 rfl HS23.1 rfl (hb 21 (by rfl))))) ?_
                exact zF
              clear hLo
              intro G a30 w30 hS hH
              have HS30 : Sl a30 120 [(83, .slice (od) (m) (cd)), (63, .slice (some ⟨gt, 0, none⟩) (3) (3)), (0, .agg (FR () 6 ((p).sc))), (1, .agg (FR () 6 ((q).sc))), (2, .string (user)), (3, .int .i64 (mine)), (4, .pointer (some (⟨g1_0, 0, none⟩))), (5, .pointer (some (⟨g1_1, 0, none⟩))), (25, .slice (some ba) (7) (cn)), (26, .int .i64 (7)), (27, .int .i64 ((i : Int))), (28, .bool false), (64, .int .i64 (3)), (65, .int .i64 ((j : Int))), (66, .bool true), (16, .string (TN (j))), (17, .pointer (some (⟨g12_6, 0, none⟩))), (19, .pointer (some (⟨g13_6, 0, none⟩))), (84, .int .i64 ((m : Int))), (85, .int .i64 ((k : Int))), (86, .bool true), (22, .string (outK x y (k))), (23, .int .i64 (((x).tell (outK x y (k))).1)), (24, .bool r4), (117, .bool false)] := hS
              have HH30 : Held w15 w30 [] := hH
              clear hS hH HS23 HH23
              refine then_ ?_
              refine wp_cond_false (HS30.get 24 rfl) ?_
              refine wp_skip ?_
              refine zR ?_
              refine then_ ?_
              have hLo : LOk [(0, 118, .val (.int .i64 (((k + 1 : Nat) : Int)))), (1, 85, .val (.int .i64 (((k + 1 : Nat) : Int))))] := lok (by rfl) (by rfl)
              refine zH (wE := w15) (sz := 120) (n := 2) [0, 1] [(83, .val (.slice (od) (m) (cd))), (63, .val (.slice (some ⟨gt, 0, none⟩) (3) (3))), (0, .val (.agg (FR () 6 ((p).sc)))), (1, .val (.agg (FR () 6 ((q).sc)))), (2, .val (.string (user))), (3, .val (.int .i64 (mine))), (4, .val (.pointer (some (⟨g1_0, 0, none⟩)))), (5, .val (.pointer (some (⟨g1_1, 0, none⟩)))), (25, .val (.slice (some ba) (7) (cn))), (26, .val (.int .i64 (7))), (27, .val (.int .i64 ((i : Int)))), (28, .val (.bool false)), (64, .val (.int .i64 (3))), (65, .val (.int .i64 ((j : Int)))), (66, .val (.bool true)), (16, .val (.string (TN (j)))), (17, .val (.pointer (some (⟨g12_6, 0, none⟩)))), (19, .val (.pointer (some (⟨g13_6, 0, none⟩)))), (84, .val (.int .i64 ((m : Int)))), (86, .val (.bool true)), (22, .val (.string (outK x y (k)))), (23, .val (.int .i64 (((x).tell (outK x y (k))).1))), (24, .val (.bool r4)), (117, .val (.bool false)), (85, .val (.int .i64 (((k + 1 : Nat) : Int))))] [(0, 118, .val (.int .i64 (((k + 1 : Nat) : Int)))), (1, 85, .val (.int .i64 (((k + 1 : Nat) : Int))))] [] rfl (by rfl) HH30 rfl rfl hLo rfl HS30 (slS 0 rfl rfl (slS 1 rfl rfl (slS 2 rfl rfl (slS 3 rfl rfl (slS 4 rfl rfl (slS 5 rfl rfl (slS 6 rfl rfl (slS 7 rfl rfl (slS 8 rfl rfl (slS 9 rfl rfl (slS 10 rfl rfl (slS 11 rfl rfl (slS 12 rfl rfl (slS 13 rfl rfl (slS 14 rfl rfl (slS 15 rfl rfl (slS 16 rfl rfl (slS 17 rfl rfl (slS 18 rfl rfl (slS 20 rfl rfl (slS 21 rfl rfl (slS 22 rfl rfl (slS 23 rfl rfl (slS 24 rfl rfl (slL 1 (d := 1) rfl (trivial)))))))))))))))))))))))))) ?_ ?_
              · show ∀ i ∈ [0, 1], _
                refine zA (zD 0 _ rfl rfl hLo rfl rfl (fun _ _ _ _ => rfl) (fun b G w hb ho => zI rfl (ev_pre hLo 1 rfl (ho 1 (by rfl)) (HS30.get 19 rfl)) (rfl) (rb_add (w_nat (by omega) (by omega)) _ _ _))) ?_
                refine zA (zD 1 _ rfl rfl hLo rfl rfl (fun _ _ _ _ => rfl) (fun b G w hb ho => zB (.inl rfl) (zC hLo 0 rfl HS30.1 rfl (hb 0 (by rfl))))) ?_
                exact zF
              clear hLo
              intro G a31 w31 hS hH
              have HS31 : Sl a31 120 [(83, .slice (od) (m) (cd)), (63, .slice (some ⟨gt, 0, none⟩) (3) (3)), (0, .agg (FR () 6 ((p).sc))), (1, .agg (FR () 6 ((q).sc))), (2, .string (user)), (3, .int .i64 (mine)), (4, .pointer (some (⟨g1_0, 0, none⟩))), (5, .pointer (some (⟨g1_1, 0, none⟩))), (25, .slice (some ba) (7) (cn)), (26, .int .i64 (7)), (27, .int .i64 ((i : Int))), (28, .bool false), (64, .int .i64 (3)), (65, .int .i64 ((j : Int))), (66, .bool true), (16, .string (TN (j))), (17, .pointer (some (⟨g12_6, 0, none⟩))), (19, .pointer (some (⟨g13_6, 0, none⟩))), (84, .int .i64 ((m : Int))), (86, .bool true), (22, .string (outK x y (k))), (23, .int .i64 (((x).tell (outK x y (k))).1)), (24, .bool r4), (117, .bool false), (85, .int .i64 (((k + 1 : Nat) : Int)))] := hS
              have HH31 : Held w15 w31 [] := hH
              clear hS hH HS30 HH30
              refine then_ ?_
              have hSq2' : Sl _ 120 [(83, .slice (od) (m) (cd)), (63, .slice (some ⟨gt, 0, none⟩) (3) (3)), (0, .agg (FR () 6 ((p).sc))), (1, .agg (FR () 6 ((q).sc))), (2, .string (user)), (3, .int .i64 (mine)), (4, .pointer (some (⟨g1_0, 0, none⟩))), (5, .pointer (some (⟨g1_1, 0, none⟩))), (25, .slice (some ba) (7) (cn)), (26, .int .i64 (7)), (27, .int .i64 ((i : Int))), (28, .bool false), (64, .int .i64 (3)), (65, .int .i64 ((j : Int))), (66, .bool true), (16, .string (TN (j))), (17, .pointer (some (⟨g12_6, 0, none⟩))), (19, .pointer (some (⟨g13_6, 0, none⟩))), (84, .int .i64 ((m : Int))), (85, .int .i64 (((k + 1 : Nat) : Int)))] := sl_keep HS31 [0, 1, 2, 3, 4, 5, 6, 7, 8, 9, 10, 11, 12, 13, 14, 15, 16, 17, 18, 24] (by rfl)
              have hHq2' : Held w15 _ [] := held_keep HH31 0 rfl
              exact ⟨⟨k + 1, by omega, allB_step hpk (by show (!keyBad x y user mine (TN j) (outK x y k)) = _; unfold keyBad; simp only [hr5, hr6, hr7, hr4]; try rfl), hSq2', hHq2'⟩, by rw [(hSq2'.get 19 rfl)]; show m - (((k + 1 : Nat) : Int)).toNat < m - k; omega⟩
            · skip
              cases r4
              · skip
                refine wp_seq ?_
                have hLo : LOk [(0, 95, .val (.agg (FR () 6 ((x).sc)))), (1, 96, .val (.agg (FR () 6 ((y).sc)))), (2, 97, .val (.string (outK x y (k)))), (3, 98, .val (.int .i64 (mine))), (4, 99, .val (.bool true)), (5, 100, .val (.bool false)), (6, 101, .val (.bool false)), (7, 102, .val (.string (TN (j)))), (8, 103, .val (.bool true)), (9, 104, .val (.bool true)), (10, 105, .val (.string (outK x y (k)))), (11, 106, .val (.string (user))), (12, 107, .val (.bool true)), (13, 108, .val (.bool true)), (14, 109, .val (.bool true)), (15, 110, .val (.bool false)), (16, 111, .val (.bool false)), (17, 112, .val (.bool false)), (18, 113, .val (undef)), (19, 114, .val (undef)), (20, 115, .val (undef)), (21, 116, .val (.bool false)), (22, 117, .val (.bool false))] := lok (by rfl) (by rfl)
                refine zH (wE := w15) (sz := 120) (n := 23) [0, 1, 3, 7, 15, 31, 63, 127, 255, 511, 1023, 2047, 4095, 8191, 16383, 32767, 65535, 131071, 262143, 524287, 1048575, 2097151, 4194303] [(83, .val (.slice (od) (m) (cd))), (63, .val (.slice (some ⟨gt, 0, none⟩) (3) (3))), (0, .val (.agg (FR () 6 ((p).sc)))), (1, .val (.agg (FR () 6 ((q).sc)))), (2, .val (.string (user))), (3, .val (.int .i64 (mine))), (4, .val (.pointer (some (⟨g1_0, 0, none⟩)))), (5, .val (.pointer (some (⟨g1_1, 0, none⟩)))), (25, .val (.slice (some ba) (7) (cn))), (26, .val (.int .i64 (7))), (27, .val (.int .i64 ((i : Int)))), (28, .val (.bool false)), (64, .val (.int .i64 (3))), (65, .val (.int .i64 ((j : Int)))), (66, .val (.bool true)), (16, .val (.string (TN (j)))), (17, .val (.pointer (some (⟨g12_6, 0, none⟩)))), (19, .val (.pointer (some (⟨g13_6, 0, none⟩)))), (84, .val (.int .i64 ((m : Int)))), (85, .val (.int .i64 ((k : Int)))), (86, .val (.bool true)), (22, .val (.string (outK x y (k)))), (23, .val (.int .i64 (((x).tell (outK x y (k))).1))), (24, .val (.bool false)), (117, .val (.bool false))] [(0, 95, .val (.agg (FR () 6 ((x).sc)))), (1, 96, .val (.agg (FR () 6 ((y).sc)))), (2, 97, .val (.string (outK x y (k)))), (3, 98, .val (.int .i64 (mine))), (4, 99, .val (.bool true)), (5, 100, .val (.bool false)), (6, 101, .val (.bool false)), (7, 102, .val (.string (TN (j)))), (8, 103, .val (.bool true)), (9, 104, .val (.bool true)), (10, 105, .val (.string (outK x y (k)))), (11, 106, .val (.string (user))), (12, 107, .val (.bool true)), (13, 108, .val (.bool true)), (14, 109, .val (.bool true)), (15, 110, .val (.bool false)), (16, 111, .val (.bool false)), (17, 112, .val (.bool false)), (18, 113, .val (undef)), (19, 114, .val (undef)), (20, 115, .val (undef)), (21, 116, .val (.bool false)), (22, 117, .val (.bool false))] [] rfl (by rfl) HH23 rfl rfl hLo rfl HS23 (slS 0 rfl rfl (slS 1 rfl rfl (slS 2 rfl rfl (slS 3 rfl rfl (slS 4 rfl rfl (slS 5 rfl rfl (slS 6 rfl rfl (slS 7 rfl rfl (slS 8 rfl rfl (slS 9 rfl rfl (slS 10 rfl rfl (slS 11 rfl rfl (slS 12 rfl rfl (slS 13 rfl rfl (slS 14 rfl rfl (slS 15 rfl rfl (slS 16 rfl rfl (slS 17 rfl rfl (slS 18 rfl rfl (slS 19 rfl rfl (slS 20 rfl rfl (slS 21 rfl rfl (slS 22 rfl rfl (slS 23 rfl rfl (slL 22 (d := 22) rfl (trivial)))))))))))))))))))))))))) ?_ ?_
                · show ∀ i ∈ [0, 1, 2, 3, 4, 5, 6, 7, 8, 9, 10, 11, 12, 13, 14, 15, 16, 17, 18, 19, 20, 21, 22], _
                  refine zA (st_at 0 (⟨g12_6, 0, none⟩) rfl rfl rfl (fun _ _ _ _ => rfl) hLo rfl rfl Tryd.underlying25 (by kernel_rfl) rfl (row_at hRow17_0) (fun b G hb ho => zG rfl (HS23.get 16 rfl))) ?_
                  refine zA (st_at 1 (⟨g13_6, 0, none⟩) rfl rfl rfl (fun _ _ _ _ => rfl) hLo rfl rfl Tryd.underlying25 (by kernel_rfl) rfl (row_at hRow17_1) (fun b G hb ho => zG rfl (HS23.get 17 rfl))) ?_
                  refine zA (zD 2 _ rfl rfl hLo rfl rfl (fun _ _ _ _ => rfl) (fun b G w hb ho => zB (.inl rfl) (zG rfl (HS23.get 21 rfl)))) ?_
                  refine zA (zD 3 _ rfl rfl hLo rfl rfl (fun _ _ _ _ => rfl) (fun b G w hb ho => zB (.inl rfl) (zG rfl (HS23.get 5 rfl)))) ?_
                  refine zA (zT 4 _ #[.agg (FR () 6 ((x).sc)), .agg (FR () 6 ((y).sc)), .string (outK x y (k)), .int .i64 (mine)] rfl rfl rfl (fun _ _ _ _ => rfl) hLo rfl rfl Tryd.func32 rfl rfl (fun b G hb ho => args4 (zC hLo 0 rfl HS23.1 rfl (hb 0 (by rfl))) (zC hLo 1 rfl HS23.1 rfl (hb 1 (by rfl))) (zC hLo 2 rfl HS23.1 rfl (hb 2 (by rfl))) (zC hLo 3 rfl HS23.1 rfl (hb 3 (by rfl)))) (fun w hw => (by have hq := may_calls (a := x) (b := y) (outK x y (k)) mine (hInx_17.below hw) (hIny_17.below hw) hRx hRy; rw [hr5] at hq; exact hq))) ?_
                  refine zA (zD 5 _ rfl rfl hLo rfl rfl (fun _ _ _ _ => rfl) (fun b G w hb ho => exec_un rfl (zC hLo 4 rfl HS23.1 rfl (hb 4 (by rfl))) (ru_not _))) ?_
                  refine zA (zD 6 _ rfl rfl hLo rfl rfl (fun _ _ _ _ => rfl) (fun b G w hb ho => zB (.inl rfl) (zC hLo 5 rfl HS23.1 rfl (hb 5 (by rfl))))) ?_
                  refine zA (zD 7 _ rfl rfl hLo rfl rfl (fun b G hb ho => zE rfl rfl rfl HS23.1 rfl (zC hLo 6 rfl HS23.1 rfl (hb 6 (by rfl))) rfl) (fun b G w hb ho => zB (.inl rfl) (zG rfl (HS23.get 15 rfl)))) ?_
                  refine zA (zD 8 _ rfl rfl hLo rfl rfl (fun b G hb ho => zE rfl rfl rfl HS23.1 rfl (zC hLo 6 rfl HS23.1 rfl (hb 6 (by rfl))) rfl) (fun b G w hb ho => zI rfl (zC hLo 7 rfl HS23.1 rfl (hb 7 (by rfl))) (rfl) (rb_seql hr6 _ _ _))) ?_
                  refine zA (zD 9 _ rfl rfl hLo rfl rfl (fun b G hb ho => zE rfl rfl rfl HS23.1 rfl (zC hLo 6 rfl HS23.1 rfl (hb 6 (by rfl))) rfl) (fun b G w hb ho => zB (.inl rfl) (zC hLo 8 rfl HS23.1 rfl (hb 8 (by rfl))))) ?_
                  refine zA (zD 10 _ rfl rfl hLo rfl rfl (fun b G hb ho => zE rfl rfl rfl HS23.1 rfl (zC hLo 9 rfl HS23.1 rfl (hb 9 (by rfl))) rfl) (fun b G w hb ho => zB (.inl rfl) (zG rfl (HS23.get 21 rfl)))) ?_
                  refine zA (zD 11 _ rfl rfl hLo rfl rfl (fun b G hb ho => zE rfl rfl rfl HS23.1 rfl (zC hLo 9 rfl HS23.1 rfl (hb 9 (by rfl))) rfl) (fun b G w hb ho => zB (.inl rfl) (zG rfl (HS23.get 4 rfl)))) ?_
                  refine zA (zD 12 _ rfl rfl hLo rfl rfl (fun b G hb ho => zE rfl rfl rfl HS23.1 rfl (zC hLo 9 rfl HS23.1 rfl (hb 9 (by rfl))) rfl) (fun b G w hb ho => zI rfl (zC hLo 10 rfl HS23.1 rfl (hb 10 (by rfl))) (zC hLo 11 rfl HS23.1 rfl (hb 11 (by rfl))) (rb_sneq hr7 _ _ _))) ?_
                  refine zA (zD 13 _ rfl rfl hLo rfl rfl (fun b G hb ho => zE rfl rfl rfl HS23.1 rfl (zC hLo 6 rfl HS23.1 rfl (hb 6 (by rfl))) rfl) (fun b G w hb ho => zJ rfl (zC hLo 9 rfl HS23.1 rfl (hb 9 (by rfl))) (zC hLo 12 rfl HS23.1 rfl (hb 12 (by rfl))))) ?_
                  refine zA (zD 14 _ rfl rfl hLo rfl rfl (fun b G hb ho => zE rfl rfl rfl HS23.1 rfl (zC hLo 6 rfl HS23.1 rfl (hb 6 (by rfl))) rfl) (fun b G w hb ho => zB (.inl rfl) (zC hLo 13 rfl HS23.1 rfl (hb 13 (by rfl))))) ?_
                  refine zA (zD 15 _ rfl rfl hLo rfl rfl (fun b G hb ho => zE rfl rfl rfl HS23.1 rfl (zC hLo 14 rfl HS23.1 rfl (hb 14 (by rfl))) rfl) (fun b G w hb ho => zB (.inl rfl) (zG rfl (HS23.get 23 rfl)))) ?_
                  refine zA (zD 16 _ rfl rfl hLo rfl rfl (fun b G hb ho => zE rfl rfl rfl HS23.1 rfl (zC hLo 6 rfl HS23.1 rfl (hb 6 (by rfl))) rfl) (fun b G w hb ho => zJ rfl (zC hLo 14 rfl HS23.1 rfl (hb 14 (by rfl))) (zC hLo 15 rfl HS23.1 rfl (hb 15 (by rfl))))) ?_
                  refine zA (zD 17 _ rfl rfl hLo rfl rfl (fun b G hb ho => zE rfl rfl rfl HS23.1 rfl (zC hLo 6 rfl HS23.1 rfl (hb 6 (by rfl))) rfl) (fun b G w hb ho => zB (.inl rfl) (zC hLo 16 rfl HS23.1 rfl (hb 16 (by rfl))))) ?_
                  refine zA (zL 18 rfl rfl hLo rfl rfl (fun b G hb ho => zE rfl rfl rfl HS23.1 rfl (zC hLo 17 rfl HS23.1 rfl (hb 17 (by rfl))) rfl)) ?_
                  refine zA (zL 19 rfl rfl hLo rfl rfl (fun b G hb ho => zE rfl rfl rfl HS23.1 rfl (zC hLo 17 rfl HS23.1 rfl (hb 17 (by rfl))) rfl)) ?_
                  refine zA (zL 20 rfl rfl hLo rfl rfl (fun b G hb ho => zE rfl rfl rfl HS23.1 rfl (zC hLo 17 rfl HS23.1 rfl (hb 17 (by rfl))) rfl)) ?_
                  refine zA (zD 21 _ rfl rfl hLo rfl rfl (fun b G hb ho => zE rfl rfl rfl HS23.1 rfl (zC hLo 6 rfl HS23.1 rfl (hb 6 (by rfl))) rfl) (fun b G w hb ho => zJ rfl (zC hLo 17 rfl HS23.1 rfl (hb 17 (by rfl))) (rfl))) ?_
                  refine zA (zD 22 _ rfl rfl hLo rfl rfl (fun _ _ _ _ => rfl) (fun b G w hb ho => zJ rfl (zC hLo 6 rfl HS23.1 rfl (hb 6 (by rfl))) (zC hLo 21 rfl HS23.1 rfl (hb 21 (by rfl))))) ?_
                  exact zF
                clear hLo
                intro G a32 w32 hS hH
                have HS32 : Sl a32 120 [(83, .slice (od) (m) (cd)), (63, .slice (some ⟨gt, 0, none⟩) (3) (3)), (0, .agg (FR () 6 ((p).sc))), (1, .agg (FR () 6 ((q).sc))), (2, .string (user)), (3, .int .i64 (mine)), (4, .pointer (some (⟨g1_0, 0, none⟩))), (5, .pointer (some (⟨g1_1, 0, none⟩))), (25, .slice (some ba) (7) (cn)), (26, .int .i64 (7)), (27, .int .i64 ((i : Int))), (28, .bool false), (64, .int .i64 (3)), (65, .int .i64 ((j : Int))), (66, .bool true), (16, .string (TN (j))), (17, .pointer (some (⟨g12_6, 0, none⟩))), (19, .pointer (some (⟨g13_6, 0, none⟩))), (84, .int .i64 ((m : Int))), (85, .int .i64 ((k : Int))), (86, .bool true), (22, .string (outK x y (k))), (23, .int .i64 (((x).tell (outK x y (k))).1)), (24, .bool false), (117, .bool false)] := hS
                have HH32 : Held w15 w32 [] := hH
                clear hS hH HS23 HH23
                refine then_ ?_
                refine wp_cond_false (HS32.get 24 rfl) ?_
                refine wp_skip ?_
                refine zR ?_
                refine then_ ?_
                have hLo : LOk [(0, 118, .val (.int .i64 (((k + 1 : Nat) : Int)))), (1, 85, .val (.int .i64 (((k + 1 : Nat) : Int))))] := lok (by rfl) (by rfl)
                refine zH (wE := w15) (sz := 120) (n := 2) [0, 1] [(83, .val (.slice (od) (m) (cd))), (63, .val (.slice (some ⟨gt, 0, none⟩) (3) (3))), (0, .val (.agg (FR () 6 ((p).sc)))), (1, .val (.agg (FR () 6 ((q).sc)))), (2, .val (.string (user))), (3, .val (.int .i64 (mine))), (4, .val (.pointer (some (⟨g1_0, 0, none⟩)))), (5, .val (.pointer (some (⟨g1_1, 0, none⟩)))), (25, .val (.slice (some ba) (7) (cn))), (26, .val (.int .i64 (7))), (27, .val (.int .i64 ((i : Int)))), (28, .val (.bool false)), (64, .val (.int .i64 (3))), (65, .val (.int .i64 ((j : Int)))), (66, .val (.bool true)), (16, .val (.string (TN (j)))), (17, .val (.pointer (some (⟨g12_6, 0, none⟩)))), (19, .val (.pointer (some (⟨g13_6, 0, none⟩)))), (84, .val (.int .i64 ((m : Int)))), (86, .val (.bool true)), (22, .val (.string (outK x y (k)))), (23, .val (.int .i64 (((x).tell (outK x y (k))).1))), (24, .val (.bool false)), (117, .val (.bool false)), (85, .val (.int .i64 (((k + 1 : Nat) : Int))))] [(0, 118, .val (.int .i64 (((k + 1 : Nat) : Int)))), (1, 85, .val (.int .i64 (((k + 1 : Nat) : Int))))] [] rfl (by rfl) HH32 rfl rfl hLo rfl HS32 (slS 0 rfl rfl (slS 1 rfl rfl (slS 2 rfl rfl (slS 3 rfl rfl (slS 4 rfl rfl (slS 5 rfl rfl (slS 6 rfl rfl (slS 7 rfl rfl (slS 8 rfl rfl (slS 9 rfl rfl (slS 10 rfl rfl (slS 11 rfl rfl (slS 12 rfl rfl (slS 13 rfl rfl (slS 14 rfl rfl (slS 15 rfl rfl (slS 16 rfl rfl (slS 17 rfl rfl (slS 18 rfl rfl (slS 20 rfl rfl (slS 21 rfl rfl (slS 22 rfl rfl (slS 23 rfl rfl (slS 24 rfl rfl (slL 1 (d := 1) rfl (trivial)))))))))))))))))))))))))) ?_ ?_
                · show ∀ i ∈ [0, 1], _
                  refine zA (zD 0 _ rfl rfl hLo rfl rfl (fun _ _ _ _ => rfl) (fun b G w hb ho => zI rfl (ev_pre hLo 1 rfl (ho 1 (by rfl)) (HS32.get 19 rfl)) (rfl) (rb_add (w_nat (by omega) (by omega)) _ _ _))) ?_
                  refine zA (zD 1 _ rfl rfl hLo rfl rfl (fun _ _ _ _ => rfl) (fun b G w hb ho => zB (.inl rfl) (zC hLo 0 rfl HS32.1 rfl (hb 0 (by rfl))))) ?_
                  exact zF
                clear hLo
                intro G a33 w33 hS hH
                have HS33 : Sl a33 120 [(83, .slice (od) (m) (cd)), (63, .slice (some ⟨gt, 0, none⟩) (3) (3)), (0, .agg (FR () 6 ((p).sc))), (1, .agg (FR () 6 ((q).sc))), (2, .string (user)), (3, .int .i64 (mine)), (4, .pointer (some (⟨g1_0, 0, none⟩))), (5, .pointer (some (⟨g1_1, 0, none⟩))), (25, .slice (some ba) (7) (cn)), (26, .int .i64 (7)), (27, .int .i64 ((i : Int))), (28, .bool false), (64, .int .i64 (3)), (65, .int .i64 ((j : Int))), (66, .bool true), (16, .string (TN (j))), (17, .pointer (some (⟨g12_6, 0, none⟩))), (19, .pointer (some (⟨g13_6, 0, none⟩))), (84, .int .i64 ((m : Int))), (86, .bool true), (22, .string (outK x y (k))), (23, .int .i64 (((x).tell (outK x y (k))).1)), (24, .bool false), (117, .bool false), (85, .int .i64 (((k + 1 : Nat) : Int)))] := hS
                have HH33 : Held w15 w33 [] := hH
                clear hS hH HS32 HH32
                refine then_ ?_
                have hSq2' : Sl _ 120 [(83, .slice (od) (m) (cd)), (63, .slice (some ⟨gt, 0, none⟩) (3) (3)), (0, .agg (FR () 6 ((p).sc))), (1, .agg (FR () 6 ((q).sc))), (2, .string (user)), (3, .int .i64 (mine)), (4, .pointer (some (⟨g1_0, 0, none⟩))), (5, .pointer (some (⟨g1_1, 0, none⟩))), (25, .slice (some ba) (7) (cn)), (26, .int .i64 (7)), (27, .int .i64 ((i : Int))), (28, .bool false), (64, .int .i64 (3)), (65, .int .i64 ((j : Int))), (66, .bool true), (16, .string (TN (j))), (17, .pointer (some (⟨g12_6, 0, none⟩))), (19, .pointer (some (⟨g13_6, 0, none⟩))), (84, .int .i64 ((m : Int))), (85, .int .i64 (((k + 1 : Nat) : Int)))] := sl_keep HS33 [0, 1, 2, 3, 4, 5, 6, 7, 8, 9, 10, 11, 12, 13, 14, 15, 16, 17, 18, 24] (by rfl)
                have hHq2' : Held w15 _ [] := held_keep HH33 0 rfl
                exact ⟨⟨k + 1, by omega, allB_step hpk (by show (!keyBad x y user mine (TN j) (outK x y k)) = _; unfold keyBad; simp only [hr5, hr6, hr7, hr4]; try rfl), hSq2', hHq2'⟩, by rw [(hSq2'.get 19 rfl)]; show m - (((k + 1 : Nat) : Int)).toNat < m - k; omega⟩
              · skip
                obtain ⟨r8, hr8⟩ : ∃ r : Bool, (decide ((mine : Int) ≤ ((x).tell (outK x y (k))).1)) = r := ⟨_, rfl⟩
                refine wp_seq ?_
                have hLo : LOk [(0, 95, .val (.agg (FR () 6 ((x).sc)))), (1, 96, .val (.agg (FR () 6 ((y).sc)))), (2, 97, .val (.string (outK x y (k)))), (3, 98, .val (.int .i64 (mine))), (4, 99, .val (.bool true)), (5, 100, .val (.bool false)), (6, 101, .val (.bool false)), (7, 102, .val (.string (TN (j)))), (8, 103, .val (.bool true)), (9, 104, .val (.bool true)), (10, 105, .val (.string (outK x y (k)))), (11, 106, .val (.string (user))), (12, 107, .val (.bool true)), (13, 108, .val (.bool true)), (14, 109, .val (.bool true)), (15, 110, .val (.bool true)), (16, 111, .val (.bool true)), (17, 112, .val (.bool true)), (18, 113, .val (.int .i64 (((x).tell (outK x y (k))).1))), (19, 114, .val (.int .i64 (mine))), (20, 115, .val (.bool r8)), (21, 116, .val (.bool r8)), (22, 117, .val (.bool r8))] := lok (by rfl) (by rfl)
                refine zH (wE := w15) (sz := 120) (n := 23) [0, 1, 3, 7, 15, 31, 63, 127, 255, 511, 1023, 2047, 4095, 8191, 16383, 32767, 65535, 131071, 262143, 524287, 1048575, 2097151, 4194303] [(83, .val (.slice (od) (m) (cd))), (63, .val (.slice (some ⟨gt, 0, none⟩) (3) (3))), (0, .val (.agg (FR () 6 ((p).sc)))), (1, .val (.agg (FR () 6 ((q).sc)))), (2, .val (.string (user))), (3, .val (.int .i64 (mine))), (4, .val (.pointer (some (⟨g1_0, 0, none⟩)))), (5, .val (.pointer (some (⟨g1_1, 0, none⟩)))), (25, .val (.slice (some ba) (7) (cn))), (26, .val (.int .i64 (7))), (27, .val (.int .i64 ((i : Int)))), (28, .val (.bool false)), (64, .val (.int .i64 (3))), (65, .val (.int .i64 ((j : Int)))), (66, .val (.bool true)), (16, .val (.string (TN (j)))), (17, .val (.pointer (some (⟨g12_6, 0, none⟩)))), (19, .val (.pointer (some (⟨g13_6, 0, none⟩)))), (84, .val (.int .i64 ((m : Int)))), (85, .val (.int .i64 ((k : Int)))), (86, .val (.bool true)), (22, .val (.string (outK x y (k)))), (23, .val (.int .i64 (((x).tell (outK x y (k))).1))), (24, .val (.bool true)), (117, .val (.bool r8))] [(0, 95, .val (.agg (FR () 6 ((x).sc)))), (1, 96, .val (.agg (FR () 6 ((y).sc)))), (2, 97, .val (.string (outK x y (k)))), (3, 98, .val (.int .i64 (mine))), (4, 99, .val (.bool true)), (5, 100, .val (.bool false)), (6, 101, .val (.bool false)), (7, 102, .val (.string (TN (j)))), (8, 103, .val (.bool true)), (9, 104, .val (.bool true)), (10, 105, .val (.string (outK x y (k)))), (11, 106, .val (.string (user))), (12, 107, .val (.bool true)), (13, 108, .val (.bool true)), (14, 109, .val (.bool true)), (15, 110, .val (.bool true)), (16, 111, .val (.bool true)), (17, 112, .val (.bool true)), (18, 113, .val (.int .i64 (((x).tell (outK x y (k))).1))), (19, 114, .val (.int .i64 (mine))), (20, 115, .val (.bool r8)), (21, 116, .val (.bool r8)), (22, 117, .val (.bool r8))] [] rfl (by rfl) HH23 rfl rfl hLo rfl HS23 (slS 0 rfl rfl (slS 1 rfl rfl (slS 2 rfl rfl (slS 3 rfl rfl (slS 4 rfl rfl (slS 5 rfl rfl (slS 6 rfl rfl (slS 7 rfl rfl (slS 8 rfl rfl (slS 9 rfl rfl (slS 10 rfl rfl (slS 11 rfl rfl (slS 12 rfl rfl (slS 13 rfl rfl (slS 14 rfl rfl (slS 15 rfl rfl (slS 16 rfl rfl (slS 17 rfl rfl (slS 18 rfl rfl (slS 19 rfl rfl (slS 20 rfl rfl (slS 21 rfl rfl (slS 22 rfl rfl (slS 23 rfl rfl (slL 22 (d := 22) rfl (trivial)))))))))))))))))))))))))) ?_ ?_
                · show ∀ i ∈ [0, 1, 2, 3, 4, 5, 6, 7, 8, 9, 10, 11, 12, 13, 14, 15, 16, 17, 18, 19, 20, 21, 22], _
                  refine zA (st_at 0 (⟨g12_6, 0, none⟩) rfl rfl rfl (fun _ _ _ _ => rfl) hLo rfl rfl Tryd.underlying25 (by kernel_rfl) rfl (row_at hRow17_0) (fun b G hb ho => zG rfl (HS23.get 16 rfl))) ?_
                  refine zA (st_at 1 (⟨g13_6, 0, none⟩) rfl rfl rfl (fun _ _ _ _ => rfl) hLo rfl rfl Tryd.underlying25 (by kernel_rfl) rfl (row_at hRow17_1) (fun b G hb ho => zG rfl (HS23.get 17 rfl))) ?_
                  refine zA (zD 2 _ rfl rfl hLo rfl rfl (fun _ _ _ _ => rfl) (fun b G w hb ho => zB (.inl rfl) (zG rfl (HS23.get 21 rfl)))) ?_
                  refine zA (zD 3 _ rfl rfl hLo rfl rfl (fun _ _ _ _ => rfl) (fun b G w hb ho => zB (.inl rfl) (zG rfl (HS23.get 5 rfl)))) ?_
                  refine zA (zT 4 _ #[.agg (FR () 6 ((x).sc)), .agg (FR () 6 ((y).sc)), .string (outK x y (k)), .int .i64 (mine)] rfl rfl rfl (fun _ _ _ _ => rfl) hLo rfl rfl Tryd.func32 rfl rfl (fun b G hb ho => args4 (zC hLo 0 rfl HS23.1 rfl (hb 0 (by rfl))) (zC hLo 1 rfl HS23.1 rfl (hb 1 (by rfl))) (zC hLo 2 rfl HS23.1 rfl (hb 2 (by rfl))) (zC hLo 3 rfl HS23.1 rfl (hb 3 (by rfl)))) (fun w hw => (by have hq := may_calls (a := x) (b := y) (outK x y (k)) mine (hInx_17.below hw) (hIny_17.below hw) hRx hRy; rw [hr5] at hq; exact hq))) ?_
                  refine zA (zD 5 _ rfl rfl hLo rfl rfl (fun _ _ _ _ => rfl) (fun b G w hb ho => exec_un rfl (zC hLo 4 rfl HS23.1 rfl (hb 4 (by rfl))) (ru_not _))) ?_
                  refine zA (zD 6 _ rfl rfl hLo rfl rfl (fun _ _ _ _ => rfl) (fun b G w hb ho => zB (.inl rfl) (zC hLo 5 rfl HS23.1 rfl (hb 5 (by rfl))))) ?_
                  refine zA (zD 7 _ rfl rfl hLo rfl rfl (fun b G hb ho => zE rfl rfl rfl HS23.1 rfl (zC hLo 6 rfl HS23.1 rfl (hb 6 (by rfl))) rfl) (fun b G w hb ho => zB (.inl rfl) (zG rfl (HS23.get 15 rfl)))) ?_
                  refine zA (zD 8 _ rfl rfl hLo rfl rfl (fun b G hb ho => zE rfl rfl rfl HS23.1 rfl (zC hLo 6 rfl HS23.1 rfl (hb 6 (by rfl))) rfl) (fun b G w hb ho => zI rfl (zC hLo 7 rfl HS23.1 rfl (hb 7 (by rfl))) (rfl) (rb_seql hr6 _ _ _))) ?_
                  refine zA (zD 9 _ rfl rfl hLo rfl rfl (fun b G hb ho => zE rfl rfl rfl HS23.1 rfl (zC hLo 6 rfl HS23.1 rfl (hb 6 (by rfl))) rfl) (fun b G w hb ho => zB (.inl rfl) (zC hLo 8 rfl HS23.1 rfl (hb 8 (by rfl))))) ?_
                  refine zA (zD 10 _ rfl rfl hLo rfl rfl (fun b G hb ho => zE rfl rfl rfl HS23.1 rfl (zC hLo 9 rfl HS23.1 rfl (hb 9 (by rfl))) rfl) (fun b G w hb ho => zB (.inl rfl) (zG rfl (HS23.get 21 rfl)))) ?_
                  refine zA (zD 11 _ rfl rfl hLo rfl rfl (fun b G hb ho => zE rfl rfl rfl HS23.1 rfl (zC hLo 9 rfl HS23.1 rfl (hb 9 (by rfl))) rfl) (fun b G w hb ho => zB (.inl rfl) (zG rfl (HS23.get 4 rfl)))) ?_
                  refine zA (zD 12 _ rfl rfl hLo rfl rfl (fun b G hb ho => zE rfl rfl rfl HS23.1 rfl (zC hLo 9 rfl HS23.1 rfl (hb 9 (by rfl))) rfl) (fun b G w hb ho => zI rfl (zC hLo 10 rfl HS23.1 rfl (hb 10 (by rfl))) (zC hLo 11 rfl HS23.1 rfl (hb 11 (by rfl))) (rb_sneq hr7 _ _ _))) ?_
                  refine zA (zD 13 _ rfl rfl hLo rfl rfl (fun b G hb ho => zE rfl rfl rfl HS23.1 rfl (zC hLo 6 rfl HS23.1 rfl (hb 6 (by rfl))) rfl) (fun b G w hb ho => zJ rfl (zC hLo 9 rfl HS23.1 rfl (hb 9 (by rfl))) (zC hLo 12 rfl HS23.1 rfl (hb 12 (by rfl))))) ?_
                  refine zA (zD 14 _ rfl rfl hLo rfl rfl (fun b G hb ho => zE rfl rfl rfl HS23.1 rfl (zC hLo 6 rfl HS23.1 rfl (hb 6 (by rfl))) rfl) (fun b G w hb ho => zB (.inl rfl) (zC hLo 13 rfl HS23.1 rfl (hb 13 (by rfl))))) ?_
                  refine zA (zD 15 _ rfl rfl hLo rfl rfl (fun b G hb ho => zE rfl rfl rfl HS23.1 rfl (zC hLo 14 rfl HS23.1 rfl (hb 14 (by rfl))) rfl) (fun b G w hb ho => zB (.inl rfl) (zG rfl (HS23.get 23 rfl)))) ?_
                  refine zA (zD 16 _ rfl rfl hLo rfl rfl (fun b G hb ho => zE rfl rfl rfl HS23.1 rfl (zC hLo 6 rfl HS23.1 rfl (hb 6 (by rfl))) rfl) (fun b G w hb ho => zJ rfl (zC hLo 14 rfl HS23.1 rfl (hb 14 (by rfl))) (zC hLo 15 rfl HS23.1 rfl (hb 15 (by rfl))))) ?_
                  refine zA (zD 17 _ rfl rfl hLo rfl rfl (fun b G hb ho => zE rfl rfl rfl HS23.1 rfl (zC hLo 6 rfl HS23.1 rfl (hb 6 (by rfl))) rfl) (fun b G w hb ho => zB (.inl rfl) (zC hLo 16 rfl HS23.1 rfl (hb 16 (by rfl))))) ?_
                  refine zA (zD 18 _ rfl rfl hLo rfl rfl (fun b G hb ho => zE rfl rfl rfl HS23.1 rfl (zC hLo 17 rfl HS23.1 rfl (hb 17 (by rfl))) rfl) (fun b G w hb ho => zB (.inl rfl) (zG rfl (HS23.get 22 rfl)))) ?_
                  refine zA (zD 19 _ rfl rfl hLo rfl rfl (fun b G hb ho => zE rfl rfl rfl HS23.1 rfl (zC hLo 17 rfl HS23.1 rfl (hb 17 (by rfl))) rfl) (fun b G w hb ho => zB (.inl rfl) (zG rfl (HS23.get 5 rfl)))) ?_
                  refine zA (zD 20 _ rfl rfl hLo rfl rfl (fun b G hb ho => zE rfl rfl rfl HS23.1 rfl (zC hLo 17 rfl HS23.1 rfl (hb 17 (by rfl))) rfl) (fun b G w hb ho => zI rfl (zC hLo 18 rfl HS23.1 rfl (hb 18 (by rfl))) (zC hLo 19 rfl HS23.1 rfl (hb 19 (by rfl))) (rb_geq hr8 _ _ _))) ?_
                  refine zA (zD 21 _ rfl rfl hLo rfl rfl (fun b G hb ho => zE rfl rfl rfl HS23.1 rfl (zC hLo 6 rfl HS23.1 rfl (hb 6 (by rfl))) rfl) (fun b G w hb ho => zJ rfl (zC hLo 17 rfl HS23.1 rfl (hb 17 (by rfl))) (zC hLo 20 rfl HS23.1 rfl (hb 20 (by rfl))))) ?_
                  refine zA (zD 22 _ rfl rfl hLo rfl rfl (fun _ _ _ _ => rfl) (fun b G w hb ho => zJ rfl (zC hLo 6 rfl HS23.1 rfl (hb 6 (by rfl))) (zC hLo 21 rfl HS23.1 rfl (hb 21 (by rfl))))) ?_
                  exact zF
                clear hLo
                intro G a34 w34 hS hH
                have HS34 : Sl a34 120 [(83, .slice (od) (m) (cd)), (63, .slice (some ⟨gt, 0, none⟩) (3) (3)), (0, .agg (FR () 6 ((p).sc))), (1, .agg (FR () 6 ((q).sc))), (2, .string (user)), (3, .int .i64 (mine)), (4, .pointer (some (⟨g1_0, 0, none⟩))), (5, .pointer (some (⟨g1_1, 0, none⟩))), (25, .slice (some ba) (7) (cn)), (26, .int .i64 (7)), (27, .int .i64 ((i : Int))), (28, .bool false), (64, .int .i64 (3)), (65, .int .i64 ((j : Int))), (66, .bool true), (16, .string (TN (j))), (17, .pointer (some (⟨g12_6, 0, none⟩))), (19, .pointer (some (⟨g13_6, 0, none⟩))), (84, .int .i64 ((m : Int))), (85, .int .i64 ((k : Int))), (86, .bool true), (22, .string (outK x y (k))), (23, .int .i64 (((x).tell (outK x y (k))).1)), (24, .bool true), (117, .bool r8)] := hS
                have HH34 : Held w15 w34 [] := hH
                clear hS hH HS23 HH23
                refine then_ ?_
                cases r8
                · skip
                  refine wp_cond_false (HS34.get 24 rfl) ?_
                  refine wp_skip ?_
                  refine zR ?_
                  refine then_ ?_
                  have hLo : LOk [(0, 118, .val (.int .i64 (((k + 1 : Nat) : Int)))), (1, 85, .val (.int .i64 (((k + 1 : Nat) : Int))))] := lok (by rfl) (by rfl)
                  refine zH (wE := w15) (sz := 120) (n := 2) [0, 1] [(83, .val (.slice (od) (m) (cd))), (63, .val (.slice (some ⟨gt, 0, none⟩) (3) (3))), (0, .val (.agg (FR () 6 ((p).sc)))), (1, .val (.agg (FR () 6 ((q).sc)))), (2, .val (.string (user))), (3, .val (.int .i64 (mine))), (4, .val (.pointer (some (⟨g1_0, 0, none⟩)))), (5, .val (.pointer (some (⟨g1_1, 0, none⟩)))), (25, .val (.slice (some ba) (7) (cn))), (26, .val (.int .i64 (7))), (27, .val (.int .i64 ((i : Int)))), (28, .val (.bool false)), (64, .val (.int .i64 (3))), (65, .val (.int .i64 ((j : Int)))), (66, .val (.bool true)), (16, .val (.string (TN (j)))), (17, .val (.pointer (some (⟨g12_6, 0, none⟩)))), (19, .val (.pointer (some (⟨g13_6, 0, none⟩)))), (84, .val (.int .i64 ((m : Int)))), (86, .val (.bool true)), (22, .val (.string (outK x y (k)))), (23, .val (.int .i64 (((x).tell (outK x y (k))).1))), (24, .val (.bool true)), (117, .val (.bool false)), (85, .val (.int .i64 (((k + 1 : Nat) : Int))))] [(0, 118, .val (.int .i64 (((k + 1 : Nat) : Int)))), (1, 85, .val (.int .i64 (((k + 1 : Nat) : Int))))] [] rfl (by rfl) HH34 rfl rfl hLo rfl HS34 (slS 0 rfl rfl (slS 1 rfl rfl (slS 2 rfl rfl (slS 3 rfl rfl (slS 4 rfl rfl (slS 5 rfl rfl (slS 6 rfl rfl (slS 7 rfl rfl (slS 8 rfl rfl (slS 9 rfl rfl (slS 10 rfl rfl (slS 11 rfl rfl (slS 12 rfl rfl (slS 13 rfl rfl (slS 14 rfl rfl (slS 15 rfl rfl (slS 16 rfl rfl (slS 17 rfl rfl (slS 18 rfl rfl (slS 20 rfl rfl (slS 21 rfl rfl (slS 22 rfl rfl (slS 23 rfl rfl (slS 24 rfl rfl (slL 1 (d := 1) rfl (trivial)))))))))))))))))))))))))) ?_ ?_
                  · show ∀ i ∈ [0, 1], _
                    refine zA (zD 0 _ rfl rfl hLo rfl rfl (fun _ _ _ _ => rfl) (fun b G w hb ho => zI rfl (ev_pre hLo 1 rfl (ho 1 (by rfl)) (HS34.get 19 rfl)) (rfl) (rb_add (w_nat (by omega) (by omega)) _ _ _))) ?_
                    refine zA (zD 1 _ rfl rfl hLo rfl rfl (fun _ _ _ _ => rfl) (fun b G w hb ho => zB (.inl rfl) (zC hLo 0 rfl HS34.1 rfl (hb 0 (by rfl))))) ?_
                    exact zF
                  clear hLo
                  intro G a35 w35 hS hH
                  have HS35 : Sl a35 120 [(83, .slice (od) (m) (cd)), (63, .slice (some ⟨gt, 0, none⟩) (3) (3)), (0, .agg (FR () 6 ((p).sc))), (1, .agg (FR () 6 ((q).sc))), (2, .string (user)), (3, .int .i64 (mine)), (4, .pointer (some (⟨g1_0, 0, none⟩))), (5, .pointer (some (⟨g1_1, 0, none⟩))), (25, .slice (some ba) (7) (cn)), (26, .int .i64 (7)), (27, .int .i64 ((i : Int))), (28, .bool false), (64, .int .i64 (3)), (65, .int .i64 ((j : Int))), (66, .bool true), (16, .string (TN (j))), (17, .pointer (some (⟨g12_6, 0, none⟩))), (19, .pointer (some (⟨g13_6, 0, none⟩))), (84, .int .i64 ((m : Int))), (86, .bool true), (22, .string (outK x y (k))), (23, .int .i64 (((x).tell (outK x y (k))).1)), (24, .bool true), (117, .bool false), (85, .int .i64 (((k + 1 : Nat) : Int)))] := hS
                  have HH35 : Held w15 w35 [] := hH
                  clear hS hH HS34 HH34
                  refine then_ ?_
                  have hSq2' : Sl _ 120 [(83, .slice (od) (m) (cd)), (63, .slice (some ⟨gt, 0, none⟩) (3) (3)), (0, .agg (FR () 6 ((p).sc))), (1, .agg (FR () 6 ((q).sc))), (2, .string (user)), (3, .int .i64 (mine)), (4, .pointer (some (⟨g1_0, 0, none⟩))), (5, .pointer (some (⟨g1_1, 0, none⟩))), (25, .slice (some ba) (7) (cn)), (26, .int .i64 (7)), (27, .int .i64 ((i : Int))), (28, .bool false), (64, .int .i64 (3)), (65, .int .i64 ((j : Int))), (66, .bool true), (16, .string (TN (j))), (17, .pointer (some (⟨g12_6, 0, none⟩))), (19, .pointer (some (⟨g13_6, 0, none⟩))), (84, .int .i64 ((m : Int))), (85, .int .i64 (((k + 1 : Nat) : Int)))] := sl_keep HS35 [0, 1, 2, 3, 4, 5, 6, 7, 8, 9, 10, 11, 12, 13, 14, 15, 16, 17, 18, 24] (by rfl)
                  have hHq2' : Held w15 _ [] := held_keep HH35 0 rfl
                  exact ⟨⟨k + 1, by omega, allB_step hpk (by show (!keyBad x y user mine (TN j) (outK x y k)) = _; unfold keyBad; simp only [hr5, hr6, hr7, hr4, hr8]; try rfl), hSq2', hHq2'⟩, by rw [(hSq2'.get 19 rfl)]; show m - (((k + 1 : Nat) : Int)).toNat < m - k; omega⟩
                · skip
                  refine wp_cond_true (HS34.get 24 rfl) ?_
                  refine wp_seq ?_
                  have hLo : LOk [(0, 8, .val (.bool false))] := lok (by rfl) (by rfl)
                  refine zH (wE := w15) (sz := 120) (n := 1) [0] [(83, .val (.slice (od) (m) (cd))), (63, .val (.slice (some ⟨gt, 0, none⟩) (3) (3))), (0, .val (.agg (FR () 6 ((p).sc)))), (1, .val (.agg (FR () 6 ((q).sc)))), (2, .val (.string (user))), (3, .val (.int .i64 (mine))), (4, .val (.pointer (some (⟨g1_0, 0, none⟩)))), (5, .val (.pointer (some (⟨g1_1, 0, none⟩)))), (25, .val (.slice (some ba) (7) (cn))), (26, .val (.int .i64 (7))), (27, .val (.int .i64 ((i : Int)))), (28, .val (.bool false)), (64, .val (.int .i64 (3))), (65, .val (.int .i64 ((j : Int)))), (66, .val (.bool true)), (16, .val (.string (TN (j)))), (17, .val (.pointer (some (⟨g12_6, 0, none⟩)))), (19, .val (.pointer (some (⟨g13_6, 0, none⟩)))), (84, .val (.int .i64 ((m : Int)))), (85, .val (.int .i64 ((k : Int)))), (86, .val (.bool true)), (22, .val (.string (outK x y (k)))), (23, .val (.int .i64 (((x).tell (outK x y (k))).1))), (24, .val (.bool true)), (117, .val (.bool true)), (8, .val (.bool false))] [(0, 8, .val (.bool false))] [] rfl (by rfl) HH34 rfl rfl hLo rfl HS34 (slS 0 rfl rfl (slS 1 rfl rfl (slS 2 rfl rfl (slS 3 rfl rfl (slS 4 rfl rfl (slS 5 rfl rfl (slS 6 rfl rfl (slS 7 rfl rfl (slS 8 rfl rfl (slS 9 rfl rfl (slS 10 rfl rfl (slS 11 rfl rfl (slS 12 rfl rfl (slS 13 rfl rfl (slS 14 rfl rfl (slS 15 rfl rfl (slS 16 rfl rfl (slS 17 rfl rfl (slS 18 rfl rfl (slS 19 rfl rfl (slS 20 rfl rfl (slS 21 rfl rfl (slS 22 rfl rfl (slS 23 rfl rfl (slS 24 rfl rfl (slL 0 (d := 0) rfl (trivial))))))))))))))))))))))))))) ?_ ?_
                  · show ∀ i ∈ [0], _
                    refine zA (zD 0 _ rfl rfl hLo rfl rfl (fun _ _ _ _ => rfl) (fun b G w hb ho => zB (.inr rfl) (rfl))) ?_
                    exact zF
                  clear hLo
                  intro G a36 w36 hS hH
                  have HS36 : Sl a36 120 [(83, .slice (od) (m) (cd)), (63, .slice (some ⟨gt, 0, none⟩) (3) (3)), (0, .agg (FR () 6 ((p).sc))), (1, .agg (FR () 6 ((q).sc))), (2, .string (user)), (3, .int .i64 (mine)), (4, .pointer (some (⟨g1_0, 0, none⟩))), (5, .pointer (some (⟨g1_1, 0, none⟩))), (25, .slice (some ba) (7) (cn)), (26, .int .i64 (7)), (27, .int .i64 ((i : Int))), (28, .bool false), (64, .int .i64 (3)), (65, .int .i64 ((j : Int))), (66, .bool true), (16, .string (TN (j))), (17, .pointer (some (⟨g12_6, 0, none⟩))), (19, .pointer (some (⟨g13_6, 0, none⟩))), (84, .int .i64 ((m : Int))), (85, .int .i64 ((k : Int))), (86, .bool true), (22, .string (outK x y (k))), (23, .int .i64 (((x).tell (outK x y (k))).1)), (24, .bool true), (117, .bool true), (8, .bool false)] := hS
                  have HH36 : Held w15 w36 [] := hH
                  clear hS hH HS34 HH34
                  refine then_ ?_
                  refine wp_ret ?_
                  repeat (first | refine zS ?_ | refine zN ?_)
                  have HH37 := Held.back HH16 HH36
                  have HH38 := Held.back HH5 HH37
                  exact b_tmp rfl HS36.2.1 (HS36.get 25 rfl) ⟨bool_ret (chg_no2 hltj (by unfold tabOk; rw [← hx, ← hy, ← hm]; exact allB_no hltk (by show (!keyBad x y user mine (TN j) (outK x y k)) = _; unfold keyBad; simp only [hr5, hr6, hr7, hr4, hr8]; try rfl))), HH38.1⟩
  · skip
    have hlti : i < 7 := by have := of_decide_eq_true hr1; omega
    refine wp_cond_true (HS3.get 9 rfl) ?_
    refine wp_skip ?_
    refine then_ ?_
    refine wp_seq ?_
    refine wp_block ?_
    refine wp_seq ?_
    have hLo : LOk [(0, 29, .val (.pointer (some (ba.add ((i) * 2))))), (1, 30, .val (.agg (FR () 2 (lsc (ent (i)))))), (2, 10, .new 2 (fun g => .pointer (some ⟨g, 0, none⟩)))] := lok (by rfl) (by rfl)
    refine zH (wE := w) (sz := 120) (n := 4) [0, 1, 3, 7] [(0, .val (.agg (FR () 6 ((p).sc)))), (1, .val (.agg (FR () 6 ((q).sc)))), (2, .val (.string (user))), (3, .val (.int .i64 (mine))), (4, .val (.pointer (some ⟨g1_0, 0, none⟩))), (5, .val (.pointer (some ⟨g1_1, 0, none⟩))), (25, .val (.slice (some ba) (7) (cn))), (26, .val (.int .i64 (7))), (27, .val (.int .i64 ((i : Int)))), (28, .val (.bool true)), (10, .new 2 (fun g => .pointer (some ⟨g, 0, none⟩)))] [(0, 29, .val (.pointer (some (ba.add ((i) * 2))))), (1, 30, .val (.agg (FR () 2 (lsc (ent (i)))))), (2, 10, .new 2 (fun g => .pointer (some ⟨g, 0, none⟩)))] [⟨g1_0, none, none, (), 6, (p).sc, (p).sc, 25⟩, ⟨g1_1, none, none, (), 6, (q).sc, (q).sc, 25⟩, ⟨0, some 2, some 3, (), 2, lsc [.s (ByteArray.empty), .i .i64 (0)], lsc (ent (i)), 48⟩] rfl (by rfl) HH3 rfl rfl hLo rfl HS3 (slS 0 rfl rfl (slS 1 rfl rfl (slS 2 rfl rfl (slS 3 rfl rfl (slS 4 rfl rfl (slS 5 rfl rfl (slS 6 rfl rfl (slS 7 rfl rfl (slS 8 rfl rfl (slS 9 rfl rfl (slL 2 (d := 2) rfl (trivial)))))))))))) ?_ ?_
    · show ∀ i ∈ [0, 1, 2, 3], _
      refine zA (zD 0 _ rfl rfl hLo rfl rfl (fun _ _ _ _ => rfl) (fun b G w hb ho => exec_indexAddr rfl (zG rfl (HS3.get 6 rfl)) (zG rfl (HS3.get 8 rfl)) (index_sl Tryd.underlying47 (by kernel_rfl) rfl hlti _))) ?_
      refine zA (st_at 1 (ba.add ((i) * 2)) rfl rfl rfl (fun _ _ _ _ => rfl) hLo rfl rfl Tryd.underlying48 (by kernel_rfl) rfl (TT.at hT hlti) (fun b G hb ho => zC hLo 0 rfl HS3.1 rfl (hb 0 (by rfl)))) ?_
      refine zA (zX 2 2 () 2 48 (some 3) _ _ rfl rfl (fun _ _ _ _ => rfl) rfl hLo rfl rfl rfl rfl (by rfl) (fun b G w _ _ => by kernel_rfl)) ?_
      refine zA (st_store 2 _ rfl rfl rfl rfl rfl (fun _ _ _ _ => rfl) rfl rfl rfl (by rfl) (by kernel_rfl) (fun b G hb ho => zC hLo 2 rfl HS3.1 rfl (hb 2 (by rfl))) (fun b G hb ho => zC hLo 1 rfl HS3.1 rfl (hb 1 (by rfl)))) ?_
      exact zF
    clear hLo
    intro G a39 w39 hS hH
    have HS39 : Sl a39 120 [(0, .agg (FR () 6 ((p).sc))), (1, .agg (FR () 6 ((q).sc))), (2, .string (user)), (3, .int .i64 (mine)), (4, .pointer (some ⟨g1_0, 0, none⟩)), (5, .pointer (some ⟨g1_1, 0, none⟩)), (25, .slice (some ba) (7) (cn)), (26, .int .i64 (7)), (27, .int .i64 ((i : Int))), (28, .bool true), (10, .pointer (some ⟨(G 2), 0, none⟩))] := hS
    have HH39 : Held w w39 [⟨g1_0, (), 6, (p).sc, 25⟩, ⟨g1_1, (), 6, (q).sc, 25⟩, ⟨(G 2), (), 2, lsc (ent (i)), 48⟩] := hH
    clear hS hH HS3 HH3
    generalize G 2 = g39_2 at HS39 HH39
    refine then_ ?_
    obtain ⟨r9, hr9⟩ : ∃ r : Bool, (((p).tell (NM (i))).2) = r := ⟨_, rfl⟩
    refine wp_seq ?_
    have hLo : LOk [(0, 32, .val (.agg (FR () 6 ((p).sc)))), (1, 33, .val (.pointer (some ⟨g39_2, 0, none⟩))), (2, 34, .val (.string (NM (i)))), (3, 35, .val (.tuple #[.int .i64 (((p).tell (NM (i))).1), .bool r9])), (4, 31, .val (.tuple #[.int .i64 (((p).tell (NM (i))).1), .bool r9])), (5, 36, .val (.int .i64 (((p).tell (NM (i))).1))), (6, 37, .val (.bool r9)), (7, 11, .val (.int .i64 (((p).tell (NM (i))).1))), (8, 12, .val (.bool r9))] := lok (by rfl) (by rfl)
    refine zH (wE := w) (sz := 120) (n := 9) [0, 1, 3, 7, 15, 31, 63, 127, 255] [(0, .val (.agg (FR () 6 ((p).sc)))), (1, .val (.agg (FR () 6 ((q).sc)))), (2, .val (.string (user))), (3, .val (.int .i64 (mine))), (4, .val (.pointer (some ⟨g1_0, 0, none⟩))), (5, .val (.pointer (some ⟨g1_1, 0, none⟩))), (25, .val (.slice (some ba) (7) (cn))), (26, .val (.int .i64 (7))), (27, .val (.int .i64 ((i : Int)))), (28, .val (.bool true)), (10, .val (.pointer (some ⟨g39_2, 0, none⟩))), (11, .val (.int .i64 (((p).tell (NM (i))).1))), (12, .val (.bool r9))] [(0, 32, .val (.agg (FR () 6 ((p).sc)))), (1, 33, .val (.pointer (some ⟨g39_2, 0, none⟩))), (2, 34, .val (.string (NM (i)))), (3, 35, .val (.tuple #[.int .i64 (((p).tell (NM (i))).1), .bool r9])), (4, 31, .val (.tuple #[.int .i64 (((p).tell (NM (i))).1), .bool r9])), (5, 36, .val (.int .i64 (((p).tell (NM (i))).1))), (6, 37, .val (.bool r9)), (7, 11, .val (.int .i64 (((p).tell (NM (i))).1))), (8, 12, .val (.bool r9))] [⟨g1_0, none, none, (), 6, (p).sc, (p).sc, 25⟩, ⟨g1_1, none, none, (), 6, (q).sc, (q).sc, 25⟩, ⟨g39_2, none, none, (), 2, lsc (ent (i)), lsc (ent (i)), 48⟩] rfl (by rfl) HH39 rfl rfl hLo rfl HS39 (slS 0 rfl rfl (slS 1 rfl rfl (slS 2 rfl rfl (slS 3 rfl rfl (slS 4 rfl rfl (slS 5 rfl rfl (slS 6 rfl rfl (slS 7 rfl rfl (slS 8 rfl rfl (slS 9 rfl rfl (slS 10 rfl rfl (slL 7 (d := 7) rfl (slL 8 (d := 8) rfl (trivial)))))))))))))) ?_ ?_
    · show ∀ i ∈ [0, 1, 2, 3, 4, 5, 6, 7, 8], _
      refine zA (zY 0 0 _ rfl rfl rfl rfl (fun _ _ _ _ => rfl) hLo rfl rfl rfl (by rfl) Tryd.underlying25 (by kernel_rfl) rfl (fun b G hb ho => zG rfl (HS39.get 4 rfl))) ?_
      refine zA (zD 1 _ rfl rfl hLo rfl rfl (fun _ _ _ _ => rfl) (fun b G w hb ho => zV rfl (zG rfl (HS39.get 10 rfl)) (by kernel_rfl))) ?_
      refine zA (st_read 2 2 _ _ rfl rfl rfl hLo rfl rfl (fun _ _ _ _ => rfl) (by rfl) (by rfl) (fun b G w hb ho hr => zW hr (Nat.le_of_ble_eq_true rfl) Tryd.underlying9 rfl rfl (zC hLo 1 rfl HS39.1 rfl (hb 1 (by rfl))))) ?_
      refine zA (zT 3 _ #[.agg (FR () 6 ((p).sc)), .string (NM (i))] rfl rfl rfl (fun _ _ _ _ => rfl) hLo rfl rfl Tryd.func25 rfl rfl (fun b G hb ho => args2 (zC hLo 0 rfl HS39.1 rfl (hb 0 (by rfl))) (zC hLo 2 rfl HS39.1 rfl (hb 2 (by rfl)))) (fun w hw => (by have hq := num_calls (t := p) (NM (i)) (hInp.below hw) hRp.rise; rw [hr9] at hq; exact hq))) ?_
      refine zA (zD 4 _ rfl rfl hLo rfl rfl (fun _ _ _ _ => rfl) (fun b G w hb ho => zB (.inl rfl) (zC hLo 3 rfl HS39.1 rfl (hb 3 (by rfl))))) ?_
      refine zA (zD 5 _ rfl rfl hLo rfl rfl (fun _ _ _ _ => rfl) (fun b G w hb ho => zQ rfl (zC hLo 4 rfl HS39.1 rfl (hb 4 (by rfl))) (by rfl))) ?_
      refine zA (zD 6 _ rfl rfl hLo rfl rfl (fun _ _ _ _ => rfl) (fun b G w hb ho => zQ rfl (zC hLo 4 rfl HS39.1 rfl (hb 4 (by rfl))) (by rfl))) ?_
      refine zA (zD 7 _ rfl rfl hLo rfl rfl (fun _ _ _ _ => rfl) (fun b G w hb ho => zB (.inr rfl) (zC hLo 5 rfl HS39.1 rfl (hb 5 (by rfl))))) ?_
      refine zA (zD 8 _ rfl rfl hLo rfl rfl (fun _ _ _ _ => rfl) (fun b G w hb ho => zB (.inr rfl) (zC hLo 6 rfl HS39.1 rfl (hb 6 (by rfl))))) ?_
      exact zF
    clear hLo
    intro G a40 w40 hS hH
    have HS40 : Sl a40 120 [(0, .agg (FR () 6 ((p).sc))), (1, .agg (FR () 6 ((q).sc))), (2, .string (user)), (3, .int .i64 (mine)), (4, .pointer (some ⟨g1_0, 0, none⟩)), (5, .pointer (some ⟨g1_1, 0, none⟩)), (25, .slice (some ba) (7) (cn)), (26, .int .i64 (7)), (27, .int .i64 ((i : Int))), (28, .bool true), (10, .pointer (some ⟨g39_2, 0, none⟩)), (11, .int .i64 (((p).tell (NM (i))).1)), (12, .bool r9)] := hS
    have HH40 : Held w w40 [⟨g1_0, (), 6, (p).sc, 25⟩, ⟨g1_1, (), 6, (q).sc, 25⟩, ⟨g39_2, (), 2, lsc (ent (i)), 48⟩] := hH
    clear hS hH HS39 HH39
    refine then_ ?_
    obtain ⟨r10, hr10⟩ : ∃ r : Bool, (((q).tell (NM (i))).2) = r := ⟨_, rfl⟩
    refine wp_seq ?_
    have hLo : LOk [(0, 39, .val (.agg (FR () 6 ((q).sc)))), (1, 40, .val (.pointer (some ⟨g39_2, 0, none⟩))), (2, 41, .val (.string (NM (i)))), (3, 42, .val (.tuple #[.int .i64 (((q).tell (NM (i))).1), .bool r10])), (4, 38, .val (.tuple #[.int .i64 (((q).tell (NM (i))).1), .bool r10])), (5, 43, .val (.int .i64 (((q).tell (NM (i))).1))), (6, 44, .val (.bool r10)), (7, 13, .val (.int .i64 (((q).tell (NM (i))).1))), (8, 14, .val (.bool r10))] := lok (by rfl) (by rfl)
    refine zH (wE := w) (sz := 120) (n := 9) [0, 1, 3, 7, 15, 31, 63, 127, 255] [(0, .val (.agg (FR () 6 ((p).sc)))), (1, .val (.agg (FR () 6 ((q).sc)))), (2, .val (.string (user))), (3, .val (.int .i64 (mine))), (4, .val (.pointer (some ⟨g1_0, 0, none⟩))), (5, .val (.pointer (some ⟨g1_1, 0, none⟩))), (25, .val (.slice (some ba) (7) (cn))), (26, .val (.int .i64 (7))), (27, .val (.int .i64 ((i : Int)))), (28, .val (.bool true)), (10, .val (.pointer (some ⟨g39_2, 0, none⟩))), (11, .val (.int .i64 (((p).tell (NM (i))).1))), (12, .val (.bool r9)), (13, .val (.int .i64 (((q).tell (NM (i))).1))), (14, .val (.bool r10))] [(0, 39, .val (.agg (FR () 6 ((q).sc)))), (1, 40, .val (.pointer (some ⟨g39_2, 0, none⟩))), (2, 41, .val (.string (NM (i)))), (3, 42, .val (.tuple #[.int .i64 (((q).tell (NM (i))).1), .bool r10])), (4, 38, .val (.tuple #[.int .i64 (((q).tell (NM (i))).1), .bool r10])), (5, 43, .val (.int .i64 (((q).tell (NM (i))).1))), (6, 44, .val (.bool r10)), (7, 13, .val (.int .i64 (((q).tell (NM (i))).1))), (8, 14, .val (.bool r10))] [⟨g1_0, none, none, (), 6, (p).sc, (p).sc, 25⟩, ⟨g1_1, none, none, (), 6, (q).sc, (q).sc, 25⟩, ⟨g39_2, none, none, (), 2, lsc (ent (i)), lsc (ent (i)), 48⟩] rfl (by rfl) HH40 rfl rfl hLo rfl HS40 (slS 0 rfl rfl (slS 1 rfl rfl (slS 2 rfl rfl (slS 3 rfl rfl (slS 4 rfl rfl (slS 5 rfl rfl (slS 6 rfl rfl (slS 7 rfl rfl (slS 8 rfl rfl (slS 9 rfl rfl (slS 10 rfl rfl (slS 11 rfl rfl (slS 12 rfl rfl (slL 7 (d := 7) rfl (slL 8 (d := 8) rfl (trivial)))))))))))))))) ?_ ?_
    · show ∀ i ∈ [0, 1, 2, 3, 4, 5, 6, 7, 8], _
      refine zA (zY 0 1 _ rfl rfl rfl rfl (fun _ _ _ _ => rfl) hLo rfl rfl rfl (by rfl) Tryd.underlying25 (by kernel_rfl) rfl (fun b G hb ho => zG rfl (HS40.get 5 rfl))) ?_
      refine zA (zD 1 _ rfl rfl hLo rfl rfl (fun _ _ _ _ => rfl) (fun b G w hb ho => zV rfl (zG rfl (HS40.get 10 rfl)) (by kernel_rfl))) ?_
      refine zA (st_read 2 2 _ _ rfl rfl rfl hLo rfl rfl (fun _ _ _ _ => rfl) (by rfl) (by rfl) (fun b G w hb ho hr => zW hr (Nat.le_of_ble_eq_true rfl) Tryd.underlying9 rfl rfl (zC hLo 1 rfl HS40.1 rfl (hb 1 (by rfl))))) ?_
      refine zA (zT 3 _ #[.agg (FR () 6 ((q).sc)), .string (NM (i))] rfl rfl rfl (fun _ _ _ _ => rfl) hLo rfl rfl Tryd.func25 rfl rfl (fun b G hb ho => args2 (zC hLo 0 rfl HS40.1 rfl (hb 0 (by rfl))) (zC hLo 2 rfl HS40.1 rfl (hb 2 (by rfl)))) (fun w hw => (by have hq := num_calls (t := q) (NM (i)) (hInq.below hw) hRq.rise; rw [hr10] at hq; exact hq))) ?_
      refine zA (zD 4 _ rfl rfl hLo rfl rfl (fun _ _ _ _ => rfl) (fun b G w hb ho => zB (.inl rfl) (zC hLo 3 rfl HS40.1 rfl (hb 3 (by rfl))))) ?_
      refine zA (zD 5 _ rfl rfl hLo rfl rfl (fun _ _ _ _ => rfl) (fun b G w hb ho => zQ rfl (zC hLo 4 rfl HS40.1 rfl (hb 4 (by rfl))) (by rfl))) ?_
      refine zA (zD 6 _ rfl rfl hLo rfl rfl (fun _ _ _ _ => rfl) (fun b G w hb ho => zQ rfl (zC hLo 4 rfl HS40.1 rfl (hb 4 (by rfl))) (by rfl))) ?_
      refine zA (zD 7 _ rfl rfl hLo rfl rfl (fun _ _ _ _ => rfl) (fun b G w hb ho => zB (.inr rfl) (zC hLo 5 rfl HS40.1 rfl (hb 5 (by rfl))))) ?_
      refine zA (zD 8 _ rfl rfl hLo rfl rfl (fun _ _ _ _ => rfl) (fun b G w hb ho => zB (.inr rfl) (zC hLo 6 rfl HS40.1 rfl (hb 6 (by rfl))))) ?_
      exact zF
    clear hLo
    intro G a41 w41 hS hH
    have HS41 : Sl a41 120 [(0, .agg (FR () 6 ((p).sc))), (1, .agg (FR () 6 ((q).sc))), (2, .string (user)), (3, .int .i64 (mine)), (4, .pointer (some ⟨g1_0, 0, none⟩)), (5, .pointer (some ⟨g1_1, 0, none⟩)), (25, .slice (some ba) (7) (cn)), (26, .int .i64 (7)), (27, .int .i64 ((i : Int))), (28, .bool true), (10, .pointer (some ⟨g39_2, 0, none⟩)), (11, .int .i64 (((p).tell (NM (i))).1)), (12, .bool r9), (13, .int .i64 (((q).tell (NM (i))).1)), (14, .bool r10)] := hS
    have HH41 : Held w w41 [⟨g1_0, (), 6, (p).sc, 25⟩, ⟨g1_1, (), 6, (q).sc, 25⟩, ⟨g39_2, (), 2, lsc (ent (i)), 48⟩] := hH
    clear hS hH HS40 HH40
    refine then_ ?_
    cases r9
    · skip
      cases r10
      · skip
        obtain ⟨r11, hr11⟩ : ∃ r : Bool, (((((p).tell (NM (i))).1 : Int) != ((q).tell (NM (i))).1)) = r := ⟨_, rfl⟩
        cases r11
        · skip
          refine wp_seq ?_
          have hLo : LOk [(0, 45, .val (.bool false)), (1, 46, .val (.bool false)), (2, 47, .val (.bool false)), (3, 48, .val (.bool false)), (4, 49, .val (.int .i64 (((p).tell (NM (i))).1))), (5, 50, .val (.int .i64 (((q).tell (NM (i))).1))), (6, 51, .val (.bool false)), (7, 52, .val (.bool false)), (8, 53, .val (.bool false)), (9, 54, .val (undef)), (10, 55, .val (undef)), (11, 56, .val (undef)), (12, 57, .val (undef)), (13, 58, .val (undef)), (14, 59, .val (undef)), (15, 60, .val (undef)), (16, 61, .val (.bool false))] := lok (by rfl) (by rfl)
          refine zH (wE := w) (sz := 120) (n := 17) [0, 1, 3, 7, 15, 31, 63, 127, 255, 511, 1023, 2047, 4095, 8191, 16383, 32767, 65535] [(0, .val (.agg (FR () 6 ((p).sc)))), (1, .val (.agg (FR () 6 ((q).sc)))), (2, .val (.string (user))), (3, .val (.int .i64 (mine))), (4, .val (.pointer (some ⟨g1_0, 0, none⟩))), (5, .val (.pointer (some ⟨g1_1, 0, none⟩))), (25, .val (.slice (some ba) (7) (cn))), (26, .val (.int .i64 (7))), (27, .val (.int .i64 ((i : Int)))), (28, .val (.bool true)), (10, .val (.pointer (some ⟨g39_2, 0, none⟩))), (11, .val (.int .i64 (((p).tell (NM (i))).1))), (12, .val (.bool false)), (13, .val (.int .i64 (((q).tell (NM (i))).1))), (14, .val (.bool false)), (61, .val (.bool false))] [(0, 45, .val (.bool false)), (1, 46, .val (.bool false)), (2, 47, .val (.bool false)), (3, 48, .val (.bool false)), (4, 49, .val (.int .i64 (((p).tell (NM (i))).1))), (5, 50, .val (.int .i64 (((q).tell (NM (i))).1))), (6, 51, .val (.bool false)), (7, 52, .val (.bool false)), (8, 53, .val (.bool false)), (9, 54, .val (undef)), (10, 55, .val (undef)), (11, 56, .val (undef)), (12, 57, .val (undef)), (13, 58, .val (undef)), (14, 59, .val (undef)), (15, 60, .val (undef)), (16, 61, .val (.bool false))] [⟨g1_0, none, none, (), 6, (p).sc, (p).sc, 25⟩, ⟨g1_1, none, none, (), 6, (q).sc, (q).sc, 25⟩, ⟨g39_2, none, none, (), 2, lsc (ent (i)), lsc (ent (i)), 48⟩] rfl (by rfl) HH41 rfl rfl hLo rfl HS41 (slS 0 rfl rfl (slS 1 rfl rfl (slS 2 rfl rfl (slS 3 rfl rfl (slS 4 rfl rfl (slS 5 rfl rfl (slS 6 rfl rfl (slS 7 rfl rfl (slS 8 rfl rfl (slS 9 rfl rfl (slS 10 rfl rfl (slS 11 rfl rfl (slS 12 rfl rfl (slS 13 rfl rfl (slS 14 rfl rfl (slL 16 (d := 16) rfl (trivial))))))))))))))))) ?_ ?_
          · show ∀ i ∈ [0, 1, 2, 3, 4, 5, 6, 7, 8, 9, 10, 11, 12, 13, 14, 15, 16], _
            refine zA (zD 0 _ rfl rfl hLo rfl rfl (fun _ _ _ _ => rfl) (fun b G w hb ho => zB (.inl rfl) (zG rfl (HS41.get 12 rfl)))) ?_
            refine zA (zD 1 _ rfl rfl hLo rfl rfl (fun _ _ _ _ => rfl) (fun b G w hb ho => zB (.inl rfl) (zG rfl (HS41.get 14 rfl)))) ?_
            refine zA (zD 2 _ rfl rfl hLo rfl rfl (fun _ _ _ _ => rfl) (fun b G w hb ho => zI rfl (zC hLo 0 rfl HS41.1 rfl (hb 0 (by rfl))) (zC hLo 1 rfl HS41.1 rfl (hb 1 (by rfl))) (rb_bneq Tryd.underlying4 (rfl) _ _ _))) ?_
            refine zA (zD 3 _ rfl rfl hLo rfl rfl (fun _ _ _ _ => rfl) (fun b G w hb ho => zB (.inl rfl) (zC hLo 2 rfl HS41.1 rfl (hb 2 (by rfl))))) ?_
            refine zA (zD 4 _ rfl rfl hLo rfl rfl (fun b G hb ho => zE rfl rfl rfl HS41.1 rfl (zC hLo 3 rfl HS41.1 rfl (hb 3 (by rfl))) rfl) (fun b G w hb ho => zB (.inl rfl) (zG rfl (HS41.get 11 rfl)))) ?_
            refine zA (zD 5 _ rfl rfl hLo rfl rfl (fun b G hb ho => zE rfl rfl rfl HS41.1 rfl (zC hLo 3 rfl HS41.1 rfl (hb 3 (by rfl))) rfl) (fun b G w hb ho => zB (.inl rfl) (zG rfl (HS41.get 13 rfl)))) ?_
            refine zA (zD 6 _ rfl rfl hLo rfl rfl (fun b G hb ho => zE rfl rfl rfl HS41.1 rfl (zC hLo 3 rfl HS41.1 rfl (hb 3 (by rfl))) rfl) (fun b G w hb ho => zI rfl (zC hLo 4 rfl HS41.1 rfl (hb 4 (by rfl))) (zC hLo 5 rfl HS41.1 rfl (hb 5 (by rfl))) (rb_neq hr11 _ _ _))) ?_
            refine zA (zD 7 _ rfl rfl hLo rfl rfl (fun _ _ _ _ => rfl) (fun b G w hb ho => zJ rfl (zC hLo 3 rfl HS41.1 rfl (hb 3 (by rfl))) (zC hLo 6 rfl HS41.1 rfl (hb 6 (by rfl))))) ?_
            refine zA (zD 8 _ rfl rfl hLo rfl rfl (fun _ _ _ _ => rfl) (fun b G w hb ho => zB (.inl rfl) (zC hLo 7 rfl HS41.1 rfl (hb 7 (by rfl))))) ?_
            refine zA (zL 9 rfl rfl hLo rfl rfl (fun b G hb ho => zE rfl rfl rfl HS41.1 rfl (zC hLo 8 rfl HS41.1 rfl (hb 8 (by rfl))) rfl)) ?_
            refine zA (zL 10 rfl rfl hLo rfl rfl (fun b G hb ho => zE rfl rfl rfl HS41.1 rfl (zC hLo 8 rfl HS41.1 rfl (hb 8 (by rfl))) rfl)) ?_
            refine zA (zL 11 rfl rfl hLo rfl rfl (fun b G hb ho => zE rfl rfl rfl HS41.1 rfl (zC hLo 8 rfl HS41.1 rfl (hb 8 (by rfl))) rfl)) ?_
            refine zA (zL 12 rfl rfl hLo rfl rfl (fun b G hb ho => zE rfl rfl rfl HS41.1 rfl (zC hLo 8 rfl HS41.1 rfl (hb 8 (by rfl))) rfl)) ?_
            refine zA (zL 13 rfl rfl hLo rfl rfl (fun b G hb ho => zE rfl rfl rfl HS41.1 rfl (zC hLo 8 rfl HS41.1 rfl (hb 8 (by rfl))) rfl)) ?_
            refine zA (zL 14 rfl rfl hLo rfl rfl (fun b G hb ho => zE rfl rfl rfl HS41.1 rfl (zC hLo 8 rfl HS41.1 rfl (hb 8 (by rfl))) rfl)) ?_
            refine zA (zL 15 rfl rfl hLo rfl rfl (fun b G hb ho => zE rfl rfl rfl HS41.1 rfl (zC hLo 8 rfl HS41.1 rfl (hb 8 (by rfl))) rfl)) ?_
            refine zA (zD 16 _ rfl rfl hLo rfl rfl (fun _ _ _ _ => rfl) (fun b G w hb ho => zJ rfl (zC hLo 8 rfl HS41.1 rfl (hb 8 (by rfl))) (rfl))) ?_
            exact zF
          clear hLo
          intro G a42 w42 hS hH
          have HS42 : Sl a42 120 [(0, .agg (FR () 6 ((p).sc))), (1, .agg (FR () 6 ((q).sc))), (2, .string (user)), (3, .int .i64 (mine)), (4, .pointer (some ⟨g1_0, 0, none⟩)), (5, .pointer (some ⟨g1_1, 0, none⟩)), (25, .slice (some ba) (7) (cn)), (26, .int .i64 (7)), (27, .int .i64 ((i : Int))), (28, .bool true), (10, .pointer (some ⟨g39_2, 0, none⟩)), (11, .int .i64 (((p).tell (NM (i))).1)), (12, .bool false), (13, .int .i64 (((q).tell (NM (i))).1)), (14, .bool false), (61, .bool false)] := hS
          have HH42 : Held w w42 [⟨g1_0, (), 6, (p).sc, 25⟩, ⟨g1_1, (), 6, (q).sc, 25⟩, ⟨g39_2, (), 2, lsc (ent (i)), 48⟩] := hH
          clear hS hH HS41 HH41
          refine then_ ?_
          refine wp_cond_false (HS42.get 15 rfl) ?_
          refine wp_skip ?_
          refine zR ?_
          refine then_ ?_
          have hLo : LOk [(0, 62, .val (.int .i64 (((i + 1 : Nat) : Int)))), (1, 27, .val (.int .i64 (((i + 1 : Nat) : Int))))] := lok (by rfl) (by rfl)
          refine zH (wE := w) (sz := 120) (n := 2) [0, 1] [(0, .val (.agg (FR () 6 ((p).sc)))), (1, .val (.agg (FR () 6 ((q).sc)))), (2, .val (.string (user))), (3, .val (.int .i64 (mine))), (4, .val (.pointer (some ⟨g1_0, 0, none⟩))), (5, .val (.pointer (some ⟨g1_1, 0, none⟩))), (25, .val (.slice (some ba) (7) (cn))), (26, .val (.int .i64 (7))), (28, .val (.bool true)), (10, .val (.pointer (some ⟨g39_2, 0, none⟩))), (11, .val (.int .i64 (((p).tell (NM (i))).1))), (12, .val (.bool false)), (13, .val (.int .i64 (((q).tell (NM (i))).1))), (14, .val (.bool false)), (61, .val (.bool false)), (27, .val (.int .i64 (((i + 1 : Nat) : Int))))] [(0, 62, .val (.int .i64 (((i + 1 : Nat) : Int)))), (1, 27, .val (.int .i64 (((i + 1 : Nat) : Int))))] [⟨g1_0, none, none, (), 6, (p).sc, (p).sc, 25⟩, ⟨g1_1, none, none, (), 6, (q).sc, (q).sc, 25⟩, ⟨g39_2, none, none, (), 2, lsc (ent (i)), lsc (ent (i)), 48⟩] rfl (by rfl) HH42 rfl rfl hLo rfl HS42 (slS 0 rfl rfl (slS 1 rfl rfl (slS 2 rfl rfl (slS 3 rfl rfl (slS 4 rfl rfl (slS 5 rfl rfl (slS 6 rfl rfl (slS 7 rfl rfl (slS 9 rfl rfl (slS 10 rfl rfl (slS 11 rfl rfl (slS 12 rfl rfl (slS 13 rfl rfl (slS 14 rfl rfl (slS 15 rfl rfl (slL 1 (d := 1) rfl (trivial))))))))))))))))) ?_ ?_
          · show ∀ i ∈ [0, 1], _
            refine zA (zD 0 _ rfl rfl hLo rfl rfl (fun _ _ _ _ => rfl) (fun b G w hb ho => zI rfl (ev_pre hLo 1 rfl (ho 1 (by rfl)) (HS42.get 8 rfl)) (rfl) (rb_add (w_nat (by omega) (by omega)) _ _ _))) ?_
            refine zA (zD 1 _ rfl rfl hLo rfl rfl (fun _ _ _ _ => rfl) (fun b G w hb ho => zB (.inl rfl) (zC hLo 0 rfl HS42.1 rfl (hb 0 (by rfl))))) ?_
            exact zF
          clear hLo
          intro G a43 w43 hS hH
          have HS43 : Sl a43 120 [(0, .agg (FR () 6 ((p).sc))), (1, .agg (FR () 6 ((q).sc))), (2, .string (user)), (3, .int .i64 (mine)), (4, .pointer (some ⟨g1_0, 0, none⟩)), (5, .pointer (some ⟨g1_1, 0, none⟩)), (25, .slice (some ba) (7) (cn)), (26, .int .i64 (7)), (28, .bool true), (10, .pointer (some ⟨g39_2, 0, none⟩)), (11, .int .i64 (((p).tell (NM (i))).1)), (12, .bool false), (13, .int .i64 (((q).tell (NM (i))).1)), (14, .bool false), (61, .bool false), (27, .int .i64 (((i + 1 : Nat) : Int)))] := hS
          have HH43 : Held w w43 [⟨g1_0, (), 6, (p).sc, 25⟩, ⟨g1_1, (), 6, (q).sc, 25⟩, ⟨g39_2, (), 2, lsc (ent (i)), 48⟩] := hH
          clear hS hH HS42 HH42
          refine then_ ?_
          have hSq0' : Sl _ 120 [(0, .agg (FR () 6 ((p).sc))), (1, .agg (FR () 6 ((q).sc))), (2, .string (user)), (3, .int .i64 (mine)), (4, .pointer (some ⟨g1_0, 0, none⟩)), (5, .pointer (some ⟨g1_1, 0, none⟩)), (25, .slice (some ba) (7) (cn)), (26, .int .i64 (7)), (27, .int .i64 (((i + 1 : Nat) : Int)))] := sl_keep HS43 [0, 1, 2, 3, 4, 5, 6, 7, 15] (by rfl)
          have hHq0' : Held w _ [⟨g1_0, (), 6, (p).sc, 25⟩, ⟨g1_1, (), 6, (q).sc, 25⟩] := held_keep HH43 2 rfl
          exact ⟨⟨i + 1, by omega, allB_step hpi (name_ok1 (differs_of hr9 hr10 (by rw [hr11]; rfl))), hSq0', hHq0'⟩, by rw [(hSq0'.get 8 rfl)]; show 7 - (((i + 1 : Nat) : Int)).toNat < 7 - i; omega⟩
        · skip
          obtain ⟨r12, hr12⟩ : ∃ r : Bool, (mayB p q (NM (i)) mine) = r := ⟨_, rfl⟩
          refine wp_seq ?_
          have hLo : LOk [(0, 45, .val (.bool false)), (1, 46, .val (.bool false)), (2, 47, .val (.bool false)), (3, 48, .val (.bool false)), (4, 49, .val (.int .i64 (((p).tell (NM (i))).1))), (5, 50, .val (.int .i64 (((q).tell (NM (i))).1))), (6, 51, .val (.bool true)), (7, 52, .val (.bool true)), (8, 53, .val (.bool true)), (9, 54, .val (.agg (FR () 6 ((p).sc)))), (10, 55, .val (.agg (FR () 6 ((q).sc)))), (11, 56, .val (.pointer (some ⟨g39_2, 0, none⟩))), (12, 57, .val (.string (NM (i)))), (13, 58, .val (.int .i64 (mine))), (14, 59, .val (.bool r12)), (15, 60, .val (.bool (!r12))), (16, 61, .val (.bool (!r12)))] := lok (by rfl) (by rfl)
          refine zH (wE := w) (sz := 120) (n := 17) [0, 1, 3, 7, 15, 31, 63, 127, 255, 511, 1023, 2047, 4095, 8191, 16383, 32767, 65535] [(0, .val (.agg (FR () 6 ((p).sc)))), (1, .val (.agg (FR () 6 ((q).sc)))), (2, .val (.string (user))), (3, .val (.int .i64 (mine))), (4, .val (.pointer (some ⟨g1_0, 0, none⟩))), (5, .val (.pointer (some ⟨g1_1, 0, none⟩))), (25, .val (.slice (some ba) (7) (cn))), (26, .val (.int .i64 (7))), (27, .val (.int .i64 ((i : Int)))), (28, .val (.bool true)), (10, .val (.pointer (some ⟨g39_2, 0, none⟩))), (11, .val (.int .i64 (((p).tell (NM (i))).1))), (12, .val (.bool false)), (13, .val (.int .i64 (((q).tell (NM (i))).1))), (14, .val (.bool false)), (61, .val (.bool (!r12)))] [(0, 45, .val (.bool false)), (1, 46, .val (.bool false)), (2, 47, .val (.bool false)), (3, 48, .val (.bool false)), (4, 49, .val (.int .i64 (((p).tell (NM (i))).1))), (5, 50, .val (.int .i64 (((q).tell (NM (i))).1))), (6, 51, .val (.bool true)), (7, 52, .val (.bool true)), (8, 53, .val (.bool true)), (9, 54, .val (.agg (FR () 6 ((p).sc)))), (10, 55, .val (.agg (FR () 6 ((q).sc)))), (11, 56, .val (.pointer (some ⟨g39_2, 0, none⟩))), (12, 57, .val (.string (NM (i)))), (13, 58, .val (.int .i64 (mine))), (14, 59, .val (.bool r12)), (15, 60, .val (.bool (!r12))), (16, 61, .val (.bool (!r12)))] [⟨g1_0, none, none, (), 6, (p).sc, (p).sc, 25⟩, ⟨g1_1, none, none, (), 6, (q).sc, (q).sc, 25⟩, ⟨g39_2, none, none, (), 2, lsc (ent (i)), lsc (ent (i)), 48⟩] rfl (by rfl) HH41 rfl rfl hLo rfl HS41 (slS 0 rfl rfl (slS 1 rfl rfl (slS 2 rfl rfl (slS 3 rfl rfl (slS 4 rfl rfl (slS 5 rfl rfl (slS 6 rfl rfl (slS 7 rfl rfl (slS 8 rfl rfl (slS 9 rfl rfl (slS 10 rfl rfl (slS 11 rfl rfl (slS 12 rfl rfl (slS 13 rfl rfl (slS 14 rfl rfl (slL 16 (d := 16) rfl (trivial))))))))))))))))) ?_ ?_
          · show ∀ i ∈ [0, 1, 2, 3, 4, 5, 6, 7, 8, 9, 10, 11, 12, 13, 14, 15, 16], _
            refine zA (zD 0 _ rfl rfl hLo rfl rfl (fun _ _ _ _ => rfl) (fun b G w hb ho => zB (.inl rfl) (zG rfl (HS41.get 12 rfl)))) ?_
            refine zA (zD 1 _ rfl rfl hLo rfl rfl (fun _ _ _ _ => rfl) (fun b G w hb ho => zB (.inl rfl) (zG rfl (HS41.get 14 rfl)))) ?_
            refine zA (zD 2 _ rfl rfl hLo rfl rfl (fun _ _ _ _ => rfl) (fun b G w hb ho => zI rfl (zC hLo 0 rfl HS41.1 rfl (hb 0 (by rfl))) (zC hLo 1 rfl HS41.1 rfl (hb 1 (by rfl))) (rb_bneq Tryd.underlying4 (rfl) _ _ _))) ?_
            refine zA (zD 3 _ rfl rfl hLo rfl rfl (fun _ _ _ _ => rfl) (fun b G w hb ho => zB (.inl rfl) (zC hLo 2 rfl HS41.1 rfl (hb 2 (by rfl))))) ?_
            refine zA (zD 4 _ rfl rfl hLo rfl rfl (fun b G hb ho => zE rfl rfl rfl HS41.1 rfl (zC hLo 3 rfl HS41.1 rfl (hb 3 (by rfl))) rfl) (fun b G w hb ho => zB (.inl rfl) (zG rfl (HS41.get 11 rfl)))) ?_
            refine zA (zD 5 _ rfl rfl hLo rfl rfl (fun b G hb ho => zE rfl rfl rfl HS41.1 rfl (zC hLo 3 rfl HS41.1 rfl (hb 3 (by rfl))) rfl) (fun b G w hb ho => zB (.inl rfl) (zG rfl (HS41.get 13 rfl)))) ?_
            refine zA (zD 6 _ rfl rfl hLo rfl rfl (fun b G hb ho => zE rfl rfl rfl HS41.1 rfl (zC hLo 3 rfl HS41.1 rfl (hb 3 (by rfl))) rfl) (fun b G w hb ho => zI rfl (zC hLo 4 rfl HS41.1 rfl (hb 4 (by rfl))) (zC hLo 5 rfl HS41.1 rfl (hb 5 (by rfl))) (rb_neq hr11 _ _ _))) ?_
            refine zA (zD 7 _ rfl rfl hLo rfl rfl (fun _ _ _ _ => rfl) (fun b G w hb ho => zJ rfl (zC hLo 3 rfl HS41.1 rfl (hb 3 (by rfl))) (zC hLo 6 rfl HS41.1 rfl (hb 6 (by rfl))))) ?_
            refine zA (zD 8 _ rfl rfl hLo rfl rfl (fun _ _ _ _ => rfl) (fun b G w hb ho => zB (.inl rfl) (zC hLo 7 rfl HS41.1 rfl (hb 7 (by rfl))))) ?_
            refine zA (zY 9 0 _ rfl rfl rfl rfl (fun b G hb ho => zE rfl rfl rfl HS41.1 rfl (zC hLo 8 rfl HS41.1 rfl (hb 8 (by rfl))) rfl) hLo rfl rfl rfl (by rfl) Tryd.underlying25 (by kernel_rfl) rfl (fun b G hb ho => zG rfl (HS41.get 4 rfl))) ?_
            refine zA (zY 10 1 _ rfl rfl rfl rfl (fun b G hb ho => zE rfl rfl rfl HS41.1 rfl (zC hLo 8 rfl HS41.1 rfl (hb 8 (by rfl))) rfl) hLo rfl rfl rfl (by rfl) Tryd.underlying25 (by kernel_rfl) rfl (fun b G hb ho => zG rfl (HS41.get 5 rfl))) ?_
            refine zA (zD 11 _ rfl rfl hLo rfl rfl (fun b G hb ho => zE rfl rfl rfl HS41.1 rfl (zC hLo 8 rfl HS41.1 rfl (hb 8 (by rfl))) rfl) (fun b G w hb ho => zV rfl (zG rfl (HS41.get 10 rfl)) (by kernel_rfl))) ?_
            refine zA (st_read 12 2 _ _ rfl rfl rfl hLo rfl rfl (fun b G hb ho => zE rfl rfl rfl HS41.1 rfl (zC hLo 8 rfl HS41.1 rfl (hb 8 (by rfl))) rfl) (by rfl) (by rfl) (fun b G w hb ho hr => zW hr (Nat.le_of_ble_eq_true rfl) Tryd.underlying9 rfl rfl (zC hLo 11 rfl HS41.1 rfl (hb 11 (by rfl))))) ?_
            refine zA (zD 13 _ rfl rfl hLo rfl rfl (fun b G hb ho => zE rfl rfl rfl HS41.1 rfl (zC hLo 8 rfl HS41.1 rfl (hb 8 (by rfl))) rfl) (fun b G w hb ho => zB (.inl rfl) (zG rfl (HS41.get 3 rfl)))) ?_
            refine zA (zT 14 _ #[.agg (FR () 6 ((p).sc)), .agg (FR () 6 ((q).sc)), .string (NM (i)), .int .i64 (mine)] rfl rfl rfl (fun b G hb ho => zE rfl rfl rfl HS41.1 rfl (zC hLo 8 rfl HS41.1 rfl (hb 8 (by rfl))) rfl) hLo rfl rfl Tryd.func32 rfl rfl (fun b G hb ho => args4 (zC hLo 9 rfl HS41.1 rfl (hb 9 (by rfl))) (zC hLo 10 rfl HS41.1 rfl (hb 10 (by rfl))) (zC hLo 12 rfl HS41.1 rfl (hb 12 (by rfl))) (zC hLo 13 rfl HS41.1 rfl (hb 13 (by rfl)))) (fun w hw => (by have hq := may_calls (a := p) (b := q) (NM (i)) mine (hInp.below hw) (hInq.below hw) hRp hRq; rw [hr12] at hq; exact hq))) ?_
            refine zA (zD 15 _ rfl rfl hLo rfl rfl (fun b G hb ho => zE rfl rfl rfl HS41.1 rfl (zC hLo 8 rfl HS41.1 rfl (hb 8 (by rfl))) rfl) (fun b G w hb ho => exec_un rfl (zC hLo 14 rfl HS41.1 rfl (hb 14 (by rfl))) (ru_not _))) ?_
            refine zA (zD 16 _ rfl rfl hLo rfl rfl (fun _ _ _ _ => rfl) (fun b G w hb ho => zJ rfl (zC hLo 8 rfl HS41.1 rfl (hb 8 (by rfl))) (zC hLo 15 rfl HS41.1 rfl (hb 15 (by rfl))))) ?_
            exact zF
          clear hLo
          intro G a44 w44 hS hH
          have HS44 : Sl a44 120 [(0, .agg (FR () 6 ((p).sc))), (1, .agg (FR () 6 ((q).sc))), (2, .string (user)), (3, .int .i64 (mine)), (4, .pointer (some ⟨g1_0, 0, none⟩)), (5, .pointer (some ⟨g1_1, 0, none⟩)), (25, .slice (some ba) (7) (cn)), (26, .int .i64 (7)), (27, .int .i64 ((i : Int))), (28, .bool true), (10, .pointer (some ⟨g39_2, 0, none⟩)), (11, .int .i64 (((p).tell (NM (i))).1)), (12, .bool false), (13, .int .i64 (((q).tell (NM (i))).1)), (14, .bool false), (61, .bool (!r12))] := hS
          have HH44 : Held w w44 [⟨g1_0, (), 6, (p).sc, 25⟩, ⟨g1_1, (), 6, (q).sc, 25⟩, ⟨g39_2, (), 2, lsc (ent (i)), 48⟩] := hH
          clear hS hH HS41 HH41
          refine then_ ?_
          cases r12
          · skip
            refine wp_cond_true (HS44.get 15 rfl) ?_
            refine wp_seq ?_
            have hLo : LOk [(0, 8, .val (.bool false))] := lok (by rfl) (by rfl)
            refine zH (wE := w) (sz := 120) (n := 1) [0] [(0, .val (.agg (FR () 6 ((p).sc)))), (1, .val (.agg (FR () 6 ((q).sc)))), (2, .val (.string (user))), (3, .val (.int .i64 (mine))), (4, .val (.pointer (some ⟨g1_0, 0, none⟩))), (5, .val (.pointer (some ⟨g1_1, 0, none⟩))), (25, .val (.slice (some ba) (7) (cn))), (26, .val (.int .i64 (7))), (27, .val (.int .i64 ((i : Int)))), (28, .val (.bool true)), (10, .val (.pointer (some ⟨g39_2, 0, none⟩))), (11, .val (.int .i64 (((p).tell (NM (i))).1))), (12, .val (.bool false)), (13, .val (.int .i64 (((q).tell (NM (i))).1))), (14, .val (.bool false)), (61, .val (.bool true)), (8, .val (.bool false))] [(0, 8, .val (.bool false))] [⟨g1_0, none, none, (), 6, (p).sc, (p).sc, 25⟩, ⟨g1_1, none, none, (), 6, (q).sc, (q).sc, 25⟩, ⟨g39_2, none, none, (), 2, lsc (ent (i)), lsc (ent (i)), 48⟩] rfl (by rfl) HH44 rfl rfl hLo rfl HS44 (slS 0 rfl rfl (slS 1 rfl rfl (slS 2 rfl rfl (slS 3 rfl rfl (slS 4 rfl rfl (slS 5 rfl rfl (slS 6 rfl rfl (slS 7 rfl rfl (slS 8 rfl rfl (slS 9 rfl rfl (slS 10 rfl rfl (slS 11 rfl rfl (slS 12 rfl rfl (slS 13 rfl rfl (slS 14 rfl rfl (slS 15 rfl rfl (slL 0 (d := 0) rfl (trivial)))))))))))))))))) ?_ ?_
            · show ∀ i ∈ [0], _
              refine zA (zD 0 _ rfl rfl hLo rfl rfl (fun _ _ _ _ => rfl) (fun b G w hb ho => zB (.inr rfl) (rfl))) ?_
              exact zF
            clear hLo
            intro G a45 w45 hS hH
            have HS45 : Sl a45 120 [(0, .agg (FR () 6 ((p).sc))), (1, .agg (FR () 6 ((q).sc))), (2, .string (user)), (3, .int .i64 (mine)), (4, .pointer (some ⟨g1_0, 0, none⟩)), (5, .pointer (some ⟨g1_1, 0, none⟩)), (25, .slice (some ba) (7) (cn)), (26, .int .i64 (7)), (27, .int .i64 ((i : Int))), (28, .bool true), (10, .pointer (some ⟨g39_2, 0, none⟩)), (11, .int .i64 (((p).tell (NM (i))).1)), (12, .bool false), (13, .int .i64 (((q).tell (NM (i))).1)), (14, .bool false), (61, .bool true), (8, .bool false)] := hS
            have HH45 : Held w w45 [⟨g1_0, (), 6, (p).sc, 25⟩, ⟨g1_1, (), 6, (q).sc, 25⟩, ⟨g39_2, (), 2, lsc (ent (i)), 48⟩] := hH
            clear hS hH HS44 HH44
            refine then_ ?_
            refine wp_ret ?_
            repeat (first | refine zS ?_ | refine zN ?_)
            exact b_tmp rfl HS45.2.1 (HS45.get 16 rfl) ⟨bool_ret (chg_no1 hlti (name_bad (differs_of hr9 hr10 (by rw [hr11]; rfl)) hr12)), HH45.1⟩
          · skip
            refine wp_cond_false (HS44.get 15 rfl) ?_
            refine wp_skip ?_
            refine zR ?_
            refine then_ ?_
            have hLo : LOk [(0, 62, .val (.int .i64 (((i + 1 : Nat) : Int)))), (1, 27, .val (.int .i64 (((i + 1 : Nat) : Int))))] := lok (by rfl) (by rfl)
            refine zH (wE := w) (sz := 120) (n := 2) [0, 1] [(0, .val (.agg (FR () 6 ((p).sc)))), (1, .val (.agg (FR () 6 ((q).sc)))), (2, .val (.string (user))), (3, .val (.int .i64 (mine))), (4, .val (.pointer (some ⟨g1_0, 0, none⟩))), (5, .val (.pointer (some ⟨g1_1, 0, none⟩))), (25, .val (.slice (some ba) (7) (cn))), (26, .val (.int .i64 (7))), (28, .val (.bool true)), (10, .val (.pointer (some ⟨g39_2, 0, none⟩))), (11, .val (.int .i64 (((p).tell (NM (i))).1))), (12, .val (.bool false)), (13, .val (.int .i64 (((q).tell (NM (i))).1))), (14, .val (.bool false)), (61, .val (.bool false)), (27, .val (.int .i64 (((i + 1 : Nat) : Int))))] [(0, 62, .val (.int .i64 (((i + 1 : Nat) : Int)))), (1, 27, .val (.int .i64 (((i + 1 : Nat) : Int))))] [⟨g1_0, none, none, (), 6, (p).sc, (p).sc, 25⟩, ⟨g1_1, none, none, (), 6, (q).sc, (q).sc, 25⟩, ⟨g39_2, none, none, (), 2, lsc (ent (i)), lsc (ent (i)), 48⟩] rfl (by rfl) HH44 rfl rfl hLo rfl HS44 (slS 0 rfl rfl (slS 1 rfl rfl (slS 2 rfl rfl (slS 3 rfl rfl (slS 4 rfl rfl (slS 5 rfl rfl (slS 6 rfl rfl (slS 7 rfl rfl (slS 9 rfl rfl (slS 10 rfl rfl (slS 11 rfl rfl (slS 12 rfl rfl (slS 13 rfl rfl (slS 14 rfl rfl (slS 15 rfl rfl (slL 1 (d := 1) rfl (trivial))))))))))))))))) ?_ ?_
            · show ∀ i ∈ [0, 1], _
              refine zA (zD 0 _ rfl rfl hLo rfl rfl (fun _ _ _ _ => rfl) (fun b G w hb ho => zI rfl (ev_pre hLo 1 rfl (ho 1 (by rfl)) (HS44.get 8 rfl)) (rfl) (rb_add (w_nat (by omega) (by omega)) _ _ _))) ?_
              refine zA (zD 1 _ rfl rfl hLo rfl rfl (fun _ _ _ _ => rfl) (fun b G w hb ho => zB (.inl rfl) (zC hLo 0 rfl HS44.1 rfl (hb 0 (by rfl))))) ?_
              exact zF
            clear hLo
            intro G a46 w46 hS hH
            have HS46 : Sl a46 120 [(0, .agg (FR () 6 ((p).sc))), (1, .agg (FR () 6 ((q).sc))), (2, .string (user)), (3, .int .i64 (mine)), (4, .pointer (some ⟨g1_0, 0, none⟩)), (5, .pointer (some ⟨g1_1, 0, none⟩)), (25, .slice (some ba) (7) (cn)), (26, .int .i64 (7)), (28, .bool true), (10, .pointer (some ⟨g39_2, 0, none⟩)), (11, .int .i64 (((p).tell (NM (i))).1)), (12, .bool false), (13, .int .i64 (((q).tell (NM (i))).1)), (14, .bool false), (61, .bool false), (27, .int .i64 (((i + 1 : Nat) : Int)))] := hS
            have HH46 : Held w w46 [⟨g1_0, (), 6, (p).sc, 25⟩, ⟨g1_1, (), 6, (q).sc, 25⟩, ⟨g39_2, (), 2, lsc (ent (i)), 48⟩] := hH
            clear hS hH HS44 HH44
            refine then_ ?_
            have hSq0' : Sl _ 120 [(0, .agg (FR () 6 ((p).sc))), (1, .agg (FR () 6 ((q).sc))), (2, .string (user)), (3, .int .i64 (mine)), (4, .pointer (some ⟨g1_0, 0, none⟩)), (5, .pointer (some ⟨g1_1, 0, none⟩)), (25, .slice (some ba) (7) (cn)), (26, .int .i64 (7)), (27, .int .i64 (((i + 1 : Nat) : Int)))] := sl_keep HS46 [0, 1, 2, 3, 4, 5, 6, 7, 15] (by rfl)
            have hHq0' : Held w _ [⟨g1_0, (), 6, (p).sc, 25⟩, ⟨g1_1, (), 6, (q).sc, 25⟩] := held_keep HH46 2 rfl
            exact ⟨⟨i + 1, by omega, allB_step hpi (name_ok2 hr12), hSq0', hHq0'⟩, by rw [(hSq0'.get 8 rfl)]; show 7 - (((i + 1 : Nat) : Int)).toNat < 7 - i; omega⟩
      · skip
        obtain ⟨r13, hr13⟩ : ∃ r : Bool, (mayB p q (NM (i)) mine) = r := ⟨_, rfl⟩
        refine wp_seq ?_
        have hLo : LOk [(0, 45, .val (.bool false)), (1, 46, .val (.bool true)), (2, 47, .val (.bool true)), (3, 48, .val (.bool true)), (4, 49, .val (undef)), (5, 50, .val (undef)), (6, 51, .val (undef)), (7, 52, .val (.bool true)), (8, 53, .val (.bool true)), (9, 54, .val (.agg (FR () 6 ((p).sc)))), (10, 55, .val (.agg (FR () 6 ((q).sc)))), (11, 56, .val (.pointer (some ⟨g39_2, 0, none⟩))), (12, 57, .val (.string (NM (i)))), (13, 58, .val (.int .i64 (mine))), (14, 59, .val (.bool r13)), (15, 60, .val (.bool (!r13))), (16, 61, .val (.bool (!r13)))] := lok (by rfl) (by rfl)
        refine zH (wE := w) (sz := 120) (n := 17) [0, 1, 3, 7, 15, 31, 63, 127, 255, 511, 1023, 2047, 4095, 8191, 16383, 32767, 65535] [(0, .val (.agg (FR () 6 ((p).sc)))), (1, .val (.agg (FR () 6 ((q).sc)))), (2, .val (.string (user))), (3, .val (.int .i64 (mine))), (4, .val (.pointer (some ⟨g1_0, 0, none⟩))), (5, .val (.pointer (some ⟨g1_1, 0, none⟩))), (25, .val (.slice (some ba) (7) (cn))), (26, .val (.int .i64 (7))), (27, .val (.int .i64 ((i : Int)))), (28, .val (.bool true)), (10, .val (.pointer (some ⟨g39_2, 0, none⟩))), (11, .val (.int .i64 (((p).tell (NM (i))).1))), (12, .val (.bool false)), (13, .val (.int .i64 (((q).tell (NM (i))).1))), (14, .val (.bool true)), (61, .val (.bool (!r13)))] [(0, 45, .val (.bool false)), (1, 46, .val (.bool true)), (2, 47, .val (.bool true)), (3, 48, .val (.bool true)), (4, 49, .val (undef)), (5, 50, .val (undef)), (6, 51, .val (undef)), (7, 52, .val (.bool true)), (8, 53, .val (.bool true)), (9, 54, .val (.agg (FR () 6 ((p).sc)))), (10, 55, .val (.agg (FR () 6 ((q).sc)))), (11, 56, .val (.pointer (some ⟨g39_2, 0, none⟩))), (12, 57, .val (.string (NM (i)))), (13, 58, .val (.int .i64 (mine))), (14, 59, .val (.bool r13)), (15, 60, .val (.bool (!r13))), (16, 61, .val (.bool (!r13)))] [⟨g1_0, none, none, (), 6, (p).sc, (p).sc, 25⟩, ⟨g1_1, none, none, (), 6, (q).sc, (q).sc, 25⟩, ⟨g39_2, none, none, (), 2, lsc (ent (i)), lsc (ent (i)), 48⟩] rfl (by rfl) HH41 rfl rfl hLo rfl HS41 (slS 0 rfl rfl (slS 1 rfl rfl (slS 2 rfl rfl (slS 3 rfl rfl (slS 4 rfl rfl (slS 5 rfl rfl (slS 6 rfl rfl (slS 7 rfl rfl (slS 8 rfl rfl (slS 9 rfl rfl (slS 10 rfl rfl (slS 11 rfl rfl (slS 12 rfl rfl (slS 13 rfl rfl (slS 14 rfl rfl (slL 16 (d := 16) rfl (trivial))))))))))))))))) ?_ ?_
        · show ∀ i ∈ [0, 1, 2, 3, 4, 5, 6, 7, 8, 9, 10, 11, 12, 13, 14, 15, 16], _
          refine zA (zD 0 _ rfl rfl hLo rfl rfl (fun _ _ _ _ => rfl) (fun b G w hb ho => zB (.inl rfl) (zG rfl (HS41.get 12 rfl)))) ?_
          refine zA (zD 1 _ rfl rfl hLo rfl rfl (fun _ _ _ _ => rfl) (fun b G w hb ho => zB (.inl rfl) (zG rfl (HS41.get 14 rfl)))) ?_
          refine zA (zD 2 _ rfl rfl hLo rfl rfl (fun _ _ _ _ => rfl) (fun b G w hb ho => zI rfl (zC hLo 0 rfl HS41.1 rfl (hb 0 (by rfl))) (zC hLo 1 rfl HS41.1 rfl (hb 1 (by rfl))) (rb_bneq Tryd.underlying4 (rfl) _ _ _))) ?_
          refine zA (zD 3 _ rfl rfl hLo rfl rfl (fun _ _ _ _ => rfl) (fun b G w hb ho => zB (.inl rfl) (zC hLo 2 rfl HS41.1 rfl (hb 2 (by rfl))))) ?_
          refine zA (zL 4 rfl rfl hLo rfl rfl (fun b G hb ho => zE rfl rfl rfl HS41.1 rfl (zC hLo 3 rfl HS41.1 rfl (hb 3 (by rfl))) rfl)) ?_
          refine zA (zL 5 rfl rfl hLo rfl rfl (fun b G hb ho => zE rfl rfl rfl HS41.1 rfl (zC hLo 3 rfl HS41.1 rfl (hb 3 (by rfl))) rfl)) ?_
          refine zA (zL 6 rfl rfl hLo rfl rfl (fun b G hb ho => zE rfl rfl rfl HS41.1 rfl (zC hLo 3 rfl HS41.1 rfl (hb 3 (by rfl))) rfl)) ?_
          refine zA (zD 7 _ rfl rfl hLo rfl rfl (fun _ _ _ _ => rfl) (fun b G w hb ho => zJ rfl (zC hLo 3 rfl HS41.1 rfl (hb 3 (by rfl))) (rfl))) ?_
          refine zA (zD 8 _ rfl rfl hLo rfl rfl (fun _ _ _ _ => rfl) (fun b G w hb ho => zB (.inl rfl) (zC hLo 7 rfl HS41.1 rfl (hb 7 (by rfl))))) ?_
          refine zA (zY 9 0 _ rfl rfl rfl rfl (fun b G hb ho => zE rfl rfl rfl HS41.1 rfl (zC hLo 8 rfl HS41.1 rfl (hb 8 (by rfl))) rfl) hLo rfl rfl rfl (by rfl) Tryd.underlying25 (by kernel_rfl) rfl (fun b G hb ho => zG rfl (HS41.get 4 rfl))) ?_
          refine zA (zY 10 1 _ rfl rfl rfl rfl (fun b G hb ho => zE rfl rfl rfl HS41.1 rfl (zC hLo 8 rfl HS41.1 rfl (hb 8 (by rfl))) rfl) hLo rfl rfl rfl (by rfl) Tryd.underlying25 (by kernel_rfl) rfl (fun b G hb ho => zG rfl (HS41.get 5 rfl))) ?_
          refine zA (zD 11 _ rfl rfl hLo rfl rfl (fun b G hb ho => zE rfl rfl rfl HS41.1 rfl (zC hLo 8 rfl HS41.1 rfl (hb 8 (by rfl))) rfl) (fun b G w hb ho => zV rfl (zG rfl (HS41.get 10 rfl)) (by kernel_rfl))) ?_
          refine zA (st_read 12 2 _ _ rfl rfl rfl hLo rfl rfl (fun b G hb ho => zE rfl rfl rfl HS41.1 rfl (zC hLo 8 rfl HS41.1 rfl (hb 8 (by rfl))) rfl) (by rfl) (by rfl) (fun b G w hb ho hr => zW hr (Nat.le_of_ble_eq_true rfl) Tryd.underlying9 rfl rfl (zC hLo 11 rfl HS41.1 rfl (hb 11 (by rfl))))) ?_
          refine zA (zD 13 _ rfl rfl hLo rfl rfl (fun b G hb ho => zE rfl rfl rfl HS41.1 rfl (zC hLo 8 rfl HS41.1 rfl (hb 8 (by rfl))) rfl) (fun b G w hb ho => zB (.inl rfl) (zG rfl (HS41.get 3 rfl)))) ?_
          refine zA (zT 14 _ #[.agg (FR () 6 ((p).sc)), .agg (FR () 6 ((q).sc)), .string (NM (i)), .int .i64 (mine)] rfl rfl rfl (fun b G hb ho => zE rfl rfl rfl HS41.1 rfl (zC hLo 8 rfl HS41.1 rfl (hb 8 (by rfl))) rfl) hLo rfl rfl Tryd.func32 rfl rfl (fun b G hb ho => args4 (zC hLo 9 rfl HS41.1 rfl (hb 9 (by rfl))) (zC hLo 10 rfl HS41.1 rfl (hb 10 (by rfl))) (zC hLo 12 rfl HS41.1 rfl (hb 12 (by rfl))) (zC hLo 13 rfl HS41.1 rfl (hb 13 (by rfl)))) (fun w hw => (by have hq := may_calls (a := p) (b := q) (NM (i)) mine (hInp.below hw) (hInq.below hw) hRp hRq; rw [hr13] at hq; exact hq))) ?_
          refine zA (zD 15 _ rfl rfl hLo rfl rfl (fun b G hb ho => zE rfl rfl rfl HS41.1 rfl (zC hLo 8 rfl HS41.1 rfl (hb 8 (by rfl))) rfl) (fun b G w hb ho => exec_un rfl (zC hLo 14 rfl HS41.1 rfl (hb 14 (by rfl))) (ru_not _))) ?_
          refine zA (zD 16 _ rfl rfl hLo rfl rfl (fun _ _ _ _ => rfl) (fun b G w hb ho => zJ rfl (zC hLo 8 rfl HS41.1 rfl (hb 8 (by rfl))) (zC hLo 15 rfl HS41.1 rfl (hb 15 (by rfl))))) ?_
          exact zF
        clear hLo
        intro G a47 w47 hS hH
        have HS47 : Sl a47 120 [(0, .agg (FR () 6 ((p).sc))), (1, .agg (FR () 6 ((q).sc))), (2, .string (user)), (3, .int .i64 (mine)), (4, .pointer (some ⟨g1_0, 0, none⟩)), (5, .pointer (some ⟨g1_1, 0, none⟩)), (25, .slice (some ba) (7) (cn)), (26, .int .i64 (7)), (27, .int .i64 ((i : Int))), (28, .bool true), (10, .pointer (some ⟨g39_2, 0, none⟩)), (11, .int .i64 (((p).tell (NM (i))).1)), (12, .bool false), (13, .int .i64 (((q).tell (NM (i))).1)), (14, .bool true), (61, .bool (!r13))] := hS
        have HH47 : Held w w47 [⟨g1_0, (), 6, (p).sc, 25⟩, ⟨g1_1, (), 6, (q).sc, 25⟩, ⟨g39_2, (), 2, lsc (ent (i)), 48⟩] := hH
        clear hS hH HS41 HH41
        refine then_ ?_
        cases r13
        · skip
          refine wp_cond_true (HS47.get 15 rfl) ?_
          refine wp_seq ?_
          have hLo : LOk [(0, 8, .val (.bool false))] := lok (by rfl) (by rfl)
          refine zH (wE := w) (sz := 120) (n := 1) [0] [(0, .val (.agg (FR () 6 ((p).sc)))), (1, .val (.agg (FR () 6 ((q).sc)))), (2, .val (.string (user))), (3, .val (.int .i64 (mine))), (4, .val (.pointer (some ⟨g1_0, 0, none⟩))), (5, .val (.pointer (some ⟨g1_1, 0, none⟩))), (25, .val (.slice (some ba) (7) (cn))), (26, .val (.int .i64 (7))), (27, .val (.int .i64 ((i : Int)))), (28, .val (.bool true)), (10, .val (.pointer (some ⟨g39_2, 0, none⟩))), (11, .val (.int .i64 (((p).tell (NM (i))).1))), (12, .val (.bool false)), (13, .val (.int .i64 (((q).tell (NM (i))).1))), (14, .val (.bool true)), (61, .val (.bool true)), (8, .val (.bool false))] [(0, 8, .val (.bool false))] [⟨g1_0, none, none, (), 6, (p).sc, (p).sc, 25⟩, ⟨g1_1, none, none, (), 6, (q).sc, (q).sc, 25⟩, ⟨g39_2, none, none, (), 2, lsc (ent (i)), lsc (ent (i)), 48⟩] rfl (by rfl) HH47 rfl rfl hLo rfl HS47 (slS 0 rfl rfl (slS 1 rfl rfl (slS 2 rfl rfl (slS 3 rfl rfl (slS 4 rfl rfl (slS 5 rfl rfl (slS 6 rfl rfl (slS 7 rfl rfl (slS 8 rfl rfl (slS 9 rfl rfl (slS 10 rfl rfl (slS 11 rfl rfl (slS 12 rfl rfl (slS 13 rfl rfl (slS 14 rfl rfl (slS 15 rfl rfl (slL 0 (d := 0) rfl (trivial)))))))))))))))))) ?_ ?_
          · show ∀ i ∈ [0], _
            refine zA (zD 0 _ rfl rfl hLo rfl rfl (fun _ _ _ _ => rfl) (fun b G w hb ho => zB (.inr rfl) (rfl))) ?_
            exact zF
          clear hLo
          intro G a48 w48 hS hH
          have HS48 : Sl a48 120 [(0, .agg (FR () 6 ((p).sc))), (1, .agg (FR () 6 ((q).sc))), (2, .string (user)), (3, .int .i64 (mine)), (4, .pointer (some ⟨g1_0, 0, none⟩)), (5, .pointer (some ⟨g1_1, 0, none⟩)), (25, .slice (some ba) (7) (cn)), (26, .int .i64 (7)), (27, .int .i64 ((i : Int))), (28, .bool true), (10, .pointer (some ⟨g39_2, 0, none⟩)), (11, .int .i64 (((p).tell (NM (i))).1)), (12, .bool false), (13, .int .i64 (((q).tell (NM (i))).1)), (14, .bool true), (61, .bool true), (8, .bool false)] := hS
          have HH48 : Held w w48 [⟨g1_0, (), 6, (p).sc, 25⟩, ⟨g1_1, (), 6, (q).sc, 25⟩, ⟨g39_2, (), 2, lsc (ent (i)), 48⟩] := hH
          clear hS hH HS47 HH47
          refine then_ ?_
          refine wp_ret ?_
          repeat (first | refine zS ?_ | refine zN ?_)
          exact b_tmp rfl HS48.2.1 (HS48.get 16 rfl) ⟨bool_ret (chg_no1 hlti (name_bad (differs_of hr9 hr10 (by rfl)) hr13)), HH48.1⟩
        · skip
          refine wp_cond_false (HS47.get 15 rfl) ?_
          refine wp_skip ?_
          refine zR ?_
          refine then_ ?_
          have hLo : LOk [(0, 62, .val (.int .i64 (((i + 1 : Nat) : Int)))), (1, 27, .val (.int .i64 (((i + 1 : Nat) : Int))))] := lok (by rfl) (by rfl)
          refine zH (wE := w) (sz := 120) (n := 2) [0, 1] [(0, .val (.agg (FR () 6 ((p).sc)))), (1, .val (.agg (FR () 6 ((q).sc)))), (2, .val (.string (user))), (3, .val (.int .i64 (mine))), (4, .val (.pointer (some ⟨g1_0, 0, none⟩))), (5, .val (.pointer (some ⟨g1_1, 0, none⟩))), (25, .val (.slice (some ba) (7) (cn))), (26, .val (.int .i64 (7))), (28, .val (.bool true)), (10, .val (.pointer (some ⟨g39_2, 0, none⟩))), (11, .val (.int .i64 (((p).tell (NM (i))).1))), (12, .val (.bool false)), (13, .val (.int .i64 (((q).tell (NM (i))).1))), (14, .val (.bool true)), (61, .val (.bool false)), (27, .val (.int .i64 (((i + 1 : Nat) : Int))))] [(0, 62, .val (.int .i64 (((i + 1 : Nat) : Int)))), (1, 27, .val (.int .i64 (((i + 1 : Nat) : Int))))] [⟨g1_0, none, none, (), 6, (p).sc, (p).sc, 25⟩, ⟨g1_1, none, none, (), 6, (q).sc, (q).sc, 25⟩, ⟨g39_2, none, none, (), 2, lsc (ent (i)), lsc (ent (i)), 48⟩] rfl (by rfl) HH47 rfl rfl hLo rfl HS47 (slS 0 rfl rfl (slS 1 rfl rfl (slS 2 rfl rfl (slS 3 rfl rfl (slS 4 rfl rfl (slS 5 rfl rfl (slS 6 rfl rfl (slS 7 rfl rfl (slS 9 rfl rfl (slS 10 rfl rfl (slS 11 rfl rfl (slS 12 rfl rfl (slS 13 rfl rfl (slS 14 rfl rfl (slS 15 rfl rfl (slL 1 (d := 1) rfl (trivial))))))))))))))))) ?_ ?_
          · show ∀ i ∈ [0, 1], _
            refine zA (zD 0 _ rfl rfl hLo rfl rfl (fun _ _ _ _ => rfl) (fun b G w hb ho => zI rfl (ev_pre hLo 1 rfl (ho 1 (by rfl)) (HS47.get 8 rfl)) (rfl) (rb_add (w_nat (by omega) (by omega)) _ _ _))) ?_
            refine zA (zD 1 _ rfl rfl hLo rfl rfl (fun _ _ _ _ => rfl) (fun b G w hb ho => zB (.inl rfl) (zC hLo 0 rfl HS47.1 rfl (hb 0 (by rfl))))) ?_
            exact zF
          clear hLo
          intro G a49 w49 hS hH
          have HS49 : Sl a49 120 [(0, .agg (FR () 6 ((p).sc))), (1, .agg (FR () 6 ((q).sc))), (2, .string (user)), (3, .int .i64 (mine)), (4, .pointer (some ⟨g1_0, 0, none⟩)), (5, .pointer (some ⟨g1_1, 0, none⟩)), (25, .slice (some ba) (7) (cn)), (26, .int .i64 (7)), (28, .bool true), (10, .pointer (some ⟨g39_2, 0, none⟩)), (11, .int .i64 (((p).tell (NM (i))).1)), (12, .bool false), (13, .int .i64 (((q).tell (NM (i))).1)), (14, .bool true), (61, .bool false), (27, .int .i64 (((i + 1 : Nat) : Int)))] := hS
          have HH49 : Held w w49 [⟨g1_0, (), 6, (p).sc, 25⟩, ⟨g1_1, (), 6, (q).sc, 25⟩, ⟨g39_2, (), 2, lsc (ent (i)), 48⟩] := hH
          clear hS hH HS47 HH47
          refine then_ ?_
          have hSq0' : Sl _ 120 [(0, .agg (FR () 6 ((p).sc))), (1, .agg (FR () 6 ((q).sc))), (2, .string (user)), (3, .int .i64 (mine)), (4, .pointer (some ⟨g1_0, 0, none⟩)), (5, .pointer (some ⟨g1_1, 0, none⟩)), (25, .slice (some ba) (7) (cn)), (26, .int .i64 (7)), (27, .int .i64 (((i + 1 : Nat) : Int)))] := sl_keep HS49 [0, 1, 2, 3, 4, 5, 6, 7, 15] (by rfl)
          have hHq0' : Held w _ [⟨g1_0, (), 6, (p).sc, 25⟩, ⟨g1_1, (), 6, (q).sc, 25⟩] := held_keep HH49 2 rfl
          exact ⟨⟨i + 1, by omega, allB_step hpi (name_ok2 hr13), hSq0', hHq0'⟩, by rw [(hSq0'.get 8 rfl)]; show 7 - (((i + 1 : Nat) : Int)).toNat < 7 - i; omega⟩
    · skip
      cases r10
      · skip
        obtain ⟨r14, hr14⟩ : ∃ r : Bool, (mayB p q (NM (i)) mine) = r := ⟨_, rfl⟩
        refine wp_seq ?_
        have hLo : LOk [(0, 45, .val (.bool true)), (1, 46, .val (.bool false)), (2, 47, .val (.bool true)), (3, 48, .val (.bool true)), (4, 49, .val (undef)), (5, 50, .val (undef)), (6, 51, .val (undef)), (7, 52, .val (.bool true)), (8, 53, .val (.bool true)), (9, 54, .val (.agg (FR () 6 ((p).sc)))), (10, 55, .val (.agg (FR () 6 ((q).sc)))), (11, 56, .val (.pointer (some ⟨g39_2, 0, none⟩))), (12, 57, .val (.string (NM (i)))), (13, 58, .val (.int .i64 (mine))), (14, 59, .val (.bool r14)), (15, 60, .val (.bool (!r14))), (16, 61, .val (.bool (!r14)))] := lok (by rfl) (by rfl)
        refine zH (wE := w) (sz := 120) (n := 17) [0, 1, 3, 7, 15, 31, 63, 127, 255, 511, 1023, 2047, 4095, 8191, 16383, 32767, 65535] [(0, .val (.agg (FR () 6 ((p).sc)))), (1, .val (.agg (FR () 6 ((q).sc)))), (2, .val (.string (user))), (3, .val (.int .i64 (mine))), (4, .val (.pointer (some ⟨g1_0, 0, none⟩))), (5, .val (.pointer (some ⟨g1_1, 0, none⟩))), (25, .val (.slice (some ba) (7) (cn))), (26, .val (.int .i64 (7))), (27, .val (.int .i64 ((i : Int)))), (28, .val (.bool true)), (10, .val (.pointer (some ⟨g39_2, 0, none⟩))), (11, .val (.int .i64 (((p).tell (NM (i))).1))), (12, .val (.bool true)), (13, .val (.int .i64 (((q).tell (NM (i))).1))), (14, .val (.bool false)), (61, .val (.bool (!r14)))] [(0, 45, .val (.bool true)), (1, 46, .val (.bool false)), (2, 47, .val (.bool true)), (3, 48, .val (.bool true)), (4, 49, .val (undef)), (5, 50, .val (undef)), (6, 51, .val (undef)), (7, 52, .val (.bool true)), (8, 53, .val (.bool true)), (9, 54, .val (.agg (FR () 6 ((p).sc)))), (10, 55, .val (.agg (FR () 6 ((q).sc)))), (11, 56, .val (.pointer (some ⟨g39_2, 0, none⟩))), (12, 57, .val (.string (NM (i)))), (13, 58, .val (.int .i64 (mine))), (14, 59, .val (.bool r14)), (15, 60, .val (.bool (!r14))), (16, 61, .val (.bool (!r14)))] [⟨g1_0, none, none, (), 6, (p).sc, (p).sc, 25⟩, ⟨g1_1, none, none, (), 6, (q).sc, (q).sc, 25⟩, ⟨g39_2, none, none, (), 2, lsc (ent (i)), lsc (ent (i)), 48⟩] rfl (by rfl) HH41 rfl rfl hLo rfl HS41 (slS 0 rfl rfl (slS 1 rfl rfl (slS 2 rfl rfl (slS 3 rfl rfl (slS 4 rfl rfl (slS 5 rfl rfl (slS 6 rfl rfl (slS 7 rfl rfl (slS 8 rfl rfl (slS 9 rfl rfl (slS 10 rfl rfl (slS 11 rfl rfl (slS 12 rfl rfl (slS 13 rfl rfl (slS 14 rfl rfl (slL 16 (d := 16) rfl (trivial))))))))))))))))) ?_ ?_
        · show ∀ i ∈ [0, 1, 2, 3, 4, 5, 6, 7, 8, 9, 10, 11, 12, 13, 14, 15, 16], _
          refine zA (zD 0 _ rfl rfl hLo rfl rfl (fun _ _ _ _ => rfl) (fun b G w hb ho => zB (.inl rfl) (zG rfl (HS41.get 12 rfl)))) ?_
          refine zA (zD 1 _ rfl rfl hLo rfl rfl (fun _ _ _ _ => rfl) (fun b G w hb ho => zB (.inl rfl) (zG rfl (HS41.get 14 rfl)))) ?_
          refine zA (zD 2 _ rfl rfl hLo rfl rfl (fun _ _ _ _ => rfl) (fun b G w hb ho => zI rfl (zC hLo 0 rfl HS41.1 rfl (hb 0 (by rfl))) (zC hLo 1 rfl HS41.1 rfl (hb 1 (by rfl))) (rb_bneq Tryd.underlying4 (rfl) _ _ _))) ?_
          refine zA (zD 3 _ rfl rfl hLo rfl rfl (fun _ _ _ _ => rfl) (fun b G w hb ho => zB (.inl rfl) (zC hLo 2 rfl HS41.1 rfl (hb 2 (by rfl))))) ?_
          refine zA (zL 4 rfl rfl hLo rfl rfl (fun b G hb ho => zE rfl rfl rfl HS41.1 rfl (zC hLo 3 rfl HS41.1 rfl (hb 3 (by rfl))) rfl)) ?_
          refine zA (zL 5 rfl rfl hLo rfl rfl (fun b G hb ho => zE rfl rfl rfl HS41.1 rfl (zC hLo 3 rfl HS41.1 rfl (hb 3 (by rfl))) rfl)) ?_
          refine zA (zL 6 rfl rfl hLo rfl rfl (fun b G hb ho => zE rfl rfl rfl HS41.1 rfl (zC hLo 3 rfl HS41.1 rfl (hb 3 (by rfl))) rfl)) ?_
          refine zA (zD 7 _ rfl rfl hLo rfl rfl (fun _ _ _ _ => rfl) (fun b G w hb ho => zJ rfl (zC hLo 3 rfl HS41.1 rfl (hb 3 (by rfl))) (rfl))) ?_
          refine zA (zD 8 _ rfl rfl hLo rfl rfl (fun _ _ _ _ => rfl) (fun b G w hb ho => zB (.inl rfl) (zC hLo 7 rfl HS41.1 rfl (hb 7 (by rfl))))) ?_
          refine zA (zY 9 0 _ rfl rfl rfl rfl (fun b G hb ho => zE rfl rfl rfl HS41.1 rfl (zC hLo 8 rfl HS41.1 rfl (hb 8 (by rfl))) rfl) hLo rfl rfl rfl (by rfl) Tryd.underlying25 (by kernel_rfl) rfl (fun b G hb ho => zG rfl (HS41.get 4 rfl))) ?_
          refine zA (zY 10 1 _ rfl rfl rfl rfl (fun b G hb ho => zE rfl rfl rfl HS41.1 rfl (zC hLo 8 rfl HS41.1 rfl (hb 8 (by rfl))) rfl) hLo rfl rfl rfl (by rfl) Tryd.underlying25 (by kernel_rfl) rfl (fun b G hb ho => zG rfl (HS41.get 5 rfl))) ?_
          refine zA (zD 11 _ rfl rfl hLo rfl rfl (fun b G hb ho => zE rfl rfl rfl HS41.1 rfl (zC hLo 8 rfl HS41.1 rfl (hb 8 (by rfl))) rfl) (fun b G w hb ho => zV rfl (zG rfl (HS41.get 10 rfl)) (by kernel_rfl))) ?_
          refine zA (st_read 12 2 _ _ rfl rfl rfl hLo rfl rfl (fun b G hb ho => zE rfl rfl rfl HS41.1 rfl (zC hLo 8 rfl HS41.1 rfl (hb 8 (by rfl))) rfl) (by rfl) (by rfl) (fun b G w hb ho hr => zW hr (Nat.le_of_ble_eq_true rfl) Tryd.underlying9 rfl rfl (zC hLo 11 rfl HS41.1 rfl (hb 11 (by rfl))))) ?_
          refine zA (zD 13 _ rfl rfl hLo rfl rfl (fun b G hb ho => zE rfl rfl rfl HS41.1 rfl (zC hLo 8 rfl HS41.1 rfl (hb 8 (by rfl))) rfl) (fun b G w hb ho => zB (.inl rfl) (zG rfl (HS41.get 3 rfl)))) ?_
          refine zA (zT 14 _ #[.agg (FR () 6 ((p).sc)), .agg (FR () 6 ((q).sc)), .string (NM (i)), .int .i64 (mine)] rfl rfl rfl (fun b G hb ho => zE rfl rfl rfl HS41.1 rfl (zC hLo 8 rfl HS41.1 rfl (hb 8 (by rfl))) rfl) hLo rfl rfl Tryd.func32 rfl rfl (fun b G hb ho => args4 (zC hLo 9 rfl HS41.1 rfl (hb 9 (by rfl))) (zC hLo 10 rfl HS41.1 rfl (hb 10 (by rfl))) (zC hLo 12 rfl HS41.1 rfl (hb 12 (by rfl))) (zC hLo 13 rfl HS41.1 rfl (hb 13 (by rfl)))) (fun w hw => (by have hq := may_calls (a := p) (b := q) (NM (i)) mine (hInp.below hw) (hInq.below hw) hRp hRq; rw [hr14] at hq; exact hq))) ?_
          refine zA (zD 15 _ rfl rfl hLo rfl rfl (fun b G hb ho => zE rfl rfl rfl HS41.1 rfl (zC hLo 8 rfl HS41.1 rfl (hb 8 (by rfl))) rfl) (fun b G w hb ho => exec_un rfl (zC hLo 14 rfl HS41.1 rfl (hb 14 (by rfl))) (ru_not _))) ?_
          refine zA (zD 16 _ rfl rfl hLo rfl rfl (fun _ _ _ _ => rfl) (fun b G w hb ho => zJ rfl (zC hLo 8 rfl HS41.1 rfl (hb 8 (by rfl))) (zC hLo 15 rfl HS41.1 rfl (hb 15 (by rfl))))) ?_
          exact zF
        clear hLo
        intro G a50 w50 hS hH
        have HS50 : Sl a50 120 [(0, .agg (FR () 6 ((p).sc))), (1, .agg (FR () 6 ((q).sc))), (2, .string (user)), (3, .int .i64 (mine)), (4, .pointer (some ⟨g1_0, 0, none⟩)), (5, .pointer (some ⟨g1_1, 0, none⟩)), (25, .slice (some ba) (7) (cn)), (26, .int .i64 (7)), (27, .int .i64 ((i : Int))), (28, .bool true), (10, .pointer (some ⟨g39_2, 0, none⟩)), (11, .int .i64 (((p).tell (NM (i))).1)), (12, .bool true), (13, .int .i64 (((q).tell (NM (i))).1)), (14, .bool false), (61, .bool (!r14))] := hS
        have HH50 : Held w w50 [⟨g1_0, (), 6, (p).sc, 25⟩, ⟨g1_1, (), 6, (q).sc, 25⟩, ⟨g39_2, (), 2, lsc (ent (i)), 48⟩] := hH
        clear hS hH HS41 HH41
        refine then_ ?_
        cases r14
        · skip
          refine wp_cond_true (HS50.get 15 rfl) ?_
          refine wp_seq ?_
          have hLo : LOk [(0, 8, .val (.bool false))] := lok (by rfl) (by rfl)
          refine zH (wE := w) (sz := 120) (n := 1) [0] [(0, .val (.agg (FR () 6 ((p).sc)))), (1, .val (.agg (FR () 6 ((q).sc)))), (2, .val (.string (user))), (3, .val (.int .i64 (mine))), (4, .val (.pointer (some ⟨g1_0, 0, none⟩))), (5, .val (.pointer (some ⟨g1_1, 0, none⟩))), (25, .val (.slice (some ba) (7) (cn))), (26, .val (.int .i64 (7))), (27, .val (.int .i64 ((i : Int)))), (28, .val (.bool true)), (10, .val (.pointer (some ⟨g39_2, 0, none⟩))), (11, .val (.int .i64 (((p).tell (NM (i))).1))), (12, .val (.bool true)), (13, .val (.int .i64 (((q).tell (NM (i))).1))), (14, .val (.bool false)), (61, .val (.bool true)), (8, .val (.bool false))] [(0, 8, .val (.bool false))] [⟨g1_0, none, none, (), 6, (p).sc, (p).sc, 25⟩, ⟨g1_1, none, none, (), 6, (q).sc, (q).sc, 25⟩, ⟨g39_2, none, none, (), 2, lsc (ent (i)), lsc (ent (i)), 48⟩] rfl (by rfl) HH50 rfl rfl hLo rfl HS50 (slS 0 rfl rfl (slS 1 rfl rfl (slS 2 rfl rfl (slS 3 rfl rfl (slS 4 rfl rfl (slS 5 rfl rfl (slS 6 rfl rfl (slS 7 rfl rfl (slS 8 rfl rfl (slS 9 rfl rfl (slS 10 rfl rfl (slS 11 rfl rfl (slS 12 rfl rfl (slS 13 rfl rfl (slS 14 rfl rfl (slS 15 rfl rfl (slL 0 (d := 0) rfl (trivial)))))))))))))))))) ?_ ?_
          · show ∀ i ∈ [0], _
            refine zA (zD 0 _ rfl rfl hLo rfl rfl (fun _ _ _ _ => rfl) (fun b G w hb ho => zB (.inr rfl) (rfl))) ?_
            exact zF
          clear hLo
          intro G a51 w51 hS hH
          have HS51 : Sl a51 120 [(0, .agg (FR () 6 ((p).sc))), (1, .agg (FR () 6 ((q).sc))), (2, .string (user)), (3, .int .i64 (mine)), (4, .pointer (some ⟨g1_0, 0, none⟩)), (5, .pointer (some ⟨g1_1, 0, none⟩)), (25, .slice (some ba) (7) (cn)), (26, .int .i64 (7)), (27, .int .i64 ((i : Int))), (28, .bool true), (10, .pointer (some ⟨g39_2, 0, none⟩)), (11, .int .i64 (((p).tell (NM (i))).1)), (12, .bool true), (13, .int .i64 (((q).tell (NM (i))).1)), (14, .bool false), (61, .bool true), (8, .bool false)] := hS
          have HH51 : Held w w51 [⟨g1_0, (), 6, (p).sc, 25⟩, ⟨g1_1, (), 6, (q).sc, 25⟩, ⟨g39_2, (), 2, lsc (ent (i)), 48⟩] := hH
          clear hS hH HS50 HH50
          refine then_ ?_
          refine wp_ret ?_
          repeat (first | refine zS ?_ | refine zN ?_)
          exact b_tmp rfl HS51.2.1 (HS51.get 16 rfl) ⟨bool_ret (chg_no1 hlti (name_bad (differs_of hr9 hr10 (by rfl)) hr14)), HH51.1⟩
        · skip
          refine wp_cond_false (HS50.get 15 rfl) ?_
          refine wp_skip ?_
          refine zR ?_
          refine then_ ?_
          have hLo : LOk [(0, 62, .val (.int .i64 (((i + 1 : Nat) : Int)))), (1, 27, .val (.int .i64 (((i + 1 : Nat) : Int))))] := lok (by rfl) (by rfl)
          refine zH (wE := w) (sz := 120) (n := 2) [0, 1] [(0, .val (.agg (FR () 6 ((p).sc)))), (1, .val (.agg (FR () 6 ((q).sc)))), (2, .val (.string (user))), (3, .val (.int .i64 (mine))), (4, .val (.pointer (some ⟨g1_0, 0, none⟩))), (5, .val (.pointer (some ⟨g1_1, 0, none⟩))), (25, .val (.slice (some ba) (7) (cn))), (26, .val (.int .i64 (7))), (28, .val (.bool true)), (10, .val (.pointer (some ⟨g39_2, 0, none⟩))), (11, .val (.int .i64 (((p).tell (NM (i))).1))), (12, .val (.bool true)), (13, .val (.int .i64 (((q).tell (NM (i))).1))), (14, .val (.bool false)), (61, .val (.bool false)), (27, .val (.int .i64 (((i + 1 : Nat) : Int))))] [(0, 62, .val (.int .i64 (((i + 1 : Nat) : Int)))), (1, 27, .val (.int .i64 (((i + 1 : Nat) : Int))))] [⟨g1_0, none, none, (), 6, (p).sc, (p).sc, 25⟩, ⟨g1_1, none, none, (), 6, (q).sc, (q).sc, 25⟩, ⟨g39_2, none, none, (), 2, lsc (ent (i)), lsc (ent (i)), 48⟩] rfl (by rfl) HH50 rfl rfl hLo rfl HS50 (slS 0 rfl rfl (slS 1 rfl rfl (slS 2 rfl rfl (slS 3 rfl rfl (slS 4 rfl rfl (slS 5 rfl rfl (slS 6 rfl rfl (slS 7 rfl rfl (slS 9 rfl rfl (slS 10 rfl rfl (slS 11 rfl rfl (slS 12 rfl rfl (slS 13 rfl rfl (slS 14 rfl rfl (slS 15 rfl rfl (slL 1 (d := 1) rfl (trivial))))))))))))))))) ?_ ?_
          · show ∀ i ∈ [0, 1], _
            refine zA (zD 0 _ rfl rfl hLo rfl rfl (fun _ _ _ _ => rfl) (fun b G w hb ho => zI rfl (ev_pre hLo 1 rfl (ho 1 (by rfl)) (HS50.get 8 rfl)) (rfl) (rb_add (w_nat (by omega) (by omega)) _ _ _))) ?_
            refine zA (zD 1 _ rfl rfl hLo rfl rfl (fun _ _ _ _ => rfl) (fun b G w hb ho => zB (.inl rfl) (zC hLo 0 rfl HS50.1 rfl (hb 0 (by rfl))))) ?_
            exact zF
          clear hLo
          intro G a52 w52 hS hH
          have HS52 : Sl a52 120 [(0, .agg (FR () 6 ((p).sc))), (1, .agg (FR () 6 ((q).sc))), (2, .string (user)), (3, .int .i64 (mine)), (4, .pointer (some ⟨g1_0, 0, none⟩)), (5, .pointer (some ⟨g1_1, 0, none⟩)), (25, .slice (some ba) (7) (cn)), (26, .int .i64 (7)), (28, .bool true), (10, .pointer (some ⟨g39_2, 0, none⟩)), (11, .int .i64 (((p).tell (NM (i))).1)), (12, .bool true), (13, .int .i64 (((q).tell (NM (i))).1)), (14, .bool false), (61, .bool false), (27, .int .i64 (((i + 1 : Nat) : Int)))] := hS
          have HH52 : Held w w52 [⟨g1_0, (), 6, (p).sc, 25⟩, ⟨g1_1, (), 6, (q).sc, 25⟩, ⟨g39_2, (), 2, lsc (ent (i)), 48⟩] := hH
          clear hS hH HS50 HH50
          refine then_ ?_
          have hSq0' : Sl _ 120 [(0, .agg (FR () 6 ((p).sc))), (1, .agg (FR () 6 ((q).sc))), (2, .string (user)), (3, .int .i64 (mine)), (4, .pointer (some ⟨g1_0, 0, none⟩)), (5, .pointer (some ⟨g1_1, 0, none⟩)), (25, .slice (some ba) (7) (cn)), (26, .int .i64 (7)), (27, .int .i64 (((i + 1 : Nat) : Int)))] := sl_keep HS52 [0, 1, 2, 3, 4, 5, 6, 7, 15] (by rfl)
          have hHq0' : Held w _ [⟨g1_0, (), 6, (p).sc, 25⟩, ⟨g1_1, (), 6, (q).sc, 25⟩] := held_keep HH52 2 rfl
          exact ⟨⟨i + 1, by omega, allB_step hpi (name_ok2 hr14), hSq0', hHq0'⟩, by rw [(hSq0'.get 8 rfl)]; show 7 - (((i + 1 : Nat) : Int)).toNat < 7 - i; omega⟩
      · skip
        obtain ⟨r15, hr15⟩ : ∃ r : Bool, (((((p).tell (NM (i))).1 : Int) != ((q).tell (NM (i))).1)) = r := ⟨_, rfl⟩
        cases r15
        · skip
          refine wp_seq ?_
          have hLo : LOk [(0, 45, .val (.bool true)), (1, 46, .val (.bool true)), (2, 47, .val (.bool false)), (3, 48, .val (.bool false)), (4, 49, .val (.int .i64 (((p).tell (NM (i))).1))), (5, 50, .val (.int .i64 (((q).tell (NM (i))).1))), (6, 51, .val (.bool false)), (7, 52, .val (.bool false)), (8, 53, .val (.bool false)), (9, 54, .val (undef)), (10, 55, .val (undef)), (11, 56, .val (undef)), (12, 57, .val (undef)), (13, 58, .val (undef)), (14, 59, .val (undef)), (15, 60, .val (undef)), (16, 61, .val (.bool false))] := lok (by rfl) (by rfl)
          refine zH (wE := w) (sz := 120) (n := 17) [0, 1, 3, 7, 15, 31, 63, 127, 255, 511, 1023, 2047, 4095, 8191, 16383, 32767, 65535] [(0, .val (.agg (FR () 6 ((p).sc)))), (1, .val (.agg (FR () 6 ((q).sc)))), (2, .val (.string (user))), (3, .val (.int .i64 (mine))), (4, .val (.pointer (some ⟨g1_0, 0, none⟩))), (5, .val (.pointer (some ⟨g1_1, 0, none⟩))), (25, .val (.slice (some ba) (7) (cn))), (26, .val (.int .i64 (7))), (27, .val (.int .i64 ((i : Int)))), (28, .val (.bool true)), (10, .val (.pointer (some ⟨g39_2, 0, none⟩))), (11, .val (.int .i64 (((p).tell (NM (i))).1))), (12, .val (.bool true)), (13, .val (.int .i64 (((q).tell (NM (i))).1))), (14, .val (.bool true)), (61, .val (.bool false))] [(0, 45, .val (.bool true)), (1, 46, .val (.bool true)), (2, 47, .val (.bool false)), (3, 48, .val (.bool false)), (4, 49, .val (.int .i64 (((p).tell (NM (i))).1))), (5, 50, .val (.int .i64 (((q).tell (NM (i))).1))), (6, 51, .val (.bool false)), (7, 52, .val (.bool false)), (8, 53, .val (.bool false)), (9, 54, .val (undef)), (10, 55, .val (undef)), (11, 56, .val (undef)), (12, 57, .val (undef)), (13, 58, .val (undef)), (14, 59, .val (undef)), (15, 60, .val (undef)), (16, 61, .val (.bool false))] [⟨g1_0, none, none, (), 6, (p).sc, (p).sc, 25⟩, ⟨g1_1, none, none, (), 6, (q).sc, (q).sc, 25⟩, ⟨g39_2, none, none, (), 2, lsc (ent (i)), lsc (ent (i)), 48⟩] rfl (by rfl) HH41 rfl rfl hLo rfl HS41 (slS 0 rfl rfl (slS 1 rfl rfl (slS 2 rfl rfl (slS 3 rfl rfl (slS 4 rfl rfl (slS 5 rfl rfl (slS 6 rfl rfl (slS 7 rfl rfl (slS 8 rfl rfl (slS 9 rfl rfl (slS 10 rfl rfl (slS 11 rfl rfl (slS 12 rfl rfl (slS 13 rfl rfl (slS 14 rfl rfl (slL 16 (d := 16) rfl (trivial))))))))))))))))) ?_ ?_
          · show ∀ i ∈ [0, 1, 2, 3, 4, 5, 6, 7, 8, 9, 10, 11, 12, 13, 14, 15, 16], _
            refine zA (zD 0 _ rfl rfl hLo rfl rfl (fun _ _ _ _ => rfl) (fun b G w hb ho => zB (.inl rfl) (zG rfl (HS41.get 12 rfl)))) ?_
            refine zA (zD 1 _ rfl rfl hLo rfl rfl (fun _ _ _ _ => rfl) (fun b G w hb ho => zB (.inl rfl) (zG rfl (HS41.get 14 rfl)))) ?_
            refine zA (zD 2 _ rfl rfl hLo rfl rfl (fun _ _ _ _ => rfl) (fun b G w hb ho => zI rfl (zC hLo 0 rfl HS41.1 rfl (hb 0 (by rfl))) (zC hLo 1 rfl HS41.1 rfl (hb 1 (by rfl))) (rb_bneq Tryd.underlying4 (rfl) _ _ _))) ?_
            refine zA (zD 3 _ rfl rfl hLo rfl rfl (fun _ _ _ _ => rfl) (fun b G w hb ho => zB (.inl rfl) (zC hLo 2 rfl HS41.1 rfl (hb 2 (by rfl))))) ?_
            refine zA (zD 4 _ rfl rfl hLo rfl rfl (fun b G hb ho => zE rfl rfl rfl HS41.1 rfl (zC hLo 3 rfl HS41.1 rfl (hb 3 (by rfl))) rfl) (fun b G w hb ho => zB (.inl rfl) (zG rfl (HS41.get 11 rfl)))) ?_
            refine zA (zD 5 _ rfl rfl hLo rfl rfl (fun b G hb ho => zE rfl rfl rfl HS41.1 rfl (zC hLo 3 rfl HS41.1 rfl (hb 3 (by rfl))) rfl) (fun b G w hb ho => zB (.inl rfl) (zG rfl (HS41.get 13 rfl)))) ?_
            refine zA (zD 6 _ rfl rfl hLo rfl rfl (fun b G hb ho => zE rfl rfl rfl HS41.1 rfl (zC hLo 3 rfl HS41.1 rfl (hb 3 (by rfl))) rfl) (fun b G w hb ho => zI rfl (zC hLo 4 rfl HS41.1 rfl (hb 4 (by rfl))) (zC hLo 5 rfl HS41.1 rfl (hb 5 (by rfl))) (rb_neq hr15 _ _ _))) ?_
            refine zA (zD 7 _ rfl rfl hLo rfl rfl (fun _ _ _ _ => rfl) (fun b G w hb ho => zJ rfl (zC hLo 3 rfl HS41.1 rfl (hb 3 (by rfl))) (zC hLo 6 rfl HS41.1 rfl (hb 6 (by rfl))))) ?_
            refine zA (zD 8 _ rfl rfl hLo rfl rfl (fun _ _ _ _ => rfl) (fun b G w hb ho => zB (.inl rfl) (zC hLo 7 rfl HS41.1 rfl (hb 7 (by rfl))))) ?_
            refine zA (zL 9 rfl rfl hLo rfl rfl (fun b G hb ho => zE rfl rfl rfl HS41.1 rfl (zC hLo 8 rfl HS41.1 rfl (hb 8 (by rfl))) rfl)) ?_
            refine zA (zL 10 rfl rfl hLo rfl rfl (fun b G hb ho => zE rfl rfl rfl HS41.1 rfl (zC hLo 8 rfl HS41.1 rfl (hb 8 (by rfl))) rfl)) ?_
            refine zA (zL 11 rfl rfl hLo rfl rfl (fun b G hb ho => zE rfl rfl rfl HS41.1 rfl (zC hLo 8 rfl HS41.1 rfl (hb 8 (by rfl))) rfl)) ?_
            refine zA (zL 12 rfl rfl hLo rfl rfl (fun b G hb ho => zE rfl rfl rfl HS41.1 rfl (zC hLo 8 rfl HS41.1 rfl (hb 8 (by rfl))) rfl)) ?_
            refine zA (zL 13 rfl rfl hLo rfl rfl (fun b G hb ho => zE rfl rfl rfl HS41.1 rfl (zC hLo 8 rfl HS41.1 rfl (hb 8 (by rfl))) rfl)) ?_
            refine zA (zL 14 rfl rfl hLo rfl rfl (fun b G hb ho => zE rfl rfl rfl HS41.1 rfl (zC hLo 8 rfl HS41.1 rfl (hb 8 (by rfl))) rfl)) ?_
            refine zA (zL 15 rfl rfl hLo rfl rfl (fun b G hb ho => zE rfl rfl rfl HS41.1 rfl (zC hLo 8 rfl HS41.1 rfl (hb 8 (by rfl))) rfl)) ?_
            refine zA (zD 16 _ rfl rfl hLo rfl rfl (fun _ _ _ _ => rfl) (fun b G w hb ho => zJ rfl (zC hLo 8 rfl HS41.1 rfl (hb 8 (by rfl))) (rfl))) ?_
            exact zF
          clear hLo
          intro G a53 w53 hS hH
          have HS53 : Sl a53 120 [(0, .agg (FR () 6 ((p).sc))), (1, .agg (FR () 6 ((q).sc))), (2, .string (user)), (3, .int .i64 (mine)), (4, .pointer (some ⟨g1_0, 0, none⟩)), (5, .pointer (some ⟨g1_1, 0, none⟩)), (25, .slice (some ba) (7) (cn)), (26, .int .i64 (7)), (27, .int .i64 ((i : Int))), (28, .bool true), (10, .pointer (some ⟨g39_2, 0, none⟩)), (11, .int .i64 (((p).tell (NM (i))).1)), (12, .bool true), (13, .int .i64 (((q).tell (NM (i))).1)), (14, .bool true), (61, .bool false)] := hS
          have HH53 : Held w w53 [⟨g1_0, (), 6, (p).sc, 25⟩, ⟨g1_1, (), 6, (q).sc, 25⟩, ⟨g39_2, (), 2, lsc (ent (i)), 48⟩] := hH
          clear hS hH HS41 HH41
          refine then_ ?_
          refine wp_cond_false (HS53.get 15 rfl) ?_
          refine wp_skip ?_
          refine zR ?_
          refine then_ ?_
          have hLo : LOk [(0, 62, .val (.int .i64 (((i + 1 : Nat) : Int)))), (1, 27, .val (.int .i64 (((i + 1 : Nat) : Int))))] := lok (by rfl) (by rfl)
          refine zH (wE := w) (sz := 120) (n := 2) [0, 1] [(0, .val (.agg (FR () 6 ((p).sc)))), (1, .val (.agg (FR () 6 ((q).sc)))), (2, .val (.string (user))), (3, .val (.int .i64 (mine))), (4, .val (.pointer (some ⟨g1_0, 0, none⟩))), (5, .val (.pointer (some ⟨g1_1, 0, none⟩))), (25, .val (.slice (some ba) (7) (cn))), (26, .val (.int .i64 (7))), (28, .val (.bool true)), (10, .val (.pointer (some ⟨g39_2, 0, none⟩))), (11, .val (.int .i64 (((p).tell (NM (i))).1))), (12, .val (.bool true)), (13, .val (.int .i64 (((q).tell (NM (i))).1))), (14, .val (.bool true)), (61, .val (.bool false)), (27, .val (.int .i64 (((i + 1 : Nat) : Int))))] [(0, 62, .val (.int .i64 (((i + 1 : Nat) : Int)))), (1, 27, .val (.int .i64 (((i + 1 : Nat) : Int))))] [⟨g1_0, none, none, (), 6, (p).sc, (p).sc, 25⟩, ⟨g1_1, none, none, (), 6, (q).sc, (q).sc, 25⟩, ⟨g39_2, none, none, (), 2, lsc (ent (i)), lsc (ent (i)), 48⟩] rfl (by rfl) HH53 rfl rfl hLo rfl HS53 (slS 0 rfl rfl (slS 1 rfl rfl (slS 2 rfl rfl (slS 3 rfl rfl (slS 4 rfl rfl (slS 5 rfl rfl (slS 6 rfl rfl (slS 7 rfl rfl (slS 9 rfl rfl (slS 10 rfl rfl (slS 11 rfl rfl (slS 12 rfl rfl (slS 13 rfl rfl (slS 14 rfl rfl (slS 15 rfl rfl (slL 1 (d := 1) rfl (trivial))))))))))))))))) ?_ ?_
          · show ∀ i ∈ [0, 1], _
            refine zA (zD 0 _ rfl rfl hLo rfl rfl (fun _ _ _ _ => rfl) (fun b G w hb ho => zI rfl (ev_pre hLo 1 rfl (ho 1 (by rfl)) (HS53.get 8 rfl)) (rfl) (rb_add (w_nat (by omega) (by omega)) _ _ _))) ?_
            refine zA (zD 1 _ rfl rfl hLo rfl rfl (fun _ _ _ _ => rfl) (fun b G w hb ho => zB (.inl rfl) (zC hLo 0 rfl HS53.1 rfl (hb 0 (by rfl))))) ?_
            exact zF
          clear hLo
          intro G a54 w54 hS hH
          have HS54 : Sl a54 120 [(0, .agg (FR () 6 ((p).sc))), (1, .agg (FR () 6 ((q).sc))), (2, .string (user)), (3, .int .i64 (mine)), (4, .pointer (some ⟨g1_0, 0, none⟩)), (5, .pointer (some ⟨g1_1, 0, none⟩)), (25, .slice (some ba) (7) (cn)), (26, .int .i64 (7)), (28, .bool true), (10, .pointer (some ⟨g39_2, 0, none⟩)), (11, .int .i64 (((p).tell (NM (i))).1)), (12, .bool true), (13, .int .i64 (((q).tell (NM (i))).1)), (14, .bool true), (61, .bool false), (27, .int .i64 (((i + 1 : Nat) : Int)))] := hS
          have HH54 : Held w w54 [⟨g1_0, (), 6, (p).sc, 25⟩, ⟨g1_1, (), 6, (q).sc, 25⟩, ⟨g39_2, (), 2, lsc (ent (i)), 48⟩] := hH
          clear hS hH HS53 HH53
          refine then_ ?_
          have hSq0' : Sl _ 120 [(0, .agg (FR () 6 ((p).sc))), (1, .agg (FR () 6 ((q).sc))), (2, .string (user)), (3, .int .i64 (mine)), (4, .pointer (some ⟨g1_0, 0, none⟩)), (5, .pointer (some ⟨g1_1, 0, none⟩)), (25, .slice (some ba) (7) (cn)), (26, .int .i64 (7)), (27, .int .i64 (((i + 1 : Nat) : Int)))] := sl_keep HS54 [0, 1, 2, 3, 4, 5, 6, 7, 15] (by rfl)
          have hHq0' : Held w _ [⟨g1_0, (), 6, (p).sc, 25⟩, ⟨g1_1, (), 6, (q).sc, 25⟩] := held_keep HH54 2 rfl
          exact ⟨⟨i + 1, by omega, allB_step hpi (name_ok1 (differs_of hr9 hr10 (by rw [hr15]; rfl))), hSq0', hHq0'⟩, by rw [(hSq0'.get 8 rfl)]; show 7 - (((i + 1 : Nat) : Int)).toNat < 7 - i; omega⟩
        · skip
          obtain ⟨r16, hr16⟩ : ∃ r : Bool, (mayB p q (NM (i)) mine) = r := ⟨_, rfl⟩
          refine wp_seq ?_
          have hLo : LOk [(0, 45, .val (.bool true)), (1, 46, .val (.bool true)), (2, 47, .val (.bool false)), (3, 48, .val (.bool false)), (4, 49, .val (.int .i64 (((p).tell (NM (i))).1))), (5, 50, .val (.int .i64 (((q).tell (NM (i))).1))), (6, 51, .val (.bool true)), (7, 52, .val (.bool true)), (8, 53, .val (.bool true)), (9, 54, .val (.agg (FR () 6 ((p).sc)))), (10, 55, .val (.agg (FR () 6 ((q).sc)))), (11, 56, .val (.pointer (some ⟨g39_2, 0, none⟩))), (12, 57, .val (.string (NM (i)))), (13, 58, .val (.int .i64 (mine))), (14, 59, .val (.bool r16)), (15, 60, .val (.bool (!r16))), (16, 61, .val (.bool (!r16)))] := lok (by rfl) (by rfl)
          refine zH (wE := w) (sz := 120) (n := 17) [0, 1, 3, 7, 15, 31, 63, 127, 255, 511, 1023, 2047, 4095, 8191, 16383, 32767, 65535] [(0, .val (.agg (FR () 6 ((p).sc)))), (1, .val (.agg (FR () 6 ((q).sc)))), (2, .val (.string (user))), (3, .val (.int .i64 (mine))), (4, .val (.pointer (some ⟨g1_0, 0, none⟩))), (5, .val (.pointer (some ⟨g1_1, 0, none⟩))), (25, .val (.slice (some ba) (7) (cn))), (26, .val (.int .i64 (7))), (27, .val (.int .i64 ((i : Int)))), (28, .val (.bool true)), (10, .val (.pointer (some ⟨g39_2, 0, none⟩))), (11, .val (.int .i64 (((p).tell (NM (i))).1))), (12, .val (.bool true)), (13, .val (.int .i64 (((q).tell (NM (i))).1))), (14, .val (.bool true)), (61, .val (.bool (!r16)))] [(0, 45, .val (.bool true)), (1, 46, .val (.bool true)), (2, 47, .val (.bool false)), (3, 48, .val (.bool false)), (4, 49, .val (.int .i64 (((p).tell (NM (i))).1))), (5, 50, .val (.int .i64 (((q).tell (NM (i))).1))), (6, 51, .val (.bool true)), (7, 52, .val (.bool true)), (8, 53, .val (.bool true)), (9, 54, .val (.agg (FR () 6 ((p).sc)))), (10, 55, .val (.agg (FR () 6 ((q).sc)))), (11, 56, .val (.pointer (some ⟨g39_2, 0, none⟩))), (12, 57, .val (.string (NM (i)))), (13, 58, .val (.int .i64 (mine))), (14, 59, .val (.bool r16)), (15, 60, .val (.bool (!r16))), (16, 61, .val (.bool (!r16)))] [⟨g1_0, none, none, (), 6, (p).sc, (p).sc, 25⟩, ⟨g1_1, none, none, (), 6, (q).sc, (q).sc, 25⟩, ⟨g39_2, none, none, (), 2, lsc (ent (i)), lsc (ent (i)), 48⟩] rfl (by rfl) HH41 rfl rfl hLo rfl HS41 (slS 0 rfl rfl (slS 1 rfl rfl (slS 2 rfl rfl (slS 3 rfl rfl (slS 4 rfl rfl (slS 5 rfl rfl (slS 6 rfl rfl (slS 7 rfl rfl (slS 8 rfl rfl (slS 9 rfl rfl (slS 10 rfl rfl (slS 11 rfl rfl (slS 12 rfl rfl (slS 13 rfl rfl (slS 14 rfl rfl (slL 16 (d := 16) rfl (trivial))))))))))))))))) ?_ ?_
          · show ∀ i ∈ [0, 1, 2, 3, 4, 5, 6, 7, 8, 9, 10, 11, 12, 13, 14, 15, 16], _
            refine zA (zD 0 _ rfl rfl hLo rfl rfl (fun _ _ _ _ => rfl) (fun b G w hb ho => zB (.inl rfl) (zG rfl (HS41.get 12 rfl)))) ?_
            refine zA (zD 1 _ rfl rfl hLo rfl rfl (fun _ _ _ _ => rfl) (fun b G w hb ho => zB (.inl rfl) (zG rfl (HS41.get 14 rfl)))) ?_
            refine zA (zD 2 _ rfl rfl hLo rfl rfl (fun _ _ _ _ => rfl) (fun b G w hb ho => zI rfl (zC hLo 0 rfl HS41.1 rfl (hb 0 (by rfl))) (zC hLo 1 rfl HS41.1 rfl (hb 1 (by rfl))) (rb_bneq Tryd.underlying4 (rfl) _ _ _))) ?_
            refine zA (zD 3 _ rfl rfl hLo rfl rfl (fun _ _ _ _ => rfl) (fun b G w hb ho => zB (.inl rfl) (zC hLo 2 rfl HS41.1 rfl (hb 2 (by rfl))))) ?_
            refine zA (zD 4 _ rfl rfl hLo rfl rfl (fun b G hb ho => zE rfl rfl rfl HS41.1 rfl (zC hLo 3 rfl HS41.1 rfl (hb 3 (by rfl))) rfl) (fun b G w hb ho => zB (.inl rfl) (zG rfl (HS41.get 11 rfl)))) ?_
            refine zA (zD 5 _ rfl rfl hLo rfl rfl (fun b G hb ho => zE rfl rfl rfl HS41.1 rfl (zC hLo 3 rfl HS41.1 rfl (hb 3 (by rfl))) rfl) (fun b G w hb ho => zB (.inl rfl) (zG rfl (HS41.get 13 rfl)))) ?_
            refine zA (zD 6 _ rfl rfl hLo rfl rfl (fun b G hb ho => zE rfl rfl rfl HS41.1 rfl (zC hLo 3 rfl HS41.1 rfl (hb 3 (by rfl))) rfl) (fun b G w hb ho => zI rfl (zC hLo 4 rfl HS41.1 rfl (hb 4 (by rfl))) (zC hLo 5 rfl HS41.1 rfl (hb 5 (by rfl))) (rb_neq hr15 _ _ _))) ?_
            refine zA (zD 7 _ rfl rfl hLo rfl rfl (fun _ _ _ _ => rfl) (fun b G w hb ho => zJ rfl (zC hLo 3 rfl HS41.1 rfl (hb 3 (by rfl))) (zC hLo 6 rfl HS41.1 rfl (hb 6 (by rfl))))) ?_
            refine zA (zD 8 _ rfl rfl hLo rfl rfl (fun _ _ _ _ => rfl) (fun b G w hb ho => zB (.inl rfl) (zC hLo 7 rfl HS41.1 rfl (hb 7 (by rfl))))) ?_
            refine zA (zY 9 0 _ rfl rfl rfl rfl (fun b G hb ho => zE rfl rfl rfl HS41.1 rfl (zC hLo 8 rfl HS41.1 rfl (hb 8 (by rfl))) rfl) hLo rfl rfl rfl (by rfl) Tryd.underlying25 (by kernel_rfl) rfl (fun b G hb ho => zG rfl (HS41.get 4 rfl))) ?_
            refine zA (zY 10 1 _ rfl rfl rfl rfl (fun b G hb ho => zE rfl rfl rfl HS41.1 rfl (zC hLo 8 rfl HS41.1 rfl (hb 8 (by rfl))) rfl) hLo rfl rfl rfl (by rfl) Tryd.underlying25 (by kernel_rfl) rfl (fun b G hb ho => zG rfl (HS41.get 5 rfl))) ?_
            refine zA (zD 11 _ rfl rfl hLo rfl rfl (fun b G hb ho => zE rfl rfl rfl HS41.1 rfl (zC hLo 8 rfl HS41.1 rfl (hb 8 (by rfl))) rfl) (fun b G w hb ho => zV rfl (zG rfl (HS41.get 10 rfl)) (by kernel_rfl))) ?_
            refine zA (st_read 12 2 _ _ rfl rfl rfl hLo rfl rfl (fun b G hb ho => zE rfl rfl rfl HS41.1 rfl (zC hLo 8 rfl HS41.1 rfl (hb 8 (by rfl))) rfl) (by rfl) (by rfl) (fun b G w hb ho hr => zW hr (Nat.le_of_ble_eq_true rfl) Tryd.underlying9 rfl rfl (zC hLo 11 rfl HS41.1 rfl (hb 11 (by rfl))))) ?_
            refine zA (zD 13 _ rfl rfl hLo rfl rfl (fun b G hb ho => zE rfl rfl rfl HS41.1 rfl (zC hLo 8 rfl HS41.1 rfl (hb 8 (by rfl))) rfl) (fun b G w hb ho => zB (.inl rfl) (zG rfl (HS41.get 3 rfl)))) ?_
            refine zA (zT 14 _ #[.agg (FR () 6 ((p).sc)), .agg (FR () 6 ((q).sc)), .string (NM (i)), .int .i64 (mine)] rfl rfl rfl (fun b G hb ho => zE rfl rfl rfl HS41.1 rfl (zC hLo 8 rfl HS41.1 rfl (hb 8 (by rfl))) rfl) hLo rfl rfl Tryd.func32 rfl rfl (fun b G hb ho => args4 (zC hLo 9 rfl HS41.1 rfl (hb 9 (by rfl))) (zC hLo 10 rfl HS41.1 rfl (hb 10 (by rfl))) (zC hLo 12 rfl HS41.1 rfl (hb 12 (by rfl))) (zC hLo 13 rfl HS41.1 rfl (hb 13 (by rfl)))) (fun w hw => (by have hq := may_calls (a := p) (b := q) (NM (i)) mine (hInp.below hw) (hInq.below hw) hRp hRq; rw [hr16] at hq; exact hq))) ?_
            refine zA (zD 15 _ rfl rfl hLo rfl rfl (fun b G hb ho => zE rfl rfl rfl HS41.1 rfl (zC hLo 8 rfl HS41.1 rfl (hb 8 (by rfl))) rfl) (fun b G w hb ho => exec_un rfl (zC hLo 14 rfl HS41.1 rfl (hb 14 (by rfl))) (ru_not _))) ?_
            refine zA (zD 16 _ rfl rfl hLo rfl rfl (fun _ _ _ _ => rfl) (fun b G w hb ho => zJ rfl (zC hLo 8 rfl HS41.1 rfl (hb 8 (by rfl))) (zC hLo 15 rfl HS41.1 rfl (hb 15 (by rfl))))) ?_
            exact zF
          clear hLo
          intro G a55 w55 hS hH
          have HS55 : Sl a55 120 [(0, .agg (FR () 6 ((p).sc))), (1, .agg (FR () 6 ((q).sc))), (2, .string (user)), (3, .int .i64 (mine)), (4, .pointer (some ⟨g1_0, 0, none⟩)), (5, .pointer (some ⟨g1_1, 0, none⟩)), (25, .slice (some ba) (7) (cn)), (26, .int .i64 (7)), (27, .int .i64 ((i : Int))), (28, .bool true), (10, .pointer (some ⟨g39_2, 0, none⟩)), (11, .int .i64 (((p).tell (NM (i))).1)), (12, .bool true), (13, .int .i64 (((q).tell (NM (i))).1)), (14, .bool true), (61, .bool (!r16))] := hS
          have HH55 : Held w w55 [⟨g1_0, (), 6, (p).sc, 25⟩, ⟨g1_1, (), 6, (q).sc, 25⟩, ⟨g39_2, (), 2, lsc (ent (i)), 48⟩] := hH
          clear hS hH HS41 HH41
          refine then_ ?_
          cases r16
          · skip
            refine wp_cond_true (HS55.get 15 rfl) ?_
            refine wp_seq ?_
            have hLo : LOk [(0, 8, .val (.bool false))] := lok (by rfl) (by rfl)
            refine zH (wE := w) (sz := 120) (n := 1) [0] [(0, .val (.agg (FR () 6 ((p).sc)))), (1, .val (.agg (FR () 6 ((q).sc)))), (2, .val (.string (user))), (3, .val (.int .i64 (mine))), (4, .val (.pointer (some ⟨g1_0, 0, none⟩))), (5, .val (.pointer (some ⟨g1_1, 0, none⟩))), (25, .val (.slice (some ba) (7) (cn))), (26, .val (.int .i64 (7))), (27, .val (.int .i64 ((i : Int)))), (28, .val (.bool true)), (10, .val (.pointer (some ⟨g39_2, 0, none⟩))), (11, .val (.int .i64 (((p).tell (NM (i))).1))), (12, .val (.bool true)), (13, .val (.int .i64 (((q).tell (NM (i))).1))), (14, .val (.bool true)), (61, .val (.bool true)), (8, .val (.bool false))] [(0, 8, .val (.bool false))] [⟨g1_0, none, none, (), 6, (p).sc, (p).sc, 25⟩, ⟨g1_1, none, none, (), 6, (q).sc, (q).sc, 25⟩, ⟨g39_2, none, none, (), 2, lsc (ent (i)), lsc (ent (i)), 48⟩] rfl (by rfl) HH55 rfl rfl hLo rfl HS55 (slS 0 rfl rfl (slS 1 rfl rfl (slS 2 rfl rfl (slS 3 rfl rfl (slS 4 rfl rfl (slS 5 rfl rfl (slS 6 rfl rfl (slS 7 rfl rfl (slS 8 rfl rfl (slS 9 rfl rfl (slS 10 rfl rfl (slS 11 rfl rfl (slS 12 rfl rfl (slS 13 rfl rfl (slS 14 rfl rfl (slS 15 rfl rfl (slL 0 (d := 0) rfl (trivial)))))))))))))))))) ?_ ?_
            · show ∀ i ∈ [0], _
              refine zA (zD 0 _ rfl rfl hLo rfl rfl (fun _ _ _ _ => rfl) (fun b G w hb ho => zB (.inr rfl) (rfl))) ?_
              exact zF
            clear hLo
            intro G a56 w56 hS hH
            have HS56 : Sl a56 120 [(0, .agg (FR () 6 ((p).sc))), (1, .agg (FR () 6 ((q).sc))), (2, .string (user)), (3, .int .i64 (mine)), (4, .pointer (some ⟨g1_0, 0, none⟩)), (5, .pointer (some ⟨g1_1, 0, none⟩)), (25, .slice (some ba) (7) (cn)), (26, .int .i64 (7)), (27, .int .i64 ((i : Int))), (28, .bool true), (10, .pointer (some ⟨g39_2, 0, none⟩)), (11, .int .i64 (((p).tell (NM (i))).1)), (12, .bool true), (13, .int .i64 (((q).tell (NM (i))).1)), (14, .bool true), (61, .bool true), (8, .bool false)] := hS
            have HH56 : Held w w56 [⟨g1_0, (), 6, (p).sc, 25⟩, ⟨g1_1, (), 6, (q).sc, 25⟩, ⟨g39_2, (), 2, lsc (ent (i)), 48⟩] := hH
            clear hS hH HS55 HH55
            refine then_ ?_
            refine wp_ret ?_
            repeat (first | refine zS ?_ | refine zN ?_)
            exact b_tmp rfl HS56.2.1 (HS56.get 16 rfl) ⟨bool_ret (chg_no1 hlti (name_bad (differs_of hr9 hr10 (by rw [hr15]; rfl)) hr16)), HH56.1⟩
          · skip
            refine wp_cond_false (HS55.get 15 rfl) ?_
            refine wp_skip ?_
            refine zR ?_
            refine then_ ?_
            have hLo : LOk [(0, 62, .val (.int .i64 (((i + 1 : Nat) : Int)))), (1, 27, .val (.int .i64 (((i + 1 : Nat) : Int))))] := lok (by rfl) (by rfl)
            refine zH (wE := w) (sz := 120) (n := 2) [0, 1] [(0, .val (.agg (FR () 6 ((p).sc)))), (1, .val (.agg (FR () 6 ((q).sc)))), (2, .val (.string (user))), (3, .val (.int .i64 (mine))), (4, .val (.pointer (some ⟨g1_0, 0, none⟩))), (5, .val (.pointer (some ⟨g1_1, 0, none⟩))), (25, .val (.slice (some ba) (7) (cn))), (26, .val (.int .i64 (7))), (28, .val (.bool true)), (10, .val (.pointer (some ⟨g39_2, 0, none⟩))), (11, .val (.int .i64 (((p).tell (NM (i))).1))), (12, .val (.bool true)), (13, .val (.int .i64 (((q).tell (NM (i))).1))), (14, .val (.bool true)), (61, .val (.bool false)), (27, .val (.int .i64 (((i + 1 : Nat) : Int))))] [(0, 62, .val (.int .i64 (((i + 1 : Nat) : Int)))), (1, 27, .val (.int .i64 (((i + 1 : Nat) : Int))))] [⟨g1_0, none, none, (), 6, (p).sc, (p).sc, 25⟩, ⟨g1_1, none, none, (), 6, (q).sc, (q).sc, 25⟩, ⟨g39_2, none, none, (), 2, lsc (ent (i)), lsc (ent (i)), 48⟩] rfl (by rfl) HH55 rfl rfl hLo rfl HS55 (slS 0 rfl rfl (slS 1 rfl rfl (slS 2 rfl rfl (slS 3 rfl rfl (slS 4 rfl rfl (slS 5 rfl rfl (slS 6 rfl rfl (slS 7 rfl rfl (slS 9 rfl rfl (slS 10 rfl rfl (slS 11 rfl rfl (slS 12 rfl rfl (slS 13 rfl rfl (slS 14 rfl rfl (slS 15 rfl rfl (slL 1 (d := 1) rfl (trivial))))))))))))))))) ?_ ?_
            · show ∀ i ∈ [0, 1], _
              refine zA (zD 0 _ rfl rfl hLo rfl rfl (fun _ _ _ _ => rfl) (fun b G w hb ho => zI rfl (ev_pre hLo 1 rfl (ho 1 (by rfl)) (HS55.get 8 rfl)) (rfl) (rb_add (w_nat (by omega) (by omega)) _ _ _))) ?_
              refine zA (zD 1 _ rfl rfl hLo rfl rfl (fun _ _ _ _ => rfl) (fun b G w hb ho => zB (.inl rfl) (zC hLo 0 rfl HS55.1 rfl (hb 0 (by rfl))))) ?_
              exact zF
            clear hLo
            intro G a57 w57 hS hH
            have HS57 : Sl a57 120 [(0, .agg (FR () 6 ((p).sc))), (1, .agg (FR () 6 ((q).sc))), (2, .string (user)), (3, .int .i64 (mine)), (4, .pointer (some ⟨g1_0, 0, none⟩)), (5, .pointer (some ⟨g1_1, 0, none⟩)), (25, .slice (some ba) (7) (cn)), (26, .int .i64 (7)), (28, .bool true), (10, .pointer (some ⟨g39_2, 0, none⟩)), (11, .int .i64 (((p).tell (NM (i))).1)), (12, .bool true), (13, .int .i64 (((q).tell (NM (i))).1)), (14, .bool true), (61, .bool false), (27, .int .i64 (((i + 1 : Nat) : Int)))] := hS
            have HH57 : Held w w57 [⟨g1_0, (), 6, (p).sc, 25⟩, ⟨g1_1, (), 6, (q).sc, 25⟩, ⟨g39_2, (), 2, lsc (ent (i)), 48⟩] := hH
            clear hS hH HS55 HH55
            refine then_ ?_
            have hSq0' : Sl _ 120 [(0, .agg (FR () 6 ((p).sc))), (1, .agg (FR () 6 ((q).sc))), (2, .string (user)), (3, .int .i64 (mine)), (4, .pointer (some ⟨g1_0, 0, none⟩)), (5, .pointer (some ⟨g1_1, 0, none⟩)), (25, .slice (some ba) (7) (cn)), (26, .int .i64 (7)), (27, .int .i64 (((i + 1 : Nat) : Int)))] := sl_keep HS57 [0, 1, 2, 3, 4, 5, 6, 7, 15] (by rfl)
            have hHq0' : Held w _ [⟨g1_0, (), 6, (p).sc, 25⟩, ⟨g1_1, (), 6, (q).sc, 25⟩] := held_keep HH57 2 rfl
            exact ⟨⟨i + 1, by omega, allB_step hpi (name_ok2 hr16), hSq0', hHq0'⟩, by rw [(hSq0'.get 8 rfl)]; show 7 - (((i + 1 : Nat) : Int)).toNat < 7 - i; omega⟩
structure CatF (we : World) (x y : T) (g h : Nat) (V : Nat → Value) (b : Nat → Bool) (w : World) : Prop where
  bel : Below we.heap.size we w
  o63 : b 6 = true → b 3 = true
  o30 : b 3 = true → b 0 = true
  f1 : b 1 = true → V 1 = .pointer (some ((⟨g, 0, none⟩ : Addr).add 5))
  f2 : b 2 = true → V 2 = .slice x.xm x.ml x.cm
  f4 : b 4 = true → V 4 = .pointer (some ((⟨h, 0, none⟩ : Addr).add 5))
  f5 : b 5 = true → V 5 = .slice y.xm y.ml y.cm
  f7 : b 7 = true → V 7 = .int .i64 ((x.ml + y.ml : Nat) : Int)
  f8 : b 8 = true → V 8 = .int .i64 0
  c0 : b 3 = false → b 0 = true → OwnR we.heap.size w 44 7 [] (V 0) 0 []
  c3 : b 6 = false → b 3 = true → OwnR we.heap.size w 44 7 [] (V 3) x.ml (mcells x.key x.mem x.ml)
  c6 : b 6 = true → OwnR we.heap.size w 44 7 [] (V 6) (x.ml + y.ml) (mcells (catK x y) (catM x y) (x.ml + y.ml))
theorem tbl_small {t : T} (h : ∀ i, i < t.ml → (t.mem i).ml ≤ 1073741824) (k : ByteArray) : (t.tbl k).ml ≤ 1073741824 := by
  unfold T.tbl
  cases e : t.get k with
  | none => exact Nat.zero_le _
  | some x => obtain ⟨i, hi, rfl⟩ := T.get_mem e; exact h i hi
theorem chg_zero (user : ByteArray) : chgB T.zero T.zero user (-1) = true := by
  rw [chg_eq]
  unfold rchgB
  rw [Bool.and_eq_true, allB_is, allB_is]
  have hk : ∀ key, ¬ T.zero.HasKey key := fun key ⟨i, hi, _⟩ => absurd hi (Nat.not_lt_zero _)
  refine ⟨fun i _ => turns_none (hk _) (hk _), fun j _ => ?_⟩
  unfold rtabOk
  rw [allB_is]
  have e : ∀ k, T.zero.tab k = T.empty := fun k => by unfold T.tab T.get; rw [if_neg (by decide)]
  rw [e]
  intro i hi
  exact absurd hi (Nat.not_lt_zero _)
theorem zero_user1 {cr us : ByteArray} (h : decide (us = cr) = true) : userV T.zero cr us = 100 := by
  unfold userV; rw [if_neg (by decide), if_pos (of_decide_eq_true h)]
theorem zero_user0 {cr us : ByteArray} (h : decide (us = cr) = false) : userV T.zero cr us = 0 := by
  unfold userV; rw [if_neg (by decide), if_neg (of_decide_eq_false h)]
theorem zero_send (kd : ByteArray) (st : Bool) : sendV T.zero kd st = 0 := by
  have e : T.zero.tbl zK = T.zero := by unfold T.tbl T.get; rw [if_neg (by decide)]; rfl
  unfold sendV levV
  rw [e, zero_told, zero_told]
  cases st
  · decide
  · rw [Option.getD_none, if_neg (by decide), if_neg (by decide)]
theorem zl_ban : levV T.zero k_ban = 50 := by decide
theorem zl_kick : levV T.zero k_kick = 50 := by decide
theorem zl_redact : levV T.zero k_redact = 50 := by decide
theorem zl_invite : levV T.zero k_invite = 0 := by decide
set_option maxHeartbeats 4000000 in
theorem PowerNull_walk (cr us kd : ByteArray) (st : Bool) (w : World) (hTab : Tab w) (hc : cr.size ≤ 140737488351232) (hu : us.size ≤ 140737488351232) (hk : kd.size ≤ 140737488351232) : Calls Tryd.prog 9 #[.string (cr), .string (us), .string (kd), .bool st] w fun e w' => e = .returned (.bool true) ∧ Below w.heap.size w w' := by
  refine enter_ 69 Tryd.func9 rfl rfl (fun a0 hS => ?_)
  have HS0 : Sl a0 69 [(0, .string (cr)), (1, .string (us)), (2, .string (kd)), (3, .bool st)] := hS
  have HH0 : Held w w [] := Held.first w
  clear hS
  refine wp_seq ?_
  have hLo : LOk [(0, 8, .val (.bool false))] := lok (by rfl) (by rfl)
  refine zH (wE := w) (sz := 69) (n := 1) [0] [(0, .val (.string (cr))), (1, .val (.string (us))), (2, .val (.string (kd))), (3, .val (.bool st)), (8, .val (.bool false))] [(0, 8, .val (.bool false))] [] rfl (by rfl) HH0 rfl rfl hLo rfl HS0 (slS 0 rfl rfl (slS 1 rfl rfl (slS 2 rfl rfl (slS 3 rfl rfl (slL 0 (d := 0) rfl (trivial)))))) ?_ ?_
  · show ∀ i ∈ [0], _
    refine zA (zD 0 _ rfl rfl hLo rfl rfl (fun _ _ _ _ => rfl) (fun b G w hb ho => zB (.inr rfl) (rfl))) ?_
    exact zF
  clear hLo
  intro G a1 w1 hS hH
  have HS1 : Sl a1 69 [(0, .string (cr)), (1, .string (us)), (2, .string (kd)), (3, .bool st), (8, .bool false)] := hS
  have HH1 : Held w w1 [] := hH
  clear hS hH HS0 HH0
  refine then_ ?_
  refine wp_seq ?_
  refine wp_seq ?_
  have hLo : LOk [(0, 11, .val (.bool true)), (1, 12, .val (.bool false))] := lok (by rfl) (by rfl)
  refine zH (wE := w) (sz := 69) (n := 2) [0, 1] [(0, .val (.string (cr))), (1, .val (.string (us))), (2, .val (.string (kd))), (3, .val (.bool st)), (8, .val (.bool false)), (12, .val (.bool false))] [(0, 11, .val (.bool true)), (1, 12, .val (.bool false))] [] rfl (by rfl) HH1 rfl rfl hLo rfl HS1 (slS 0 rfl rfl (slS 1 rfl rfl (slS 2 rfl rfl (slS 3 rfl rfl (slS 4 rfl rfl (slL 1 (d := 1) rfl (trivial))))))) ?_ ?_
  · show ∀ i ∈ [0, 1], _
    refine zA (zT 0 _ #[] rfl rfl rfl (fun _ _ _ _ => rfl) hLo rfl rfl Tryd.func18 rfl rfl (fun b G hb ho => args0 ) (fun w hw => alive_calls _ (hTab.below hw))) ?_
    refine zA (zD 1 _ rfl rfl hLo rfl rfl (fun _ _ _ _ => rfl) (fun b G w hb ho => exec_un rfl (zC hLo 0 rfl HS1.1 rfl (hb 0 (by rfl))) (ru_not _))) ?_
    exact zF
  clear hLo
  intro G a2 w2 hS hH
  have HS2 : Sl a2 69 [(0, .string (cr)), (1, .string (us)), (2, .string (kd)), (3, .bool st), (8, .bool false), (12, .bool false)] := hS
  have HH2 : Held w w2 [] := hH
  clear hS hH HS1 HH1
  refine then_ ?_
  refine wp_cond_false (HS2.get 5 rfl) ?_
  refine wp_skip ?_
  refine then_ ?_
  refine wp_seq ?_
  obtain ⟨r1, hr1⟩ : ∃ r : Bool, (decide ((1024 : Int) < ((cr).size : Int))) = r := ⟨_, rfl⟩
  cases r1
  · skip
    obtain ⟨r2, hr2⟩ : ∃ r : Bool, (decide ((1024 : Int) < ((us).size : Int))) = r := ⟨_, rfl⟩
    cases r2
    · skip
      obtain ⟨r3, hr3⟩ : ∃ r : Bool, (decide ((1024 : Int) < ((kd).size : Int))) = r := ⟨_, rfl⟩
      refine wp_seq ?_
      have hLo : LOk [(0, 13, .val (.string (cr))), (1, 14, .val (.int .i64 (((cr).size : Int)))), (2, 15, .val (.bool false)), (3, 16, .val (.bool false)), (4, 17, .val (.string (us))), (5, 18, .val (.int .i64 (((us).size : Int)))), (6, 19, .val (.bool false)), (7, 20, .val (.bool false)), (8, 21, .val (.bool false)), (9, 22, .val (.string (kd))), (10, 23, .val (.int .i64 (((kd).size : Int)))), (11, 24, .val (.bool r3)), (12, 25, .val (.bool r3))] := lok (by rfl) (by rfl)
      refine zH (wE := w) (sz := 69) (n := 13) [0, 1, 3, 7, 15, 31, 63, 127, 255, 511, 1023, 2047, 4095] [(0, .val (.string (cr))), (1, .val (.string (us))), (2, .val (.string (kd))), (3, .val (.bool st)), (8, .val (.bool false)), (12, .val (.bool false)), (25, .val (.bool r3))] [(0, 13, .val (.string (cr))), (1, 14, .val (.int .i64 (((cr).size : Int)))), (2, 15, .val (.bool false)), (3, 16, .val (.bool false)), (4, 17, .val (.string (us))), (5, 18, .val (.int .i64 (((us).size : Int)))), (6, 19, .val (.bool false)), (7, 20, .val (.bool false)), (8, 21, .val (.bool false)), (9, 22, .val (.string (kd))), (10, 23, .val (.int .i64 (((kd).size : Int)))), (11, 24, .val (.bool r3)), (12, 25, .val (.bool r3))] [] rfl (by rfl) HH2 rfl rfl hLo rfl HS2 (slS 0 rfl rfl (slS 1 rfl rfl (slS 2 rfl rfl (slS 3 rfl rfl (slS 4 rfl rfl (slS 5 rfl rfl (slL 12 (d := 12) rfl (trivial)))))))) ?_ ?_
      · show ∀ i ∈ [0, 1, 2, 3, 4, 5, 6, 7, 8, 9, 10, 11, 12], _
        refine zA (zD 0 _ rfl rfl hLo rfl rfl (fun _ _ _ _ => rfl) (fun b G w hb ho => zB (.inl rfl) (zG rfl (HS2.get 0 rfl)))) ?_
        refine zA (zD 1 _ rfl rfl hLo rfl rfl (fun _ _ _ _ => rfl) (fun b G w hb ho => exec_lenS Tryd.underlying9 rfl (zC hLo 0 rfl HS2.1 rfl (hb 0 (by rfl))))) ?_
        refine zA (zD 2 _ rfl rfl hLo rfl rfl (fun _ _ _ _ => rfl) (fun b G w hb ho => zI rfl (zC hLo 1 rfl HS2.1 rfl (hb 1 (by rfl))) (rfl) (rb_gtr hr1 _ _ _))) ?_
        refine zA (zD 3 _ rfl rfl hLo rfl rfl (fun _ _ _ _ => rfl) (fun b G w hb ho => zB (.inl rfl) (zC hLo 2 rfl HS2.1 rfl (hb 2 (by rfl))))) ?_
        refine zA (zD 4 _ rfl rfl hLo rfl rfl (fun b G hb ho => zE rfl rfl rfl HS2.1 rfl (zC hLo 3 rfl HS2.1 rfl (hb 3 (by rfl))) rfl) (fun b G w hb ho => zB (.inl rfl) (zG rfl (HS2.get 1 rfl)))) ?_
        refine zA (zD 5 _ rfl rfl hLo rfl rfl (fun b G hb ho => zE rfl rfl rfl HS2.1 rfl (zC hLo 3 rfl HS2.1 rfl (hb 3 (by rfl))) rfl) (fun b G w hb ho => exec_lenS Tryd.underlying9 rfl (zC hLo 4 rfl HS2.1 rfl (hb 4 (by rfl))))) ?_
        refine zA (zD 6 _ rfl rfl hLo rfl rfl (fun b G hb ho => zE rfl rfl rfl HS2.1 rfl (zC hLo 3 rfl HS2.1 rfl (hb 3 (by rfl))) rfl) (fun b G w hb ho => zI rfl (zC hLo 5 rfl HS2.1 rfl (hb 5 (by rfl))) (rfl) (rb_gtr hr2 _ _ _))) ?_
        refine zA (zD 7 _ rfl rfl hLo rfl rfl (fun _ _ _ _ => rfl) (fun b G w hb ho => zJ rfl (zC hLo 3 rfl HS2.1 rfl (hb 3 (by rfl))) (zC hLo 6 rfl HS2.1 rfl (hb 6 (by rfl))))) ?_
        refine zA (zD 8 _ rfl rfl hLo rfl rfl (fun _ _ _ _ => rfl) (fun b G w hb ho => zB (.inl rfl) (zC hLo 7 rfl HS2.1 rfl (hb 7 (by rfl))))) ?_
        refine zA (zD 9 _ rfl rfl hLo rfl rfl (fun b G hb ho => zE rfl rfl rfl HS2.1 rfl (zC hLo 8 rfl HS2.1 rfl (hb 8 (by rfl))) rfl) (fun b G w hb ho => zB (.inl rfl) (zG rfl (HS2.get 2 rfl)))) ?_
        refine zA (zD 10 _ rfl rfl hLo rfl rfl (fun b G hb ho => zE rfl rfl rfl HS2.1 rfl (zC hLo 8 rfl HS2.1 rfl (hb 8 (by rfl))) rfl) (fun b G w hb ho => exec_lenS Tryd.underlying9 rfl (zC hLo 9 rfl HS2.1 rfl (hb 9 (by rfl))))) ?_
        refine zA (zD 11 _ rfl rfl hLo rfl rfl (fun b G hb ho => zE rfl rfl rfl HS2.1 rfl (zC hLo 8 rfl HS2.1 rfl (hb 8 (by rfl))) rfl) (fun b G w hb ho => zI rfl (zC hLo 10 rfl HS2.1 rfl (hb 10 (by rfl))) (rfl) (rb_gtr hr3 _ _ _))) ?_
        refine zA (zD 12 _ rfl rfl hLo rfl rfl (fun _ _ _ _ => rfl) (fun b G w hb ho => zJ rfl (zC hLo 8 rfl HS2.1 rfl (hb 8 (by rfl))) (zC hLo 11 rfl HS2.1 rfl (hb 11 (by rfl))))) ?_
        exact zF
      clear hLo
      intro G a3 w3 hS hH
      have HS3 : Sl a3 69 [(0, .string (cr)), (1, .string (us)), (2, .string (kd)), (3, .bool st), (8, .bool false), (12, .bool false), (25, .bool r3)] := hS
      have HH3 : Held w w3 [] := hH
      clear hS hH HS2 HH2
      refine then_ ?_
      cases r3
      · skip
        refine wp_cond_false (HS3.get 6 rfl) ?_
        refine wp_skip ?_
        refine then_ ?_
        refine wp_seq ?_
        have hLo : LOk [(0, 9, .val (.int .i64 (0)))] := lok (by rfl) (by rfl)
        refine zH (wE := w) (sz := 69) (n := 1) [0] [(0, .val (.string (cr))), (1, .val (.string (us))), (2, .val (.string (kd))), (3, .val (.bool st)), (8, .val (.bool false)), (12, .val (.bool false)), (25, .val (.bool false)), (9, .val (.int .i64 (0)))] [(0, 9, .val (.int .i64 (0)))] [] rfl (by rfl) HH3 rfl rfl hLo rfl HS3 (slS 0 rfl rfl (slS 1 rfl rfl (slS 2 rfl rfl (slS 3 rfl rfl (slS 4 rfl rfl (slS 5 rfl rfl (slS 6 rfl rfl (slL 0 (d := 0) rfl (trivial))))))))) ?_ ?_
        · show ∀ i ∈ [0], _
          refine zA (zD 0 _ rfl rfl hLo rfl rfl (fun _ _ _ _ => rfl) (fun b G w hb ho => zB (.inr rfl) (rfl))) ?_
          exact zF
        clear hLo
        intro G a4 w4 hS hH
        have HS4 : Sl a4 69 [(0, .string (cr)), (1, .string (us)), (2, .string (kd)), (3, .bool st), (8, .bool false), (12, .bool false), (25, .bool false), (9, .int .i64 (0))] := hS
        have HH4 : Held w w4 [] := hH
        clear hS hH HS3 HH3
        refine then_ ?_
        refine wp_seq ?_
        obtain ⟨r4, hr4⟩ : ∃ r : Bool, (decide ((us : ByteArray) = cr)) = r := ⟨_, rfl⟩
        refine wp_seq ?_
        have hLo : LOk [(0, 26, .val (.string (us))), (1, 27, .val (.string (cr))), (2, 28, .val (.bool r4))] := lok (by rfl) (by rfl)
        refine zH (wE := w) (sz := 69) (n := 3) [0, 1, 3] [(0, .val (.string (cr))), (1, .val (.string (us))), (2, .val (.string (kd))), (3, .val (.bool st)), (8, .val (.bool false)), (12, .val (.bool false)), (25, .val (.bool false)), (9, .val (.int .i64 (0))), (28, .val (.bool r4))] [(0, 26, .val (.string (us))), (1, 27, .val (.string (cr))), (2, 28, .val (.bool r4))] [] rfl (by rfl) HH4 rfl rfl hLo rfl HS4 (slS 0 rfl rfl (slS 1 rfl rfl (slS 2 rfl rfl (slS 3 rfl rfl (slS 4 rfl rfl (slS 5 rfl rfl (slS 6 rfl rfl (slS 7 rfl rfl (slL 2 (d := 2) rfl (trivial)))))))))) ?_ ?_
        · show ∀ i ∈ [0, 1, 2], _
          refine zA (zD 0 _ rfl rfl hLo rfl rfl (fun _ _ _ _ => rfl) (fun b G w hb ho => zB (.inl rfl) (zG rfl (HS4.get 1 rfl)))) ?_
          refine zA (zD 1 _ rfl rfl hLo rfl rfl (fun _ _ _ _ => rfl) (fun b G w hb ho => zB (.inl rfl) (zG rfl (HS4.get 0 rfl)))) ?_
          refine zA (zD 2 _ rfl rfl hLo rfl rfl (fun _ _ _ _ => rfl) (fun b G w hb ho => zI rfl (zC hLo 0 rfl HS4.1 rfl (hb 0 (by rfl))) (zC hLo 1 rfl HS4.1 rfl (hb 1 (by rfl))) (rb_seql hr4 _ _ _))) ?_
          exact zF
        clear hLo
        intro G a5 w5 hS hH
        have HS5 : Sl a5 69 [(0, .string (cr)), (1, .string (us)), (2, .string (kd)), (3, .bool st), (8, .bool false), (12, .bool false), (25, .bool false), (9, .int .i64 (0)), (28, .bool r4)] := hS
        have HH5 : Held w w5 [] := hH
        clear hS hH HS4 HH4
        refine then_ ?_
        cases r4
        · skip
          refine wp_cond_false (HS5.get 8 rfl) ?_
          refine wp_skip ?_
          refine then_ ?_
          refine wp_seq ?_
          have hLo : LOk [(0, 29, .val (.agg (FR () 6 ((T.zero).sc)))), (1, 10, .new 1 (fun g => .pointer (some ⟨g, 0, none⟩)))] := lok (by rfl) (by rfl)
          refine zH (wE := w) (sz := 69) (n := 3) [0, 1, 3] [(0, .val (.string (cr))), (1, .val (.string (us))), (2, .val (.string (kd))), (3, .val (.bool st)), (8, .val (.bool false)), (12, .val (.bool false)), (25, .val (.bool false)), (9, .val (.int .i64 (0))), (28, .val (.bool false)), (10, .new 1 (fun g => .pointer (some ⟨g, 0, none⟩)))] [(0, 29, .val (.agg (FR () 6 ((T.zero).sc)))), (1, 10, .new 1 (fun g => .pointer (some ⟨g, 0, none⟩)))] [⟨0, some 1, some 2, (), 6, lsc [.i .i64 (0), .b (false), .i .i64 (0), .s (ByteArray.empty), .sl (none) (0) (0), .sl (none) (0) (0)], (T.zero).sc, 25⟩] rfl (by rfl) HH5 rfl rfl hLo rfl HS5 (slS 0 rfl rfl (slS 1 rfl rfl (slS 2 rfl rfl (slS 3 rfl rfl (slS 4 rfl rfl (slS 5 rfl rfl (slS 6 rfl rfl (slS 7 rfl rfl (slS 8 rfl rfl (slL 1 (d := 1) rfl (trivial))))))))))) ?_ ?_
          · show ∀ i ∈ [0, 1, 2], _
            refine zA (zD 0 _ rfl rfl hLo rfl rfl (fun _ _ _ _ => rfl) (fun b G w hb ho => exec_build rfl (parts0 ) (by kernel_rfl))) ?_
            refine zA (zX 1 0 () 6 25 (some 2) _ _ rfl rfl (fun _ _ _ _ => rfl) rfl hLo rfl rfl rfl rfl (by rfl) (fun b G w _ _ => by kernel_rfl)) ?_
            refine zA (st_store 0 _ rfl rfl rfl rfl rfl (fun _ _ _ _ => rfl) rfl rfl rfl (by rfl) (by kernel_rfl) (fun b G hb ho => zC hLo 1 rfl HS5.1 rfl (hb 1 (by rfl))) (fun b G hb ho => zC hLo 0 rfl HS5.1 rfl (hb 0 (by rfl)))) ?_
            exact zF
          clear hLo
          intro G a6 w6 hS hH
          have HS6 : Sl a6 69 [(0, .string (cr)), (1, .string (us)), (2, .string (kd)), (3, .bool st), (8, .bool false), (12, .bool false), (25, .bool false), (9, .int .i64 (0)), (28, .bool false), (10, .pointer (some ⟨(G 1), 0, none⟩))] := hS
          have HH6 : Held w w6 [⟨(G 1), (), 6, (T.zero).sc, 25⟩] := hH
          clear hS hH HS5 HH5
          generalize G 1 = g6_1 at HS6 HH6
          refine then_ ?_
          refine wp_seq ?_
          have hLo : LOk [(0, 30, .val (.agg (FR () 6 ((T.zero).sc)))), (1, 31, .val (.string (cr))), (2, 32, .val (.string (us))), (3, 33, .val (.int .i64 (0))), (4, 34, .val (.int .i64 (0))), (5, 35, .val (.bool true)), (6, 36, .val (.bool true)), (7, 37, .val (.agg (FR () 6 ((T.zero).sc)))), (8, 38, .val (.string (kd))), (9, 39, .val (.bool st)), (10, 40, .val (.int .i64 (0))), (11, 41, .val (.bool true)), (12, 42, .val (.bool true)), (13, 43, .val (.bool true)), (14, 44, .val (.agg (FR () 6 ((T.zero).sc)))), (15, 45, .val (.int .i64 (50))), (16, 46, .val (.bool true)), (17, 47, .val (.bool true)), (18, 48, .val (.bool true)), (19, 49, .val (.agg (FR () 6 ((T.zero).sc)))), (20, 50, .val (.int .i64 (50))), (21, 51, .val (.bool true)), (22, 52, .val (.bool true)), (23, 53, .val (.bool true)), (24, 54, .val (.agg (FR () 6 ((T.zero).sc)))), (25, 55, .val (.int .i64 (50))), (26, 56, .val (.bool true)), (27, 57, .val (.bool true)), (28, 58, .val (.bool true)), (29, 59, .val (.agg (FR () 6 ((T.zero).sc)))), (30, 60, .val (.int .i64 (0))), (31, 61, .val (.bool true)), (32, 62, .val (.bool true)), (33, 63, .val (.bool true)), (34, 64, .val (.agg (FR () 6 ((T.zero).sc)))), (35, 65, .val (.agg (FR () 6 ((T.zero).sc)))), (36, 66, .val (.string (us))), (37, 67, .val (.bool true)), (38, 68, .val (.bool true)), (39, 8, .val (.bool true))] := lok (by rfl) (by rfl)
          refine zH (wE := w) (sz := 69) (n := 40) [0, 1, 3, 7, 15, 31, 63, 127, 255, 511, 1023, 2047, 4095, 8191, 16383, 32767, 65535, 131071, 262143, 524287, 1048575, 2097151, 4194303, 8388607, 16777215, 33554431, 67108863, 134217727, 268435455, 536870911, 1073741823, 2147483647, 4294967295, 8589934591, 17179869183, 34359738367, 68719476735, 137438953471, 274877906943, 549755813887] [(0, .val (.string (cr))), (1, .val (.string (us))), (2, .val (.string (kd))), (3, .val (.bool st)), (12, .val (.bool false)), (25, .val (.bool false)), (9, .val (.int .i64 (0))), (28, .val (.bool false)), (10, .val (.pointer (some ⟨g6_1, 0, none⟩))), (8, .val (.bool true))] [(0, 30, .val (.agg (FR () 6 ((T.zero).sc)))), (1, 31, .val (.string (cr))), (2, 32, .val (.string (us))), (3, 33, .val (.int .i64 (0))), (4, 34, .val (.int .i64 (0))), (5, 35, .val (.bool true)), (6, 36, .val (.bool true)), (7, 37, .val (.agg (FR () 6 ((T.zero).sc)))), (8, 38, .val (.string (kd))), (9, 39, .val (.bool st)), (10, 40, .val (.int .i64 (0))), (11, 41, .val (.bool true)), (12, 42, .val (.bool true)), (13, 43, .val (.bool true)), (14, 44, .val (.agg (FR () 6 ((T.zero).sc)))), (15, 45, .val (.int .i64 (50))), (16, 46, .val (.bool true)), (17, 47, .val (.bool true)), (18, 48, .val (.bool true)), (19, 49, .val (.agg (FR () 6 ((T.zero).sc)))), (20, 50, .val (.int .i64 (50))), (21, 51, .val (.bool true)), (22, 52, .val (.bool true)), (23, 53, .val (.bool true)), (24, 54, .val (.agg (FR () 6 ((T.zero).sc)))), (25, 55, .val (.int .i64 (50))), (26, 56, .val (.bool true)), (27, 57, .val (.bool true)), (28, 58, .val (.bool true)), (29, 59, .val (.agg (FR () 6 ((T.zero).sc)))), (30, 60, .val (.int .i64 (0))), (31, 61, .val (.bool true)), (32, 62, .val (.bool true)), (33, 63, .val (.bool true)), (34, 64, .val (.agg (FR () 6 ((T.zero).sc)))), (35, 65, .val (.agg (FR () 6 ((T.zero).sc)))), (36, 66, .val (.string (us))), (37, 67, .val (.bool true)), (38, 68, .val (.bool true)), (39, 8, .val (.bool true))] [⟨g6_1, none, none, (), 6, (T.zero).sc, (T.zero).sc, 25⟩] rfl (by rfl) HH6 rfl rfl hLo rfl HS6 (slS 0 rfl rfl (slS 1 rfl rfl (slS 2 rfl rfl (slS 3 rfl rfl (slS 5 rfl rfl (slS 6 rfl rfl (slS 7 rfl rfl (slS 8 rfl rfl (slS 9 rfl rfl (slL 39 (d := 39) rfl (trivial))))))))))) ?_ ?_
          · show ∀ i ∈ [0, 1, 2, 3, 4, 5, 6, 7, 8, 9, 10, 11, 12, 13, 14, 15, 16, 17, 18, 19, 20, 21, 22, 23, 24, 25, 26, 27, 28, 29, 30, 31, 32, 33, 34, 35, 36, 37, 38, 39], _
            refine zA (zY 0 0 _ rfl rfl rfl rfl (fun _ _ _ _ => rfl) hLo rfl rfl rfl (by rfl) Tryd.underlying25 (by kernel_rfl) rfl (fun b G hb ho => zG rfl (HS6.get 9 rfl))) ?_
            refine zA (zD 1 _ rfl rfl hLo rfl rfl (fun _ _ _ _ => rfl) (fun b G w hb ho => zB (.inl rfl) (zG rfl (HS6.get 0 rfl)))) ?_
            refine zA (zD 2 _ rfl rfl hLo rfl rfl (fun _ _ _ _ => rfl) (fun b G w hb ho => zB (.inl rfl) (zG rfl (HS6.get 1 rfl)))) ?_
            refine zA (zT 3 _ #[.agg (FR () 6 ((T.zero).sc)), .string (cr), .string (us)] rfl rfl rfl (fun _ _ _ _ => rfl) hLo rfl rfl Tryd.func13 rfl rfl (fun b G hb ho => args3 (zC hLo 0 rfl HS6.1 rfl (hb 0 (by rfl))) (zC hLo 1 rfl HS6.1 rfl (hb 1 (by rfl))) (zC hLo 2 rfl HS6.1 rfl (hb 2 (by rfl)))) (fun w hw => (by have hq := user_calls (t := T.zero) cr us (In.zero w) Rises.zero (hTab.below hw); rw [zero_user0 hr4] at hq; exact hq))) ?_
            refine zA (zD 4 _ rfl rfl hLo rfl rfl (fun _ _ _ _ => rfl) (fun b G w hb ho => zB (.inl rfl) (zG rfl (HS6.get 7 rfl)))) ?_
            refine zA (zD 5 _ rfl rfl hLo rfl rfl (fun _ _ _ _ => rfl) (fun b G w hb ho => zI rfl (zC hLo 3 rfl HS6.1 rfl (hb 3 (by rfl))) (zC hLo 4 rfl HS6.1 rfl (hb 4 (by rfl))) (rb_eql (by decide) _ _ _))) ?_
            refine zA (zD 6 _ rfl rfl hLo rfl rfl (fun _ _ _ _ => rfl) (fun b G w hb ho => zB (.inl rfl) (zC hLo 5 rfl HS6.1 rfl (hb 5 (by rfl))))) ?_
            refine zA (zY 7 0 _ rfl rfl rfl rfl (fun b G hb ho => zE rfl rfl rfl HS6.1 rfl (zC hLo 6 rfl HS6.1 rfl (hb 6 (by rfl))) rfl) hLo rfl rfl rfl (by rfl) Tryd.underlying25 (by kernel_rfl) rfl (fun b G hb ho => zG rfl (HS6.get 9 rfl))) ?_
            refine zA (zD 8 _ rfl rfl hLo rfl rfl (fun b G hb ho => zE rfl rfl rfl HS6.1 rfl (zC hLo 6 rfl HS6.1 rfl (hb 6 (by rfl))) rfl) (fun b G w hb ho => zB (.inl rfl) (zG rfl (HS6.get 2 rfl)))) ?_
            refine zA (zD 9 _ rfl rfl hLo rfl rfl (fun b G hb ho => zE rfl rfl rfl HS6.1 rfl (zC hLo 6 rfl HS6.1 rfl (hb 6 (by rfl))) rfl) (fun b G w hb ho => zB (.inl rfl) (zG rfl (HS6.get 3 rfl)))) ?_
            refine zA (zT 10 _ #[.agg (FR () 6 ((T.zero).sc)), .string (kd), .bool st] rfl rfl rfl (fun b G hb ho => zE rfl rfl rfl HS6.1 rfl (zC hLo 6 rfl HS6.1 rfl (hb 6 (by rfl))) rfl) hLo rfl rfl Tryd.func16 rfl rfl (fun b G hb ho => args3 (zC hLo 7 rfl HS6.1 rfl (hb 7 (by rfl))) (zC hLo 8 rfl HS6.1 rfl (hb 8 (by rfl))) (zC hLo 9 rfl HS6.1 rfl (hb 9 (by rfl)))) (fun w hw => (by have hq := send_calls (t := T.zero) kd st (In.zero w) Rises.zero (hTab.below hw); rw [zero_send] at hq; exact hq))) ?_
            refine zA (zD 11 _ rfl rfl hLo rfl rfl (fun b G hb ho => zE rfl rfl rfl HS6.1 rfl (zC hLo 6 rfl HS6.1 rfl (hb 6 (by rfl))) rfl) (fun b G w hb ho => zI rfl (zC hLo 10 rfl HS6.1 rfl (hb 10 (by rfl))) (rfl) (rb_eql (by decide) _ _ _))) ?_
            refine zA (zD 12 _ rfl rfl hLo rfl rfl (fun _ _ _ _ => rfl) (fun b G w hb ho => zJ rfl (zC hLo 6 rfl HS6.1 rfl (hb 6 (by rfl))) (zC hLo 11 rfl HS6.1 rfl (hb 11 (by rfl))))) ?_
            refine zA (zD 13 _ rfl rfl hLo rfl rfl (fun _ _ _ _ => rfl) (fun b G w hb ho => zB (.inl rfl) (zC hLo 12 rfl HS6.1 rfl (hb 12 (by rfl))))) ?_
            refine zA (zY 14 0 _ rfl rfl rfl rfl (fun b G hb ho => zE rfl rfl rfl HS6.1 rfl (zC hLo 13 rfl HS6.1 rfl (hb 13 (by rfl))) rfl) hLo rfl rfl rfl (by rfl) Tryd.underlying25 (by kernel_rfl) rfl (fun b G hb ho => zG rfl (HS6.get 9 rfl))) ?_
            refine zA (zT 15 _ #[.agg (FR () 6 ((T.zero).sc)), .string (k_ban)] rfl rfl rfl (fun b G hb ho => zE rfl rfl rfl HS6.1 rfl (zC hLo 13 rfl HS6.1 rfl (hb 13 (by rfl))) rfl) hLo rfl rfl Tryd.func10 rfl rfl (fun b G hb ho => args2 (zC hLo 14 rfl HS6.1 rfl (hb 14 (by rfl))) (rfl)) (fun w hw => (by have hq := level_calls (t := T.zero) k_ban (In.zero w) Rises.zero.rise (hTab.below hw); rw [show (T.zero.told k_ban).getD (els k_ban) = 50 from zl_ban] at hq; exact hq))) ?_
            refine zA (zD 16 _ rfl rfl hLo rfl rfl (fun b G hb ho => zE rfl rfl rfl HS6.1 rfl (zC hLo 13 rfl HS6.1 rfl (hb 13 (by rfl))) rfl) (fun b G w hb ho => zI rfl (zC hLo 15 rfl HS6.1 rfl (hb 15 (by rfl))) (rfl) (rb_eql (by decide) _ _ _))) ?_
            refine zA (zD 17 _ rfl rfl hLo rfl rfl (fun _ _ _ _ => rfl) (fun b G w hb ho => zJ rfl (zC hLo 13 rfl HS6.1 rfl (hb 13 (by rfl))) (zC hLo 16 rfl HS6.1 rfl (hb 16 (by rfl))))) ?_
            refine zA (zD 18 _ rfl rfl hLo rfl rfl (fun _ _ _ _ => rfl) (fun b G w hb ho => zB (.inl rfl) (zC hLo 17 rfl HS6.1 rfl (hb 17 (by rfl))))) ?_
            refine zA (zY 19 0 _ rfl rfl rfl rfl (fun b G hb ho => zE rfl rfl rfl HS6.1 rfl (zC hLo 18 rfl HS6.1 rfl (hb 18 (by rfl))) rfl) hLo rfl rfl rfl (by rfl) Tryd.underlying25 (by kernel_rfl) rfl (fun b G hb ho => zG rfl (HS6.get 9 rfl))) ?_
            refine zA (zT 20 _ #[.agg (FR () 6 ((T.zero).sc)), .string (k_kick)] rfl rfl rfl (fun b G hb ho => zE rfl rfl rfl HS6.1 rfl (zC hLo 18 rfl HS6.1 rfl (hb 18 (by rfl))) rfl) hLo rfl rfl Tryd.func10 rfl rfl (fun b G hb ho => args2 (zC hLo 19 rfl HS6.1 rfl (hb 19 (by rfl))) (rfl)) (fun w hw => (by have hq := level_calls (t := T.zero) k_kick (In.zero w) Rises.zero.rise (hTab.below hw); rw [show (T.zero.told k_kick).getD (els k_kick) = 50 from zl_kick] at hq; exact hq))) ?_
            refine zA (zD 21 _ rfl rfl hLo rfl rfl (fun b G hb ho => zE rfl rfl rfl HS6.1 rfl (zC hLo 18 rfl HS6.1 rfl (hb 18 (by rfl))) rfl) (fun b G w hb ho => zI rfl (zC hLo 20 rfl HS6.1 rfl (hb 20 (by rfl))) (rfl) (rb_eql (by decide) _ _ _))) ?_
            refine zA (zD 22 _ rfl rfl hLo rfl rfl (fun _ _ _ _ => rfl) (fun b G w hb ho => zJ rfl (zC hLo 18 rfl HS6.1 rfl (hb 18 (by rfl))) (zC hLo 21 rfl HS6.1 rfl (hb 21 (by rfl))))) ?_
            refine zA (zD 23 _ rfl rfl hLo rfl rfl (fun _ _ _ _ => rfl) (fun b G w hb ho => zB (.inl rfl) (zC hLo 22 rfl HS6.1 rfl (hb 22 (by rfl))))) ?_
            refine zA (zY 24 0 _ rfl rfl rfl rfl (fun b G hb ho => zE rfl rfl rfl HS6.1 rfl (zC hLo 23 rfl HS6.1 rfl (hb 23 (by rfl))) rfl) hLo rfl rfl rfl (by rfl) Tryd.underlying25 (by kernel_rfl) rfl (fun b G hb ho => zG rfl (HS6.get 9 rfl))) ?_
            refine zA (zT 25 _ #[.agg (FR () 6 ((T.zero).sc)), .string (k_redact)] rfl rfl rfl (fun b G hb ho => zE rfl rfl rfl HS6.1 rfl (zC hLo 23 rfl HS6.1 rfl (hb 23 (by rfl))) rfl) hLo rfl rfl Tryd.func10 rfl rfl (fun b G hb ho => args2 (zC hLo 24 rfl HS6.1 rfl (hb 24 (by rfl))) (rfl)) (fun w hw => (by have hq := level_calls (t := T.zero) k_redact (In.zero w) Rises.zero.rise (hTab.below hw); rw [show (T.zero.told k_redact).getD (els k_redact) = 50 from zl_redact] at hq; exact hq))) ?_
            refine zA (zD 26 _ rfl rfl hLo rfl rfl (fun b G hb ho => zE rfl rfl rfl HS6.1 rfl (zC hLo 23 rfl HS6.1 rfl (hb 23 (by rfl))) rfl) (fun b G w hb ho => zI rfl (zC hLo 25 rfl HS6.1 rfl (hb 25 (by rfl))) (rfl) (rb_eql (by decide) _ _ _))) ?_
            refine zA (zD 27 _ rfl rfl hLo rfl rfl (fun _ _ _ _ => rfl) (fun b G w hb ho => zJ rfl (zC hLo 23 rfl HS6.1 rfl (hb 23 (by rfl))) (zC hLo 26 rfl HS6.1 rfl (hb 26 (by rfl))))) ?_
            refine zA (zD 28 _ rfl rfl hLo rfl rfl (fun _ _ _ _ => rfl) (fun b G w hb ho => zB (.inl rfl) (zC hLo 27 rfl HS6.1 rfl (hb 27 (by rfl))))) ?_
            refine zA (zY 29 0 _ rfl rfl rfl rfl (fun b G hb ho => zE rfl rfl rfl HS6.1 rfl (zC hLo 28 rfl HS6.1 rfl (hb 28 (by rfl))) rfl) hLo rfl rfl rfl (by rfl) Tryd.underlying25 (by kernel_rfl) rfl (fun b G hb ho => zG rfl (HS6.get 9 rfl))) ?_
            refine zA (zT 30 _ #[.agg (FR () 6 ((T.zero).sc)), .string (k_invite)] rfl rfl rfl (fun b G hb ho => zE rfl rfl rfl HS6.1 rfl (zC hLo 28 rfl HS6.1 rfl (hb 28 (by rfl))) rfl) hLo rfl rfl Tryd.func10 rfl rfl (fun b G hb ho => args2 (zC hLo 29 rfl HS6.1 rfl (hb 29 (by rfl))) (rfl)) (fun w hw => (by have hq := level_calls (t := T.zero) k_invite (In.zero w) Rises.zero.rise (hTab.below hw); rw [show (T.zero.told k_invite).getD (els k_invite) = 0 from zl_invite] at hq; exact hq))) ?_
            refine zA (zD 31 _ rfl rfl hLo rfl rfl (fun b G hb ho => zE rfl rfl rfl HS6.1 rfl (zC hLo 28 rfl HS6.1 rfl (hb 28 (by rfl))) rfl) (fun b G w hb ho => zI rfl (zC hLo 30 rfl HS6.1 rfl (hb 30 (by rfl))) (rfl) (rb_eql (by decide) _ _ _))) ?_
            refine zA (zD 32 _ rfl rfl hLo rfl rfl (fun _ _ _ _ => rfl) (fun b G w hb ho => zJ rfl (zC hLo 28 rfl HS6.1 rfl (hb 28 (by rfl))) (zC hLo 31 rfl HS6.1 rfl (hb 31 (by rfl))))) ?_
            refine zA (zD 33 _ rfl rfl hLo rfl rfl (fun _ _ _ _ => rfl) (fun b G w hb ho => zB (.inl rfl) (zC hLo 32 rfl HS6.1 rfl (hb 32 (by rfl))))) ?_
            refine zA (zY 34 0 _ rfl rfl rfl rfl (fun b G hb ho => zE rfl rfl rfl HS6.1 rfl (zC hLo 33 rfl HS6.1 rfl (hb 33 (by rfl))) rfl) hLo rfl rfl rfl (by rfl) Tryd.underlying25 (by kernel_rfl) rfl (fun b G hb ho => zG rfl (HS6.get 9 rfl))) ?_
            refine zA (zY 35 0 _ rfl rfl rfl rfl (fun b G hb ho => zE rfl rfl rfl HS6.1 rfl (zC hLo 33 rfl HS6.1 rfl (hb 33 (by rfl))) rfl) hLo rfl rfl rfl (by rfl) Tryd.underlying25 (by kernel_rfl) rfl (fun b G hb ho => zG rfl (HS6.get 9 rfl))) ?_
            refine zA (zD 36 _ rfl rfl hLo rfl rfl (fun b G hb ho => zE rfl rfl rfl HS6.1 rfl (zC hLo 33 rfl HS6.1 rfl (hb 33 (by rfl))) rfl) (fun b G w hb ho => zB (.inl rfl) (zG rfl (HS6.get 1 rfl)))) ?_
            refine zA (zT 37 _ #[.agg (FR () 6 ((T.zero).sc)), .agg (FR () 6 ((T.zero).sc)), .string (us), .int .i64 (-1)] rfl rfl rfl (fun b G hb ho => zE rfl rfl rfl HS6.1 rfl (zC hLo 33 rfl HS6.1 rfl (hb 33 (by rfl))) rfl) hLo rfl rfl Tryd.func19 rfl rfl (fun b G hb ho => args4 (zC hLo 34 rfl HS6.1 rfl (hb 34 (by rfl))) (zC hLo 35 rfl HS6.1 rfl (hb 35 (by rfl))) (zC hLo 36 rfl HS6.1 rfl (hb 36 (by rfl))) (rfl)) (fun w hw => (by have hq := change_calls (p := T.zero) (q := T.zero) us (-1) (In.zero w) (In.zero w) Rises.zero Rises.zero (tbl_small fun i hi => absurd hi (Nat.not_lt_zero _)) (tbl_small fun i hi => absurd hi (Nat.not_lt_zero _)) (hTab.below hw); rw [chg_zero] at hq; exact hq))) ?_
            refine zA (zD 38 _ rfl rfl hLo rfl rfl (fun _ _ _ _ => rfl) (fun b G w hb ho => zJ rfl (zC hLo 33 rfl HS6.1 rfl (hb 33 (by rfl))) (zC hLo 37 rfl HS6.1 rfl (hb 37 (by rfl))))) ?_
            refine zA (zD 39 _ rfl rfl hLo rfl rfl (fun _ _ _ _ => rfl) (fun b G w hb ho => zB (.inr rfl) (zC hLo 38 rfl HS6.1 rfl (hb 38 (by rfl))))) ?_
            exact zF
          clear hLo
          intro G a7 w7 hS hH
          have HS7 : Sl a7 69 [(0, .string (cr)), (1, .string (us)), (2, .string (kd)), (3, .bool st), (12, .bool false), (25, .bool false), (9, .int .i64 (0)), (28, .bool false), (10, .pointer (some ⟨g6_1, 0, none⟩)), (8, .bool true)] := hS
          have HH7 : Held w w7 [⟨g6_1, (), 6, (T.zero).sc, 25⟩] := hH
          clear hS hH HS6 HH6
          refine then_ ?_
          refine wp_ret ?_
          repeat (first | refine zS ?_ | refine zN ?_)
          exact b_tmp rfl HS7.2.1 (HS7.get 9 rfl) ⟨law_ret rfl, HH7.1⟩
        · skip
          refine wp_cond_true (HS5.get 8 rfl) ?_
          have hLo : LOk [(0, 9, .val (.int .i64 (100)))] := lok (by rfl) (by rfl)
          refine zH (wE := w) (sz := 69) (n := 1) [0] [(0, .val (.string (cr))), (1, .val (.string (us))), (2, .val (.string (kd))), (3, .val (.bool st)), (8, .val (.bool false)), (12, .val (.bool false)), (25, .val (.bool false)), (28, .val (.bool true)), (9, .val (.int .i64 (100)))] [(0, 9, .val (.int .i64 (100)))] [] rfl (by rfl) HH5 rfl rfl hLo rfl HS5 (slS 0 rfl rfl (slS 1 rfl rfl (slS 2 rfl rfl (slS 3 rfl rfl (slS 4 rfl rfl (slS 5 rfl rfl (slS 6 rfl rfl (slS 8 rfl rfl (slL 0 (d := 0) rfl (trivial)))))))))) ?_ ?_
          · show ∀ i ∈ [0], _
            refine zA (zD 0 _ rfl rfl hLo rfl rfl (fun _ _ _ _ => rfl) (fun b G w hb ho => zB (.inr rfl) (rfl))) ?_
            exact zF
          clear hLo
          intro G a8 w8 hS hH
          have HS8 : Sl a8 69 [(0, .string (cr)), (1, .string (us)), (2, .string (kd)), (3, .bool st), (8, .bool false), (12, .bool false), (25, .bool false), (28, .bool true), (9, .int .i64 (100))] := hS
          have HH8 : Held w w8 [] := hH
          clear hS hH HS5 HH5
          refine then_ ?_
          refine wp_seq ?_
          have hLo : LOk [(0, 29, .val (.agg (FR () 6 ((T.zero).sc)))), (1, 10, .new 1 (fun g => .pointer (some ⟨g, 0, none⟩)))] := lok (by rfl) (by rfl)
          refine zH (wE := w) (sz := 69) (n := 3) [0, 1, 3] [(0, .val (.string (cr))), (1, .val (.string (us))), (2, .val (.string (kd))), (3, .val (.bool st)), (8, .val (.bool false)), (12, .val (.bool false)), (25, .val (.bool false)), (28, .val (.bool true)), (9, .val (.int .i64 (100))), (10, .new 1 (fun g => .pointer (some ⟨g, 0, none⟩)))] [(0, 29, .val (.agg (FR () 6 ((T.zero).sc)))), (1, 10, .new 1 (fun g => .pointer (some ⟨g, 0, none⟩)))] [⟨0, some 1, some 2, (), 6, lsc [.i .i64 (0), .b (false), .i .i64 (0), .s (ByteArray.empty), .sl (none) (0) (0), .sl (none) (0) (0)], (T.zero).sc, 25⟩] rfl (by rfl) HH8 rfl rfl hLo rfl HS8 (slS 0 rfl rfl (slS 1 rfl rfl (slS 2 rfl rfl (slS 3 rfl rfl (slS 4 rfl rfl (slS 5 rfl rfl (slS 6 rfl rfl (slS 7 rfl rfl (slS 8 rfl rfl (slL 1 (d := 1) rfl (trivial))))))))))) ?_ ?_
          · show ∀ i ∈ [0, 1, 2], _
            refine zA (zD 0 _ rfl rfl hLo rfl rfl (fun _ _ _ _ => rfl) (fun b G w hb ho => exec_build rfl (parts0 ) (by kernel_rfl))) ?_
            refine zA (zX 1 0 () 6 25 (some 2) _ _ rfl rfl (fun _ _ _ _ => rfl) rfl hLo rfl rfl rfl rfl (by rfl) (fun b G w _ _ => by kernel_rfl)) ?_
            refine zA (st_store 0 _ rfl rfl rfl rfl rfl (fun _ _ _ _ => rfl) rfl rfl rfl (by rfl) (by kernel_rfl) (fun b G hb ho => zC hLo 1 rfl HS8.1 rfl (hb 1 (by rfl))) (fun b G hb ho => zC hLo 0 rfl HS8.1 rfl (hb 0 (by rfl)))) ?_
            exact zF
          clear hLo
          intro G a9 w9 hS hH
          have HS9 : Sl a9 69 [(0, .string (cr)), (1, .string (us)), (2, .string (kd)), (3, .bool st), (8, .bool false), (12, .bool false), (25, .bool false), (28, .bool true), (9, .int .i64 (100)), (10, .pointer (some ⟨(G 1), 0, none⟩))] := hS
          have HH9 : Held w w9 [⟨(G 1), (), 6, (T.zero).sc, 25⟩] := hH
          clear hS hH HS8 HH8
          generalize G 1 = g9_1 at HS9 HH9
          refine then_ ?_
          refine wp_seq ?_
          have hLo : LOk [(0, 30, .val (.agg (FR () 6 ((T.zero).sc)))), (1, 31, .val (.string (cr))), (2, 32, .val (.string (us))), (3, 33, .val (.int .i64 (100))), (4, 34, .val (.int .i64 (100))), (5, 35, .val (.bool true)), (6, 36, .val (.bool true)), (7, 37, .val (.agg (FR () 6 ((T.zero).sc)))), (8, 38, .val (.string (kd))), (9, 39, .val (.bool st)), (10, 40, .val (.int .i64 (0))), (11, 41, .val (.bool true)), (12, 42, .val (.bool true)), (13, 43, .val (.bool true)), (14, 44, .val (.agg (FR () 6 ((T.zero).sc)))), (15, 45, .val (.int .i64 (50))), (16, 46, .val (.bool true)), (17, 47, .val (.bool true)), (18, 48, .val (.bool true)), (19, 49, .val (.agg (FR () 6 ((T.zero).sc)))), (20, 50, .val (.int .i64 (50))), (21, 51, .val (.bool true)), (22, 52, .val (.bool true)), (23, 53, .val (.bool true)), (24, 54, .val (.agg (FR () 6 ((T.zero).sc)))), (25, 55, .val (.int .i64 (50))), (26, 56, .val (.bool true)), (27, 57, .val (.bool true)), (28, 58, .val (.bool true)), (29, 59, .val (.agg (FR () 6 ((T.zero).sc)))), (30, 60, .val (.int .i64 (0))), (31, 61, .val (.bool true)), (32, 62, .val (.bool true)), (33, 63, .val (.bool true)), (34, 64, .val (.agg (FR () 6 ((T.zero).sc)))), (35, 65, .val (.agg (FR () 6 ((T.zero).sc)))), (36, 66, .val (.string (us))), (37, 67, .val (.bool true)), (38, 68, .val (.bool true)), (39, 8, .val (.bool true))] := lok (by rfl) (by rfl)
          refine zH (wE := w) (sz := 69) (n := 40) [0, 1, 3, 7, 15, 31, 63, 127, 255, 511, 1023, 2047, 4095, 8191, 16383, 32767, 65535, 131071, 262143, 524287, 1048575, 2097151, 4194303, 8388607, 16777215, 33554431, 67108863, 134217727, 268435455, 536870911, 1073741823, 2147483647, 4294967295, 8589934591, 17179869183, 34359738367, 68719476735, 137438953471, 274877906943, 549755813887] [(0, .val (.string (cr))), (1, .val (.string (us))), (2, .val (.string (kd))), (3, .val (.bool st)), (12, .val (.bool false)), (25, .val (.bool false)), (28, .val (.bool true)), (9, .val (.int .i64 (100))), (10, .val (.pointer (some ⟨g9_1, 0, none⟩))), (8, .val (.bool true))] [(0, 30, .val (.agg (FR () 6 ((T.zero).sc)))), (1, 31, .val (.string (cr))), (2, 32, .val (.string (us))), (3, 33, .val (.int .i64 (100))), (4, 34, .val (.int .i64 (100))), (5, 35, .val (.bool true)), (6, 36, .val (.bool true)), (7, 37, .val (.agg (FR () 6 ((T.zero).sc)))), (8, 38, .val (.string (kd))), (9, 39, .val (.bool st)), (10, 40, .val (.int .i64 (0))), (11, 41, .val (.bool true)), (12, 42, .val (.bool true)), (13, 43, .val (.bool true)), (14, 44, .val (.agg (FR () 6 ((T.zero).sc)))), (15, 45, .val (.int .i64 (50))), (16, 46, .val (.bool true)), (17, 47, .val (.bool true)), (18, 48, .val (.bool true)), (19, 49, .val (.agg (FR () 6 ((T.zero).sc)))), (20, 50, .val (.int .i64 (50))), (21, 51, .val (.bool true)), (22, 52, .val (.bool true)), (23, 53, .val (.bool true)), (24, 54, .val (.agg (FR () 6 ((T.zero).sc)))), (25, 55, .val (.int .i64 (50))), (26, 56, .val (.bool true)), (27, 57, .val (.bool true)), (28, 58, .val (.bool true)), (29, 59, .val (.agg (FR () 6 ((T.zero).sc)))), (30, 60, .val (.int .i64 (0))), (31, 61, .val (.bool true)), (32, 62, .val (.bool true)), (33, 63, .val (.bool true)), (34, 64, .val (.agg (FR () 6 ((T.zero).sc)))), (35, 65, .val (.agg (FR () 6 ((T.zero).sc)))), (36, 66, .val (.string (us))), (37, 67, .val (.bool true)), (38, 68, .val (.bool true)), (39, 8, .val (.bool true))] [⟨g9_1, none, none, (), 6, (T.zero).sc, (T.zero).sc, 25⟩] rfl (by rfl) HH9 rfl rfl hLo rfl HS9 (slS 0 rfl rfl (slS 1 rfl rfl (slS 2 rfl rfl (slS 3 rfl rfl (slS 5 rfl rfl (slS 6 rfl rfl (slS 7 rfl rfl (slS 8 rfl rfl (slS 9 rfl rfl (slL 39 (d := 39) rfl (trivial))))))))))) ?_ ?_
          · show ∀ i ∈ [0, 1, 2, 3, 4, 5, 6, 7, 8, 9, 10, 11, 12, 13, 14, 15, 16, 17, 18, 19, 20, 21, 22, 23, 24, 25, 26, 27, 28, 29, 30, 31, 32, 33, 34, 35, 36, 37, 38, 39], _
            refine zA (zY 0 0 _ rfl rfl rfl rfl (fun _ _ _ _ => rfl) hLo rfl rfl rfl (by rfl) Tryd.underlying25 (by kernel_rfl) rfl (fun b G hb ho => zG rfl (HS9.get 9 rfl))) ?_
            refine zA (zD 1 _ rfl rfl hLo rfl rfl (fun _ _ _ _ => rfl) (fun b G w hb ho => zB (.inl rfl) (zG rfl (HS9.get 0 rfl)))) ?_
            refine zA (zD 2 _ rfl rfl hLo rfl rfl (fun _ _ _ _ => rfl) (fun b G w hb ho => zB (.inl rfl) (zG rfl (HS9.get 1 rfl)))) ?_
            refine zA (zT 3 _ #[.agg (FR () 6 ((T.zero).sc)), .string (cr), .string (us)] rfl rfl rfl (fun _ _ _ _ => rfl) hLo rfl rfl Tryd.func13 rfl rfl (fun b G hb ho => args3 (zC hLo 0 rfl HS9.1 rfl (hb 0 (by rfl))) (zC hLo 1 rfl HS9.1 rfl (hb 1 (by rfl))) (zC hLo 2 rfl HS9.1 rfl (hb 2 (by rfl)))) (fun w hw => (by have hq := user_calls (t := T.zero) cr us (In.zero w) Rises.zero (hTab.below hw); rw [zero_user1 hr4] at hq; exact hq))) ?_
            refine zA (zD 4 _ rfl rfl hLo rfl rfl (fun _ _ _ _ => rfl) (fun b G w hb ho => zB (.inl rfl) (zG rfl (HS9.get 8 rfl)))) ?_
            refine zA (zD 5 _ rfl rfl hLo rfl rfl (fun _ _ _ _ => rfl) (fun b G w hb ho => zI rfl (zC hLo 3 rfl HS9.1 rfl (hb 3 (by rfl))) (zC hLo 4 rfl HS9.1 rfl (hb 4 (by rfl))) (rb_eql (by decide) _ _ _))) ?_
            refine zA (zD 6 _ rfl rfl hLo rfl rfl (fun _ _ _ _ => rfl) (fun b G w hb ho => zB (.inl rfl) (zC hLo 5 rfl HS9.1 rfl (hb 5 (by rfl))))) ?_
            refine zA (zY 7 0 _ rfl rfl rfl rfl (fun b G hb ho => zE rfl rfl rfl HS9.1 rfl (zC hLo 6 rfl HS9.1 rfl (hb 6 (by rfl))) rfl) hLo rfl rfl rfl (by rfl) Tryd.underlying25 (by kernel_rfl) rfl (fun b G hb ho => zG rfl (HS9.get 9 rfl))) ?_
            refine zA (zD 8 _ rfl rfl hLo rfl rfl (fun b G hb ho => zE rfl rfl rfl HS9.1 rfl (zC hLo 6 rfl HS9.1 rfl (hb 6 (by rfl))) rfl) (fun b G w hb ho => zB (.inl rfl) (zG rfl (HS9.get 2 rfl)))) ?_
            refine zA (zD 9 _ rfl rfl hLo rfl rfl (fun b G hb ho => zE rfl rfl rfl HS9.1 rfl (zC hLo 6 rfl HS9.1 rfl (hb 6 (by rfl))) rfl) (fun b G w hb ho => zB (.inl rfl) (zG rfl (HS9.get 3 rfl)))) ?_
            refine zA (zT 10 _ #[.agg (FR () 6 ((T.zero).sc)), .string (kd), .bool st] rfl rfl rfl (fun b G hb ho => zE rfl rfl rfl HS9.1 rfl (zC hLo 6 rfl HS9.1 rfl (hb 6 (by rfl))) rfl) hLo rfl rfl Tryd.func16 rfl rfl (fun b G hb ho => args3 (zC hLo 7 rfl HS9.1 rfl (hb 7 (by rfl))) (zC hLo 8 rfl HS9.1 rfl (hb 8 (by rfl))) (zC hLo 9 rfl HS9.1 rfl (hb 9 (by rfl)))) (fun w hw => (by have hq := send_calls (t := T.zero) kd st (In.zero w) Rises.zero (hTab.below hw); rw [zero_send] at hq; exact hq))) ?_
            refine zA (zD 11 _ rfl rfl hLo rfl rfl (fun b G hb ho => zE rfl rfl rfl HS9.1 rfl (zC hLo 6 rfl HS9.1 rfl (hb 6 (by rfl))) rfl) (fun b G w hb ho => zI rfl (zC hLo 10 rfl HS9.1 rfl (hb 10 (by rfl))) (rfl) (rb_eql (by decide) _ _ _))) ?_
            refine zA (zD 12 _ rfl rfl hLo rfl rfl (fun _ _ _ _ => rfl) (fun b G w hb ho => zJ rfl (zC hLo 6 rfl HS9.1 rfl (hb 6 (by rfl))) (zC hLo 11 rfl HS9.1 rfl (hb 11 (by rfl))))) ?_
            refine zA (zD 13 _ rfl rfl hLo rfl rfl (fun _ _ _ _ => rfl) (fun b G w hb ho => zB (.inl rfl) (zC hLo 12 rfl HS9.1 rfl (hb 12 (by rfl))))) ?_
            refine zA (zY 14 0 _ rfl rfl rfl rfl (fun b G hb ho => zE rfl rfl rfl HS9.1 rfl (zC hLo 13 rfl HS9.1 rfl (hb 13 (by rfl))) rfl) hLo rfl rfl rfl (by rfl) Tryd.underlying25 (by kernel_rfl) rfl (fun b G hb ho => zG rfl (HS9.get 9 rfl))) ?_
            refine zA (zT 15 _ #[.agg (FR () 6 ((T.zero).sc)), .string (k_ban)] rfl rfl rfl (fun b G hb ho => zE rfl rfl rfl HS9.1 rfl (zC hLo 13 rfl HS9.1 rfl (hb 13 (by rfl))) rfl) hLo rfl rfl Tryd.func10 rfl rfl (fun b G hb ho => args2 (zC hLo 14 rfl HS9.1 rfl (hb 14 (by rfl))) (rfl)) (fun w hw => (by have hq := level_calls (t := T.zero) k_ban (In.zero w) Rises.zero.rise (hTab.below hw); rw [show (T.zero.told k_ban).getD (els k_ban) = 50 from zl_ban] at hq; exact hq))) ?_
            refine zA (zD 16 _ rfl rfl hLo rfl rfl (fun b G hb ho => zE rfl rfl rfl HS9.1 rfl (zC hLo 13 rfl HS9.1 rfl (hb 13 (by rfl))) rfl) (fun b G w hb ho => zI rfl (zC hLo 15 rfl HS9.1 rfl (hb 15 (by rfl))) (rfl) (rb_eql (by decide) _ _ _))) ?_
            refine zA (zD 17 _ rfl rfl hLo rfl rfl (fun _ _ _ _ => rfl) (fun b G w hb ho => zJ rfl (zC hLo 13 rfl HS9.1 rfl (hb 13 (by rfl))) (zC hLo 16 rfl HS9.1 rfl (hb 16 (by rfl))))) ?_
            refine zA (zD 18 _ rfl rfl hLo rfl rfl (fun _ _ _ _ => rfl) (fun b G w hb ho => zB (.inl rfl) (zC hLo 17 rfl HS9.1 rfl (hb 17 (by rfl))))) ?_
            refine zA (zY 19 0 _ rfl rfl rfl rfl (fun b G hb ho => zE rfl rfl rfl HS9.1 rfl (zC hLo 18 rfl HS9.1 rfl (hb 18 (by rfl))) rfl) hLo rfl rfl rfl (by rfl) Tryd.underlying25 (by kernel_rfl) rfl (fun b G hb ho => zG rfl (HS9.get 9 rfl))) ?_
            refine zA (zT 20 _ #[.agg (FR () 6 ((T.zero).sc)), .string (k_kick)] rfl rfl rfl (fun b G hb ho => zE rfl rfl rfl HS9.1 rfl (zC hLo 18 rfl HS9.1 rfl (hb 18 (by rfl))) rfl) hLo rfl rfl Tryd.func10 rfl rfl (fun b G hb ho => args2 (zC hLo 19 rfl HS9.1 rfl (hb 19 (by rfl))) (rfl)) (fun w hw => (by have hq := level_calls (t := T.zero) k_kick (In.zero w) Rises.zero.rise (hTab.below hw); rw [show (T.zero.told k_kick).getD (els k_kick) = 50 from zl_kick] at hq; exact hq))) ?_
            refine zA (zD 21 _ rfl rfl hLo rfl rfl (fun b G hb ho => zE rfl rfl rfl HS9.1 rfl (zC hLo 18 rfl HS9.1 rfl (hb 18 (by rfl))) rfl) (fun b G w hb ho => zI rfl (zC hLo 20 rfl HS9.1 rfl (hb 20 (by rfl))) (rfl) (rb_eql (by decide) _ _ _))) ?_
            refine zA (zD 22 _ rfl rfl hLo rfl rfl (fun _ _ _ _ => rfl) (fun b G w hb ho => zJ rfl (zC hLo 18 rfl HS9.1 rfl (hb 18 (by rfl))) (zC hLo 21 rfl HS9.1 rfl (hb 21 (by rfl))))) ?_
            refine zA (zD 23 _ rfl rfl hLo rfl rfl (fun _ _ _ _ => rfl) (fun b G w hb ho => zB (.inl rfl) (zC hLo 22 rfl HS9.1 rfl (hb 22 (by rfl))))) ?_
            refine zA (zY 24 0 _ rfl rfl rfl rfl (fun b G hb ho => zE rfl rfl rfl HS9.1 rfl (zC hLo 23 rfl HS9.1 rfl (hb 23 (by rfl))) rfl) hLo rfl rfl rfl (by rfl) Tryd.underlying25 (by kernel_rfl) rfl (fun b G hb ho => zG rfl (HS9.get 9 rfl))) ?_
            refine zA (zT 25 _ #[.agg (FR () 6 ((T.zero).sc)), .string (k_redact)] rfl rfl rfl (fun b G hb ho => zE rfl rfl rfl HS9.1 rfl (zC hLo 23 rfl HS9.1 rfl (hb 23 (by rfl))) rfl) hLo rfl rfl Tryd.func10 rfl rfl (fun b G hb ho => args2 (zC hLo 24 rfl HS9.1 rfl (hb 24 (by rfl))) (rfl)) (fun w hw => (by have hq := level_calls (t := T.zero) k_redact (In.zero w) Rises.zero.rise (hTab.below hw); rw [show (T.zero.told k_redact).getD (els k_redact) = 50 from zl_redact] at hq; exact hq))) ?_
            refine zA (zD 26 _ rfl rfl hLo rfl rfl (fun b G hb ho => zE rfl rfl rfl HS9.1 rfl (zC hLo 23 rfl HS9.1 rfl (hb 23 (by rfl))) rfl) (fun b G w hb ho => zI rfl (zC hLo 25 rfl HS9.1 rfl (hb 25 (by rfl))) (rfl) (rb_eql (by decide) _ _ _))) ?_
            refine zA (zD 27 _ rfl rfl hLo rfl rfl (fun _ _ _ _ => rfl) (fun b G w hb ho => zJ rfl (zC hLo 23 rfl HS9.1 rfl (hb 23 (by rfl))) (zC hLo 26 rfl HS9.1 rfl (hb 26 (by rfl))))) ?_
            refine zA (zD 28 _ rfl rfl hLo rfl rfl (fun _ _ _ _ => rfl) (fun b G w hb ho => zB (.inl rfl) (zC hLo 27 rfl HS9.1 rfl (hb 27 (by rfl))))) ?_
            refine zA (zY 29 0 _ rfl rfl rfl rfl (fun b G hb ho => zE rfl rfl rfl HS9.1 rfl (zC hLo 28 rfl HS9.1 rfl (hb 28 (by rfl))) rfl) hLo rfl rfl rfl (by rfl) Tryd.underlying25 (by kernel_rfl) rfl (fun b G hb ho => zG rfl (HS9.get 9 rfl))) ?_
            refine zA (zT 30 _ #[.agg (FR () 6 ((T.zero).sc)), .string (k_invite)] rfl rfl rfl (fun b G hb ho => zE rfl rfl rfl HS9.1 rfl (zC hLo 28 rfl HS9.1 rfl (hb 28 (by rfl))) rfl) hLo rfl rfl Tryd.func10 rfl rfl (fun b G hb ho => args2 (zC hLo 29 rfl HS9.1 rfl (hb 29 (by rfl))) (rfl)) (fun w hw => (by have hq := level_calls (t := T.zero) k_invite (In.zero w) Rises.zero.rise (hTab.below hw); rw [show (T.zero.told k_invite).getD (els k_invite) = 0 from zl_invite] at hq; exact hq))) ?_
            refine zA (zD 31 _ rfl rfl hLo rfl rfl (fun b G hb ho => zE rfl rfl rfl HS9.1 rfl (zC hLo 28 rfl HS9.1 rfl (hb 28 (by rfl))) rfl) (fun b G w hb ho => zI rfl (zC hLo 30 rfl HS9.1 rfl (hb 30 (by rfl))) (rfl) (rb_eql (by decide) _ _ _))) ?_
            refine zA (zD 32 _ rfl rfl hLo rfl rfl (fun _ _ _ _ => rfl) (fun b G w hb ho => zJ rfl (zC hLo 28 rfl HS9.1 rfl (hb 28 (by rfl))) (zC hLo 31 rfl HS9.1 rfl (hb 31 (by rfl))))) ?_
            refine zA (zD 33 _ rfl rfl hLo rfl rfl (fun _ _ _ _ => rfl) (fun b G w hb ho => zB (.inl rfl) (zC hLo 32 rfl HS9.1 rfl (hb 32 (by rfl))))) ?_
            refine zA (zY 34 0 _ rfl rfl rfl rfl (fun b G hb ho => zE rfl rfl rfl HS9.1 rfl (zC hLo 33 rfl HS9.1 rfl (hb 33 (by rfl))) rfl) hLo rfl rfl rfl (by rfl) Tryd.underlying25 (by kernel_rfl) rfl (fun b G hb ho => zG rfl (HS9.get 9 rfl))) ?_
            refine zA (zY 35 0 _ rfl rfl rfl rfl (fun b G hb ho => zE rfl rfl rfl HS9.1 rfl (zC hLo 33 rfl HS9.1 rfl (hb 33 (by rfl))) rfl) hLo rfl rfl rfl (by rfl) Tryd.underlying25 (by kernel_rfl) rfl (fun b G hb ho => zG rfl (HS9.get 9 rfl))) ?_
            refine zA (zD 36 _ rfl rfl hLo rfl rfl (fun b G hb ho => zE rfl rfl rfl HS9.1 rfl (zC hLo 33 rfl HS9.1 rfl (hb 33 (by rfl))) rfl) (fun b G w hb ho => zB (.inl rfl) (zG rfl (HS9.get 1 rfl)))) ?_
            refine zA (zT 37 _ #[.agg (FR () 6 ((T.zero).sc)), .agg (FR () 6 ((T.zero).sc)), .string (us), .int .i64 (-1)] rfl rfl rfl (fun b G hb ho => zE rfl rfl rfl HS9.1 rfl (zC hLo 33 rfl HS9.1 rfl (hb 33 (by rfl))) rfl) hLo rfl rfl Tryd.func19 rfl rfl (fun b G hb ho => args4 (zC hLo 34 rfl HS9.1 rfl (hb 34 (by rfl))) (zC hLo 35 rfl HS9.1 rfl (hb 35 (by rfl))) (zC hLo 36 rfl HS9.1 rfl (hb 36 (by rfl))) (rfl)) (fun w hw => (by have hq := change_calls (p := T.zero) (q := T.zero) us (-1) (In.zero w) (In.zero w) Rises.zero Rises.zero (tbl_small fun i hi => absurd hi (Nat.not_lt_zero _)) (tbl_small fun i hi => absurd hi (Nat.not_lt_zero _)) (hTab.below hw); rw [chg_zero] at hq; exact hq))) ?_
            refine zA (zD 38 _ rfl rfl hLo rfl rfl (fun _ _ _ _ => rfl) (fun b G w hb ho => zJ rfl (zC hLo 33 rfl HS9.1 rfl (hb 33 (by rfl))) (zC hLo 37 rfl HS9.1 rfl (hb 37 (by rfl))))) ?_
            refine zA (zD 39 _ rfl rfl hLo rfl rfl (fun _ _ _ _ => rfl) (fun b G w hb ho => zB (.inr rfl) (zC hLo 38 rfl HS9.1 rfl (hb 38 (by rfl))))) ?_
            exact zF
          clear hLo
          intro G a10 w10 hS hH
          have HS10 : Sl a10 69 [(0, .string (cr)), (1, .string (us)), (2, .string (kd)), (3, .bool st), (12, .bool false), (25, .bool false), (28, .bool true), (9, .int .i64 (100)), (10, .pointer (some ⟨g9_1, 0, none⟩)), (8, .bool true)] := hS
          have HH10 : Held w w10 [⟨g9_1, (), 6, (T.zero).sc, 25⟩] := hH
          clear hS hH HS9 HH9
          refine then_ ?_
          refine wp_ret ?_
          repeat (first | refine zS ?_ | refine zN ?_)
          exact b_tmp rfl HS10.2.1 (HS10.get 9 rfl) ⟨law_ret rfl, HH10.1⟩
      · skip
        refine wp_cond_true (HS3.get 6 rfl) ?_
        refine wp_seq ?_
        have hLo : LOk [(0, 8, .val (.bool true))] := lok (by rfl) (by rfl)
        refine zH (wE := w) (sz := 69) (n := 1) [0] [(0, .val (.string (cr))), (1, .val (.string (us))), (2, .val (.string (kd))), (3, .val (.bool st)), (12, .val (.bool false)), (25, .val (.bool true)), (8, .val (.bool true))] [(0, 8, .val (.bool true))] [] rfl (by rfl) HH3 rfl rfl hLo rfl HS3 (slS 0 rfl rfl (slS 1 rfl rfl (slS 2 rfl rfl (slS 3 rfl rfl (slS 5 rfl rfl (slS 6 rfl rfl (slL 0 (d := 0) rfl (trivial)))))))) ?_ ?_
        · show ∀ i ∈ [0], _
          refine zA (zD 0 _ rfl rfl hLo rfl rfl (fun _ _ _ _ => rfl) (fun b G w hb ho => zB (.inr rfl) (rfl))) ?_
          exact zF
        clear hLo
        intro G a11 w11 hS hH
        have HS11 : Sl a11 69 [(0, .string (cr)), (1, .string (us)), (2, .string (kd)), (3, .bool st), (12, .bool false), (25, .bool true), (8, .bool true)] := hS
        have HH11 : Held w w11 [] := hH
        clear hS hH HS3 HH3
        refine then_ ?_
        refine wp_ret ?_
        repeat (first | refine zS ?_ | refine zN ?_)
        exact b_tmp rfl HS11.2.1 (HS11.get 6 rfl) ⟨law_ret rfl, HH11.1⟩
    · skip
      refine wp_seq ?_
      have hLo : LOk [(0, 13, .val (.string (cr))), (1, 14, .val (.int .i64 (((cr).size : Int)))), (2, 15, .val (.bool false)), (3, 16, .val (.bool false)), (4, 17, .val (.string (us))), (5, 18, .val (.int .i64 (((us).size : Int)))), (6, 19, .val (.bool true)), (7, 20, .val (.bool true)), (8, 21, .val (.bool true)), (9, 22, .val (undef)), (10, 23, .val (undef)), (11, 24, .val (undef)), (12, 25, .val (.bool true))] := lok (by rfl) (by rfl)
      refine zH (wE := w) (sz := 69) (n := 13) [0, 1, 3, 7, 15, 31, 63, 127, 255, 511, 1023, 2047, 4095] [(0, .val (.string (cr))), (1, .val (.string (us))), (2, .val (.string (kd))), (3, .val (.bool st)), (8, .val (.bool false)), (12, .val (.bool false)), (25, .val (.bool true))] [(0, 13, .val (.string (cr))), (1, 14, .val (.int .i64 (((cr).size : Int)))), (2, 15, .val (.bool false)), (3, 16, .val (.bool false)), (4, 17, .val (.string (us))), (5, 18, .val (.int .i64 (((us).size : Int)))), (6, 19, .val (.bool true)), (7, 20, .val (.bool true)), (8, 21, .val (.bool true)), (9, 22, .val (undef)), (10, 23, .val (undef)), (11, 24, .val (undef)), (12, 25, .val (.bool true))] [] rfl (by rfl) HH2 rfl rfl hLo rfl HS2 (slS 0 rfl rfl (slS 1 rfl rfl (slS 2 rfl rfl (slS 3 rfl rfl (slS 4 rfl rfl (slS 5 rfl rfl (slL 12 (d := 12) rfl (trivial)))))))) ?_ ?_
      · show ∀ i ∈ [0, 1, 2, 3, 4, 5, 6, 7, 8, 9, 10, 11, 12], _
        refine zA (zD 0 _ rfl rfl hLo rfl rfl (fun _ _ _ _ => rfl) (fun b G w hb ho => zB (.inl rfl) (zG rfl (HS2.get 0 rfl)))) ?_
        refine zA (zD 1 _ rfl rfl hLo rfl rfl (fun _ _ _ _ => rfl) (fun b G w hb ho => exec_lenS Tryd.underlying9 rfl (zC hLo 0 rfl HS2.1 rfl (hb 0 (by rfl))))) ?_
        refine zA (zD 2 _ rfl rfl hLo rfl rfl (fun _ _ _ _ => rfl) (fun b G w hb ho => zI rfl (zC hLo 1 rfl HS2.1 rfl (hb 1 (by rfl))) (rfl) (rb_gtr hr1 _ _ _))) ?_
        refine zA (zD 3 _ rfl rfl hLo rfl rfl (fun _ _ _ _ => rfl) (fun b G w hb ho => zB (.inl rfl) (zC hLo 2 rfl HS2.1 rfl (hb 2 (by rfl))))) ?_
        refine zA (zD 4 _ rfl rfl hLo rfl rfl (fun b G hb ho => zE rfl rfl rfl HS2.1 rfl (zC hLo 3 rfl HS2.1 rfl (hb 3 (by rfl))) rfl) (fun b G w hb ho => zB (.inl rfl) (zG rfl (HS2.get 1 rfl)))) ?_
        refine zA (zD 5 _ rfl rfl hLo rfl rfl (fun b G hb ho => zE rfl rfl rfl HS2.1 rfl (zC hLo 3 rfl HS2.1 rfl (hb 3 (by rfl))) rfl) (fun b G w hb ho => exec_lenS Tryd.underlying9 rfl (zC hLo 4 rfl HS2.1 rfl (hb 4 (by rfl))))) ?_
        refine zA (zD 6 _ rfl rfl hLo rfl rfl (fun b G hb ho => zE rfl rfl rfl HS2.1 rfl (zC hLo 3 rfl HS2.1 rfl (hb 3 (by rfl))) rfl) (fun b G w hb ho => zI rfl (zC hLo 5 rfl HS2.1 rfl (hb 5 (by rfl))) (rfl) (rb_gtr hr2 _ _ _))) ?_
        refine zA (zD 7 _ rfl rfl hLo rfl rfl (fun _ _ _ _ => rfl) (fun b G w hb ho => zJ rfl (zC hLo 3 rfl HS2.1 rfl (hb 3 (by rfl))) (zC hLo 6 rfl HS2.1 rfl (hb 6 (by rfl))))) ?_
        refine zA (zD 8 _ rfl rfl hLo rfl rfl (fun _ _ _ _ => rfl) (fun b G w hb ho => zB (.inl rfl) (zC hLo 7 rfl HS2.1 rfl (hb 7 (by rfl))))) ?_
        refine zA (zL 9 rfl rfl hLo rfl rfl (fun b G hb ho => zE rfl rfl rfl HS2.1 rfl (zC hLo 8 rfl HS2.1 rfl (hb 8 (by rfl))) rfl)) ?_
        refine zA (zL 10 rfl rfl hLo rfl rfl (fun b G hb ho => zE rfl rfl rfl HS2.1 rfl (zC hLo 8 rfl HS2.1 rfl (hb 8 (by rfl))) rfl)) ?_
        refine zA (zL 11 rfl rfl hLo rfl rfl (fun b G hb ho => zE rfl rfl rfl HS2.1 rfl (zC hLo 8 rfl HS2.1 rfl (hb 8 (by rfl))) rfl)) ?_
        refine zA (zD 12 _ rfl rfl hLo rfl rfl (fun _ _ _ _ => rfl) (fun b G w hb ho => zJ rfl (zC hLo 8 rfl HS2.1 rfl (hb 8 (by rfl))) (rfl))) ?_
        exact zF
      clear hLo
      intro G a12 w12 hS hH
      have HS12 : Sl a12 69 [(0, .string (cr)), (1, .string (us)), (2, .string (kd)), (3, .bool st), (8, .bool false), (12, .bool false), (25, .bool true)] := hS
      have HH12 : Held w w12 [] := hH
      clear hS hH HS2 HH2
      refine then_ ?_
      refine wp_cond_true (HS12.get 6 rfl) ?_
      refine wp_seq ?_
      have hLo : LOk [(0, 8, .val (.bool true))] := lok (by rfl) (by rfl)
      refine zH (wE := w) (sz := 69) (n := 1) [0] [(0, .val (.string (cr))), (1, .val (.string (us))), (2, .val (.string (kd))), (3, .val (.bool st)), (12, .val (.bool false)), (25, .val (.bool true)), (8, .val (.bool true))] [(0, 8, .val (.bool true))] [] rfl (by rfl) HH12 rfl rfl hLo rfl HS12 (slS 0 rfl rfl (slS 1 rfl rfl (slS 2 rfl rfl (slS 3 rfl rfl (slS 5 rfl rfl (slS 6 rfl rfl (slL 0 (d := 0) rfl (trivial)))))))) ?_ ?_
      · show ∀ i ∈ [0], _
        refine zA (zD 0 _ rfl rfl hLo rfl rfl (fun _ _ _ _ => rfl) (fun b G w hb ho => zB (.inr rfl) (rfl))) ?_
        exact zF
      clear hLo
      intro G a13 w13 hS hH
      have HS13 : Sl a13 69 [(0, .string (cr)), (1, .string (us)), (2, .string (kd)), (3, .bool st), (12, .bool false), (25, .bool true), (8, .bool true)] := hS
      have HH13 : Held w w13 [] := hH
      clear hS hH HS12 HH12
      refine then_ ?_
      refine wp_ret ?_
      repeat (first | refine zS ?_ | refine zN ?_)
      exact b_tmp rfl HS13.2.1 (HS13.get 6 rfl) ⟨law_ret rfl, HH13.1⟩
  · skip
    refine wp_seq ?_
    have hLo : LOk [(0, 13, .val (.string (cr))), (1, 14, .val (.int .i64 (((cr).size : Int)))), (2, 15, .val (.bool true)), (3, 16, .val (.bool true)), (4, 17, .val (undef)), (5, 18, .val (undef)), (6, 19, .val (undef)), (7, 20, .val (.bool true)), (8, 21, .val (.bool true)), (9, 22, .val (undef)), (10, 23, .val (undef)), (11, 24, .val (undef)), (12, 25, .val (.bool true))] := lok (by rfl) (by rfl)
    refine zH (wE := w) (sz := 69) (n := 13) [0, 1, 3, 7, 15, 31, 63, 127, 255, 511, 1023, 2047, 4095] [(0, .val (.string (cr))), (1, .val (.string (us))), (2, .val (.string (kd))), (3, .val (.bool st)), (8, .val (.bool false)), (12, .val (.bool false)), (25, .val (.bool true))] [(0, 13, .val (.string (cr))), (1, 14, .val (.int .i64 (((cr).size : Int)))), (2, 15, .val (.bool true)), (3, 16, .val (.bool true)), (4, 17, .val (undef)), (5, 18, .val (undef)), (6, 19, .val (undef)), (7, 20, .val (.bool true)), (8, 21, .val (.bool true)), (9, 22, .val (undef)), (10, 23, .val (undef)), (11, 24, .val (undef)), (12, 25, .val (.bool true))] [] rfl (by rfl) HH2 rfl rfl hLo rfl HS2 (slS 0 rfl rfl (slS 1 rfl rfl (slS 2 rfl rfl (slS 3 rfl rfl (slS 4 rfl rfl (slS 5 rfl rfl (slL 12 (d := 12) rfl (trivial)))))))) ?_ ?_
    · show ∀ i ∈ [0, 1, 2, 3, 4, 5, 6, 7, 8, 9, 10, 11, 12], _
      refine zA (zD 0 _ rfl rfl hLo rfl rfl (fun _ _ _ _ => rfl) (fun b G w hb ho => zB (.inl rfl) (zG rfl (HS2.get 0 rfl)))) ?_
      refine zA (zD 1 _ rfl rfl hLo rfl rfl (fun _ _ _ _ => rfl) (fun b G w hb ho => exec_lenS Tryd.underlying9 rfl (zC hLo 0 rfl HS2.1 rfl (hb 0 (by rfl))))) ?_
      refine zA (zD 2 _ rfl rfl hLo rfl rfl (fun _ _ _ _ => rfl) (fun b G w hb ho => zI rfl (zC hLo 1 rfl HS2.1 rfl (hb 1 (by rfl))) (rfl) (rb_gtr hr1 _ _ _))) ?_
      refine zA (zD 3 _ rfl rfl hLo rfl rfl (fun _ _ _ _ => rfl) (fun b G w hb ho => zB (.inl rfl) (zC hLo 2 rfl HS2.1 rfl (hb 2 (by rfl))))) ?_
      refine zA (zL 4 rfl rfl hLo rfl rfl (fun b G hb ho => zE rfl rfl rfl HS2.1 rfl (zC hLo 3 rfl HS2.1 rfl (hb 3 (by rfl))) rfl)) ?_
      refine zA (zL 5 rfl rfl hLo rfl rfl (fun b G hb ho => zE rfl rfl rfl HS2.1 rfl (zC hLo 3 rfl HS2.1 rfl (hb 3 (by rfl))) rfl)) ?_
      refine zA (zL 6 rfl rfl hLo rfl rfl (fun b G hb ho => zE rfl rfl rfl HS2.1 rfl (zC hLo 3 rfl HS2.1 rfl (hb 3 (by rfl))) rfl)) ?_
      refine zA (zD 7 _ rfl rfl hLo rfl rfl (fun _ _ _ _ => rfl) (fun b G w hb ho => zJ rfl (zC hLo 3 rfl HS2.1 rfl (hb 3 (by rfl))) (rfl))) ?_
      refine zA (zD 8 _ rfl rfl hLo rfl rfl (fun _ _ _ _ => rfl) (fun b G w hb ho => zB (.inl rfl) (zC hLo 7 rfl HS2.1 rfl (hb 7 (by rfl))))) ?_
      refine zA (zL 9 rfl rfl hLo rfl rfl (fun b G hb ho => zE rfl rfl rfl HS2.1 rfl (zC hLo 8 rfl HS2.1 rfl (hb 8 (by rfl))) rfl)) ?_
      refine zA (zL 10 rfl rfl hLo rfl rfl (fun b G hb ho => zE rfl rfl rfl HS2.1 rfl (zC hLo 8 rfl HS2.1 rfl (hb 8 (by rfl))) rfl)) ?_
      refine zA (zL 11 rfl rfl hLo rfl rfl (fun b G hb ho => zE rfl rfl rfl HS2.1 rfl (zC hLo 8 rfl HS2.1 rfl (hb 8 (by rfl))) rfl)) ?_
      refine zA (zD 12 _ rfl rfl hLo rfl rfl (fun _ _ _ _ => rfl) (fun b G w hb ho => zJ rfl (zC hLo 8 rfl HS2.1 rfl (hb 8 (by rfl))) (rfl))) ?_
      exact zF
    clear hLo
    intro G a14 w14 hS hH
    have HS14 : Sl a14 69 [(0, .string (cr)), (1, .string (us)), (2, .string (kd)), (3, .bool st), (8, .bool false), (12, .bool false), (25, .bool true)] := hS
    have HH14 : Held w w14 [] := hH
    clear hS hH HS2 HH2
    refine then_ ?_
    refine wp_cond_true (HS14.get 6 rfl) ?_
    refine wp_seq ?_
    have hLo : LOk [(0, 8, .val (.bool true))] := lok (by rfl) (by rfl)
    refine zH (wE := w) (sz := 69) (n := 1) [0] [(0, .val (.string (cr))), (1, .val (.string (us))), (2, .val (.string (kd))), (3, .val (.bool st)), (12, .val (.bool false)), (25, .val (.bool true)), (8, .val (.bool true))] [(0, 8, .val (.bool true))] [] rfl (by rfl) HH14 rfl rfl hLo rfl HS14 (slS 0 rfl rfl (slS 1 rfl rfl (slS 2 rfl rfl (slS 3 rfl rfl (slS 5 rfl rfl (slS 6 rfl rfl (slL 0 (d := 0) rfl (trivial)))))))) ?_ ?_
    · show ∀ i ∈ [0], _
      refine zA (zD 0 _ rfl rfl hLo rfl rfl (fun _ _ _ _ => rfl) (fun b G w hb ho => zB (.inr rfl) (rfl))) ?_
      exact zF
    clear hLo
    intro G a15 w15 hS hH
    have HS15 : Sl a15 69 [(0, .string (cr)), (1, .string (us)), (2, .string (kd)), (3, .bool st), (12, .bool false), (25, .bool true), (8, .bool true)] := hS
    have HH15 : Held w w15 [] := hH
    clear hS hH HS14 HH14
    refine then_ ?_
    refine wp_ret ?_
    repeat (first | refine zS ?_ | refine zN ?_)
    exact b_tmp rfl HS15.2.1 (HS15.get 6 rfl) ⟨law_ret rfl, HH15.1⟩
end Go.Proofs.YtjpiofbedglagaaDoor.P
end
