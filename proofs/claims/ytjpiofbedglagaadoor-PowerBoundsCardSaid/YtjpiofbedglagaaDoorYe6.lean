/- Merged of the texts: Ke, WSized (trim.py). -/
import Derived.SizedLaws
import Derived.ChangeSlices
import Derived.Test.YtjpiofbedglagaaDoorYe5
section
namespace Go.Proofs.YtjpiofbedglagaaDoor.P
set_option linter.unusedVariables false
set_option linter.unusedSimpArgs false
open Go.RowKit Go.ChangeShapes Go.WideShapes Go.Proofs.YtjpiofbedglagaaDoorW.PrintWords Go.Proofs.YtjpiofbedglagaaDoorW.PrintLast Go.Proofs.YtjpiofbedglagaaDoorW.PrintMore
set_option maxHeartbeats 4000000 in
theorem PowerBounds_walk (p q : T) (us ot : ByteArray) (w : World) (hTab : Tab w) (hInp : In w p) (hInq : In w q) (hu : us.size ≤ 140737488351232) (ho : ot.size ≤ 140737488351232) : Calls Tryd.prog 7 #[.agg (FR () 6 ((p).sc)), .agg (FR () 6 ((q).sc)), .string (us), .string (ot)] w fun e w' => e = .returned (.bool true) ∧ Below w.heap.size w w' := by
  refine enter_ 90 Tryd.func7 rfl rfl (fun a0 hS => ?_)
  have HS0 : Sl a0 90 [(0, .agg (FR () 6 ((p).sc))), (1, .agg (FR () 6 ((q).sc))), (2, .string (us)), (3, .string (ot))] := hS
  have HH0 : Held w w [] := Held.first w
  clear hS
  refine wp_seq ?_
  have hLo : LOk [(0, 4, .new 0 (fun g => .pointer (some ⟨g, 0, none⟩))), (1, 5, .new 1 (fun g => .pointer (some ⟨g, 0, none⟩))), (2, 8, .val (.bool false))] := lok (by rfl) (by rfl)
  refine zJ (wE := w) (sz := 90) (n := 3) [0, 1, 3] [(0, .val (.agg (FR () 6 ((p).sc)))), (1, .val (.agg (FR () 6 ((q).sc)))), (2, .val (.string (us))), (3, .val (.string (ot))), (4, .new 0 (fun g => .pointer (some ⟨g, 0, none⟩))), (5, .new 1 (fun g => .pointer (some ⟨g, 0, none⟩))), (8, .val (.bool false))] [(0, 4, .new 0 (fun g => .pointer (some ⟨g, 0, none⟩))), (1, 5, .new 1 (fun g => .pointer (some ⟨g, 0, none⟩))), (2, 8, .val (.bool false))] [⟨0, some 0, none, (), 6, (p).sc, (p).sc, 25⟩, ⟨0, some 1, none, (), 6, (q).sc, (q).sc, 25⟩] rfl (by rfl) HH0 rfl rfl hLo rfl HS0 (slS 0 rfl rfl (slS 1 rfl rfl (slS 2 rfl rfl (slS 3 rfl rfl (slL 0 (d := 0) rfl (slL 1 (d := 1) rfl (slL 2 (d := 2) rfl (trivial)))))))) ?_ ?_
  · show ∀ i ∈ [0, 1, 2], _
    refine zA (zX 0 0 () 6 25 none _ _ rfl rfl (fun _ _ _ _ => rfl) rfl hLo rfl rfl rfl rfl (by rfl) (fun b G w hb ho => exec_box rfl (zG rfl (HS0.get 0 rfl)) (by kernel_rfl))) ?_
    refine zA (zX 1 1 () 6 25 none _ _ rfl rfl (fun _ _ _ _ => rfl) rfl hLo rfl rfl rfl rfl (by rfl) (fun b G w hb ho => exec_box rfl (zG rfl (HS0.get 1 rfl)) (by kernel_rfl))) ?_
    refine zA (zC 2 _ rfl rfl hLo rfl rfl (fun _ _ _ _ => rfl) (fun b G w hb ho => zD (.inr rfl) (rfl))) ?_
    exact zF
  clear hLo
  intro G a1 w1 hS hH
  have HS1 : Sl a1 90 [(0, .agg (FR () 6 ((p).sc))), (1, .agg (FR () 6 ((q).sc))), (2, .string (us)), (3, .string (ot)), (4, .pointer (some ⟨(G 0), 0, none⟩)), (5, .pointer (some ⟨(G 1), 0, none⟩)), (8, .bool false)] := hS
  have HH1 : Held w w1 [⟨(G 0), (), 6, (p).sc, 25⟩, ⟨(G 1), (), 6, (q).sc, 25⟩] := hH
  clear hS hH HS0 HH0
  generalize G 0 = g1_0 at HS1 HH1
  generalize G 1 = g1_1 at HS1 HH1
  refine then_ ?_
  refine wp_seq ?_
  refine wp_seq ?_
  have hLo : LOk [(0, 14, .val (.bool true)), (1, 15, .val (.bool false))] := lok (by rfl) (by rfl)
  refine zJ (wE := w) (sz := 90) (n := 2) [0, 1] [(0, .val (.agg (FR () 6 ((p).sc)))), (1, .val (.agg (FR () 6 ((q).sc)))), (2, .val (.string (us))), (3, .val (.string (ot))), (4, .val (.pointer (some ⟨g1_0, 0, none⟩))), (5, .val (.pointer (some ⟨g1_1, 0, none⟩))), (8, .val (.bool false)), (15, .val (.bool false))] [(0, 14, .val (.bool true)), (1, 15, .val (.bool false))] [⟨g1_0, none, none, (), 6, (p).sc, (p).sc, 25⟩, ⟨g1_1, none, none, (), 6, (q).sc, (q).sc, 25⟩] rfl (by rfl) HH1 rfl rfl hLo rfl HS1 (slS 0 rfl rfl (slS 1 rfl rfl (slS 2 rfl rfl (slS 3 rfl rfl (slS 4 rfl rfl (slS 5 rfl rfl (slS 6 rfl rfl (slL 1 (d := 1) rfl (trivial))))))))) ?_ ?_
  · show ∀ i ∈ [0, 1], _
    refine zA (zV 0 _ #[] rfl rfl rfl (fun _ _ _ _ => rfl) hLo rfl rfl Tryd.func18 rfl rfl (fun b G hb ho => args0 ) (fun w hw => alive_calls _ (hTab.below hw))) ?_
    refine zA (zC 1 _ rfl rfl hLo rfl rfl (fun _ _ _ _ => rfl) (fun b G w hb ho => yG rfl (zB hLo 0 rfl HS1.1 rfl (hb 0 (by rfl))) (ru_not _))) ?_
    exact zF
  clear hLo
  intro G a2 w2 hS hH
  have HS2 : Sl a2 90 [(0, .agg (FR () 6 ((p).sc))), (1, .agg (FR () 6 ((q).sc))), (2, .string (us)), (3, .string (ot)), (4, .pointer (some ⟨g1_0, 0, none⟩)), (5, .pointer (some ⟨g1_1, 0, none⟩)), (8, .bool false), (15, .bool false)] := hS
  have HH2 : Held w w2 [⟨g1_0, (), 6, (p).sc, 25⟩, ⟨g1_1, (), 6, (q).sc, 25⟩] := hH
  clear hS hH HS1 HH1
  refine then_ ?_
  refine wp_cond_false (HS2.get 7 rfl) ?_
  refine wp_skip ?_
  refine then_ ?_
  refine wp_seq ?_
  obtain ⟨r1, hr1⟩ : ∃ r : Bool, (greatB p) = r := ⟨_, rfl⟩
  cases r1
  · skip
    have hR_p := (greatB_not hr1)
    have hS_p := great_small hInp hr1
    obtain ⟨r2, hr2⟩ : ∃ r : Bool, (greatB q) = r := ⟨_, rfl⟩
    cases r2
    · skip
      have hR_q := (greatB_not hr2)
      have hS_q := great_small hInq hr2
      obtain ⟨r3, hr3⟩ : ∃ r : Bool, (decide ((1024 : Int) < ((us).size : Int))) = r := ⟨_, rfl⟩
      cases r3
      · skip
        obtain ⟨r4, hr4⟩ : ∃ r : Bool, (decide ((1024 : Int) < ((ot).size : Int))) = r := ⟨_, rfl⟩
        refine wp_seq ?_
        have hLo : LOk [(0, 16, .val (.agg (FR () 6 ((p).sc)))), (1, 17, .val (.bool false)), (2, 18, .val (.bool false)), (3, 19, .val (.agg (FR () 6 ((q).sc)))), (4, 20, .val (.bool false)), (5, 21, .val (.bool false)), (6, 22, .val (.bool false)), (7, 23, .val (.string (us))), (8, 24, .val (.int .i64 (((us).size : Int)))), (9, 25, .val (.bool false)), (10, 26, .val (.bool false)), (11, 27, .val (.bool false)), (12, 28, .val (.string (ot))), (13, 29, .val (.int .i64 (((ot).size : Int)))), (14, 30, .val (.bool r4)), (15, 31, .val (.bool r4))] := lok (by rfl) (by rfl)
        refine zJ (wE := w) (sz := 90) (n := 16) [0, 1, 3, 7, 15, 31, 63, 127, 255, 511, 1023, 2047, 4095, 8191, 16383, 32767] [(0, .val (.agg (FR () 6 ((p).sc)))), (1, .val (.agg (FR () 6 ((q).sc)))), (2, .val (.string (us))), (3, .val (.string (ot))), (4, .val (.pointer (some ⟨g1_0, 0, none⟩))), (5, .val (.pointer (some ⟨g1_1, 0, none⟩))), (8, .val (.bool false)), (15, .val (.bool false)), (31, .val (.bool r4))] [(0, 16, .val (.agg (FR () 6 ((p).sc)))), (1, 17, .val (.bool false)), (2, 18, .val (.bool false)), (3, 19, .val (.agg (FR () 6 ((q).sc)))), (4, 20, .val (.bool false)), (5, 21, .val (.bool false)), (6, 22, .val (.bool false)), (7, 23, .val (.string (us))), (8, 24, .val (.int .i64 (((us).size : Int)))), (9, 25, .val (.bool false)), (10, 26, .val (.bool false)), (11, 27, .val (.bool false)), (12, 28, .val (.string (ot))), (13, 29, .val (.int .i64 (((ot).size : Int)))), (14, 30, .val (.bool r4)), (15, 31, .val (.bool r4))] [⟨g1_0, none, none, (), 6, (p).sc, (p).sc, 25⟩, ⟨g1_1, none, none, (), 6, (q).sc, (q).sc, 25⟩] rfl (by rfl) HH2 rfl rfl hLo rfl HS2 (slS 0 rfl rfl (slS 1 rfl rfl (slS 2 rfl rfl (slS 3 rfl rfl (slS 4 rfl rfl (slS 5 rfl rfl (slS 6 rfl rfl (slS 7 rfl rfl (slL 15 (d := 15) rfl (trivial)))))))))) ?_ ?_
        · show ∀ i ∈ [0, 1, 2, 3, 4, 5, 6, 7, 8, 9, 10, 11, 12, 13, 14, 15], _
          refine zA (yF 0 0 _ rfl rfl rfl rfl (fun _ _ _ _ => rfl) hLo rfl rfl rfl (by rfl) Tryd.underlying25 (by kernel_rfl) rfl (fun b G hb ho => zG rfl (HS2.get 4 rfl))) ?_
          refine zA (zV 1 _ #[.agg (FR () 6 ((p).sc))] rfl rfl rfl (fun _ _ _ _ => rfl) hLo rfl rfl Tryd.func11 rfl rfl (fun b G hb ho => args1 (zB hLo 0 rfl HS2.1 rfl (hb 0 (by rfl)))) (fun w hw => (by have hq := great_calls (hInp.below hw); rw [hr1] at hq; exact hq))) ?_
          refine zA (zC 2 _ rfl rfl hLo rfl rfl (fun _ _ _ _ => rfl) (fun b G w hb ho => zD (.inl rfl) (zB hLo 1 rfl HS2.1 rfl (hb 1 (by rfl))))) ?_
          refine zA (yF 3 1 _ rfl rfl rfl rfl (fun b G hb ho => zE rfl rfl rfl HS2.1 rfl (zB hLo 2 rfl HS2.1 rfl (hb 2 (by rfl))) rfl) hLo rfl rfl rfl (by rfl) Tryd.underlying25 (by kernel_rfl) rfl (fun b G hb ho => zG rfl (HS2.get 5 rfl))) ?_
          refine zA (zV 4 _ #[.agg (FR () 6 ((q).sc))] rfl rfl rfl (fun b G hb ho => zE rfl rfl rfl HS2.1 rfl (zB hLo 2 rfl HS2.1 rfl (hb 2 (by rfl))) rfl) hLo rfl rfl Tryd.func11 rfl rfl (fun b G hb ho => args1 (zB hLo 3 rfl HS2.1 rfl (hb 3 (by rfl)))) (fun w hw => (by have hq := great_calls (hInq.below hw); rw [hr2] at hq; exact hq))) ?_
          refine zA (zC 5 _ rfl rfl hLo rfl rfl (fun _ _ _ _ => rfl) (fun b G w hb ho => zK rfl (zB hLo 2 rfl HS2.1 rfl (hb 2 (by rfl))) (zB hLo 4 rfl HS2.1 rfl (hb 4 (by rfl))))) ?_
          refine zA (zC 6 _ rfl rfl hLo rfl rfl (fun _ _ _ _ => rfl) (fun b G w hb ho => zD (.inl rfl) (zB hLo 5 rfl HS2.1 rfl (hb 5 (by rfl))))) ?_
          refine zA (zC 7 _ rfl rfl hLo rfl rfl (fun b G hb ho => zE rfl rfl rfl HS2.1 rfl (zB hLo 6 rfl HS2.1 rfl (hb 6 (by rfl))) rfl) (fun b G w hb ho => zD (.inl rfl) (zG rfl (HS2.get 2 rfl)))) ?_
          refine zA (zC 8 _ rfl rfl hLo rfl rfl (fun b G hb ho => zE rfl rfl rfl HS2.1 rfl (zB hLo 6 rfl HS2.1 rfl (hb 6 (by rfl))) rfl) (fun b G w hb ho => exec_lenS Tryd.underlying9 rfl (zB hLo 7 rfl HS2.1 rfl (hb 7 (by rfl))))) ?_
          refine zA (zC 9 _ rfl rfl hLo rfl rfl (fun b G hb ho => zE rfl rfl rfl HS2.1 rfl (zB hLo 6 rfl HS2.1 rfl (hb 6 (by rfl))) rfl) (fun b G w hb ho => zL rfl (zB hLo 8 rfl HS2.1 rfl (hb 8 (by rfl))) (rfl) (rb_gtr hr3 _ _ _))) ?_
          refine zA (zC 10 _ rfl rfl hLo rfl rfl (fun _ _ _ _ => rfl) (fun b G w hb ho => zK rfl (zB hLo 6 rfl HS2.1 rfl (hb 6 (by rfl))) (zB hLo 9 rfl HS2.1 rfl (hb 9 (by rfl))))) ?_
          refine zA (zC 11 _ rfl rfl hLo rfl rfl (fun _ _ _ _ => rfl) (fun b G w hb ho => zD (.inl rfl) (zB hLo 10 rfl HS2.1 rfl (hb 10 (by rfl))))) ?_
          refine zA (zC 12 _ rfl rfl hLo rfl rfl (fun b G hb ho => zE rfl rfl rfl HS2.1 rfl (zB hLo 11 rfl HS2.1 rfl (hb 11 (by rfl))) rfl) (fun b G w hb ho => zD (.inl rfl) (zG rfl (HS2.get 3 rfl)))) ?_
          refine zA (zC 13 _ rfl rfl hLo rfl rfl (fun b G hb ho => zE rfl rfl rfl HS2.1 rfl (zB hLo 11 rfl HS2.1 rfl (hb 11 (by rfl))) rfl) (fun b G w hb ho => exec_lenS Tryd.underlying9 rfl (zB hLo 12 rfl HS2.1 rfl (hb 12 (by rfl))))) ?_
          refine zA (zC 14 _ rfl rfl hLo rfl rfl (fun b G hb ho => zE rfl rfl rfl HS2.1 rfl (zB hLo 11 rfl HS2.1 rfl (hb 11 (by rfl))) rfl) (fun b G w hb ho => zL rfl (zB hLo 13 rfl HS2.1 rfl (hb 13 (by rfl))) (rfl) (rb_gtr hr4 _ _ _))) ?_
          refine zA (zC 15 _ rfl rfl hLo rfl rfl (fun _ _ _ _ => rfl) (fun b G w hb ho => zK rfl (zB hLo 11 rfl HS2.1 rfl (hb 11 (by rfl))) (zB hLo 14 rfl HS2.1 rfl (hb 14 (by rfl))))) ?_
          exact zF
        clear hLo
        intro G a3 w3 hS hH
        have HS3 : Sl a3 90 [(0, .agg (FR () 6 ((p).sc))), (1, .agg (FR () 6 ((q).sc))), (2, .string (us)), (3, .string (ot)), (4, .pointer (some ⟨g1_0, 0, none⟩)), (5, .pointer (some ⟨g1_1, 0, none⟩)), (8, .bool false), (15, .bool false), (31, .bool r4)] := hS
        have HH3 : Held w w3 [⟨g1_0, (), 6, (p).sc, 25⟩, ⟨g1_1, (), 6, (q).sc, 25⟩] := hH
        clear hS hH HS2 HH2
        refine then_ ?_
        cases r4
        · skip
          refine wp_cond_false (HS3.get 8 rfl) ?_
          refine wp_skip ?_
          refine then_ ?_
          refine wp_seq ?_
          have hLo : LOk [(0, 32, .val (.agg (FR () 6 ((p).sc)))), (1, 33, .val (.string (us))), (2, 34, .val (.int .i64 (yC p ByteArray.empty us))), (3, 9, .val (.int .i64 (yC p ByteArray.empty us)))] := lok (by rfl) (by rfl)
          refine zJ (wE := w) (sz := 90) (n := 4) [0, 1, 3, 7] [(0, .val (.agg (FR () 6 ((p).sc)))), (1, .val (.agg (FR () 6 ((q).sc)))), (2, .val (.string (us))), (3, .val (.string (ot))), (4, .val (.pointer (some ⟨g1_0, 0, none⟩))), (5, .val (.pointer (some ⟨g1_1, 0, none⟩))), (8, .val (.bool false)), (15, .val (.bool false)), (31, .val (.bool false)), (9, .val (.int .i64 (yC p ByteArray.empty us)))] [(0, 32, .val (.agg (FR () 6 ((p).sc)))), (1, 33, .val (.string (us))), (2, 34, .val (.int .i64 (yC p ByteArray.empty us))), (3, 9, .val (.int .i64 (yC p ByteArray.empty us)))] [⟨g1_0, none, none, (), 6, (p).sc, (p).sc, 25⟩, ⟨g1_1, none, none, (), 6, (q).sc, (q).sc, 25⟩] rfl (by rfl) HH3 rfl rfl hLo rfl HS3 (slS 0 rfl rfl (slS 1 rfl rfl (slS 2 rfl rfl (slS 3 rfl rfl (slS 4 rfl rfl (slS 5 rfl rfl (slS 6 rfl rfl (slS 7 rfl rfl (slS 8 rfl rfl (slL 3 (d := 3) rfl (trivial))))))))))) ?_ ?_
          · show ∀ i ∈ [0, 1, 2, 3], _
            refine zA (yF 0 0 _ rfl rfl rfl rfl (fun _ _ _ _ => rfl) hLo rfl rfl rfl (by rfl) Tryd.underlying25 (by kernel_rfl) rfl (fun b G hb ho => zG rfl (HS3.get 4 rfl))) ?_
            refine zA (zC 1 _ rfl rfl hLo rfl rfl (fun _ _ _ _ => rfl) (fun b G w hb ho => zD (.inl rfl) (zG rfl (HS3.get 2 rfl)))) ?_
            refine zA (zV 2 _ #[.agg (FR () 6 ((p).sc)), .string (ByteArray.empty), .string (us)] rfl rfl rfl (fun _ _ _ _ => rfl) hLo rfl rfl Tryd.func13 rfl rfl (fun b G hb ho => args3 (zB hLo 0 rfl HS3.1 rfl (hb 0 (by rfl))) (rfl) (zB hLo 1 rfl HS3.1 rfl (hb 1 (by rfl)))) (fun w hw => user_calls (t := p) ByteArray.empty us (hInp.below hw) hR_p (hTab.below hw))) ?_
            refine zA (zC 3 _ rfl rfl hLo rfl rfl (fun _ _ _ _ => rfl) (fun b G w hb ho => zD (.inr rfl) (zB hLo 2 rfl HS3.1 rfl (hb 2 (by rfl))))) ?_
            exact zF
          clear hLo
          intro G a4 w4 hS hH
          have HS4 : Sl a4 90 [(0, .agg (FR () 6 ((p).sc))), (1, .agg (FR () 6 ((q).sc))), (2, .string (us)), (3, .string (ot)), (4, .pointer (some ⟨g1_0, 0, none⟩)), (5, .pointer (some ⟨g1_1, 0, none⟩)), (8, .bool false), (15, .bool false), (31, .bool false), (9, .int .i64 (yC p ByteArray.empty us))] := hS
          have HH4 : Held w w4 [⟨g1_0, (), 6, (p).sc, 25⟩, ⟨g1_1, (), 6, (q).sc, 25⟩] := hH
          clear hS hH HS3 HH3
          refine then_ ?_
          refine wp_seq ?_
          obtain ⟨r5, hr5⟩ : ∃ r : Bool, (chgB p q us (yC p ByteArray.empty us)) = r := ⟨_, rfl⟩
          refine wp_seq ?_
          have hLo : LOk [(0, 35, .val (.agg (FR () 6 ((p).sc)))), (1, 36, .val (.agg (FR () 6 ((q).sc)))), (2, 37, .val (.string (us))), (3, 38, .val (.int .i64 (yC p ByteArray.empty us))), (4, 39, .val (.bool r5)), (5, 40, .val (.bool (!r5)))] := lok (by rfl) (by rfl)
          refine zJ (wE := w) (sz := 90) (n := 6) [0, 1, 3, 7, 15, 31] [(0, .val (.agg (FR () 6 ((p).sc)))), (1, .val (.agg (FR () 6 ((q).sc)))), (2, .val (.string (us))), (3, .val (.string (ot))), (4, .val (.pointer (some ⟨g1_0, 0, none⟩))), (5, .val (.pointer (some ⟨g1_1, 0, none⟩))), (8, .val (.bool false)), (15, .val (.bool false)), (31, .val (.bool false)), (9, .val (.int .i64 (yC p ByteArray.empty us))), (40, .val (.bool (!r5)))] [(0, 35, .val (.agg (FR () 6 ((p).sc)))), (1, 36, .val (.agg (FR () 6 ((q).sc)))), (2, 37, .val (.string (us))), (3, 38, .val (.int .i64 (yC p ByteArray.empty us))), (4, 39, .val (.bool r5)), (5, 40, .val (.bool (!r5)))] [⟨g1_0, none, none, (), 6, (p).sc, (p).sc, 25⟩, ⟨g1_1, none, none, (), 6, (q).sc, (q).sc, 25⟩] rfl (by rfl) HH4 rfl rfl hLo rfl HS4 (slS 0 rfl rfl (slS 1 rfl rfl (slS 2 rfl rfl (slS 3 rfl rfl (slS 4 rfl rfl (slS 5 rfl rfl (slS 6 rfl rfl (slS 7 rfl rfl (slS 8 rfl rfl (slS 9 rfl rfl (slL 5 (d := 5) rfl (trivial)))))))))))) ?_ ?_
          · show ∀ i ∈ [0, 1, 2, 3, 4, 5], _
            refine zA (yF 0 0 _ rfl rfl rfl rfl (fun _ _ _ _ => rfl) hLo rfl rfl rfl (by rfl) Tryd.underlying25 (by kernel_rfl) rfl (fun b G hb ho => zG rfl (HS4.get 4 rfl))) ?_
            refine zA (yF 1 1 _ rfl rfl rfl rfl (fun _ _ _ _ => rfl) hLo rfl rfl rfl (by rfl) Tryd.underlying25 (by kernel_rfl) rfl (fun b G hb ho => zG rfl (HS4.get 5 rfl))) ?_
            refine zA (zC 2 _ rfl rfl hLo rfl rfl (fun _ _ _ _ => rfl) (fun b G w hb ho => zD (.inl rfl) (zG rfl (HS4.get 2 rfl)))) ?_
            refine zA (zC 3 _ rfl rfl hLo rfl rfl (fun _ _ _ _ => rfl) (fun b G w hb ho => zD (.inl rfl) (zG rfl (HS4.get 9 rfl)))) ?_
            refine zA (zV 4 _ #[.agg (FR () 6 ((p).sc)), .agg (FR () 6 ((q).sc)), .string (us), .int .i64 (yC p ByteArray.empty us)] rfl rfl rfl (fun _ _ _ _ => rfl) hLo rfl rfl Tryd.func19 rfl rfl (fun b G hb ho => args4 (zB hLo 0 rfl HS4.1 rfl (hb 0 (by rfl))) (zB hLo 1 rfl HS4.1 rfl (hb 1 (by rfl))) (zB hLo 2 rfl HS4.1 rfl (hb 2 (by rfl))) (zB hLo 3 rfl HS4.1 rfl (hb 3 (by rfl)))) (fun w hw => (by have hq := change_calls (p := p) (q := q) us (yC p ByteArray.empty us) (hInp.below hw) (hInq.below hw) hR_p hR_q (tbl_small hS_p) (tbl_small hS_q) (hTab.below hw); rw [hr5] at hq; exact hq))) ?_
            refine zA (zC 5 _ rfl rfl hLo rfl rfl (fun _ _ _ _ => rfl) (fun b G w hb ho => yG rfl (zB hLo 4 rfl HS4.1 rfl (hb 4 (by rfl))) (ru_not _))) ?_
            exact zF
          clear hLo
          intro G a5 w5 hS hH
          have HS5 : Sl a5 90 [(0, .agg (FR () 6 ((p).sc))), (1, .agg (FR () 6 ((q).sc))), (2, .string (us)), (3, .string (ot)), (4, .pointer (some ⟨g1_0, 0, none⟩)), (5, .pointer (some ⟨g1_1, 0, none⟩)), (8, .bool false), (15, .bool false), (31, .bool false), (9, .int .i64 (yC p ByteArray.empty us)), (40, .bool (!r5))] := hS
          have HH5 : Held w w5 [⟨g1_0, (), 6, (p).sc, 25⟩, ⟨g1_1, (), 6, (q).sc, 25⟩] := hH
          clear hS hH HS4 HH4
          refine then_ ?_
          cases r5
          · skip
            refine wp_cond_true (HS5.get 10 rfl) ?_
            refine wp_seq ?_
            have hLo : LOk [(0, 8, .val (.bool true))] := lok (by rfl) (by rfl)
            refine zJ (wE := w) (sz := 90) (n := 1) [0] [(0, .val (.agg (FR () 6 ((p).sc)))), (1, .val (.agg (FR () 6 ((q).sc)))), (2, .val (.string (us))), (3, .val (.string (ot))), (4, .val (.pointer (some ⟨g1_0, 0, none⟩))), (5, .val (.pointer (some ⟨g1_1, 0, none⟩))), (15, .val (.bool false)), (31, .val (.bool false)), (9, .val (.int .i64 (yC p ByteArray.empty us))), (40, .val (.bool true)), (8, .val (.bool true))] [(0, 8, .val (.bool true))] [⟨g1_0, none, none, (), 6, (p).sc, (p).sc, 25⟩, ⟨g1_1, none, none, (), 6, (q).sc, (q).sc, 25⟩] rfl (by rfl) HH5 rfl rfl hLo rfl HS5 (slS 0 rfl rfl (slS 1 rfl rfl (slS 2 rfl rfl (slS 3 rfl rfl (slS 4 rfl rfl (slS 5 rfl rfl (slS 7 rfl rfl (slS 8 rfl rfl (slS 9 rfl rfl (slS 10 rfl rfl (slL 0 (d := 0) rfl (trivial)))))))))))) ?_ ?_
            · show ∀ i ∈ [0], _
              refine zA (zC 0 _ rfl rfl hLo rfl rfl (fun _ _ _ _ => rfl) (fun b G w hb ho => zD (.inr rfl) (rfl))) ?_
              exact zF
            clear hLo
            intro G a6 w6 hS hH
            have HS6 : Sl a6 90 [(0, .agg (FR () 6 ((p).sc))), (1, .agg (FR () 6 ((q).sc))), (2, .string (us)), (3, .string (ot)), (4, .pointer (some ⟨g1_0, 0, none⟩)), (5, .pointer (some ⟨g1_1, 0, none⟩)), (15, .bool false), (31, .bool false), (9, .int .i64 (yC p ByteArray.empty us)), (40, .bool true), (8, .bool true)] := hS
            have HH6 : Held w w6 [⟨g1_0, (), 6, (p).sc, 25⟩, ⟨g1_1, (), 6, (q).sc, 25⟩] := hH
            clear hS hH HS5 HH5
            refine then_ ?_
            refine wp_ret ?_
            repeat (first | refine zQ ?_ | refine zN ?_)
            exact yH rfl HS6.2.1 (HS6.get 10 rfl) ⟨law_ret rfl, HH6.1⟩
          · skip
            refine wp_cond_false (HS5.get 10 rfl) ?_
            refine wp_skip ?_
            refine then_ ?_
            obtain ⟨r6, hr6⟩ : ∃ r : Bool, (((p.tab zI).tell0 ot).2) = r := ⟨_, rfl⟩
            refine wp_seq ?_
            have hLo : LOk [(0, 42, .val (.agg (FR () 6 ((p).sc)))), (1, 43, .val (.agg (FR () 6 ((p.tab zI).sc)))), (2, 44, .val (.string (ot))), (3, 45, .val (.tuple #[.int .i64 (((p.tab zI).tell0 ot).1), .bool r6])), (4, 41, .val (.tuple #[.int .i64 (((p.tab zI).tell0 ot).1), .bool r6])), (5, 46, .val (.int .i64 (((p.tab zI).tell0 ot).1))), (6, 47, .val (.bool r6)), (7, 10, .val (.int .i64 (((p.tab zI).tell0 ot).1))), (8, 11, .val (.bool r6))] := lok (by rfl) (by rfl)
            refine zJ (wE := w) (sz := 90) (n := 9) [0, 1, 3, 7, 15, 31, 63, 127, 255] [(0, .val (.agg (FR () 6 ((p).sc)))), (1, .val (.agg (FR () 6 ((q).sc)))), (2, .val (.string (us))), (3, .val (.string (ot))), (4, .val (.pointer (some ⟨g1_0, 0, none⟩))), (5, .val (.pointer (some ⟨g1_1, 0, none⟩))), (8, .val (.bool false)), (15, .val (.bool false)), (31, .val (.bool false)), (9, .val (.int .i64 (yC p ByteArray.empty us))), (40, .val (.bool false)), (10, .val (.int .i64 (((p.tab zI).tell0 ot).1))), (11, .val (.bool r6))] [(0, 42, .val (.agg (FR () 6 ((p).sc)))), (1, 43, .val (.agg (FR () 6 ((p.tab zI).sc)))), (2, 44, .val (.string (ot))), (3, 45, .val (.tuple #[.int .i64 (((p.tab zI).tell0 ot).1), .bool r6])), (4, 41, .val (.tuple #[.int .i64 (((p.tab zI).tell0 ot).1), .bool r6])), (5, 46, .val (.int .i64 (((p.tab zI).tell0 ot).1))), (6, 47, .val (.bool r6)), (7, 10, .val (.int .i64 (((p.tab zI).tell0 ot).1))), (8, 11, .val (.bool r6))] [⟨g1_0, none, none, (), 6, (p).sc, (p).sc, 25⟩, ⟨g1_1, none, none, (), 6, (q).sc, (q).sc, 25⟩] rfl (by rfl) HH5 rfl rfl hLo rfl HS5 (slS 0 rfl rfl (slS 1 rfl rfl (slS 2 rfl rfl (slS 3 rfl rfl (slS 4 rfl rfl (slS 5 rfl rfl (slS 6 rfl rfl (slS 7 rfl rfl (slS 8 rfl rfl (slS 9 rfl rfl (slS 10 rfl rfl (slL 7 (d := 7) rfl (slL 8 (d := 8) rfl (trivial)))))))))))))) ?_ ?_
            · show ∀ i ∈ [0, 1, 2, 3, 4, 5, 6, 7, 8], _
              refine zA (yF 0 0 _ rfl rfl rfl rfl (fun _ _ _ _ => rfl) hLo rfl rfl rfl (by rfl) Tryd.underlying25 (by kernel_rfl) rfl (fun b G hb ho => zG rfl (HS5.get 4 rfl))) ?_
              refine zA (zV 1 _ #[.agg (FR () 6 ((p).sc)), .string (zI)] rfl rfl rfl (fun _ _ _ _ => rfl) hLo rfl rfl Tryd.func22 rfl rfl (fun b G hb ho => args2 (zB hLo 0 rfl HS5.1 rfl (hb 0 (by rfl))) (rfl)) (fun w hw => table_calls (t := p) zI (hInp.below hw))) ?_
              refine zA (zC 2 _ rfl rfl hLo rfl rfl (fun _ _ _ _ => rfl) (fun b G w hb ho => zD (.inl rfl) (zG rfl (HS5.get 3 rfl)))) ?_
              refine zA (zV 3 _ #[.agg (FR () 6 ((p.tab zI).sc)), .string (ot)] rfl rfl rfl (fun _ _ _ _ => rfl) hLo rfl rfl Tryd.func21 rfl rfl (fun b G hb ho => args2 (zB hLo 1 rfl HS5.1 rfl (hb 1 (by rfl))) (zB hLo 2 rfl HS5.1 rfl (hb 2 (by rfl)))) (fun w hw => (by have hq := told_calls (t := p.tab zI) ot (hInp.tab.below hw); rw [hr6] at hq; exact hq))) ?_
              refine zA (zC 4 _ rfl rfl hLo rfl rfl (fun _ _ _ _ => rfl) (fun b G w hb ho => zD (.inl rfl) (zB hLo 3 rfl HS5.1 rfl (hb 3 (by rfl))))) ?_
              refine zA (zC 5 _ rfl rfl hLo rfl rfl (fun _ _ _ _ => rfl) (fun b G w hb ho => zS rfl (zB hLo 4 rfl HS5.1 rfl (hb 4 (by rfl))) (by rfl))) ?_
              refine zA (zC 6 _ rfl rfl hLo rfl rfl (fun _ _ _ _ => rfl) (fun b G w hb ho => zS rfl (zB hLo 4 rfl HS5.1 rfl (hb 4 (by rfl))) (by rfl))) ?_
              refine zA (zC 7 _ rfl rfl hLo rfl rfl (fun _ _ _ _ => rfl) (fun b G w hb ho => zD (.inr rfl) (zB hLo 5 rfl HS5.1 rfl (hb 5 (by rfl))))) ?_
              refine zA (zC 8 _ rfl rfl hLo rfl rfl (fun _ _ _ _ => rfl) (fun b G w hb ho => zD (.inr rfl) (zB hLo 6 rfl HS5.1 rfl (hb 6 (by rfl))))) ?_
              exact zF
            clear hLo
            intro G a7 w7 hS hH
            have HS7 : Sl a7 90 [(0, .agg (FR () 6 ((p).sc))), (1, .agg (FR () 6 ((q).sc))), (2, .string (us)), (3, .string (ot)), (4, .pointer (some ⟨g1_0, 0, none⟩)), (5, .pointer (some ⟨g1_1, 0, none⟩)), (8, .bool false), (15, .bool false), (31, .bool false), (9, .int .i64 (yC p ByteArray.empty us)), (40, .bool false), (10, .int .i64 (((p.tab zI).tell0 ot).1)), (11, .bool r6)] := hS
            have HH7 : Held w w7 [⟨g1_0, (), 6, (p).sc, 25⟩, ⟨g1_1, (), 6, (q).sc, 25⟩] := hH
            clear hS hH HS5 HH5
            refine then_ ?_
            obtain ⟨r7, hr7⟩ : ∃ r : Bool, (((q.tab zI).tell0 ot).2) = r := ⟨_, rfl⟩
            refine wp_seq ?_
            have hLo : LOk [(0, 49, .val (.agg (FR () 6 ((q).sc)))), (1, 50, .val (.agg (FR () 6 ((q.tab zI).sc)))), (2, 51, .val (.string (ot))), (3, 52, .val (.tuple #[.int .i64 (((q.tab zI).tell0 ot).1), .bool r7])), (4, 48, .val (.tuple #[.int .i64 (((q.tab zI).tell0 ot).1), .bool r7])), (5, 53, .val (.int .i64 (((q.tab zI).tell0 ot).1))), (6, 54, .val (.bool r7)), (7, 12, .val (.int .i64 (((q.tab zI).tell0 ot).1))), (8, 13, .val (.bool r7))] := lok (by rfl) (by rfl)
            refine zJ (wE := w) (sz := 90) (n := 9) [0, 1, 3, 7, 15, 31, 63, 127, 255] [(0, .val (.agg (FR () 6 ((p).sc)))), (1, .val (.agg (FR () 6 ((q).sc)))), (2, .val (.string (us))), (3, .val (.string (ot))), (4, .val (.pointer (some ⟨g1_0, 0, none⟩))), (5, .val (.pointer (some ⟨g1_1, 0, none⟩))), (8, .val (.bool false)), (15, .val (.bool false)), (31, .val (.bool false)), (9, .val (.int .i64 (yC p ByteArray.empty us))), (40, .val (.bool false)), (10, .val (.int .i64 (((p.tab zI).tell0 ot).1))), (11, .val (.bool r6)), (12, .val (.int .i64 (((q.tab zI).tell0 ot).1))), (13, .val (.bool r7))] [(0, 49, .val (.agg (FR () 6 ((q).sc)))), (1, 50, .val (.agg (FR () 6 ((q.tab zI).sc)))), (2, 51, .val (.string (ot))), (3, 52, .val (.tuple #[.int .i64 (((q.tab zI).tell0 ot).1), .bool r7])), (4, 48, .val (.tuple #[.int .i64 (((q.tab zI).tell0 ot).1), .bool r7])), (5, 53, .val (.int .i64 (((q.tab zI).tell0 ot).1))), (6, 54, .val (.bool r7)), (7, 12, .val (.int .i64 (((q.tab zI).tell0 ot).1))), (8, 13, .val (.bool r7))] [⟨g1_0, none, none, (), 6, (p).sc, (p).sc, 25⟩, ⟨g1_1, none, none, (), 6, (q).sc, (q).sc, 25⟩] rfl (by rfl) HH7 rfl rfl hLo rfl HS7 (slS 0 rfl rfl (slS 1 rfl rfl (slS 2 rfl rfl (slS 3 rfl rfl (slS 4 rfl rfl (slS 5 rfl rfl (slS 6 rfl rfl (slS 7 rfl rfl (slS 8 rfl rfl (slS 9 rfl rfl (slS 10 rfl rfl (slS 11 rfl rfl (slS 12 rfl rfl (slL 7 (d := 7) rfl (slL 8 (d := 8) rfl (trivial)))))))))))))))) ?_ ?_
            · show ∀ i ∈ [0, 1, 2, 3, 4, 5, 6, 7, 8], _
              refine zA (yF 0 1 _ rfl rfl rfl rfl (fun _ _ _ _ => rfl) hLo rfl rfl rfl (by rfl) Tryd.underlying25 (by kernel_rfl) rfl (fun b G hb ho => zG rfl (HS7.get 5 rfl))) ?_
              refine zA (zV 1 _ #[.agg (FR () 6 ((q).sc)), .string (zI)] rfl rfl rfl (fun _ _ _ _ => rfl) hLo rfl rfl Tryd.func22 rfl rfl (fun b G hb ho => args2 (zB hLo 0 rfl HS7.1 rfl (hb 0 (by rfl))) (rfl)) (fun w hw => table_calls (t := q) zI (hInq.below hw))) ?_
              refine zA (zC 2 _ rfl rfl hLo rfl rfl (fun _ _ _ _ => rfl) (fun b G w hb ho => zD (.inl rfl) (zG rfl (HS7.get 3 rfl)))) ?_
              refine zA (zV 3 _ #[.agg (FR () 6 ((q.tab zI).sc)), .string (ot)] rfl rfl rfl (fun _ _ _ _ => rfl) hLo rfl rfl Tryd.func21 rfl rfl (fun b G hb ho => args2 (zB hLo 1 rfl HS7.1 rfl (hb 1 (by rfl))) (zB hLo 2 rfl HS7.1 rfl (hb 2 (by rfl)))) (fun w hw => (by have hq := told_calls (t := q.tab zI) ot (hInq.tab.below hw); rw [hr7] at hq; exact hq))) ?_
              refine zA (zC 4 _ rfl rfl hLo rfl rfl (fun _ _ _ _ => rfl) (fun b G w hb ho => zD (.inl rfl) (zB hLo 3 rfl HS7.1 rfl (hb 3 (by rfl))))) ?_
              refine zA (zC 5 _ rfl rfl hLo rfl rfl (fun _ _ _ _ => rfl) (fun b G w hb ho => zS rfl (zB hLo 4 rfl HS7.1 rfl (hb 4 (by rfl))) (by rfl))) ?_
              refine zA (zC 6 _ rfl rfl hLo rfl rfl (fun _ _ _ _ => rfl) (fun b G w hb ho => zS rfl (zB hLo 4 rfl HS7.1 rfl (hb 4 (by rfl))) (by rfl))) ?_
              refine zA (zC 7 _ rfl rfl hLo rfl rfl (fun _ _ _ _ => rfl) (fun b G w hb ho => zD (.inr rfl) (zB hLo 5 rfl HS7.1 rfl (hb 5 (by rfl))))) ?_
              refine zA (zC 8 _ rfl rfl hLo rfl rfl (fun _ _ _ _ => rfl) (fun b G w hb ho => zD (.inr rfl) (zB hLo 6 rfl HS7.1 rfl (hb 6 (by rfl))))) ?_
              exact zF
            clear hLo
            intro G a8 w8 hS hH
            have HS8 : Sl a8 90 [(0, .agg (FR () 6 ((p).sc))), (1, .agg (FR () 6 ((q).sc))), (2, .string (us)), (3, .string (ot)), (4, .pointer (some ⟨g1_0, 0, none⟩)), (5, .pointer (some ⟨g1_1, 0, none⟩)), (8, .bool false), (15, .bool false), (31, .bool false), (9, .int .i64 (yC p ByteArray.empty us)), (40, .bool false), (10, .int .i64 (((p.tab zI).tell0 ot).1)), (11, .bool r6), (12, .int .i64 (((q.tab zI).tell0 ot).1)), (13, .bool r7)] := hS
            have HH8 : Held w w8 [⟨g1_0, (), 6, (p).sc, 25⟩, ⟨g1_1, (), 6, (q).sc, 25⟩] := hH
            clear hS hH HS7 HH7
            refine then_ ?_
            refine wp_seq ?_
            cases r7
            · skip
              refine wp_seq ?_
              have hLo : LOk [(0, 55, .val (.bool false)), (1, 56, .val (.bool false)), (2, 57, .val (undef)), (3, 58, .val (undef)), (4, 59, .val (undef)), (5, 60, .val (.bool false)), (6, 61, .val (.bool false)), (7, 62, .val (undef)), (8, 63, .val (undef)), (9, 64, .val (undef)), (10, 65, .val (undef)), (11, 66, .val (undef)), (12, 67, .val (undef)), (13, 68, .val (undef)), (14, 69, .val (.bool false))] := lok (by rfl) (by rfl)
              refine zJ (wE := w) (sz := 90) (n := 15) [0, 1, 3, 7, 15, 31, 63, 127, 255, 511, 1023, 2047, 4095, 8191, 16383] [(0, .val (.agg (FR () 6 ((p).sc)))), (1, .val (.agg (FR () 6 ((q).sc)))), (2, .val (.string (us))), (3, .val (.string (ot))), (4, .val (.pointer (some ⟨g1_0, 0, none⟩))), (5, .val (.pointer (some ⟨g1_1, 0, none⟩))), (8, .val (.bool false)), (15, .val (.bool false)), (31, .val (.bool false)), (9, .val (.int .i64 (yC p ByteArray.empty us))), (40, .val (.bool false)), (10, .val (.int .i64 (((p.tab zI).tell0 ot).1))), (11, .val (.bool r6)), (12, .val (.int .i64 (((q.tab zI).tell0 ot).1))), (13, .val (.bool false)), (69, .val (.bool false))] [(0, 55, .val (.bool false)), (1, 56, .val (.bool false)), (2, 57, .val (undef)), (3, 58, .val (undef)), (4, 59, .val (undef)), (5, 60, .val (.bool false)), (6, 61, .val (.bool false)), (7, 62, .val (undef)), (8, 63, .val (undef)), (9, 64, .val (undef)), (10, 65, .val (undef)), (11, 66, .val (undef)), (12, 67, .val (undef)), (13, 68, .val (undef)), (14, 69, .val (.bool false))] [⟨g1_0, none, none, (), 6, (p).sc, (p).sc, 25⟩, ⟨g1_1, none, none, (), 6, (q).sc, (q).sc, 25⟩] rfl (by rfl) HH8 rfl rfl hLo rfl HS8 (slS 0 rfl rfl (slS 1 rfl rfl (slS 2 rfl rfl (slS 3 rfl rfl (slS 4 rfl rfl (slS 5 rfl rfl (slS 6 rfl rfl (slS 7 rfl rfl (slS 8 rfl rfl (slS 9 rfl rfl (slS 10 rfl rfl (slS 11 rfl rfl (slS 12 rfl rfl (slS 13 rfl rfl (slS 14 rfl rfl (slL 14 (d := 14) rfl (trivial))))))))))))))))) ?_ ?_
              · show ∀ i ∈ [0, 1, 2, 3, 4, 5, 6, 7, 8, 9, 10, 11, 12, 13, 14], _
                refine zA (zC 0 _ rfl rfl hLo rfl rfl (fun _ _ _ _ => rfl) (fun b G w hb ho => zD (.inl rfl) (zG rfl (HS8.get 14 rfl)))) ?_
                refine zA (zC 1 _ rfl rfl hLo rfl rfl (fun _ _ _ _ => rfl) (fun b G w hb ho => zD (.inl rfl) (zB hLo 0 rfl HS8.1 rfl (hb 0 (by rfl))))) ?_
                refine zA (zH 2 rfl rfl hLo rfl rfl (fun b G hb ho => zE rfl rfl rfl HS8.1 rfl (zB hLo 1 rfl HS8.1 rfl (hb 1 (by rfl))) rfl)) ?_
                refine zA (zH 3 rfl rfl hLo rfl rfl (fun b G hb ho => zE rfl rfl rfl HS8.1 rfl (zB hLo 1 rfl HS8.1 rfl (hb 1 (by rfl))) rfl)) ?_
                refine zA (zH 4 rfl rfl hLo rfl rfl (fun b G hb ho => zE rfl rfl rfl HS8.1 rfl (zB hLo 1 rfl HS8.1 rfl (hb 1 (by rfl))) rfl)) ?_
                refine zA (zC 5 _ rfl rfl hLo rfl rfl (fun _ _ _ _ => rfl) (fun b G w hb ho => zK rfl (zB hLo 1 rfl HS8.1 rfl (hb 1 (by rfl))) (rfl))) ?_
                refine zA (zC 6 _ rfl rfl hLo rfl rfl (fun _ _ _ _ => rfl) (fun b G w hb ho => zD (.inl rfl) (zB hLo 5 rfl HS8.1 rfl (hb 5 (by rfl))))) ?_
                refine zA (zH 7 rfl rfl hLo rfl rfl (fun b G hb ho => zE rfl rfl rfl HS8.1 rfl (zB hLo 6 rfl HS8.1 rfl (hb 6 (by rfl))) rfl)) ?_
                refine zA (zH 8 rfl rfl hLo rfl rfl (fun b G hb ho => zE rfl rfl rfl HS8.1 rfl (zB hLo 6 rfl HS8.1 rfl (hb 6 (by rfl))) rfl)) ?_
                refine zA (zH 9 rfl rfl hLo rfl rfl (fun b G hb ho => zE rfl rfl rfl HS8.1 rfl (zB hLo 6 rfl HS8.1 rfl (hb 6 (by rfl))) rfl)) ?_
                refine zA (zH 10 rfl rfl hLo rfl rfl (fun b G hb ho => zZ rfl rfl rfl HS8.1 rfl (zB hLo 9 rfl HS8.1 rfl (hb 9 (by rfl))))) ?_
                refine zA (zH 11 rfl rfl hLo rfl rfl (fun b G hb ho => zZ rfl rfl rfl HS8.1 rfl (zB hLo 9 rfl HS8.1 rfl (hb 9 (by rfl))))) ?_
                refine zA (zH 12 rfl rfl hLo rfl rfl (fun b G hb ho => zZ rfl rfl rfl HS8.1 rfl (zB hLo 9 rfl HS8.1 rfl (hb 9 (by rfl))))) ?_
                refine zA (zH 13 rfl rfl hLo rfl rfl (fun b G hb ho => zE rfl rfl rfl HS8.1 rfl (zB hLo 6 rfl HS8.1 rfl (hb 6 (by rfl))) rfl)) ?_
                refine zA (zC 14 _ rfl rfl hLo rfl rfl (fun _ _ _ _ => rfl) (fun b G w hb ho => zK rfl (zB hLo 6 rfl HS8.1 rfl (hb 6 (by rfl))) (rfl))) ?_
                exact zF
              clear hLo
              intro G a9 w9 hS hH
              have HS9 : Sl a9 90 [(0, .agg (FR () 6 ((p).sc))), (1, .agg (FR () 6 ((q).sc))), (2, .string (us)), (3, .string (ot)), (4, .pointer (some ⟨g1_0, 0, none⟩)), (5, .pointer (some ⟨g1_1, 0, none⟩)), (8, .bool false), (15, .bool false), (31, .bool false), (9, .int .i64 (yC p ByteArray.empty us)), (40, .bool false), (10, .int .i64 (((p.tab zI).tell0 ot).1)), (11, .bool r6), (12, .int .i64 (((q.tab zI).tell0 ot).1)), (13, .bool false), (69, .bool false)] := hS
              have HH9 : Held w w9 [⟨g1_0, (), 6, (p).sc, 25⟩, ⟨g1_1, (), 6, (q).sc, 25⟩] := hH
              clear hS hH HS8 HH8
              refine then_ ?_
              refine wp_cond_false (HS9.get 15 rfl) ?_
              refine wp_skip ?_
              refine then_ ?_
              obtain ⟨r8, hr8⟩ : ∃ r : Bool, (decide ((ot : ByteArray) = us)) = r := ⟨_, rfl⟩
              cases r8
              · skip
                cases r6
                · skip
                  refine wp_seq ?_
                  have hLo : LOk [(0, 70, .val (.string (ot))), (1, 71, .val (.string (us))), (2, 72, .val (.bool false)), (3, 73, .val (.bool false)), (4, 74, .val (.bool false)), (5, 75, .val (.bool true)), (6, 76, .val (.bool true)), (7, 77, .val (.bool true)), (8, 78, .val (undef)), (9, 79, .val (undef)), (10, 80, .val (undef)), (11, 81, .val (.bool true)), (12, 82, .val (.bool true)), (13, 83, .val (undef)), (14, 84, .val (undef)), (15, 85, .val (undef)), (16, 86, .val (undef)), (17, 87, .val (undef)), (18, 88, .val (undef)), (19, 89, .val (.bool true)), (20, 8, .val (.bool true))] := lok (by rfl) (by rfl)
                  refine zJ (wE := w) (sz := 90) (n := 21) [0, 1, 3, 7, 15, 31, 63, 127, 255, 511, 1023, 2047, 4095, 8191, 16383, 32767, 65535, 131071, 262143, 524287, 1048575] [(0, .val (.agg (FR () 6 ((p).sc)))), (1, .val (.agg (FR () 6 ((q).sc)))), (2, .val (.string (us))), (3, .val (.string (ot))), (4, .val (.pointer (some ⟨g1_0, 0, none⟩))), (5, .val (.pointer (some ⟨g1_1, 0, none⟩))), (15, .val (.bool false)), (31, .val (.bool false)), (9, .val (.int .i64 (yC p ByteArray.empty us))), (40, .val (.bool false)), (10, .val (.int .i64 (((p.tab zI).tell0 ot).1))), (11, .val (.bool false)), (12, .val (.int .i64 (((q.tab zI).tell0 ot).1))), (13, .val (.bool false)), (69, .val (.bool false)), (8, .val (.bool true))] [(0, 70, .val (.string (ot))), (1, 71, .val (.string (us))), (2, 72, .val (.bool false)), (3, 73, .val (.bool false)), (4, 74, .val (.bool false)), (5, 75, .val (.bool true)), (6, 76, .val (.bool true)), (7, 77, .val (.bool true)), (8, 78, .val (undef)), (9, 79, .val (undef)), (10, 80, .val (undef)), (11, 81, .val (.bool true)), (12, 82, .val (.bool true)), (13, 83, .val (undef)), (14, 84, .val (undef)), (15, 85, .val (undef)), (16, 86, .val (undef)), (17, 87, .val (undef)), (18, 88, .val (undef)), (19, 89, .val (.bool true)), (20, 8, .val (.bool true))] [⟨g1_0, none, none, (), 6, (p).sc, (p).sc, 25⟩, ⟨g1_1, none, none, (), 6, (q).sc, (q).sc, 25⟩] rfl (by rfl) HH9 rfl rfl hLo rfl HS9 (slS 0 rfl rfl (slS 1 rfl rfl (slS 2 rfl rfl (slS 3 rfl rfl (slS 4 rfl rfl (slS 5 rfl rfl (slS 7 rfl rfl (slS 8 rfl rfl (slS 9 rfl rfl (slS 10 rfl rfl (slS 11 rfl rfl (slS 12 rfl rfl (slS 13 rfl rfl (slS 14 rfl rfl (slS 15 rfl rfl (slL 20 (d := 20) rfl (trivial))))))))))))))))) ?_ ?_
                  · show ∀ i ∈ [0, 1, 2, 3, 4, 5, 6, 7, 8, 9, 10, 11, 12, 13, 14, 15, 16, 17, 18, 19, 20], _
                    refine zA (zC 0 _ rfl rfl hLo rfl rfl (fun _ _ _ _ => rfl) (fun b G w hb ho => zD (.inl rfl) (zG rfl (HS9.get 3 rfl)))) ?_
                    refine zA (zC 1 _ rfl rfl hLo rfl rfl (fun _ _ _ _ => rfl) (fun b G w hb ho => zD (.inl rfl) (zG rfl (HS9.get 2 rfl)))) ?_
                    refine zA (zC 2 _ rfl rfl hLo rfl rfl (fun _ _ _ _ => rfl) (fun b G w hb ho => zL rfl (zB hLo 0 rfl HS9.1 rfl (hb 0 (by rfl))) (zB hLo 1 rfl HS9.1 rfl (hb 1 (by rfl))) (rb_seql hr8 _ _ _))) ?_
                    refine zA (zC 3 _ rfl rfl hLo rfl rfl (fun _ _ _ _ => rfl) (fun b G w hb ho => zD (.inl rfl) (zB hLo 2 rfl HS9.1 rfl (hb 2 (by rfl))))) ?_
                    refine zA (zC 4 _ rfl rfl hLo rfl rfl (fun b G hb ho => zE rfl rfl rfl HS9.1 rfl (zB hLo 3 rfl HS9.1 rfl (hb 3 (by rfl))) rfl) (fun b G w hb ho => zD (.inl rfl) (zG rfl (HS9.get 12 rfl)))) ?_
                    refine zA (zC 5 _ rfl rfl hLo rfl rfl (fun b G hb ho => zE rfl rfl rfl HS9.1 rfl (zB hLo 3 rfl HS9.1 rfl (hb 3 (by rfl))) rfl) (fun b G w hb ho => yG rfl (zB hLo 4 rfl HS9.1 rfl (hb 4 (by rfl))) (ru_not _))) ?_
                    refine zA (zC 6 _ rfl rfl hLo rfl rfl (fun _ _ _ _ => rfl) (fun b G w hb ho => zK rfl (zB hLo 3 rfl HS9.1 rfl (hb 3 (by rfl))) (zB hLo 5 rfl HS9.1 rfl (hb 5 (by rfl))))) ?_
                    refine zA (zC 7 _ rfl rfl hLo rfl rfl (fun _ _ _ _ => rfl) (fun b G w hb ho => zD (.inl rfl) (zB hLo 6 rfl HS9.1 rfl (hb 6 (by rfl))))) ?_
                    refine zA (zH 8 rfl rfl hLo rfl rfl (fun b G hb ho => zE rfl rfl rfl HS9.1 rfl (zB hLo 7 rfl HS9.1 rfl (hb 7 (by rfl))) rfl)) ?_
                    refine zA (zH 9 rfl rfl hLo rfl rfl (fun b G hb ho => zE rfl rfl rfl HS9.1 rfl (zB hLo 7 rfl HS9.1 rfl (hb 7 (by rfl))) rfl)) ?_
                    refine zA (zH 10 rfl rfl hLo rfl rfl (fun b G hb ho => zE rfl rfl rfl HS9.1 rfl (zB hLo 7 rfl HS9.1 rfl (hb 7 (by rfl))) rfl)) ?_
                    refine zA (zC 11 _ rfl rfl hLo rfl rfl (fun _ _ _ _ => rfl) (fun b G w hb ho => zK rfl (zB hLo 7 rfl HS9.1 rfl (hb 7 (by rfl))) (rfl))) ?_
                    refine zA (zC 12 _ rfl rfl hLo rfl rfl (fun _ _ _ _ => rfl) (fun b G w hb ho => zD (.inl rfl) (zB hLo 11 rfl HS9.1 rfl (hb 11 (by rfl))))) ?_
                    refine zA (zH 13 rfl rfl hLo rfl rfl (fun b G hb ho => zE rfl rfl rfl HS9.1 rfl (zB hLo 12 rfl HS9.1 rfl (hb 12 (by rfl))) rfl)) ?_
                    refine zA (zH 14 rfl rfl hLo rfl rfl (fun b G hb ho => zE rfl rfl rfl HS9.1 rfl (zB hLo 12 rfl HS9.1 rfl (hb 12 (by rfl))) rfl)) ?_
                    refine zA (zH 15 rfl rfl hLo rfl rfl (fun b G hb ho => zZ rfl rfl rfl HS9.1 rfl (zB hLo 14 rfl HS9.1 rfl (hb 14 (by rfl))))) ?_
                    refine zA (zH 16 rfl rfl hLo rfl rfl (fun b G hb ho => zZ rfl rfl rfl HS9.1 rfl (zB hLo 14 rfl HS9.1 rfl (hb 14 (by rfl))))) ?_
                    refine zA (zH 17 rfl rfl hLo rfl rfl (fun b G hb ho => zZ rfl rfl rfl HS9.1 rfl (zB hLo 14 rfl HS9.1 rfl (hb 14 (by rfl))))) ?_
                    refine zA (zH 18 rfl rfl hLo rfl rfl (fun b G hb ho => zE rfl rfl rfl HS9.1 rfl (zB hLo 12 rfl HS9.1 rfl (hb 12 (by rfl))) rfl)) ?_
                    refine zA (zC 19 _ rfl rfl hLo rfl rfl (fun _ _ _ _ => rfl) (fun b G w hb ho => zK rfl (zB hLo 12 rfl HS9.1 rfl (hb 12 (by rfl))) (rfl))) ?_
                    refine zA (zC 20 _ rfl rfl hLo rfl rfl (fun _ _ _ _ => rfl) (fun b G w hb ho => zD (.inr rfl) (zB hLo 19 rfl HS9.1 rfl (hb 19 (by rfl))))) ?_
                    exact zF
                  clear hLo
                  intro G a10 w10 hS hH
                  have HS10 : Sl a10 90 [(0, .agg (FR () 6 ((p).sc))), (1, .agg (FR () 6 ((q).sc))), (2, .string (us)), (3, .string (ot)), (4, .pointer (some ⟨g1_0, 0, none⟩)), (5, .pointer (some ⟨g1_1, 0, none⟩)), (15, .bool false), (31, .bool false), (9, .int .i64 (yC p ByteArray.empty us)), (40, .bool false), (10, .int .i64 (((p.tab zI).tell0 ot).1)), (11, .bool false), (12, .int .i64 (((q.tab zI).tell0 ot).1)), (13, .bool false), (69, .bool false), (8, .bool true)] := hS
                  have HH10 : Held w w10 [⟨g1_0, (), 6, (p).sc, 25⟩, ⟨g1_1, (), 6, (q).sc, 25⟩] := hH
                  clear hS hH HS9 HH9
                  refine then_ ?_
                  refine wp_ret ?_
                  repeat (first | refine zQ ?_ | refine zN ?_)
                  exact yH rfl HS10.2.1 (HS10.get 15 rfl) ⟨law_ret rfl, HH10.1⟩
                · skip
                  obtain ⟨r9, hr9⟩ : ∃ r : Bool, (decide ((((p.tab zI).tell0 ot).1 : Int) < yC p ByteArray.empty us)) = r := ⟨_, rfl⟩
                  cases r9
                  · skip
                    refine wp_seq ?_
                    have hLo : LOk [(0, 70, .val (.string (ot))), (1, 71, .val (.string (us))), (2, 72, .val (.bool false)), (3, 73, .val (.bool false)), (4, 74, .val (.bool true)), (5, 75, .val (.bool false)), (6, 76, .val (.bool false)), (7, 77, .val (.bool false)), (8, 78, .val (.int .i64 (((p.tab zI).tell0 ot).1))), (9, 79, .val (.int .i64 (yC p ByteArray.empty us))), (10, 80, .val (.bool false)), (11, 81, .val (.bool false)), (12, 82, .val (.bool false)), (13, 83, .val (.bool false)), (14, 84, .val (.bool false)), (15, 85, .val (undef)), (16, 86, .val (undef)), (17, 87, .val (undef)), (18, 88, .val (.bool false)), (19, 89, .val (.bool false)), (20, 8, .val (.bool false))] := lok (by rfl) (by rfl)
                    refine zJ (wE := w) (sz := 90) (n := 21) [0, 1, 3, 7, 15, 31, 63, 127, 255, 511, 1023, 2047, 4095, 8191, 16383, 32767, 65535, 131071, 262143, 524287, 1048575] [(0, .val (.agg (FR () 6 ((p).sc)))), (1, .val (.agg (FR () 6 ((q).sc)))), (2, .val (.string (us))), (3, .val (.string (ot))), (4, .val (.pointer (some ⟨g1_0, 0, none⟩))), (5, .val (.pointer (some ⟨g1_1, 0, none⟩))), (15, .val (.bool false)), (31, .val (.bool false)), (9, .val (.int .i64 (yC p ByteArray.empty us))), (40, .val (.bool false)), (10, .val (.int .i64 (((p.tab zI).tell0 ot).1))), (11, .val (.bool true)), (12, .val (.int .i64 (((q.tab zI).tell0 ot).1))), (13, .val (.bool false)), (69, .val (.bool false)), (8, .val (.bool false))] [(0, 70, .val (.string (ot))), (1, 71, .val (.string (us))), (2, 72, .val (.bool false)), (3, 73, .val (.bool false)), (4, 74, .val (.bool true)), (5, 75, .val (.bool false)), (6, 76, .val (.bool false)), (7, 77, .val (.bool false)), (8, 78, .val (.int .i64 (((p.tab zI).tell0 ot).1))), (9, 79, .val (.int .i64 (yC p ByteArray.empty us))), (10, 80, .val (.bool false)), (11, 81, .val (.bool false)), (12, 82, .val (.bool false)), (13, 83, .val (.bool false)), (14, 84, .val (.bool false)), (15, 85, .val (undef)), (16, 86, .val (undef)), (17, 87, .val (undef)), (18, 88, .val (.bool false)), (19, 89, .val (.bool false)), (20, 8, .val (.bool false))] [⟨g1_0, none, none, (), 6, (p).sc, (p).sc, 25⟩, ⟨g1_1, none, none, (), 6, (q).sc, (q).sc, 25⟩] rfl (by rfl) HH9 rfl rfl hLo rfl HS9 (slS 0 rfl rfl (slS 1 rfl rfl (slS 2 rfl rfl (slS 3 rfl rfl (slS 4 rfl rfl (slS 5 rfl rfl (slS 7 rfl rfl (slS 8 rfl rfl (slS 9 rfl rfl (slS 10 rfl rfl (slS 11 rfl rfl (slS 12 rfl rfl (slS 13 rfl rfl (slS 14 rfl rfl (slS 15 rfl rfl (slL 20 (d := 20) rfl (trivial))))))))))))))))) ?_ ?_
                    · show ∀ i ∈ [0, 1, 2, 3, 4, 5, 6, 7, 8, 9, 10, 11, 12, 13, 14, 15, 16, 17, 18, 19, 20], _
                      refine zA (zC 0 _ rfl rfl hLo rfl rfl (fun _ _ _ _ => rfl) (fun b G w hb ho => zD (.inl rfl) (zG rfl (HS9.get 3 rfl)))) ?_
                      refine zA (zC 1 _ rfl rfl hLo rfl rfl (fun _ _ _ _ => rfl) (fun b G w hb ho => zD (.inl rfl) (zG rfl (HS9.get 2 rfl)))) ?_
                      refine zA (zC 2 _ rfl rfl hLo rfl rfl (fun _ _ _ _ => rfl) (fun b G w hb ho => zL rfl (zB hLo 0 rfl HS9.1 rfl (hb 0 (by rfl))) (zB hLo 1 rfl HS9.1 rfl (hb 1 (by rfl))) (rb_seql hr8 _ _ _))) ?_
                      refine zA (zC 3 _ rfl rfl hLo rfl rfl (fun _ _ _ _ => rfl) (fun b G w hb ho => zD (.inl rfl) (zB hLo 2 rfl HS9.1 rfl (hb 2 (by rfl))))) ?_
                      refine zA (zC 4 _ rfl rfl hLo rfl rfl (fun b G hb ho => zE rfl rfl rfl HS9.1 rfl (zB hLo 3 rfl HS9.1 rfl (hb 3 (by rfl))) rfl) (fun b G w hb ho => zD (.inl rfl) (zG rfl (HS9.get 12 rfl)))) ?_
                      refine zA (zC 5 _ rfl rfl hLo rfl rfl (fun b G hb ho => zE rfl rfl rfl HS9.1 rfl (zB hLo 3 rfl HS9.1 rfl (hb 3 (by rfl))) rfl) (fun b G w hb ho => yG rfl (zB hLo 4 rfl HS9.1 rfl (hb 4 (by rfl))) (ru_not _))) ?_
                      refine zA (zC 6 _ rfl rfl hLo rfl rfl (fun _ _ _ _ => rfl) (fun b G w hb ho => zK rfl (zB hLo 3 rfl HS9.1 rfl (hb 3 (by rfl))) (zB hLo 5 rfl HS9.1 rfl (hb 5 (by rfl))))) ?_
                      refine zA (zC 7 _ rfl rfl hLo rfl rfl (fun _ _ _ _ => rfl) (fun b G w hb ho => zD (.inl rfl) (zB hLo 6 rfl HS9.1 rfl (hb 6 (by rfl))))) ?_
                      refine zA (zC 8 _ rfl rfl hLo rfl rfl (fun b G hb ho => zE rfl rfl rfl HS9.1 rfl (zB hLo 7 rfl HS9.1 rfl (hb 7 (by rfl))) rfl) (fun b G w hb ho => zD (.inl rfl) (zG rfl (HS9.get 11 rfl)))) ?_
                      refine zA (zC 9 _ rfl rfl hLo rfl rfl (fun b G hb ho => zE rfl rfl rfl HS9.1 rfl (zB hLo 7 rfl HS9.1 rfl (hb 7 (by rfl))) rfl) (fun b G w hb ho => zD (.inl rfl) (zG rfl (HS9.get 9 rfl)))) ?_
                      refine zA (zC 10 _ rfl rfl hLo rfl rfl (fun b G hb ho => zE rfl rfl rfl HS9.1 rfl (zB hLo 7 rfl HS9.1 rfl (hb 7 (by rfl))) rfl) (fun b G w hb ho => zL rfl (zB hLo 8 rfl HS9.1 rfl (hb 8 (by rfl))) (zB hLo 9 rfl HS9.1 rfl (hb 9 (by rfl))) (rb_lss hr9 _ _ _))) ?_
                      refine zA (zC 11 _ rfl rfl hLo rfl rfl (fun _ _ _ _ => rfl) (fun b G w hb ho => zK rfl (zB hLo 7 rfl HS9.1 rfl (hb 7 (by rfl))) (zB hLo 10 rfl HS9.1 rfl (hb 10 (by rfl))))) ?_
                      refine zA (zC 12 _ rfl rfl hLo rfl rfl (fun _ _ _ _ => rfl) (fun b G w hb ho => zD (.inl rfl) (zB hLo 11 rfl HS9.1 rfl (hb 11 (by rfl))))) ?_
                      refine zA (zC 13 _ rfl rfl hLo rfl rfl (fun b G hb ho => zE rfl rfl rfl HS9.1 rfl (zB hLo 12 rfl HS9.1 rfl (hb 12 (by rfl))) rfl) (fun b G w hb ho => zD (.inl rfl) (zG rfl (HS9.get 14 rfl)))) ?_
                      refine zA (zC 14 _ rfl rfl hLo rfl rfl (fun b G hb ho => zE rfl rfl rfl HS9.1 rfl (zB hLo 12 rfl HS9.1 rfl (hb 12 (by rfl))) rfl) (fun b G w hb ho => zD (.inl rfl) (zB hLo 13 rfl HS9.1 rfl (hb 13 (by rfl))))) ?_
                      refine zA (zH 15 rfl rfl hLo rfl rfl (fun b G hb ho => zE rfl rfl rfl HS9.1 rfl (zB hLo 14 rfl HS9.1 rfl (hb 14 (by rfl))) rfl)) ?_
                      refine zA (zH 16 rfl rfl hLo rfl rfl (fun b G hb ho => zE rfl rfl rfl HS9.1 rfl (zB hLo 14 rfl HS9.1 rfl (hb 14 (by rfl))) rfl)) ?_
                      refine zA (zH 17 rfl rfl hLo rfl rfl (fun b G hb ho => zE rfl rfl rfl HS9.1 rfl (zB hLo 14 rfl HS9.1 rfl (hb 14 (by rfl))) rfl)) ?_
                      refine zA (zC 18 _ rfl rfl hLo rfl rfl (fun b G hb ho => zE rfl rfl rfl HS9.1 rfl (zB hLo 12 rfl HS9.1 rfl (hb 12 (by rfl))) rfl) (fun b G w hb ho => zK rfl (zB hLo 14 rfl HS9.1 rfl (hb 14 (by rfl))) (rfl))) ?_
                      refine zA (zC 19 _ rfl rfl hLo rfl rfl (fun _ _ _ _ => rfl) (fun b G w hb ho => zK rfl (zB hLo 12 rfl HS9.1 rfl (hb 12 (by rfl))) (zB hLo 18 rfl HS9.1 rfl (hb 18 (by rfl))))) ?_
                      refine zA (zC 20 _ rfl rfl hLo rfl rfl (fun _ _ _ _ => rfl) (fun b G w hb ho => zD (.inr rfl) (zB hLo 19 rfl HS9.1 rfl (hb 19 (by rfl))))) ?_
                      exact zF
                    clear hLo
                    intro G a11 w11 hS hH
                    have HS11 : Sl a11 90 [(0, .agg (FR () 6 ((p).sc))), (1, .agg (FR () 6 ((q).sc))), (2, .string (us)), (3, .string (ot)), (4, .pointer (some ⟨g1_0, 0, none⟩)), (5, .pointer (some ⟨g1_1, 0, none⟩)), (15, .bool false), (31, .bool false), (9, .int .i64 (yC p ByteArray.empty us)), (40, .bool false), (10, .int .i64 (((p.tab zI).tell0 ot).1)), (11, .bool true), (12, .int .i64 (((q.tab zI).tell0 ot).1)), (13, .bool false), (69, .bool false), (8, .bool false)] := hS
                    have HH11 : Held w w11 [⟨g1_0, (), 6, (p).sc, 25⟩, ⟨g1_1, (), 6, (q).sc, 25⟩] := hH
                    clear hS hH HS9 HH9
                    refine then_ ?_
                    refine wp_ret ?_
                    repeat (first | refine zQ ?_ | refine zN ?_)
                    exact yH rfl HS11.2.1 (HS11.get 15 rfl) ⟨(by have hq := (bound2 (by have hq := chg_users (other := ot) hr5; rw [hr8] at hq; exact hq) hr6 hr9).1; rw [hr7] at hq; cases hq), HH11.1⟩
                  · skip
                    refine wp_seq ?_
                    have hLo : LOk [(0, 70, .val (.string (ot))), (1, 71, .val (.string (us))), (2, 72, .val (.bool false)), (3, 73, .val (.bool false)), (4, 74, .val (.bool true)), (5, 75, .val (.bool false)), (6, 76, .val (.bool false)), (7, 77, .val (.bool false)), (8, 78, .val (.int .i64 (((p.tab zI).tell0 ot).1))), (9, 79, .val (.int .i64 (yC p ByteArray.empty us))), (10, 80, .val (.bool true)), (11, 81, .val (.bool true)), (12, 82, .val (.bool true)), (13, 83, .val (undef)), (14, 84, .val (undef)), (15, 85, .val (undef)), (16, 86, .val (undef)), (17, 87, .val (undef)), (18, 88, .val (undef)), (19, 89, .val (.bool true)), (20, 8, .val (.bool true))] := lok (by rfl) (by rfl)
                    refine zJ (wE := w) (sz := 90) (n := 21) [0, 1, 3, 7, 15, 31, 63, 127, 255, 511, 1023, 2047, 4095, 8191, 16383, 32767, 65535, 131071, 262143, 524287, 1048575] [(0, .val (.agg (FR () 6 ((p).sc)))), (1, .val (.agg (FR () 6 ((q).sc)))), (2, .val (.string (us))), (3, .val (.string (ot))), (4, .val (.pointer (some ⟨g1_0, 0, none⟩))), (5, .val (.pointer (some ⟨g1_1, 0, none⟩))), (15, .val (.bool false)), (31, .val (.bool false)), (9, .val (.int .i64 (yC p ByteArray.empty us))), (40, .val (.bool false)), (10, .val (.int .i64 (((p.tab zI).tell0 ot).1))), (11, .val (.bool true)), (12, .val (.int .i64 (((q.tab zI).tell0 ot).1))), (13, .val (.bool false)), (69, .val (.bool false)), (8, .val (.bool true))] [(0, 70, .val (.string (ot))), (1, 71, .val (.string (us))), (2, 72, .val (.bool false)), (3, 73, .val (.bool false)), (4, 74, .val (.bool true)), (5, 75, .val (.bool false)), (6, 76, .val (.bool false)), (7, 77, .val (.bool false)), (8, 78, .val (.int .i64 (((p.tab zI).tell0 ot).1))), (9, 79, .val (.int .i64 (yC p ByteArray.empty us))), (10, 80, .val (.bool true)), (11, 81, .val (.bool true)), (12, 82, .val (.bool true)), (13, 83, .val (undef)), (14, 84, .val (undef)), (15, 85, .val (undef)), (16, 86, .val (undef)), (17, 87, .val (undef)), (18, 88, .val (undef)), (19, 89, .val (.bool true)), (20, 8, .val (.bool true))] [⟨g1_0, none, none, (), 6, (p).sc, (p).sc, 25⟩, ⟨g1_1, none, none, (), 6, (q).sc, (q).sc, 25⟩] rfl (by rfl) HH9 rfl rfl hLo rfl HS9 (slS 0 rfl rfl (slS 1 rfl rfl (slS 2 rfl rfl (slS 3 rfl rfl (slS 4 rfl rfl (slS 5 rfl rfl (slS 7 rfl rfl (slS 8 rfl rfl (slS 9 rfl rfl (slS 10 rfl rfl (slS 11 rfl rfl (slS 12 rfl rfl (slS 13 rfl rfl (slS 14 rfl rfl (slS 15 rfl rfl (slL 20 (d := 20) rfl (trivial))))))))))))))))) ?_ ?_
                    · show ∀ i ∈ [0, 1, 2, 3, 4, 5, 6, 7, 8, 9, 10, 11, 12, 13, 14, 15, 16, 17, 18, 19, 20], _
                      refine zA (zC 0 _ rfl rfl hLo rfl rfl (fun _ _ _ _ => rfl) (fun b G w hb ho => zD (.inl rfl) (zG rfl (HS9.get 3 rfl)))) ?_
                      refine zA (zC 1 _ rfl rfl hLo rfl rfl (fun _ _ _ _ => rfl) (fun b G w hb ho => zD (.inl rfl) (zG rfl (HS9.get 2 rfl)))) ?_
                      refine zA (zC 2 _ rfl rfl hLo rfl rfl (fun _ _ _ _ => rfl) (fun b G w hb ho => zL rfl (zB hLo 0 rfl HS9.1 rfl (hb 0 (by rfl))) (zB hLo 1 rfl HS9.1 rfl (hb 1 (by rfl))) (rb_seql hr8 _ _ _))) ?_
                      refine zA (zC 3 _ rfl rfl hLo rfl rfl (fun _ _ _ _ => rfl) (fun b G w hb ho => zD (.inl rfl) (zB hLo 2 rfl HS9.1 rfl (hb 2 (by rfl))))) ?_
                      refine zA (zC 4 _ rfl rfl hLo rfl rfl (fun b G hb ho => zE rfl rfl rfl HS9.1 rfl (zB hLo 3 rfl HS9.1 rfl (hb 3 (by rfl))) rfl) (fun b G w hb ho => zD (.inl rfl) (zG rfl (HS9.get 12 rfl)))) ?_
                      refine zA (zC 5 _ rfl rfl hLo rfl rfl (fun b G hb ho => zE rfl rfl rfl HS9.1 rfl (zB hLo 3 rfl HS9.1 rfl (hb 3 (by rfl))) rfl) (fun b G w hb ho => yG rfl (zB hLo 4 rfl HS9.1 rfl (hb 4 (by rfl))) (ru_not _))) ?_
                      refine zA (zC 6 _ rfl rfl hLo rfl rfl (fun _ _ _ _ => rfl) (fun b G w hb ho => zK rfl (zB hLo 3 rfl HS9.1 rfl (hb 3 (by rfl))) (zB hLo 5 rfl HS9.1 rfl (hb 5 (by rfl))))) ?_
                      refine zA (zC 7 _ rfl rfl hLo rfl rfl (fun _ _ _ _ => rfl) (fun b G w hb ho => zD (.inl rfl) (zB hLo 6 rfl HS9.1 rfl (hb 6 (by rfl))))) ?_
                      refine zA (zC 8 _ rfl rfl hLo rfl rfl (fun b G hb ho => zE rfl rfl rfl HS9.1 rfl (zB hLo 7 rfl HS9.1 rfl (hb 7 (by rfl))) rfl) (fun b G w hb ho => zD (.inl rfl) (zG rfl (HS9.get 11 rfl)))) ?_
                      refine zA (zC 9 _ rfl rfl hLo rfl rfl (fun b G hb ho => zE rfl rfl rfl HS9.1 rfl (zB hLo 7 rfl HS9.1 rfl (hb 7 (by rfl))) rfl) (fun b G w hb ho => zD (.inl rfl) (zG rfl (HS9.get 9 rfl)))) ?_
                      refine zA (zC 10 _ rfl rfl hLo rfl rfl (fun b G hb ho => zE rfl rfl rfl HS9.1 rfl (zB hLo 7 rfl HS9.1 rfl (hb 7 (by rfl))) rfl) (fun b G w hb ho => zL rfl (zB hLo 8 rfl HS9.1 rfl (hb 8 (by rfl))) (zB hLo 9 rfl HS9.1 rfl (hb 9 (by rfl))) (rb_lss hr9 _ _ _))) ?_
                      refine zA (zC 11 _ rfl rfl hLo rfl rfl (fun _ _ _ _ => rfl) (fun b G w hb ho => zK rfl (zB hLo 7 rfl HS9.1 rfl (hb 7 (by rfl))) (zB hLo 10 rfl HS9.1 rfl (hb 10 (by rfl))))) ?_
                      refine zA (zC 12 _ rfl rfl hLo rfl rfl (fun _ _ _ _ => rfl) (fun b G w hb ho => zD (.inl rfl) (zB hLo 11 rfl HS9.1 rfl (hb 11 (by rfl))))) ?_
                      refine zA (zH 13 rfl rfl hLo rfl rfl (fun b G hb ho => zE rfl rfl rfl HS9.1 rfl (zB hLo 12 rfl HS9.1 rfl (hb 12 (by rfl))) rfl)) ?_
                      refine zA (zH 14 rfl rfl hLo rfl rfl (fun b G hb ho => zE rfl rfl rfl HS9.1 rfl (zB hLo 12 rfl HS9.1 rfl (hb 12 (by rfl))) rfl)) ?_
                      refine zA (zH 15 rfl rfl hLo rfl rfl (fun b G hb ho => zZ rfl rfl rfl HS9.1 rfl (zB hLo 14 rfl HS9.1 rfl (hb 14 (by rfl))))) ?_
                      refine zA (zH 16 rfl rfl hLo rfl rfl (fun b G hb ho => zZ rfl rfl rfl HS9.1 rfl (zB hLo 14 rfl HS9.1 rfl (hb 14 (by rfl))))) ?_
                      refine zA (zH 17 rfl rfl hLo rfl rfl (fun b G hb ho => zZ rfl rfl rfl HS9.1 rfl (zB hLo 14 rfl HS9.1 rfl (hb 14 (by rfl))))) ?_
                      refine zA (zH 18 rfl rfl hLo rfl rfl (fun b G hb ho => zE rfl rfl rfl HS9.1 rfl (zB hLo 12 rfl HS9.1 rfl (hb 12 (by rfl))) rfl)) ?_
                      refine zA (zC 19 _ rfl rfl hLo rfl rfl (fun _ _ _ _ => rfl) (fun b G w hb ho => zK rfl (zB hLo 12 rfl HS9.1 rfl (hb 12 (by rfl))) (rfl))) ?_
                      refine zA (zC 20 _ rfl rfl hLo rfl rfl (fun _ _ _ _ => rfl) (fun b G w hb ho => zD (.inr rfl) (zB hLo 19 rfl HS9.1 rfl (hb 19 (by rfl))))) ?_
                      exact zF
                    clear hLo
                    intro G a12 w12 hS hH
                    have HS12 : Sl a12 90 [(0, .agg (FR () 6 ((p).sc))), (1, .agg (FR () 6 ((q).sc))), (2, .string (us)), (3, .string (ot)), (4, .pointer (some ⟨g1_0, 0, none⟩)), (5, .pointer (some ⟨g1_1, 0, none⟩)), (15, .bool false), (31, .bool false), (9, .int .i64 (yC p ByteArray.empty us)), (40, .bool false), (10, .int .i64 (((p.tab zI).tell0 ot).1)), (11, .bool true), (12, .int .i64 (((q.tab zI).tell0 ot).1)), (13, .bool false), (69, .bool false), (8, .bool true)] := hS
                    have HH12 : Held w w12 [⟨g1_0, (), 6, (p).sc, 25⟩, ⟨g1_1, (), 6, (q).sc, 25⟩] := hH
                    clear hS hH HS9 HH9
                    refine then_ ?_
                    refine wp_ret ?_
                    repeat (first | refine zQ ?_ | refine zN ?_)
                    exact yH rfl HS12.2.1 (HS12.get 15 rfl) ⟨law_ret rfl, HH12.1⟩
              · skip
                refine wp_seq ?_
                have hLo : LOk [(0, 70, .val (.string (ot))), (1, 71, .val (.string (us))), (2, 72, .val (.bool true)), (3, 73, .val (.bool true)), (4, 74, .val (undef)), (5, 75, .val (undef)), (6, 76, .val (.bool true)), (7, 77, .val (.bool true)), (8, 78, .val (undef)), (9, 79, .val (undef)), (10, 80, .val (undef)), (11, 81, .val (.bool true)), (12, 82, .val (.bool true)), (13, 83, .val (undef)), (14, 84, .val (undef)), (15, 85, .val (undef)), (16, 86, .val (undef)), (17, 87, .val (undef)), (18, 88, .val (undef)), (19, 89, .val (.bool true)), (20, 8, .val (.bool true))] := lok (by rfl) (by rfl)
                refine zJ (wE := w) (sz := 90) (n := 21) [0, 1, 3, 7, 15, 31, 63, 127, 255, 511, 1023, 2047, 4095, 8191, 16383, 32767, 65535, 131071, 262143, 524287, 1048575] [(0, .val (.agg (FR () 6 ((p).sc)))), (1, .val (.agg (FR () 6 ((q).sc)))), (2, .val (.string (us))), (3, .val (.string (ot))), (4, .val (.pointer (some ⟨g1_0, 0, none⟩))), (5, .val (.pointer (some ⟨g1_1, 0, none⟩))), (15, .val (.bool false)), (31, .val (.bool false)), (9, .val (.int .i64 (yC p ByteArray.empty us))), (40, .val (.bool false)), (10, .val (.int .i64 (((p.tab zI).tell0 ot).1))), (11, .val (.bool r6)), (12, .val (.int .i64 (((q.tab zI).tell0 ot).1))), (13, .val (.bool false)), (69, .val (.bool false)), (8, .val (.bool true))] [(0, 70, .val (.string (ot))), (1, 71, .val (.string (us))), (2, 72, .val (.bool true)), (3, 73, .val (.bool true)), (4, 74, .val (undef)), (5, 75, .val (undef)), (6, 76, .val (.bool true)), (7, 77, .val (.bool true)), (8, 78, .val (undef)), (9, 79, .val (undef)), (10, 80, .val (undef)), (11, 81, .val (.bool true)), (12, 82, .val (.bool true)), (13, 83, .val (undef)), (14, 84, .val (undef)), (15, 85, .val (undef)), (16, 86, .val (undef)), (17, 87, .val (undef)), (18, 88, .val (undef)), (19, 89, .val (.bool true)), (20, 8, .val (.bool true))] [⟨g1_0, none, none, (), 6, (p).sc, (p).sc, 25⟩, ⟨g1_1, none, none, (), 6, (q).sc, (q).sc, 25⟩] rfl (by rfl) HH9 rfl rfl hLo rfl HS9 (slS 0 rfl rfl (slS 1 rfl rfl (slS 2 rfl rfl (slS 3 rfl rfl (slS 4 rfl rfl (slS 5 rfl rfl (slS 7 rfl rfl (slS 8 rfl rfl (slS 9 rfl rfl (slS 10 rfl rfl (slS 11 rfl rfl (slS 12 rfl rfl (slS 13 rfl rfl (slS 14 rfl rfl (slS 15 rfl rfl (slL 20 (d := 20) rfl (trivial))))))))))))))))) ?_ ?_
                · show ∀ i ∈ [0, 1, 2, 3, 4, 5, 6, 7, 8, 9, 10, 11, 12, 13, 14, 15, 16, 17, 18, 19, 20], _
                  refine zA (zC 0 _ rfl rfl hLo rfl rfl (fun _ _ _ _ => rfl) (fun b G w hb ho => zD (.inl rfl) (zG rfl (HS9.get 3 rfl)))) ?_
                  refine zA (zC 1 _ rfl rfl hLo rfl rfl (fun _ _ _ _ => rfl) (fun b G w hb ho => zD (.inl rfl) (zG rfl (HS9.get 2 rfl)))) ?_
                  refine zA (zC 2 _ rfl rfl hLo rfl rfl (fun _ _ _ _ => rfl) (fun b G w hb ho => zL rfl (zB hLo 0 rfl HS9.1 rfl (hb 0 (by rfl))) (zB hLo 1 rfl HS9.1 rfl (hb 1 (by rfl))) (rb_seql hr8 _ _ _))) ?_
                  refine zA (zC 3 _ rfl rfl hLo rfl rfl (fun _ _ _ _ => rfl) (fun b G w hb ho => zD (.inl rfl) (zB hLo 2 rfl HS9.1 rfl (hb 2 (by rfl))))) ?_
                  refine zA (zH 4 rfl rfl hLo rfl rfl (fun b G hb ho => zE rfl rfl rfl HS9.1 rfl (zB hLo 3 rfl HS9.1 rfl (hb 3 (by rfl))) rfl)) ?_
                  refine zA (zH 5 rfl rfl hLo rfl rfl (fun b G hb ho => zE rfl rfl rfl HS9.1 rfl (zB hLo 3 rfl HS9.1 rfl (hb 3 (by rfl))) rfl)) ?_
                  refine zA (zC 6 _ rfl rfl hLo rfl rfl (fun _ _ _ _ => rfl) (fun b G w hb ho => zK rfl (zB hLo 3 rfl HS9.1 rfl (hb 3 (by rfl))) (rfl))) ?_
                  refine zA (zC 7 _ rfl rfl hLo rfl rfl (fun _ _ _ _ => rfl) (fun b G w hb ho => zD (.inl rfl) (zB hLo 6 rfl HS9.1 rfl (hb 6 (by rfl))))) ?_
                  refine zA (zH 8 rfl rfl hLo rfl rfl (fun b G hb ho => zE rfl rfl rfl HS9.1 rfl (zB hLo 7 rfl HS9.1 rfl (hb 7 (by rfl))) rfl)) ?_
                  refine zA (zH 9 rfl rfl hLo rfl rfl (fun b G hb ho => zE rfl rfl rfl HS9.1 rfl (zB hLo 7 rfl HS9.1 rfl (hb 7 (by rfl))) rfl)) ?_
                  refine zA (zH 10 rfl rfl hLo rfl rfl (fun b G hb ho => zE rfl rfl rfl HS9.1 rfl (zB hLo 7 rfl HS9.1 rfl (hb 7 (by rfl))) rfl)) ?_
                  refine zA (zC 11 _ rfl rfl hLo rfl rfl (fun _ _ _ _ => rfl) (fun b G w hb ho => zK rfl (zB hLo 7 rfl HS9.1 rfl (hb 7 (by rfl))) (rfl))) ?_
                  refine zA (zC 12 _ rfl rfl hLo rfl rfl (fun _ _ _ _ => rfl) (fun b G w hb ho => zD (.inl rfl) (zB hLo 11 rfl HS9.1 rfl (hb 11 (by rfl))))) ?_
                  refine zA (zH 13 rfl rfl hLo rfl rfl (fun b G hb ho => zE rfl rfl rfl HS9.1 rfl (zB hLo 12 rfl HS9.1 rfl (hb 12 (by rfl))) rfl)) ?_
                  refine zA (zH 14 rfl rfl hLo rfl rfl (fun b G hb ho => zE rfl rfl rfl HS9.1 rfl (zB hLo 12 rfl HS9.1 rfl (hb 12 (by rfl))) rfl)) ?_
                  refine zA (zH 15 rfl rfl hLo rfl rfl (fun b G hb ho => zZ rfl rfl rfl HS9.1 rfl (zB hLo 14 rfl HS9.1 rfl (hb 14 (by rfl))))) ?_
                  refine zA (zH 16 rfl rfl hLo rfl rfl (fun b G hb ho => zZ rfl rfl rfl HS9.1 rfl (zB hLo 14 rfl HS9.1 rfl (hb 14 (by rfl))))) ?_
                  refine zA (zH 17 rfl rfl hLo rfl rfl (fun b G hb ho => zZ rfl rfl rfl HS9.1 rfl (zB hLo 14 rfl HS9.1 rfl (hb 14 (by rfl))))) ?_
                  refine zA (zH 18 rfl rfl hLo rfl rfl (fun b G hb ho => zE rfl rfl rfl HS9.1 rfl (zB hLo 12 rfl HS9.1 rfl (hb 12 (by rfl))) rfl)) ?_
                  refine zA (zC 19 _ rfl rfl hLo rfl rfl (fun _ _ _ _ => rfl) (fun b G w hb ho => zK rfl (zB hLo 12 rfl HS9.1 rfl (hb 12 (by rfl))) (rfl))) ?_
                  refine zA (zC 20 _ rfl rfl hLo rfl rfl (fun _ _ _ _ => rfl) (fun b G w hb ho => zD (.inr rfl) (zB hLo 19 rfl HS9.1 rfl (hb 19 (by rfl))))) ?_
                  exact zF
                clear hLo
                intro G a13 w13 hS hH
                have HS13 : Sl a13 90 [(0, .agg (FR () 6 ((p).sc))), (1, .agg (FR () 6 ((q).sc))), (2, .string (us)), (3, .string (ot)), (4, .pointer (some ⟨g1_0, 0, none⟩)), (5, .pointer (some ⟨g1_1, 0, none⟩)), (15, .bool false), (31, .bool false), (9, .int .i64 (yC p ByteArray.empty us)), (40, .bool false), (10, .int .i64 (((p.tab zI).tell0 ot).1)), (11, .bool r6), (12, .int .i64 (((q.tab zI).tell0 ot).1)), (13, .bool false), (69, .bool false), (8, .bool true)] := hS
                have HH13 : Held w w13 [⟨g1_0, (), 6, (p).sc, 25⟩, ⟨g1_1, (), 6, (q).sc, 25⟩] := hH
                clear hS hH HS9 HH9
                refine then_ ?_
                refine wp_ret ?_
                repeat (first | refine zQ ?_ | refine zN ?_)
                exact yH rfl HS13.2.1 (HS13.get 15 rfl) ⟨law_ret rfl, HH13.1⟩
            · skip
              obtain ⟨r10, hr10⟩ : ∃ r : Bool, (decide ((yC p ByteArray.empty us : Int) < ((q.tab zI).tell0 ot).1)) = r := ⟨_, rfl⟩
              cases r10
              · skip
                refine wp_seq ?_
                have hLo : LOk [(0, 55, .val (.bool true)), (1, 56, .val (.bool true)), (2, 57, .val (.int .i64 (((q.tab zI).tell0 ot).1))), (3, 58, .val (.int .i64 (yC p ByteArray.empty us))), (4, 59, .val (.bool false)), (5, 60, .val (.bool false)), (6, 61, .val (.bool false)), (7, 62, .val (undef)), (8, 63, .val (undef)), (9, 64, .val (undef)), (10, 65, .val (undef)), (11, 66, .val (undef)), (12, 67, .val (undef)), (13, 68, .val (undef)), (14, 69, .val (.bool false))] := lok (by rfl) (by rfl)
                refine zJ (wE := w) (sz := 90) (n := 15) [0, 1, 3, 7, 15, 31, 63, 127, 255, 511, 1023, 2047, 4095, 8191, 16383] [(0, .val (.agg (FR () 6 ((p).sc)))), (1, .val (.agg (FR () 6 ((q).sc)))), (2, .val (.string (us))), (3, .val (.string (ot))), (4, .val (.pointer (some ⟨g1_0, 0, none⟩))), (5, .val (.pointer (some ⟨g1_1, 0, none⟩))), (8, .val (.bool false)), (15, .val (.bool false)), (31, .val (.bool false)), (9, .val (.int .i64 (yC p ByteArray.empty us))), (40, .val (.bool false)), (10, .val (.int .i64 (((p.tab zI).tell0 ot).1))), (11, .val (.bool r6)), (12, .val (.int .i64 (((q.tab zI).tell0 ot).1))), (13, .val (.bool true)), (69, .val (.bool false))] [(0, 55, .val (.bool true)), (1, 56, .val (.bool true)), (2, 57, .val (.int .i64 (((q.tab zI).tell0 ot).1))), (3, 58, .val (.int .i64 (yC p ByteArray.empty us))), (4, 59, .val (.bool false)), (5, 60, .val (.bool false)), (6, 61, .val (.bool false)), (7, 62, .val (undef)), (8, 63, .val (undef)), (9, 64, .val (undef)), (10, 65, .val (undef)), (11, 66, .val (undef)), (12, 67, .val (undef)), (13, 68, .val (undef)), (14, 69, .val (.bool false))] [⟨g1_0, none, none, (), 6, (p).sc, (p).sc, 25⟩, ⟨g1_1, none, none, (), 6, (q).sc, (q).sc, 25⟩] rfl (by rfl) HH8 rfl rfl hLo rfl HS8 (slS 0 rfl rfl (slS 1 rfl rfl (slS 2 rfl rfl (slS 3 rfl rfl (slS 4 rfl rfl (slS 5 rfl rfl (slS 6 rfl rfl (slS 7 rfl rfl (slS 8 rfl rfl (slS 9 rfl rfl (slS 10 rfl rfl (slS 11 rfl rfl (slS 12 rfl rfl (slS 13 rfl rfl (slS 14 rfl rfl (slL 14 (d := 14) rfl (trivial))))))))))))))))) ?_ ?_
                · show ∀ i ∈ [0, 1, 2, 3, 4, 5, 6, 7, 8, 9, 10, 11, 12, 13, 14], _
                  refine zA (zC 0 _ rfl rfl hLo rfl rfl (fun _ _ _ _ => rfl) (fun b G w hb ho => zD (.inl rfl) (zG rfl (HS8.get 14 rfl)))) ?_
                  refine zA (zC 1 _ rfl rfl hLo rfl rfl (fun _ _ _ _ => rfl) (fun b G w hb ho => zD (.inl rfl) (zB hLo 0 rfl HS8.1 rfl (hb 0 (by rfl))))) ?_
                  refine zA (zC 2 _ rfl rfl hLo rfl rfl (fun b G hb ho => zE rfl rfl rfl HS8.1 rfl (zB hLo 1 rfl HS8.1 rfl (hb 1 (by rfl))) rfl) (fun b G w hb ho => zD (.inl rfl) (zG rfl (HS8.get 13 rfl)))) ?_
                  refine zA (zC 3 _ rfl rfl hLo rfl rfl (fun b G hb ho => zE rfl rfl rfl HS8.1 rfl (zB hLo 1 rfl HS8.1 rfl (hb 1 (by rfl))) rfl) (fun b G w hb ho => zD (.inl rfl) (zG rfl (HS8.get 9 rfl)))) ?_
                  refine zA (zC 4 _ rfl rfl hLo rfl rfl (fun b G hb ho => zE rfl rfl rfl HS8.1 rfl (zB hLo 1 rfl HS8.1 rfl (hb 1 (by rfl))) rfl) (fun b G w hb ho => zL rfl (zB hLo 2 rfl HS8.1 rfl (hb 2 (by rfl))) (zB hLo 3 rfl HS8.1 rfl (hb 3 (by rfl))) (rb_gtr hr10 _ _ _))) ?_
                  refine zA (zC 5 _ rfl rfl hLo rfl rfl (fun _ _ _ _ => rfl) (fun b G w hb ho => zK rfl (zB hLo 1 rfl HS8.1 rfl (hb 1 (by rfl))) (zB hLo 4 rfl HS8.1 rfl (hb 4 (by rfl))))) ?_
                  refine zA (zC 6 _ rfl rfl hLo rfl rfl (fun _ _ _ _ => rfl) (fun b G w hb ho => zD (.inl rfl) (zB hLo 5 rfl HS8.1 rfl (hb 5 (by rfl))))) ?_
                  refine zA (zH 7 rfl rfl hLo rfl rfl (fun b G hb ho => zE rfl rfl rfl HS8.1 rfl (zB hLo 6 rfl HS8.1 rfl (hb 6 (by rfl))) rfl)) ?_
                  refine zA (zH 8 rfl rfl hLo rfl rfl (fun b G hb ho => zE rfl rfl rfl HS8.1 rfl (zB hLo 6 rfl HS8.1 rfl (hb 6 (by rfl))) rfl)) ?_
                  refine zA (zH 9 rfl rfl hLo rfl rfl (fun b G hb ho => zE rfl rfl rfl HS8.1 rfl (zB hLo 6 rfl HS8.1 rfl (hb 6 (by rfl))) rfl)) ?_
                  refine zA (zH 10 rfl rfl hLo rfl rfl (fun b G hb ho => zZ rfl rfl rfl HS8.1 rfl (zB hLo 9 rfl HS8.1 rfl (hb 9 (by rfl))))) ?_
                  refine zA (zH 11 rfl rfl hLo rfl rfl (fun b G hb ho => zZ rfl rfl rfl HS8.1 rfl (zB hLo 9 rfl HS8.1 rfl (hb 9 (by rfl))))) ?_
                  refine zA (zH 12 rfl rfl hLo rfl rfl (fun b G hb ho => zZ rfl rfl rfl HS8.1 rfl (zB hLo 9 rfl HS8.1 rfl (hb 9 (by rfl))))) ?_
                  refine zA (zH 13 rfl rfl hLo rfl rfl (fun b G hb ho => zE rfl rfl rfl HS8.1 rfl (zB hLo 6 rfl HS8.1 rfl (hb 6 (by rfl))) rfl)) ?_
                  refine zA (zC 14 _ rfl rfl hLo rfl rfl (fun _ _ _ _ => rfl) (fun b G w hb ho => zK rfl (zB hLo 6 rfl HS8.1 rfl (hb 6 (by rfl))) (rfl))) ?_
                  exact zF
                clear hLo
                intro G a14 w14 hS hH
                have HS14 : Sl a14 90 [(0, .agg (FR () 6 ((p).sc))), (1, .agg (FR () 6 ((q).sc))), (2, .string (us)), (3, .string (ot)), (4, .pointer (some ⟨g1_0, 0, none⟩)), (5, .pointer (some ⟨g1_1, 0, none⟩)), (8, .bool false), (15, .bool false), (31, .bool false), (9, .int .i64 (yC p ByteArray.empty us)), (40, .bool false), (10, .int .i64 (((p.tab zI).tell0 ot).1)), (11, .bool r6), (12, .int .i64 (((q.tab zI).tell0 ot).1)), (13, .bool true), (69, .bool false)] := hS
                have HH14 : Held w w14 [⟨g1_0, (), 6, (p).sc, 25⟩, ⟨g1_1, (), 6, (q).sc, 25⟩] := hH
                clear hS hH HS8 HH8
                refine then_ ?_
                refine wp_cond_false (HS14.get 15 rfl) ?_
                refine wp_skip ?_
                refine then_ ?_
                obtain ⟨r11, hr11⟩ : ∃ r : Bool, (decide ((ot : ByteArray) = us)) = r := ⟨_, rfl⟩
                cases r11
                · skip
                  cases r6
                  · skip
                    refine wp_seq ?_
                    have hLo : LOk [(0, 70, .val (.string (ot))), (1, 71, .val (.string (us))), (2, 72, .val (.bool false)), (3, 73, .val (.bool false)), (4, 74, .val (.bool false)), (5, 75, .val (.bool true)), (6, 76, .val (.bool true)), (7, 77, .val (.bool true)), (8, 78, .val (undef)), (9, 79, .val (undef)), (10, 80, .val (undef)), (11, 81, .val (.bool true)), (12, 82, .val (.bool true)), (13, 83, .val (undef)), (14, 84, .val (undef)), (15, 85, .val (undef)), (16, 86, .val (undef)), (17, 87, .val (undef)), (18, 88, .val (undef)), (19, 89, .val (.bool true)), (20, 8, .val (.bool true))] := lok (by rfl) (by rfl)
                    refine zJ (wE := w) (sz := 90) (n := 21) [0, 1, 3, 7, 15, 31, 63, 127, 255, 511, 1023, 2047, 4095, 8191, 16383, 32767, 65535, 131071, 262143, 524287, 1048575] [(0, .val (.agg (FR () 6 ((p).sc)))), (1, .val (.agg (FR () 6 ((q).sc)))), (2, .val (.string (us))), (3, .val (.string (ot))), (4, .val (.pointer (some ⟨g1_0, 0, none⟩))), (5, .val (.pointer (some ⟨g1_1, 0, none⟩))), (15, .val (.bool false)), (31, .val (.bool false)), (9, .val (.int .i64 (yC p ByteArray.empty us))), (40, .val (.bool false)), (10, .val (.int .i64 (((p.tab zI).tell0 ot).1))), (11, .val (.bool false)), (12, .val (.int .i64 (((q.tab zI).tell0 ot).1))), (13, .val (.bool true)), (69, .val (.bool false)), (8, .val (.bool true))] [(0, 70, .val (.string (ot))), (1, 71, .val (.string (us))), (2, 72, .val (.bool false)), (3, 73, .val (.bool false)), (4, 74, .val (.bool false)), (5, 75, .val (.bool true)), (6, 76, .val (.bool true)), (7, 77, .val (.bool true)), (8, 78, .val (undef)), (9, 79, .val (undef)), (10, 80, .val (undef)), (11, 81, .val (.bool true)), (12, 82, .val (.bool true)), (13, 83, .val (undef)), (14, 84, .val (undef)), (15, 85, .val (undef)), (16, 86, .val (undef)), (17, 87, .val (undef)), (18, 88, .val (undef)), (19, 89, .val (.bool true)), (20, 8, .val (.bool true))] [⟨g1_0, none, none, (), 6, (p).sc, (p).sc, 25⟩, ⟨g1_1, none, none, (), 6, (q).sc, (q).sc, 25⟩] rfl (by rfl) HH14 rfl rfl hLo rfl HS14 (slS 0 rfl rfl (slS 1 rfl rfl (slS 2 rfl rfl (slS 3 rfl rfl (slS 4 rfl rfl (slS 5 rfl rfl (slS 7 rfl rfl (slS 8 rfl rfl (slS 9 rfl rfl (slS 10 rfl rfl (slS 11 rfl rfl (slS 12 rfl rfl (slS 13 rfl rfl (slS 14 rfl rfl (slS 15 rfl rfl (slL 20 (d := 20) rfl (trivial))))))))))))))))) ?_ ?_
                    · show ∀ i ∈ [0, 1, 2, 3, 4, 5, 6, 7, 8, 9, 10, 11, 12, 13, 14, 15, 16, 17, 18, 19, 20], _
                      refine zA (zC 0 _ rfl rfl hLo rfl rfl (fun _ _ _ _ => rfl) (fun b G w hb ho => zD (.inl rfl) (zG rfl (HS14.get 3 rfl)))) ?_
                      refine zA (zC 1 _ rfl rfl hLo rfl rfl (fun _ _ _ _ => rfl) (fun b G w hb ho => zD (.inl rfl) (zG rfl (HS14.get 2 rfl)))) ?_
                      refine zA (zC 2 _ rfl rfl hLo rfl rfl (fun _ _ _ _ => rfl) (fun b G w hb ho => zL rfl (zB hLo 0 rfl HS14.1 rfl (hb 0 (by rfl))) (zB hLo 1 rfl HS14.1 rfl (hb 1 (by rfl))) (rb_seql hr11 _ _ _))) ?_
                      refine zA (zC 3 _ rfl rfl hLo rfl rfl (fun _ _ _ _ => rfl) (fun b G w hb ho => zD (.inl rfl) (zB hLo 2 rfl HS14.1 rfl (hb 2 (by rfl))))) ?_
                      refine zA (zC 4 _ rfl rfl hLo rfl rfl (fun b G hb ho => zE rfl rfl rfl HS14.1 rfl (zB hLo 3 rfl HS14.1 rfl (hb 3 (by rfl))) rfl) (fun b G w hb ho => zD (.inl rfl) (zG rfl (HS14.get 12 rfl)))) ?_
                      refine zA (zC 5 _ rfl rfl hLo rfl rfl (fun b G hb ho => zE rfl rfl rfl HS14.1 rfl (zB hLo 3 rfl HS14.1 rfl (hb 3 (by rfl))) rfl) (fun b G w hb ho => yG rfl (zB hLo 4 rfl HS14.1 rfl (hb 4 (by rfl))) (ru_not _))) ?_
                      refine zA (zC 6 _ rfl rfl hLo rfl rfl (fun _ _ _ _ => rfl) (fun b G w hb ho => zK rfl (zB hLo 3 rfl HS14.1 rfl (hb 3 (by rfl))) (zB hLo 5 rfl HS14.1 rfl (hb 5 (by rfl))))) ?_
                      refine zA (zC 7 _ rfl rfl hLo rfl rfl (fun _ _ _ _ => rfl) (fun b G w hb ho => zD (.inl rfl) (zB hLo 6 rfl HS14.1 rfl (hb 6 (by rfl))))) ?_
                      refine zA (zH 8 rfl rfl hLo rfl rfl (fun b G hb ho => zE rfl rfl rfl HS14.1 rfl (zB hLo 7 rfl HS14.1 rfl (hb 7 (by rfl))) rfl)) ?_
                      refine zA (zH 9 rfl rfl hLo rfl rfl (fun b G hb ho => zE rfl rfl rfl HS14.1 rfl (zB hLo 7 rfl HS14.1 rfl (hb 7 (by rfl))) rfl)) ?_
                      refine zA (zH 10 rfl rfl hLo rfl rfl (fun b G hb ho => zE rfl rfl rfl HS14.1 rfl (zB hLo 7 rfl HS14.1 rfl (hb 7 (by rfl))) rfl)) ?_
                      refine zA (zC 11 _ rfl rfl hLo rfl rfl (fun _ _ _ _ => rfl) (fun b G w hb ho => zK rfl (zB hLo 7 rfl HS14.1 rfl (hb 7 (by rfl))) (rfl))) ?_
                      refine zA (zC 12 _ rfl rfl hLo rfl rfl (fun _ _ _ _ => rfl) (fun b G w hb ho => zD (.inl rfl) (zB hLo 11 rfl HS14.1 rfl (hb 11 (by rfl))))) ?_
                      refine zA (zH 13 rfl rfl hLo rfl rfl (fun b G hb ho => zE rfl rfl rfl HS14.1 rfl (zB hLo 12 rfl HS14.1 rfl (hb 12 (by rfl))) rfl)) ?_
                      refine zA (zH 14 rfl rfl hLo rfl rfl (fun b G hb ho => zE rfl rfl rfl HS14.1 rfl (zB hLo 12 rfl HS14.1 rfl (hb 12 (by rfl))) rfl)) ?_
                      refine zA (zH 15 rfl rfl hLo rfl rfl (fun b G hb ho => zZ rfl rfl rfl HS14.1 rfl (zB hLo 14 rfl HS14.1 rfl (hb 14 (by rfl))))) ?_
                      refine zA (zH 16 rfl rfl hLo rfl rfl (fun b G hb ho => zZ rfl rfl rfl HS14.1 rfl (zB hLo 14 rfl HS14.1 rfl (hb 14 (by rfl))))) ?_
                      refine zA (zH 17 rfl rfl hLo rfl rfl (fun b G hb ho => zZ rfl rfl rfl HS14.1 rfl (zB hLo 14 rfl HS14.1 rfl (hb 14 (by rfl))))) ?_
                      refine zA (zH 18 rfl rfl hLo rfl rfl (fun b G hb ho => zE rfl rfl rfl HS14.1 rfl (zB hLo 12 rfl HS14.1 rfl (hb 12 (by rfl))) rfl)) ?_
                      refine zA (zC 19 _ rfl rfl hLo rfl rfl (fun _ _ _ _ => rfl) (fun b G w hb ho => zK rfl (zB hLo 12 rfl HS14.1 rfl (hb 12 (by rfl))) (rfl))) ?_
                      refine zA (zC 20 _ rfl rfl hLo rfl rfl (fun _ _ _ _ => rfl) (fun b G w hb ho => zD (.inr rfl) (zB hLo 19 rfl HS14.1 rfl (hb 19 (by rfl))))) ?_
                      exact zF
                    clear hLo
                    intro G a15 w15 hS hH
                    have HS15 : Sl a15 90 [(0, .agg (FR () 6 ((p).sc))), (1, .agg (FR () 6 ((q).sc))), (2, .string (us)), (3, .string (ot)), (4, .pointer (some ⟨g1_0, 0, none⟩)), (5, .pointer (some ⟨g1_1, 0, none⟩)), (15, .bool false), (31, .bool false), (9, .int .i64 (yC p ByteArray.empty us)), (40, .bool false), (10, .int .i64 (((p.tab zI).tell0 ot).1)), (11, .bool false), (12, .int .i64 (((q.tab zI).tell0 ot).1)), (13, .bool true), (69, .bool false), (8, .bool true)] := hS
                    have HH15 : Held w w15 [⟨g1_0, (), 6, (p).sc, 25⟩, ⟨g1_1, (), 6, (q).sc, 25⟩] := hH
                    clear hS hH HS14 HH14
                    refine then_ ?_
                    refine wp_ret ?_
                    repeat (first | refine zQ ?_ | refine zN ?_)
                    exact yH rfl HS15.2.1 (HS15.get 15 rfl) ⟨law_ret rfl, HH15.1⟩
                  · skip
                    obtain ⟨r12, hr12⟩ : ∃ r : Bool, (decide ((((p.tab zI).tell0 ot).1 : Int) < yC p ByteArray.empty us)) = r := ⟨_, rfl⟩
                    cases r12
                    · skip
                      obtain ⟨r13, hr13⟩ : ∃ r : Bool, (((((q.tab zI).tell0 ot).1 : Int) == ((p.tab zI).tell0 ot).1)) = r := ⟨_, rfl⟩
                      refine wp_seq ?_
                      have hLo : LOk [(0, 70, .val (.string (ot))), (1, 71, .val (.string (us))), (2, 72, .val (.bool false)), (3, 73, .val (.bool false)), (4, 74, .val (.bool true)), (5, 75, .val (.bool false)), (6, 76, .val (.bool false)), (7, 77, .val (.bool false)), (8, 78, .val (.int .i64 (((p.tab zI).tell0 ot).1))), (9, 79, .val (.int .i64 (yC p ByteArray.empty us))), (10, 80, .val (.bool false)), (11, 81, .val (.bool false)), (12, 82, .val (.bool false)), (13, 83, .val (.bool true)), (14, 84, .val (.bool true)), (15, 85, .val (.int .i64 (((q.tab zI).tell0 ot).1))), (16, 86, .val (.int .i64 (((p.tab zI).tell0 ot).1))), (17, 87, .val (.bool r13)), (18, 88, .val (.bool r13)), (19, 89, .val (.bool r13)), (20, 8, .val (.bool r13))] := lok (by rfl) (by rfl)
                      refine zJ (wE := w) (sz := 90) (n := 21) [0, 1, 3, 7, 15, 31, 63, 127, 255, 511, 1023, 2047, 4095, 8191, 16383, 32767, 65535, 131071, 262143, 524287, 1048575] [(0, .val (.agg (FR () 6 ((p).sc)))), (1, .val (.agg (FR () 6 ((q).sc)))), (2, .val (.string (us))), (3, .val (.string (ot))), (4, .val (.pointer (some ⟨g1_0, 0, none⟩))), (5, .val (.pointer (some ⟨g1_1, 0, none⟩))), (15, .val (.bool false)), (31, .val (.bool false)), (9, .val (.int .i64 (yC p ByteArray.empty us))), (40, .val (.bool false)), (10, .val (.int .i64 (((p.tab zI).tell0 ot).1))), (11, .val (.bool true)), (12, .val (.int .i64 (((q.tab zI).tell0 ot).1))), (13, .val (.bool true)), (69, .val (.bool false)), (8, .val (.bool r13))] [(0, 70, .val (.string (ot))), (1, 71, .val (.string (us))), (2, 72, .val (.bool false)), (3, 73, .val (.bool false)), (4, 74, .val (.bool true)), (5, 75, .val (.bool false)), (6, 76, .val (.bool false)), (7, 77, .val (.bool false)), (8, 78, .val (.int .i64 (((p.tab zI).tell0 ot).1))), (9, 79, .val (.int .i64 (yC p ByteArray.empty us))), (10, 80, .val (.bool false)), (11, 81, .val (.bool false)), (12, 82, .val (.bool false)), (13, 83, .val (.bool true)), (14, 84, .val (.bool true)), (15, 85, .val (.int .i64 (((q.tab zI).tell0 ot).1))), (16, 86, .val (.int .i64 (((p.tab zI).tell0 ot).1))), (17, 87, .val (.bool r13)), (18, 88, .val (.bool r13)), (19, 89, .val (.bool r13)), (20, 8, .val (.bool r13))] [⟨g1_0, none, none, (), 6, (p).sc, (p).sc, 25⟩, ⟨g1_1, none, none, (), 6, (q).sc, (q).sc, 25⟩] rfl (by rfl) HH14 rfl rfl hLo rfl HS14 (slS 0 rfl rfl (slS 1 rfl rfl (slS 2 rfl rfl (slS 3 rfl rfl (slS 4 rfl rfl (slS 5 rfl rfl (slS 7 rfl rfl (slS 8 rfl rfl (slS 9 rfl rfl (slS 10 rfl rfl (slS 11 rfl rfl (slS 12 rfl rfl (slS 13 rfl rfl (slS 14 rfl rfl (slS 15 rfl rfl (slL 20 (d := 20) rfl (trivial))))))))))))))))) ?_ ?_
                      · show ∀ i ∈ [0, 1, 2, 3, 4, 5, 6, 7, 8, 9, 10, 11, 12, 13, 14, 15, 16, 17, 18, 19, 20], _
                        refine zA (zC 0 _ rfl rfl hLo rfl rfl (fun _ _ _ _ => rfl) (fun b G w hb ho => zD (.inl rfl) (zG rfl (HS14.get 3 rfl)))) ?_
                        refine zA (zC 1 _ rfl rfl hLo rfl rfl (fun _ _ _ _ => rfl) (fun b G w hb ho => zD (.inl rfl) (zG rfl (HS14.get 2 rfl)))) ?_
                        refine zA (zC 2 _ rfl rfl hLo rfl rfl (fun _ _ _ _ => rfl) (fun b G w hb ho => zL rfl (zB hLo 0 rfl HS14.1 rfl (hb 0 (by rfl))) (zB hLo 1 rfl HS14.1 rfl (hb 1 (by rfl))) (rb_seql hr11 _ _ _))) ?_
                        refine zA (zC 3 _ rfl rfl hLo rfl rfl (fun _ _ _ _ => rfl) (fun b G w hb ho => zD (.inl rfl) (zB hLo 2 rfl HS14.1 rfl (hb 2 (by rfl))))) ?_
                        refine zA (zC 4 _ rfl rfl hLo rfl rfl (fun b G hb ho => zE rfl rfl rfl HS14.1 rfl (zB hLo 3 rfl HS14.1 rfl (hb 3 (by rfl))) rfl) (fun b G w hb ho => zD (.inl rfl) (zG rfl (HS14.get 12 rfl)))) ?_
                        refine zA (zC 5 _ rfl rfl hLo rfl rfl (fun b G hb ho => zE rfl rfl rfl HS14.1 rfl (zB hLo 3 rfl HS14.1 rfl (hb 3 (by rfl))) rfl) (fun b G w hb ho => yG rfl (zB hLo 4 rfl HS14.1 rfl (hb 4 (by rfl))) (ru_not _))) ?_
                        refine zA (zC 6 _ rfl rfl hLo rfl rfl (fun _ _ _ _ => rfl) (fun b G w hb ho => zK rfl (zB hLo 3 rfl HS14.1 rfl (hb 3 (by rfl))) (zB hLo 5 rfl HS14.1 rfl (hb 5 (by rfl))))) ?_
                        refine zA (zC 7 _ rfl rfl hLo rfl rfl (fun _ _ _ _ => rfl) (fun b G w hb ho => zD (.inl rfl) (zB hLo 6 rfl HS14.1 rfl (hb 6 (by rfl))))) ?_
                        refine zA (zC 8 _ rfl rfl hLo rfl rfl (fun b G hb ho => zE rfl rfl rfl HS14.1 rfl (zB hLo 7 rfl HS14.1 rfl (hb 7 (by rfl))) rfl) (fun b G w hb ho => zD (.inl rfl) (zG rfl (HS14.get 11 rfl)))) ?_
                        refine zA (zC 9 _ rfl rfl hLo rfl rfl (fun b G hb ho => zE rfl rfl rfl HS14.1 rfl (zB hLo 7 rfl HS14.1 rfl (hb 7 (by rfl))) rfl) (fun b G w hb ho => zD (.inl rfl) (zG rfl (HS14.get 9 rfl)))) ?_
                        refine zA (zC 10 _ rfl rfl hLo rfl rfl (fun b G hb ho => zE rfl rfl rfl HS14.1 rfl (zB hLo 7 rfl HS14.1 rfl (hb 7 (by rfl))) rfl) (fun b G w hb ho => zL rfl (zB hLo 8 rfl HS14.1 rfl (hb 8 (by rfl))) (zB hLo 9 rfl HS14.1 rfl (hb 9 (by rfl))) (rb_lss hr12 _ _ _))) ?_
                        refine zA (zC 11 _ rfl rfl hLo rfl rfl (fun _ _ _ _ => rfl) (fun b G w hb ho => zK rfl (zB hLo 7 rfl HS14.1 rfl (hb 7 (by rfl))) (zB hLo 10 rfl HS14.1 rfl (hb 10 (by rfl))))) ?_
                        refine zA (zC 12 _ rfl rfl hLo rfl rfl (fun _ _ _ _ => rfl) (fun b G w hb ho => zD (.inl rfl) (zB hLo 11 rfl HS14.1 rfl (hb 11 (by rfl))))) ?_
                        refine zA (zC 13 _ rfl rfl hLo rfl rfl (fun b G hb ho => zE rfl rfl rfl HS14.1 rfl (zB hLo 12 rfl HS14.1 rfl (hb 12 (by rfl))) rfl) (fun b G w hb ho => zD (.inl rfl) (zG rfl (HS14.get 14 rfl)))) ?_
                        refine zA (zC 14 _ rfl rfl hLo rfl rfl (fun b G hb ho => zE rfl rfl rfl HS14.1 rfl (zB hLo 12 rfl HS14.1 rfl (hb 12 (by rfl))) rfl) (fun b G w hb ho => zD (.inl rfl) (zB hLo 13 rfl HS14.1 rfl (hb 13 (by rfl))))) ?_
                        refine zA (zC 15 _ rfl rfl hLo rfl rfl (fun b G hb ho => zE rfl rfl rfl HS14.1 rfl (zB hLo 14 rfl HS14.1 rfl (hb 14 (by rfl))) rfl) (fun b G w hb ho => zD (.inl rfl) (zG rfl (HS14.get 13 rfl)))) ?_
                        refine zA (zC 16 _ rfl rfl hLo rfl rfl (fun b G hb ho => zE rfl rfl rfl HS14.1 rfl (zB hLo 14 rfl HS14.1 rfl (hb 14 (by rfl))) rfl) (fun b G w hb ho => zD (.inl rfl) (zG rfl (HS14.get 11 rfl)))) ?_
                        refine zA (zC 17 _ rfl rfl hLo rfl rfl (fun b G hb ho => zE rfl rfl rfl HS14.1 rfl (zB hLo 14 rfl HS14.1 rfl (hb 14 (by rfl))) rfl) (fun b G w hb ho => zL rfl (zB hLo 15 rfl HS14.1 rfl (hb 15 (by rfl))) (zB hLo 16 rfl HS14.1 rfl (hb 16 (by rfl))) (rb_eql hr13 _ _ _))) ?_
                        refine zA (zC 18 _ rfl rfl hLo rfl rfl (fun b G hb ho => zE rfl rfl rfl HS14.1 rfl (zB hLo 12 rfl HS14.1 rfl (hb 12 (by rfl))) rfl) (fun b G w hb ho => zK rfl (zB hLo 14 rfl HS14.1 rfl (hb 14 (by rfl))) (zB hLo 17 rfl HS14.1 rfl (hb 17 (by rfl))))) ?_
                        refine zA (zC 19 _ rfl rfl hLo rfl rfl (fun _ _ _ _ => rfl) (fun b G w hb ho => zK rfl (zB hLo 12 rfl HS14.1 rfl (hb 12 (by rfl))) (zB hLo 18 rfl HS14.1 rfl (hb 18 (by rfl))))) ?_
                        refine zA (zC 20 _ rfl rfl hLo rfl rfl (fun _ _ _ _ => rfl) (fun b G w hb ho => zD (.inr rfl) (zB hLo 19 rfl HS14.1 rfl (hb 19 (by rfl))))) ?_
                        exact zF
                      clear hLo
                      intro G a16 w16 hS hH
                      have HS16 : Sl a16 90 [(0, .agg (FR () 6 ((p).sc))), (1, .agg (FR () 6 ((q).sc))), (2, .string (us)), (3, .string (ot)), (4, .pointer (some ⟨g1_0, 0, none⟩)), (5, .pointer (some ⟨g1_1, 0, none⟩)), (15, .bool false), (31, .bool false), (9, .int .i64 (yC p ByteArray.empty us)), (40, .bool false), (10, .int .i64 (((p.tab zI).tell0 ot).1)), (11, .bool true), (12, .int .i64 (((q.tab zI).tell0 ot).1)), (13, .bool true), (69, .bool false), (8, .bool r13)] := hS
                      have HH16 : Held w w16 [⟨g1_0, (), 6, (p).sc, 25⟩, ⟨g1_1, (), 6, (q).sc, 25⟩] := hH
                      clear hS hH HS14 HH14
                      refine then_ ?_
                      refine wp_ret ?_
                      repeat (first | refine zQ ?_ | refine zN ?_)
                      exact yH rfl HS16.2.1 (HS16.get 15 rfl) ⟨law_ret (by rw [← hr13, (bound2 (by have hq := chg_users (other := ot) hr5; rw [hr11] at hq; exact hq) hr6 hr12).2]; exact beq_self_eq_true _), HH16.1⟩
                    · skip
                      refine wp_seq ?_
                      have hLo : LOk [(0, 70, .val (.string (ot))), (1, 71, .val (.string (us))), (2, 72, .val (.bool false)), (3, 73, .val (.bool false)), (4, 74, .val (.bool true)), (5, 75, .val (.bool false)), (6, 76, .val (.bool false)), (7, 77, .val (.bool false)), (8, 78, .val (.int .i64 (((p.tab zI).tell0 ot).1))), (9, 79, .val (.int .i64 (yC p ByteArray.empty us))), (10, 80, .val (.bool true)), (11, 81, .val (.bool true)), (12, 82, .val (.bool true)), (13, 83, .val (undef)), (14, 84, .val (undef)), (15, 85, .val (undef)), (16, 86, .val (undef)), (17, 87, .val (undef)), (18, 88, .val (undef)), (19, 89, .val (.bool true)), (20, 8, .val (.bool true))] := lok (by rfl) (by rfl)
                      refine zJ (wE := w) (sz := 90) (n := 21) [0, 1, 3, 7, 15, 31, 63, 127, 255, 511, 1023, 2047, 4095, 8191, 16383, 32767, 65535, 131071, 262143, 524287, 1048575] [(0, .val (.agg (FR () 6 ((p).sc)))), (1, .val (.agg (FR () 6 ((q).sc)))), (2, .val (.string (us))), (3, .val (.string (ot))), (4, .val (.pointer (some ⟨g1_0, 0, none⟩))), (5, .val (.pointer (some ⟨g1_1, 0, none⟩))), (15, .val (.bool false)), (31, .val (.bool false)), (9, .val (.int .i64 (yC p ByteArray.empty us))), (40, .val (.bool false)), (10, .val (.int .i64 (((p.tab zI).tell0 ot).1))), (11, .val (.bool true)), (12, .val (.int .i64 (((q.tab zI).tell0 ot).1))), (13, .val (.bool true)), (69, .val (.bool false)), (8, .val (.bool true))] [(0, 70, .val (.string (ot))), (1, 71, .val (.string (us))), (2, 72, .val (.bool false)), (3, 73, .val (.bool false)), (4, 74, .val (.bool true)), (5, 75, .val (.bool false)), (6, 76, .val (.bool false)), (7, 77, .val (.bool false)), (8, 78, .val (.int .i64 (((p.tab zI).tell0 ot).1))), (9, 79, .val (.int .i64 (yC p ByteArray.empty us))), (10, 80, .val (.bool true)), (11, 81, .val (.bool true)), (12, 82, .val (.bool true)), (13, 83, .val (undef)), (14, 84, .val (undef)), (15, 85, .val (undef)), (16, 86, .val (undef)), (17, 87, .val (undef)), (18, 88, .val (undef)), (19, 89, .val (.bool true)), (20, 8, .val (.bool true))] [⟨g1_0, none, none, (), 6, (p).sc, (p).sc, 25⟩, ⟨g1_1, none, none, (), 6, (q).sc, (q).sc, 25⟩] rfl (by rfl) HH14 rfl rfl hLo rfl HS14 (slS 0 rfl rfl (slS 1 rfl rfl (slS 2 rfl rfl (slS 3 rfl rfl (slS 4 rfl rfl (slS 5 rfl rfl (slS 7 rfl rfl (slS 8 rfl rfl (slS 9 rfl rfl (slS 10 rfl rfl (slS 11 rfl rfl (slS 12 rfl rfl (slS 13 rfl rfl (slS 14 rfl rfl (slS 15 rfl rfl (slL 20 (d := 20) rfl (trivial))))))))))))))))) ?_ ?_
                      · show ∀ i ∈ [0, 1, 2, 3, 4, 5, 6, 7, 8, 9, 10, 11, 12, 13, 14, 15, 16, 17, 18, 19, 20], _
                        refine zA (zC 0 _ rfl rfl hLo rfl rfl (fun _ _ _ _ => rfl) (fun b G w hb ho => zD (.inl rfl) (zG rfl (HS14.get 3 rfl)))) ?_
                        refine zA (zC 1 _ rfl rfl hLo rfl rfl (fun _ _ _ _ => rfl) (fun b G w hb ho => zD (.inl rfl) (zG rfl (HS14.get 2 rfl)))) ?_
                        refine zA (zC 2 _ rfl rfl hLo rfl rfl (fun _ _ _ _ => rfl) (fun b G w hb ho => zL rfl (zB hLo 0 rfl HS14.1 rfl (hb 0 (by rfl))) (zB hLo 1 rfl HS14.1 rfl (hb 1 (by rfl))) (rb_seql hr11 _ _ _))) ?_
                        refine zA (zC 3 _ rfl rfl hLo rfl rfl (fun _ _ _ _ => rfl) (fun b G w hb ho => zD (.inl rfl) (zB hLo 2 rfl HS14.1 rfl (hb 2 (by rfl))))) ?_
                        refine zA (zC 4 _ rfl rfl hLo rfl rfl (fun b G hb ho => zE rfl rfl rfl HS14.1 rfl (zB hLo 3 rfl HS14.1 rfl (hb 3 (by rfl))) rfl) (fun b G w hb ho => zD (.inl rfl) (zG rfl (HS14.get 12 rfl)))) ?_
                        refine zA (zC 5 _ rfl rfl hLo rfl rfl (fun b G hb ho => zE rfl rfl rfl HS14.1 rfl (zB hLo 3 rfl HS14.1 rfl (hb 3 (by rfl))) rfl) (fun b G w hb ho => yG rfl (zB hLo 4 rfl HS14.1 rfl (hb 4 (by rfl))) (ru_not _))) ?_
                        refine zA (zC 6 _ rfl rfl hLo rfl rfl (fun _ _ _ _ => rfl) (fun b G w hb ho => zK rfl (zB hLo 3 rfl HS14.1 rfl (hb 3 (by rfl))) (zB hLo 5 rfl HS14.1 rfl (hb 5 (by rfl))))) ?_
                        refine zA (zC 7 _ rfl rfl hLo rfl rfl (fun _ _ _ _ => rfl) (fun b G w hb ho => zD (.inl rfl) (zB hLo 6 rfl HS14.1 rfl (hb 6 (by rfl))))) ?_
                        refine zA (zC 8 _ rfl rfl hLo rfl rfl (fun b G hb ho => zE rfl rfl rfl HS14.1 rfl (zB hLo 7 rfl HS14.1 rfl (hb 7 (by rfl))) rfl) (fun b G w hb ho => zD (.inl rfl) (zG rfl (HS14.get 11 rfl)))) ?_
                        refine zA (zC 9 _ rfl rfl hLo rfl rfl (fun b G hb ho => zE rfl rfl rfl HS14.1 rfl (zB hLo 7 rfl HS14.1 rfl (hb 7 (by rfl))) rfl) (fun b G w hb ho => zD (.inl rfl) (zG rfl (HS14.get 9 rfl)))) ?_
                        refine zA (zC 10 _ rfl rfl hLo rfl rfl (fun b G hb ho => zE rfl rfl rfl HS14.1 rfl (zB hLo 7 rfl HS14.1 rfl (hb 7 (by rfl))) rfl) (fun b G w hb ho => zL rfl (zB hLo 8 rfl HS14.1 rfl (hb 8 (by rfl))) (zB hLo 9 rfl HS14.1 rfl (hb 9 (by rfl))) (rb_lss hr12 _ _ _))) ?_
                        refine zA (zC 11 _ rfl rfl hLo rfl rfl (fun _ _ _ _ => rfl) (fun b G w hb ho => zK rfl (zB hLo 7 rfl HS14.1 rfl (hb 7 (by rfl))) (zB hLo 10 rfl HS14.1 rfl (hb 10 (by rfl))))) ?_
                        refine zA (zC 12 _ rfl rfl hLo rfl rfl (fun _ _ _ _ => rfl) (fun b G w hb ho => zD (.inl rfl) (zB hLo 11 rfl HS14.1 rfl (hb 11 (by rfl))))) ?_
                        refine zA (zH 13 rfl rfl hLo rfl rfl (fun b G hb ho => zE rfl rfl rfl HS14.1 rfl (zB hLo 12 rfl HS14.1 rfl (hb 12 (by rfl))) rfl)) ?_
                        refine zA (zH 14 rfl rfl hLo rfl rfl (fun b G hb ho => zE rfl rfl rfl HS14.1 rfl (zB hLo 12 rfl HS14.1 rfl (hb 12 (by rfl))) rfl)) ?_
                        refine zA (zH 15 rfl rfl hLo rfl rfl (fun b G hb ho => zZ rfl rfl rfl HS14.1 rfl (zB hLo 14 rfl HS14.1 rfl (hb 14 (by rfl))))) ?_
                        refine zA (zH 16 rfl rfl hLo rfl rfl (fun b G hb ho => zZ rfl rfl rfl HS14.1 rfl (zB hLo 14 rfl HS14.1 rfl (hb 14 (by rfl))))) ?_
                        refine zA (zH 17 rfl rfl hLo rfl rfl (fun b G hb ho => zZ rfl rfl rfl HS14.1 rfl (zB hLo 14 rfl HS14.1 rfl (hb 14 (by rfl))))) ?_
                        refine zA (zH 18 rfl rfl hLo rfl rfl (fun b G hb ho => zE rfl rfl rfl HS14.1 rfl (zB hLo 12 rfl HS14.1 rfl (hb 12 (by rfl))) rfl)) ?_
                        refine zA (zC 19 _ rfl rfl hLo rfl rfl (fun _ _ _ _ => rfl) (fun b G w hb ho => zK rfl (zB hLo 12 rfl HS14.1 rfl (hb 12 (by rfl))) (rfl))) ?_
                        refine zA (zC 20 _ rfl rfl hLo rfl rfl (fun _ _ _ _ => rfl) (fun b G w hb ho => zD (.inr rfl) (zB hLo 19 rfl HS14.1 rfl (hb 19 (by rfl))))) ?_
                        exact zF
                      clear hLo
                      intro G a17 w17 hS hH
                      have HS17 : Sl a17 90 [(0, .agg (FR () 6 ((p).sc))), (1, .agg (FR () 6 ((q).sc))), (2, .string (us)), (3, .string (ot)), (4, .pointer (some ⟨g1_0, 0, none⟩)), (5, .pointer (some ⟨g1_1, 0, none⟩)), (15, .bool false), (31, .bool false), (9, .int .i64 (yC p ByteArray.empty us)), (40, .bool false), (10, .int .i64 (((p.tab zI).tell0 ot).1)), (11, .bool true), (12, .int .i64 (((q.tab zI).tell0 ot).1)), (13, .bool true), (69, .bool false), (8, .bool true)] := hS
                      have HH17 : Held w w17 [⟨g1_0, (), 6, (p).sc, 25⟩, ⟨g1_1, (), 6, (q).sc, 25⟩] := hH
                      clear hS hH HS14 HH14
                      refine then_ ?_
                      refine wp_ret ?_
                      repeat (first | refine zQ ?_ | refine zN ?_)
                      exact yH rfl HS17.2.1 (HS17.get 15 rfl) ⟨law_ret rfl, HH17.1⟩
                · skip
                  refine wp_seq ?_
                  have hLo : LOk [(0, 70, .val (.string (ot))), (1, 71, .val (.string (us))), (2, 72, .val (.bool true)), (3, 73, .val (.bool true)), (4, 74, .val (undef)), (5, 75, .val (undef)), (6, 76, .val (.bool true)), (7, 77, .val (.bool true)), (8, 78, .val (undef)), (9, 79, .val (undef)), (10, 80, .val (undef)), (11, 81, .val (.bool true)), (12, 82, .val (.bool true)), (13, 83, .val (undef)), (14, 84, .val (undef)), (15, 85, .val (undef)), (16, 86, .val (undef)), (17, 87, .val (undef)), (18, 88, .val (undef)), (19, 89, .val (.bool true)), (20, 8, .val (.bool true))] := lok (by rfl) (by rfl)
                  refine zJ (wE := w) (sz := 90) (n := 21) [0, 1, 3, 7, 15, 31, 63, 127, 255, 511, 1023, 2047, 4095, 8191, 16383, 32767, 65535, 131071, 262143, 524287, 1048575] [(0, .val (.agg (FR () 6 ((p).sc)))), (1, .val (.agg (FR () 6 ((q).sc)))), (2, .val (.string (us))), (3, .val (.string (ot))), (4, .val (.pointer (some ⟨g1_0, 0, none⟩))), (5, .val (.pointer (some ⟨g1_1, 0, none⟩))), (15, .val (.bool false)), (31, .val (.bool false)), (9, .val (.int .i64 (yC p ByteArray.empty us))), (40, .val (.bool false)), (10, .val (.int .i64 (((p.tab zI).tell0 ot).1))), (11, .val (.bool r6)), (12, .val (.int .i64 (((q.tab zI).tell0 ot).1))), (13, .val (.bool true)), (69, .val (.bool false)), (8, .val (.bool true))] [(0, 70, .val (.string (ot))), (1, 71, .val (.string (us))), (2, 72, .val (.bool true)), (3, 73, .val (.bool true)), (4, 74, .val (undef)), (5, 75, .val (undef)), (6, 76, .val (.bool true)), (7, 77, .val (.bool true)), (8, 78, .val (undef)), (9, 79, .val (undef)), (10, 80, .val (undef)), (11, 81, .val (.bool true)), (12, 82, .val (.bool true)), (13, 83, .val (undef)), (14, 84, .val (undef)), (15, 85, .val (undef)), (16, 86, .val (undef)), (17, 87, .val (undef)), (18, 88, .val (undef)), (19, 89, .val (.bool true)), (20, 8, .val (.bool true))] [⟨g1_0, none, none, (), 6, (p).sc, (p).sc, 25⟩, ⟨g1_1, none, none, (), 6, (q).sc, (q).sc, 25⟩] rfl (by rfl) HH14 rfl rfl hLo rfl HS14 (slS 0 rfl rfl (slS 1 rfl rfl (slS 2 rfl rfl (slS 3 rfl rfl (slS 4 rfl rfl (slS 5 rfl rfl (slS 7 rfl rfl (slS 8 rfl rfl (slS 9 rfl rfl (slS 10 rfl rfl (slS 11 rfl rfl (slS 12 rfl rfl (slS 13 rfl rfl (slS 14 rfl rfl (slS 15 rfl rfl (slL 20 (d := 20) rfl (trivial))))))))))))))))) ?_ ?_
                  · show ∀ i ∈ [0, 1, 2, 3, 4, 5, 6, 7, 8, 9, 10, 11, 12, 13, 14, 15, 16, 17, 18, 19, 20], _
                    refine zA (zC 0 _ rfl rfl hLo rfl rfl (fun _ _ _ _ => rfl) (fun b G w hb ho => zD (.inl rfl) (zG rfl (HS14.get 3 rfl)))) ?_
                    refine zA (zC 1 _ rfl rfl hLo rfl rfl (fun _ _ _ _ => rfl) (fun b G w hb ho => zD (.inl rfl) (zG rfl (HS14.get 2 rfl)))) ?_
                    refine zA (zC 2 _ rfl rfl hLo rfl rfl (fun _ _ _ _ => rfl) (fun b G w hb ho => zL rfl (zB hLo 0 rfl HS14.1 rfl (hb 0 (by rfl))) (zB hLo 1 rfl HS14.1 rfl (hb 1 (by rfl))) (rb_seql hr11 _ _ _))) ?_
                    refine zA (zC 3 _ rfl rfl hLo rfl rfl (fun _ _ _ _ => rfl) (fun b G w hb ho => zD (.inl rfl) (zB hLo 2 rfl HS14.1 rfl (hb 2 (by rfl))))) ?_
                    refine zA (zH 4 rfl rfl hLo rfl rfl (fun b G hb ho => zE rfl rfl rfl HS14.1 rfl (zB hLo 3 rfl HS14.1 rfl (hb 3 (by rfl))) rfl)) ?_
                    refine zA (zH 5 rfl rfl hLo rfl rfl (fun b G hb ho => zE rfl rfl rfl HS14.1 rfl (zB hLo 3 rfl HS14.1 rfl (hb 3 (by rfl))) rfl)) ?_
                    refine zA (zC 6 _ rfl rfl hLo rfl rfl (fun _ _ _ _ => rfl) (fun b G w hb ho => zK rfl (zB hLo 3 rfl HS14.1 rfl (hb 3 (by rfl))) (rfl))) ?_
                    refine zA (zC 7 _ rfl rfl hLo rfl rfl (fun _ _ _ _ => rfl) (fun b G w hb ho => zD (.inl rfl) (zB hLo 6 rfl HS14.1 rfl (hb 6 (by rfl))))) ?_
                    refine zA (zH 8 rfl rfl hLo rfl rfl (fun b G hb ho => zE rfl rfl rfl HS14.1 rfl (zB hLo 7 rfl HS14.1 rfl (hb 7 (by rfl))) rfl)) ?_
                    refine zA (zH 9 rfl rfl hLo rfl rfl (fun b G hb ho => zE rfl rfl rfl HS14.1 rfl (zB hLo 7 rfl HS14.1 rfl (hb 7 (by rfl))) rfl)) ?_
                    refine zA (zH 10 rfl rfl hLo rfl rfl (fun b G hb ho => zE rfl rfl rfl HS14.1 rfl (zB hLo 7 rfl HS14.1 rfl (hb 7 (by rfl))) rfl)) ?_
                    refine zA (zC 11 _ rfl rfl hLo rfl rfl (fun _ _ _ _ => rfl) (fun b G w hb ho => zK rfl (zB hLo 7 rfl HS14.1 rfl (hb 7 (by rfl))) (rfl))) ?_
                    refine zA (zC 12 _ rfl rfl hLo rfl rfl (fun _ _ _ _ => rfl) (fun b G w hb ho => zD (.inl rfl) (zB hLo 11 rfl HS14.1 rfl (hb 11 (by rfl))))) ?_
                    refine zA (zH 13 rfl rfl hLo rfl rfl (fun b G hb ho => zE rfl rfl rfl HS14.1 rfl (zB hLo 12 rfl HS14.1 rfl (hb 12 (by rfl))) rfl)) ?_
                    refine zA (zH 14 rfl rfl hLo rfl rfl (fun b G hb ho => zE rfl rfl rfl HS14.1 rfl (zB hLo 12 rfl HS14.1 rfl (hb 12 (by rfl))) rfl)) ?_
                    refine zA (zH 15 rfl rfl hLo rfl rfl (fun b G hb ho => zZ rfl rfl rfl HS14.1 rfl (zB hLo 14 rfl HS14.1 rfl (hb 14 (by rfl))))) ?_
                    refine zA (zH 16 rfl rfl hLo rfl rfl (fun b G hb ho => zZ rfl rfl rfl HS14.1 rfl (zB hLo 14 rfl HS14.1 rfl (hb 14 (by rfl))))) ?_
                    refine zA (zH 17 rfl rfl hLo rfl rfl (fun b G hb ho => zZ rfl rfl rfl HS14.1 rfl (zB hLo 14 rfl HS14.1 rfl (hb 14 (by rfl))))) ?_
                    refine zA (zH 18 rfl rfl hLo rfl rfl (fun b G hb ho => zE rfl rfl rfl HS14.1 rfl (zB hLo 12 rfl HS14.1 rfl (hb 12 (by rfl))) rfl)) ?_
                    refine zA (zC 19 _ rfl rfl hLo rfl rfl (fun _ _ _ _ => rfl) (fun b G w hb ho => zK rfl (zB hLo 12 rfl HS14.1 rfl (hb 12 (by rfl))) (rfl))) ?_
                    refine zA (zC 20 _ rfl rfl hLo rfl rfl (fun _ _ _ _ => rfl) (fun b G w hb ho => zD (.inr rfl) (zB hLo 19 rfl HS14.1 rfl (hb 19 (by rfl))))) ?_
                    exact zF
                  clear hLo
                  intro G a18 w18 hS hH
                  have HS18 : Sl a18 90 [(0, .agg (FR () 6 ((p).sc))), (1, .agg (FR () 6 ((q).sc))), (2, .string (us)), (3, .string (ot)), (4, .pointer (some ⟨g1_0, 0, none⟩)), (5, .pointer (some ⟨g1_1, 0, none⟩)), (15, .bool false), (31, .bool false), (9, .int .i64 (yC p ByteArray.empty us)), (40, .bool false), (10, .int .i64 (((p.tab zI).tell0 ot).1)), (11, .bool r6), (12, .int .i64 (((q.tab zI).tell0 ot).1)), (13, .bool true), (69, .bool false), (8, .bool true)] := hS
                  have HH18 : Held w w18 [⟨g1_0, (), 6, (p).sc, 25⟩, ⟨g1_1, (), 6, (q).sc, 25⟩] := hH
                  clear hS hH HS14 HH14
                  refine then_ ?_
                  refine wp_ret ?_
                  repeat (first | refine zQ ?_ | refine zN ?_)
                  exact yH rfl HS18.2.1 (HS18.get 15 rfl) ⟨law_ret rfl, HH18.1⟩
              · skip
                cases r6
                · skip
                  refine wp_seq ?_
                  have hLo : LOk [(0, 55, .val (.bool true)), (1, 56, .val (.bool true)), (2, 57, .val (.int .i64 (((q.tab zI).tell0 ot).1))), (3, 58, .val (.int .i64 (yC p ByteArray.empty us))), (4, 59, .val (.bool true)), (5, 60, .val (.bool true)), (6, 61, .val (.bool true)), (7, 62, .val (.bool false)), (8, 63, .val (.bool true)), (9, 64, .val (.bool true)), (10, 65, .val (undef)), (11, 66, .val (undef)), (12, 67, .val (undef)), (13, 68, .val (.bool true)), (14, 69, .val (.bool true))] := lok (by rfl) (by rfl)
                  refine zJ (wE := w) (sz := 90) (n := 15) [0, 1, 3, 7, 15, 31, 63, 127, 255, 511, 1023, 2047, 4095, 8191, 16383] [(0, .val (.agg (FR () 6 ((p).sc)))), (1, .val (.agg (FR () 6 ((q).sc)))), (2, .val (.string (us))), (3, .val (.string (ot))), (4, .val (.pointer (some ⟨g1_0, 0, none⟩))), (5, .val (.pointer (some ⟨g1_1, 0, none⟩))), (8, .val (.bool false)), (15, .val (.bool false)), (31, .val (.bool false)), (9, .val (.int .i64 (yC p ByteArray.empty us))), (40, .val (.bool false)), (10, .val (.int .i64 (((p.tab zI).tell0 ot).1))), (11, .val (.bool false)), (12, .val (.int .i64 (((q.tab zI).tell0 ot).1))), (13, .val (.bool true)), (69, .val (.bool true))] [(0, 55, .val (.bool true)), (1, 56, .val (.bool true)), (2, 57, .val (.int .i64 (((q.tab zI).tell0 ot).1))), (3, 58, .val (.int .i64 (yC p ByteArray.empty us))), (4, 59, .val (.bool true)), (5, 60, .val (.bool true)), (6, 61, .val (.bool true)), (7, 62, .val (.bool false)), (8, 63, .val (.bool true)), (9, 64, .val (.bool true)), (10, 65, .val (undef)), (11, 66, .val (undef)), (12, 67, .val (undef)), (13, 68, .val (.bool true)), (14, 69, .val (.bool true))] [⟨g1_0, none, none, (), 6, (p).sc, (p).sc, 25⟩, ⟨g1_1, none, none, (), 6, (q).sc, (q).sc, 25⟩] rfl (by rfl) HH8 rfl rfl hLo rfl HS8 (slS 0 rfl rfl (slS 1 rfl rfl (slS 2 rfl rfl (slS 3 rfl rfl (slS 4 rfl rfl (slS 5 rfl rfl (slS 6 rfl rfl (slS 7 rfl rfl (slS 8 rfl rfl (slS 9 rfl rfl (slS 10 rfl rfl (slS 11 rfl rfl (slS 12 rfl rfl (slS 13 rfl rfl (slS 14 rfl rfl (slL 14 (d := 14) rfl (trivial))))))))))))))))) ?_ ?_
                  · show ∀ i ∈ [0, 1, 2, 3, 4, 5, 6, 7, 8, 9, 10, 11, 12, 13, 14], _
                    refine zA (zC 0 _ rfl rfl hLo rfl rfl (fun _ _ _ _ => rfl) (fun b G w hb ho => zD (.inl rfl) (zG rfl (HS8.get 14 rfl)))) ?_
                    refine zA (zC 1 _ rfl rfl hLo rfl rfl (fun _ _ _ _ => rfl) (fun b G w hb ho => zD (.inl rfl) (zB hLo 0 rfl HS8.1 rfl (hb 0 (by rfl))))) ?_
                    refine zA (zC 2 _ rfl rfl hLo rfl rfl (fun b G hb ho => zE rfl rfl rfl HS8.1 rfl (zB hLo 1 rfl HS8.1 rfl (hb 1 (by rfl))) rfl) (fun b G w hb ho => zD (.inl rfl) (zG rfl (HS8.get 13 rfl)))) ?_
                    refine zA (zC 3 _ rfl rfl hLo rfl rfl (fun b G hb ho => zE rfl rfl rfl HS8.1 rfl (zB hLo 1 rfl HS8.1 rfl (hb 1 (by rfl))) rfl) (fun b G w hb ho => zD (.inl rfl) (zG rfl (HS8.get 9 rfl)))) ?_
                    refine zA (zC 4 _ rfl rfl hLo rfl rfl (fun b G hb ho => zE rfl rfl rfl HS8.1 rfl (zB hLo 1 rfl HS8.1 rfl (hb 1 (by rfl))) rfl) (fun b G w hb ho => zL rfl (zB hLo 2 rfl HS8.1 rfl (hb 2 (by rfl))) (zB hLo 3 rfl HS8.1 rfl (hb 3 (by rfl))) (rb_gtr hr10 _ _ _))) ?_
                    refine zA (zC 5 _ rfl rfl hLo rfl rfl (fun _ _ _ _ => rfl) (fun b G w hb ho => zK rfl (zB hLo 1 rfl HS8.1 rfl (hb 1 (by rfl))) (zB hLo 4 rfl HS8.1 rfl (hb 4 (by rfl))))) ?_
                    refine zA (zC 6 _ rfl rfl hLo rfl rfl (fun _ _ _ _ => rfl) (fun b G w hb ho => zD (.inl rfl) (zB hLo 5 rfl HS8.1 rfl (hb 5 (by rfl))))) ?_
                    refine zA (zC 7 _ rfl rfl hLo rfl rfl (fun b G hb ho => zE rfl rfl rfl HS8.1 rfl (zB hLo 6 rfl HS8.1 rfl (hb 6 (by rfl))) rfl) (fun b G w hb ho => zD (.inl rfl) (zG rfl (HS8.get 12 rfl)))) ?_
                    refine zA (zC 8 _ rfl rfl hLo rfl rfl (fun b G hb ho => zE rfl rfl rfl HS8.1 rfl (zB hLo 6 rfl HS8.1 rfl (hb 6 (by rfl))) rfl) (fun b G w hb ho => yG rfl (zB hLo 7 rfl HS8.1 rfl (hb 7 (by rfl))) (ru_not _))) ?_
                    refine zA (zC 9 _ rfl rfl hLo rfl rfl (fun b G hb ho => zE rfl rfl rfl HS8.1 rfl (zB hLo 6 rfl HS8.1 rfl (hb 6 (by rfl))) rfl) (fun b G w hb ho => zD (.inl rfl) (zB hLo 8 rfl HS8.1 rfl (hb 8 (by rfl))))) ?_
                    refine zA (zH 10 rfl rfl hLo rfl rfl (fun b G hb ho => zE rfl rfl rfl HS8.1 rfl (zB hLo 9 rfl HS8.1 rfl (hb 9 (by rfl))) rfl)) ?_
                    refine zA (zH 11 rfl rfl hLo rfl rfl (fun b G hb ho => zE rfl rfl rfl HS8.1 rfl (zB hLo 9 rfl HS8.1 rfl (hb 9 (by rfl))) rfl)) ?_
                    refine zA (zH 12 rfl rfl hLo rfl rfl (fun b G hb ho => zE rfl rfl rfl HS8.1 rfl (zB hLo 9 rfl HS8.1 rfl (hb 9 (by rfl))) rfl)) ?_
                    refine zA (zC 13 _ rfl rfl hLo rfl rfl (fun b G hb ho => zE rfl rfl rfl HS8.1 rfl (zB hLo 6 rfl HS8.1 rfl (hb 6 (by rfl))) rfl) (fun b G w hb ho => zK rfl (zB hLo 9 rfl HS8.1 rfl (hb 9 (by rfl))) (rfl))) ?_
                    refine zA (zC 14 _ rfl rfl hLo rfl rfl (fun _ _ _ _ => rfl) (fun b G w hb ho => zK rfl (zB hLo 6 rfl HS8.1 rfl (hb 6 (by rfl))) (zB hLo 13 rfl HS8.1 rfl (hb 13 (by rfl))))) ?_
                    exact zF
                  clear hLo
                  intro G a19 w19 hS hH
                  have HS19 : Sl a19 90 [(0, .agg (FR () 6 ((p).sc))), (1, .agg (FR () 6 ((q).sc))), (2, .string (us)), (3, .string (ot)), (4, .pointer (some ⟨g1_0, 0, none⟩)), (5, .pointer (some ⟨g1_1, 0, none⟩)), (8, .bool false), (15, .bool false), (31, .bool false), (9, .int .i64 (yC p ByteArray.empty us)), (40, .bool false), (10, .int .i64 (((p.tab zI).tell0 ot).1)), (11, .bool false), (12, .int .i64 (((q.tab zI).tell0 ot).1)), (13, .bool true), (69, .bool true)] := hS
                  have HH19 : Held w w19 [⟨g1_0, (), 6, (p).sc, 25⟩, ⟨g1_1, (), 6, (q).sc, 25⟩] := hH
                  clear hS hH HS8 HH8
                  refine then_ ?_
                  refine wp_cond_true (HS19.get 15 rfl) ?_
                  refine wp_seq ?_
                  have hLo : LOk [(0, 8, .val (.bool false))] := lok (by rfl) (by rfl)
                  refine zJ (wE := w) (sz := 90) (n := 1) [0] [(0, .val (.agg (FR () 6 ((p).sc)))), (1, .val (.agg (FR () 6 ((q).sc)))), (2, .val (.string (us))), (3, .val (.string (ot))), (4, .val (.pointer (some ⟨g1_0, 0, none⟩))), (5, .val (.pointer (some ⟨g1_1, 0, none⟩))), (15, .val (.bool false)), (31, .val (.bool false)), (9, .val (.int .i64 (yC p ByteArray.empty us))), (40, .val (.bool false)), (10, .val (.int .i64 (((p.tab zI).tell0 ot).1))), (11, .val (.bool false)), (12, .val (.int .i64 (((q.tab zI).tell0 ot).1))), (13, .val (.bool true)), (69, .val (.bool true)), (8, .val (.bool false))] [(0, 8, .val (.bool false))] [⟨g1_0, none, none, (), 6, (p).sc, (p).sc, 25⟩, ⟨g1_1, none, none, (), 6, (q).sc, (q).sc, 25⟩] rfl (by rfl) HH19 rfl rfl hLo rfl HS19 (slS 0 rfl rfl (slS 1 rfl rfl (slS 2 rfl rfl (slS 3 rfl rfl (slS 4 rfl rfl (slS 5 rfl rfl (slS 7 rfl rfl (slS 8 rfl rfl (slS 9 rfl rfl (slS 10 rfl rfl (slS 11 rfl rfl (slS 12 rfl rfl (slS 13 rfl rfl (slS 14 rfl rfl (slS 15 rfl rfl (slL 0 (d := 0) rfl (trivial))))))))))))))))) ?_ ?_
                  · show ∀ i ∈ [0], _
                    refine zA (zC 0 _ rfl rfl hLo rfl rfl (fun _ _ _ _ => rfl) (fun b G w hb ho => zD (.inr rfl) (rfl))) ?_
                    exact zF
                  clear hLo
                  intro G a20 w20 hS hH
                  have HS20 : Sl a20 90 [(0, .agg (FR () 6 ((p).sc))), (1, .agg (FR () 6 ((q).sc))), (2, .string (us)), (3, .string (ot)), (4, .pointer (some ⟨g1_0, 0, none⟩)), (5, .pointer (some ⟨g1_1, 0, none⟩)), (15, .bool false), (31, .bool false), (9, .int .i64 (yC p ByteArray.empty us)), (40, .bool false), (10, .int .i64 (((p.tab zI).tell0 ot).1)), (11, .bool false), (12, .int .i64 (((q.tab zI).tell0 ot).1)), (13, .bool true), (69, .bool true), (8, .bool false)] := hS
                  have HH20 : Held w w20 [⟨g1_0, (), 6, (p).sc, 25⟩, ⟨g1_1, (), 6, (q).sc, 25⟩] := hH
                  clear hS hH HS19 HH19
                  refine then_ ?_
                  refine wp_ret ?_
                  repeat (first | refine zQ ?_ | refine zN ?_)
                  exact yH rfl HS20.2.1 (HS20.get 15 rfl) ⟨(bound1 (chg_users (other := ot) hr5) hr7 hr10 (.inl hr6)).elim, HH20.1⟩
                · skip
                  obtain ⟨r14, hr14⟩ : ∃ r : Bool, (((((p.tab zI).tell0 ot).1 : Int) != ((q.tab zI).tell0 ot).1)) = r := ⟨_, rfl⟩
                  refine wp_seq ?_
                  have hLo : LOk [(0, 55, .val (.bool true)), (1, 56, .val (.bool true)), (2, 57, .val (.int .i64 (((q.tab zI).tell0 ot).1))), (3, 58, .val (.int .i64 (yC p ByteArray.empty us))), (4, 59, .val (.bool true)), (5, 60, .val (.bool true)), (6, 61, .val (.bool true)), (7, 62, .val (.bool true)), (8, 63, .val (.bool false)), (9, 64, .val (.bool false)), (10, 65, .val (.int .i64 (((p.tab zI).tell0 ot).1))), (11, 66, .val (.int .i64 (((q.tab zI).tell0 ot).1))), (12, 67, .val (.bool r14)), (13, 68, .val (.bool r14)), (14, 69, .val (.bool r14))] := lok (by rfl) (by rfl)
                  refine zJ (wE := w) (sz := 90) (n := 15) [0, 1, 3, 7, 15, 31, 63, 127, 255, 511, 1023, 2047, 4095, 8191, 16383] [(0, .val (.agg (FR () 6 ((p).sc)))), (1, .val (.agg (FR () 6 ((q).sc)))), (2, .val (.string (us))), (3, .val (.string (ot))), (4, .val (.pointer (some ⟨g1_0, 0, none⟩))), (5, .val (.pointer (some ⟨g1_1, 0, none⟩))), (8, .val (.bool false)), (15, .val (.bool false)), (31, .val (.bool false)), (9, .val (.int .i64 (yC p ByteArray.empty us))), (40, .val (.bool false)), (10, .val (.int .i64 (((p.tab zI).tell0 ot).1))), (11, .val (.bool true)), (12, .val (.int .i64 (((q.tab zI).tell0 ot).1))), (13, .val (.bool true)), (69, .val (.bool r14))] [(0, 55, .val (.bool true)), (1, 56, .val (.bool true)), (2, 57, .val (.int .i64 (((q.tab zI).tell0 ot).1))), (3, 58, .val (.int .i64 (yC p ByteArray.empty us))), (4, 59, .val (.bool true)), (5, 60, .val (.bool true)), (6, 61, .val (.bool true)), (7, 62, .val (.bool true)), (8, 63, .val (.bool false)), (9, 64, .val (.bool false)), (10, 65, .val (.int .i64 (((p.tab zI).tell0 ot).1))), (11, 66, .val (.int .i64 (((q.tab zI).tell0 ot).1))), (12, 67, .val (.bool r14)), (13, 68, .val (.bool r14)), (14, 69, .val (.bool r14))] [⟨g1_0, none, none, (), 6, (p).sc, (p).sc, 25⟩, ⟨g1_1, none, none, (), 6, (q).sc, (q).sc, 25⟩] rfl (by rfl) HH8 rfl rfl hLo rfl HS8 (slS 0 rfl rfl (slS 1 rfl rfl (slS 2 rfl rfl (slS 3 rfl rfl (slS 4 rfl rfl (slS 5 rfl rfl (slS 6 rfl rfl (slS 7 rfl rfl (slS 8 rfl rfl (slS 9 rfl rfl (slS 10 rfl rfl (slS 11 rfl rfl (slS 12 rfl rfl (slS 13 rfl rfl (slS 14 rfl rfl (slL 14 (d := 14) rfl (trivial))))))))))))))))) ?_ ?_
                  · show ∀ i ∈ [0, 1, 2, 3, 4, 5, 6, 7, 8, 9, 10, 11, 12, 13, 14], _
                    refine zA (zC 0 _ rfl rfl hLo rfl rfl (fun _ _ _ _ => rfl) (fun b G w hb ho => zD (.inl rfl) (zG rfl (HS8.get 14 rfl)))) ?_
                    refine zA (zC 1 _ rfl rfl hLo rfl rfl (fun _ _ _ _ => rfl) (fun b G w hb ho => zD (.inl rfl) (zB hLo 0 rfl HS8.1 rfl (hb 0 (by rfl))))) ?_
                    refine zA (zC 2 _ rfl rfl hLo rfl rfl (fun b G hb ho => zE rfl rfl rfl HS8.1 rfl (zB hLo 1 rfl HS8.1 rfl (hb 1 (by rfl))) rfl) (fun b G w hb ho => zD (.inl rfl) (zG rfl (HS8.get 13 rfl)))) ?_
                    refine zA (zC 3 _ rfl rfl hLo rfl rfl (fun b G hb ho => zE rfl rfl rfl HS8.1 rfl (zB hLo 1 rfl HS8.1 rfl (hb 1 (by rfl))) rfl) (fun b G w hb ho => zD (.inl rfl) (zG rfl (HS8.get 9 rfl)))) ?_
                    refine zA (zC 4 _ rfl rfl hLo rfl rfl (fun b G hb ho => zE rfl rfl rfl HS8.1 rfl (zB hLo 1 rfl HS8.1 rfl (hb 1 (by rfl))) rfl) (fun b G w hb ho => zL rfl (zB hLo 2 rfl HS8.1 rfl (hb 2 (by rfl))) (zB hLo 3 rfl HS8.1 rfl (hb 3 (by rfl))) (rb_gtr hr10 _ _ _))) ?_
                    refine zA (zC 5 _ rfl rfl hLo rfl rfl (fun _ _ _ _ => rfl) (fun b G w hb ho => zK rfl (zB hLo 1 rfl HS8.1 rfl (hb 1 (by rfl))) (zB hLo 4 rfl HS8.1 rfl (hb 4 (by rfl))))) ?_
                    refine zA (zC 6 _ rfl rfl hLo rfl rfl (fun _ _ _ _ => rfl) (fun b G w hb ho => zD (.inl rfl) (zB hLo 5 rfl HS8.1 rfl (hb 5 (by rfl))))) ?_
                    refine zA (zC 7 _ rfl rfl hLo rfl rfl (fun b G hb ho => zE rfl rfl rfl HS8.1 rfl (zB hLo 6 rfl HS8.1 rfl (hb 6 (by rfl))) rfl) (fun b G w hb ho => zD (.inl rfl) (zG rfl (HS8.get 12 rfl)))) ?_
                    refine zA (zC 8 _ rfl rfl hLo rfl rfl (fun b G hb ho => zE rfl rfl rfl HS8.1 rfl (zB hLo 6 rfl HS8.1 rfl (hb 6 (by rfl))) rfl) (fun b G w hb ho => yG rfl (zB hLo 7 rfl HS8.1 rfl (hb 7 (by rfl))) (ru_not _))) ?_
                    refine zA (zC 9 _ rfl rfl hLo rfl rfl (fun b G hb ho => zE rfl rfl rfl HS8.1 rfl (zB hLo 6 rfl HS8.1 rfl (hb 6 (by rfl))) rfl) (fun b G w hb ho => zD (.inl rfl) (zB hLo 8 rfl HS8.1 rfl (hb 8 (by rfl))))) ?_
                    refine zA (zC 10 _ rfl rfl hLo rfl rfl (fun b G hb ho => zE rfl rfl rfl HS8.1 rfl (zB hLo 9 rfl HS8.1 rfl (hb 9 (by rfl))) rfl) (fun b G w hb ho => zD (.inl rfl) (zG rfl (HS8.get 11 rfl)))) ?_
                    refine zA (zC 11 _ rfl rfl hLo rfl rfl (fun b G hb ho => zE rfl rfl rfl HS8.1 rfl (zB hLo 9 rfl HS8.1 rfl (hb 9 (by rfl))) rfl) (fun b G w hb ho => zD (.inl rfl) (zG rfl (HS8.get 13 rfl)))) ?_
                    refine zA (zC 12 _ rfl rfl hLo rfl rfl (fun b G hb ho => zE rfl rfl rfl HS8.1 rfl (zB hLo 9 rfl HS8.1 rfl (hb 9 (by rfl))) rfl) (fun b G w hb ho => zL rfl (zB hLo 10 rfl HS8.1 rfl (hb 10 (by rfl))) (zB hLo 11 rfl HS8.1 rfl (hb 11 (by rfl))) (rb_neq hr14 _ _ _))) ?_
                    refine zA (zC 13 _ rfl rfl hLo rfl rfl (fun b G hb ho => zE rfl rfl rfl HS8.1 rfl (zB hLo 6 rfl HS8.1 rfl (hb 6 (by rfl))) rfl) (fun b G w hb ho => zK rfl (zB hLo 9 rfl HS8.1 rfl (hb 9 (by rfl))) (zB hLo 12 rfl HS8.1 rfl (hb 12 (by rfl))))) ?_
                    refine zA (zC 14 _ rfl rfl hLo rfl rfl (fun _ _ _ _ => rfl) (fun b G w hb ho => zK rfl (zB hLo 6 rfl HS8.1 rfl (hb 6 (by rfl))) (zB hLo 13 rfl HS8.1 rfl (hb 13 (by rfl))))) ?_
                    exact zF
                  clear hLo
                  intro G a21 w21 hS hH
                  have HS21 : Sl a21 90 [(0, .agg (FR () 6 ((p).sc))), (1, .agg (FR () 6 ((q).sc))), (2, .string (us)), (3, .string (ot)), (4, .pointer (some ⟨g1_0, 0, none⟩)), (5, .pointer (some ⟨g1_1, 0, none⟩)), (8, .bool false), (15, .bool false), (31, .bool false), (9, .int .i64 (yC p ByteArray.empty us)), (40, .bool false), (10, .int .i64 (((p.tab zI).tell0 ot).1)), (11, .bool true), (12, .int .i64 (((q.tab zI).tell0 ot).1)), (13, .bool true), (69, .bool r14)] := hS
                  have HH21 : Held w w21 [⟨g1_0, (), 6, (p).sc, 25⟩, ⟨g1_1, (), 6, (q).sc, 25⟩] := hH
                  clear hS hH HS8 HH8
                  refine then_ ?_
                  cases r14
                  · skip
                    refine wp_cond_false (HS21.get 15 rfl) ?_
                    refine wp_skip ?_
                    refine then_ ?_
                    obtain ⟨r15, hr15⟩ : ∃ r : Bool, (decide ((ot : ByteArray) = us)) = r := ⟨_, rfl⟩
                    cases r15
                    · skip
                      obtain ⟨r16, hr16⟩ : ∃ r : Bool, (decide ((((p.tab zI).tell0 ot).1 : Int) < yC p ByteArray.empty us)) = r := ⟨_, rfl⟩
                      cases r16
                      · skip
                        obtain ⟨r17, hr17⟩ : ∃ r : Bool, (((((q.tab zI).tell0 ot).1 : Int) == ((p.tab zI).tell0 ot).1)) = r := ⟨_, rfl⟩
                        refine wp_seq ?_
                        have hLo : LOk [(0, 70, .val (.string (ot))), (1, 71, .val (.string (us))), (2, 72, .val (.bool false)), (3, 73, .val (.bool false)), (4, 74, .val (.bool true)), (5, 75, .val (.bool false)), (6, 76, .val (.bool false)), (7, 77, .val (.bool false)), (8, 78, .val (.int .i64 (((p.tab zI).tell0 ot).1))), (9, 79, .val (.int .i64 (yC p ByteArray.empty us))), (10, 80, .val (.bool false)), (11, 81, .val (.bool false)), (12, 82, .val (.bool false)), (13, 83, .val (.bool true)), (14, 84, .val (.bool true)), (15, 85, .val (.int .i64 (((q.tab zI).tell0 ot).1))), (16, 86, .val (.int .i64 (((p.tab zI).tell0 ot).1))), (17, 87, .val (.bool r17)), (18, 88, .val (.bool r17)), (19, 89, .val (.bool r17)), (20, 8, .val (.bool r17))] := lok (by rfl) (by rfl)
                        refine zJ (wE := w) (sz := 90) (n := 21) [0, 1, 3, 7, 15, 31, 63, 127, 255, 511, 1023, 2047, 4095, 8191, 16383, 32767, 65535, 131071, 262143, 524287, 1048575] [(0, .val (.agg (FR () 6 ((p).sc)))), (1, .val (.agg (FR () 6 ((q).sc)))), (2, .val (.string (us))), (3, .val (.string (ot))), (4, .val (.pointer (some ⟨g1_0, 0, none⟩))), (5, .val (.pointer (some ⟨g1_1, 0, none⟩))), (15, .val (.bool false)), (31, .val (.bool false)), (9, .val (.int .i64 (yC p ByteArray.empty us))), (40, .val (.bool false)), (10, .val (.int .i64 (((p.tab zI).tell0 ot).1))), (11, .val (.bool true)), (12, .val (.int .i64 (((q.tab zI).tell0 ot).1))), (13, .val (.bool true)), (69, .val (.bool false)), (8, .val (.bool r17))] [(0, 70, .val (.string (ot))), (1, 71, .val (.string (us))), (2, 72, .val (.bool false)), (3, 73, .val (.bool false)), (4, 74, .val (.bool true)), (5, 75, .val (.bool false)), (6, 76, .val (.bool false)), (7, 77, .val (.bool false)), (8, 78, .val (.int .i64 (((p.tab zI).tell0 ot).1))), (9, 79, .val (.int .i64 (yC p ByteArray.empty us))), (10, 80, .val (.bool false)), (11, 81, .val (.bool false)), (12, 82, .val (.bool false)), (13, 83, .val (.bool true)), (14, 84, .val (.bool true)), (15, 85, .val (.int .i64 (((q.tab zI).tell0 ot).1))), (16, 86, .val (.int .i64 (((p.tab zI).tell0 ot).1))), (17, 87, .val (.bool r17)), (18, 88, .val (.bool r17)), (19, 89, .val (.bool r17)), (20, 8, .val (.bool r17))] [⟨g1_0, none, none, (), 6, (p).sc, (p).sc, 25⟩, ⟨g1_1, none, none, (), 6, (q).sc, (q).sc, 25⟩] rfl (by rfl) HH21 rfl rfl hLo rfl HS21 (slS 0 rfl rfl (slS 1 rfl rfl (slS 2 rfl rfl (slS 3 rfl rfl (slS 4 rfl rfl (slS 5 rfl rfl (slS 7 rfl rfl (slS 8 rfl rfl (slS 9 rfl rfl (slS 10 rfl rfl (slS 11 rfl rfl (slS 12 rfl rfl (slS 13 rfl rfl (slS 14 rfl rfl (slS 15 rfl rfl (slL 20 (d := 20) rfl (trivial))))))))))))))))) ?_ ?_
                        · show ∀ i ∈ [0, 1, 2, 3, 4, 5, 6, 7, 8, 9, 10, 11, 12, 13, 14, 15, 16, 17, 18, 19, 20], _
                          refine zA (zC 0 _ rfl rfl hLo rfl rfl (fun _ _ _ _ => rfl) (fun b G w hb ho => zD (.inl rfl) (zG rfl (HS21.get 3 rfl)))) ?_
                          refine zA (zC 1 _ rfl rfl hLo rfl rfl (fun _ _ _ _ => rfl) (fun b G w hb ho => zD (.inl rfl) (zG rfl (HS21.get 2 rfl)))) ?_
                          refine zA (zC 2 _ rfl rfl hLo rfl rfl (fun _ _ _ _ => rfl) (fun b G w hb ho => zL rfl (zB hLo 0 rfl HS21.1 rfl (hb 0 (by rfl))) (zB hLo 1 rfl HS21.1 rfl (hb 1 (by rfl))) (rb_seql hr15 _ _ _))) ?_
                          refine zA (zC 3 _ rfl rfl hLo rfl rfl (fun _ _ _ _ => rfl) (fun b G w hb ho => zD (.inl rfl) (zB hLo 2 rfl HS21.1 rfl (hb 2 (by rfl))))) ?_
                          refine zA (zC 4 _ rfl rfl hLo rfl rfl (fun b G hb ho => zE rfl rfl rfl HS21.1 rfl (zB hLo 3 rfl HS21.1 rfl (hb 3 (by rfl))) rfl) (fun b G w hb ho => zD (.inl rfl) (zG rfl (HS21.get 12 rfl)))) ?_
                          refine zA (zC 5 _ rfl rfl hLo rfl rfl (fun b G hb ho => zE rfl rfl rfl HS21.1 rfl (zB hLo 3 rfl HS21.1 rfl (hb 3 (by rfl))) rfl) (fun b G w hb ho => yG rfl (zB hLo 4 rfl HS21.1 rfl (hb 4 (by rfl))) (ru_not _))) ?_
                          refine zA (zC 6 _ rfl rfl hLo rfl rfl (fun _ _ _ _ => rfl) (fun b G w hb ho => zK rfl (zB hLo 3 rfl HS21.1 rfl (hb 3 (by rfl))) (zB hLo 5 rfl HS21.1 rfl (hb 5 (by rfl))))) ?_
                          refine zA (zC 7 _ rfl rfl hLo rfl rfl (fun _ _ _ _ => rfl) (fun b G w hb ho => zD (.inl rfl) (zB hLo 6 rfl HS21.1 rfl (hb 6 (by rfl))))) ?_
                          refine zA (zC 8 _ rfl rfl hLo rfl rfl (fun b G hb ho => zE rfl rfl rfl HS21.1 rfl (zB hLo 7 rfl HS21.1 rfl (hb 7 (by rfl))) rfl) (fun b G w hb ho => zD (.inl rfl) (zG rfl (HS21.get 11 rfl)))) ?_
                          refine zA (zC 9 _ rfl rfl hLo rfl rfl (fun b G hb ho => zE rfl rfl rfl HS21.1 rfl (zB hLo 7 rfl HS21.1 rfl (hb 7 (by rfl))) rfl) (fun b G w hb ho => zD (.inl rfl) (zG rfl (HS21.get 9 rfl)))) ?_
                          refine zA (zC 10 _ rfl rfl hLo rfl rfl (fun b G hb ho => zE rfl rfl rfl HS21.1 rfl (zB hLo 7 rfl HS21.1 rfl (hb 7 (by rfl))) rfl) (fun b G w hb ho => zL rfl (zB hLo 8 rfl HS21.1 rfl (hb 8 (by rfl))) (zB hLo 9 rfl HS21.1 rfl (hb 9 (by rfl))) (rb_lss hr16 _ _ _))) ?_
                          refine zA (zC 11 _ rfl rfl hLo rfl rfl (fun _ _ _ _ => rfl) (fun b G w hb ho => zK rfl (zB hLo 7 rfl HS21.1 rfl (hb 7 (by rfl))) (zB hLo 10 rfl HS21.1 rfl (hb 10 (by rfl))))) ?_
                          refine zA (zC 12 _ rfl rfl hLo rfl rfl (fun _ _ _ _ => rfl) (fun b G w hb ho => zD (.inl rfl) (zB hLo 11 rfl HS21.1 rfl (hb 11 (by rfl))))) ?_
                          refine zA (zC 13 _ rfl rfl hLo rfl rfl (fun b G hb ho => zE rfl rfl rfl HS21.1 rfl (zB hLo 12 rfl HS21.1 rfl (hb 12 (by rfl))) rfl) (fun b G w hb ho => zD (.inl rfl) (zG rfl (HS21.get 14 rfl)))) ?_
                          refine zA (zC 14 _ rfl rfl hLo rfl rfl (fun b G hb ho => zE rfl rfl rfl HS21.1 rfl (zB hLo 12 rfl HS21.1 rfl (hb 12 (by rfl))) rfl) (fun b G w hb ho => zD (.inl rfl) (zB hLo 13 rfl HS21.1 rfl (hb 13 (by rfl))))) ?_
                          refine zA (zC 15 _ rfl rfl hLo rfl rfl (fun b G hb ho => zE rfl rfl rfl HS21.1 rfl (zB hLo 14 rfl HS21.1 rfl (hb 14 (by rfl))) rfl) (fun b G w hb ho => zD (.inl rfl) (zG rfl (HS21.get 13 rfl)))) ?_
                          refine zA (zC 16 _ rfl rfl hLo rfl rfl (fun b G hb ho => zE rfl rfl rfl HS21.1 rfl (zB hLo 14 rfl HS21.1 rfl (hb 14 (by rfl))) rfl) (fun b G w hb ho => zD (.inl rfl) (zG rfl (HS21.get 11 rfl)))) ?_
                          refine zA (zC 17 _ rfl rfl hLo rfl rfl (fun b G hb ho => zE rfl rfl rfl HS21.1 rfl (zB hLo 14 rfl HS21.1 rfl (hb 14 (by rfl))) rfl) (fun b G w hb ho => zL rfl (zB hLo 15 rfl HS21.1 rfl (hb 15 (by rfl))) (zB hLo 16 rfl HS21.1 rfl (hb 16 (by rfl))) (rb_eql hr17 _ _ _))) ?_
                          refine zA (zC 18 _ rfl rfl hLo rfl rfl (fun b G hb ho => zE rfl rfl rfl HS21.1 rfl (zB hLo 12 rfl HS21.1 rfl (hb 12 (by rfl))) rfl) (fun b G w hb ho => zK rfl (zB hLo 14 rfl HS21.1 rfl (hb 14 (by rfl))) (zB hLo 17 rfl HS21.1 rfl (hb 17 (by rfl))))) ?_
                          refine zA (zC 19 _ rfl rfl hLo rfl rfl (fun _ _ _ _ => rfl) (fun b G w hb ho => zK rfl (zB hLo 12 rfl HS21.1 rfl (hb 12 (by rfl))) (zB hLo 18 rfl HS21.1 rfl (hb 18 (by rfl))))) ?_
                          refine zA (zC 20 _ rfl rfl hLo rfl rfl (fun _ _ _ _ => rfl) (fun b G w hb ho => zD (.inr rfl) (zB hLo 19 rfl HS21.1 rfl (hb 19 (by rfl))))) ?_
                          exact zF
                        clear hLo
                        intro G a22 w22 hS hH
                        have HS22 : Sl a22 90 [(0, .agg (FR () 6 ((p).sc))), (1, .agg (FR () 6 ((q).sc))), (2, .string (us)), (3, .string (ot)), (4, .pointer (some ⟨g1_0, 0, none⟩)), (5, .pointer (some ⟨g1_1, 0, none⟩)), (15, .bool false), (31, .bool false), (9, .int .i64 (yC p ByteArray.empty us)), (40, .bool false), (10, .int .i64 (((p.tab zI).tell0 ot).1)), (11, .bool true), (12, .int .i64 (((q.tab zI).tell0 ot).1)), (13, .bool true), (69, .bool false), (8, .bool r17)] := hS
                        have HH22 : Held w w22 [⟨g1_0, (), 6, (p).sc, 25⟩, ⟨g1_1, (), 6, (q).sc, 25⟩] := hH
                        clear hS hH HS21 HH21
                        refine then_ ?_
                        refine wp_ret ?_
                        repeat (first | refine zQ ?_ | refine zN ?_)
                        exact yH rfl HS22.2.1 (HS22.get 15 rfl) ⟨law_ret (by rw [← hr17, (bound2 (by have hq := chg_users (other := ot) hr5; rw [hr15] at hq; exact hq) hr6 hr16).2]; exact beq_self_eq_true _), HH22.1⟩
                      · skip
                        refine wp_seq ?_
                        have hLo : LOk [(0, 70, .val (.string (ot))), (1, 71, .val (.string (us))), (2, 72, .val (.bool false)), (3, 73, .val (.bool false)), (4, 74, .val (.bool true)), (5, 75, .val (.bool false)), (6, 76, .val (.bool false)), (7, 77, .val (.bool false)), (8, 78, .val (.int .i64 (((p.tab zI).tell0 ot).1))), (9, 79, .val (.int .i64 (yC p ByteArray.empty us))), (10, 80, .val (.bool true)), (11, 81, .val (.bool true)), (12, 82, .val (.bool true)), (13, 83, .val (undef)), (14, 84, .val (undef)), (15, 85, .val (undef)), (16, 86, .val (undef)), (17, 87, .val (undef)), (18, 88, .val (undef)), (19, 89, .val (.bool true)), (20, 8, .val (.bool true))] := lok (by rfl) (by rfl)
                        refine zJ (wE := w) (sz := 90) (n := 21) [0, 1, 3, 7, 15, 31, 63, 127, 255, 511, 1023, 2047, 4095, 8191, 16383, 32767, 65535, 131071, 262143, 524287, 1048575] [(0, .val (.agg (FR () 6 ((p).sc)))), (1, .val (.agg (FR () 6 ((q).sc)))), (2, .val (.string (us))), (3, .val (.string (ot))), (4, .val (.pointer (some ⟨g1_0, 0, none⟩))), (5, .val (.pointer (some ⟨g1_1, 0, none⟩))), (15, .val (.bool false)), (31, .val (.bool false)), (9, .val (.int .i64 (yC p ByteArray.empty us))), (40, .val (.bool false)), (10, .val (.int .i64 (((p.tab zI).tell0 ot).1))), (11, .val (.bool true)), (12, .val (.int .i64 (((q.tab zI).tell0 ot).1))), (13, .val (.bool true)), (69, .val (.bool false)), (8, .val (.bool true))] [(0, 70, .val (.string (ot))), (1, 71, .val (.string (us))), (2, 72, .val (.bool false)), (3, 73, .val (.bool false)), (4, 74, .val (.bool true)), (5, 75, .val (.bool false)), (6, 76, .val (.bool false)), (7, 77, .val (.bool false)), (8, 78, .val (.int .i64 (((p.tab zI).tell0 ot).1))), (9, 79, .val (.int .i64 (yC p ByteArray.empty us))), (10, 80, .val (.bool true)), (11, 81, .val (.bool true)), (12, 82, .val (.bool true)), (13, 83, .val (undef)), (14, 84, .val (undef)), (15, 85, .val (undef)), (16, 86, .val (undef)), (17, 87, .val (undef)), (18, 88, .val (undef)), (19, 89, .val (.bool true)), (20, 8, .val (.bool true))] [⟨g1_0, none, none, (), 6, (p).sc, (p).sc, 25⟩, ⟨g1_1, none, none, (), 6, (q).sc, (q).sc, 25⟩] rfl (by rfl) HH21 rfl rfl hLo rfl HS21 (slS 0 rfl rfl (slS 1 rfl rfl (slS 2 rfl rfl (slS 3 rfl rfl (slS 4 rfl rfl (slS 5 rfl rfl (slS 7 rfl rfl (slS 8 rfl rfl (slS 9 rfl rfl (slS 10 rfl rfl (slS 11 rfl rfl (slS 12 rfl rfl (slS 13 rfl rfl (slS 14 rfl rfl (slS 15 rfl rfl (slL 20 (d := 20) rfl (trivial))))))))))))))))) ?_ ?_
                        · show ∀ i ∈ [0, 1, 2, 3, 4, 5, 6, 7, 8, 9, 10, 11, 12, 13, 14, 15, 16, 17, 18, 19, 20], _
                          refine zA (zC 0 _ rfl rfl hLo rfl rfl (fun _ _ _ _ => rfl) (fun b G w hb ho => zD (.inl rfl) (zG rfl (HS21.get 3 rfl)))) ?_
                          refine zA (zC 1 _ rfl rfl hLo rfl rfl (fun _ _ _ _ => rfl) (fun b G w hb ho => zD (.inl rfl) (zG rfl (HS21.get 2 rfl)))) ?_
                          refine zA (zC 2 _ rfl rfl hLo rfl rfl (fun _ _ _ _ => rfl) (fun b G w hb ho => zL rfl (zB hLo 0 rfl HS21.1 rfl (hb 0 (by rfl))) (zB hLo 1 rfl HS21.1 rfl (hb 1 (by rfl))) (rb_seql hr15 _ _ _))) ?_
                          refine zA (zC 3 _ rfl rfl hLo rfl rfl (fun _ _ _ _ => rfl) (fun b G w hb ho => zD (.inl rfl) (zB hLo 2 rfl HS21.1 rfl (hb 2 (by rfl))))) ?_
                          refine zA (zC 4 _ rfl rfl hLo rfl rfl (fun b G hb ho => zE rfl rfl rfl HS21.1 rfl (zB hLo 3 rfl HS21.1 rfl (hb 3 (by rfl))) rfl) (fun b G w hb ho => zD (.inl rfl) (zG rfl (HS21.get 12 rfl)))) ?_
                          refine zA (zC 5 _ rfl rfl hLo rfl rfl (fun b G hb ho => zE rfl rfl rfl HS21.1 rfl (zB hLo 3 rfl HS21.1 rfl (hb 3 (by rfl))) rfl) (fun b G w hb ho => yG rfl (zB hLo 4 rfl HS21.1 rfl (hb 4 (by rfl))) (ru_not _))) ?_
                          refine zA (zC 6 _ rfl rfl hLo rfl rfl (fun _ _ _ _ => rfl) (fun b G w hb ho => zK rfl (zB hLo 3 rfl HS21.1 rfl (hb 3 (by rfl))) (zB hLo 5 rfl HS21.1 rfl (hb 5 (by rfl))))) ?_
                          refine zA (zC 7 _ rfl rfl hLo rfl rfl (fun _ _ _ _ => rfl) (fun b G w hb ho => zD (.inl rfl) (zB hLo 6 rfl HS21.1 rfl (hb 6 (by rfl))))) ?_
                          refine zA (zC 8 _ rfl rfl hLo rfl rfl (fun b G hb ho => zE rfl rfl rfl HS21.1 rfl (zB hLo 7 rfl HS21.1 rfl (hb 7 (by rfl))) rfl) (fun b G w hb ho => zD (.inl rfl) (zG rfl (HS21.get 11 rfl)))) ?_
                          refine zA (zC 9 _ rfl rfl hLo rfl rfl (fun b G hb ho => zE rfl rfl rfl HS21.1 rfl (zB hLo 7 rfl HS21.1 rfl (hb 7 (by rfl))) rfl) (fun b G w hb ho => zD (.inl rfl) (zG rfl (HS21.get 9 rfl)))) ?_
                          refine zA (zC 10 _ rfl rfl hLo rfl rfl (fun b G hb ho => zE rfl rfl rfl HS21.1 rfl (zB hLo 7 rfl HS21.1 rfl (hb 7 (by rfl))) rfl) (fun b G w hb ho => zL rfl (zB hLo 8 rfl HS21.1 rfl (hb 8 (by rfl))) (zB hLo 9 rfl HS21.1 rfl (hb 9 (by rfl))) (rb_lss hr16 _ _ _))) ?_
                          refine zA (zC 11 _ rfl rfl hLo rfl rfl (fun _ _ _ _ => rfl) (fun b G w hb ho => zK rfl (zB hLo 7 rfl HS21.1 rfl (hb 7 (by rfl))) (zB hLo 10 rfl HS21.1 rfl (hb 10 (by rfl))))) ?_
                          refine zA (zC 12 _ rfl rfl hLo rfl rfl (fun _ _ _ _ => rfl) (fun b G w hb ho => zD (.inl rfl) (zB hLo 11 rfl HS21.1 rfl (hb 11 (by rfl))))) ?_
                          refine zA (zH 13 rfl rfl hLo rfl rfl (fun b G hb ho => zE rfl rfl rfl HS21.1 rfl (zB hLo 12 rfl HS21.1 rfl (hb 12 (by rfl))) rfl)) ?_
                          refine zA (zH 14 rfl rfl hLo rfl rfl (fun b G hb ho => zE rfl rfl rfl HS21.1 rfl (zB hLo 12 rfl HS21.1 rfl (hb 12 (by rfl))) rfl)) ?_
                          refine zA (zH 15 rfl rfl hLo rfl rfl (fun b G hb ho => zZ rfl rfl rfl HS21.1 rfl (zB hLo 14 rfl HS21.1 rfl (hb 14 (by rfl))))) ?_
                          refine zA (zH 16 rfl rfl hLo rfl rfl (fun b G hb ho => zZ rfl rfl rfl HS21.1 rfl (zB hLo 14 rfl HS21.1 rfl (hb 14 (by rfl))))) ?_
                          refine zA (zH 17 rfl rfl hLo rfl rfl (fun b G hb ho => zZ rfl rfl rfl HS21.1 rfl (zB hLo 14 rfl HS21.1 rfl (hb 14 (by rfl))))) ?_
                          refine zA (zH 18 rfl rfl hLo rfl rfl (fun b G hb ho => zE rfl rfl rfl HS21.1 rfl (zB hLo 12 rfl HS21.1 rfl (hb 12 (by rfl))) rfl)) ?_
                          refine zA (zC 19 _ rfl rfl hLo rfl rfl (fun _ _ _ _ => rfl) (fun b G w hb ho => zK rfl (zB hLo 12 rfl HS21.1 rfl (hb 12 (by rfl))) (rfl))) ?_
                          refine zA (zC 20 _ rfl rfl hLo rfl rfl (fun _ _ _ _ => rfl) (fun b G w hb ho => zD (.inr rfl) (zB hLo 19 rfl HS21.1 rfl (hb 19 (by rfl))))) ?_
                          exact zF
                        clear hLo
                        intro G a23 w23 hS hH
                        have HS23 : Sl a23 90 [(0, .agg (FR () 6 ((p).sc))), (1, .agg (FR () 6 ((q).sc))), (2, .string (us)), (3, .string (ot)), (4, .pointer (some ⟨g1_0, 0, none⟩)), (5, .pointer (some ⟨g1_1, 0, none⟩)), (15, .bool false), (31, .bool false), (9, .int .i64 (yC p ByteArray.empty us)), (40, .bool false), (10, .int .i64 (((p.tab zI).tell0 ot).1)), (11, .bool true), (12, .int .i64 (((q.tab zI).tell0 ot).1)), (13, .bool true), (69, .bool false), (8, .bool true)] := hS
                        have HH23 : Held w w23 [⟨g1_0, (), 6, (p).sc, 25⟩, ⟨g1_1, (), 6, (q).sc, 25⟩] := hH
                        clear hS hH HS21 HH21
                        refine then_ ?_
                        refine wp_ret ?_
                        repeat (first | refine zQ ?_ | refine zN ?_)
                        exact yH rfl HS23.2.1 (HS23.get 15 rfl) ⟨law_ret rfl, HH23.1⟩
                    · skip
                      refine wp_seq ?_
                      have hLo : LOk [(0, 70, .val (.string (ot))), (1, 71, .val (.string (us))), (2, 72, .val (.bool true)), (3, 73, .val (.bool true)), (4, 74, .val (undef)), (5, 75, .val (undef)), (6, 76, .val (.bool true)), (7, 77, .val (.bool true)), (8, 78, .val (undef)), (9, 79, .val (undef)), (10, 80, .val (undef)), (11, 81, .val (.bool true)), (12, 82, .val (.bool true)), (13, 83, .val (undef)), (14, 84, .val (undef)), (15, 85, .val (undef)), (16, 86, .val (undef)), (17, 87, .val (undef)), (18, 88, .val (undef)), (19, 89, .val (.bool true)), (20, 8, .val (.bool true))] := lok (by rfl) (by rfl)
                      refine zJ (wE := w) (sz := 90) (n := 21) [0, 1, 3, 7, 15, 31, 63, 127, 255, 511, 1023, 2047, 4095, 8191, 16383, 32767, 65535, 131071, 262143, 524287, 1048575] [(0, .val (.agg (FR () 6 ((p).sc)))), (1, .val (.agg (FR () 6 ((q).sc)))), (2, .val (.string (us))), (3, .val (.string (ot))), (4, .val (.pointer (some ⟨g1_0, 0, none⟩))), (5, .val (.pointer (some ⟨g1_1, 0, none⟩))), (15, .val (.bool false)), (31, .val (.bool false)), (9, .val (.int .i64 (yC p ByteArray.empty us))), (40, .val (.bool false)), (10, .val (.int .i64 (((p.tab zI).tell0 ot).1))), (11, .val (.bool true)), (12, .val (.int .i64 (((q.tab zI).tell0 ot).1))), (13, .val (.bool true)), (69, .val (.bool false)), (8, .val (.bool true))] [(0, 70, .val (.string (ot))), (1, 71, .val (.string (us))), (2, 72, .val (.bool true)), (3, 73, .val (.bool true)), (4, 74, .val (undef)), (5, 75, .val (undef)), (6, 76, .val (.bool true)), (7, 77, .val (.bool true)), (8, 78, .val (undef)), (9, 79, .val (undef)), (10, 80, .val (undef)), (11, 81, .val (.bool true)), (12, 82, .val (.bool true)), (13, 83, .val (undef)), (14, 84, .val (undef)), (15, 85, .val (undef)), (16, 86, .val (undef)), (17, 87, .val (undef)), (18, 88, .val (undef)), (19, 89, .val (.bool true)), (20, 8, .val (.bool true))] [⟨g1_0, none, none, (), 6, (p).sc, (p).sc, 25⟩, ⟨g1_1, none, none, (), 6, (q).sc, (q).sc, 25⟩] rfl (by rfl) HH21 rfl rfl hLo rfl HS21 (slS 0 rfl rfl (slS 1 rfl rfl (slS 2 rfl rfl (slS 3 rfl rfl (slS 4 rfl rfl (slS 5 rfl rfl (slS 7 rfl rfl (slS 8 rfl rfl (slS 9 rfl rfl (slS 10 rfl rfl (slS 11 rfl rfl (slS 12 rfl rfl (slS 13 rfl rfl (slS 14 rfl rfl (slS 15 rfl rfl (slL 20 (d := 20) rfl (trivial))))))))))))))))) ?_ ?_
                      · show ∀ i ∈ [0, 1, 2, 3, 4, 5, 6, 7, 8, 9, 10, 11, 12, 13, 14, 15, 16, 17, 18, 19, 20], _
                        refine zA (zC 0 _ rfl rfl hLo rfl rfl (fun _ _ _ _ => rfl) (fun b G w hb ho => zD (.inl rfl) (zG rfl (HS21.get 3 rfl)))) ?_
                        refine zA (zC 1 _ rfl rfl hLo rfl rfl (fun _ _ _ _ => rfl) (fun b G w hb ho => zD (.inl rfl) (zG rfl (HS21.get 2 rfl)))) ?_
                        refine zA (zC 2 _ rfl rfl hLo rfl rfl (fun _ _ _ _ => rfl) (fun b G w hb ho => zL rfl (zB hLo 0 rfl HS21.1 rfl (hb 0 (by rfl))) (zB hLo 1 rfl HS21.1 rfl (hb 1 (by rfl))) (rb_seql hr15 _ _ _))) ?_
                        refine zA (zC 3 _ rfl rfl hLo rfl rfl (fun _ _ _ _ => rfl) (fun b G w hb ho => zD (.inl rfl) (zB hLo 2 rfl HS21.1 rfl (hb 2 (by rfl))))) ?_
                        refine zA (zH 4 rfl rfl hLo rfl rfl (fun b G hb ho => zE rfl rfl rfl HS21.1 rfl (zB hLo 3 rfl HS21.1 rfl (hb 3 (by rfl))) rfl)) ?_
                        refine zA (zH 5 rfl rfl hLo rfl rfl (fun b G hb ho => zE rfl rfl rfl HS21.1 rfl (zB hLo 3 rfl HS21.1 rfl (hb 3 (by rfl))) rfl)) ?_
                        refine zA (zC 6 _ rfl rfl hLo rfl rfl (fun _ _ _ _ => rfl) (fun b G w hb ho => zK rfl (zB hLo 3 rfl HS21.1 rfl (hb 3 (by rfl))) (rfl))) ?_
                        refine zA (zC 7 _ rfl rfl hLo rfl rfl (fun _ _ _ _ => rfl) (fun b G w hb ho => zD (.inl rfl) (zB hLo 6 rfl HS21.1 rfl (hb 6 (by rfl))))) ?_
                        refine zA (zH 8 rfl rfl hLo rfl rfl (fun b G hb ho => zE rfl rfl rfl HS21.1 rfl (zB hLo 7 rfl HS21.1 rfl (hb 7 (by rfl))) rfl)) ?_
                        refine zA (zH 9 rfl rfl hLo rfl rfl (fun b G hb ho => zE rfl rfl rfl HS21.1 rfl (zB hLo 7 rfl HS21.1 rfl (hb 7 (by rfl))) rfl)) ?_
                        refine zA (zH 10 rfl rfl hLo rfl rfl (fun b G hb ho => zE rfl rfl rfl HS21.1 rfl (zB hLo 7 rfl HS21.1 rfl (hb 7 (by rfl))) rfl)) ?_
                        refine zA (zC 11 _ rfl rfl hLo rfl rfl (fun _ _ _ _ => rfl) (fun b G w hb ho => zK rfl (zB hLo 7 rfl HS21.1 rfl (hb 7 (by rfl))) (rfl))) ?_
                        refine zA (zC 12 _ rfl rfl hLo rfl rfl (fun _ _ _ _ => rfl) (fun b G w hb ho => zD (.inl rfl) (zB hLo 11 rfl HS21.1 rfl (hb 11 (by rfl))))) ?_
                        refine zA (zH 13 rfl rfl hLo rfl rfl (fun b G hb ho => zE rfl rfl rfl HS21.1 rfl (zB hLo 12 rfl HS21.1 rfl (hb 12 (by rfl))) rfl)) ?_
                        refine zA (zH 14 rfl rfl hLo rfl rfl (fun b G hb ho => zE rfl rfl rfl HS21.1 rfl (zB hLo 12 rfl HS21.1 rfl (hb 12 (by rfl))) rfl)) ?_
                        refine zA (zH 15 rfl rfl hLo rfl rfl (fun b G hb ho => zZ rfl rfl rfl HS21.1 rfl (zB hLo 14 rfl HS21.1 rfl (hb 14 (by rfl))))) ?_
                        refine zA (zH 16 rfl rfl hLo rfl rfl (fun b G hb ho => zZ rfl rfl rfl HS21.1 rfl (zB hLo 14 rfl HS21.1 rfl (hb 14 (by rfl))))) ?_
                        refine zA (zH 17 rfl rfl hLo rfl rfl (fun b G hb ho => zZ rfl rfl rfl HS21.1 rfl (zB hLo 14 rfl HS21.1 rfl (hb 14 (by rfl))))) ?_
                        refine zA (zH 18 rfl rfl hLo rfl rfl (fun b G hb ho => zE rfl rfl rfl HS21.1 rfl (zB hLo 12 rfl HS21.1 rfl (hb 12 (by rfl))) rfl)) ?_
                        refine zA (zC 19 _ rfl rfl hLo rfl rfl (fun _ _ _ _ => rfl) (fun b G w hb ho => zK rfl (zB hLo 12 rfl HS21.1 rfl (hb 12 (by rfl))) (rfl))) ?_
                        refine zA (zC 20 _ rfl rfl hLo rfl rfl (fun _ _ _ _ => rfl) (fun b G w hb ho => zD (.inr rfl) (zB hLo 19 rfl HS21.1 rfl (hb 19 (by rfl))))) ?_
                        exact zF
                      clear hLo
                      intro G a24 w24 hS hH
                      have HS24 : Sl a24 90 [(0, .agg (FR () 6 ((p).sc))), (1, .agg (FR () 6 ((q).sc))), (2, .string (us)), (3, .string (ot)), (4, .pointer (some ⟨g1_0, 0, none⟩)), (5, .pointer (some ⟨g1_1, 0, none⟩)), (15, .bool false), (31, .bool false), (9, .int .i64 (yC p ByteArray.empty us)), (40, .bool false), (10, .int .i64 (((p.tab zI).tell0 ot).1)), (11, .bool true), (12, .int .i64 (((q.tab zI).tell0 ot).1)), (13, .bool true), (69, .bool false), (8, .bool true)] := hS
                      have HH24 : Held w w24 [⟨g1_0, (), 6, (p).sc, 25⟩, ⟨g1_1, (), 6, (q).sc, 25⟩] := hH
                      clear hS hH HS21 HH21
                      refine then_ ?_
                      refine wp_ret ?_
                      repeat (first | refine zQ ?_ | refine zN ?_)
                      exact yH rfl HS24.2.1 (HS24.get 15 rfl) ⟨law_ret rfl, HH24.1⟩
                  · skip
                    refine wp_cond_true (HS21.get 15 rfl) ?_
                    refine wp_seq ?_
                    have hLo : LOk [(0, 8, .val (.bool false))] := lok (by rfl) (by rfl)
                    refine zJ (wE := w) (sz := 90) (n := 1) [0] [(0, .val (.agg (FR () 6 ((p).sc)))), (1, .val (.agg (FR () 6 ((q).sc)))), (2, .val (.string (us))), (3, .val (.string (ot))), (4, .val (.pointer (some ⟨g1_0, 0, none⟩))), (5, .val (.pointer (some ⟨g1_1, 0, none⟩))), (15, .val (.bool false)), (31, .val (.bool false)), (9, .val (.int .i64 (yC p ByteArray.empty us))), (40, .val (.bool false)), (10, .val (.int .i64 (((p.tab zI).tell0 ot).1))), (11, .val (.bool true)), (12, .val (.int .i64 (((q.tab zI).tell0 ot).1))), (13, .val (.bool true)), (69, .val (.bool true)), (8, .val (.bool false))] [(0, 8, .val (.bool false))] [⟨g1_0, none, none, (), 6, (p).sc, (p).sc, 25⟩, ⟨g1_1, none, none, (), 6, (q).sc, (q).sc, 25⟩] rfl (by rfl) HH21 rfl rfl hLo rfl HS21 (slS 0 rfl rfl (slS 1 rfl rfl (slS 2 rfl rfl (slS 3 rfl rfl (slS 4 rfl rfl (slS 5 rfl rfl (slS 7 rfl rfl (slS 8 rfl rfl (slS 9 rfl rfl (slS 10 rfl rfl (slS 11 rfl rfl (slS 12 rfl rfl (slS 13 rfl rfl (slS 14 rfl rfl (slS 15 rfl rfl (slL 0 (d := 0) rfl (trivial))))))))))))))))) ?_ ?_
                    · show ∀ i ∈ [0], _
                      refine zA (zC 0 _ rfl rfl hLo rfl rfl (fun _ _ _ _ => rfl) (fun b G w hb ho => zD (.inr rfl) (rfl))) ?_
                      exact zF
                    clear hLo
                    intro G a25 w25 hS hH
                    have HS25 : Sl a25 90 [(0, .agg (FR () 6 ((p).sc))), (1, .agg (FR () 6 ((q).sc))), (2, .string (us)), (3, .string (ot)), (4, .pointer (some ⟨g1_0, 0, none⟩)), (5, .pointer (some ⟨g1_1, 0, none⟩)), (15, .bool false), (31, .bool false), (9, .int .i64 (yC p ByteArray.empty us)), (40, .bool false), (10, .int .i64 (((p.tab zI).tell0 ot).1)), (11, .bool true), (12, .int .i64 (((q.tab zI).tell0 ot).1)), (13, .bool true), (69, .bool true), (8, .bool false)] := hS
                    have HH25 : Held w w25 [⟨g1_0, (), 6, (p).sc, 25⟩, ⟨g1_1, (), 6, (q).sc, 25⟩] := hH
                    clear hS hH HS21 HH21
                    refine then_ ?_
                    refine wp_ret ?_
                    repeat (first | refine zQ ?_ | refine zN ?_)
                    exact yH rfl HS25.2.1 (HS25.get 15 rfl) ⟨(bound1 (chg_users (other := ot) hr5) hr7 hr10 (.inr hr14)).elim, HH25.1⟩
        · skip
          refine wp_cond_true (HS3.get 8 rfl) ?_
          refine wp_seq ?_
          have hLo : LOk [(0, 8, .val (.bool true))] := lok (by rfl) (by rfl)
          refine zJ (wE := w) (sz := 90) (n := 1) [0] [(0, .val (.agg (FR () 6 ((p).sc)))), (1, .val (.agg (FR () 6 ((q).sc)))), (2, .val (.string (us))), (3, .val (.string (ot))), (4, .val (.pointer (some ⟨g1_0, 0, none⟩))), (5, .val (.pointer (some ⟨g1_1, 0, none⟩))), (15, .val (.bool false)), (31, .val (.bool true)), (8, .val (.bool true))] [(0, 8, .val (.bool true))] [⟨g1_0, none, none, (), 6, (p).sc, (p).sc, 25⟩, ⟨g1_1, none, none, (), 6, (q).sc, (q).sc, 25⟩] rfl (by rfl) HH3 rfl rfl hLo rfl HS3 (slS 0 rfl rfl (slS 1 rfl rfl (slS 2 rfl rfl (slS 3 rfl rfl (slS 4 rfl rfl (slS 5 rfl rfl (slS 7 rfl rfl (slS 8 rfl rfl (slL 0 (d := 0) rfl (trivial)))))))))) ?_ ?_
          · show ∀ i ∈ [0], _
            refine zA (zC 0 _ rfl rfl hLo rfl rfl (fun _ _ _ _ => rfl) (fun b G w hb ho => zD (.inr rfl) (rfl))) ?_
            exact zF
          clear hLo
          intro G a26 w26 hS hH
          have HS26 : Sl a26 90 [(0, .agg (FR () 6 ((p).sc))), (1, .agg (FR () 6 ((q).sc))), (2, .string (us)), (3, .string (ot)), (4, .pointer (some ⟨g1_0, 0, none⟩)), (5, .pointer (some ⟨g1_1, 0, none⟩)), (15, .bool false), (31, .bool true), (8, .bool true)] := hS
          have HH26 : Held w w26 [⟨g1_0, (), 6, (p).sc, 25⟩, ⟨g1_1, (), 6, (q).sc, 25⟩] := hH
          clear hS hH HS3 HH3
          refine then_ ?_
          refine wp_ret ?_
          repeat (first | refine zQ ?_ | refine zN ?_)
          exact yH rfl HS26.2.1 (HS26.get 8 rfl) ⟨law_ret rfl, HH26.1⟩
      · skip
        refine wp_seq ?_
        have hLo : LOk [(0, 16, .val (.agg (FR () 6 ((p).sc)))), (1, 17, .val (.bool false)), (2, 18, .val (.bool false)), (3, 19, .val (.agg (FR () 6 ((q).sc)))), (4, 20, .val (.bool false)), (5, 21, .val (.bool false)), (6, 22, .val (.bool false)), (7, 23, .val (.string (us))), (8, 24, .val (.int .i64 (((us).size : Int)))), (9, 25, .val (.bool true)), (10, 26, .val (.bool true)), (11, 27, .val (.bool true)), (12, 28, .val (undef)), (13, 29, .val (undef)), (14, 30, .val (undef)), (15, 31, .val (.bool true))] := lok (by rfl) (by rfl)
        refine zJ (wE := w) (sz := 90) (n := 16) [0, 1, 3, 7, 15, 31, 63, 127, 255, 511, 1023, 2047, 4095, 8191, 16383, 32767] [(0, .val (.agg (FR () 6 ((p).sc)))), (1, .val (.agg (FR () 6 ((q).sc)))), (2, .val (.string (us))), (3, .val (.string (ot))), (4, .val (.pointer (some ⟨g1_0, 0, none⟩))), (5, .val (.pointer (some ⟨g1_1, 0, none⟩))), (8, .val (.bool false)), (15, .val (.bool false)), (31, .val (.bool true))] [(0, 16, .val (.agg (FR () 6 ((p).sc)))), (1, 17, .val (.bool false)), (2, 18, .val (.bool false)), (3, 19, .val (.agg (FR () 6 ((q).sc)))), (4, 20, .val (.bool false)), (5, 21, .val (.bool false)), (6, 22, .val (.bool false)), (7, 23, .val (.string (us))), (8, 24, .val (.int .i64 (((us).size : Int)))), (9, 25, .val (.bool true)), (10, 26, .val (.bool true)), (11, 27, .val (.bool true)), (12, 28, .val (undef)), (13, 29, .val (undef)), (14, 30, .val (undef)), (15, 31, .val (.bool true))] [⟨g1_0, none, none, (), 6, (p).sc, (p).sc, 25⟩, ⟨g1_1, none, none, (), 6, (q).sc, (q).sc, 25⟩] rfl (by rfl) HH2 rfl rfl hLo rfl HS2 (slS 0 rfl rfl (slS 1 rfl rfl (slS 2 rfl rfl (slS 3 rfl rfl (slS 4 rfl rfl (slS 5 rfl rfl (slS 6 rfl rfl (slS 7 rfl rfl (slL 15 (d := 15) rfl (trivial)))))))))) ?_ ?_
        · show ∀ i ∈ [0, 1, 2, 3, 4, 5, 6, 7, 8, 9, 10, 11, 12, 13, 14, 15], _
          refine zA (yF 0 0 _ rfl rfl rfl rfl (fun _ _ _ _ => rfl) hLo rfl rfl rfl (by rfl) Tryd.underlying25 (by kernel_rfl) rfl (fun b G hb ho => zG rfl (HS2.get 4 rfl))) ?_
          refine zA (zV 1 _ #[.agg (FR () 6 ((p).sc))] rfl rfl rfl (fun _ _ _ _ => rfl) hLo rfl rfl Tryd.func11 rfl rfl (fun b G hb ho => args1 (zB hLo 0 rfl HS2.1 rfl (hb 0 (by rfl)))) (fun w hw => (by have hq := great_calls (hInp.below hw); rw [hr1] at hq; exact hq))) ?_
          refine zA (zC 2 _ rfl rfl hLo rfl rfl (fun _ _ _ _ => rfl) (fun b G w hb ho => zD (.inl rfl) (zB hLo 1 rfl HS2.1 rfl (hb 1 (by rfl))))) ?_
          refine zA (yF 3 1 _ rfl rfl rfl rfl (fun b G hb ho => zE rfl rfl rfl HS2.1 rfl (zB hLo 2 rfl HS2.1 rfl (hb 2 (by rfl))) rfl) hLo rfl rfl rfl (by rfl) Tryd.underlying25 (by kernel_rfl) rfl (fun b G hb ho => zG rfl (HS2.get 5 rfl))) ?_
          refine zA (zV 4 _ #[.agg (FR () 6 ((q).sc))] rfl rfl rfl (fun b G hb ho => zE rfl rfl rfl HS2.1 rfl (zB hLo 2 rfl HS2.1 rfl (hb 2 (by rfl))) rfl) hLo rfl rfl Tryd.func11 rfl rfl (fun b G hb ho => args1 (zB hLo 3 rfl HS2.1 rfl (hb 3 (by rfl)))) (fun w hw => (by have hq := great_calls (hInq.below hw); rw [hr2] at hq; exact hq))) ?_
          refine zA (zC 5 _ rfl rfl hLo rfl rfl (fun _ _ _ _ => rfl) (fun b G w hb ho => zK rfl (zB hLo 2 rfl HS2.1 rfl (hb 2 (by rfl))) (zB hLo 4 rfl HS2.1 rfl (hb 4 (by rfl))))) ?_
          refine zA (zC 6 _ rfl rfl hLo rfl rfl (fun _ _ _ _ => rfl) (fun b G w hb ho => zD (.inl rfl) (zB hLo 5 rfl HS2.1 rfl (hb 5 (by rfl))))) ?_
          refine zA (zC 7 _ rfl rfl hLo rfl rfl (fun b G hb ho => zE rfl rfl rfl HS2.1 rfl (zB hLo 6 rfl HS2.1 rfl (hb 6 (by rfl))) rfl) (fun b G w hb ho => zD (.inl rfl) (zG rfl (HS2.get 2 rfl)))) ?_
          refine zA (zC 8 _ rfl rfl hLo rfl rfl (fun b G hb ho => zE rfl rfl rfl HS2.1 rfl (zB hLo 6 rfl HS2.1 rfl (hb 6 (by rfl))) rfl) (fun b G w hb ho => exec_lenS Tryd.underlying9 rfl (zB hLo 7 rfl HS2.1 rfl (hb 7 (by rfl))))) ?_
          refine zA (zC 9 _ rfl rfl hLo rfl rfl (fun b G hb ho => zE rfl rfl rfl HS2.1 rfl (zB hLo 6 rfl HS2.1 rfl (hb 6 (by rfl))) rfl) (fun b G w hb ho => zL rfl (zB hLo 8 rfl HS2.1 rfl (hb 8 (by rfl))) (rfl) (rb_gtr hr3 _ _ _))) ?_
          refine zA (zC 10 _ rfl rfl hLo rfl rfl (fun _ _ _ _ => rfl) (fun b G w hb ho => zK rfl (zB hLo 6 rfl HS2.1 rfl (hb 6 (by rfl))) (zB hLo 9 rfl HS2.1 rfl (hb 9 (by rfl))))) ?_
          refine zA (zC 11 _ rfl rfl hLo rfl rfl (fun _ _ _ _ => rfl) (fun b G w hb ho => zD (.inl rfl) (zB hLo 10 rfl HS2.1 rfl (hb 10 (by rfl))))) ?_
          refine zA (zH 12 rfl rfl hLo rfl rfl (fun b G hb ho => zE rfl rfl rfl HS2.1 rfl (zB hLo 11 rfl HS2.1 rfl (hb 11 (by rfl))) rfl)) ?_
          refine zA (zH 13 rfl rfl hLo rfl rfl (fun b G hb ho => zE rfl rfl rfl HS2.1 rfl (zB hLo 11 rfl HS2.1 rfl (hb 11 (by rfl))) rfl)) ?_
          refine zA (zH 14 rfl rfl hLo rfl rfl (fun b G hb ho => zE rfl rfl rfl HS2.1 rfl (zB hLo 11 rfl HS2.1 rfl (hb 11 (by rfl))) rfl)) ?_
          refine zA (zC 15 _ rfl rfl hLo rfl rfl (fun _ _ _ _ => rfl) (fun b G w hb ho => zK rfl (zB hLo 11 rfl HS2.1 rfl (hb 11 (by rfl))) (rfl))) ?_
          exact zF
        clear hLo
        intro G a27 w27 hS hH
        have HS27 : Sl a27 90 [(0, .agg (FR () 6 ((p).sc))), (1, .agg (FR () 6 ((q).sc))), (2, .string (us)), (3, .string (ot)), (4, .pointer (some ⟨g1_0, 0, none⟩)), (5, .pointer (some ⟨g1_1, 0, none⟩)), (8, .bool false), (15, .bool false), (31, .bool true)] := hS
        have HH27 : Held w w27 [⟨g1_0, (), 6, (p).sc, 25⟩, ⟨g1_1, (), 6, (q).sc, 25⟩] := hH
        clear hS hH HS2 HH2
        refine then_ ?_
        refine wp_cond_true (HS27.get 8 rfl) ?_
        refine wp_seq ?_
        have hLo : LOk [(0, 8, .val (.bool true))] := lok (by rfl) (by rfl)
        refine zJ (wE := w) (sz := 90) (n := 1) [0] [(0, .val (.agg (FR () 6 ((p).sc)))), (1, .val (.agg (FR () 6 ((q).sc)))), (2, .val (.string (us))), (3, .val (.string (ot))), (4, .val (.pointer (some ⟨g1_0, 0, none⟩))), (5, .val (.pointer (some ⟨g1_1, 0, none⟩))), (15, .val (.bool false)), (31, .val (.bool true)), (8, .val (.bool true))] [(0, 8, .val (.bool true))] [⟨g1_0, none, none, (), 6, (p).sc, (p).sc, 25⟩, ⟨g1_1, none, none, (), 6, (q).sc, (q).sc, 25⟩] rfl (by rfl) HH27 rfl rfl hLo rfl HS27 (slS 0 rfl rfl (slS 1 rfl rfl (slS 2 rfl rfl (slS 3 rfl rfl (slS 4 rfl rfl (slS 5 rfl rfl (slS 7 rfl rfl (slS 8 rfl rfl (slL 0 (d := 0) rfl (trivial)))))))))) ?_ ?_
        · show ∀ i ∈ [0], _
          refine zA (zC 0 _ rfl rfl hLo rfl rfl (fun _ _ _ _ => rfl) (fun b G w hb ho => zD (.inr rfl) (rfl))) ?_
          exact zF
        clear hLo
        intro G a28 w28 hS hH
        have HS28 : Sl a28 90 [(0, .agg (FR () 6 ((p).sc))), (1, .agg (FR () 6 ((q).sc))), (2, .string (us)), (3, .string (ot)), (4, .pointer (some ⟨g1_0, 0, none⟩)), (5, .pointer (some ⟨g1_1, 0, none⟩)), (15, .bool false), (31, .bool true), (8, .bool true)] := hS
        have HH28 : Held w w28 [⟨g1_0, (), 6, (p).sc, 25⟩, ⟨g1_1, (), 6, (q).sc, 25⟩] := hH
        clear hS hH HS27 HH27
        refine then_ ?_
        refine wp_ret ?_
        repeat (first | refine zQ ?_ | refine zN ?_)
        exact yH rfl HS28.2.1 (HS28.get 8 rfl) ⟨law_ret rfl, HH28.1⟩
    · skip
      refine wp_seq ?_
      have hLo : LOk [(0, 16, .val (.agg (FR () 6 ((p).sc)))), (1, 17, .val (.bool false)), (2, 18, .val (.bool false)), (3, 19, .val (.agg (FR () 6 ((q).sc)))), (4, 20, .val (.bool true)), (5, 21, .val (.bool true)), (6, 22, .val (.bool true)), (7, 23, .val (undef)), (8, 24, .val (undef)), (9, 25, .val (undef)), (10, 26, .val (.bool true)), (11, 27, .val (.bool true)), (12, 28, .val (undef)), (13, 29, .val (undef)), (14, 30, .val (undef)), (15, 31, .val (.bool true))] := lok (by rfl) (by rfl)
      refine zJ (wE := w) (sz := 90) (n := 16) [0, 1, 3, 7, 15, 31, 63, 127, 255, 511, 1023, 2047, 4095, 8191, 16383, 32767] [(0, .val (.agg (FR () 6 ((p).sc)))), (1, .val (.agg (FR () 6 ((q).sc)))), (2, .val (.string (us))), (3, .val (.string (ot))), (4, .val (.pointer (some ⟨g1_0, 0, none⟩))), (5, .val (.pointer (some ⟨g1_1, 0, none⟩))), (8, .val (.bool false)), (15, .val (.bool false)), (31, .val (.bool true))] [(0, 16, .val (.agg (FR () 6 ((p).sc)))), (1, 17, .val (.bool false)), (2, 18, .val (.bool false)), (3, 19, .val (.agg (FR () 6 ((q).sc)))), (4, 20, .val (.bool true)), (5, 21, .val (.bool true)), (6, 22, .val (.bool true)), (7, 23, .val (undef)), (8, 24, .val (undef)), (9, 25, .val (undef)), (10, 26, .val (.bool true)), (11, 27, .val (.bool true)), (12, 28, .val (undef)), (13, 29, .val (undef)), (14, 30, .val (undef)), (15, 31, .val (.bool true))] [⟨g1_0, none, none, (), 6, (p).sc, (p).sc, 25⟩, ⟨g1_1, none, none, (), 6, (q).sc, (q).sc, 25⟩] rfl (by rfl) HH2 rfl rfl hLo rfl HS2 (slS 0 rfl rfl (slS 1 rfl rfl (slS 2 rfl rfl (slS 3 rfl rfl (slS 4 rfl rfl (slS 5 rfl rfl (slS 6 rfl rfl (slS 7 rfl rfl (slL 15 (d := 15) rfl (trivial)))))))))) ?_ ?_
      · show ∀ i ∈ [0, 1, 2, 3, 4, 5, 6, 7, 8, 9, 10, 11, 12, 13, 14, 15], _
        refine zA (yF 0 0 _ rfl rfl rfl rfl (fun _ _ _ _ => rfl) hLo rfl rfl rfl (by rfl) Tryd.underlying25 (by kernel_rfl) rfl (fun b G hb ho => zG rfl (HS2.get 4 rfl))) ?_
        refine zA (zV 1 _ #[.agg (FR () 6 ((p).sc))] rfl rfl rfl (fun _ _ _ _ => rfl) hLo rfl rfl Tryd.func11 rfl rfl (fun b G hb ho => args1 (zB hLo 0 rfl HS2.1 rfl (hb 0 (by rfl)))) (fun w hw => (by have hq := great_calls (hInp.below hw); rw [hr1] at hq; exact hq))) ?_
        refine zA (zC 2 _ rfl rfl hLo rfl rfl (fun _ _ _ _ => rfl) (fun b G w hb ho => zD (.inl rfl) (zB hLo 1 rfl HS2.1 rfl (hb 1 (by rfl))))) ?_
        refine zA (yF 3 1 _ rfl rfl rfl rfl (fun b G hb ho => zE rfl rfl rfl HS2.1 rfl (zB hLo 2 rfl HS2.1 rfl (hb 2 (by rfl))) rfl) hLo rfl rfl rfl (by rfl) Tryd.underlying25 (by kernel_rfl) rfl (fun b G hb ho => zG rfl (HS2.get 5 rfl))) ?_
        refine zA (zV 4 _ #[.agg (FR () 6 ((q).sc))] rfl rfl rfl (fun b G hb ho => zE rfl rfl rfl HS2.1 rfl (zB hLo 2 rfl HS2.1 rfl (hb 2 (by rfl))) rfl) hLo rfl rfl Tryd.func11 rfl rfl (fun b G hb ho => args1 (zB hLo 3 rfl HS2.1 rfl (hb 3 (by rfl)))) (fun w hw => (by have hq := great_calls (hInq.below hw); rw [hr2] at hq; exact hq))) ?_
        refine zA (zC 5 _ rfl rfl hLo rfl rfl (fun _ _ _ _ => rfl) (fun b G w hb ho => zK rfl (zB hLo 2 rfl HS2.1 rfl (hb 2 (by rfl))) (zB hLo 4 rfl HS2.1 rfl (hb 4 (by rfl))))) ?_
        refine zA (zC 6 _ rfl rfl hLo rfl rfl (fun _ _ _ _ => rfl) (fun b G w hb ho => zD (.inl rfl) (zB hLo 5 rfl HS2.1 rfl (hb 5 (by rfl))))) ?_
        refine zA (zH 7 rfl rfl hLo rfl rfl (fun b G hb ho => zE rfl rfl rfl HS2.1 rfl (zB hLo 6 rfl HS2.1 rfl (hb 6 (by rfl))) rfl)) ?_
        refine zA (zH 8 rfl rfl hLo rfl rfl (fun b G hb ho => zE rfl rfl rfl HS2.1 rfl (zB hLo 6 rfl HS2.1 rfl (hb 6 (by rfl))) rfl)) ?_
        refine zA (zH 9 rfl rfl hLo rfl rfl (fun b G hb ho => zE rfl rfl rfl HS2.1 rfl (zB hLo 6 rfl HS2.1 rfl (hb 6 (by rfl))) rfl)) ?_
        refine zA (zC 10 _ rfl rfl hLo rfl rfl (fun _ _ _ _ => rfl) (fun b G w hb ho => zK rfl (zB hLo 6 rfl HS2.1 rfl (hb 6 (by rfl))) (rfl))) ?_
        refine zA (zC 11 _ rfl rfl hLo rfl rfl (fun _ _ _ _ => rfl) (fun b G w hb ho => zD (.inl rfl) (zB hLo 10 rfl HS2.1 rfl (hb 10 (by rfl))))) ?_
        refine zA (zH 12 rfl rfl hLo rfl rfl (fun b G hb ho => zE rfl rfl rfl HS2.1 rfl (zB hLo 11 rfl HS2.1 rfl (hb 11 (by rfl))) rfl)) ?_
        refine zA (zH 13 rfl rfl hLo rfl rfl (fun b G hb ho => zE rfl rfl rfl HS2.1 rfl (zB hLo 11 rfl HS2.1 rfl (hb 11 (by rfl))) rfl)) ?_
        refine zA (zH 14 rfl rfl hLo rfl rfl (fun b G hb ho => zE rfl rfl rfl HS2.1 rfl (zB hLo 11 rfl HS2.1 rfl (hb 11 (by rfl))) rfl)) ?_
        refine zA (zC 15 _ rfl rfl hLo rfl rfl (fun _ _ _ _ => rfl) (fun b G w hb ho => zK rfl (zB hLo 11 rfl HS2.1 rfl (hb 11 (by rfl))) (rfl))) ?_
        exact zF
      clear hLo
      intro G a29 w29 hS hH
      have HS29 : Sl a29 90 [(0, .agg (FR () 6 ((p).sc))), (1, .agg (FR () 6 ((q).sc))), (2, .string (us)), (3, .string (ot)), (4, .pointer (some ⟨g1_0, 0, none⟩)), (5, .pointer (some ⟨g1_1, 0, none⟩)), (8, .bool false), (15, .bool false), (31, .bool true)] := hS
      have HH29 : Held w w29 [⟨g1_0, (), 6, (p).sc, 25⟩, ⟨g1_1, (), 6, (q).sc, 25⟩] := hH
      clear hS hH HS2 HH2
      refine then_ ?_
      refine wp_cond_true (HS29.get 8 rfl) ?_
      refine wp_seq ?_
      have hLo : LOk [(0, 8, .val (.bool true))] := lok (by rfl) (by rfl)
      refine zJ (wE := w) (sz := 90) (n := 1) [0] [(0, .val (.agg (FR () 6 ((p).sc)))), (1, .val (.agg (FR () 6 ((q).sc)))), (2, .val (.string (us))), (3, .val (.string (ot))), (4, .val (.pointer (some ⟨g1_0, 0, none⟩))), (5, .val (.pointer (some ⟨g1_1, 0, none⟩))), (15, .val (.bool false)), (31, .val (.bool true)), (8, .val (.bool true))] [(0, 8, .val (.bool true))] [⟨g1_0, none, none, (), 6, (p).sc, (p).sc, 25⟩, ⟨g1_1, none, none, (), 6, (q).sc, (q).sc, 25⟩] rfl (by rfl) HH29 rfl rfl hLo rfl HS29 (slS 0 rfl rfl (slS 1 rfl rfl (slS 2 rfl rfl (slS 3 rfl rfl (slS 4 rfl rfl (slS 5 rfl rfl (slS 7 rfl rfl (slS 8 rfl rfl (slL 0 (d := 0) rfl (trivial)))))))))) ?_ ?_
      · show ∀ i ∈ [0], _
        refine zA (zC 0 _ rfl rfl hLo rfl rfl (fun _ _ _ _ => rfl) (fun b G w hb ho => zD (.inr rfl) (rfl))) ?_
        exact zF
      clear hLo
      intro G a30 w30 hS hH
      have HS30 : Sl a30 90 [(0, .agg (FR () 6 ((p).sc))), (1, .agg (FR () 6 ((q).sc))), (2, .string (us)), (3, .string (ot)), (4, .pointer (some ⟨g1_0, 0, none⟩)), (5, .pointer (some ⟨g1_1, 0, none⟩)), (15, .bool false), (31, .bool true), (8, .bool true)] := hS
      have HH30 : Held w w30 [⟨g1_0, (), 6, (p).sc, 25⟩, ⟨g1_1, (), 6, (q).sc, 25⟩] := hH
      clear hS hH HS29 HH29
      refine then_ ?_
      refine wp_ret ?_
      repeat (first | refine zQ ?_ | refine zN ?_)
      exact yH rfl HS30.2.1 (HS30.get 8 rfl) ⟨law_ret rfl, HH30.1⟩
  · skip
    refine wp_seq ?_
    have hLo : LOk [(0, 16, .val (.agg (FR () 6 ((p).sc)))), (1, 17, .val (.bool true)), (2, 18, .val (.bool true)), (3, 19, .val (undef)), (4, 20, .val (undef)), (5, 21, .val (.bool true)), (6, 22, .val (.bool true)), (7, 23, .val (undef)), (8, 24, .val (undef)), (9, 25, .val (undef)), (10, 26, .val (.bool true)), (11, 27, .val (.bool true)), (12, 28, .val (undef)), (13, 29, .val (undef)), (14, 30, .val (undef)), (15, 31, .val (.bool true))] := lok (by rfl) (by rfl)
    refine zJ (wE := w) (sz := 90) (n := 16) [0, 1, 3, 7, 15, 31, 63, 127, 255, 511, 1023, 2047, 4095, 8191, 16383, 32767] [(0, .val (.agg (FR () 6 ((p).sc)))), (1, .val (.agg (FR () 6 ((q).sc)))), (2, .val (.string (us))), (3, .val (.string (ot))), (4, .val (.pointer (some ⟨g1_0, 0, none⟩))), (5, .val (.pointer (some ⟨g1_1, 0, none⟩))), (8, .val (.bool false)), (15, .val (.bool false)), (31, .val (.bool true))] [(0, 16, .val (.agg (FR () 6 ((p).sc)))), (1, 17, .val (.bool true)), (2, 18, .val (.bool true)), (3, 19, .val (undef)), (4, 20, .val (undef)), (5, 21, .val (.bool true)), (6, 22, .val (.bool true)), (7, 23, .val (undef)), (8, 24, .val (undef)), (9, 25, .val (undef)), (10, 26, .val (.bool true)), (11, 27, .val (.bool true)), (12, 28, .val (undef)), (13, 29, .val (undef)), (14, 30, .val (undef)), (15, 31, .val (.bool true))] [⟨g1_0, none, none, (), 6, (p).sc, (p).sc, 25⟩, ⟨g1_1, none, none, (), 6, (q).sc, (q).sc, 25⟩] rfl (by rfl) HH2 rfl rfl hLo rfl HS2 (slS 0 rfl rfl (slS 1 rfl rfl (slS 2 rfl rfl (slS 3 rfl rfl (slS 4 rfl rfl (slS 5 rfl rfl (slS 6 rfl rfl (slS 7 rfl rfl (slL 15 (d := 15) rfl (trivial)))))))))) ?_ ?_
    · show ∀ i ∈ [0, 1, 2, 3, 4, 5, 6, 7, 8, 9, 10, 11, 12, 13, 14, 15], _
      refine zA (yF 0 0 _ rfl rfl rfl rfl (fun _ _ _ _ => rfl) hLo rfl rfl rfl (by rfl) Tryd.underlying25 (by kernel_rfl) rfl (fun b G hb ho => zG rfl (HS2.get 4 rfl))) ?_
      refine zA (zV 1 _ #[.agg (FR () 6 ((p).sc))] rfl rfl rfl (fun _ _ _ _ => rfl) hLo rfl rfl Tryd.func11 rfl rfl (fun b G hb ho => args1 (zB hLo 0 rfl HS2.1 rfl (hb 0 (by rfl)))) (fun w hw => (by have hq := great_calls (hInp.below hw); rw [hr1] at hq; exact hq))) ?_
      refine zA (zC 2 _ rfl rfl hLo rfl rfl (fun _ _ _ _ => rfl) (fun b G w hb ho => zD (.inl rfl) (zB hLo 1 rfl HS2.1 rfl (hb 1 (by rfl))))) ?_
      refine zA (zH 3 rfl rfl hLo rfl rfl (fun b G hb ho => zE rfl rfl rfl HS2.1 rfl (zB hLo 2 rfl HS2.1 rfl (hb 2 (by rfl))) rfl)) ?_
      refine zA (zH 4 rfl rfl hLo rfl rfl (fun b G hb ho => zE rfl rfl rfl HS2.1 rfl (zB hLo 2 rfl HS2.1 rfl (hb 2 (by rfl))) rfl)) ?_
      refine zA (zC 5 _ rfl rfl hLo rfl rfl (fun _ _ _ _ => rfl) (fun b G w hb ho => zK rfl (zB hLo 2 rfl HS2.1 rfl (hb 2 (by rfl))) (rfl))) ?_
      refine zA (zC 6 _ rfl rfl hLo rfl rfl (fun _ _ _ _ => rfl) (fun b G w hb ho => zD (.inl rfl) (zB hLo 5 rfl HS2.1 rfl (hb 5 (by rfl))))) ?_
      refine zA (zH 7 rfl rfl hLo rfl rfl (fun b G hb ho => zE rfl rfl rfl HS2.1 rfl (zB hLo 6 rfl HS2.1 rfl (hb 6 (by rfl))) rfl)) ?_
      refine zA (zH 8 rfl rfl hLo rfl rfl (fun b G hb ho => zE rfl rfl rfl HS2.1 rfl (zB hLo 6 rfl HS2.1 rfl (hb 6 (by rfl))) rfl)) ?_
      refine zA (zH 9 rfl rfl hLo rfl rfl (fun b G hb ho => zE rfl rfl rfl HS2.1 rfl (zB hLo 6 rfl HS2.1 rfl (hb 6 (by rfl))) rfl)) ?_
      refine zA (zC 10 _ rfl rfl hLo rfl rfl (fun _ _ _ _ => rfl) (fun b G w hb ho => zK rfl (zB hLo 6 rfl HS2.1 rfl (hb 6 (by rfl))) (rfl))) ?_
      refine zA (zC 11 _ rfl rfl hLo rfl rfl (fun _ _ _ _ => rfl) (fun b G w hb ho => zD (.inl rfl) (zB hLo 10 rfl HS2.1 rfl (hb 10 (by rfl))))) ?_
      refine zA (zH 12 rfl rfl hLo rfl rfl (fun b G hb ho => zE rfl rfl rfl HS2.1 rfl (zB hLo 11 rfl HS2.1 rfl (hb 11 (by rfl))) rfl)) ?_
      refine zA (zH 13 rfl rfl hLo rfl rfl (fun b G hb ho => zE rfl rfl rfl HS2.1 rfl (zB hLo 11 rfl HS2.1 rfl (hb 11 (by rfl))) rfl)) ?_
      refine zA (zH 14 rfl rfl hLo rfl rfl (fun b G hb ho => zE rfl rfl rfl HS2.1 rfl (zB hLo 11 rfl HS2.1 rfl (hb 11 (by rfl))) rfl)) ?_
      refine zA (zC 15 _ rfl rfl hLo rfl rfl (fun _ _ _ _ => rfl) (fun b G w hb ho => zK rfl (zB hLo 11 rfl HS2.1 rfl (hb 11 (by rfl))) (rfl))) ?_
      exact zF
    clear hLo
    intro G a31 w31 hS hH
    have HS31 : Sl a31 90 [(0, .agg (FR () 6 ((p).sc))), (1, .agg (FR () 6 ((q).sc))), (2, .string (us)), (3, .string (ot)), (4, .pointer (some ⟨g1_0, 0, none⟩)), (5, .pointer (some ⟨g1_1, 0, none⟩)), (8, .bool false), (15, .bool false), (31, .bool true)] := hS
    have HH31 : Held w w31 [⟨g1_0, (), 6, (p).sc, 25⟩, ⟨g1_1, (), 6, (q).sc, 25⟩] := hH
    clear hS hH HS2 HH2
    refine then_ ?_
    refine wp_cond_true (HS31.get 8 rfl) ?_
    refine wp_seq ?_
    have hLo : LOk [(0, 8, .val (.bool true))] := lok (by rfl) (by rfl)
    refine zJ (wE := w) (sz := 90) (n := 1) [0] [(0, .val (.agg (FR () 6 ((p).sc)))), (1, .val (.agg (FR () 6 ((q).sc)))), (2, .val (.string (us))), (3, .val (.string (ot))), (4, .val (.pointer (some ⟨g1_0, 0, none⟩))), (5, .val (.pointer (some ⟨g1_1, 0, none⟩))), (15, .val (.bool false)), (31, .val (.bool true)), (8, .val (.bool true))] [(0, 8, .val (.bool true))] [⟨g1_0, none, none, (), 6, (p).sc, (p).sc, 25⟩, ⟨g1_1, none, none, (), 6, (q).sc, (q).sc, 25⟩] rfl (by rfl) HH31 rfl rfl hLo rfl HS31 (slS 0 rfl rfl (slS 1 rfl rfl (slS 2 rfl rfl (slS 3 rfl rfl (slS 4 rfl rfl (slS 5 rfl rfl (slS 7 rfl rfl (slS 8 rfl rfl (slL 0 (d := 0) rfl (trivial)))))))))) ?_ ?_
    · show ∀ i ∈ [0], _
      refine zA (zC 0 _ rfl rfl hLo rfl rfl (fun _ _ _ _ => rfl) (fun b G w hb ho => zD (.inr rfl) (rfl))) ?_
      exact zF
    clear hLo
    intro G a32 w32 hS hH
    have HS32 : Sl a32 90 [(0, .agg (FR () 6 ((p).sc))), (1, .agg (FR () 6 ((q).sc))), (2, .string (us)), (3, .string (ot)), (4, .pointer (some ⟨g1_0, 0, none⟩)), (5, .pointer (some ⟨g1_1, 0, none⟩)), (15, .bool false), (31, .bool true), (8, .bool true)] := hS
    have HH32 : Held w w32 [⟨g1_0, (), 6, (p).sc, 25⟩, ⟨g1_1, (), 6, (q).sc, 25⟩] := hH
    clear hS hH HS31 HH31
    refine then_ ?_
    refine wp_ret ?_
    repeat (first | refine zQ ?_ | refine zN ?_)
    exact yH rfl HS32.2.1 (HS32.get 8 rfl) ⟨law_ret rfl, HH32.1⟩
end Go.Proofs.YtjpiofbedglagaaDoor.P
end
