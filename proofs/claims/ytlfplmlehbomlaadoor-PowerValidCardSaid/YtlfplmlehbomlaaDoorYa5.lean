/- Merged of the texts: Uk, WSized (trim.py). -/
import Derived.SizedLaws
import Derived.ChangeSlices
import Derived.Test.YtlfplmlehbomlaaDoorYa4
section
namespace Go.Proofs.YtlfplmlehbomlaaDoor.P
set_option linter.unusedVariables false
set_option linter.unusedSimpArgs false
open Go.RowKit Go.ChangeShapes Go.WideShapes Go.Proofs.YtlfplmlehbomlaaDoorW.PrintWords Go.Proofs.YtlfplmlehbomlaaDoorW.PrintLast Go.Proofs.YtlfplmlehbomlaaDoorW.PrintMore
theorem tabwva_3 : rtab .any (opsOf Tryd.f3 3) = (true, [([], []), ([0], [0]), ([1, 1], [1]), ([2], [2]), ([3, 2, 2], [2, 3]), ([2], [2]), ([5, 4, 2], [2, 5]), ([4, 6, 2], [2, 4, 6]), ([2, 7], [2, 7]), ([8, 6, 0, 1, 2, 3, 4, 5, 6, 7, 8], [8])]) := by kernel_rfl
theorem bitswva_3 : waitsOk [([], []), ([0], [0]), ([1, 1], [1]), ([2], [2]), ([3, 2, 2], [2, 3]), ([2], [2]), ([5, 4, 2], [2, 5]), ([4, 6, 2], [2, 4, 6]), ([2, 7], [2, 7]), ([8, 6, 0, 1, 2, 3, 4, 5, 6, 7, 8], [8])] [0, 1, 3, 7, 15, 7, 63, 127, 255, 511] = true := by kernel_rfl
theorem PowerValid_walk (t : T) (w : World) (hTab : Tab w) (hIn : In w t) : Calls Tryd.prog 3 #[.agg (FR () 6 ((t).sc))] w fun e w' => e = .returned (.bool true) ∧ Below w.heap.size w w' := by
  refine enter_ 19 Tryd.func3 rfl rfl (fun a0 hS => ?_)
  have HS0 : Sl a0 19 [(0, .agg (FR () 6 ((t).sc)))] := hS
  have HH0 : Held w w [] := Held.first w
  clear hS
  refine wp_seq ?_
  have hLo : LOk [(0, 1, .new 0 (fun g => .pointer (some ⟨g, 0, none⟩))), (1, 2, .val (.bool false))] := lok (by rfl) (by rfl)
  refine zK (wE := w) (sz := 19) (n := 2) [0, 1] [(0, .val (.agg (FR () 6 ((t).sc)))), (1, .new 0 (fun g => .pointer (some ⟨g, 0, none⟩))), (2, .val (.bool false))] [(0, 1, .new 0 (fun g => .pointer (some ⟨g, 0, none⟩))), (1, 2, .val (.bool false))] [⟨0, some 0, none, (), 6, (t).sc, (t).sc, 25⟩] rfl (by rfl) HH0 rfl rfl hLo rfl HS0 (slS 0 rfl rfl (slL 0 (d := 0) rfl (slL 1 (d := 1) rfl (trivial)))) ?_ ?_
  · show ∀ i ∈ [0, 1], _
    refine zA (st_alloc 0 0 () 6 25 none _ _ rfl rfl (fun _ _ _ _ => rfl) rfl hLo rfl rfl rfl rfl (by rfl) (fun b G w hb ho => exec_box rfl (zG rfl (HS0.get 0 rfl)) (by kernel_rfl))) ?_
    refine zA (zC 1 _ rfl rfl hLo rfl rfl (fun _ _ _ _ => rfl) (fun b G w hb ho => zD (.inr rfl) (rfl))) ?_
    exact zF
  clear hLo
  intro G a1 w1 hS hH
  have HS1 : Sl a1 19 [(0, .agg (FR () 6 ((t).sc))), (1, .pointer (some ⟨(G 0), 0, none⟩)), (2, .bool false)] := hS
  have HH1 : Held w w1 [⟨(G 0), (), 6, (t).sc, 25⟩] := hH
  clear hS hH HS0 HH0
  generalize G 0 = g1_0 at HS1 HH1
  refine then_ ?_
  refine wp_seq ?_
  refine wp_seq ?_
  refine whole_ ?_
  refine cut_call _ rfl rfl rfl rfl Tryd.func5 rfl rfl (args0 ) (levels_calls _) HS1 rfl ?_
  rintro e2 w2 ⟨⟨gl1, hl1, rfl, hin1⟩, hb1⟩
  refine ⟨_, rfl, fun a2 hS => ?_⟩
  have HS3 : Sl a2 19 [(3, .agg (FR () 6 ((lvT gl1 hl1).sc))), (0, .agg (FR () 6 ((t).sc))), (1, .pointer (some ⟨g1_0, 0, none⟩)), (2, .bool false)] := hS
  have HH3 : Held w w2 [⟨g1_0, (), 6, (t).sc, 25⟩] := HH1.call hb1
  clear hS
  have hin1 : In w2 (lvT gl1 hl1) := hin1
  have hRow4_0 := HH3.row 0 rfl
  have hTab_4 := hTab.below HH3.1
  have hIn_4 := hIn.below HH3.1
  have HH4 : Held w2 w2 [] := Held.first w2
  have HS4 : Sl a2 19 [(3, .agg (FR () 6 ((lvT gl1 hl1).sc))), (0, .agg (FR () 6 ((t).sc))), (1, .pointer (some ((⟨g1_0, 0, none⟩ : Addr)))), (2, .bool false)] := HS3
  have hLo : LOk [(1, 4, .val (.bool true)), (2, 5, .val (.bool false)), (3, 6, .val (.bool false)), (4, 7, .val (.agg (FR () 6 ((T.zero).sc)))), (5, 8, .val (.bool false)), (6, 9, .val (.bool false))] := lok (by rfl) (by rfl)
  refine part_ (wE := w2) (sz := 19) (n := 7) 1 7 [0, 1, 3, 7, 15, 31, 63] [(0, .val (.agg (FR () 6 ((t).sc)))), (1, .val (.pointer (some ((⟨g1_0, 0, none⟩ : Addr))))), (2, .val (.bool false)), (9, .val (.bool false))] [(1, 4, .val (.bool true)), (2, 5, .val (.bool false)), (3, 6, .val (.bool false)), (4, 7, .val (.agg (FR () 6 ((T.zero).sc)))), (5, 8, .val (.bool false)), (6, 9, .val (.bool false))] [] rfl rfl (by rfl) HH4 rfl rfl hLo rfl HS4 (slS 1 rfl rfl (slS 2 rfl rfl (slS 3 rfl rfl (slL 5 (d := 6) rfl (trivial))))) ?_ ?_
  · show ∀ i ∈ [1, 2, 3, 4, 5, 6], _
    refine zA (st_call 0 _ #[.agg (FR () 6 ((lvT gl1 hl1).sc))] rfl rfl rfl (fun _ _ _ _ => rfl) hLo rfl rfl Tryd.func4 rfl rfl (fun b G hb ho => args1 (zG rfl (HS4.get 0 rfl))) (fun w hw => (by have hq := valid_calls (t := lvT gl1 hl1) (hin1.below hw) (Rises.lvT _ _) (hTab_4.below hw); rw [valid_lv] at hq; exact hq))) ?_
    refine zA (zC 1 _ rfl rfl hLo rfl rfl (fun _ _ _ _ => rfl) (fun b G w hb ho => exec_un rfl (zB hLo 0 rfl HS4.1 rfl (hb 1 (by rfl))) (ru_not _))) ?_
    refine zA (zC 2 _ rfl rfl hLo rfl rfl (fun _ _ _ _ => rfl) (fun b G w hb ho => zD (.inl rfl) (zB hLo 1 rfl HS4.1 rfl (hb 2 (by rfl))))) ?_
    refine zA (zC 3 _ rfl rfl hLo rfl rfl (fun b G hb ho => zE rfl rfl rfl HS4.1 rfl (zB hLo 2 rfl HS4.1 rfl (hb 3 (by rfl))) rfl) (fun b G w hb ho => exec_build rfl (parts0 ) (by kernel_rfl))) ?_
    refine zA (st_call 4 _ #[.agg (FR () 6 ((T.zero).sc))] rfl rfl rfl (fun b G hb ho => zE rfl rfl rfl HS4.1 rfl (zB hLo 2 rfl HS4.1 rfl (hb 3 (by rfl))) rfl) hLo rfl rfl Tryd.func4 rfl rfl (fun b G hb ho => args1 (zB hLo 3 rfl HS4.1 rfl (hb 4 (by rfl)))) (fun w hw => (by have hq := valid_calls (t := T.zero) (In.zero w) Rises.zero (hTab_4.below hw); rw [valid_zero] at hq; exact hq))) ?_
    refine zA (zC 5 _ rfl rfl hLo rfl rfl (fun _ _ _ _ => rfl) (fun b G w hb ho => zO rfl (zB hLo 2 rfl HS4.1 rfl (hb 3 (by rfl))) (zB hLo 4 rfl HS4.1 rfl (hb 5 (by rfl))))) ?_
    exact zF
  clear hLo
  intro G a5 w5 hS hH
  have HS5 : Sl a5 19 [(0, .agg (FR () 6 ((t).sc))), (1, .pointer (some ((⟨g1_0, 0, none⟩ : Addr)))), (2, .bool false), (9, .bool false)] := hS
  have HH5 : Held w2 w5 [] := hH
  clear hS hH HS4 HH4
  refine end_ rfl ?_
  refine then_ ?_
  refine wp_cond_false (HS5.get 3 rfl) ?_
  refine wp_skip ?_
  refine then_ ?_
  obtain ⟨r1, hr1⟩ : ∃ r : Bool, (greatB t) = r := ⟨_, rfl⟩
  cases r1
  · skip
    have hR_t := (greatB_not hr1)
    obtain ⟨r2, hr2⟩ : ∃ r : Bool, (validB zY t) = r := ⟨_, rfl⟩
    cases r2
    · skip
      refine wp_seq ?_
      have hLo : LOk [(0, 10, .val (.agg (FR () 6 ((t).sc)))), (1, 11, .val (.bool false)), (2, 12, .val (.bool false)), (3, 13, .val (.agg (FR () 6 ((t).sc)))), (4, 14, .val (.bool false)), (5, 15, .val (.agg (FR () 6 ((t).sc)))), (6, 16, .val (.bool false)), (7, 17, .val (.bool true)), (8, 18, .val (.bool true)), (9, 2, .val (.bool true))] := lok (by rfl) (by rfl)
      refine region_ (wE := w2) (sz := 19) (n := 10) (B := [0, 1, 3, 7, 15, 7, 63, 127, 255, 511]) [0, 1, 2, 3, 4, 5, 6, 7, 8, 9] [(0, .val (.agg (FR () 6 ((t).sc)))), (1, .val (.pointer (some ((⟨g1_0, 0, none⟩ : Addr))))), (9, .val (.bool false)), (2, .val (.bool true))] [(0, 10, .val (.agg (FR () 6 ((t).sc)))), (1, 11, .val (.bool false)), (2, 12, .val (.bool false)), (3, 13, .val (.agg (FR () 6 ((t).sc)))), (4, 14, .val (.bool false)), (5, 15, .val (.agg (FR () 6 ((t).sc)))), (6, 16, .val (.bool false)), (7, 17, .val (.bool true)), (8, 18, .val (.bool true)), (9, 2, .val (.bool true))] [] (by rfl) rfl tabwva_3 bitswva_3 (by kernel_rfl) (by kernel_rfl) HH5 rfl rfl hLo rfl HS5 (slS 0 rfl rfl (slS 1 rfl rfl (slS 3 rfl rfl (slL 9 (d := 9) rfl (trivial))))) ?_ ?_
      · show ∀ i ∈ [0, 1, 2, 3, 4, 5, 6, 7, 8, 9], _
        refine zA (st_at 0 ((⟨g1_0, 0, none⟩ : Addr)) rfl rfl rfl (fun _ _ _ _ => rfl) hLo rfl rfl Tryd.underlying25 (by kernel_rfl) rfl (row_at hRow4_0) (fun b G hb ho => zG rfl (HS5.get 1 rfl))) ?_
        refine zA (st_call 1 _ #[.agg (FR () 6 ((t).sc))] rfl rfl rfl (fun _ _ _ _ => rfl) hLo rfl rfl Tryd.func6 rfl rfl (fun b G hb ho => args1 (zB hLo 0 rfl HS5.1 rfl (hb 0 (by rfl)))) (fun w hw => (by have hq := great_calls (hIn_4.below hw); rw [hr1] at hq; exact hq))) ?_
        refine zA (zC 2 _ rfl rfl hLo rfl rfl (fun _ _ _ _ => rfl) (fun b G w hb ho => zD (.inl rfl) (zB hLo 1 rfl HS5.1 rfl (hb 1 (by rfl))))) ?_
        refine zA (st_at 3 ((⟨g1_0, 0, none⟩ : Addr)) rfl rfl rfl (fun b G hb ho => zE rfl rfl rfl HS5.1 rfl (zB hLo 2 rfl HS5.1 rfl (hb 2 (by rfl))) rfl) hLo rfl rfl Tryd.underlying25 (by kernel_rfl) rfl (row_at hRow4_0) (fun b G hb ho => zG rfl (HS5.get 1 rfl))) ?_
        refine zA (st_call 4 _ #[.agg (FR () 6 ((t).sc))] rfl rfl rfl (fun b G hb ho => zE rfl rfl rfl HS5.1 rfl (zB hLo 2 rfl HS5.1 rfl (hb 2 (by rfl))) rfl) hLo rfl rfl Tryd.func4 rfl rfl (fun b G hb ho => args1 (zB hLo 3 rfl HS5.1 rfl (hb 3 (by rfl)))) (fun w hw => (by have hq := valid_calls (t := t) (hIn_4.below hw) hR_t (hTab_4.below hw); rw [hr2] at hq; exact hq))) ?_
        refine zA (st_at 5 ((⟨g1_0, 0, none⟩ : Addr)) rfl rfl rfl (fun b G hb ho => zE rfl rfl rfl HS5.1 rfl (zB hLo 2 rfl HS5.1 rfl (hb 2 (by rfl))) rfl) hLo rfl rfl Tryd.underlying25 (by kernel_rfl) rfl (row_at hRow4_0) (fun b G hb ho => zG rfl (HS5.get 1 rfl))) ?_
        refine zA (st_call 6 _ #[.agg (FR () 6 ((t).sc))] rfl rfl rfl (fun b G hb ho => zE rfl rfl rfl HS5.1 rfl (zB hLo 2 rfl HS5.1 rfl (hb 2 (by rfl))) rfl) hLo rfl rfl Tryd.func7 rfl rfl (fun b G hb ho => args1 (zB hLo 5 rfl HS5.1 rfl (hb 5 (by rfl)))) (fun w hw => (by have hq := rvalid_calls (t := t) (hIn_4.below hw); rw [← valid_eq zY hR_t.rise, hr2] at hq; exact hq))) ?_
        refine zA (zC 7 _ rfl rfl hLo rfl rfl (fun b G hb ho => zE rfl rfl rfl HS5.1 rfl (zB hLo 2 rfl HS5.1 rfl (hb 2 (by rfl))) rfl) (fun b G w hb ho => zJ rfl (zB hLo 4 rfl HS5.1 rfl (hb 4 (by rfl))) (zB hLo 6 rfl HS5.1 rfl (hb 6 (by rfl))) (rb_beql Tryd.underlying4 (rfl) _ _ _))) ?_
        refine zA (zC 8 _ rfl rfl hLo rfl rfl (fun _ _ _ _ => rfl) (fun b G w hb ho => zO rfl (zB hLo 2 rfl HS5.1 rfl (hb 2 (by rfl))) (zB hLo 7 rfl HS5.1 rfl (hb 7 (by rfl))))) ?_
        refine zA (zC 9 _ rfl rfl hLo rfl rfl (fun _ _ _ _ => rfl) (fun b G w hb ho => zD (.inr rfl) (zB hLo 8 rfl HS5.1 rfl (hb 8 (by rfl))))) ?_
        exact zF
      clear hLo
      intro G a6 w6 hS hH
      have HS6 : Sl a6 19 [(0, .agg (FR () 6 ((t).sc))), (1, .pointer (some ((⟨g1_0, 0, none⟩ : Addr)))), (9, .bool false), (2, .bool true)] := hS
      have HH6 : Held w2 w6 [] := hH
      clear hS hH HS5 HH5
      refine then_ ?_
      refine wp_ret ?_
      repeat (first | refine zS ?_ | refine zM ?_)
      have HH7 := Held.back HH3 HH6
      exact b_tmp rfl HS6.2.1 (HS6.get 3 rfl) ⟨law_ret rfl, HH7.1⟩
    · skip
      refine wp_seq ?_
      have hLo : LOk [(0, 10, .val (.agg (FR () 6 ((t).sc)))), (1, 11, .val (.bool false)), (2, 12, .val (.bool false)), (3, 13, .val (.agg (FR () 6 ((t).sc)))), (4, 14, .val (.bool true)), (5, 15, .val (.agg (FR () 6 ((t).sc)))), (6, 16, .val (.bool true)), (7, 17, .val (.bool true)), (8, 18, .val (.bool true)), (9, 2, .val (.bool true))] := lok (by rfl) (by rfl)
      refine region_ (wE := w2) (sz := 19) (n := 10) (B := [0, 1, 3, 7, 15, 7, 63, 127, 255, 511]) [0, 1, 2, 3, 4, 5, 6, 7, 8, 9] [(0, .val (.agg (FR () 6 ((t).sc)))), (1, .val (.pointer (some ((⟨g1_0, 0, none⟩ : Addr))))), (9, .val (.bool false)), (2, .val (.bool true))] [(0, 10, .val (.agg (FR () 6 ((t).sc)))), (1, 11, .val (.bool false)), (2, 12, .val (.bool false)), (3, 13, .val (.agg (FR () 6 ((t).sc)))), (4, 14, .val (.bool true)), (5, 15, .val (.agg (FR () 6 ((t).sc)))), (6, 16, .val (.bool true)), (7, 17, .val (.bool true)), (8, 18, .val (.bool true)), (9, 2, .val (.bool true))] [] (by rfl) rfl tabwva_3 bitswva_3 (by kernel_rfl) (by kernel_rfl) HH5 rfl rfl hLo rfl HS5 (slS 0 rfl rfl (slS 1 rfl rfl (slS 3 rfl rfl (slL 9 (d := 9) rfl (trivial))))) ?_ ?_
      · show ∀ i ∈ [0, 1, 2, 3, 4, 5, 6, 7, 8, 9], _
        refine zA (st_at 0 ((⟨g1_0, 0, none⟩ : Addr)) rfl rfl rfl (fun _ _ _ _ => rfl) hLo rfl rfl Tryd.underlying25 (by kernel_rfl) rfl (row_at hRow4_0) (fun b G hb ho => zG rfl (HS5.get 1 rfl))) ?_
        refine zA (st_call 1 _ #[.agg (FR () 6 ((t).sc))] rfl rfl rfl (fun _ _ _ _ => rfl) hLo rfl rfl Tryd.func6 rfl rfl (fun b G hb ho => args1 (zB hLo 0 rfl HS5.1 rfl (hb 0 (by rfl)))) (fun w hw => (by have hq := great_calls (hIn_4.below hw); rw [hr1] at hq; exact hq))) ?_
        refine zA (zC 2 _ rfl rfl hLo rfl rfl (fun _ _ _ _ => rfl) (fun b G w hb ho => zD (.inl rfl) (zB hLo 1 rfl HS5.1 rfl (hb 1 (by rfl))))) ?_
        refine zA (st_at 3 ((⟨g1_0, 0, none⟩ : Addr)) rfl rfl rfl (fun b G hb ho => zE rfl rfl rfl HS5.1 rfl (zB hLo 2 rfl HS5.1 rfl (hb 2 (by rfl))) rfl) hLo rfl rfl Tryd.underlying25 (by kernel_rfl) rfl (row_at hRow4_0) (fun b G hb ho => zG rfl (HS5.get 1 rfl))) ?_
        refine zA (st_call 4 _ #[.agg (FR () 6 ((t).sc))] rfl rfl rfl (fun b G hb ho => zE rfl rfl rfl HS5.1 rfl (zB hLo 2 rfl HS5.1 rfl (hb 2 (by rfl))) rfl) hLo rfl rfl Tryd.func4 rfl rfl (fun b G hb ho => args1 (zB hLo 3 rfl HS5.1 rfl (hb 3 (by rfl)))) (fun w hw => (by have hq := valid_calls (t := t) (hIn_4.below hw) hR_t (hTab_4.below hw); rw [hr2] at hq; exact hq))) ?_
        refine zA (st_at 5 ((⟨g1_0, 0, none⟩ : Addr)) rfl rfl rfl (fun b G hb ho => zE rfl rfl rfl HS5.1 rfl (zB hLo 2 rfl HS5.1 rfl (hb 2 (by rfl))) rfl) hLo rfl rfl Tryd.underlying25 (by kernel_rfl) rfl (row_at hRow4_0) (fun b G hb ho => zG rfl (HS5.get 1 rfl))) ?_
        refine zA (st_call 6 _ #[.agg (FR () 6 ((t).sc))] rfl rfl rfl (fun b G hb ho => zE rfl rfl rfl HS5.1 rfl (zB hLo 2 rfl HS5.1 rfl (hb 2 (by rfl))) rfl) hLo rfl rfl Tryd.func7 rfl rfl (fun b G hb ho => args1 (zB hLo 5 rfl HS5.1 rfl (hb 5 (by rfl)))) (fun w hw => (by have hq := rvalid_calls (t := t) (hIn_4.below hw); rw [← valid_eq zY hR_t.rise, hr2] at hq; exact hq))) ?_
        refine zA (zC 7 _ rfl rfl hLo rfl rfl (fun b G hb ho => zE rfl rfl rfl HS5.1 rfl (zB hLo 2 rfl HS5.1 rfl (hb 2 (by rfl))) rfl) (fun b G w hb ho => zJ rfl (zB hLo 4 rfl HS5.1 rfl (hb 4 (by rfl))) (zB hLo 6 rfl HS5.1 rfl (hb 6 (by rfl))) (rb_beql Tryd.underlying4 (rfl) _ _ _))) ?_
        refine zA (zC 8 _ rfl rfl hLo rfl rfl (fun _ _ _ _ => rfl) (fun b G w hb ho => zO rfl (zB hLo 2 rfl HS5.1 rfl (hb 2 (by rfl))) (zB hLo 7 rfl HS5.1 rfl (hb 7 (by rfl))))) ?_
        refine zA (zC 9 _ rfl rfl hLo rfl rfl (fun _ _ _ _ => rfl) (fun b G w hb ho => zD (.inr rfl) (zB hLo 8 rfl HS5.1 rfl (hb 8 (by rfl))))) ?_
        exact zF
      clear hLo
      intro G a8 w8 hS hH
      have HS8 : Sl a8 19 [(0, .agg (FR () 6 ((t).sc))), (1, .pointer (some ((⟨g1_0, 0, none⟩ : Addr)))), (9, .bool false), (2, .bool true)] := hS
      have HH8 : Held w2 w8 [] := hH
      clear hS hH HS5 HH5
      refine then_ ?_
      refine wp_ret ?_
      repeat (first | refine zS ?_ | refine zM ?_)
      have HH9 := Held.back HH3 HH8
      exact b_tmp rfl HS8.2.1 (HS8.get 3 rfl) ⟨law_ret rfl, HH9.1⟩
  · skip
    refine wp_seq ?_
    have hLo : LOk [(0, 10, .val (.agg (FR () 6 ((t).sc)))), (1, 11, .val (.bool true)), (2, 12, .val (.bool true)), (3, 13, .val (undef)), (4, 14, .val (undef)), (5, 15, .val (undef)), (6, 16, .val (undef)), (7, 17, .val (undef)), (8, 18, .val (.bool true)), (9, 2, .val (.bool true))] := lok (by rfl) (by rfl)
    refine region_ (wE := w2) (sz := 19) (n := 10) (B := [0, 1, 3, 7, 15, 7, 63, 127, 255, 511]) [0, 1, 2, 3, 4, 5, 6, 7, 8, 9] [(0, .val (.agg (FR () 6 ((t).sc)))), (1, .val (.pointer (some ((⟨g1_0, 0, none⟩ : Addr))))), (9, .val (.bool false)), (2, .val (.bool true))] [(0, 10, .val (.agg (FR () 6 ((t).sc)))), (1, 11, .val (.bool true)), (2, 12, .val (.bool true)), (3, 13, .val (undef)), (4, 14, .val (undef)), (5, 15, .val (undef)), (6, 16, .val (undef)), (7, 17, .val (undef)), (8, 18, .val (.bool true)), (9, 2, .val (.bool true))] [] (by rfl) rfl tabwva_3 bitswva_3 (by kernel_rfl) (by kernel_rfl) HH5 rfl rfl hLo rfl HS5 (slS 0 rfl rfl (slS 1 rfl rfl (slS 3 rfl rfl (slL 9 (d := 9) rfl (trivial))))) ?_ ?_
    · show ∀ i ∈ [0, 1, 2, 3, 4, 5, 6, 7, 8, 9], _
      refine zA (st_at 0 ((⟨g1_0, 0, none⟩ : Addr)) rfl rfl rfl (fun _ _ _ _ => rfl) hLo rfl rfl Tryd.underlying25 (by kernel_rfl) rfl (row_at hRow4_0) (fun b G hb ho => zG rfl (HS5.get 1 rfl))) ?_
      refine zA (st_call 1 _ #[.agg (FR () 6 ((t).sc))] rfl rfl rfl (fun _ _ _ _ => rfl) hLo rfl rfl Tryd.func6 rfl rfl (fun b G hb ho => args1 (zB hLo 0 rfl HS5.1 rfl (hb 0 (by rfl)))) (fun w hw => (by have hq := great_calls (hIn_4.below hw); rw [hr1] at hq; exact hq))) ?_
      refine zA (zC 2 _ rfl rfl hLo rfl rfl (fun _ _ _ _ => rfl) (fun b G w hb ho => zD (.inl rfl) (zB hLo 1 rfl HS5.1 rfl (hb 1 (by rfl))))) ?_
      refine zA (zL 3 rfl rfl hLo rfl rfl (fun b G hb ho => zE rfl rfl rfl HS5.1 rfl (zB hLo 2 rfl HS5.1 rfl (hb 2 (by rfl))) rfl)) ?_
      refine zA (zL 4 rfl rfl hLo rfl rfl (fun b G hb ho => zE rfl rfl rfl HS5.1 rfl (zB hLo 2 rfl HS5.1 rfl (hb 2 (by rfl))) rfl)) ?_
      refine zA (zL 5 rfl rfl hLo rfl rfl (fun b G hb ho => zE rfl rfl rfl HS5.1 rfl (zB hLo 2 rfl HS5.1 rfl (hb 2 (by rfl))) rfl)) ?_
      refine zA (zL 6 rfl rfl hLo rfl rfl (fun b G hb ho => zE rfl rfl rfl HS5.1 rfl (zB hLo 2 rfl HS5.1 rfl (hb 2 (by rfl))) rfl)) ?_
      refine zA (zL 7 rfl rfl hLo rfl rfl (fun b G hb ho => zE rfl rfl rfl HS5.1 rfl (zB hLo 2 rfl HS5.1 rfl (hb 2 (by rfl))) rfl)) ?_
      refine zA (zC 8 _ rfl rfl hLo rfl rfl (fun _ _ _ _ => rfl) (fun b G w hb ho => zO rfl (zB hLo 2 rfl HS5.1 rfl (hb 2 (by rfl))) (rfl))) ?_
      refine zA (zC 9 _ rfl rfl hLo rfl rfl (fun _ _ _ _ => rfl) (fun b G w hb ho => zD (.inr rfl) (zB hLo 8 rfl HS5.1 rfl (hb 8 (by rfl))))) ?_
      exact zF
    clear hLo
    intro G a10 w10 hS hH
    have HS10 : Sl a10 19 [(0, .agg (FR () 6 ((t).sc))), (1, .pointer (some ((⟨g1_0, 0, none⟩ : Addr)))), (9, .bool false), (2, .bool true)] := hS
    have HH10 : Held w2 w10 [] := hH
    clear hS hH HS5 HH5
    refine then_ ?_
    refine wp_ret ?_
    repeat (first | refine zS ?_ | refine zM ?_)
    have HH11 := Held.back HH3 HH10
    exact b_tmp rfl HS10.2.1 (HS10.get 3 rfl) ⟨law_ret rfl, HH11.1⟩
end Go.Proofs.YtlfplmlehbomlaaDoor.P
end
