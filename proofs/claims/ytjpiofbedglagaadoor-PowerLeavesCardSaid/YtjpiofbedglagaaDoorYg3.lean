/- Merged of the texts: Ps, Vc, Pt, Pu, Pv, Pw, Px, Py (trim.py). -/
import Derived.Laws.OwnMore
import Derived.Deep.AppendSrc
import Derived.Test.YtjpiofbedglagaaDoorYg2
section
namespace Go.Proofs.YtjpiofbedglagaaDoor.P
set_option linter.unusedVariables false
set_option linter.unusedSimpArgs false
open Go.RowKit Go.ChangeShapes Go.WideShapes Go.Proofs.YtjpiofbedglagaaDoorW.PrintWords Go.Proofs.YtjpiofbedglagaaDoorW.PrintLast Go.Proofs.YtjpiofbedglagaaDoorW.PrintMore
def levV (t : T) (k : ByteArray) : Int := (t.told k).getD (els k)
def userV (t : T) (creator user : ByteArray) : Int :=
  if t.kind = 5 then ((t.tbl zS).told user).getD (levV t k_users_default) else if user = creator then 100 else 0
def sendV (t : T) (kind : ByteArray) (st : Bool) : Int :=
  ((t.tbl zO).told kind).getD (if st = false then levV t k_events_default else if t.kind = 5 then levV t k_state_default else 0)
theorem told_of_tell {t : T} {key : ByteArray} {d : Int} (h : (t.tell key).2 = true) : (t.told key).getD d = (t.tell key).1 := by rw [T.told_tell, h]; rfl
theorem told_of_no {t : T} {key : ByteArray} {d : Int} (h : (t.tell key).2 = false) : (t.told key).getD d = d := by rw [T.told_tell, h]; rfl
theorem kind_no {t : T} (h : ((t.kind : Int) != 5) = true) : ¬ t.kind = 5 := by simpa using h
theorem kind_is {t : T} (h : ((t.kind : Int) != 5) = false) : t.kind = 5 := by simpa using h
theorem In.empty (w : World) : In w T.empty := by
  refine ⟨⟨by decide, by decide, by decide, by decide, by decide, by decide, by decide, by decide, by decide⟩, fun i h => ?_, fun i h => ?_⟩
  · exact absurd h (Nat.not_lt_zero _)
  · exact absurd h (Nat.not_lt_zero _)
theorem user_calls {w : World} {t : T} (cr us : ByteArray) (hIn : In w t) (hR : Rises t) (hTab : Tab w) : Calls Tryd.prog 13 #[.agg (FR () 6 ((t).sc)), .string (cr), .string (us)] w fun e w' => e = .returned (.int .i64 (userV t cr us)) ∧ Below w.heap.size w w' := by
  refine enter_ 32 Tryd.func13 rfl rfl (fun a0 hS => ?_)
  have HS0 : Sl a0 32 [(0, .agg (FR () 6 ((t).sc))), (1, .string (cr)), (2, .string (us))] := hS
  have HH0 : Held w w [] := Held.first w
  clear hS
  refine wp_seq ?_
  have hLo : LOk [(0, 3, .new 0 (fun g => .pointer (some ⟨g, 0, none⟩))), (1, 6, .val (.int .i64 (0)))] := lok (by rfl) (by rfl)
  refine zH (wE := w) (sz := 32) (n := 2) [0, 1] [(0, .val (.agg (FR () 6 ((t).sc)))), (1, .val (.string (cr))), (2, .val (.string (us))), (3, .new 0 (fun g => .pointer (some ⟨g, 0, none⟩))), (6, .val (.int .i64 (0)))] [(0, 3, .new 0 (fun g => .pointer (some ⟨g, 0, none⟩))), (1, 6, .val (.int .i64 (0)))] [⟨0, some 0, none, (), 6, (t).sc, (t).sc, 25⟩] rfl (by rfl) HH0 rfl rfl hLo rfl HS0 (slS 0 rfl rfl (slS 1 rfl rfl (slS 2 rfl rfl (slL 0 (d := 0) rfl (slL 1 (d := 1) rfl (trivial)))))) ?_ ?_
  · show ∀ i ∈ [0, 1], _
    refine zA (zZ 0 0 () 6 25 none _ _ rfl rfl (fun _ _ _ _ => rfl) rfl hLo rfl rfl rfl rfl (by rfl) (fun b G w hb ho => exec_box rfl (zG rfl (HS0.get 0 rfl)) (by kernel_rfl))) ?_
    refine zA (zB 1 _ rfl rfl hLo rfl rfl (fun _ _ _ _ => rfl) (fun b G w hb ho => zD (.inr rfl) (rfl))) ?_
    exact zF
  clear hLo
  intro G a1 w1 hS hH
  have HS1 : Sl a1 32 [(0, .agg (FR () 6 ((t).sc))), (1, .string (cr)), (2, .string (us)), (3, .pointer (some ⟨(G 0), 0, none⟩)), (6, .int .i64 (0))] := hS
  have HH1 : Held w w1 [⟨(G 0), (), 6, (t).sc, 25⟩] := hH
  clear hS hH HS0 HH0
  generalize G 0 = g1_0 at HS1 HH1
  refine then_ ?_
  refine wp_seq ?_
  obtain ⟨r1, hr1⟩ : ∃ r : Bool, ((((t).kind : Int) != 5)) = r := ⟨_, rfl⟩
  refine wp_seq ?_
  have hLo : LOk [(0, 11, .val (.pointer (some ⟨g1_0, 0, none⟩))), (1, 12, .val (.int .i64 ((t).kind))), (2, 13, .val (.bool r1))] := lok (by rfl) (by rfl)
  refine zH (wE := w) (sz := 32) (n := 3) [0, 1, 3] [(0, .val (.agg (FR () 6 ((t).sc)))), (1, .val (.string (cr))), (2, .val (.string (us))), (3, .val (.pointer (some ⟨g1_0, 0, none⟩))), (6, .val (.int .i64 (0))), (13, .val (.bool r1))] [(0, 11, .val (.pointer (some ⟨g1_0, 0, none⟩))), (1, 12, .val (.int .i64 ((t).kind))), (2, 13, .val (.bool r1))] [⟨g1_0, none, none, (), 6, (t).sc, (t).sc, 25⟩] rfl (by rfl) HH1 rfl rfl hLo rfl HS1 (slS 0 rfl rfl (slS 1 rfl rfl (slS 2 rfl rfl (slS 3 rfl rfl (slS 4 rfl rfl (slL 2 (d := 2) rfl (trivial))))))) ?_ ?_
  · show ∀ i ∈ [0, 1, 2], _
    refine zA (zB 0 _ rfl rfl hLo rfl rfl (fun _ _ _ _ => rfl) (fun b G w hb ho => zJ rfl (zG rfl (HS1.get 3 rfl)) (by kernel_rfl))) ?_
    refine zA (zW 1 0 _ _ rfl rfl rfl hLo rfl rfl (fun _ _ _ _ => rfl) (by rfl) (by rfl) (fun b G w hb ho hr => zP hr (Nat.le_of_ble_eq_true rfl) Tryd.underlying3 rfl rfl (zC hLo 0 rfl HS1.1 rfl (hb 0 (by rfl))))) ?_
    refine zA (zB 2 _ rfl rfl hLo rfl rfl (fun _ _ _ _ => rfl) (fun b G w hb ho => zI rfl (zC hLo 1 rfl HS1.1 rfl (hb 1 (by rfl))) (rfl) (rb_neq hr1 _ _ _))) ?_
    exact zF
  clear hLo
  intro G a2 w2 hS hH
  have HS2 : Sl a2 32 [(0, .agg (FR () 6 ((t).sc))), (1, .string (cr)), (2, .string (us)), (3, .pointer (some ⟨g1_0, 0, none⟩)), (6, .int .i64 (0)), (13, .bool r1)] := hS
  have HH2 : Held w w2 [⟨g1_0, (), 6, (t).sc, 25⟩] := hH
  clear hS hH HS1 HH1
  refine then_ ?_
  cases r1
  · skip
    refine wp_cond_false (HS2.get 5 rfl) ?_
    refine wp_skip ?_
    refine then_ ?_
    refine wp_seq ?_
    have hLo : LOk [(0, 18, .val (.agg (FR () 6 ((t).sc)))), (1, 19, .val (.tuple #[.agg (FR () 6 ((t.tbl zS).sc)), .bool ((t.get zS).isSome)])), (2, 17, .val (.tuple #[.agg (FR () 6 ((t.tbl zS).sc)), .bool ((t.get zS).isSome)])), (3, 20, .val (.agg (FR () 6 ((t.tbl zS).sc)))), (4, 21, .val (.bool ((t.get zS).isSome))), (5, 7, .new 5 (fun g => .pointer (some ⟨g, 0, none⟩))), (7, 8, .val (.bool ((t.get zS).isSome)))] := lok (by rfl) (by rfl)
    refine zH (wE := w) (sz := 32) (n := 8) [0, 1, 3, 7, 15, 31, 63, 127] [(0, .val (.agg (FR () 6 ((t).sc)))), (1, .val (.string (cr))), (2, .val (.string (us))), (3, .val (.pointer (some ⟨g1_0, 0, none⟩))), (6, .val (.int .i64 (0))), (13, .val (.bool false)), (7, .new 5 (fun g => .pointer (some ⟨g, 0, none⟩)))] [(0, 18, .val (.agg (FR () 6 ((t).sc)))), (1, 19, .val (.tuple #[.agg (FR () 6 ((t.tbl zS).sc)), .bool ((t.get zS).isSome)])), (2, 17, .val (.tuple #[.agg (FR () 6 ((t.tbl zS).sc)), .bool ((t.get zS).isSome)])), (3, 20, .val (.agg (FR () 6 ((t.tbl zS).sc)))), (4, 21, .val (.bool ((t.get zS).isSome))), (5, 7, .new 5 (fun g => .pointer (some ⟨g, 0, none⟩))), (7, 8, .val (.bool ((t.get zS).isSome)))] [⟨g1_0, none, none, (), 6, (t).sc, (t).sc, 25⟩, ⟨0, some 5, some 6, (), 6, lsc [.i .i64 (0), .b (false), .i .i64 (0), .s (ByteArray.empty), .sl (none) (0) (0), .sl (none) (0) (0)], (t.tbl zS).sc, 25⟩] rfl (by rfl) HH2 rfl rfl hLo rfl HS2 (slS 0 rfl rfl (slS 1 rfl rfl (slS 2 rfl rfl (slS 3 rfl rfl (slS 4 rfl rfl (slS 5 rfl rfl (slL 5 (d := 5) rfl (trivial)))))))) ?_ ?_
    · show ∀ i ∈ [0, 1, 2, 3, 4, 5, 6, 7], _
      refine zA (yG 0 0 _ rfl rfl rfl rfl (fun _ _ _ _ => rfl) hLo rfl rfl rfl (by rfl) Tryd.underlying25 (by kernel_rfl) rfl (fun b G hb ho => zG rfl (HS2.get 3 rfl))) ?_
      refine zA (yB 1 _ #[.agg (FR () 6 ((t).sc)), .string (zS)] rfl rfl rfl (fun _ _ _ _ => rfl) hLo rfl rfl Tryd.func31 rfl rfl (fun b G hb ho => args2 (zC hLo 0 rfl HS2.1 rfl (hb 0 (by rfl))) (rfl)) (fun w hw => get_calls zS (hIn.below hw) hR.rise)) ?_
      refine zA (zB 2 _ rfl rfl hLo rfl rfl (fun _ _ _ _ => rfl) (fun b G w hb ho => zD (.inl rfl) (zC hLo 1 rfl HS2.1 rfl (hb 1 (by rfl))))) ?_
      refine zA (zB 3 _ rfl rfl hLo rfl rfl (fun _ _ _ _ => rfl) (fun b G w hb ho => zX rfl (zC hLo 2 rfl HS2.1 rfl (hb 2 (by rfl))) (by rfl))) ?_
      refine zA (zB 4 _ rfl rfl hLo rfl rfl (fun _ _ _ _ => rfl) (fun b G w hb ho => zX rfl (zC hLo 2 rfl HS2.1 rfl (hb 2 (by rfl))) (by rfl))) ?_
      refine zA (zZ 5 1 () 6 25 (some 6) _ _ rfl rfl (fun _ _ _ _ => rfl) rfl hLo rfl rfl rfl rfl (by rfl) (fun b G w _ _ => by kernel_rfl)) ?_
      refine zA (st_store 1 _ rfl rfl rfl rfl rfl (fun _ _ _ _ => rfl) rfl rfl rfl (by rfl) (by kernel_rfl) (fun b G hb ho => zC hLo 5 rfl HS2.1 rfl (hb 5 (by rfl))) (fun b G hb ho => zC hLo 3 rfl HS2.1 rfl (hb 3 (by rfl)))) ?_
      refine zA (zB 6 _ rfl rfl hLo rfl rfl (fun _ _ _ _ => rfl) (fun b G w hb ho => zD (.inr rfl) (zC hLo 4 rfl HS2.1 rfl (hb 4 (by rfl))))) ?_
      exact zF
    clear hLo
    intro G a3 w3 hS hH
    have HS3 : Sl a3 32 [(0, .agg (FR () 6 ((t).sc))), (1, .string (cr)), (2, .string (us)), (3, .pointer (some ⟨g1_0, 0, none⟩)), (6, .int .i64 (0)), (13, .bool false), (7, .pointer (some ⟨(G 5), 0, none⟩))] := hS
    have HH3 : Held w w3 [⟨g1_0, (), 6, (t).sc, 25⟩, ⟨(G 5), (), 6, (t.tbl zS).sc, 25⟩] := hH
    clear hS hH HS2 HH2
    generalize G 5 = g3_5 at HS3 HH3
    refine then_ ?_
    refine wp_seq ?_
    obtain ⟨r2, hr2⟩ : ∃ r : Bool, (((t.tbl zS).tell us).2) = r := ⟨_, rfl⟩
    refine wp_seq ?_
    have hLo : LOk [(0, 23, .val (.agg (FR () 6 ((t.tbl zS).sc)))), (1, 24, .val (.string (us))), (2, 25, .val (.tuple #[.int .i64 (((t.tbl zS).tell us).1), .bool r2])), (3, 22, .val (.tuple #[.int .i64 (((t.tbl zS).tell us).1), .bool r2])), (4, 26, .val (.int .i64 (((t.tbl zS).tell us).1))), (5, 27, .val (.bool r2)), (6, 9, .val (.int .i64 (((t.tbl zS).tell us).1))), (7, 10, .val (.bool r2))] := lok (by rfl) (by rfl)
    refine zH (wE := w) (sz := 32) (n := 8) [0, 1, 3, 7, 15, 31, 63, 127] [(0, .val (.agg (FR () 6 ((t).sc)))), (1, .val (.string (cr))), (2, .val (.string (us))), (3, .val (.pointer (some ⟨g1_0, 0, none⟩))), (6, .val (.int .i64 (0))), (13, .val (.bool false)), (7, .val (.pointer (some ⟨g3_5, 0, none⟩))), (9, .val (.int .i64 (((t.tbl zS).tell us).1))), (10, .val (.bool r2))] [(0, 23, .val (.agg (FR () 6 ((t.tbl zS).sc)))), (1, 24, .val (.string (us))), (2, 25, .val (.tuple #[.int .i64 (((t.tbl zS).tell us).1), .bool r2])), (3, 22, .val (.tuple #[.int .i64 (((t.tbl zS).tell us).1), .bool r2])), (4, 26, .val (.int .i64 (((t.tbl zS).tell us).1))), (5, 27, .val (.bool r2)), (6, 9, .val (.int .i64 (((t.tbl zS).tell us).1))), (7, 10, .val (.bool r2))] [⟨g1_0, none, none, (), 6, (t).sc, (t).sc, 25⟩, ⟨g3_5, none, none, (), 6, (t.tbl zS).sc, (t.tbl zS).sc, 25⟩] rfl (by rfl) HH3 rfl rfl hLo rfl HS3 (slS 0 rfl rfl (slS 1 rfl rfl (slS 2 rfl rfl (slS 3 rfl rfl (slS 4 rfl rfl (slS 5 rfl rfl (slS 6 rfl rfl (slL 6 (d := 6) rfl (slL 7 (d := 7) rfl (trivial)))))))))) ?_ ?_
    · show ∀ i ∈ [0, 1, 2, 3, 4, 5, 6, 7], _
      refine zA (yG 0 1 _ rfl rfl rfl rfl (fun _ _ _ _ => rfl) hLo rfl rfl rfl (by rfl) Tryd.underlying25 (by kernel_rfl) rfl (fun b G hb ho => zG rfl (HS3.get 6 rfl))) ?_
      refine zA (zB 1 _ rfl rfl hLo rfl rfl (fun _ _ _ _ => rfl) (fun b G w hb ho => zD (.inl rfl) (zG rfl (HS3.get 2 rfl)))) ?_
      refine zA (yB 2 _ #[.agg (FR () 6 ((t.tbl zS).sc)), .string (us)] rfl rfl rfl (fun _ _ _ _ => rfl) hLo rfl rfl Tryd.func25 rfl rfl (fun b G hb ho => args2 (zC hLo 0 rfl HS3.1 rfl (hb 0 (by rfl))) (zC hLo 1 rfl HS3.1 rfl (hb 1 (by rfl)))) (fun w hw => (by have hq := num_calls (t := t.tbl zS) us (hIn.tbl.below hw) hR.tbl.rise; rw [hr2] at hq; exact hq))) ?_
      refine zA (zB 3 _ rfl rfl hLo rfl rfl (fun _ _ _ _ => rfl) (fun b G w hb ho => zD (.inl rfl) (zC hLo 2 rfl HS3.1 rfl (hb 2 (by rfl))))) ?_
      refine zA (zB 4 _ rfl rfl hLo rfl rfl (fun _ _ _ _ => rfl) (fun b G w hb ho => zX rfl (zC hLo 3 rfl HS3.1 rfl (hb 3 (by rfl))) (by rfl))) ?_
      refine zA (zB 5 _ rfl rfl hLo rfl rfl (fun _ _ _ _ => rfl) (fun b G w hb ho => zX rfl (zC hLo 3 rfl HS3.1 rfl (hb 3 (by rfl))) (by rfl))) ?_
      refine zA (zB 6 _ rfl rfl hLo rfl rfl (fun _ _ _ _ => rfl) (fun b G w hb ho => zD (.inr rfl) (zC hLo 4 rfl HS3.1 rfl (hb 4 (by rfl))))) ?_
      refine zA (zB 7 _ rfl rfl hLo rfl rfl (fun _ _ _ _ => rfl) (fun b G w hb ho => zD (.inr rfl) (zC hLo 5 rfl HS3.1 rfl (hb 5 (by rfl))))) ?_
      exact zF
    clear hLo
    intro G a4 w4 hS hH
    have HS4 : Sl a4 32 [(0, .agg (FR () 6 ((t).sc))), (1, .string (cr)), (2, .string (us)), (3, .pointer (some ⟨g1_0, 0, none⟩)), (6, .int .i64 (0)), (13, .bool false), (7, .pointer (some ⟨g3_5, 0, none⟩)), (9, .int .i64 (((t.tbl zS).tell us).1)), (10, .bool r2)] := hS
    have HH4 : Held w w4 [⟨g1_0, (), 6, (t).sc, 25⟩, ⟨g3_5, (), 6, (t.tbl zS).sc, 25⟩] := hH
    clear hS hH HS3 HH3
    refine then_ ?_
    refine wp_seq ?_
    have hLo : LOk [(0, 28, .val (.bool r2))] := lok (by rfl) (by rfl)
    refine zH (wE := w) (sz := 32) (n := 1) [0] [(0, .val (.agg (FR () 6 ((t).sc)))), (1, .val (.string (cr))), (2, .val (.string (us))), (3, .val (.pointer (some ⟨g1_0, 0, none⟩))), (6, .val (.int .i64 (0))), (13, .val (.bool false)), (7, .val (.pointer (some ⟨g3_5, 0, none⟩))), (9, .val (.int .i64 (((t.tbl zS).tell us).1))), (10, .val (.bool r2)), (28, .val (.bool r2))] [(0, 28, .val (.bool r2))] [⟨g1_0, none, none, (), 6, (t).sc, (t).sc, 25⟩, ⟨g3_5, none, none, (), 6, (t.tbl zS).sc, (t.tbl zS).sc, 25⟩] rfl (by rfl) HH4 rfl rfl hLo rfl HS4 (slS 0 rfl rfl (slS 1 rfl rfl (slS 2 rfl rfl (slS 3 rfl rfl (slS 4 rfl rfl (slS 5 rfl rfl (slS 6 rfl rfl (slS 7 rfl rfl (slS 8 rfl rfl (slL 0 (d := 0) rfl (trivial))))))))))) ?_ ?_
    · show ∀ i ∈ [0], _
      refine zA (zB 0 _ rfl rfl hLo rfl rfl (fun _ _ _ _ => rfl) (fun b G w hb ho => zD (.inl rfl) (zG rfl (HS4.get 8 rfl)))) ?_
      exact zF
    clear hLo
    intro G a5 w5 hS hH
    have HS5 : Sl a5 32 [(0, .agg (FR () 6 ((t).sc))), (1, .string (cr)), (2, .string (us)), (3, .pointer (some ⟨g1_0, 0, none⟩)), (6, .int .i64 (0)), (13, .bool false), (7, .pointer (some ⟨g3_5, 0, none⟩)), (9, .int .i64 (((t.tbl zS).tell us).1)), (10, .bool r2), (28, .bool r2)] := hS
    have HH5 : Held w w5 [⟨g1_0, (), 6, (t).sc, 25⟩, ⟨g3_5, (), 6, (t.tbl zS).sc, 25⟩] := hH
    clear hS hH HS4 HH4
    refine then_ ?_
    cases r2
    · skip
      refine wp_cond_false (HS5.get 9 rfl) ?_
      refine wp_skip ?_
      refine then_ ?_
      refine wp_seq ?_
      have hLo : LOk [(0, 30, .val (.agg (FR () 6 ((t).sc)))), (1, 31, .val (.int .i64 (levV t k_users_default))), (2, 6, .val (.int .i64 (levV t k_users_default)))] := lok (by rfl) (by rfl)
      refine zH (wE := w) (sz := 32) (n := 3) [0, 1, 3] [(0, .val (.agg (FR () 6 ((t).sc)))), (1, .val (.string (cr))), (2, .val (.string (us))), (3, .val (.pointer (some ⟨g1_0, 0, none⟩))), (13, .val (.bool false)), (7, .val (.pointer (some ⟨g3_5, 0, none⟩))), (9, .val (.int .i64 (((t.tbl zS).tell us).1))), (10, .val (.bool false)), (28, .val (.bool false)), (6, .val (.int .i64 (levV t k_users_default)))] [(0, 30, .val (.agg (FR () 6 ((t).sc)))), (1, 31, .val (.int .i64 (levV t k_users_default))), (2, 6, .val (.int .i64 (levV t k_users_default)))] [⟨g1_0, none, none, (), 6, (t).sc, (t).sc, 25⟩, ⟨g3_5, none, none, (), 6, (t.tbl zS).sc, (t.tbl zS).sc, 25⟩] rfl (by rfl) HH5 rfl rfl hLo rfl HS5 (slS 0 rfl rfl (slS 1 rfl rfl (slS 2 rfl rfl (slS 3 rfl rfl (slS 5 rfl rfl (slS 6 rfl rfl (slS 7 rfl rfl (slS 8 rfl rfl (slS 9 rfl rfl (slL 2 (d := 2) rfl (trivial))))))))))) ?_ ?_
      · show ∀ i ∈ [0, 1, 2], _
        refine zA (yG 0 0 _ rfl rfl rfl rfl (fun _ _ _ _ => rfl) hLo rfl rfl rfl (by rfl) Tryd.underlying25 (by kernel_rfl) rfl (fun b G hb ho => zG rfl (HS5.get 3 rfl))) ?_
        refine zA (yB 1 _ #[.agg (FR () 6 ((t).sc)), .string (k_users_default)] rfl rfl rfl (fun _ _ _ _ => rfl) hLo rfl rfl Tryd.func10 rfl rfl (fun b G hb ho => args2 (zC hLo 0 rfl HS5.1 rfl (hb 0 (by rfl))) (rfl)) (fun w hw => level_calls k_users_default (hIn.below hw) hR.rise (hTab.below hw))) ?_
        refine zA (zB 2 _ rfl rfl hLo rfl rfl (fun _ _ _ _ => rfl) (fun b G w hb ho => zD (.inr rfl) (zC hLo 1 rfl HS5.1 rfl (hb 1 (by rfl))))) ?_
        exact zF
      clear hLo
      intro G a6 w6 hS hH
      have HS6 : Sl a6 32 [(0, .agg (FR () 6 ((t).sc))), (1, .string (cr)), (2, .string (us)), (3, .pointer (some ⟨g1_0, 0, none⟩)), (13, .bool false), (7, .pointer (some ⟨g3_5, 0, none⟩)), (9, .int .i64 (((t.tbl zS).tell us).1)), (10, .bool false), (28, .bool false), (6, .int .i64 (levV t k_users_default))] := hS
      have HH6 : Held w w6 [⟨g1_0, (), 6, (t).sc, 25⟩, ⟨g3_5, (), 6, (t.tbl zS).sc, 25⟩] := hH
      clear hS hH HS5 HH5
      refine then_ ?_
      refine wp_ret ?_
      repeat (first | refine zR ?_ | refine zK ?_)
      exact b_tmp rfl HS6.2.1 (HS6.get 9 rfl) ⟨int_ret (by unfold userV; rw [if_pos (kind_is hr1), told_of_no hr2]), HH6.1⟩
    · skip
      refine wp_cond_true (HS5.get 9 rfl) ?_
      refine wp_seq ?_
      have hLo : LOk [(0, 29, .val (.int .i64 (((t.tbl zS).tell us).1))), (1, 6, .val (.int .i64 (((t.tbl zS).tell us).1)))] := lok (by rfl) (by rfl)
      refine zH (wE := w) (sz := 32) (n := 2) [0, 1] [(0, .val (.agg (FR () 6 ((t).sc)))), (1, .val (.string (cr))), (2, .val (.string (us))), (3, .val (.pointer (some ⟨g1_0, 0, none⟩))), (13, .val (.bool false)), (7, .val (.pointer (some ⟨g3_5, 0, none⟩))), (9, .val (.int .i64 (((t.tbl zS).tell us).1))), (10, .val (.bool true)), (28, .val (.bool true)), (6, .val (.int .i64 (((t.tbl zS).tell us).1)))] [(0, 29, .val (.int .i64 (((t.tbl zS).tell us).1))), (1, 6, .val (.int .i64 (((t.tbl zS).tell us).1)))] [⟨g1_0, none, none, (), 6, (t).sc, (t).sc, 25⟩, ⟨g3_5, none, none, (), 6, (t.tbl zS).sc, (t.tbl zS).sc, 25⟩] rfl (by rfl) HH5 rfl rfl hLo rfl HS5 (slS 0 rfl rfl (slS 1 rfl rfl (slS 2 rfl rfl (slS 3 rfl rfl (slS 5 rfl rfl (slS 6 rfl rfl (slS 7 rfl rfl (slS 8 rfl rfl (slS 9 rfl rfl (slL 1 (d := 1) rfl (trivial))))))))))) ?_ ?_
      · show ∀ i ∈ [0, 1], _
        refine zA (zB 0 _ rfl rfl hLo rfl rfl (fun _ _ _ _ => rfl) (fun b G w hb ho => zD (.inl rfl) (zG rfl (HS5.get 7 rfl)))) ?_
        refine zA (zB 1 _ rfl rfl hLo rfl rfl (fun _ _ _ _ => rfl) (fun b G w hb ho => zD (.inr rfl) (zC hLo 0 rfl HS5.1 rfl (hb 0 (by rfl))))) ?_
        exact zF
      clear hLo
      intro G a7 w7 hS hH
      have HS7 : Sl a7 32 [(0, .agg (FR () 6 ((t).sc))), (1, .string (cr)), (2, .string (us)), (3, .pointer (some ⟨g1_0, 0, none⟩)), (13, .bool false), (7, .pointer (some ⟨g3_5, 0, none⟩)), (9, .int .i64 (((t.tbl zS).tell us).1)), (10, .bool true), (28, .bool true), (6, .int .i64 (((t.tbl zS).tell us).1))] := hS
      have HH7 : Held w w7 [⟨g1_0, (), 6, (t).sc, 25⟩, ⟨g3_5, (), 6, (t.tbl zS).sc, 25⟩] := hH
      clear hS hH HS5 HH5
      refine then_ ?_
      refine wp_ret ?_
      repeat (first | refine zR ?_ | refine zK ?_)
      exact b_tmp rfl HS7.2.1 (HS7.get 9 rfl) ⟨int_ret (by unfold userV; rw [if_pos (kind_is hr1), told_of_tell hr2]), HH7.1⟩
  · skip
    refine wp_cond_true (HS2.get 5 rfl) ?_
    refine wp_seq ?_
    obtain ⟨r3, hr3⟩ : ∃ r : Bool, (decide ((us : ByteArray) = cr)) = r := ⟨_, rfl⟩
    refine wp_seq ?_
    have hLo : LOk [(0, 14, .val (.string (us))), (1, 15, .val (.string (cr))), (2, 16, .val (.bool r3))] := lok (by rfl) (by rfl)
    refine zH (wE := w) (sz := 32) (n := 3) [0, 1, 3] [(0, .val (.agg (FR () 6 ((t).sc)))), (1, .val (.string (cr))), (2, .val (.string (us))), (3, .val (.pointer (some ⟨g1_0, 0, none⟩))), (6, .val (.int .i64 (0))), (13, .val (.bool true)), (16, .val (.bool r3))] [(0, 14, .val (.string (us))), (1, 15, .val (.string (cr))), (2, 16, .val (.bool r3))] [⟨g1_0, none, none, (), 6, (t).sc, (t).sc, 25⟩] rfl (by rfl) HH2 rfl rfl hLo rfl HS2 (slS 0 rfl rfl (slS 1 rfl rfl (slS 2 rfl rfl (slS 3 rfl rfl (slS 4 rfl rfl (slS 5 rfl rfl (slL 2 (d := 2) rfl (trivial)))))))) ?_ ?_
    · show ∀ i ∈ [0, 1, 2], _
      refine zA (zB 0 _ rfl rfl hLo rfl rfl (fun _ _ _ _ => rfl) (fun b G w hb ho => zD (.inl rfl) (zG rfl (HS2.get 2 rfl)))) ?_
      refine zA (zB 1 _ rfl rfl hLo rfl rfl (fun _ _ _ _ => rfl) (fun b G w hb ho => zD (.inl rfl) (zG rfl (HS2.get 1 rfl)))) ?_
      refine zA (zB 2 _ rfl rfl hLo rfl rfl (fun _ _ _ _ => rfl) (fun b G w hb ho => zI rfl (zC hLo 0 rfl HS2.1 rfl (hb 0 (by rfl))) (zC hLo 1 rfl HS2.1 rfl (hb 1 (by rfl))) (rb_seql hr3 _ _ _))) ?_
      exact zF
    clear hLo
    intro G a8 w8 hS hH
    have HS8 : Sl a8 32 [(0, .agg (FR () 6 ((t).sc))), (1, .string (cr)), (2, .string (us)), (3, .pointer (some ⟨g1_0, 0, none⟩)), (6, .int .i64 (0)), (13, .bool true), (16, .bool r3)] := hS
    have HH8 : Held w w8 [⟨g1_0, (), 6, (t).sc, 25⟩] := hH
    clear hS hH HS2 HH2
    refine then_ ?_
    cases r3
    · skip
      refine wp_cond_false (HS8.get 6 rfl) ?_
      refine wp_skip ?_
      refine then_ ?_
      refine wp_seq ?_
      have hLo : LOk [(0, 6, .val (.int .i64 (0)))] := lok (by rfl) (by rfl)
      refine zH (wE := w) (sz := 32) (n := 1) [0] [(0, .val (.agg (FR () 6 ((t).sc)))), (1, .val (.string (cr))), (2, .val (.string (us))), (3, .val (.pointer (some ⟨g1_0, 0, none⟩))), (13, .val (.bool true)), (16, .val (.bool false)), (6, .val (.int .i64 (0)))] [(0, 6, .val (.int .i64 (0)))] [⟨g1_0, none, none, (), 6, (t).sc, (t).sc, 25⟩] rfl (by rfl) HH8 rfl rfl hLo rfl HS8 (slS 0 rfl rfl (slS 1 rfl rfl (slS 2 rfl rfl (slS 3 rfl rfl (slS 5 rfl rfl (slS 6 rfl rfl (slL 0 (d := 0) rfl (trivial)))))))) ?_ ?_
      · show ∀ i ∈ [0], _
        refine zA (zB 0 _ rfl rfl hLo rfl rfl (fun _ _ _ _ => rfl) (fun b G w hb ho => zD (.inr rfl) (rfl))) ?_
        exact zF
      clear hLo
      intro G a9 w9 hS hH
      have HS9 : Sl a9 32 [(0, .agg (FR () 6 ((t).sc))), (1, .string (cr)), (2, .string (us)), (3, .pointer (some ⟨g1_0, 0, none⟩)), (13, .bool true), (16, .bool false), (6, .int .i64 (0))] := hS
      have HH9 : Held w w9 [⟨g1_0, (), 6, (t).sc, 25⟩] := hH
      clear hS hH HS8 HH8
      refine then_ ?_
      refine wp_ret ?_
      repeat (first | refine zR ?_ | refine zK ?_)
      exact b_tmp rfl HS9.2.1 (HS9.get 6 rfl) ⟨int_ret (by unfold userV; rw [if_neg (kind_no hr1), if_neg (of_decide_eq_false hr3)]), HH9.1⟩
    · skip
      refine wp_cond_true (HS8.get 6 rfl) ?_
      refine wp_seq ?_
      have hLo : LOk [(0, 6, .val (.int .i64 (100)))] := lok (by rfl) (by rfl)
      refine zH (wE := w) (sz := 32) (n := 1) [0] [(0, .val (.agg (FR () 6 ((t).sc)))), (1, .val (.string (cr))), (2, .val (.string (us))), (3, .val (.pointer (some ⟨g1_0, 0, none⟩))), (13, .val (.bool true)), (16, .val (.bool true)), (6, .val (.int .i64 (100)))] [(0, 6, .val (.int .i64 (100)))] [⟨g1_0, none, none, (), 6, (t).sc, (t).sc, 25⟩] rfl (by rfl) HH8 rfl rfl hLo rfl HS8 (slS 0 rfl rfl (slS 1 rfl rfl (slS 2 rfl rfl (slS 3 rfl rfl (slS 5 rfl rfl (slS 6 rfl rfl (slL 0 (d := 0) rfl (trivial)))))))) ?_ ?_
      · show ∀ i ∈ [0], _
        refine zA (zB 0 _ rfl rfl hLo rfl rfl (fun _ _ _ _ => rfl) (fun b G w hb ho => zD (.inr rfl) (rfl))) ?_
        exact zF
      clear hLo
      intro G a10 w10 hS hH
      have HS10 : Sl a10 32 [(0, .agg (FR () 6 ((t).sc))), (1, .string (cr)), (2, .string (us)), (3, .pointer (some ⟨g1_0, 0, none⟩)), (13, .bool true), (16, .bool true), (6, .int .i64 (100))] := hS
      have HH10 : Held w w10 [⟨g1_0, (), 6, (t).sc, 25⟩] := hH
      clear hS hH HS8 HH8
      refine then_ ?_
      refine wp_ret ?_
      repeat (first | refine zR ?_ | refine zK ?_)
      exact b_tmp rfl HS10.2.1 (HS10.get 6 rfl) ⟨int_ret (by unfold userV; rw [if_neg (kind_no hr1), if_pos (of_decide_eq_true hr3)]), HH10.1⟩
theorem send_calls {w : World} {t : T} (kd : ByteArray) (st : Bool) (hIn : In w t) (hR : Rises t) (hTab : Tab w) : Calls Tryd.prog 16 #[.agg (FR () 6 ((t).sc)), .string (kd), .bool st] w fun e w' => e = .returned (.int .i64 (sendV t kd st)) ∧ Below w.heap.size w w' := by
  refine enter_ 35 Tryd.func16 rfl rfl (fun a0 hS => ?_)
  have HS0 : Sl a0 35 [(0, .agg (FR () 6 ((t).sc))), (1, .string (kd)), (2, .bool st)] := hS
  have HH0 : Held w w [] := Held.first w
  clear hS
  refine wp_seq ?_
  have hLo : LOk [(0, 3, .new 0 (fun g => .pointer (some ⟨g, 0, none⟩))), (1, 6, .val (.int .i64 (0)))] := lok (by rfl) (by rfl)
  refine zH (wE := w) (sz := 35) (n := 2) [0, 1] [(0, .val (.agg (FR () 6 ((t).sc)))), (1, .val (.string (kd))), (2, .val (.bool st)), (3, .new 0 (fun g => .pointer (some ⟨g, 0, none⟩))), (6, .val (.int .i64 (0)))] [(0, 3, .new 0 (fun g => .pointer (some ⟨g, 0, none⟩))), (1, 6, .val (.int .i64 (0)))] [⟨0, some 0, none, (), 6, (t).sc, (t).sc, 25⟩] rfl (by rfl) HH0 rfl rfl hLo rfl HS0 (slS 0 rfl rfl (slS 1 rfl rfl (slS 2 rfl rfl (slL 0 (d := 0) rfl (slL 1 (d := 1) rfl (trivial)))))) ?_ ?_
  · show ∀ i ∈ [0, 1], _
    refine zA (zZ 0 0 () 6 25 none _ _ rfl rfl (fun _ _ _ _ => rfl) rfl hLo rfl rfl rfl rfl (by rfl) (fun b G w hb ho => exec_box rfl (zG rfl (HS0.get 0 rfl)) (by kernel_rfl))) ?_
    refine zA (zB 1 _ rfl rfl hLo rfl rfl (fun _ _ _ _ => rfl) (fun b G w hb ho => zD (.inr rfl) (rfl))) ?_
    exact zF
  clear hLo
  intro G a1 w1 hS hH
  have HS1 : Sl a1 35 [(0, .agg (FR () 6 ((t).sc))), (1, .string (kd)), (2, .bool st), (3, .pointer (some ⟨(G 0), 0, none⟩)), (6, .int .i64 (0))] := hS
  have HH1 : Held w w1 [⟨(G 0), (), 6, (t).sc, 25⟩] := hH
  clear hS hH HS0 HH0
  generalize G 0 = g1_0 at HS1 HH1
  refine then_ ?_
  refine wp_seq ?_
  have hLo : LOk [(0, 12, .val (.agg (FR () 6 ((t).sc)))), (1, 13, .val (.tuple #[.agg (FR () 6 ((t.tbl zO).sc)), .bool ((t.get zO).isSome)])), (2, 11, .val (.tuple #[.agg (FR () 6 ((t.tbl zO).sc)), .bool ((t.get zO).isSome)])), (3, 14, .val (.agg (FR () 6 ((t.tbl zO).sc)))), (4, 15, .val (.bool ((t.get zO).isSome))), (5, 7, .new 5 (fun g => .pointer (some ⟨g, 0, none⟩))), (7, 8, .val (.bool ((t.get zO).isSome)))] := lok (by rfl) (by rfl)
  refine zH (wE := w) (sz := 35) (n := 8) [0, 1, 3, 7, 15, 31, 63, 127] [(0, .val (.agg (FR () 6 ((t).sc)))), (1, .val (.string (kd))), (2, .val (.bool st)), (3, .val (.pointer (some ⟨g1_0, 0, none⟩))), (6, .val (.int .i64 (0))), (7, .new 5 (fun g => .pointer (some ⟨g, 0, none⟩)))] [(0, 12, .val (.agg (FR () 6 ((t).sc)))), (1, 13, .val (.tuple #[.agg (FR () 6 ((t.tbl zO).sc)), .bool ((t.get zO).isSome)])), (2, 11, .val (.tuple #[.agg (FR () 6 ((t.tbl zO).sc)), .bool ((t.get zO).isSome)])), (3, 14, .val (.agg (FR () 6 ((t.tbl zO).sc)))), (4, 15, .val (.bool ((t.get zO).isSome))), (5, 7, .new 5 (fun g => .pointer (some ⟨g, 0, none⟩))), (7, 8, .val (.bool ((t.get zO).isSome)))] [⟨g1_0, none, none, (), 6, (t).sc, (t).sc, 25⟩, ⟨0, some 5, some 6, (), 6, lsc [.i .i64 (0), .b (false), .i .i64 (0), .s (ByteArray.empty), .sl (none) (0) (0), .sl (none) (0) (0)], (t.tbl zO).sc, 25⟩] rfl (by rfl) HH1 rfl rfl hLo rfl HS1 (slS 0 rfl rfl (slS 1 rfl rfl (slS 2 rfl rfl (slS 3 rfl rfl (slS 4 rfl rfl (slL 5 (d := 5) rfl (trivial))))))) ?_ ?_
  · show ∀ i ∈ [0, 1, 2, 3, 4, 5, 6, 7], _
    refine zA (yG 0 0 _ rfl rfl rfl rfl (fun _ _ _ _ => rfl) hLo rfl rfl rfl (by rfl) Tryd.underlying25 (by kernel_rfl) rfl (fun b G hb ho => zG rfl (HS1.get 3 rfl))) ?_
    refine zA (yB 1 _ #[.agg (FR () 6 ((t).sc)), .string (zO)] rfl rfl rfl (fun _ _ _ _ => rfl) hLo rfl rfl Tryd.func31 rfl rfl (fun b G hb ho => args2 (zC hLo 0 rfl HS1.1 rfl (hb 0 (by rfl))) (rfl)) (fun w hw => get_calls zO (hIn.below hw) hR.rise)) ?_
    refine zA (zB 2 _ rfl rfl hLo rfl rfl (fun _ _ _ _ => rfl) (fun b G w hb ho => zD (.inl rfl) (zC hLo 1 rfl HS1.1 rfl (hb 1 (by rfl))))) ?_
    refine zA (zB 3 _ rfl rfl hLo rfl rfl (fun _ _ _ _ => rfl) (fun b G w hb ho => zX rfl (zC hLo 2 rfl HS1.1 rfl (hb 2 (by rfl))) (by rfl))) ?_
    refine zA (zB 4 _ rfl rfl hLo rfl rfl (fun _ _ _ _ => rfl) (fun b G w hb ho => zX rfl (zC hLo 2 rfl HS1.1 rfl (hb 2 (by rfl))) (by rfl))) ?_
    refine zA (zZ 5 1 () 6 25 (some 6) _ _ rfl rfl (fun _ _ _ _ => rfl) rfl hLo rfl rfl rfl rfl (by rfl) (fun b G w _ _ => by kernel_rfl)) ?_
    refine zA (st_store 1 _ rfl rfl rfl rfl rfl (fun _ _ _ _ => rfl) rfl rfl rfl (by rfl) (by kernel_rfl) (fun b G hb ho => zC hLo 5 rfl HS1.1 rfl (hb 5 (by rfl))) (fun b G hb ho => zC hLo 3 rfl HS1.1 rfl (hb 3 (by rfl)))) ?_
    refine zA (zB 6 _ rfl rfl hLo rfl rfl (fun _ _ _ _ => rfl) (fun b G w hb ho => zD (.inr rfl) (zC hLo 4 rfl HS1.1 rfl (hb 4 (by rfl))))) ?_
    exact zF
  clear hLo
  intro G a2 w2 hS hH
  have HS2 : Sl a2 35 [(0, .agg (FR () 6 ((t).sc))), (1, .string (kd)), (2, .bool st), (3, .pointer (some ⟨g1_0, 0, none⟩)), (6, .int .i64 (0)), (7, .pointer (some ⟨(G 5), 0, none⟩))] := hS
  have HH2 : Held w w2 [⟨g1_0, (), 6, (t).sc, 25⟩, ⟨(G 5), (), 6, (t.tbl zO).sc, 25⟩] := hH
  clear hS hH HS1 HH1
  generalize G 5 = g2_5 at HS2 HH2
  refine then_ ?_
  refine wp_seq ?_
  obtain ⟨r1, hr1⟩ : ∃ r : Bool, (((t.tbl zO).tell kd).2) = r := ⟨_, rfl⟩
  refine wp_seq ?_
  have hLo : LOk [(0, 17, .val (.agg (FR () 6 ((t.tbl zO).sc)))), (1, 18, .val (.string (kd))), (2, 19, .val (.tuple #[.int .i64 (((t.tbl zO).tell kd).1), .bool r1])), (3, 16, .val (.tuple #[.int .i64 (((t.tbl zO).tell kd).1), .bool r1])), (4, 20, .val (.int .i64 (((t.tbl zO).tell kd).1))), (5, 21, .val (.bool r1)), (6, 9, .val (.int .i64 (((t.tbl zO).tell kd).1))), (7, 10, .val (.bool r1))] := lok (by rfl) (by rfl)
  refine zH (wE := w) (sz := 35) (n := 8) [0, 1, 3, 7, 15, 31, 63, 127] [(0, .val (.agg (FR () 6 ((t).sc)))), (1, .val (.string (kd))), (2, .val (.bool st)), (3, .val (.pointer (some ⟨g1_0, 0, none⟩))), (6, .val (.int .i64 (0))), (7, .val (.pointer (some ⟨g2_5, 0, none⟩))), (9, .val (.int .i64 (((t.tbl zO).tell kd).1))), (10, .val (.bool r1))] [(0, 17, .val (.agg (FR () 6 ((t.tbl zO).sc)))), (1, 18, .val (.string (kd))), (2, 19, .val (.tuple #[.int .i64 (((t.tbl zO).tell kd).1), .bool r1])), (3, 16, .val (.tuple #[.int .i64 (((t.tbl zO).tell kd).1), .bool r1])), (4, 20, .val (.int .i64 (((t.tbl zO).tell kd).1))), (5, 21, .val (.bool r1)), (6, 9, .val (.int .i64 (((t.tbl zO).tell kd).1))), (7, 10, .val (.bool r1))] [⟨g1_0, none, none, (), 6, (t).sc, (t).sc, 25⟩, ⟨g2_5, none, none, (), 6, (t.tbl zO).sc, (t.tbl zO).sc, 25⟩] rfl (by rfl) HH2 rfl rfl hLo rfl HS2 (slS 0 rfl rfl (slS 1 rfl rfl (slS 2 rfl rfl (slS 3 rfl rfl (slS 4 rfl rfl (slS 5 rfl rfl (slL 6 (d := 6) rfl (slL 7 (d := 7) rfl (trivial))))))))) ?_ ?_
  · show ∀ i ∈ [0, 1, 2, 3, 4, 5, 6, 7], _
    refine zA (yG 0 1 _ rfl rfl rfl rfl (fun _ _ _ _ => rfl) hLo rfl rfl rfl (by rfl) Tryd.underlying25 (by kernel_rfl) rfl (fun b G hb ho => zG rfl (HS2.get 5 rfl))) ?_
    refine zA (zB 1 _ rfl rfl hLo rfl rfl (fun _ _ _ _ => rfl) (fun b G w hb ho => zD (.inl rfl) (zG rfl (HS2.get 1 rfl)))) ?_
    refine zA (yB 2 _ #[.agg (FR () 6 ((t.tbl zO).sc)), .string (kd)] rfl rfl rfl (fun _ _ _ _ => rfl) hLo rfl rfl Tryd.func25 rfl rfl (fun b G hb ho => args2 (zC hLo 0 rfl HS2.1 rfl (hb 0 (by rfl))) (zC hLo 1 rfl HS2.1 rfl (hb 1 (by rfl)))) (fun w hw => (by have hq := num_calls (t := t.tbl zO) kd (hIn.tbl.below hw) hR.tbl.rise; rw [hr1] at hq; exact hq))) ?_
    refine zA (zB 3 _ rfl rfl hLo rfl rfl (fun _ _ _ _ => rfl) (fun b G w hb ho => zD (.inl rfl) (zC hLo 2 rfl HS2.1 rfl (hb 2 (by rfl))))) ?_
    refine zA (zB 4 _ rfl rfl hLo rfl rfl (fun _ _ _ _ => rfl) (fun b G w hb ho => zX rfl (zC hLo 3 rfl HS2.1 rfl (hb 3 (by rfl))) (by rfl))) ?_
    refine zA (zB 5 _ rfl rfl hLo rfl rfl (fun _ _ _ _ => rfl) (fun b G w hb ho => zX rfl (zC hLo 3 rfl HS2.1 rfl (hb 3 (by rfl))) (by rfl))) ?_
    refine zA (zB 6 _ rfl rfl hLo rfl rfl (fun _ _ _ _ => rfl) (fun b G w hb ho => zD (.inr rfl) (zC hLo 4 rfl HS2.1 rfl (hb 4 (by rfl))))) ?_
    refine zA (zB 7 _ rfl rfl hLo rfl rfl (fun _ _ _ _ => rfl) (fun b G w hb ho => zD (.inr rfl) (zC hLo 5 rfl HS2.1 rfl (hb 5 (by rfl))))) ?_
    exact zF
  clear hLo
  intro G a3 w3 hS hH
  have HS3 : Sl a3 35 [(0, .agg (FR () 6 ((t).sc))), (1, .string (kd)), (2, .bool st), (3, .pointer (some ⟨g1_0, 0, none⟩)), (6, .int .i64 (0)), (7, .pointer (some ⟨g2_5, 0, none⟩)), (9, .int .i64 (((t.tbl zO).tell kd).1)), (10, .bool r1)] := hS
  have HH3 : Held w w3 [⟨g1_0, (), 6, (t).sc, 25⟩, ⟨g2_5, (), 6, (t.tbl zO).sc, 25⟩] := hH
  clear hS hH HS2 HH2
  refine then_ ?_
  refine wp_seq ?_
  have hLo : LOk [(0, 22, .val (.bool r1))] := lok (by rfl) (by rfl)
  refine zH (wE := w) (sz := 35) (n := 1) [0] [(0, .val (.agg (FR () 6 ((t).sc)))), (1, .val (.string (kd))), (2, .val (.bool st)), (3, .val (.pointer (some ⟨g1_0, 0, none⟩))), (6, .val (.int .i64 (0))), (7, .val (.pointer (some ⟨g2_5, 0, none⟩))), (9, .val (.int .i64 (((t.tbl zO).tell kd).1))), (10, .val (.bool r1)), (22, .val (.bool r1))] [(0, 22, .val (.bool r1))] [⟨g1_0, none, none, (), 6, (t).sc, (t).sc, 25⟩, ⟨g2_5, none, none, (), 6, (t.tbl zO).sc, (t.tbl zO).sc, 25⟩] rfl (by rfl) HH3 rfl rfl hLo rfl HS3 (slS 0 rfl rfl (slS 1 rfl rfl (slS 2 rfl rfl (slS 3 rfl rfl (slS 4 rfl rfl (slS 5 rfl rfl (slS 6 rfl rfl (slS 7 rfl rfl (slL 0 (d := 0) rfl (trivial)))))))))) ?_ ?_
  · show ∀ i ∈ [0], _
    refine zA (zB 0 _ rfl rfl hLo rfl rfl (fun _ _ _ _ => rfl) (fun b G w hb ho => zD (.inl rfl) (zG rfl (HS3.get 7 rfl)))) ?_
    exact zF
  clear hLo
  intro G a4 w4 hS hH
  have HS4 : Sl a4 35 [(0, .agg (FR () 6 ((t).sc))), (1, .string (kd)), (2, .bool st), (3, .pointer (some ⟨g1_0, 0, none⟩)), (6, .int .i64 (0)), (7, .pointer (some ⟨g2_5, 0, none⟩)), (9, .int .i64 (((t.tbl zO).tell kd).1)), (10, .bool r1), (22, .bool r1)] := hS
  have HH4 : Held w w4 [⟨g1_0, (), 6, (t).sc, 25⟩, ⟨g2_5, (), 6, (t.tbl zO).sc, 25⟩] := hH
  clear hS hH HS3 HH3
  refine then_ ?_
  cases r1
  · skip
    refine wp_cond_false (HS4.get 8 rfl) ?_
    refine wp_skip ?_
    refine then_ ?_
    refine wp_seq ?_
    refine wp_block ?_
    refine wp_seq ?_
    have hLo : LOk [(0, 25, .val (.bool st)), (1, 26, .val (.bool (!st))), (2, 24, .val (.bool (!st)))] := lok (by rfl) (by rfl)
    refine zH (wE := w) (sz := 35) (n := 3) [0, 1, 3] [(0, .val (.agg (FR () 6 ((t).sc)))), (1, .val (.string (kd))), (2, .val (.bool st)), (3, .val (.pointer (some ⟨g1_0, 0, none⟩))), (6, .val (.int .i64 (0))), (7, .val (.pointer (some ⟨g2_5, 0, none⟩))), (9, .val (.int .i64 (((t.tbl zO).tell kd).1))), (10, .val (.bool false)), (22, .val (.bool false)), (24, .val (.bool (!st)))] [(0, 25, .val (.bool st)), (1, 26, .val (.bool (!st))), (2, 24, .val (.bool (!st)))] [⟨g1_0, none, none, (), 6, (t).sc, (t).sc, 25⟩, ⟨g2_5, none, none, (), 6, (t.tbl zO).sc, (t.tbl zO).sc, 25⟩] rfl (by rfl) HH4 rfl rfl hLo rfl HS4 (slS 0 rfl rfl (slS 1 rfl rfl (slS 2 rfl rfl (slS 3 rfl rfl (slS 4 rfl rfl (slS 5 rfl rfl (slS 6 rfl rfl (slS 7 rfl rfl (slS 8 rfl rfl (slL 2 (d := 2) rfl (trivial))))))))))) ?_ ?_
    · show ∀ i ∈ [0, 1, 2], _
      refine zA (zB 0 _ rfl rfl hLo rfl rfl (fun _ _ _ _ => rfl) (fun b G w hb ho => zD (.inl rfl) (zG rfl (HS4.get 2 rfl)))) ?_
      refine zA (zB 1 _ rfl rfl hLo rfl rfl (fun _ _ _ _ => rfl) (fun b G w hb ho => exec_un rfl (zC hLo 0 rfl HS4.1 rfl (hb 0 (by rfl))) (ru_not _))) ?_
      refine zA (zB 2 _ rfl rfl hLo rfl rfl (fun _ _ _ _ => rfl) (fun b G w hb ho => zD (.inr rfl) (zC hLo 1 rfl HS4.1 rfl (hb 1 (by rfl))))) ?_
      exact zF
    clear hLo
    intro G a5 w5 hS hH
    have HS5 : Sl a5 35 [(0, .agg (FR () 6 ((t).sc))), (1, .string (kd)), (2, .bool st), (3, .pointer (some ⟨g1_0, 0, none⟩)), (6, .int .i64 (0)), (7, .pointer (some ⟨g2_5, 0, none⟩)), (9, .int .i64 (((t.tbl zO).tell kd).1)), (10, .bool false), (22, .bool false), (24, .bool (!st))] := hS
    have HH5 : Held w w5 [⟨g1_0, (), 6, (t).sc, 25⟩, ⟨g2_5, (), 6, (t.tbl zO).sc, 25⟩] := hH
    clear hS hH HS4 HH4
    refine then_ ?_
    cases st
    · skip
      refine wp_cond_true (HS5.get 9 rfl) ?_
      refine wp_seq ?_
      have hLo : LOk [(0, 27, .val (.agg (FR () 6 ((t).sc)))), (1, 28, .val (.int .i64 (levV t k_events_default))), (2, 6, .val (.int .i64 (levV t k_events_default)))] := lok (by rfl) (by rfl)
      refine zH (wE := w) (sz := 35) (n := 3) [0, 1, 3] [(0, .val (.agg (FR () 6 ((t).sc)))), (1, .val (.string (kd))), (2, .val (.bool false)), (3, .val (.pointer (some ⟨g1_0, 0, none⟩))), (7, .val (.pointer (some ⟨g2_5, 0, none⟩))), (9, .val (.int .i64 (((t.tbl zO).tell kd).1))), (10, .val (.bool false)), (22, .val (.bool false)), (24, .val (.bool true)), (6, .val (.int .i64 (levV t k_events_default)))] [(0, 27, .val (.agg (FR () 6 ((t).sc)))), (1, 28, .val (.int .i64 (levV t k_events_default))), (2, 6, .val (.int .i64 (levV t k_events_default)))] [⟨g1_0, none, none, (), 6, (t).sc, (t).sc, 25⟩, ⟨g2_5, none, none, (), 6, (t.tbl zO).sc, (t.tbl zO).sc, 25⟩] rfl (by rfl) HH5 rfl rfl hLo rfl HS5 (slS 0 rfl rfl (slS 1 rfl rfl (slS 2 rfl rfl (slS 3 rfl rfl (slS 5 rfl rfl (slS 6 rfl rfl (slS 7 rfl rfl (slS 8 rfl rfl (slS 9 rfl rfl (slL 2 (d := 2) rfl (trivial))))))))))) ?_ ?_
      · show ∀ i ∈ [0, 1, 2], _
        refine zA (yG 0 0 _ rfl rfl rfl rfl (fun _ _ _ _ => rfl) hLo rfl rfl rfl (by rfl) Tryd.underlying25 (by kernel_rfl) rfl (fun b G hb ho => zG rfl (HS5.get 3 rfl))) ?_
        refine zA (yB 1 _ #[.agg (FR () 6 ((t).sc)), .string (k_events_default)] rfl rfl rfl (fun _ _ _ _ => rfl) hLo rfl rfl Tryd.func10 rfl rfl (fun b G hb ho => args2 (zC hLo 0 rfl HS5.1 rfl (hb 0 (by rfl))) (rfl)) (fun w hw => level_calls k_events_default (hIn.below hw) hR.rise (hTab.below hw))) ?_
        refine zA (zB 2 _ rfl rfl hLo rfl rfl (fun _ _ _ _ => rfl) (fun b G w hb ho => zD (.inr rfl) (zC hLo 1 rfl HS5.1 rfl (hb 1 (by rfl))))) ?_
        exact zF
      clear hLo
      intro G a6 w6 hS hH
      have HS6 : Sl a6 35 [(0, .agg (FR () 6 ((t).sc))), (1, .string (kd)), (2, .bool false), (3, .pointer (some ⟨g1_0, 0, none⟩)), (7, .pointer (some ⟨g2_5, 0, none⟩)), (9, .int .i64 (((t.tbl zO).tell kd).1)), (10, .bool false), (22, .bool false), (24, .bool true), (6, .int .i64 (levV t k_events_default))] := hS
      have HH6 : Held w w6 [⟨g1_0, (), 6, (t).sc, 25⟩, ⟨g2_5, (), 6, (t.tbl zO).sc, 25⟩] := hH
      clear hS hH HS5 HH5
      refine then_ ?_
      refine wp_ret ?_
      repeat (first | refine zR ?_ | refine zK ?_)
      exact b_tmp rfl HS6.2.1 (HS6.get 9 rfl) ⟨int_ret (by unfold sendV; rw [told_of_no hr1, if_pos rfl]), HH6.1⟩
    · skip
      refine wp_cond_false (HS5.get 9 rfl) ?_
      obtain ⟨r2, hr2⟩ : ∃ r : Bool, ((((t).kind : Int) != 5)) = r := ⟨_, rfl⟩
      refine wp_seq ?_
      have hLo : LOk [(0, 30, .val (.pointer (some ⟨g1_0, 0, none⟩))), (1, 31, .val (.int .i64 ((t).kind))), (2, 32, .val (.bool r2)), (3, 29, .val (.bool r2))] := lok (by rfl) (by rfl)
      refine zH (wE := w) (sz := 35) (n := 4) [0, 1, 3, 7] [(0, .val (.agg (FR () 6 ((t).sc)))), (1, .val (.string (kd))), (2, .val (.bool true)), (3, .val (.pointer (some ⟨g1_0, 0, none⟩))), (6, .val (.int .i64 (0))), (7, .val (.pointer (some ⟨g2_5, 0, none⟩))), (9, .val (.int .i64 (((t.tbl zO).tell kd).1))), (10, .val (.bool false)), (22, .val (.bool false)), (24, .val (.bool false)), (29, .val (.bool r2))] [(0, 30, .val (.pointer (some ⟨g1_0, 0, none⟩))), (1, 31, .val (.int .i64 ((t).kind))), (2, 32, .val (.bool r2)), (3, 29, .val (.bool r2))] [⟨g1_0, none, none, (), 6, (t).sc, (t).sc, 25⟩, ⟨g2_5, none, none, (), 6, (t.tbl zO).sc, (t.tbl zO).sc, 25⟩] rfl (by rfl) HH5 rfl rfl hLo rfl HS5 (slS 0 rfl rfl (slS 1 rfl rfl (slS 2 rfl rfl (slS 3 rfl rfl (slS 4 rfl rfl (slS 5 rfl rfl (slS 6 rfl rfl (slS 7 rfl rfl (slS 8 rfl rfl (slS 9 rfl rfl (slL 3 (d := 3) rfl (trivial)))))))))))) ?_ ?_
      · show ∀ i ∈ [0, 1, 2, 3], _
        refine zA (zB 0 _ rfl rfl hLo rfl rfl (fun _ _ _ _ => rfl) (fun b G w hb ho => zJ rfl (zG rfl (HS5.get 3 rfl)) (by kernel_rfl))) ?_
        refine zA (zW 1 0 _ _ rfl rfl rfl hLo rfl rfl (fun _ _ _ _ => rfl) (by rfl) (by rfl) (fun b G w hb ho hr => zP hr (Nat.le_of_ble_eq_true rfl) Tryd.underlying3 rfl rfl (zC hLo 0 rfl HS5.1 rfl (hb 0 (by rfl))))) ?_
        refine zA (zB 2 _ rfl rfl hLo rfl rfl (fun _ _ _ _ => rfl) (fun b G w hb ho => zI rfl (zC hLo 1 rfl HS5.1 rfl (hb 1 (by rfl))) (rfl) (rb_neq hr2 _ _ _))) ?_
        refine zA (zB 3 _ rfl rfl hLo rfl rfl (fun _ _ _ _ => rfl) (fun b G w hb ho => zD (.inr rfl) (zC hLo 2 rfl HS5.1 rfl (hb 2 (by rfl))))) ?_
        exact zF
      clear hLo
      intro G a7 w7 hS hH
      have HS7 : Sl a7 35 [(0, .agg (FR () 6 ((t).sc))), (1, .string (kd)), (2, .bool true), (3, .pointer (some ⟨g1_0, 0, none⟩)), (6, .int .i64 (0)), (7, .pointer (some ⟨g2_5, 0, none⟩)), (9, .int .i64 (((t.tbl zO).tell kd).1)), (10, .bool false), (22, .bool false), (24, .bool false), (29, .bool r2)] := hS
      have HH7 : Held w w7 [⟨g1_0, (), 6, (t).sc, 25⟩, ⟨g2_5, (), 6, (t.tbl zO).sc, 25⟩] := hH
      clear hS hH HS5 HH5
      refine then_ ?_
      cases r2
      · skip
        refine wp_cond_false (HS7.get 10 rfl) ?_
        refine wp_skip ?_
        refine zQ ?_
        refine then_ ?_
        refine wp_seq ?_
        have hLo : LOk [(0, 33, .val (.agg (FR () 6 ((t).sc)))), (1, 34, .val (.int .i64 (levV t k_state_default))), (2, 6, .val (.int .i64 (levV t k_state_default)))] := lok (by rfl) (by rfl)
        refine zH (wE := w) (sz := 35) (n := 3) [0, 1, 3] [(0, .val (.agg (FR () 6 ((t).sc)))), (1, .val (.string (kd))), (2, .val (.bool true)), (3, .val (.pointer (some ⟨g1_0, 0, none⟩))), (7, .val (.pointer (some ⟨g2_5, 0, none⟩))), (9, .val (.int .i64 (((t.tbl zO).tell kd).1))), (10, .val (.bool false)), (22, .val (.bool false)), (24, .val (.bool false)), (29, .val (.bool false)), (6, .val (.int .i64 (levV t k_state_default)))] [(0, 33, .val (.agg (FR () 6 ((t).sc)))), (1, 34, .val (.int .i64 (levV t k_state_default))), (2, 6, .val (.int .i64 (levV t k_state_default)))] [⟨g1_0, none, none, (), 6, (t).sc, (t).sc, 25⟩, ⟨g2_5, none, none, (), 6, (t.tbl zO).sc, (t.tbl zO).sc, 25⟩] rfl (by rfl) HH7 rfl rfl hLo rfl HS7 (slS 0 rfl rfl (slS 1 rfl rfl (slS 2 rfl rfl (slS 3 rfl rfl (slS 5 rfl rfl (slS 6 rfl rfl (slS 7 rfl rfl (slS 8 rfl rfl (slS 9 rfl rfl (slS 10 rfl rfl (slL 2 (d := 2) rfl (trivial)))))))))))) ?_ ?_
        · show ∀ i ∈ [0, 1, 2], _
          refine zA (yG 0 0 _ rfl rfl rfl rfl (fun _ _ _ _ => rfl) hLo rfl rfl rfl (by rfl) Tryd.underlying25 (by kernel_rfl) rfl (fun b G hb ho => zG rfl (HS7.get 3 rfl))) ?_
          refine zA (yB 1 _ #[.agg (FR () 6 ((t).sc)), .string (k_state_default)] rfl rfl rfl (fun _ _ _ _ => rfl) hLo rfl rfl Tryd.func10 rfl rfl (fun b G hb ho => args2 (zC hLo 0 rfl HS7.1 rfl (hb 0 (by rfl))) (rfl)) (fun w hw => level_calls k_state_default (hIn.below hw) hR.rise (hTab.below hw))) ?_
          refine zA (zB 2 _ rfl rfl hLo rfl rfl (fun _ _ _ _ => rfl) (fun b G w hb ho => zD (.inr rfl) (zC hLo 1 rfl HS7.1 rfl (hb 1 (by rfl))))) ?_
          exact zF
        clear hLo
        intro G a8 w8 hS hH
        have HS8 : Sl a8 35 [(0, .agg (FR () 6 ((t).sc))), (1, .string (kd)), (2, .bool true), (3, .pointer (some ⟨g1_0, 0, none⟩)), (7, .pointer (some ⟨g2_5, 0, none⟩)), (9, .int .i64 (((t.tbl zO).tell kd).1)), (10, .bool false), (22, .bool false), (24, .bool false), (29, .bool false), (6, .int .i64 (levV t k_state_default))] := hS
        have HH8 : Held w w8 [⟨g1_0, (), 6, (t).sc, 25⟩, ⟨g2_5, (), 6, (t.tbl zO).sc, 25⟩] := hH
        clear hS hH HS7 HH7
        refine then_ ?_
        refine wp_ret ?_
        repeat (first | refine zR ?_ | refine zK ?_)
        exact b_tmp rfl HS8.2.1 (HS8.get 10 rfl) ⟨int_ret (by unfold sendV; rw [told_of_no hr1, if_neg (by decide), if_pos (kind_is hr2)]), HH8.1⟩
      · skip
        refine wp_cond_true (HS7.get 10 rfl) ?_
        refine wp_seq ?_
        have hLo : LOk [(0, 6, .val (.int .i64 (0)))] := lok (by rfl) (by rfl)
        refine zH (wE := w) (sz := 35) (n := 1) [0] [(0, .val (.agg (FR () 6 ((t).sc)))), (1, .val (.string (kd))), (2, .val (.bool true)), (3, .val (.pointer (some ⟨g1_0, 0, none⟩))), (7, .val (.pointer (some ⟨g2_5, 0, none⟩))), (9, .val (.int .i64 (((t.tbl zO).tell kd).1))), (10, .val (.bool false)), (22, .val (.bool false)), (24, .val (.bool false)), (29, .val (.bool true)), (6, .val (.int .i64 (0)))] [(0, 6, .val (.int .i64 (0)))] [⟨g1_0, none, none, (), 6, (t).sc, (t).sc, 25⟩, ⟨g2_5, none, none, (), 6, (t.tbl zO).sc, (t.tbl zO).sc, 25⟩] rfl (by rfl) HH7 rfl rfl hLo rfl HS7 (slS 0 rfl rfl (slS 1 rfl rfl (slS 2 rfl rfl (slS 3 rfl rfl (slS 5 rfl rfl (slS 6 rfl rfl (slS 7 rfl rfl (slS 8 rfl rfl (slS 9 rfl rfl (slS 10 rfl rfl (slL 0 (d := 0) rfl (trivial)))))))))))) ?_ ?_
        · show ∀ i ∈ [0], _
          refine zA (zB 0 _ rfl rfl hLo rfl rfl (fun _ _ _ _ => rfl) (fun b G w hb ho => zD (.inr rfl) (rfl))) ?_
          exact zF
        clear hLo
        intro G a9 w9 hS hH
        have HS9 : Sl a9 35 [(0, .agg (FR () 6 ((t).sc))), (1, .string (kd)), (2, .bool true), (3, .pointer (some ⟨g1_0, 0, none⟩)), (7, .pointer (some ⟨g2_5, 0, none⟩)), (9, .int .i64 (((t.tbl zO).tell kd).1)), (10, .bool false), (22, .bool false), (24, .bool false), (29, .bool true), (6, .int .i64 (0))] := hS
        have HH9 : Held w w9 [⟨g1_0, (), 6, (t).sc, 25⟩, ⟨g2_5, (), 6, (t.tbl zO).sc, 25⟩] := hH
        clear hS hH HS7 HH7
        refine then_ ?_
        refine wp_ret ?_
        repeat (first | refine zR ?_ | refine zK ?_)
        exact b_tmp rfl HS9.2.1 (HS9.get 10 rfl) ⟨int_ret (by unfold sendV; rw [told_of_no hr1, if_neg (by decide), if_neg (kind_no hr2)]), HH9.1⟩
  · skip
    refine wp_cond_true (HS4.get 8 rfl) ?_
    refine wp_seq ?_
    have hLo : LOk [(0, 23, .val (.int .i64 (((t.tbl zO).tell kd).1))), (1, 6, .val (.int .i64 (((t.tbl zO).tell kd).1)))] := lok (by rfl) (by rfl)
    refine zH (wE := w) (sz := 35) (n := 2) [0, 1] [(0, .val (.agg (FR () 6 ((t).sc)))), (1, .val (.string (kd))), (2, .val (.bool st)), (3, .val (.pointer (some ⟨g1_0, 0, none⟩))), (7, .val (.pointer (some ⟨g2_5, 0, none⟩))), (9, .val (.int .i64 (((t.tbl zO).tell kd).1))), (10, .val (.bool true)), (22, .val (.bool true)), (6, .val (.int .i64 (((t.tbl zO).tell kd).1)))] [(0, 23, .val (.int .i64 (((t.tbl zO).tell kd).1))), (1, 6, .val (.int .i64 (((t.tbl zO).tell kd).1)))] [⟨g1_0, none, none, (), 6, (t).sc, (t).sc, 25⟩, ⟨g2_5, none, none, (), 6, (t.tbl zO).sc, (t.tbl zO).sc, 25⟩] rfl (by rfl) HH4 rfl rfl hLo rfl HS4 (slS 0 rfl rfl (slS 1 rfl rfl (slS 2 rfl rfl (slS 3 rfl rfl (slS 5 rfl rfl (slS 6 rfl rfl (slS 7 rfl rfl (slS 8 rfl rfl (slL 1 (d := 1) rfl (trivial)))))))))) ?_ ?_
    · show ∀ i ∈ [0, 1], _
      refine zA (zB 0 _ rfl rfl hLo rfl rfl (fun _ _ _ _ => rfl) (fun b G w hb ho => zD (.inl rfl) (zG rfl (HS4.get 6 rfl)))) ?_
      refine zA (zB 1 _ rfl rfl hLo rfl rfl (fun _ _ _ _ => rfl) (fun b G w hb ho => zD (.inr rfl) (zC hLo 0 rfl HS4.1 rfl (hb 0 (by rfl))))) ?_
      exact zF
    clear hLo
    intro G a10 w10 hS hH
    have HS10 : Sl a10 35 [(0, .agg (FR () 6 ((t).sc))), (1, .string (kd)), (2, .bool st), (3, .pointer (some ⟨g1_0, 0, none⟩)), (7, .pointer (some ⟨g2_5, 0, none⟩)), (9, .int .i64 (((t.tbl zO).tell kd).1)), (10, .bool true), (22, .bool true), (6, .int .i64 (((t.tbl zO).tell kd).1))] := hS
    have HH10 : Held w w10 [⟨g1_0, (), 6, (t).sc, 25⟩, ⟨g2_5, (), 6, (t.tbl zO).sc, 25⟩] := hH
    clear hS hH HS4 HH4
    refine then_ ?_
    refine wp_ret ?_
    repeat (first | refine zR ?_ | refine zK ?_)
    exact b_tmp rfl HS10.2.1 (HS10.get 8 rfl) ⟨int_ret (by unfold sendV; rw [told_of_tell hr1]), HH10.1⟩
section
variable {P : Program} {ops : Array Oper} {Q : Exit → Act → World → Prop} {B : List Nat} {wE : World} {a0 : Act} {L : List (Nat × Tmp × SV)} {A : List Ent} {i : Nat}
def partI (p k : Nat) : Nat → Bool := fun j => decide (p ≤ j) && decide (j < k)
theorem part_list (B : List Nat) (I : (Nat → Bool) → Act → World → Prop) (p q : Nat) (hs : ∀ i ∈ List.range' p (q - p), StepAt P ops Q B (List.range' p (q - p)) I i)
    (hB : ∀ i j, (B.getD i 0).testBit j = true → j < i) (hend : ∀ a w, I (partI p q) a w → wpList P ops Q (ops.toList.drop q) a w) :
    ∀ (m k : Nat) (a : Act) (w : World), k + m = q → p ≤ k → q ≤ ops.size → I (partI p k) a w → wpList P ops Q (ops.toList.drop k) a w
  | 0, k, a, w, hk, _, _, hI => by
    have e2 : k = q := by omega
    subst e2
    exact hend a w hI
  | m + 1, k, a, w, hk, hp, hq, hI => by
    have hlt : k < ops.toList.length := by simp; omega
    rw [List.drop_eq_getElem_cons hlt]
    obtain ⟨oi, hoi, h⟩ := hs k (List.mem_range'_1.2 ⟨hp, by omega⟩) _ a w hI (by simp [partI]) (fun j hj => by
      rw [Bool.and_eq_true] at hj
      have h1 := hB k j hj.2
      have h2 := List.mem_range'_1.1 (by simpa using hj.1)
      simp [partI]; omega) (fun d hd => by
      rw [Bool.and_eq_true] at hd
      have := hB d k hd.2
      simp [partI]; omega)
    have e : ops.toList[k] = oi := by
      have h1 := List.getElem?_eq_getElem hlt
      rw [Array.getElem?_toList, hoi] at h1
      exact (Option.some.inj h1).symm
    rw [e]
    refine wpList_step (fun K hK => h K (fun a' w' hI' => hK a' w' (part_list B I p q hs hB hend m (k + 1) a' w' (by omega) (by omega) hq ?_)))
    have e2 : partI p (k + 1) = up (partI p k) k := by
      funext j
      unfold up partI
      split
      · subst j; simp [hp]
      · rename_i hne
        have : (j < k + 1) = (j < k) := by apply propext; omega
        simp only [this]
    rw [e2]
    exact hI'
theorem part_ {w : World} {R : List RowD} {n sz : Nat} {S : List (Tmp × Value)} (p q : Nat) (B : List Nat) (S' : List (Tmp × SV)) (L : List (Nat × Tmp × SV)) (A : List Ent) (hn : ops.size = n) (hpq : (Nat.ble p q && Nat.ble q n) = true) (hB : lowB B n = true)
    (hH : Held wE w R) (hR : (A.filter fun x => x.born == none).map Ent.row0 = R) (hA : (A.all fun x => (match x.born with | none => true | some j => (List.range' p (q - p)).contains j) && (match x.stored with | none => true | some j => (List.range' p (q - p)).contains j)) = true) (hLo : LOk L) (hL : (L.all fun e => (List.range' p (q - p)).contains e.1 && Nat.ble (e.2.1 + 1) sz) = true) (hS : Sl a0 sz S) (hS' : SlOk L S S')
    (hs : ∀ i ∈ List.range' p (q - p), StepAt P ops Q B (List.range' p (q - p)) (RI wE a0 L A) i) (hend : ∀ G a' w', Sl a' sz (S'.map fun e => (e.1, e.2.at G)) → Held wE w' (A.map fun x => x.row G) → wpList P ops Q (ops.toList.drop q) a' w') : wpList P ops Q (ops.toList.drop p) a0 w := by
  subst hn
  rw [Bool.and_eq_true, Nat.ble_eq, Nat.ble_eq] at hpq
  refine part_list (P := P) (Q := Q) (ops := ops) B (RI wE a0 L A) p q hs (fun i j hj => lowB_is hB i j hj) (fun a w hI => by
    obtain ⟨G, h1, h2⟩ := hI.fin (O := List.range' p (q - p)) (fun j hj => by
      have := List.mem_range'_1.1 (by simpa using hj)
      simp [partI]; omega) hA hLo hL hS hS'
    exact hend G a w h1 h2) (q - p) p a0 w (by omega) (Nat.le_refl _) hpq.2 (by
      have e : partI p p = fun _ => false := by
        funext j
        unfold partI
        by_cases h : p ≤ j
        · simp; try (intro _; exact h)
        · simp; try (intro q; exact absurd q h)
      rw [e]
      exact RI.start hH hR)
theorem whole_ {id : Nat} {a : Act} {w : World} (h : wpList P ops Q (ops.toList.drop 0) a w) : (Code.region id ops false).wp P Q a w := wp_region_list h
theorem end_ {n : Nat} {a : Act} {w : World} (hn : ops.size = n) (h : Q .normal a w) : wpList P ops Q (ops.toList.drop n) a w := by
  subst hn
  rw [List.drop_eq_nil_iff.2 (by simp)]
  exact h
theorem Sl.put {a : Act} {sz : Nat} {S S' : List (Tmp × Value)} {N : Tmp} {v : Value} (h : Sl a sz S) (hN : Nat.ble (N + 1) sz = true) (he : S' = (N, v) :: S.filter fun e => !(e.1 == N)) : Sl (a.put (some N) v) sz S' := by
  subst he
  have hN := Nat.le_of_ble_eq_true hN
  have hx : N < a.tmps.size := Nat.lt_of_lt_of_le (Nat.lt_succ_self N) (Nat.le_trans hN (Nat.le_of_eq h.1.symm))
  refine ⟨by show (a.tmps.setIfInBounds N v).size = sz; rw [Array.size_setIfInBounds]; exact h.1, h.2.1, fun e he => ?_⟩
  rcases List.mem_cons.1 he with rfl | he
  · show (a.tmps.setIfInBounds N v).getD N undef = v
    rw [Array.getD_eq_getD_getElem?, Array.getElem?_setIfInBounds_self_of_lt hx]; rfl
  · obtain ⟨h1, h2⟩ := List.mem_filter.1 he
    have hne : e.1 ≠ N := by simpa using h2
    have h3 := h.2.2 e h1
    show (a.tmps.setIfInBounds N v).getD e.1 undef = e.2
    rw [Array.getD_eq_getD_getElem?, Array.getElem?_setIfInBounds_ne (fun q => hne q.symm), ← Array.getD_eq_getD_getElem?]
    exact h3
theorem drop_at {i : Nat} {oi : Oper} (h : ops[i]? = some oi) : ops.toList.drop i = oi :: ops.toList.drop (i + 1) := by
  have hlt : i < ops.toList.length := by
    rw [Array.length_toList]; exact (Array.getElem?_eq_some_iff.1 h).1
  rw [List.drop_eq_getElem_cons hlt]
  congr 1
  have h1 := List.getElem?_eq_getElem hlt
  rw [Array.getElem?_toList, h] at h1
  exact (Option.some.inj h1).symm
theorem cut_call {N : Tmp} {sz : Nat} {S : List (Tmp × Value)} {a : Act} {w : World} {oi : Oper} {f : FuncId} {fn : Func} {asx : Array Operand} {ts : Array TypeId} {args : Array Value} (R0 : Ending → World → Prop) (hoi : ops[i]? = some oi) (hN : oi.dst = some N) (hop : oi.op = .call { callee := .value (.func f), args := asx, argTypes := ts })
    (hw : Region.wanted oi (yielded ops a.tmps) = true) (hf : P.funcs[f]? = some fn) (hname : (fn.name == "runtime.NumGoroutine") = false) (hbd : fn.body.isSome = true) (hargs : asx.map a.eval = args) (hc : Calls P f args w R0) (hS : Sl a sz S) (hNs : Nat.ble (N + 1) sz = true)
    (h : ∀ e w', R0 e w' → ∃ v, e = .returned v ∧ ∀ a', Sl a' sz ((N, v) :: S.filter fun e => !(e.1 == N)) → wpList P ops Q (ops.toList.drop (i + 1)) a' w') : wpList P ops Q (ops.toList.drop i) a w := by
  rw [drop_at hoi]
  refine wpList_step (fun K hK => ?_)
  rw [hN]
  refine goes_ hf hname hbd args hw hN hop hargs (hc.mono fun e w' he => ?_)
  obtain ⟨v, h1, h2⟩ := h e w' he
  exact ⟨v, h1, hK _ _ (h2 _ (hS.put hNs rfl))⟩
theorem cut_run {N : Tmp} {sz : Nat} {S : List (Tmp × Value)} {a : Act} {w w' : World} {oi : Oper} {v : Value} (hoi : ops[i]? = some oi) (hN : oi.dst = some N) (hw : Region.wanted oi (yielded ops a.tmps) = true) (hrun : (execOp a.eval oi).run P w = .ok (.value v) w') (hS : Sl a sz S) (hNs : Nat.ble (N + 1) sz = true)
    (h : ∀ a', Sl a' sz ((N, v) :: S.filter fun e => !(e.1 == N)) → wpList P ops Q (ops.toList.drop (i + 1)) a' w') : wpList P ops Q (ops.toList.drop i) a w := by
  rw [drop_at hoi]
  refine wpList_step (fun K hK => ?_)
  rw [if_pos hw]
  unfold Oper.wp
  rw [hrun]
  show K (a.put oi.dst v) w'
  rw [hN]
  exact hK _ _ (h _ (hS.put hNs rfl))
end
theorem Held.call {wE w w' : World} {R : List RowD} (h : Held wE w R) (hb : Below w.heap.size w w') : Held wE w' R :=
  ⟨h.1.trans (hb.mono h.1.size), fun r hr => ⟨(h.2.1 r hr).1, (h.2.1 r hr).2.below hb (h.2.1 r hr).2.lt⟩, h.2.2⟩
theorem Held.back {wE w1 w2 : World} {R R2 : List RowD} (h : Held wE w1 R) (h2 : Held w1 w2 R2) : Held wE w2 R := h.call h2.1
theorem row_at {w : World} {g n : Nat} {f : Nat → SC} {t : TypeId} (h : Row w g () n f t) : ∀ j, j < n → w.cell? ((⟨g, 0, none⟩ : Addr).add j) = some (mkc () (f j)) := fun j hj => by
  rw [add_at, Nat.zero_add]; exact h.cell j hj
theorem Held.grown {wE w w' : World} {R : List RowD} {row : Option Nat} (h : Held wE w R) (hg : w.grownBy w' row) (hr : ∀ k, row = some k → wE.heap.size ≤ k) (hd : ∀ r ∈ R, row ≠ some r.g) : Held wE w' R :=
  ⟨h.1.grown hg h.1.size hr, fun r hm => ⟨(h.2.1 r hm).1, (hg.block _ (h.2.1 r hm).2.lt fun e => hd r hm e.symm).trans (h.2.1 r hm).2⟩, h.2.2⟩
section
variable {P : Program} {w : World}
theorem info_parts2 {e : TypeId} {z : Value} {size bytes : Nat} (h : (P.info? e).map (fun i => (i.zero, i.size, i.bytes)) = some (some z, size, bytes)) : ∃ i, P.info? e = some i ∧ i.zero = some z ∧ i.size = size ∧ i.bytes = bytes := by
  cases he : P.info? e with
  | none => rw [he] at h; cases h
  | some i =>
    rw [he] at h
    injection h with h
    obtain ⟨h1, h2⟩ := Prod.mk.inj h
    obtain ⟨h2, h3⟩ := Prod.mk.inj h2
    exact ⟨i, rfl, h1, h2, h3⟩
theorem run_append_G (base : Nat) {t ty e : TypeId} {z : Value} {size bytes : Nat} (ht : P.underlying t = some (.slice e)) (hinf : (P.info? e).map (fun i => (i.zero, i.size, i.bytes)) = some (some z, size, bytes)) (hzs : z.cells.size = size)
    {v : Value} {n : Nat} {xs : List Value} (hown : w.ownsRow base e size v n xs) {x : Value} {m : Nat} {news : List Value} (hsrc : Src P size t x m news w)
    (h63 : n + m ≤ maxLen) (hbytes : (n + m) * bytes ≤ 140737488355328) (hbase : base ≤ w.heap.size) :
    ∃ v' w', (Builtin.append_ #[t, t] ty #[v, x]).run P w = .ok v' w' ∧ w'.ownsRow base e size v' (n + m) (xs ++ news) ∧ w.grownBy w' v.ownBlock ∧ (v'.ownBlock = v.ownBlock ∨ v'.ownBlock = some w.heap.size) := by
  obtain ⟨i, hi, hz, rfl, rfl⟩ := info_parts2 hinf
  have hl := hsrc.newsLen
  have hsmall : n + m ≤ 9223372036854775807 := by simp only [maxLen] at h63; omega
  have hlen : (xs ++ news).length = (n + m) * i.size := by rw [List.length_append, hown.1, hl, Nat.add_mul]
  have grown : ∀ (old : Nat), old < n + m → ∀ (row : Option Nat),
      (w.drew.alloc (.cells ((xs ++ news).toArray ++ Builtin.zeroCells z.cells (grownCap w (n + m) old e - (n + m))) e)).ownsRow base e i.size
        (.slice (some ⟨w.heap.size, 0, none⟩) (n + m) (grownCap w (n + m) old e)) (n + m) (xs ++ news) ∧
      w.grownBy (w.drew.alloc (.cells ((xs ++ news).toArray ++ Builtin.zeroCells z.cells (grownCap w (n + m) old e - (n + m))) e)) row := by
    intro old ho row
    have hge := grownCap_ge w (n + m) old e
    have hcm : grownCap w (n + m) old e ≤ maxLen := grownCap_le_maxLen w (n + m) old e h63
    refine ⟨⟨hlen, .inr ⟨w.heap.size, _, _, rfl, hbase, heap_alloc_new w.drew _, hge, hcm, ?_, ?_⟩⟩, ⟨rfl, rfl, rfl, by simp, fun k hk _ => Below.heap_alloc w.drew _ k hk⟩⟩
    · simp only [Array.size_append, List.size_toArray, size_zeroCells, hzs, hlen, ← Nat.add_mul]
      congr 1
      omega
    · simp only [Array.toList_append]
      rw [← hlen]
      exact List.take_left
  have hinfo := hsrc
  rcases hown.2 with ⟨rfl, rfl⟩ | ⟨g, cap, cur, rfl, hbg, hg, hnc, hcm, hcs, htake⟩
  · have hx : xs = [] := List.eq_nil_of_length_eq_zero (by simpa using hown.1)
    subst hx
    by_cases hm : m = 0
    · subst hm
      have hn : news = [] := List.eq_nil_of_length_eq_zero (by simpa using hl)
      subst hn
      refine ⟨.slice none 0 0, w, ?_, World.ownsRow_nil w base e i.size, ⟨rfl, rfl, rfl, Nat.le_refl _, fun _ _ _ => rfl⟩, .inl rfl⟩
      rcases hsrc.kind with ⟨e', hk⟩ | hk
      · simp [Builtin.append_, run_underlying ht, sizeOf, typeInfo, hi, hsrc.len, hsrc.cells]
      · simp [Builtin.append_, run_underlying ht, run_underlying hk, sizeOf, typeInfo, hi, hsrc.len, hsrc.cells]
    · have hr := run_append_grow_src (P := P) w t t ty e i z ht hi hz none 0 0 [] (run_firstCells_none w.drew i.size 0 0 0) _ m _ hsrc (by omega) (by omega) (growslice_fits (by omega) hbytes)
      have hgr := grown 0 (by omega) (Value.ownBlock (.slice none 0 0))
      exact ⟨_, _, hr, hgr.1, hgr.2, .inr rfl⟩
  · by_cases hroom : n + m ≤ cap
    · have hsz : cur.size = cap * i.size := hcs
      have hle : n * i.size + news.length ≤ cur.size := by rw [hl, hcs, ← Nat.add_mul]; exact Nat.mul_le_mul_right _ hroom
      have hr := run_append_room_src (P := P) w t t ty e i ht hi g 0 n cap _ m _ hsrc hroom (by
        intro j hj
        rw [Nat.zero_add, cell_of_row w g _ cur _ _ hg, Array.getElem?_eq_getElem (by omega)]; rfl) (by intro j hj; exact frozen_of_row w g _ cur _ hg)
      rw [Nat.zero_add] at hr
      refine ⟨_, _, hr, ⟨hlen, .inr ⟨g, cap, _, rfl, hbg, setCells_row _ _ w cur hg, hroom, hcm, by rw [putA_size]; exact hcs, ?_⟩⟩, ⟨?_, ?_, ?_, by rw [setCells_size]; exact Nat.le_refl _, fun b _ hb2 => setCells_other (fun h => hb2 (by rw [h]; rfl)) _ _ w⟩, .inl rfl⟩
      · apply List.ext_getElem?
        intro j
        have hxl : xs.length = n * i.size := hown.1
        rw [List.getElem?_take, Array.getElem?_toList, putA_get _ _ _ _ hle]
        by_cases hj : j < (n + m) * i.size
        · rw [if_pos hj]
          by_cases hjn : j < n * i.size
          · rw [if_neg (by omega), List.getElem?_append_left (by omega), ← htake, List.getElem?_take, if_pos hjn, Array.getElem?_toList]
          · rw [if_pos (by rw [hl]; rw [Nat.add_mul] at hj; omega), List.getElem?_append_right (by omega), hxl]
        · rw [if_neg hj, List.getElem?_eq_none (by omega)]
      · exact (bel_setCells (Nat.le_refl g) _ _ w (Below.refl g w)).os
      · exact (bel_setCells (Nat.le_refl g) _ _ w (Below.refl g w)).tape
      · exact (bel_setCells (Nat.le_refl g) _ _ w (Below.refl g w)).output
    · have holds : ∀ j u, xs[j]? = some u → w.cell? ((⟨g, 0, none⟩ : Addr).add j) = some u := hown.cells (g := g) rfl
      have hr := run_append_grow_src (P := P) w t t ty e i z ht hi hz (some ⟨g, 0, none⟩) n cap xs (run_firstCells_some w.drew i.size n ⟨g, 0, none⟩ n cap xs hown.1 (by simpa using holds)) _ m _ hsrc (by omega) (by omega) (growslice_fits (by omega) hbytes)
      have hgr := grown cap (by omega) (Value.ownBlock (.slice (some ⟨g, 0, none⟩) n cap))
      exact ⟨_, _, hr, hgr.1, hgr.2, .inr rfl⟩
end
theorem src_of {P : Program} {w : World} {t e : TypeId} {size : Nat} {a : Option Addr} {n c : Nat} {news : List Value} (ht : P.underlying t = some (.slice e)) (hl : news.length = n * size) (h1 : ∀ u ∈ news, u.oneCell' = true) (hc : ∀ x, a = some x → ∀ j u, news[j]? = some u → w.cell? (x.add j) = some u) (h0 : a = none → n = 0) : Src P size t (.slice a n c) n news w := by
  cases a with
  | none =>
    obtain rfl := h0 rfl
    have : news = [] := List.eq_nil_of_length_eq_zero (by simpa using hl)
    subst this
    exact Src.ofNil w ht c
  | some x => exact Src.ofSlice w ht x n c news hl (hc x rfl) h1
theorem exec_append {P : Program} {o : Oper} {ev : Operand → Value} {w w' : World} {s x : Operand} {t : TypeId} {u v v' : Value} (ho : o.op = .call { callee := .builtin .append, args := #[s, x], argTypes := #[t, t] }) (hs : ev s = u) (hx : ev x = v) (h : (Builtin.append_ #[t, t] o.type #[u, v]).run P w = .ok v' w') : (execOp ev o).run P w = .ok (.value v') w' := by
  unfold execOp
  simp only [ho, resolve, invoke, builtin, Sem.run_bind, Sem.run_pure, Result.andThen_ok, List.map_toArray, List.map_cons, List.map_nil, hs, hx, h]
theorem parts3 {ev : Operand → Value} {i j k : Nat} {x y z : Operand} {u v t : Value} (h : ev x = u) (h2 : ev y = v) (h3 : ev z = t) : ((#[(i, x), (j, y), (k, z)] : Array (Nat × Operand)).map fun (i, x) => (i, ev x)) = #[(i, u), (j, v), (k, t)] := by simp [h, h2, h3]
structure OwnR (base : Nat) (w : World) (e : TypeId) (size : Nat) (gs : List Nat) (v : Value) (n : Nat) (xs : List Value) : Prop where
  own : w.ownsRow base e size v n xs
  apart : ∀ g ∈ gs, v.ownBlock ≠ some g
theorem grown_of_below {w w' : World} (h : Below w.heap.size w w') : w.grownBy w' none := ⟨h.os, h.tape, h.output, h.size, fun k hk _ => h.block k hk⟩
section
variable {base : Nat} {w w' : World} {e : TypeId} {size : Nat} {gs : List Nat} {v : Value} {n : Nat} {xs : List Value}
theorem OwnR.nil : OwnR base w e size gs (.slice none 0 0) 0 [] := ⟨World.ownsRow_nil w base e size, fun g _ h => by cases h⟩
theorem OwnR.below (h : OwnR base w e size gs v n xs) (hb : Below w.heap.size w w') : OwnR base w' e size gs v n xs :=
  ⟨h.own.kept (grown_of_below hb) (by cases v.ownBlock with | none => exact .inl rfl | some b => exact .inr (by simp)), h.apart⟩
theorem OwnR.slice (h : OwnR base w e size gs v n xs) : ∃ oa c, v = .slice oa n c ∧ (oa = none → n = 0) ∧ ∀ x, oa = some x → ∀ j u, xs[j]? = some u → w.cell? (x.add j) = some u := by
  have hc := fun g hg => h.own.cells (g := g) hg
  rcases h.own.2 with ⟨rfl, rfl⟩ | ⟨g, cap, cur, rfl, _⟩
  · exact ⟨none, 0, rfl, (fun _ => rfl), (fun x hx => by cases hx)⟩
  · exact ⟨some ⟨g, 0, none⟩, cap, rfl, (fun hx => by cases hx), (fun x hx => by injection hx with hx; subst hx; exact hc g rfl)⟩
theorem OwnR.grow (h : OwnR base w e size gs v n xs) {m : Nat} {news : List Value} {v' : Value} (ho : w'.ownsRow base e size v' m news) (hv : v'.ownBlock = v.ownBlock ∨ v'.ownBlock = some w.heap.size) (hg : ∀ g ∈ gs, g < w.heap.size) : OwnR base w' e size gs v' m news :=
  ⟨ho, fun g hm => by
    rcases hv with hv | hv
    · rw [hv]; exact h.apart g hm
    · rw [hv]; intro q; injection q with q; have := hg g hm; omega⟩
end
theorem cut_append {P : Program} {ops : Array Oper} {Q : Exit → Act → World → Prop} {i N sz : Nat} {S : List (Tmp × Value)} {a : Act} {w wE : World} {oi : Oper} {s x : Operand} {t e : TypeId} {z : Value} {size bytes : Nat} {gs : List Nat} {R : List RowD} {v xv : Value} {n m : Nat} {xs news : List Value}
    (hoi : ops[i]? = some oi) (hN : oi.dst = some N) (hop : oi.op = .call { callee := .builtin .append, args := #[s, x], argTypes := #[t, t] }) (hw : Region.wanted oi (yielded ops a.tmps) = true) (hs : a.eval s = v) (hx : a.eval x = xv)
    (ht : P.underlying t = some (.slice e)) (hinf : (P.info? e).map (fun i => (i.zero, i.size, i.bytes)) = some (some z, size, bytes)) (hzs : z.cells.size = size) (hO : OwnR wE.heap.size w e size gs v n xs) (hsrc : Src P size t xv m news w)
    (h63 : n + m ≤ maxLen) (hbytes : (n + m) * bytes ≤ 140737488355328) (hH : Held wE w R) (hgs : R.map RowD.g = gs) (hS : Sl a sz S) (hNs : Nat.ble (N + 1) sz = true)
    (h : ∀ oa c w', OwnR wE.heap.size w' e size gs (.slice oa (n + m) c) (n + m) (xs ++ news) → Held wE w' R → ∀ a', Sl a' sz ((N, .slice oa (n + m) c) :: S.filter fun e => !(e.1 == N)) → wpList P ops Q (ops.toList.drop (i + 1)) a' w') : wpList P ops Q (ops.toList.drop i) a w := by
  obtain ⟨v', w', hr, ho, hg, hv⟩ := run_append_G (ty := oi.type) wE.heap.size ht hinf hzs hO.own hsrc h63 hbytes hH.1.size
  have hgl : ∀ g ∈ gs, g < w.heap.size := fun g hm => by
    subst hgs
    obtain ⟨r, hr, rfl⟩ := List.mem_map.1 hm
    exact (hH.2.1 r hr).2.lt
  have hO' := hO.grow ho hv hgl
  obtain ⟨oa, c, rfl, _, _⟩ := hO'.slice
  exact cut_run hoi hN hw (exec_append hop hs hx hr) hS hNs (h oa c w' hO' (hH.grown hg (fun k hk => (hO.own.lt k hk).1) fun r hr => hO.apart r.g (by rw [← hgs]; exact List.mem_map_of_mem hr)))
def StrsAt (w : World) (oa : Option Addr) (n : Nat) (K : Nat → ByteArray) : Prop := ∀ i, i < n → ∃ x, oa = some x ∧ w.cell? (x.add (i * 1)) = some (.string (K i))
theorem StrsAt.below {w w' : World} {oa : Option Addr} {n : Nat} {K : Nat → ByteArray} (h : StrsAt w oa n K) (hb : Below w.heap.size w w') : StrsAt w' oa n K := fun i hi => by
  obtain ⟨x, hx, hc⟩ := h i hi
  exact ⟨x, hx, bel_kept hb _ _ hc⟩
theorem StrsAt.row {w : World} {g n : Nat} {f : Nat → SC} {t : TypeId} {K : Nat → ByteArray} (h : Row w g () n f t) (hk : ∀ i, i < n → f i = .s (K i)) : StrsAt w (some ⟨g, 0, none⟩) n K := fun i hi => ⟨_, rfl, by
  have := row_at h i hi
  rw [hk i hi] at this
  rw [Nat.mul_one]; exact this⟩
theorem StrsAt.own {base : Nat} {w : World} {e : TypeId} {gs : List Nat} {oa : Option Addr} {c n : Nat} {l : List ByteArray} (h : OwnR base w e 1 gs (.slice oa n c) n (l.map Value.string)) : StrsAt w oa n fun i => l.getD i ByteArray.empty := fun i hi => by
  obtain ⟨oa', c', he, h0, hc⟩ := h.slice
  injection he with h1 h2 h3; subst h1
  cases oa with
  | none => have := h0 rfl; omega
  | some x =>
    refine ⟨x, rfl, ?_⟩
    have hl : l.length = n := by have := h.own.1; rw [List.length_map] at this; omega
    refine (hc x rfl (i * 1) (.string (l.getD i ByteArray.empty)) ?_)
    rw [Nat.mul_one, List.getElem?_map, List.getElem?_eq_getElem (by omega), Option.map_some, List.getD_eq_getElem?_getD, List.getElem?_eq_getElem (by omega)]; rfl
def MemsAt (w : World) (oa : Option Addr) (n : Nat) (K : Nat → ByteArray) (M : Nat → T) : Prop := ∀ i, i < n → ∃ x, oa = some x ∧ w.cell? (x.add (i * 7)) = some (.string (K i)) ∧ At6 w x (i * 7 + 1) (M i)
theorem MemsAt.below {w w' : World} {oa : Option Addr} {n : Nat} {K : Nat → ByteArray} {M : Nat → T} (h : MemsAt w oa n K M) (hb : Below w.heap.size w w') : MemsAt w' oa n K M := fun i hi => by
  obtain ⟨x, hx, hc, ha⟩ := h i hi
  exact ⟨x, hx, bel_kept hb _ _ hc, ha.mono (bel_kept hb)⟩
def mcells (K : Nat → ByteArray) (M : Nat → T) (n : Nat) : List Value := (List.range (n * 7)).map fun j => mkc () (msc (K (j / 7)) (M (j / 7)) (j % 7))
theorem mcells_len {K : Nat → ByteArray} {M : Nat → T} {n : Nat} : (mcells K M n).length = n * 7 := by unfold mcells; simp
theorem mcells_one {K : Nat → ByteArray} {M : Nat → T} {n : Nat} : ∀ u ∈ mcells K M n, u.oneCell' = true := by
  intro u hu
  obtain ⟨j, _, rfl⟩ := List.mem_map.1 hu
  exact mkc_one _ _
theorem mcells_at {K : Nat → ByteArray} {M : Nat → T} {n j : Nat} (h : j < n * 7) : (mcells K M n)[j]? = some (mkc () (msc (K (j / 7)) (M (j / 7)) (j % 7))) := by
  unfold mcells; rw [List.getElem?_map, List.getElem?_range h]; rfl
theorem mcells_out {K : Nat → ByteArray} {M : Nat → T} {n j : Nat} (h : ¬ j < n * 7) : (mcells K M n)[j]? = none := List.getElem?_eq_none (by rw [mcells_len]; omega)
theorem mcells_add {K K2 : Nat → ByteArray} {M M2 : Nat → T} {n m : Nat} : mcells K M n ++ mcells K2 M2 m = mcells (fun i => if i < n then K i else K2 (i - n)) (fun i => if i < n then M i else M2 (i - n)) (n + m) := by
  apply List.ext_getElem?
  intro j
  by_cases h1 : j < n * 7
  · rw [List.getElem?_append_left (by rw [mcells_len]; exact h1), mcells_at h1, mcells_at (by omega)]
    simp only [if_pos (show j / 7 < n by omega)]
  · rw [List.getElem?_append_right (by rw [mcells_len]; omega), mcells_len]
    by_cases h2 : j < (n + m) * 7
    · rw [mcells_at (by omega), mcells_at h2]
      simp only [if_neg (show ¬ j / 7 < n by omega)]
      rw [show (j - n * 7) / 7 = j / 7 - n by omega, show (j - n * 7) % 7 = j % 7 by omega]
    · rw [mcells_out (by omega), mcells_out h2]
theorem mcells_congr {K K2 : Nat → ByteArray} {M M2 : Nat → T} {n : Nat} (h : ∀ i, i < n → K i = K2 i ∧ M i = M2 i) : mcells K M n = mcells K2 M2 n := by
  apply List.ext_getElem?
  intro j
  by_cases h1 : j < n * 7
  · rw [mcells_at h1, mcells_at h1, (h (j / 7) (by omega)).1, (h (j / 7) (by omega)).2]
  · rw [mcells_out h1, mcells_out h1]
theorem MemsAt.cells {w : World} {x : Addr} {n : Nat} {K : Nat → ByteArray} {M : Nat → T} (h : MemsAt w (some x) n K M) : ∀ j u, (mcells K M n)[j]? = some u → w.cell? (x.add j) = some u := by
  intro j u hu
  by_cases hj : j < n * 7
  · rw [mcells_at hj] at hu
    injection hu with hu; subst hu
    obtain ⟨y, hy, hc, ha⟩ := h (j / 7) (by omega)
    injection hy with hy; subst hy
    by_cases h0 : j % 7 = 0
    · rw [h0, show j = j / 7 * 7 by omega]
      rw [show j / 7 * 7 / 7 = j / 7 by omega]
      exact hc
    · obtain ⟨s, hs⟩ : ∃ s, j % 7 = s + 1 := ⟨j % 7 - 1, by omega⟩
      have := ha s (by omega)
      rw [show j / 7 * 7 + 1 + s = j by omega] at this
      rw [hs]; exact this
  · rw [mcells_out hj] at hu; cases hu
theorem MemsAt.own {base : Nat} {w : World} {e : TypeId} {gs : List Nat} {oa : Option Addr} {c n : Nat} {K : Nat → ByteArray} {M : Nat → T} (h : OwnR base w e 7 gs (.slice oa n c) n (mcells K M n)) : MemsAt w oa n K M := fun i hi => by
  obtain ⟨oa', c', he, h0, hc⟩ := h.slice
  injection he with h1 h2 h3; subst h1
  cases oa with
  | none => have := h0 rfl; omega
  | some x =>
    refine ⟨x, rfl, hc x rfl (i * 7) _ ?_, fun j hj => hc x rfl (i * 7 + 1 + j) _ ?_⟩
    · rw [mcells_at (by omega), show i * 7 / 7 = i by omega, show i * 7 % 7 = 0 by omega]; rfl
    · rw [mcells_at (by omega), show (i * 7 + 1 + j) / 7 = i by omega, show (i * 7 + 1 + j) % 7 = j + 1 by omega]; rfl
theorem MemsAt.tree {w : World} {t : T} (h : In w t) : MemsAt w t.xm t.ml t.key t.mem := fun i hi => (h.mems hi).1
theorem MemsAt.none {w : World} {n : Nat} {K : Nat → ByteArray} {M : Nat → T} (h : MemsAt w none n K M) : n = 0 := by
  cases n with
  | zero => rfl
  | succ n => obtain ⟨x, hx, _⟩ := h 0 (Nat.zero_lt_succ _); cases hx
theorem MemsAt.src {P : Program} {w : World} {ty e : TypeId} {oa : Option Addr} {n c : Nat} {K : Nat → ByteArray} {M : Nat → T} (h : MemsAt w oa n K M) (ht : P.underlying ty = some (.slice e)) : Src P 7 ty (.slice oa n c) n (mcells K M n) w :=
  src_of ht mcells_len mcells_one (fun x hx => by subst hx; exact h.cells) fun hx => by subst hx; exact h.none
theorem OwnR.low {base base' : Nat} {w : World} {e : TypeId} {size n : Nat} {gs : List Nat} {v : Value} {xs : List Value} (h : OwnR base w e size gs v n xs) (hb : base' ≤ base) : OwnR base' w e size gs v n xs := by
  obtain ⟨⟨h1, h2⟩, h3⟩ := h
  refine ⟨⟨h1, h2.imp id ?_⟩, h3⟩
  rintro ⟨g, cap, cur, a, b, c⟩
  exact ⟨g, cap, cur, a, Nat.le_trans hb b, c⟩
theorem OwnR.cut0 {base : Nat} {w : World} {e : TypeId} {size n c : Nat} {gs : List Nat} {oa : Option Addr} {xs : List Value} (h : OwnR base w e size gs (.slice oa n c) n xs) : OwnR base w e size gs (.slice oa 0 c) 0 [] := by
  obtain ⟨⟨h1, h2⟩, h3⟩ := h
  refine ⟨⟨by simp, h2.imp ?_ ?_⟩, fun g hg => by have := h3 g hg; cases oa <;> exact this⟩
  · rintro ⟨q, _⟩
    injection q with q1 q2 q3
    subst q1; subst q3
    exact ⟨rfl, rfl⟩
  · rintro ⟨g, cap, cur, q, hb, hg, hn, hm, hs, ht⟩
    injection q with q1 q2 q3
    subst q1; subst q3
    exact ⟨g, c, cur, rfl, hb, hg, Nat.zero_le _, hm, hs, by simp⟩
theorem exec_appendMake {P : Program} {o : Oper} {ev : Operand → Value} {w w' : World} {s x : Operand} {t ti : TypeId} {u v v' : Value} (ho : o.op = .call { callee := .builtin .append, args := #[s, x], argTypes := #[t, ti] }) (hs : ev s = u) (hx : ev x = v) (h : (Builtin.append_ #[t, ti] o.type #[u, v]).run P w = .ok v' w') : (execOp ev o).run P w = .ok (.value v') w' := by
  unfold execOp
  simp only [ho, resolve, invoke, builtin, Sem.run_bind, Sem.run_pure, Result.andThen_ok, List.map_toArray, List.map_cons, List.map_nil, hs, hx, h]
theorem exec_capL {P : Program} {o : Oper} {ev : Operand → Value} {w : World} {x : Operand} {ty e : TypeId} {a : Option Addr} {n c : Nat} (hu : P.underlying ty = some (.slice e)) (ho : o.op = .call { callee := .builtin .cap, args := #[x], argTypes := #[ty] }) (hx : ev x = .slice a n c) : (execOp ev o).run P w = .ok (.value (.int .i64 (c : Int))) w := by
  unfold execOp
  simp only [ho, resolve, invoke, builtin, Builtin.cap_, Sem.run_bind, Sem.run_pure, Result.andThen_ok, List.map_toArray, List.map_cons, List.map_nil, hx, run_underlying hu]
  simp [run_underlying hu]
  rfl
theorem run_slice0 {P : Program} {t e : TypeId} {oa : Option Addr} {n c m : Nat} (h : P.underlying t = some (.slice e)) (hm : (P.info? e).map (·.size) = some m) (w : World) : (Instr.sliceAt t (.slice oa n c) none (some (.int .i64 0)) none).run P w = .ok (.slice oa 0 c) w := by
  have h0 : (0 : Int) ≤ 0 := by omega
  have h2 : (0 : Int) ≤ (c : Int) := by omega
  obtain ⟨ie, hie, hs⟩ : ∃ ie, P.info? e = some ie ∧ ie.size = m := by
    cases he : P.info? e with
    | none => rw [he] at hm; cases hm
    | some ie => rw [he] at hm; exact ⟨ie, rfl, Option.some.inj hm⟩
  have hti : (typeInfo e).run P w = .ok ie w := by simp [typeInfo, hie]
  have hz : (Go.sizeOf e).run P w = .ok m w := by simp [Go.sizeOf, hti, hs]
  cases oa with
  | none => go_simp
  | some x => obtain ⟨g, o, sp⟩ := x; go_simp
def k_ax : ByteArray := ⟨#[64, 97, 58, 120]⟩
def k_bx : ByteArray := ⟨#[64, 98, 58, 120]⟩
def k_cx : ByteArray := ⟨#[64, 99, 58, 120]⟩
def k_m : ByteArray := ⟨#[109]⟩
def lvN : T := .mk 2 false 100 ByteArray.empty none 0 0 (fun _ => .no) none 0 0 (fun _ => ByteArray.empty) (fun _ => .no)
def one (g : Nat) (k : ByteArray) (t : T) : T := .mk 5 false 0 ByteArray.empty none 0 0 (fun _ => .no) (some ⟨g, 0, none⟩) 1 1 (fun _ => k) (fun _ => t)
def lvT (g h : Nat) : T := one h zS (one g k_ax lvN)
theorem In.lvN (w : World) : In w lvN := by
  refine ⟨⟨by decide, by decide, by decide, by decide, by decide, by decide, by decide, by decide, by decide⟩, fun i h => ?_, fun i h => ?_⟩
  · exact absurd h (Nat.not_lt_zero _)
  · exact absurd h (Nat.not_lt_zero _)
theorem In.one {w : World} {g : Nat} {k : ByteArray} {t : T} {ty : TypeId} (hr : Row w g () 7 (msc k t) ty) (hk : k.size ≤ reach47) (ht : In w t) : In w (one g k t) := by
  refine ⟨⟨by decide, by decide, by decide, by decide, by decide, by decide, by decide, by decide, by decide⟩, fun i h => absurd h (Nat.not_lt_zero _), fun i h => ?_⟩
  obtain rfl : i = 0 := by omega
  refine ⟨⟨⟨g, 0, none⟩, rfl, row_at hr 0 (by decide), fun j hj => ?_⟩, hk, ht⟩
  have := row_at hr (j + 1) (by omega)
  rw [show 0 * 7 + 1 + j = j + 1 by omega]
  exact this
theorem Rises.lvN : Rises lvN := ⟨fun i h => absurd h (Nat.not_lt_zero _), fun i h => absurd h (Nat.not_lt_zero _), fun i h => absurd h (Nat.not_lt_zero _)⟩
theorem Rises.one {g : Nat} {k : ByteArray} {t : T} (h : Rises t) : Rises (one g k t) :=
  ⟨fun i h => by omega, fun i h => absurd h (Nat.not_lt_zero _), fun _ _ => h⟩
theorem Rises.lvT (g h : Nat) : Rises (lvT g h) := Rises.one (Rises.one Rises.lvN)
theorem ret_in {w : World} {g h : Nat} {t1 t2 : TypeId} (h1 : Row w g () 7 (msc k_ax lvN) t1) (h2 : Row w h () 7 (msc zS (one g k_ax lvN)) t2) : In w (lvT g h) := In.one h2 (by decide) (In.one h1 (by decide) (In.lvN w))
theorem one_get (g : Nat) (k key : ByteArray) (t : T) : (one g k t).get key = if k = key then some t else none := by
  show (look (fun _ => k) key 1).map (fun _ => t) = _
  unfold look look
  by_cases h : k = key
  · rw [if_pos h]; simp [h]
  · rw [if_neg h]; simp [h]
theorem one_told (g : Nat) (k key : ByteArray) (t : T) : (one g k t).told key = if k = key then (if t.kind = 2 then some t.num else none) else none := by
  unfold T.told
  rw [one_get]
  by_cases h : k = key
  · rw [if_pos h, if_pos h]
  · rw [if_neg h, if_neg h]
theorem one_tbl (g : Nat) (k key : ByteArray) (t : T) : (one g k t).tbl key = if k = key then t else T.zero := by
  unfold T.tbl
  rw [one_get]
  by_cases h : k = key
  · rw [if_pos h, if_pos h]; rfl
  · rw [if_neg h, if_neg h]; rfl
theorem zero_told (key : ByteArray) : T.zero.told key = none := by
  unfold T.told T.get
  rw [if_neg (by decide)]
theorem lv_user1 (g h : Nat) : userV (lvT g h) ByteArray.empty k_ax = 100 := by
  unfold userV
  rw [if_pos (show (lvT g h).kind = 5 from rfl)]
  unfold lvT
  rw [one_tbl, if_pos rfl, one_told, if_pos rfl]; rfl
theorem lv_user2 (g h : Nat) : userV (lvT g h) k_bx k_bx = 0 := by
  unfold userV
  rw [if_pos (show (lvT g h).kind = 5 from rfl)]
  unfold lvT
  rw [one_tbl, if_pos rfl, one_told, if_neg (by decide)]
  rw [Option.getD_none]
  unfold levV
  rw [one_told, if_neg (by decide)]; decide
theorem lv_send1 (g h : Nat) : sendV (lvT g h) k_m true = 50 := by
  unfold sendV
  rw [show (lvT g h).tbl zO = T.zero by unfold lvT; rw [one_tbl, if_neg (by decide)], zero_told]
  rw [Option.getD_none]
  rw [if_neg (by decide), if_pos (show (lvT g h).kind = 5 from rfl)]
  unfold levV lvT
  rw [one_told, if_neg (by decide)]; decide
theorem lv_send2 (g h : Nat) : sendV (lvT g h) k_m false = 0 := by
  unfold sendV
  rw [show (lvT g h).tbl zO = T.zero by unfold lvT; rw [one_tbl, if_neg (by decide)], zero_told]
  rw [Option.getD_none]
  rw [if_pos rfl]
  unfold levV lvT
  rw [one_told, if_neg (by decide)]; decide
theorem no_user : userV T.zero k_cx k_cx = 100 := by decide
theorem levels_calls (w : World) : Calls Tryd.prog 14 #[] w fun e w' => (∃ g h, e = .returned (lvT g h).val ∧ In w' (lvT g h)) ∧ Below w.heap.size w w' := by
  refine enter_ 10 Tryd.func14 rfl rfl (fun a0 hS => ?_)
  have HS0 : Sl a0 10 [] := hS
  have HH0 : Held w w [] := Held.first w
  clear hS
  refine wp_seq ?_
  have hLo : LOk [(0, 0, .new 0 (fun g => .pointer (some ⟨g, 0, none⟩)))] := lok (by rfl) (by rfl)
  refine zH (wE := w) (sz := 10) (n := 1) [0] [(0, .new 0 (fun g => .pointer (some ⟨g, 0, none⟩)))] [(0, 0, .new 0 (fun g => .pointer (some ⟨g, 0, none⟩)))] [⟨0, some 0, none, (), 6, lsc [.i .i64 (0), .b (false), .i .i64 (0), .s (ByteArray.empty), .sl (none) (0) (0), .sl (none) (0) (0)], lsc [.i .i64 (0), .b (false), .i .i64 (0), .s (ByteArray.empty), .sl (none) (0) (0), .sl (none) (0) (0)], 25⟩] rfl (by rfl) HH0 rfl rfl hLo rfl HS0 (slL 0 (d := 0) rfl (trivial)) ?_ ?_
  · show ∀ i ∈ [0], _
    refine zA (zZ 0 0 () 6 25 none _ _ rfl rfl (fun _ _ _ _ => rfl) rfl hLo rfl rfl rfl rfl (by rfl) (fun b G w _ _ => by kernel_rfl)) ?_
    exact zF
  clear hLo
  intro G a1 w1 hS hH
  have HS1 : Sl a1 10 [(0, .pointer (some ⟨(G 0), 0, none⟩))] := hS
  have HH1 : Held w w1 [⟨(G 0), (), 6, lsc [.i .i64 (0), .b (false), .i .i64 (0), .s (ByteArray.empty), .sl (none) (0) (0), .sl (none) (0) (0)], 25⟩] := hH
  clear hS hH HS0 HH0
  generalize G 0 = g1_0 at HS1 HH1
  refine then_ ?_
  refine wp_seq ?_
  refine whole_ ?_
  have hLo : LOk [(0, 2, .val (.agg (FR () 6 ((lvN).sc)))), (1, 3, .val (.agg (FR () 7 (msc (k_ax) (lvN))))), (2, 4, .new 2 (fun g => .slice (some ⟨g, 0, none⟩) (1) (1)))] := lok (by rfl) (by rfl)
  refine part_ (wE := w) (sz := 10) (n := 6) 0 3 [0, 1, 3, 7, 15, 31] [(0, .val (.pointer (some ⟨g1_0, 0, none⟩))), (4, .new 2 (fun g => .slice (some ⟨g, 0, none⟩) (1) (1)))] [(0, 2, .val (.agg (FR () 6 ((lvN).sc)))), (1, 3, .val (.agg (FR () 7 (msc (k_ax) (lvN))))), (2, 4, .new 2 (fun g => .slice (some ⟨g, 0, none⟩) (1) (1)))] [⟨g1_0, none, none, (), 6, lsc [.i .i64 (0), .b (false), .i .i64 (0), .s (ByteArray.empty), .sl (none) (0) (0), .sl (none) (0) (0)], lsc [.i .i64 (0), .b (false), .i .i64 (0), .s (ByteArray.empty), .sl (none) (0) (0), .sl (none) (0) (0)], 25⟩, ⟨0, some 2, none, (), 7, msc (k_ax) (lvN), msc (k_ax) (lvN), 44⟩] rfl rfl (by rfl) HH1 rfl rfl hLo rfl HS1 (slS 0 rfl rfl (slL 2 (d := 2) rfl (trivial))) ?_ ?_
  · show ∀ i ∈ [0, 1, 2], _
    refine zA (zB 0 _ rfl rfl hLo rfl rfl (fun _ _ _ _ => rfl) (fun b G w hb ho => exec_build rfl (parts2 (rfl) (rfl)) (by kernel_rfl))) ?_
    refine zA (zB 1 _ rfl rfl hLo rfl rfl (fun _ _ _ _ => rfl) (fun b G w hb ho => exec_build rfl (parts2 (rfl) (zC hLo 0 rfl HS1.1 rfl (hb 0 (by rfl)))) (by kernel_rfl))) ?_
    refine zA (zZ 2 1 () 7 44 none _ _ rfl rfl (fun _ _ _ _ => rfl) rfl hLo rfl rfl rfl rfl (by rfl) (fun b G w hb ho => exec_buildSlice rfl (parts1 (zC hLo 1 rfl HS1.1 rfl (hb 1 (by rfl)))) (by kernel_rfl))) ?_
    exact zF
  clear hLo
  intro G a2 w2 hS hH
  have HS2 : Sl a2 10 [(0, .pointer (some ⟨g1_0, 0, none⟩)), (4, .slice (some ⟨(G 2), 0, none⟩) (1) (1))] := hS
  have HH2 : Held w w2 [⟨g1_0, (), 6, lsc [.i .i64 (0), .b (false), .i .i64 (0), .s (ByteArray.empty), .sl (none) (0) (0), .sl (none) (0) (0)], 25⟩, ⟨(G 2), (), 7, msc (k_ax) (lvN), 44⟩] := hH
  clear hS hH HS1 HH1
  generalize G 2 = g2_2 at HS2 HH2
  have hLo : LOk [(3, 5, .val (.agg (FR () 6 ((one g2_2 k_ax lvN).sc)))), (4, 1, .new 4 (fun g => .pointer (some ⟨g, 0, none⟩)))] := lok (by rfl) (by rfl)
  refine part_ (wE := w) (sz := 10) (n := 6) 3 6 [0, 1, 3, 7, 15, 31] [(0, .val (.pointer (some ⟨g1_0, 0, none⟩))), (1, .new 4 (fun g => .pointer (some ⟨g, 0, none⟩)))] [(3, 5, .val (.agg (FR () 6 ((one g2_2 k_ax lvN).sc)))), (4, 1, .new 4 (fun g => .pointer (some ⟨g, 0, none⟩)))] [⟨g1_0, none, none, (), 6, lsc [.i .i64 (0), .b (false), .i .i64 (0), .s (ByteArray.empty), .sl (none) (0) (0), .sl (none) (0) (0)], lsc [.i .i64 (0), .b (false), .i .i64 (0), .s (ByteArray.empty), .sl (none) (0) (0), .sl (none) (0) (0)], 25⟩, ⟨g2_2, none, none, (), 7, msc (k_ax) (lvN), msc (k_ax) (lvN), 44⟩, ⟨0, some 4, some 5, (), 6, lsc [.i .i64 (0), .b (false), .i .i64 (0), .s (ByteArray.empty), .sl (none) (0) (0), .sl (none) (0) (0)], (one g2_2 k_ax lvN).sc, 25⟩] rfl rfl (by rfl) HH2 rfl rfl hLo rfl HS2 (slS 0 rfl rfl (slL 1 (d := 4) rfl (trivial))) ?_ ?_
  · show ∀ i ∈ [3, 4, 5], _
    refine zA (zB 0 _ rfl rfl hLo rfl rfl (fun _ _ _ _ => rfl) (fun b G w hb ho => exec_build rfl (parts2 (rfl) (zG rfl (HS2.get 1 rfl))) (by kernel_rfl))) ?_
    refine zA (zZ 1 2 () 6 25 (some 5) _ _ rfl rfl (fun _ _ _ _ => rfl) rfl hLo rfl rfl rfl rfl (by rfl) (fun b G w _ _ => by kernel_rfl)) ?_
    refine zA (st_store 2 _ rfl rfl rfl rfl rfl (fun _ _ _ _ => rfl) rfl rfl rfl (by rfl) (by kernel_rfl) (fun b G hb ho => zC hLo 1 rfl HS2.1 rfl (hb 4 (by rfl))) (fun b G hb ho => zC hLo 0 rfl HS2.1 rfl (hb 3 (by rfl)))) ?_
    exact zF
  clear hLo
  intro G a3 w3 hS hH
  have HS3 : Sl a3 10 [(0, .pointer (some ⟨g1_0, 0, none⟩)), (1, .pointer (some ⟨(G 4), 0, none⟩))] := hS
  have HH3 : Held w w3 [⟨g1_0, (), 6, lsc [.i .i64 (0), .b (false), .i .i64 (0), .s (ByteArray.empty), .sl (none) (0) (0), .sl (none) (0) (0)], 25⟩, ⟨g2_2, (), 7, msc (k_ax) (lvN), 44⟩, ⟨(G 4), (), 6, (one g2_2 k_ax lvN).sc, 25⟩] := hH
  clear hS hH HS2 HH2
  generalize G 4 = g3_4 at HS3 HH3
  refine end_ rfl ?_
  refine then_ ?_
  refine wp_seq ?_
  refine whole_ ?_
  have hLo : LOk [(0, 6, .val (.agg (FR () 6 ((one g2_2 k_ax lvN).sc)))), (1, 7, .val (.agg (FR () 7 (msc (zS) (one g2_2 k_ax lvN))))), (2, 8, .new 2 (fun g => .slice (some ⟨g, 0, none⟩) (1) (1)))] := lok (by rfl) (by rfl)
  refine part_ (wE := w) (sz := 10) (n := 5) 0 3 [0, 1, 3, 7, 15] [(0, .val (.pointer (some ⟨g1_0, 0, none⟩))), (1, .val (.pointer (some ⟨g3_4, 0, none⟩))), (8, .new 2 (fun g => .slice (some ⟨g, 0, none⟩) (1) (1)))] [(0, 6, .val (.agg (FR () 6 ((one g2_2 k_ax lvN).sc)))), (1, 7, .val (.agg (FR () 7 (msc (zS) (one g2_2 k_ax lvN))))), (2, 8, .new 2 (fun g => .slice (some ⟨g, 0, none⟩) (1) (1)))] [⟨g1_0, none, none, (), 6, lsc [.i .i64 (0), .b (false), .i .i64 (0), .s (ByteArray.empty), .sl (none) (0) (0), .sl (none) (0) (0)], lsc [.i .i64 (0), .b (false), .i .i64 (0), .s (ByteArray.empty), .sl (none) (0) (0), .sl (none) (0) (0)], 25⟩, ⟨g2_2, none, none, (), 7, msc (k_ax) (lvN), msc (k_ax) (lvN), 44⟩, ⟨g3_4, none, none, (), 6, (one g2_2 k_ax lvN).sc, (one g2_2 k_ax lvN).sc, 25⟩, ⟨0, some 2, none, (), 7, msc (zS) (one g2_2 k_ax lvN), msc (zS) (one g2_2 k_ax lvN), 44⟩] rfl rfl (by rfl) HH3 rfl rfl hLo rfl HS3 (slS 0 rfl rfl (slS 1 rfl rfl (slL 2 (d := 2) rfl (trivial)))) ?_ ?_
  · show ∀ i ∈ [0, 1, 2], _
    refine zA (yG 0 2 _ rfl rfl rfl rfl (fun _ _ _ _ => rfl) hLo rfl rfl rfl (by rfl) Tryd.underlying25 (by kernel_rfl) rfl (fun b G hb ho => zG rfl (HS3.get 1 rfl))) ?_
    refine zA (zB 1 _ rfl rfl hLo rfl rfl (fun _ _ _ _ => rfl) (fun b G w hb ho => exec_build rfl (parts2 (rfl) (zC hLo 0 rfl HS3.1 rfl (hb 0 (by rfl)))) (by kernel_rfl))) ?_
    refine zA (zZ 2 3 () 7 44 none _ _ rfl rfl (fun _ _ _ _ => rfl) rfl hLo rfl rfl rfl rfl (by rfl) (fun b G w hb ho => exec_buildSlice rfl (parts1 (zC hLo 1 rfl HS3.1 rfl (hb 1 (by rfl)))) (by kernel_rfl))) ?_
    exact zF
  clear hLo
  intro G a4 w4 hS hH
  have HS4 : Sl a4 10 [(0, .pointer (some ⟨g1_0, 0, none⟩)), (1, .pointer (some ⟨g3_4, 0, none⟩)), (8, .slice (some ⟨(G 2), 0, none⟩) (1) (1))] := hS
  have HH4 : Held w w4 [⟨g1_0, (), 6, lsc [.i .i64 (0), .b (false), .i .i64 (0), .s (ByteArray.empty), .sl (none) (0) (0), .sl (none) (0) (0)], 25⟩, ⟨g2_2, (), 7, msc (k_ax) (lvN), 44⟩, ⟨g3_4, (), 6, (one g2_2 k_ax lvN).sc, 25⟩, ⟨(G 2), (), 7, msc (zS) (one g2_2 k_ax lvN), 44⟩] := hH
  clear hS hH HS3 HH3
  generalize G 2 = g4_2 at HS4 HH4
  have hLo : LOk [(3, 9, .val (.agg (FR () 6 ((lvT g2_2 g4_2).sc))))] := lok (by rfl) (by rfl)
  refine part_ (wE := w) (sz := 10) (n := 5) 3 5 [0, 1, 3, 7, 15] [(0, .val (.pointer (some ⟨g1_0, 0, none⟩))), (1, .val (.pointer (some ⟨g3_4, 0, none⟩)))] [(3, 9, .val (.agg (FR () 6 ((lvT g2_2 g4_2).sc))))] [⟨g1_0, none, some 4, (), 6, lsc [.i .i64 (0), .b (false), .i .i64 (0), .s (ByteArray.empty), .sl (none) (0) (0), .sl (none) (0) (0)], (lvT g2_2 g4_2).sc, 25⟩, ⟨g2_2, none, none, (), 7, msc (k_ax) (lvN), msc (k_ax) (lvN), 44⟩, ⟨g3_4, none, none, (), 6, (one g2_2 k_ax lvN).sc, (one g2_2 k_ax lvN).sc, 25⟩, ⟨g4_2, none, none, (), 7, msc (zS) (one g2_2 k_ax lvN), msc (zS) (one g2_2 k_ax lvN), 44⟩] rfl rfl (by rfl) HH4 rfl rfl hLo rfl HS4 (slS 0 rfl rfl (slS 1 rfl rfl (trivial))) ?_ ?_
  · show ∀ i ∈ [3, 4], _
    refine zA (zB 0 _ rfl rfl hLo rfl rfl (fun _ _ _ _ => rfl) (fun b G w hb ho => exec_build rfl (parts2 (rfl) (zG rfl (HS4.get 2 rfl))) (by kernel_rfl))) ?_
    refine zA (st_store 0 _ rfl rfl rfl rfl rfl (fun _ _ _ _ => rfl) rfl rfl rfl (by rfl) (by kernel_rfl) (fun b G hb ho => zG rfl (HS4.get 0 rfl)) (fun b G hb ho => zC hLo 0 rfl HS4.1 rfl (hb 3 (by rfl)))) ?_
    exact zF
  clear hLo
  intro G a5 w5 hS hH
  have HS5 : Sl a5 10 [(0, .pointer (some ⟨g1_0, 0, none⟩)), (1, .pointer (some ⟨g3_4, 0, none⟩))] := hS
  have HH5 : Held w w5 [⟨g1_0, (), 6, (lvT g2_2 g4_2).sc, 25⟩, ⟨g2_2, (), 7, msc (k_ax) (lvN), 44⟩, ⟨g3_4, (), 6, (one g2_2 k_ax lvN).sc, 25⟩, ⟨g4_2, (), 7, msc (zS) (one g2_2 k_ax lvN), 44⟩] := hH
  clear hS hH HS4 HH4
  refine end_ rfl ?_
  refine then_ ?_
  refine wp_ret ?_
  repeat (first | refine zR ?_ | refine zK ?_)
  exact b_row rfl HS5.2.1 (HS5.get 0 rfl) (HH5.row 0 rfl) Tryd.underlying25 rfl (by kernel_rfl) ⟨⟨g2_2, g4_2, rfl, ret_in (HH5.row 1 rfl) (HH5.row 3 rfl)⟩, HH5.1⟩
theorem alive_calls (w : World) (hTab : Tab w) : Calls Tryd.prog 18 #[] w fun e w' => e = .returned (.bool true) ∧ Below w.heap.size w w' := by
  refine enter_ 24 Tryd.func18 rfl rfl (fun a0 hS => ?_)
  have HS0 : Sl a0 24 [] := hS
  have HH0 : Held w w [] := Held.first w
  clear hS
  refine wp_seq ?_
  have hLo : LOk [(0, 0, .val (.bool false))] := lok (by rfl) (by rfl)
  refine zH (wE := w) (sz := 24) (n := 1) [0] [(0, .val (.bool false))] [(0, 0, .val (.bool false))] [] rfl (by rfl) HH0 rfl rfl hLo rfl HS0 (slL 0 (d := 0) rfl (trivial)) ?_ ?_
  · show ∀ i ∈ [0], _
    refine zA (zB 0 _ rfl rfl hLo rfl rfl (fun _ _ _ _ => rfl) (fun b G w hb ho => zD (.inr rfl) (rfl))) ?_
    exact zF
  clear hLo
  intro G a1 w1 hS hH
  have HS1 : Sl a1 24 [(0, .bool false)] := hS
  have HH1 : Held w w1 [] := hH
  clear hS hH HS0 HH0
  refine then_ ?_
  refine wp_seq ?_
  refine whole_ ?_
  refine cut_call _ rfl rfl rfl rfl Tryd.func14 rfl rfl (args0 ) (levels_calls _) HS1 rfl ?_
  rintro e2 w2 ⟨⟨gl1, hl1, rfl, hin1⟩, hb1⟩
  refine ⟨_, rfl, fun a2 hS => ?_⟩
  have HS3 : Sl a2 24 [(1, .agg (FR () 6 ((lvT gl1 hl1).sc))), (0, .bool false)] := hS
  have HH3 : Held w w2 [] := HH1.call hb1
  clear hS
  have hin1 : In w2 (lvT gl1 hl1) := hin1
  have hTab_4 := hTab.below HH3.1
  have HH4 : Held w2 w2 [] := Held.first w2
  have HS4 : Sl a2 24 [(1, .agg (FR () 6 ((lvT gl1 hl1).sc))), (0, .bool false)] := HS3
  have hLo : LOk [(1, 2, .val (.int .i64 (100))), (2, 3, .val (.bool true)), (3, 4, .val (.bool true))] := lok (by rfl) (by rfl)
  refine part_ (wE := w2) (sz := 24) (n := 24) 1 4 [0, 1, 3, 7, 15, 31, 63, 127, 255, 511, 1023, 2047, 4095, 8191, 16383, 32767, 65535, 131071, 262143, 524287, 1048575, 2097151, 4194303, 8388607] [(0, .val (.bool false)), (4, .val (.bool true))] [(1, 2, .val (.int .i64 (100))), (2, 3, .val (.bool true)), (3, 4, .val (.bool true))] [] rfl rfl (by rfl) HH4 rfl rfl hLo rfl HS4 (slS 1 rfl rfl (slL 2 (d := 3) rfl (trivial))) ?_ ?_
  · show ∀ i ∈ [1, 2, 3], _
    refine zA (yB 0 _ #[.agg (FR () 6 ((lvT gl1 hl1).sc)), .string (ByteArray.empty), .string (k_ax)] rfl rfl rfl (fun _ _ _ _ => rfl) hLo rfl rfl Tryd.func13 rfl rfl (fun b G hb ho => args3 (zG rfl (HS4.get 0 rfl)) (rfl) (rfl)) (fun w hw => (by have hq := user_calls ByteArray.empty k_ax (hin1.below hw) (Rises.lvT _ _) (hTab_4.below hw); rw [lv_user1 gl1 hl1] at hq; exact hq))) ?_
    refine zA (zB 1 _ rfl rfl hLo rfl rfl (fun _ _ _ _ => rfl) (fun b G w hb ho => zI rfl (zC hLo 0 rfl HS4.1 rfl (hb 1 (by rfl))) (rfl) (rb_eql (by decide) _ _ _))) ?_
    refine zA (zB 2 _ rfl rfl hLo rfl rfl (fun _ _ _ _ => rfl) (fun b G w hb ho => zD (.inl rfl) (zC hLo 1 rfl HS4.1 rfl (hb 2 (by rfl))))) ?_
    exact zF
  clear hLo
  intro G a5 w5 hS hH
  have HS5 : Sl a5 24 [(0, .bool false), (4, .bool true)] := hS
  have HH5 : Held w2 w5 [] := hH
  clear hS hH HS4 HH4
  refine cut_call _ rfl rfl rfl (zE (L := []) (b := fun _ => false) (G := fun _ => 0) rfl rfl rfl HS5.1 rfl (HS5.get 1 rfl) rfl) Tryd.func14 rfl rfl (args0 ) (levels_calls _) HS5 rfl ?_
  rintro e6 w6 ⟨⟨gl5, hl5, rfl, hin5⟩, hb5⟩
  refine ⟨_, rfl, fun a6 hS => ?_⟩
  have HS7 : Sl a6 24 [(5, .agg (FR () 6 ((lvT gl5 hl5).sc))), (0, .bool false), (4, .bool true)] := hS
  have HH7 : Held w2 w6 [] := HH5.call hb5
  clear hS
  have hin5 : In w6 (lvT gl5 hl5) := hin5
  have hTab_8 := hTab_4.below HH7.1
  have lv_8 := hin1.below HH7.1
  have HH8 : Held w6 w6 [] := Held.first w6
  have HS8 : Sl a6 24 [(5, .agg (FR () 6 ((lvT gl5 hl5).sc))), (0, .bool false), (4, .bool true)] := HS7
  have hLo : LOk [(5, 6, .val (.int .i64 (0))), (6, 7, .val (.bool true)), (7, 8, .val (.bool true)), (8, 9, .val (.bool true))] := lok (by rfl) (by rfl)
  refine part_ (wE := w6) (sz := 24) (n := 24) 5 9 [0, 1, 3, 7, 15, 31, 63, 127, 255, 511, 1023, 2047, 4095, 8191, 16383, 32767, 65535, 131071, 262143, 524287, 1048575, 2097151, 4194303, 8388607] [(0, .val (.bool false)), (9, .val (.bool true))] [(5, 6, .val (.int .i64 (0))), (6, 7, .val (.bool true)), (7, 8, .val (.bool true)), (8, 9, .val (.bool true))] [] rfl rfl (by rfl) HH8 rfl rfl hLo rfl HS8 (slS 1 rfl rfl (slL 3 (d := 8) rfl (trivial))) ?_ ?_
  · show ∀ i ∈ [5, 6, 7, 8], _
    refine zA (yB 0 _ #[.agg (FR () 6 ((lvT gl5 hl5).sc)), .string (k_bx), .string (k_bx)] rfl rfl rfl (fun b G hb ho => zE rfl rfl rfl HS8.1 rfl (zG rfl (HS8.get 2 rfl)) rfl) hLo rfl rfl Tryd.func13 rfl rfl (fun b G hb ho => args3 (zG rfl (HS8.get 0 rfl)) (rfl) (rfl)) (fun w hw => (by have hq := user_calls k_bx k_bx (hin5.below hw) (Rises.lvT _ _) (hTab_8.below hw); rw [lv_user2 gl5 hl5] at hq; exact hq))) ?_
    refine zA (zB 1 _ rfl rfl hLo rfl rfl (fun b G hb ho => zE rfl rfl rfl HS8.1 rfl (zG rfl (HS8.get 2 rfl)) rfl) (fun b G w hb ho => zI rfl (zC hLo 0 rfl HS8.1 rfl (hb 5 (by rfl))) (rfl) (rb_eql (by decide) _ _ _))) ?_
    refine zA (zB 2 _ rfl rfl hLo rfl rfl (fun _ _ _ _ => rfl) (fun b G w hb ho => zL rfl (zG rfl (HS8.get 2 rfl)) (zC hLo 1 rfl HS8.1 rfl (hb 6 (by rfl))))) ?_
    refine zA (zB 3 _ rfl rfl hLo rfl rfl (fun _ _ _ _ => rfl) (fun b G w hb ho => zD (.inl rfl) (zC hLo 2 rfl HS8.1 rfl (hb 7 (by rfl))))) ?_
    exact zF
  clear hLo
  intro G a9 w9 hS hH
  have HS9 : Sl a9 24 [(0, .bool false), (9, .bool true)] := hS
  have HH9 : Held w6 w9 [] := hH
  clear hS hH HS8 HH8
  refine cut_call _ rfl rfl rfl (zE (L := []) (b := fun _ => false) (G := fun _ => 0) rfl rfl rfl HS9.1 rfl (HS9.get 1 rfl) rfl) Tryd.func14 rfl rfl (args0 ) (levels_calls _) HS9 rfl ?_
  rintro e10 w10 ⟨⟨gl9, hl9, rfl, hin9⟩, hb9⟩
  refine ⟨_, rfl, fun a10 hS => ?_⟩
  have HS11 : Sl a10 24 [(10, .agg (FR () 6 ((lvT gl9 hl9).sc))), (0, .bool false), (9, .bool true)] := hS
  have HH11 : Held w6 w10 [] := HH9.call hb9
  clear hS
  have hin9 : In w10 (lvT gl9 hl9) := hin9
  have hTab_12 := hTab_8.below HH11.1
  have lv_12 := hin5.below HH11.1
  have HH12 : Held w10 w10 [] := Held.first w10
  have HS12 : Sl a10 24 [(10, .agg (FR () 6 ((lvT gl9 hl9).sc))), (0, .bool false), (9, .bool true)] := HS11
  have hLo : LOk [(10, 11, .val (.int .i64 (50))), (11, 12, .val (.bool true)), (12, 13, .val (.bool true)), (13, 14, .val (.bool true))] := lok (by rfl) (by rfl)
  refine part_ (wE := w10) (sz := 24) (n := 24) 10 14 [0, 1, 3, 7, 15, 31, 63, 127, 255, 511, 1023, 2047, 4095, 8191, 16383, 32767, 65535, 131071, 262143, 524287, 1048575, 2097151, 4194303, 8388607] [(0, .val (.bool false)), (14, .val (.bool true))] [(10, 11, .val (.int .i64 (50))), (11, 12, .val (.bool true)), (12, 13, .val (.bool true)), (13, 14, .val (.bool true))] [] rfl rfl (by rfl) HH12 rfl rfl hLo rfl HS12 (slS 1 rfl rfl (slL 3 (d := 13) rfl (trivial))) ?_ ?_
  · show ∀ i ∈ [10, 11, 12, 13], _
    refine zA (yB 0 _ #[.agg (FR () 6 ((lvT gl9 hl9).sc)), .string (k_m), .bool true] rfl rfl rfl (fun b G hb ho => zE rfl rfl rfl HS12.1 rfl (zG rfl (HS12.get 2 rfl)) rfl) hLo rfl rfl Tryd.func16 rfl rfl (fun b G hb ho => args3 (zG rfl (HS12.get 0 rfl)) (rfl) (rfl)) (fun w hw => (by have hq := send_calls k_m true (hin9.below hw) (Rises.lvT _ _) (hTab_12.below hw); rw [lv_send1 gl9 hl9] at hq; exact hq))) ?_
    refine zA (zB 1 _ rfl rfl hLo rfl rfl (fun b G hb ho => zE rfl rfl rfl HS12.1 rfl (zG rfl (HS12.get 2 rfl)) rfl) (fun b G w hb ho => zI rfl (zC hLo 0 rfl HS12.1 rfl (hb 10 (by rfl))) (rfl) (rb_eql (by decide) _ _ _))) ?_
    refine zA (zB 2 _ rfl rfl hLo rfl rfl (fun _ _ _ _ => rfl) (fun b G w hb ho => zL rfl (zG rfl (HS12.get 2 rfl)) (zC hLo 1 rfl HS12.1 rfl (hb 11 (by rfl))))) ?_
    refine zA (zB 3 _ rfl rfl hLo rfl rfl (fun _ _ _ _ => rfl) (fun b G w hb ho => zD (.inl rfl) (zC hLo 2 rfl HS12.1 rfl (hb 12 (by rfl))))) ?_
    exact zF
  clear hLo
  intro G a13 w13 hS hH
  have HS13 : Sl a13 24 [(0, .bool false), (14, .bool true)] := hS
  have HH13 : Held w10 w13 [] := hH
  clear hS hH HS12 HH12
  refine cut_call _ rfl rfl rfl (zE (L := []) (b := fun _ => false) (G := fun _ => 0) rfl rfl rfl HS13.1 rfl (HS13.get 1 rfl) rfl) Tryd.func14 rfl rfl (args0 ) (levels_calls _) HS13 rfl ?_
  rintro e14 w14 ⟨⟨gl13, hl13, rfl, hin13⟩, hb13⟩
  refine ⟨_, rfl, fun a14 hS => ?_⟩
  have HS15 : Sl a14 24 [(15, .agg (FR () 6 ((lvT gl13 hl13).sc))), (0, .bool false), (14, .bool true)] := hS
  have HH15 : Held w10 w14 [] := HH13.call hb13
  clear hS
  have hin13 : In w14 (lvT gl13 hl13) := hin13
  have hTab_16 := hTab_12.below HH15.1
  have lv_16 := hin9.below HH15.1
  have HH16 : Held w14 w14 [] := Held.first w14
  have HS16 : Sl a14 24 [(15, .agg (FR () 6 ((lvT gl13 hl13).sc))), (0, .bool false), (14, .bool true)] := HS15
  have hLo : LOk [(15, 16, .val (.int .i64 (0))), (16, 17, .val (.bool true)), (17, 18, .val (.bool true)), (18, 19, .val (.bool true)), (19, 20, .val (.agg (FR () 6 ((T.zero).sc)))), (20, 21, .val (.int .i64 (100))), (21, 22, .val (.bool true)), (22, 23, .val (.bool true)), (23, 0, .val (.bool true))] := lok (by rfl) (by rfl)
  refine part_ (wE := w14) (sz := 24) (n := 24) 15 24 [0, 1, 3, 7, 15, 31, 63, 127, 255, 511, 1023, 2047, 4095, 8191, 16383, 32767, 65535, 131071, 262143, 524287, 1048575, 2097151, 4194303, 8388607] [(0, .val (.bool true))] [(15, 16, .val (.int .i64 (0))), (16, 17, .val (.bool true)), (17, 18, .val (.bool true)), (18, 19, .val (.bool true)), (19, 20, .val (.agg (FR () 6 ((T.zero).sc)))), (20, 21, .val (.int .i64 (100))), (21, 22, .val (.bool true)), (22, 23, .val (.bool true)), (23, 0, .val (.bool true))] [] rfl rfl (by rfl) HH16 rfl rfl hLo rfl HS16 (slL 8 (d := 23) rfl (trivial)) ?_ ?_
  · show ∀ i ∈ [15, 16, 17, 18, 19, 20, 21, 22, 23], _
    refine zA (yB 0 _ #[.agg (FR () 6 ((lvT gl13 hl13).sc)), .string (k_m), .bool false] rfl rfl rfl (fun b G hb ho => zE rfl rfl rfl HS16.1 rfl (zG rfl (HS16.get 2 rfl)) rfl) hLo rfl rfl Tryd.func16 rfl rfl (fun b G hb ho => args3 (zG rfl (HS16.get 0 rfl)) (rfl) (rfl)) (fun w hw => (by have hq := send_calls k_m false (hin13.below hw) (Rises.lvT _ _) (hTab_16.below hw); rw [lv_send2 gl13 hl13] at hq; exact hq))) ?_
    refine zA (zB 1 _ rfl rfl hLo rfl rfl (fun b G hb ho => zE rfl rfl rfl HS16.1 rfl (zG rfl (HS16.get 2 rfl)) rfl) (fun b G w hb ho => zI rfl (zC hLo 0 rfl HS16.1 rfl (hb 15 (by rfl))) (rfl) (rb_eql (by decide) _ _ _))) ?_
    refine zA (zB 2 _ rfl rfl hLo rfl rfl (fun _ _ _ _ => rfl) (fun b G w hb ho => zL rfl (zG rfl (HS16.get 2 rfl)) (zC hLo 1 rfl HS16.1 rfl (hb 16 (by rfl))))) ?_
    refine zA (zB 3 _ rfl rfl hLo rfl rfl (fun _ _ _ _ => rfl) (fun b G w hb ho => zD (.inl rfl) (zC hLo 2 rfl HS16.1 rfl (hb 17 (by rfl))))) ?_
    refine zA (zB 4 _ rfl rfl hLo rfl rfl (fun b G hb ho => zE rfl rfl rfl HS16.1 rfl (zC hLo 3 rfl HS16.1 rfl (hb 18 (by rfl))) rfl) (fun b G w hb ho => exec_build rfl (parts0 ) (by kernel_rfl))) ?_
    refine zA (yB 5 _ #[.agg (FR () 6 ((T.zero).sc)), .string (k_cx), .string (k_cx)] rfl rfl rfl (fun b G hb ho => zE rfl rfl rfl HS16.1 rfl (zC hLo 3 rfl HS16.1 rfl (hb 18 (by rfl))) rfl) hLo rfl rfl Tryd.func13 rfl rfl (fun b G hb ho => args3 (zC hLo 4 rfl HS16.1 rfl (hb 19 (by rfl))) (rfl) (rfl)) (fun w hw => (by have hq := user_calls (t := T.zero) k_cx k_cx (In.zero w) Rises.zero (hTab_16.below hw); rw [no_user] at hq; exact hq))) ?_
    refine zA (zB 6 _ rfl rfl hLo rfl rfl (fun b G hb ho => zE rfl rfl rfl HS16.1 rfl (zC hLo 3 rfl HS16.1 rfl (hb 18 (by rfl))) rfl) (fun b G w hb ho => zI rfl (zC hLo 5 rfl HS16.1 rfl (hb 20 (by rfl))) (rfl) (rb_eql (by decide) _ _ _))) ?_
    refine zA (zB 7 _ rfl rfl hLo rfl rfl (fun _ _ _ _ => rfl) (fun b G w hb ho => zL rfl (zC hLo 3 rfl HS16.1 rfl (hb 18 (by rfl))) (zC hLo 6 rfl HS16.1 rfl (hb 21 (by rfl))))) ?_
    refine zA (zB 8 _ rfl rfl hLo rfl rfl (fun _ _ _ _ => rfl) (fun b G w hb ho => zD (.inr rfl) (zC hLo 7 rfl HS16.1 rfl (hb 22 (by rfl))))) ?_
    exact zF
  clear hLo
  intro G a17 w17 hS hH
  have HS17 : Sl a17 24 [(0, .bool true)] := hS
  have HH17 : Held w14 w17 [] := hH
  clear hS hH HS16 HH16
  refine end_ rfl ?_
  refine then_ ?_
  refine wp_ret ?_
  repeat (first | refine zR ?_ | refine zK ?_)
  have HH18 := Held.back HH15 HH17
  have HH19 := Held.back HH11 HH18
  have HH20 := Held.back HH7 HH19
  have HH21 := Held.back HH3 HH20
  exact b_tmp rfl HS17.2.1 (HS17.get 0 rfl) ⟨rfl, HH21.1⟩
end Go.Proofs.YtjpiofbedglagaaDoor.P
end

section
namespace Go.Proofs.YtjpiofbedglagaaDoor.P
set_option linter.unusedVariables false
set_option linter.unusedSimpArgs false
def catK (a b : T) (i : Nat) : ByteArray := if i < a.ml then a.key i else b.key (i - a.ml)
def catM (a b : T) (i : Nat) : T := if i < a.ml then a.mem i else b.mem (i - a.ml)
def hasB (l : List ByteArray) (key : ByteArray) : Bool := (look (fun i => l.getD i ByteArray.empty) key l.length).isSome
def outL (a b : T) : Nat → List ByteArray
  | 0 => []
  | i + 1 => if differs a b (catK a b i) && !hasB (outL a b i) (catK a b i) then outL a b i ++ [catK a b i] else outL a b i
theorem outL_yes {a b : T} {i : Nat} (h : differs a b (catK a b i) = true) (h2 : hasB (outL a b i) (catK a b i) = false) : outL a b (i + 1) = outL a b i ++ [catK a b i] := by
  rw [outL, h, h2]; rfl
theorem outL_no1 {a b : T} {i : Nat} (h : differs a b (catK a b i) = false) : outL a b (i + 1) = outL a b i := by
  rw [outL, h]; rfl
theorem outL_no2 {a b : T} {i : Nat} (h : hasB (outL a b i) (catK a b i) = true) : outL a b (i + 1) = outL a b i := by
  rw [outL, h, Bool.not_true, Bool.and_false]; rfl
theorem outL_len {a b : T} : ∀ i, (outL a b i).length ≤ i
  | 0 => Nat.le_refl _
  | i + 1 => by
    unfold outL
    have := outL_len (a := a) (b := b) i
    split
    · rw [List.length_append]; simp; exact this
    · omega
def TN (i : Nat) : ByteArray := [zO, k_notifications, zS].getD i ByteArray.empty
def nameOk (a b : T) (mine : Int) (i : Nat) : Bool := !(differs a b (NM i) && !mayB a b (NM i) mine)
def keyBad (x y : T) (user : ByteArray) (mine : Int) (t key : ByteArray) : Bool := !mayB x y key mine || decide (t = zS) && !decide (key = user) && (x.tell key).2 && decide (mine ≤ (x.tell key).1)
def outK (x y : T) (k : Nat) : ByteArray := (outL x y (x.ml + y.ml)).getD k ByteArray.empty
def tabOk (a b : T) (user : ByteArray) (mine : Int) (j : Nat) : Bool :=
  allB (fun k => !keyBad (a.tbl (TN j)) (b.tbl (TN j)) user mine (TN j) (outK (a.tbl (TN j)) (b.tbl (TN j)) k)) (outL (a.tbl (TN j)) (b.tbl (TN j)) ((a.tbl (TN j)).ml + (b.tbl (TN j)).ml)).length
def chgB (a b : T) (user : ByteArray) (mine : Int) : Bool := allB (nameOk a b mine) 7 && allB (tabOk a b user mine) 3
theorem chg_no1 {a b : T} {user : ByteArray} {mine : Int} {i : Nat} (hi : i < 7) (h : nameOk a b mine i = false) : chgB a b user mine = false := by
  unfold chgB; rw [allB_no hi h]; rfl
theorem chg_no2 {a b : T} {user : ByteArray} {mine : Int} {j : Nat} (hj : j < 3) (h : tabOk a b user mine j = false) : chgB a b user mine = false := by
  unfold chgB; rw [allB_no hj h, Bool.and_false]
theorem chg_yes {a b : T} {user : ByteArray} {mine : Int} (h : allB (nameOk a b mine) 7 = true) (h2 : allB (tabOk a b user mine) 3 = true) : chgB a b user mine = true := by
  unfold chgB; rw [h, h2]; rfl
end Go.Proofs.YtjpiofbedglagaaDoor.P
end

section
namespace Go.Proofs.YtjpiofbedglagaaDoor.P
set_option linter.unusedVariables false
set_option linter.unusedSimpArgs false
open Go.RowKit Go.ChangeShapes Go.WideShapes Go.Proofs.YtjpiofbedglagaaDoorW.PrintWords Go.Proofs.YtjpiofbedglagaaDoorW.PrintLast Go.Proofs.YtjpiofbedglagaaDoorW.PrintMore
def ixS (K : Nat → ByteArray) (key : ByteArray) (n : Nat) : Int := match look K key n with
  | some k => (k : Int)
  | none => -1
theorem ixS_some {K : Nat → ByteArray} {key : ByteArray} {n k : Nat} (h : look K key n = some k) : ixS K key n = (k : Int) := by unfold ixS; rw [h]
theorem ixS_none {K : Nat → ByteArray} {key : ByteArray} {n : Nat} (h : look K key n = none) : ixS K key n = -1 := by unfold ixS; rw [h]
theorem ixS_is {K : Nat → ByteArray} {key : ByteArray} {n : Nat} {r : Bool} (h : decide ((0 : Int) ≤ ixS K key n) = r) : r = (look K key n).isSome := by
  subst h
  cases e : look K key n with
  | some k => rw [ixS_some e]; simp
  | none => rw [ixS_none e]; rfl
theorem look_hit3 {K : Nat → ByteArray} {key : ByteArray} {n i : Nat} (hi : i < n) (hl : look K key i = none) (he : decide (key = K i) = true) : look K key n = some i := look_is hi (of_decide_eq_true he).symm (look_none.1 hl)
theorem look_miss3 {K : Nat → ByteArray} {key : ByteArray} {i : Nat} (hl : look K key i = none) (he : decide (key = K i) = false) : look K key (i + 1) = none := by
  unfold look; rw [hl]; simp only [if_neg (fun e => of_decide_eq_false he (Eq.symm e))]
theorem tn_row : ∀ i, i < 3 → lsc [.s zO, .s k_notifications, .s zS] i = .s (TN i) := by
  intro i hi
  have h : i = 0 ∨ i = 1 ∨ i = 2 := by omega
  rcases h with rfl | rfl | rfl <;> rfl
theorem may_ret {b : Bool} {a c : T} {key : ByteArray} {mine : Int} (h : mayB a c key mine = b) : Ending.returned (.bool b) = .returned (.bool (mayB a c key mine)) := by rw [h]
theorem ixs_calls {w : World} {oa : Option Addr} {n c : Nat} {K : Nat → ByteArray} (key : ByteArray) (hK : StrsAt w oa n K) (hn : n ≤ 1099511627776) : Calls Tryd.prog 44 #[.slice (oa) (n) (c), .string (key)] w fun e w' => e = .returned (.int .i64 (ixS K key n)) ∧ Below w.heap.size w w' := by
  refine enter_ 19 Tryd.func44 rfl rfl (fun a0 hS => ?_)
  have HS0 : Sl a0 19 [(0, .slice (oa) (n) (c)), (1, .string (key))] := hS
  have HH0 : Held w w [] := Held.first w
  clear hS
  refine wp_seq ?_
  have hLo : LOk [(0, 4, .val (.int .i64 (0)))] := lok (by rfl) (by rfl)
  refine zH (wE := w) (sz := 19) (n := 1) [0] [(0, .val (.slice (oa) (n) (c))), (1, .val (.string (key))), (4, .val (.int .i64 (0)))] [(0, 4, .val (.int .i64 (0)))] [] rfl (by rfl) HH0 rfl rfl hLo rfl HS0 (slS 0 rfl rfl (slS 1 rfl rfl (slL 0 (d := 0) rfl (trivial)))) ?_ ?_
  · show ∀ i ∈ [0], _
    refine zA (zB 0 _ rfl rfl hLo rfl rfl (fun _ _ _ _ => rfl) (fun b G w hb ho => zD (.inr rfl) (rfl))) ?_
    exact zF
  clear hLo
  intro G a1 w1 hS hH
  have HS1 : Sl a1 19 [(0, .slice (oa) (n) (c)), (1, .string (key)), (4, .int .i64 (0))] := hS
  have HH1 : Held w w1 [] := hH
  clear hS hH HS0 HH0
  refine then_ ?_
  refine wp_seq ?_
  refine wp_seq ?_
  have hLo : LOk [(0, 6, .val (.slice (oa) (n) (c))), (1, 7, .val (.int .i64 ((n : Int)))), (2, 8, .val (.int .i64 (0)))] := lok (by rfl) (by rfl)
  refine zH (wE := w) (sz := 19) (n := 3) [0, 1, 3] [(0, .val (.slice (oa) (n) (c))), (1, .val (.string (key))), (4, .val (.int .i64 (0))), (7, .val (.int .i64 ((n : Int)))), (8, .val (.int .i64 (0)))] [(0, 6, .val (.slice (oa) (n) (c))), (1, 7, .val (.int .i64 ((n : Int)))), (2, 8, .val (.int .i64 (0)))] [] rfl (by rfl) HH1 rfl rfl hLo rfl HS1 (slS 0 rfl rfl (slS 1 rfl rfl (slS 2 rfl rfl (slL 1 (d := 1) rfl (slL 2 (d := 2) rfl (trivial)))))) ?_ ?_
  · show ∀ i ∈ [0, 1, 2], _
    refine zA (zB 0 _ rfl rfl hLo rfl rfl (fun _ _ _ _ => rfl) (fun b G w hb ho => zD (.inl rfl) (zG rfl (HS1.get 0 rfl)))) ?_
    refine zA (zB 1 _ rfl rfl hLo rfl rfl (fun _ _ _ _ => rfl) (fun b G w hb ho => yF Tryd.underlying54 rfl (zC hLo 0 rfl HS1.1 rfl (hb 0 (by rfl))))) ?_
    refine zA (zB 2 _ rfl rfl hLo rfl rfl (fun _ _ _ _ => rfl) (fun b G w hb ho => zD (.inl rfl) (rfl))) ?_
    exact zF
  clear hLo
  intro G a2 w2 hS hH
  have HS2 : Sl a2 19 [(0, .slice (oa) (n) (c)), (1, .string (key)), (4, .int .i64 (0)), (7, .int .i64 ((n : Int))), (8, .int .i64 (0))] := hS
  have HH2 : Held w w2 [] := hH
  clear hS hH HS1 HH1
  refine then_ ?_
  refine wp_block ?_
  have hSq0 : Sl _ 19 [(0, .slice (oa) (n) (c)), (1, .string (key)), (7, .int .i64 ((n : Int))), (8, .int .i64 (0))] := yA HS2 [0, 1, 3, 4] (by rfl)
  refine wp_loop (fun a w' => ∃ i : Nat, i ≤ n ∧ look K key i = none ∧ Sl a 19 [(0, .slice (oa) (n) (c)), (1, .string (key)), (7, .int .i64 ((n : Int))), (8, .int .i64 ((i : Int)))] ∧ Held w w' []) (fun a w' => n - (intOf (a.eval (.tmp 8))).toNat) ⟨0, Nat.zero_le _, rfl, hSq0, HH2⟩ ?_
  clear hSq0 HS2 HH2
  rintro aq0 wq0 ⟨i, hi, hL, HSq0, HHq0⟩
  have hm : (intOf (aq0.eval (.tmp 8))).toNat = i := by rw [(HSq0.get 3 rfl)]; rfl
  rw [hm]
  clear hm
  obtain ⟨r1, hr1⟩ : ∃ r : Bool, (decide (((i : Int) : Int) < (n : Int))) = r := ⟨_, rfl⟩
  refine wp_seq ?_
  have hLo : LOk [(0, 9, .val (.bool r1))] := lok (by rfl) (by rfl)
  refine zH (wE := w) (sz := 19) (n := 1) [0] [(0, .val (.slice (oa) (n) (c))), (1, .val (.string (key))), (7, .val (.int .i64 ((n : Int)))), (8, .val (.int .i64 ((i : Int)))), (9, .val (.bool r1))] [(0, 9, .val (.bool r1))] [] rfl (by rfl) HHq0 rfl rfl hLo rfl HSq0 (slS 0 rfl rfl (slS 1 rfl rfl (slS 2 rfl rfl (slS 3 rfl rfl (slL 0 (d := 0) rfl (trivial)))))) ?_ ?_
  · show ∀ i ∈ [0], _
    refine zA (zB 0 _ rfl rfl hLo rfl rfl (fun _ _ _ _ => rfl) (fun b G w hb ho => zI rfl (zG rfl (HSq0.get 3 rfl)) (zG rfl (HSq0.get 2 rfl)) (rb_lss hr1 _ _ _))) ?_
    exact zF
  clear hLo
  intro G a3 w3 hS hH
  have HS3 : Sl a3 19 [(0, .slice (oa) (n) (c)), (1, .string (key)), (7, .int .i64 ((n : Int))), (8, .int .i64 ((i : Int))), (9, .bool r1)] := hS
  have HH3 : Held w w3 [] := hH
  clear hS hH HSq0 HHq0
  refine then_ ?_
  refine wp_seq ?_
  cases r1
  · skip
    have hend : i = n := by have := of_decide_eq_false hr1; omega
    rw [hend] at hL
    refine wp_cond_false (HS3.get 4 rfl) ?_
    refine wp_exit ?_
    refine zY ?_
    refine zY ?_
    refine yE ?_
    refine then_ ?_
    refine wp_seq ?_
    have hLo : LOk [(0, 4, .val (.int .i64 (-1)))] := lok (by rfl) (by rfl)
    refine zH (wE := w) (sz := 19) (n := 1) [0] [(0, .val (.slice (oa) (n) (c))), (1, .val (.string (key))), (7, .val (.int .i64 ((n : Int)))), (8, .val (.int .i64 ((i : Int)))), (9, .val (.bool false)), (4, .val (.int .i64 (-1)))] [(0, 4, .val (.int .i64 (-1)))] [] rfl (by rfl) HH3 rfl rfl hLo rfl HS3 (slS 0 rfl rfl (slS 1 rfl rfl (slS 2 rfl rfl (slS 3 rfl rfl (slS 4 rfl rfl (slL 0 (d := 0) rfl (trivial))))))) ?_ ?_
    · show ∀ i ∈ [0], _
      refine zA (zB 0 _ rfl rfl hLo rfl rfl (fun _ _ _ _ => rfl) (fun b G w hb ho => zD (.inr rfl) (rfl))) ?_
      exact zF
    clear hLo
    intro G a4 w4 hS hH
    have HS4 : Sl a4 19 [(0, .slice (oa) (n) (c)), (1, .string (key)), (7, .int .i64 ((n : Int))), (8, .int .i64 ((i : Int))), (9, .bool false), (4, .int .i64 (-1))] := hS
    have HH4 : Held w w4 [] := hH
    clear hS hH HS3 HH3
    refine then_ ?_
    refine wp_ret ?_
    repeat (first | refine zR ?_ | refine zK ?_)
    exact b_tmp rfl HS4.2.1 (HS4.get 5 rfl) ⟨by rw [ixS_none hL], HH4.1⟩
  · skip
    have hlt : i < n := by have := of_decide_eq_true hr1; omega
    refine wp_cond_true (HS3.get 4 rfl) ?_
    refine wp_skip ?_
    refine then_ ?_
    refine wp_seq ?_
    refine wp_block ?_
    refine wp_seq ?_
    have hLo : LOk [(0, 10, .val (.int .i64 ((i : Int)))), (1, 5, .val (.int .i64 ((i : Int))))] := lok (by rfl) (by rfl)
    refine zH (wE := w) (sz := 19) (n := 2) [0, 1] [(0, .val (.slice (oa) (n) (c))), (1, .val (.string (key))), (7, .val (.int .i64 ((n : Int)))), (8, .val (.int .i64 ((i : Int)))), (9, .val (.bool true)), (5, .val (.int .i64 ((i : Int))))] [(0, 10, .val (.int .i64 ((i : Int)))), (1, 5, .val (.int .i64 ((i : Int))))] [] rfl (by rfl) HH3 rfl rfl hLo rfl HS3 (slS 0 rfl rfl (slS 1 rfl rfl (slS 2 rfl rfl (slS 3 rfl rfl (slS 4 rfl rfl (slL 1 (d := 1) rfl (trivial))))))) ?_ ?_
    · show ∀ i ∈ [0, 1], _
      refine zA (zB 0 _ rfl rfl hLo rfl rfl (fun _ _ _ _ => rfl) (fun b G w hb ho => zD (.inl rfl) (zG rfl (HS3.get 3 rfl)))) ?_
      refine zA (zB 1 _ rfl rfl hLo rfl rfl (fun _ _ _ _ => rfl) (fun b G w hb ho => zD (.inr rfl) (zC hLo 0 rfl HS3.1 rfl (hb 0 (by rfl))))) ?_
      exact zF
    clear hLo
    intro G a5 w5 hS hH
    have HS5 : Sl a5 19 [(0, .slice (oa) (n) (c)), (1, .string (key)), (7, .int .i64 ((n : Int))), (8, .int .i64 ((i : Int))), (9, .bool true), (5, .int .i64 ((i : Int)))] := hS
    have HH5 : Held w w5 [] := hH
    clear hS hH HS3 HH3
    refine then_ ?_
    obtain ⟨x1, hx1, hc1⟩ := hK i hlt
    obtain ⟨r2, hr2⟩ : ∃ r : Bool, (decide ((key : ByteArray) = K (i))) = r := ⟨_, rfl⟩
    refine wp_seq ?_
    have hLo : LOk [(0, 11, .val (.string (key))), (1, 12, .val (.slice (oa) (n) (c))), (2, 13, .val (.int .i64 ((i : Int)))), (3, 14, .val (.pointer (some (x1.add ((i) * 1))))), (4, 15, .val (.string (K (i)))), (5, 16, .val (.bool r2))] := lok (by rfl) (by rfl)
    refine zH (wE := w) (sz := 19) (n := 6) [0, 1, 3, 7, 15, 31] [(0, .val (.slice (oa) (n) (c))), (1, .val (.string (key))), (7, .val (.int .i64 ((n : Int)))), (8, .val (.int .i64 ((i : Int)))), (9, .val (.bool true)), (5, .val (.int .i64 ((i : Int)))), (16, .val (.bool r2))] [(0, 11, .val (.string (key))), (1, 12, .val (.slice (oa) (n) (c))), (2, 13, .val (.int .i64 ((i : Int)))), (3, 14, .val (.pointer (some (x1.add ((i) * 1))))), (4, 15, .val (.string (K (i)))), (5, 16, .val (.bool r2))] [] rfl (by rfl) HH5 rfl rfl hLo rfl HS5 (slS 0 rfl rfl (slS 1 rfl rfl (slS 2 rfl rfl (slS 3 rfl rfl (slS 4 rfl rfl (slS 5 rfl rfl (slL 5 (d := 5) rfl (trivial)))))))) ?_ ?_
    · show ∀ i ∈ [0, 1, 2, 3, 4, 5], _
      refine zA (zB 0 _ rfl rfl hLo rfl rfl (fun _ _ _ _ => rfl) (fun b G w hb ho => zD (.inl rfl) (zG rfl (HS5.get 1 rfl)))) ?_
      refine zA (zB 1 _ rfl rfl hLo rfl rfl (fun _ _ _ _ => rfl) (fun b G w hb ho => zD (.inl rfl) (zG rfl (HS5.get 0 rfl)))) ?_
      refine zA (zB 2 _ rfl rfl hLo rfl rfl (fun _ _ _ _ => rfl) (fun b G w hb ho => zD (.inl rfl) (zG rfl (HS5.get 5 rfl)))) ?_
      refine zA (zB 3 _ rfl rfl hLo rfl rfl (fun _ _ _ _ => rfl) (fun b G w hb ho => zU rfl (zC hLo 1 rfl HS5.1 rfl (hb 1 (by rfl))) (zC hLo 2 rfl HS5.1 rfl (hb 2 (by rfl))) (index_sl Tryd.underlying54 (by kernel_rfl) hx1 hlt _))) ?_
      refine zA (st_at1 4 (x1.add ((i) * 1)) _ rfl rfl rfl (fun _ _ _ _ => rfl) hLo rfl rfl Tryd.underlying9 rfl (hc1) (fun b G hb ho => zC hLo 3 rfl HS5.1 rfl (hb 3 (by rfl)))) ?_
      refine zA (zB 5 _ rfl rfl hLo rfl rfl (fun _ _ _ _ => rfl) (fun b G w hb ho => zI rfl (zC hLo 0 rfl HS5.1 rfl (hb 0 (by rfl))) (zC hLo 4 rfl HS5.1 rfl (hb 4 (by rfl))) (rb_seql hr2 _ _ _))) ?_
      exact zF
    clear hLo
    intro G a6 w6 hS hH
    have HS6 : Sl a6 19 [(0, .slice (oa) (n) (c)), (1, .string (key)), (7, .int .i64 ((n : Int))), (8, .int .i64 ((i : Int))), (9, .bool true), (5, .int .i64 ((i : Int))), (16, .bool r2)] := hS
    have HH6 : Held w w6 [] := hH
    clear hS hH HS5 HH5
    refine then_ ?_
    cases r2
    · skip
      refine wp_cond_false (HS6.get 6 rfl) ?_
      refine wp_skip ?_
      refine zQ ?_
      refine then_ ?_
      have hLo : LOk [(0, 18, .val (.int .i64 (((i + 1 : Nat) : Int)))), (1, 8, .val (.int .i64 (((i + 1 : Nat) : Int))))] := lok (by rfl) (by rfl)
      refine zH (wE := w) (sz := 19) (n := 2) [0, 1] [(0, .val (.slice (oa) (n) (c))), (1, .val (.string (key))), (7, .val (.int .i64 ((n : Int)))), (9, .val (.bool true)), (5, .val (.int .i64 ((i : Int)))), (16, .val (.bool false)), (8, .val (.int .i64 (((i + 1 : Nat) : Int))))] [(0, 18, .val (.int .i64 (((i + 1 : Nat) : Int)))), (1, 8, .val (.int .i64 (((i + 1 : Nat) : Int))))] [] rfl (by rfl) HH6 rfl rfl hLo rfl HS6 (slS 0 rfl rfl (slS 1 rfl rfl (slS 2 rfl rfl (slS 4 rfl rfl (slS 5 rfl rfl (slS 6 rfl rfl (slL 1 (d := 1) rfl (trivial)))))))) ?_ ?_
      · show ∀ i ∈ [0, 1], _
        refine zA (zB 0 _ rfl rfl hLo rfl rfl (fun _ _ _ _ => rfl) (fun b G w hb ho => zI rfl (ev_pre hLo 1 rfl (ho 1 (by rfl)) (HS6.get 3 rfl)) (rfl) (rb_add (w_nat (by omega) (by omega)) _ _ _))) ?_
        refine zA (zB 1 _ rfl rfl hLo rfl rfl (fun _ _ _ _ => rfl) (fun b G w hb ho => zD (.inl rfl) (zC hLo 0 rfl HS6.1 rfl (hb 0 (by rfl))))) ?_
        exact zF
      clear hLo
      intro G a7 w7 hS hH
      have HS7 : Sl a7 19 [(0, .slice (oa) (n) (c)), (1, .string (key)), (7, .int .i64 ((n : Int))), (9, .bool true), (5, .int .i64 ((i : Int))), (16, .bool false), (8, .int .i64 (((i + 1 : Nat) : Int)))] := hS
      have HH7 : Held w w7 [] := hH
      clear hS hH HS6 HH6
      refine then_ ?_
      have hSq0' : Sl _ 19 [(0, .slice (oa) (n) (c)), (1, .string (key)), (7, .int .i64 ((n : Int))), (8, .int .i64 (((i + 1 : Nat) : Int)))] := yA HS7 [0, 1, 2, 6] (by rfl)
      have hHq0' : Held w _ [] := yD HH7 0 rfl
      exact ⟨⟨i + 1, by omega, look_miss3 hL hr2, hSq0', hHq0'⟩, by rw [(hSq0'.get 3 rfl)]; show n - (((i + 1 : Nat) : Int)).toNat < n - i; omega⟩
    · skip
      refine wp_cond_true (HS6.get 6 rfl) ?_
      refine wp_seq ?_
      have hLo : LOk [(0, 17, .val (.int .i64 ((i : Int)))), (1, 4, .val (.int .i64 ((i : Int))))] := lok (by rfl) (by rfl)
      refine zH (wE := w) (sz := 19) (n := 2) [0, 1] [(0, .val (.slice (oa) (n) (c))), (1, .val (.string (key))), (7, .val (.int .i64 ((n : Int)))), (8, .val (.int .i64 ((i : Int)))), (9, .val (.bool true)), (5, .val (.int .i64 ((i : Int)))), (16, .val (.bool true)), (4, .val (.int .i64 ((i : Int))))] [(0, 17, .val (.int .i64 ((i : Int)))), (1, 4, .val (.int .i64 ((i : Int))))] [] rfl (by rfl) HH6 rfl rfl hLo rfl HS6 (slS 0 rfl rfl (slS 1 rfl rfl (slS 2 rfl rfl (slS 3 rfl rfl (slS 4 rfl rfl (slS 5 rfl rfl (slS 6 rfl rfl (slL 1 (d := 1) rfl (trivial))))))))) ?_ ?_
      · show ∀ i ∈ [0, 1], _
        refine zA (zB 0 _ rfl rfl hLo rfl rfl (fun _ _ _ _ => rfl) (fun b G w hb ho => zD (.inl rfl) (zG rfl (HS6.get 5 rfl)))) ?_
        refine zA (zB 1 _ rfl rfl hLo rfl rfl (fun _ _ _ _ => rfl) (fun b G w hb ho => zD (.inr rfl) (zC hLo 0 rfl HS6.1 rfl (hb 0 (by rfl))))) ?_
        exact zF
      clear hLo
      intro G a8 w8 hS hH
      have HS8 : Sl a8 19 [(0, .slice (oa) (n) (c)), (1, .string (key)), (7, .int .i64 ((n : Int))), (8, .int .i64 ((i : Int))), (9, .bool true), (5, .int .i64 ((i : Int))), (16, .bool true), (4, .int .i64 ((i : Int)))] := hS
      have HH8 : Held w w8 [] := hH
      clear hS hH HS6 HH6
      refine then_ ?_
      refine wp_ret ?_
      repeat (first | refine zR ?_ | refine zK ?_)
      exact b_tmp rfl HS8.2.1 (HS8.get 7 rfl) ⟨by rw [ixS_some (look_hit3 hlt hL hr2)], HH8.1⟩
theorem contains_calls {w : World} {oa : Option Addr} {n c : Nat} {K : Nat → ByteArray} (key : ByteArray) (hK : StrsAt w oa n K) (hn : n ≤ 1099511627776) : Calls Tryd.prog 40 #[.slice (oa) (n) (c), .string (key)] w fun e w' => e = .returned (.bool (look K key n).isSome) ∧ Below w.heap.size w w' := by
  refine enter_ 9 Tryd.func40 rfl rfl (fun a0 hS => ?_)
  have HS0 : Sl a0 9 [(0, .slice (oa) (n) (c)), (1, .string (key))] := hS
  have HH0 : Held w w [] := Held.first w
  clear hS
  refine wp_seq ?_
  have hLo : LOk [(0, 4, .val (.bool false))] := lok (by rfl) (by rfl)
  refine zH (wE := w) (sz := 9) (n := 1) [0] [(0, .val (.slice (oa) (n) (c))), (1, .val (.string (key))), (4, .val (.bool false))] [(0, 4, .val (.bool false))] [] rfl (by rfl) HH0 rfl rfl hLo rfl HS0 (slS 0 rfl rfl (slS 1 rfl rfl (slL 0 (d := 0) rfl (trivial)))) ?_ ?_
  · show ∀ i ∈ [0], _
    refine zA (zB 0 _ rfl rfl hLo rfl rfl (fun _ _ _ _ => rfl) (fun b G w hb ho => zD (.inr rfl) (rfl))) ?_
    exact zF
  clear hLo
  intro G a1 w1 hS hH
  have HS1 : Sl a1 9 [(0, .slice (oa) (n) (c)), (1, .string (key)), (4, .bool false)] := hS
  have HH1 : Held w w1 [] := hH
  clear hS hH HS0 HH0
  refine then_ ?_
  obtain ⟨r1, hr1⟩ : ∃ r : Bool, (decide ((0 : Int) ≤ ixS K key n)) = r := ⟨_, rfl⟩
  refine wp_seq ?_
  have hLo : LOk [(0, 5, .val (.slice (oa) (n) (c))), (1, 6, .val (.string (key))), (2, 7, .val (.int .i64 (ixS K key n))), (3, 8, .val (.bool r1)), (4, 4, .val (.bool r1))] := lok (by rfl) (by rfl)
  refine zH (wE := w) (sz := 9) (n := 5) [0, 1, 3, 7, 15] [(0, .val (.slice (oa) (n) (c))), (1, .val (.string (key))), (4, .val (.bool r1))] [(0, 5, .val (.slice (oa) (n) (c))), (1, 6, .val (.string (key))), (2, 7, .val (.int .i64 (ixS K key n))), (3, 8, .val (.bool r1)), (4, 4, .val (.bool r1))] [] rfl (by rfl) HH1 rfl rfl hLo rfl HS1 (slS 0 rfl rfl (slS 1 rfl rfl (slL 4 (d := 4) rfl (trivial)))) ?_ ?_
  · show ∀ i ∈ [0, 1, 2, 3, 4], _
    refine zA (zB 0 _ rfl rfl hLo rfl rfl (fun _ _ _ _ => rfl) (fun b G w hb ho => zD (.inl rfl) (zG rfl (HS1.get 0 rfl)))) ?_
    refine zA (zB 1 _ rfl rfl hLo rfl rfl (fun _ _ _ _ => rfl) (fun b G w hb ho => zD (.inl rfl) (zG rfl (HS1.get 1 rfl)))) ?_
    refine zA (yB 2 _ #[.slice (oa) (n) (c), .string (key)] rfl rfl rfl (fun _ _ _ _ => rfl) hLo rfl rfl Tryd.func44 rfl rfl (fun b G hb ho => args2 (zC hLo 0 rfl HS1.1 rfl (hb 0 (by rfl))) (zC hLo 1 rfl HS1.1 rfl (hb 1 (by rfl)))) (fun w hw => ixs_calls key (hK.below hw) hn)) ?_
    refine zA (zB 3 _ rfl rfl hLo rfl rfl (fun _ _ _ _ => rfl) (fun b G w hb ho => zI rfl (zC hLo 2 rfl HS1.1 rfl (hb 2 (by rfl))) (rfl) (rb_geq hr1 _ _ _))) ?_
    refine zA (zB 4 _ rfl rfl hLo rfl rfl (fun _ _ _ _ => rfl) (fun b G w hb ho => zD (.inr rfl) (zC hLo 3 rfl HS1.1 rfl (hb 3 (by rfl))))) ?_
    exact zF
  clear hLo
  intro G a2 w2 hS hH
  have HS2 : Sl a2 9 [(0, .slice (oa) (n) (c)), (1, .string (key)), (4, .bool r1)] := hS
  have HH2 : Held w w2 [] := hH
  clear hS hH HS1 HH1
  refine then_ ?_
  refine wp_ret ?_
  repeat (first | refine zR ?_ | refine zK ?_)
  exact b_tmp rfl HS2.2.1 (HS2.get 2 rfl) ⟨by rw [ixS_is hr1], HH2.1⟩
theorem may_calls {w : World} {a b : T} (key : ByteArray) (mine : Int) (hIna : In w a) (hInb : In w b) (hRa : Rises a) (hRb : Rises b) : Calls Tryd.prog 32 #[.agg (FR () 6 ((a).sc)), .agg (FR () 6 ((b).sc)), .string (key), .int .i64 (mine)] w fun e w' => e = .returned (.bool (mayB a b key mine)) ∧ Below w.heap.size w w' := by
  refine enter_ 41 Tryd.func32 rfl rfl (fun a0 hS => ?_)
  have HS0 : Sl a0 41 [(0, .agg (FR () 6 ((a).sc))), (1, .agg (FR () 6 ((b).sc))), (2, .string (key)), (3, .int .i64 (mine))] := hS
  have HH0 : Held w w [] := Held.first w
  clear hS
  refine wp_seq ?_
  have hLo : LOk [(0, 4, .new 0 (fun g => .pointer (some ⟨g, 0, none⟩))), (1, 5, .new 1 (fun g => .pointer (some ⟨g, 0, none⟩))), (2, 8, .val (.bool false))] := lok (by rfl) (by rfl)
  refine zH (wE := w) (sz := 41) (n := 3) [0, 1, 3] [(0, .val (.agg (FR () 6 ((a).sc)))), (1, .val (.agg (FR () 6 ((b).sc)))), (2, .val (.string (key))), (3, .val (.int .i64 (mine))), (4, .new 0 (fun g => .pointer (some ⟨g, 0, none⟩))), (5, .new 1 (fun g => .pointer (some ⟨g, 0, none⟩))), (8, .val (.bool false))] [(0, 4, .new 0 (fun g => .pointer (some ⟨g, 0, none⟩))), (1, 5, .new 1 (fun g => .pointer (some ⟨g, 0, none⟩))), (2, 8, .val (.bool false))] [⟨0, some 0, none, (), 6, (a).sc, (a).sc, 25⟩, ⟨0, some 1, none, (), 6, (b).sc, (b).sc, 25⟩] rfl (by rfl) HH0 rfl rfl hLo rfl HS0 (slS 0 rfl rfl (slS 1 rfl rfl (slS 2 rfl rfl (slS 3 rfl rfl (slL 0 (d := 0) rfl (slL 1 (d := 1) rfl (slL 2 (d := 2) rfl (trivial)))))))) ?_ ?_
  · show ∀ i ∈ [0, 1, 2], _
    refine zA (zZ 0 0 () 6 25 none _ _ rfl rfl (fun _ _ _ _ => rfl) rfl hLo rfl rfl rfl rfl (by rfl) (fun b G w hb ho => exec_box rfl (zG rfl (HS0.get 0 rfl)) (by kernel_rfl))) ?_
    refine zA (zZ 1 1 () 6 25 none _ _ rfl rfl (fun _ _ _ _ => rfl) rfl hLo rfl rfl rfl rfl (by rfl) (fun b G w hb ho => exec_box rfl (zG rfl (HS0.get 1 rfl)) (by kernel_rfl))) ?_
    refine zA (zB 2 _ rfl rfl hLo rfl rfl (fun _ _ _ _ => rfl) (fun b G w hb ho => zD (.inr rfl) (rfl))) ?_
    exact zF
  clear hLo
  intro G a1 w1 hS hH
  have HS1 : Sl a1 41 [(0, .agg (FR () 6 ((a).sc))), (1, .agg (FR () 6 ((b).sc))), (2, .string (key)), (3, .int .i64 (mine)), (4, .pointer (some ⟨(G 0), 0, none⟩)), (5, .pointer (some ⟨(G 1), 0, none⟩)), (8, .bool false)] := hS
  have HH1 : Held w w1 [⟨(G 0), (), 6, (a).sc, 25⟩, ⟨(G 1), (), 6, (b).sc, 25⟩] := hH
  clear hS hH HS0 HH0
  generalize G 0 = g1_0 at HS1 HH1
  generalize G 1 = g1_1 at HS1 HH1
  refine then_ ?_
  obtain ⟨r1, hr1⟩ : ∃ r : Bool, (((a).tell key).2) = r := ⟨_, rfl⟩
  refine wp_seq ?_
  have hLo : LOk [(0, 14, .val (.agg (FR () 6 ((a).sc)))), (1, 15, .val (.string (key))), (2, 16, .val (.tuple #[.int .i64 (((a).tell key).1), .bool r1])), (3, 13, .val (.tuple #[.int .i64 (((a).tell key).1), .bool r1])), (4, 17, .val (.int .i64 (((a).tell key).1))), (5, 18, .val (.bool r1)), (6, 9, .val (.int .i64 (((a).tell key).1))), (7, 10, .val (.bool r1))] := lok (by rfl) (by rfl)
  refine zH (wE := w) (sz := 41) (n := 8) [0, 1, 3, 7, 15, 31, 63, 127] [(0, .val (.agg (FR () 6 ((a).sc)))), (1, .val (.agg (FR () 6 ((b).sc)))), (2, .val (.string (key))), (3, .val (.int .i64 (mine))), (4, .val (.pointer (some ⟨g1_0, 0, none⟩))), (5, .val (.pointer (some ⟨g1_1, 0, none⟩))), (8, .val (.bool false)), (9, .val (.int .i64 (((a).tell key).1))), (10, .val (.bool r1))] [(0, 14, .val (.agg (FR () 6 ((a).sc)))), (1, 15, .val (.string (key))), (2, 16, .val (.tuple #[.int .i64 (((a).tell key).1), .bool r1])), (3, 13, .val (.tuple #[.int .i64 (((a).tell key).1), .bool r1])), (4, 17, .val (.int .i64 (((a).tell key).1))), (5, 18, .val (.bool r1)), (6, 9, .val (.int .i64 (((a).tell key).1))), (7, 10, .val (.bool r1))] [⟨g1_0, none, none, (), 6, (a).sc, (a).sc, 25⟩, ⟨g1_1, none, none, (), 6, (b).sc, (b).sc, 25⟩] rfl (by rfl) HH1 rfl rfl hLo rfl HS1 (slS 0 rfl rfl (slS 1 rfl rfl (slS 2 rfl rfl (slS 3 rfl rfl (slS 4 rfl rfl (slS 5 rfl rfl (slS 6 rfl rfl (slL 6 (d := 6) rfl (slL 7 (d := 7) rfl (trivial)))))))))) ?_ ?_
  · show ∀ i ∈ [0, 1, 2, 3, 4, 5, 6, 7], _
    refine zA (yG 0 0 _ rfl rfl rfl rfl (fun _ _ _ _ => rfl) hLo rfl rfl rfl (by rfl) Tryd.underlying25 (by kernel_rfl) rfl (fun b G hb ho => zG rfl (HS1.get 4 rfl))) ?_
    refine zA (zB 1 _ rfl rfl hLo rfl rfl (fun _ _ _ _ => rfl) (fun b G w hb ho => zD (.inl rfl) (zG rfl (HS1.get 2 rfl)))) ?_
    refine zA (yB 2 _ #[.agg (FR () 6 ((a).sc)), .string (key)] rfl rfl rfl (fun _ _ _ _ => rfl) hLo rfl rfl Tryd.func25 rfl rfl (fun b G hb ho => args2 (zC hLo 0 rfl HS1.1 rfl (hb 0 (by rfl))) (zC hLo 1 rfl HS1.1 rfl (hb 1 (by rfl)))) (fun w hw => (by have hq := num_calls (t := a) key (hIna.below hw) hRa.rise; rw [hr1] at hq; exact hq))) ?_
    refine zA (zB 3 _ rfl rfl hLo rfl rfl (fun _ _ _ _ => rfl) (fun b G w hb ho => zD (.inl rfl) (zC hLo 2 rfl HS1.1 rfl (hb 2 (by rfl))))) ?_
    refine zA (zB 4 _ rfl rfl hLo rfl rfl (fun _ _ _ _ => rfl) (fun b G w hb ho => zX rfl (zC hLo 3 rfl HS1.1 rfl (hb 3 (by rfl))) (by rfl))) ?_
    refine zA (zB 5 _ rfl rfl hLo rfl rfl (fun _ _ _ _ => rfl) (fun b G w hb ho => zX rfl (zC hLo 3 rfl HS1.1 rfl (hb 3 (by rfl))) (by rfl))) ?_
    refine zA (zB 6 _ rfl rfl hLo rfl rfl (fun _ _ _ _ => rfl) (fun b G w hb ho => zD (.inr rfl) (zC hLo 4 rfl HS1.1 rfl (hb 4 (by rfl))))) ?_
    refine zA (zB 7 _ rfl rfl hLo rfl rfl (fun _ _ _ _ => rfl) (fun b G w hb ho => zD (.inr rfl) (zC hLo 5 rfl HS1.1 rfl (hb 5 (by rfl))))) ?_
    exact zF
  clear hLo
  intro G a2 w2 hS hH
  have HS2 : Sl a2 41 [(0, .agg (FR () 6 ((a).sc))), (1, .agg (FR () 6 ((b).sc))), (2, .string (key)), (3, .int .i64 (mine)), (4, .pointer (some ⟨g1_0, 0, none⟩)), (5, .pointer (some ⟨g1_1, 0, none⟩)), (8, .bool false), (9, .int .i64 (((a).tell key).1)), (10, .bool r1)] := hS
  have HH2 : Held w w2 [⟨g1_0, (), 6, (a).sc, 25⟩, ⟨g1_1, (), 6, (b).sc, 25⟩] := hH
  clear hS hH HS1 HH1
  refine then_ ?_
  obtain ⟨r2, hr2⟩ : ∃ r : Bool, (((b).tell key).2) = r := ⟨_, rfl⟩
  refine wp_seq ?_
  have hLo : LOk [(0, 20, .val (.agg (FR () 6 ((b).sc)))), (1, 21, .val (.string (key))), (2, 22, .val (.tuple #[.int .i64 (((b).tell key).1), .bool r2])), (3, 19, .val (.tuple #[.int .i64 (((b).tell key).1), .bool r2])), (4, 23, .val (.int .i64 (((b).tell key).1))), (5, 24, .val (.bool r2)), (6, 11, .val (.int .i64 (((b).tell key).1))), (7, 12, .val (.bool r2))] := lok (by rfl) (by rfl)
  refine zH (wE := w) (sz := 41) (n := 8) [0, 1, 3, 7, 15, 31, 63, 127] [(0, .val (.agg (FR () 6 ((a).sc)))), (1, .val (.agg (FR () 6 ((b).sc)))), (2, .val (.string (key))), (3, .val (.int .i64 (mine))), (4, .val (.pointer (some ⟨g1_0, 0, none⟩))), (5, .val (.pointer (some ⟨g1_1, 0, none⟩))), (8, .val (.bool false)), (9, .val (.int .i64 (((a).tell key).1))), (10, .val (.bool r1)), (11, .val (.int .i64 (((b).tell key).1))), (12, .val (.bool r2))] [(0, 20, .val (.agg (FR () 6 ((b).sc)))), (1, 21, .val (.string (key))), (2, 22, .val (.tuple #[.int .i64 (((b).tell key).1), .bool r2])), (3, 19, .val (.tuple #[.int .i64 (((b).tell key).1), .bool r2])), (4, 23, .val (.int .i64 (((b).tell key).1))), (5, 24, .val (.bool r2)), (6, 11, .val (.int .i64 (((b).tell key).1))), (7, 12, .val (.bool r2))] [⟨g1_0, none, none, (), 6, (a).sc, (a).sc, 25⟩, ⟨g1_1, none, none, (), 6, (b).sc, (b).sc, 25⟩] rfl (by rfl) HH2 rfl rfl hLo rfl HS2 (slS 0 rfl rfl (slS 1 rfl rfl (slS 2 rfl rfl (slS 3 rfl rfl (slS 4 rfl rfl (slS 5 rfl rfl (slS 6 rfl rfl (slS 7 rfl rfl (slS 8 rfl rfl (slL 6 (d := 6) rfl (slL 7 (d := 7) rfl (trivial)))))))))))) ?_ ?_
  · show ∀ i ∈ [0, 1, 2, 3, 4, 5, 6, 7], _
    refine zA (yG 0 1 _ rfl rfl rfl rfl (fun _ _ _ _ => rfl) hLo rfl rfl rfl (by rfl) Tryd.underlying25 (by kernel_rfl) rfl (fun b G hb ho => zG rfl (HS2.get 5 rfl))) ?_
    refine zA (zB 1 _ rfl rfl hLo rfl rfl (fun _ _ _ _ => rfl) (fun b G w hb ho => zD (.inl rfl) (zG rfl (HS2.get 2 rfl)))) ?_
    refine zA (yB 2 _ #[.agg (FR () 6 ((b).sc)), .string (key)] rfl rfl rfl (fun _ _ _ _ => rfl) hLo rfl rfl Tryd.func25 rfl rfl (fun b G hb ho => args2 (zC hLo 0 rfl HS2.1 rfl (hb 0 (by rfl))) (zC hLo 1 rfl HS2.1 rfl (hb 1 (by rfl)))) (fun w hw => (by have hq := num_calls (t := b) key (hInb.below hw) hRb.rise; rw [hr2] at hq; exact hq))) ?_
    refine zA (zB 3 _ rfl rfl hLo rfl rfl (fun _ _ _ _ => rfl) (fun b G w hb ho => zD (.inl rfl) (zC hLo 2 rfl HS2.1 rfl (hb 2 (by rfl))))) ?_
    refine zA (zB 4 _ rfl rfl hLo rfl rfl (fun _ _ _ _ => rfl) (fun b G w hb ho => zX rfl (zC hLo 3 rfl HS2.1 rfl (hb 3 (by rfl))) (by rfl))) ?_
    refine zA (zB 5 _ rfl rfl hLo rfl rfl (fun _ _ _ _ => rfl) (fun b G w hb ho => zX rfl (zC hLo 3 rfl HS2.1 rfl (hb 3 (by rfl))) (by rfl))) ?_
    refine zA (zB 6 _ rfl rfl hLo rfl rfl (fun _ _ _ _ => rfl) (fun b G w hb ho => zD (.inr rfl) (zC hLo 4 rfl HS2.1 rfl (hb 4 (by rfl))))) ?_
    refine zA (zB 7 _ rfl rfl hLo rfl rfl (fun _ _ _ _ => rfl) (fun b G w hb ho => zD (.inr rfl) (zC hLo 5 rfl HS2.1 rfl (hb 5 (by rfl))))) ?_
    exact zF
  clear hLo
  intro G a3 w3 hS hH
  have HS3 : Sl a3 41 [(0, .agg (FR () 6 ((a).sc))), (1, .agg (FR () 6 ((b).sc))), (2, .string (key)), (3, .int .i64 (mine)), (4, .pointer (some ⟨g1_0, 0, none⟩)), (5, .pointer (some ⟨g1_1, 0, none⟩)), (8, .bool false), (9, .int .i64 (((a).tell key).1)), (10, .bool r1), (11, .int .i64 (((b).tell key).1)), (12, .bool r2)] := hS
  have HH3 : Held w w3 [⟨g1_0, (), 6, (a).sc, 25⟩, ⟨g1_1, (), 6, (b).sc, 25⟩] := hH
  clear hS hH HS2 HH2
  refine then_ ?_
  cases r1
  · skip
    cases r2
    · skip
      refine wp_seq ?_
      have hLo : LOk [(0, 25, .val (.bool false)), (1, 26, .val (.bool true)), (2, 27, .val (.bool true)), (3, 28, .val (undef)), (4, 29, .val (undef)), (5, 30, .val (undef)), (6, 31, .val (.bool true)), (7, 32, .val (.bool true)), (8, 33, .val (.bool false)), (9, 34, .val (.bool true)), (10, 35, .val (.bool true)), (11, 36, .val (undef)), (12, 37, .val (undef)), (13, 38, .val (undef)), (14, 39, .val (.bool true)), (15, 40, .val (.bool true)), (16, 8, .val (.bool true))] := lok (by rfl) (by rfl)
      refine zH (wE := w) (sz := 41) (n := 17) [0, 1, 3, 7, 15, 31, 63, 127, 255, 511, 1023, 2047, 4095, 8191, 16383, 32767, 65535] [(0, .val (.agg (FR () 6 ((a).sc)))), (1, .val (.agg (FR () 6 ((b).sc)))), (2, .val (.string (key))), (3, .val (.int .i64 (mine))), (4, .val (.pointer (some ⟨g1_0, 0, none⟩))), (5, .val (.pointer (some ⟨g1_1, 0, none⟩))), (9, .val (.int .i64 (((a).tell key).1))), (10, .val (.bool false)), (11, .val (.int .i64 (((b).tell key).1))), (12, .val (.bool false)), (8, .val (.bool true))] [(0, 25, .val (.bool false)), (1, 26, .val (.bool true)), (2, 27, .val (.bool true)), (3, 28, .val (undef)), (4, 29, .val (undef)), (5, 30, .val (undef)), (6, 31, .val (.bool true)), (7, 32, .val (.bool true)), (8, 33, .val (.bool false)), (9, 34, .val (.bool true)), (10, 35, .val (.bool true)), (11, 36, .val (undef)), (12, 37, .val (undef)), (13, 38, .val (undef)), (14, 39, .val (.bool true)), (15, 40, .val (.bool true)), (16, 8, .val (.bool true))] [⟨g1_0, none, none, (), 6, (a).sc, (a).sc, 25⟩, ⟨g1_1, none, none, (), 6, (b).sc, (b).sc, 25⟩] rfl (by rfl) HH3 rfl rfl hLo rfl HS3 (slS 0 rfl rfl (slS 1 rfl rfl (slS 2 rfl rfl (slS 3 rfl rfl (slS 4 rfl rfl (slS 5 rfl rfl (slS 7 rfl rfl (slS 8 rfl rfl (slS 9 rfl rfl (slS 10 rfl rfl (slL 16 (d := 16) rfl (trivial)))))))))))) ?_ ?_
      · show ∀ i ∈ [0, 1, 2, 3, 4, 5, 6, 7, 8, 9, 10, 11, 12, 13, 14, 15, 16], _
        refine zA (zB 0 _ rfl rfl hLo rfl rfl (fun _ _ _ _ => rfl) (fun b G w hb ho => zD (.inl rfl) (zG rfl (HS3.get 8 rfl)))) ?_
        refine zA (zB 1 _ rfl rfl hLo rfl rfl (fun _ _ _ _ => rfl) (fun b G w hb ho => exec_un rfl (zC hLo 0 rfl HS3.1 rfl (hb 0 (by rfl))) (ru_not _))) ?_
        refine zA (zB 2 _ rfl rfl hLo rfl rfl (fun _ _ _ _ => rfl) (fun b G w hb ho => zD (.inl rfl) (zC hLo 1 rfl HS3.1 rfl (hb 1 (by rfl))))) ?_
        refine zA (zN 3 rfl rfl hLo rfl rfl (fun b G hb ho => zE rfl rfl rfl HS3.1 rfl (zC hLo 2 rfl HS3.1 rfl (hb 2 (by rfl))) rfl)) ?_
        refine zA (zN 4 rfl rfl hLo rfl rfl (fun b G hb ho => zE rfl rfl rfl HS3.1 rfl (zC hLo 2 rfl HS3.1 rfl (hb 2 (by rfl))) rfl)) ?_
        refine zA (zN 5 rfl rfl hLo rfl rfl (fun b G hb ho => zE rfl rfl rfl HS3.1 rfl (zC hLo 2 rfl HS3.1 rfl (hb 2 (by rfl))) rfl)) ?_
        refine zA (zB 6 _ rfl rfl hLo rfl rfl (fun _ _ _ _ => rfl) (fun b G w hb ho => zL rfl (zC hLo 2 rfl HS3.1 rfl (hb 2 (by rfl))) (rfl))) ?_
        refine zA (zB 7 _ rfl rfl hLo rfl rfl (fun _ _ _ _ => rfl) (fun b G w hb ho => zD (.inl rfl) (zC hLo 6 rfl HS3.1 rfl (hb 6 (by rfl))))) ?_
        refine zA (zB 8 _ rfl rfl hLo rfl rfl (fun b G hb ho => zE rfl rfl rfl HS3.1 rfl (zC hLo 7 rfl HS3.1 rfl (hb 7 (by rfl))) rfl) (fun b G w hb ho => zD (.inl rfl) (zG rfl (HS3.get 10 rfl)))) ?_
        refine zA (zB 9 _ rfl rfl hLo rfl rfl (fun b G hb ho => zE rfl rfl rfl HS3.1 rfl (zC hLo 7 rfl HS3.1 rfl (hb 7 (by rfl))) rfl) (fun b G w hb ho => exec_un rfl (zC hLo 8 rfl HS3.1 rfl (hb 8 (by rfl))) (ru_not _))) ?_
        refine zA (zB 10 _ rfl rfl hLo rfl rfl (fun b G hb ho => zE rfl rfl rfl HS3.1 rfl (zC hLo 7 rfl HS3.1 rfl (hb 7 (by rfl))) rfl) (fun b G w hb ho => zD (.inl rfl) (zC hLo 9 rfl HS3.1 rfl (hb 9 (by rfl))))) ?_
        refine zA (zN 11 rfl rfl hLo rfl rfl (fun b G hb ho => zE rfl rfl rfl HS3.1 rfl (zC hLo 10 rfl HS3.1 rfl (hb 10 (by rfl))) rfl)) ?_
        refine zA (zN 12 rfl rfl hLo rfl rfl (fun b G hb ho => zE rfl rfl rfl HS3.1 rfl (zC hLo 10 rfl HS3.1 rfl (hb 10 (by rfl))) rfl)) ?_
        refine zA (zN 13 rfl rfl hLo rfl rfl (fun b G hb ho => zE rfl rfl rfl HS3.1 rfl (zC hLo 10 rfl HS3.1 rfl (hb 10 (by rfl))) rfl)) ?_
        refine zA (zB 14 _ rfl rfl hLo rfl rfl (fun b G hb ho => zE rfl rfl rfl HS3.1 rfl (zC hLo 7 rfl HS3.1 rfl (hb 7 (by rfl))) rfl) (fun b G w hb ho => zL rfl (zC hLo 10 rfl HS3.1 rfl (hb 10 (by rfl))) (rfl))) ?_
        refine zA (zB 15 _ rfl rfl hLo rfl rfl (fun _ _ _ _ => rfl) (fun b G w hb ho => zL rfl (zC hLo 7 rfl HS3.1 rfl (hb 7 (by rfl))) (zC hLo 14 rfl HS3.1 rfl (hb 14 (by rfl))))) ?_
        refine zA (zB 16 _ rfl rfl hLo rfl rfl (fun _ _ _ _ => rfl) (fun b G w hb ho => zD (.inr rfl) (zC hLo 15 rfl HS3.1 rfl (hb 15 (by rfl))))) ?_
        exact zF
      clear hLo
      intro G a4 w4 hS hH
      have HS4 : Sl a4 41 [(0, .agg (FR () 6 ((a).sc))), (1, .agg (FR () 6 ((b).sc))), (2, .string (key)), (3, .int .i64 (mine)), (4, .pointer (some ⟨g1_0, 0, none⟩)), (5, .pointer (some ⟨g1_1, 0, none⟩)), (9, .int .i64 (((a).tell key).1)), (10, .bool false), (11, .int .i64 (((b).tell key).1)), (12, .bool false), (8, .bool true)] := hS
      have HH4 : Held w w4 [⟨g1_0, (), 6, (a).sc, 25⟩, ⟨g1_1, (), 6, (b).sc, 25⟩] := hH
      clear hS hH HS3 HH3
      refine then_ ?_
      refine wp_ret ?_
      repeat (first | refine zR ?_ | refine zK ?_)
      exact b_tmp rfl HS4.2.1 (HS4.get 10 rfl) ⟨may_ret (by unfold mayB; rw [hr1, hr2]; rfl), HH4.1⟩
    · skip
      obtain ⟨r3, hr3⟩ : ∃ r : Bool, (decide ((((b).tell key).1 : Int) ≤ mine)) = r := ⟨_, rfl⟩
      refine wp_seq ?_
      have hLo : LOk [(0, 25, .val (.bool false)), (1, 26, .val (.bool true)), (2, 27, .val (.bool true)), (3, 28, .val (undef)), (4, 29, .val (undef)), (5, 30, .val (undef)), (6, 31, .val (.bool true)), (7, 32, .val (.bool true)), (8, 33, .val (.bool true)), (9, 34, .val (.bool false)), (10, 35, .val (.bool false)), (11, 36, .val (.int .i64 (((b).tell key).1))), (12, 37, .val (.int .i64 (mine))), (13, 38, .val (.bool r3)), (14, 39, .val (.bool r3)), (15, 40, .val (.bool r3)), (16, 8, .val (.bool r3))] := lok (by rfl) (by rfl)
      refine zH (wE := w) (sz := 41) (n := 17) [0, 1, 3, 7, 15, 31, 63, 127, 255, 511, 1023, 2047, 4095, 8191, 16383, 32767, 65535] [(0, .val (.agg (FR () 6 ((a).sc)))), (1, .val (.agg (FR () 6 ((b).sc)))), (2, .val (.string (key))), (3, .val (.int .i64 (mine))), (4, .val (.pointer (some ⟨g1_0, 0, none⟩))), (5, .val (.pointer (some ⟨g1_1, 0, none⟩))), (9, .val (.int .i64 (((a).tell key).1))), (10, .val (.bool false)), (11, .val (.int .i64 (((b).tell key).1))), (12, .val (.bool true)), (8, .val (.bool r3))] [(0, 25, .val (.bool false)), (1, 26, .val (.bool true)), (2, 27, .val (.bool true)), (3, 28, .val (undef)), (4, 29, .val (undef)), (5, 30, .val (undef)), (6, 31, .val (.bool true)), (7, 32, .val (.bool true)), (8, 33, .val (.bool true)), (9, 34, .val (.bool false)), (10, 35, .val (.bool false)), (11, 36, .val (.int .i64 (((b).tell key).1))), (12, 37, .val (.int .i64 (mine))), (13, 38, .val (.bool r3)), (14, 39, .val (.bool r3)), (15, 40, .val (.bool r3)), (16, 8, .val (.bool r3))] [⟨g1_0, none, none, (), 6, (a).sc, (a).sc, 25⟩, ⟨g1_1, none, none, (), 6, (b).sc, (b).sc, 25⟩] rfl (by rfl) HH3 rfl rfl hLo rfl HS3 (slS 0 rfl rfl (slS 1 rfl rfl (slS 2 rfl rfl (slS 3 rfl rfl (slS 4 rfl rfl (slS 5 rfl rfl (slS 7 rfl rfl (slS 8 rfl rfl (slS 9 rfl rfl (slS 10 rfl rfl (slL 16 (d := 16) rfl (trivial)))))))))))) ?_ ?_
      · show ∀ i ∈ [0, 1, 2, 3, 4, 5, 6, 7, 8, 9, 10, 11, 12, 13, 14, 15, 16], _
        refine zA (zB 0 _ rfl rfl hLo rfl rfl (fun _ _ _ _ => rfl) (fun b G w hb ho => zD (.inl rfl) (zG rfl (HS3.get 8 rfl)))) ?_
        refine zA (zB 1 _ rfl rfl hLo rfl rfl (fun _ _ _ _ => rfl) (fun b G w hb ho => exec_un rfl (zC hLo 0 rfl HS3.1 rfl (hb 0 (by rfl))) (ru_not _))) ?_
        refine zA (zB 2 _ rfl rfl hLo rfl rfl (fun _ _ _ _ => rfl) (fun b G w hb ho => zD (.inl rfl) (zC hLo 1 rfl HS3.1 rfl (hb 1 (by rfl))))) ?_
        refine zA (zN 3 rfl rfl hLo rfl rfl (fun b G hb ho => zE rfl rfl rfl HS3.1 rfl (zC hLo 2 rfl HS3.1 rfl (hb 2 (by rfl))) rfl)) ?_
        refine zA (zN 4 rfl rfl hLo rfl rfl (fun b G hb ho => zE rfl rfl rfl HS3.1 rfl (zC hLo 2 rfl HS3.1 rfl (hb 2 (by rfl))) rfl)) ?_
        refine zA (zN 5 rfl rfl hLo rfl rfl (fun b G hb ho => zE rfl rfl rfl HS3.1 rfl (zC hLo 2 rfl HS3.1 rfl (hb 2 (by rfl))) rfl)) ?_
        refine zA (zB 6 _ rfl rfl hLo rfl rfl (fun _ _ _ _ => rfl) (fun b G w hb ho => zL rfl (zC hLo 2 rfl HS3.1 rfl (hb 2 (by rfl))) (rfl))) ?_
        refine zA (zB 7 _ rfl rfl hLo rfl rfl (fun _ _ _ _ => rfl) (fun b G w hb ho => zD (.inl rfl) (zC hLo 6 rfl HS3.1 rfl (hb 6 (by rfl))))) ?_
        refine zA (zB 8 _ rfl rfl hLo rfl rfl (fun b G hb ho => zE rfl rfl rfl HS3.1 rfl (zC hLo 7 rfl HS3.1 rfl (hb 7 (by rfl))) rfl) (fun b G w hb ho => zD (.inl rfl) (zG rfl (HS3.get 10 rfl)))) ?_
        refine zA (zB 9 _ rfl rfl hLo rfl rfl (fun b G hb ho => zE rfl rfl rfl HS3.1 rfl (zC hLo 7 rfl HS3.1 rfl (hb 7 (by rfl))) rfl) (fun b G w hb ho => exec_un rfl (zC hLo 8 rfl HS3.1 rfl (hb 8 (by rfl))) (ru_not _))) ?_
        refine zA (zB 10 _ rfl rfl hLo rfl rfl (fun b G hb ho => zE rfl rfl rfl HS3.1 rfl (zC hLo 7 rfl HS3.1 rfl (hb 7 (by rfl))) rfl) (fun b G w hb ho => zD (.inl rfl) (zC hLo 9 rfl HS3.1 rfl (hb 9 (by rfl))))) ?_
        refine zA (zB 11 _ rfl rfl hLo rfl rfl (fun b G hb ho => zE rfl rfl rfl HS3.1 rfl (zC hLo 10 rfl HS3.1 rfl (hb 10 (by rfl))) rfl) (fun b G w hb ho => zD (.inl rfl) (zG rfl (HS3.get 9 rfl)))) ?_
        refine zA (zB 12 _ rfl rfl hLo rfl rfl (fun b G hb ho => zE rfl rfl rfl HS3.1 rfl (zC hLo 10 rfl HS3.1 rfl (hb 10 (by rfl))) rfl) (fun b G w hb ho => zD (.inl rfl) (zG rfl (HS3.get 3 rfl)))) ?_
        refine zA (zB 13 _ rfl rfl hLo rfl rfl (fun b G hb ho => zE rfl rfl rfl HS3.1 rfl (zC hLo 10 rfl HS3.1 rfl (hb 10 (by rfl))) rfl) (fun b G w hb ho => zI rfl (zC hLo 11 rfl HS3.1 rfl (hb 11 (by rfl))) (zC hLo 12 rfl HS3.1 rfl (hb 12 (by rfl))) (rb_leq hr3 _ _ _))) ?_
        refine zA (zB 14 _ rfl rfl hLo rfl rfl (fun b G hb ho => zE rfl rfl rfl HS3.1 rfl (zC hLo 7 rfl HS3.1 rfl (hb 7 (by rfl))) rfl) (fun b G w hb ho => zL rfl (zC hLo 10 rfl HS3.1 rfl (hb 10 (by rfl))) (zC hLo 13 rfl HS3.1 rfl (hb 13 (by rfl))))) ?_
        refine zA (zB 15 _ rfl rfl hLo rfl rfl (fun _ _ _ _ => rfl) (fun b G w hb ho => zL rfl (zC hLo 7 rfl HS3.1 rfl (hb 7 (by rfl))) (zC hLo 14 rfl HS3.1 rfl (hb 14 (by rfl))))) ?_
        refine zA (zB 16 _ rfl rfl hLo rfl rfl (fun _ _ _ _ => rfl) (fun b G w hb ho => zD (.inr rfl) (zC hLo 15 rfl HS3.1 rfl (hb 15 (by rfl))))) ?_
        exact zF
      clear hLo
      intro G a5 w5 hS hH
      have HS5 : Sl a5 41 [(0, .agg (FR () 6 ((a).sc))), (1, .agg (FR () 6 ((b).sc))), (2, .string (key)), (3, .int .i64 (mine)), (4, .pointer (some ⟨g1_0, 0, none⟩)), (5, .pointer (some ⟨g1_1, 0, none⟩)), (9, .int .i64 (((a).tell key).1)), (10, .bool false), (11, .int .i64 (((b).tell key).1)), (12, .bool true), (8, .bool r3)] := hS
      have HH5 : Held w w5 [⟨g1_0, (), 6, (a).sc, 25⟩, ⟨g1_1, (), 6, (b).sc, 25⟩] := hH
      clear hS hH HS3 HH3
      refine then_ ?_
      refine wp_ret ?_
      repeat (first | refine zR ?_ | refine zK ?_)
      exact b_tmp rfl HS5.2.1 (HS5.get 10 rfl) ⟨may_ret (by unfold mayB; rw [hr1, hr2, hr3]; rfl), HH5.1⟩
  · skip
    obtain ⟨r4, hr4⟩ : ∃ r : Bool, (decide ((((a).tell key).1 : Int) ≤ mine)) = r := ⟨_, rfl⟩
    cases r4
    · skip
      refine wp_seq ?_
      have hLo : LOk [(0, 25, .val (.bool true)), (1, 26, .val (.bool false)), (2, 27, .val (.bool false)), (3, 28, .val (.int .i64 (((a).tell key).1))), (4, 29, .val (.int .i64 (mine))), (5, 30, .val (.bool false)), (6, 31, .val (.bool false)), (7, 32, .val (.bool false)), (8, 33, .val (undef)), (9, 34, .val (undef)), (10, 35, .val (undef)), (11, 36, .val (undef)), (12, 37, .val (undef)), (13, 38, .val (undef)), (14, 39, .val (undef)), (15, 40, .val (.bool false)), (16, 8, .val (.bool false))] := lok (by rfl) (by rfl)
      refine zH (wE := w) (sz := 41) (n := 17) [0, 1, 3, 7, 15, 31, 63, 127, 255, 511, 1023, 2047, 4095, 8191, 16383, 32767, 65535] [(0, .val (.agg (FR () 6 ((a).sc)))), (1, .val (.agg (FR () 6 ((b).sc)))), (2, .val (.string (key))), (3, .val (.int .i64 (mine))), (4, .val (.pointer (some ⟨g1_0, 0, none⟩))), (5, .val (.pointer (some ⟨g1_1, 0, none⟩))), (9, .val (.int .i64 (((a).tell key).1))), (10, .val (.bool true)), (11, .val (.int .i64 (((b).tell key).1))), (12, .val (.bool r2)), (8, .val (.bool false))] [(0, 25, .val (.bool true)), (1, 26, .val (.bool false)), (2, 27, .val (.bool false)), (3, 28, .val (.int .i64 (((a).tell key).1))), (4, 29, .val (.int .i64 (mine))), (5, 30, .val (.bool false)), (6, 31, .val (.bool false)), (7, 32, .val (.bool false)), (8, 33, .val (undef)), (9, 34, .val (undef)), (10, 35, .val (undef)), (11, 36, .val (undef)), (12, 37, .val (undef)), (13, 38, .val (undef)), (14, 39, .val (undef)), (15, 40, .val (.bool false)), (16, 8, .val (.bool false))] [⟨g1_0, none, none, (), 6, (a).sc, (a).sc, 25⟩, ⟨g1_1, none, none, (), 6, (b).sc, (b).sc, 25⟩] rfl (by rfl) HH3 rfl rfl hLo rfl HS3 (slS 0 rfl rfl (slS 1 rfl rfl (slS 2 rfl rfl (slS 3 rfl rfl (slS 4 rfl rfl (slS 5 rfl rfl (slS 7 rfl rfl (slS 8 rfl rfl (slS 9 rfl rfl (slS 10 rfl rfl (slL 16 (d := 16) rfl (trivial)))))))))))) ?_ ?_
      · show ∀ i ∈ [0, 1, 2, 3, 4, 5, 6, 7, 8, 9, 10, 11, 12, 13, 14, 15, 16], _
        refine zA (zB 0 _ rfl rfl hLo rfl rfl (fun _ _ _ _ => rfl) (fun b G w hb ho => zD (.inl rfl) (zG rfl (HS3.get 8 rfl)))) ?_
        refine zA (zB 1 _ rfl rfl hLo rfl rfl (fun _ _ _ _ => rfl) (fun b G w hb ho => exec_un rfl (zC hLo 0 rfl HS3.1 rfl (hb 0 (by rfl))) (ru_not _))) ?_
        refine zA (zB 2 _ rfl rfl hLo rfl rfl (fun _ _ _ _ => rfl) (fun b G w hb ho => zD (.inl rfl) (zC hLo 1 rfl HS3.1 rfl (hb 1 (by rfl))))) ?_
        refine zA (zB 3 _ rfl rfl hLo rfl rfl (fun b G hb ho => zE rfl rfl rfl HS3.1 rfl (zC hLo 2 rfl HS3.1 rfl (hb 2 (by rfl))) rfl) (fun b G w hb ho => zD (.inl rfl) (zG rfl (HS3.get 7 rfl)))) ?_
        refine zA (zB 4 _ rfl rfl hLo rfl rfl (fun b G hb ho => zE rfl rfl rfl HS3.1 rfl (zC hLo 2 rfl HS3.1 rfl (hb 2 (by rfl))) rfl) (fun b G w hb ho => zD (.inl rfl) (zG rfl (HS3.get 3 rfl)))) ?_
        refine zA (zB 5 _ rfl rfl hLo rfl rfl (fun b G hb ho => zE rfl rfl rfl HS3.1 rfl (zC hLo 2 rfl HS3.1 rfl (hb 2 (by rfl))) rfl) (fun b G w hb ho => zI rfl (zC hLo 3 rfl HS3.1 rfl (hb 3 (by rfl))) (zC hLo 4 rfl HS3.1 rfl (hb 4 (by rfl))) (rb_leq hr4 _ _ _))) ?_
        refine zA (zB 6 _ rfl rfl hLo rfl rfl (fun _ _ _ _ => rfl) (fun b G w hb ho => zL rfl (zC hLo 2 rfl HS3.1 rfl (hb 2 (by rfl))) (zC hLo 5 rfl HS3.1 rfl (hb 5 (by rfl))))) ?_
        refine zA (zB 7 _ rfl rfl hLo rfl rfl (fun _ _ _ _ => rfl) (fun b G w hb ho => zD (.inl rfl) (zC hLo 6 rfl HS3.1 rfl (hb 6 (by rfl))))) ?_
        refine zA (zN 8 rfl rfl hLo rfl rfl (fun b G hb ho => zE rfl rfl rfl HS3.1 rfl (zC hLo 7 rfl HS3.1 rfl (hb 7 (by rfl))) rfl)) ?_
        refine zA (zN 9 rfl rfl hLo rfl rfl (fun b G hb ho => zE rfl rfl rfl HS3.1 rfl (zC hLo 7 rfl HS3.1 rfl (hb 7 (by rfl))) rfl)) ?_
        refine zA (zN 10 rfl rfl hLo rfl rfl (fun b G hb ho => zE rfl rfl rfl HS3.1 rfl (zC hLo 7 rfl HS3.1 rfl (hb 7 (by rfl))) rfl)) ?_
        refine zA (zN 11 rfl rfl hLo rfl rfl (fun b G hb ho => wanted_un rfl rfl rfl HS3.1 rfl (zC hLo 10 rfl HS3.1 rfl (hb 10 (by rfl))))) ?_
        refine zA (zN 12 rfl rfl hLo rfl rfl (fun b G hb ho => wanted_un rfl rfl rfl HS3.1 rfl (zC hLo 10 rfl HS3.1 rfl (hb 10 (by rfl))))) ?_
        refine zA (zN 13 rfl rfl hLo rfl rfl (fun b G hb ho => wanted_un rfl rfl rfl HS3.1 rfl (zC hLo 10 rfl HS3.1 rfl (hb 10 (by rfl))))) ?_
        refine zA (zN 14 rfl rfl hLo rfl rfl (fun b G hb ho => zE rfl rfl rfl HS3.1 rfl (zC hLo 7 rfl HS3.1 rfl (hb 7 (by rfl))) rfl)) ?_
        refine zA (zB 15 _ rfl rfl hLo rfl rfl (fun _ _ _ _ => rfl) (fun b G w hb ho => zL rfl (zC hLo 7 rfl HS3.1 rfl (hb 7 (by rfl))) (rfl))) ?_
        refine zA (zB 16 _ rfl rfl hLo rfl rfl (fun _ _ _ _ => rfl) (fun b G w hb ho => zD (.inr rfl) (zC hLo 15 rfl HS3.1 rfl (hb 15 (by rfl))))) ?_
        exact zF
      clear hLo
      intro G a6 w6 hS hH
      have HS6 : Sl a6 41 [(0, .agg (FR () 6 ((a).sc))), (1, .agg (FR () 6 ((b).sc))), (2, .string (key)), (3, .int .i64 (mine)), (4, .pointer (some ⟨g1_0, 0, none⟩)), (5, .pointer (some ⟨g1_1, 0, none⟩)), (9, .int .i64 (((a).tell key).1)), (10, .bool true), (11, .int .i64 (((b).tell key).1)), (12, .bool r2), (8, .bool false)] := hS
      have HH6 : Held w w6 [⟨g1_0, (), 6, (a).sc, 25⟩, ⟨g1_1, (), 6, (b).sc, 25⟩] := hH
      clear hS hH HS3 HH3
      refine then_ ?_
      refine wp_ret ?_
      repeat (first | refine zR ?_ | refine zK ?_)
      exact b_tmp rfl HS6.2.1 (HS6.get 10 rfl) ⟨may_ret (by unfold mayB; rw [hr1, hr2, hr4]; rfl), HH6.1⟩
    · skip
      cases r2
      · skip
        refine wp_seq ?_
        have hLo : LOk [(0, 25, .val (.bool true)), (1, 26, .val (.bool false)), (2, 27, .val (.bool false)), (3, 28, .val (.int .i64 (((a).tell key).1))), (4, 29, .val (.int .i64 (mine))), (5, 30, .val (.bool true)), (6, 31, .val (.bool true)), (7, 32, .val (.bool true)), (8, 33, .val (.bool false)), (9, 34, .val (.bool true)), (10, 35, .val (.bool true)), (11, 36, .val (undef)), (12, 37, .val (undef)), (13, 38, .val (undef)), (14, 39, .val (.bool true)), (15, 40, .val (.bool true)), (16, 8, .val (.bool true))] := lok (by rfl) (by rfl)
        refine zH (wE := w) (sz := 41) (n := 17) [0, 1, 3, 7, 15, 31, 63, 127, 255, 511, 1023, 2047, 4095, 8191, 16383, 32767, 65535] [(0, .val (.agg (FR () 6 ((a).sc)))), (1, .val (.agg (FR () 6 ((b).sc)))), (2, .val (.string (key))), (3, .val (.int .i64 (mine))), (4, .val (.pointer (some ⟨g1_0, 0, none⟩))), (5, .val (.pointer (some ⟨g1_1, 0, none⟩))), (9, .val (.int .i64 (((a).tell key).1))), (10, .val (.bool true)), (11, .val (.int .i64 (((b).tell key).1))), (12, .val (.bool false)), (8, .val (.bool true))] [(0, 25, .val (.bool true)), (1, 26, .val (.bool false)), (2, 27, .val (.bool false)), (3, 28, .val (.int .i64 (((a).tell key).1))), (4, 29, .val (.int .i64 (mine))), (5, 30, .val (.bool true)), (6, 31, .val (.bool true)), (7, 32, .val (.bool true)), (8, 33, .val (.bool false)), (9, 34, .val (.bool true)), (10, 35, .val (.bool true)), (11, 36, .val (undef)), (12, 37, .val (undef)), (13, 38, .val (undef)), (14, 39, .val (.bool true)), (15, 40, .val (.bool true)), (16, 8, .val (.bool true))] [⟨g1_0, none, none, (), 6, (a).sc, (a).sc, 25⟩, ⟨g1_1, none, none, (), 6, (b).sc, (b).sc, 25⟩] rfl (by rfl) HH3 rfl rfl hLo rfl HS3 (slS 0 rfl rfl (slS 1 rfl rfl (slS 2 rfl rfl (slS 3 rfl rfl (slS 4 rfl rfl (slS 5 rfl rfl (slS 7 rfl rfl (slS 8 rfl rfl (slS 9 rfl rfl (slS 10 rfl rfl (slL 16 (d := 16) rfl (trivial)))))))))))) ?_ ?_
        · show ∀ i ∈ [0, 1, 2, 3, 4, 5, 6, 7, 8, 9, 10, 11, 12, 13, 14, 15, 16], _
          refine zA (zB 0 _ rfl rfl hLo rfl rfl (fun _ _ _ _ => rfl) (fun b G w hb ho => zD (.inl rfl) (zG rfl (HS3.get 8 rfl)))) ?_
          refine zA (zB 1 _ rfl rfl hLo rfl rfl (fun _ _ _ _ => rfl) (fun b G w hb ho => exec_un rfl (zC hLo 0 rfl HS3.1 rfl (hb 0 (by rfl))) (ru_not _))) ?_
          refine zA (zB 2 _ rfl rfl hLo rfl rfl (fun _ _ _ _ => rfl) (fun b G w hb ho => zD (.inl rfl) (zC hLo 1 rfl HS3.1 rfl (hb 1 (by rfl))))) ?_
          refine zA (zB 3 _ rfl rfl hLo rfl rfl (fun b G hb ho => zE rfl rfl rfl HS3.1 rfl (zC hLo 2 rfl HS3.1 rfl (hb 2 (by rfl))) rfl) (fun b G w hb ho => zD (.inl rfl) (zG rfl (HS3.get 7 rfl)))) ?_
          refine zA (zB 4 _ rfl rfl hLo rfl rfl (fun b G hb ho => zE rfl rfl rfl HS3.1 rfl (zC hLo 2 rfl HS3.1 rfl (hb 2 (by rfl))) rfl) (fun b G w hb ho => zD (.inl rfl) (zG rfl (HS3.get 3 rfl)))) ?_
          refine zA (zB 5 _ rfl rfl hLo rfl rfl (fun b G hb ho => zE rfl rfl rfl HS3.1 rfl (zC hLo 2 rfl HS3.1 rfl (hb 2 (by rfl))) rfl) (fun b G w hb ho => zI rfl (zC hLo 3 rfl HS3.1 rfl (hb 3 (by rfl))) (zC hLo 4 rfl HS3.1 rfl (hb 4 (by rfl))) (rb_leq hr4 _ _ _))) ?_
          refine zA (zB 6 _ rfl rfl hLo rfl rfl (fun _ _ _ _ => rfl) (fun b G w hb ho => zL rfl (zC hLo 2 rfl HS3.1 rfl (hb 2 (by rfl))) (zC hLo 5 rfl HS3.1 rfl (hb 5 (by rfl))))) ?_
          refine zA (zB 7 _ rfl rfl hLo rfl rfl (fun _ _ _ _ => rfl) (fun b G w hb ho => zD (.inl rfl) (zC hLo 6 rfl HS3.1 rfl (hb 6 (by rfl))))) ?_
          refine zA (zB 8 _ rfl rfl hLo rfl rfl (fun b G hb ho => zE rfl rfl rfl HS3.1 rfl (zC hLo 7 rfl HS3.1 rfl (hb 7 (by rfl))) rfl) (fun b G w hb ho => zD (.inl rfl) (zG rfl (HS3.get 10 rfl)))) ?_
          refine zA (zB 9 _ rfl rfl hLo rfl rfl (fun b G hb ho => zE rfl rfl rfl HS3.1 rfl (zC hLo 7 rfl HS3.1 rfl (hb 7 (by rfl))) rfl) (fun b G w hb ho => exec_un rfl (zC hLo 8 rfl HS3.1 rfl (hb 8 (by rfl))) (ru_not _))) ?_
          refine zA (zB 10 _ rfl rfl hLo rfl rfl (fun b G hb ho => zE rfl rfl rfl HS3.1 rfl (zC hLo 7 rfl HS3.1 rfl (hb 7 (by rfl))) rfl) (fun b G w hb ho => zD (.inl rfl) (zC hLo 9 rfl HS3.1 rfl (hb 9 (by rfl))))) ?_
          refine zA (zN 11 rfl rfl hLo rfl rfl (fun b G hb ho => zE rfl rfl rfl HS3.1 rfl (zC hLo 10 rfl HS3.1 rfl (hb 10 (by rfl))) rfl)) ?_
          refine zA (zN 12 rfl rfl hLo rfl rfl (fun b G hb ho => zE rfl rfl rfl HS3.1 rfl (zC hLo 10 rfl HS3.1 rfl (hb 10 (by rfl))) rfl)) ?_
          refine zA (zN 13 rfl rfl hLo rfl rfl (fun b G hb ho => zE rfl rfl rfl HS3.1 rfl (zC hLo 10 rfl HS3.1 rfl (hb 10 (by rfl))) rfl)) ?_
          refine zA (zB 14 _ rfl rfl hLo rfl rfl (fun b G hb ho => zE rfl rfl rfl HS3.1 rfl (zC hLo 7 rfl HS3.1 rfl (hb 7 (by rfl))) rfl) (fun b G w hb ho => zL rfl (zC hLo 10 rfl HS3.1 rfl (hb 10 (by rfl))) (rfl))) ?_
          refine zA (zB 15 _ rfl rfl hLo rfl rfl (fun _ _ _ _ => rfl) (fun b G w hb ho => zL rfl (zC hLo 7 rfl HS3.1 rfl (hb 7 (by rfl))) (zC hLo 14 rfl HS3.1 rfl (hb 14 (by rfl))))) ?_
          refine zA (zB 16 _ rfl rfl hLo rfl rfl (fun _ _ _ _ => rfl) (fun b G w hb ho => zD (.inr rfl) (zC hLo 15 rfl HS3.1 rfl (hb 15 (by rfl))))) ?_
          exact zF
        clear hLo
        intro G a7 w7 hS hH
        have HS7 : Sl a7 41 [(0, .agg (FR () 6 ((a).sc))), (1, .agg (FR () 6 ((b).sc))), (2, .string (key)), (3, .int .i64 (mine)), (4, .pointer (some ⟨g1_0, 0, none⟩)), (5, .pointer (some ⟨g1_1, 0, none⟩)), (9, .int .i64 (((a).tell key).1)), (10, .bool true), (11, .int .i64 (((b).tell key).1)), (12, .bool false), (8, .bool true)] := hS
        have HH7 : Held w w7 [⟨g1_0, (), 6, (a).sc, 25⟩, ⟨g1_1, (), 6, (b).sc, 25⟩] := hH
        clear hS hH HS3 HH3
        refine then_ ?_
        refine wp_ret ?_
        repeat (first | refine zR ?_ | refine zK ?_)
        exact b_tmp rfl HS7.2.1 (HS7.get 10 rfl) ⟨may_ret (by unfold mayB; rw [hr1, hr2, hr4]; rfl), HH7.1⟩
      · skip
        obtain ⟨r5, hr5⟩ : ∃ r : Bool, (decide ((((b).tell key).1 : Int) ≤ mine)) = r := ⟨_, rfl⟩
        refine wp_seq ?_
        have hLo : LOk [(0, 25, .val (.bool true)), (1, 26, .val (.bool false)), (2, 27, .val (.bool false)), (3, 28, .val (.int .i64 (((a).tell key).1))), (4, 29, .val (.int .i64 (mine))), (5, 30, .val (.bool true)), (6, 31, .val (.bool true)), (7, 32, .val (.bool true)), (8, 33, .val (.bool true)), (9, 34, .val (.bool false)), (10, 35, .val (.bool false)), (11, 36, .val (.int .i64 (((b).tell key).1))), (12, 37, .val (.int .i64 (mine))), (13, 38, .val (.bool r5)), (14, 39, .val (.bool r5)), (15, 40, .val (.bool r5)), (16, 8, .val (.bool r5))] := lok (by rfl) (by rfl)
        refine zH (wE := w) (sz := 41) (n := 17) [0, 1, 3, 7, 15, 31, 63, 127, 255, 511, 1023, 2047, 4095, 8191, 16383, 32767, 65535] [(0, .val (.agg (FR () 6 ((a).sc)))), (1, .val (.agg (FR () 6 ((b).sc)))), (2, .val (.string (key))), (3, .val (.int .i64 (mine))), (4, .val (.pointer (some ⟨g1_0, 0, none⟩))), (5, .val (.pointer (some ⟨g1_1, 0, none⟩))), (9, .val (.int .i64 (((a).tell key).1))), (10, .val (.bool true)), (11, .val (.int .i64 (((b).tell key).1))), (12, .val (.bool true)), (8, .val (.bool r5))] [(0, 25, .val (.bool true)), (1, 26, .val (.bool false)), (2, 27, .val (.bool false)), (3, 28, .val (.int .i64 (((a).tell key).1))), (4, 29, .val (.int .i64 (mine))), (5, 30, .val (.bool true)), (6, 31, .val (.bool true)), (7, 32, .val (.bool true)), (8, 33, .val (.bool true)), (9, 34, .val (.bool false)), (10, 35, .val (.bool false)), (11, 36, .val (.int .i64 (((b).tell key).1))), (12, 37, .val (.int .i64 (mine))), (13, 38, .val (.bool r5)), (14, 39, .val (.bool r5)), (15, 40, .val (.bool r5)), (16, 8, .val (.bool r5))] [⟨g1_0, none, none, (), 6, (a).sc, (a).sc, 25⟩, ⟨g1_1, none, none, (), 6, (b).sc, (b).sc, 25⟩] rfl (by rfl) HH3 rfl rfl hLo rfl HS3 (slS 0 rfl rfl (slS 1 rfl rfl (slS 2 rfl rfl (slS 3 rfl rfl (slS 4 rfl rfl (slS 5 rfl rfl (slS 7 rfl rfl (slS 8 rfl rfl (slS 9 rfl rfl (slS 10 rfl rfl (slL 16 (d := 16) rfl (trivial)))))))))))) ?_ ?_
        · show ∀ i ∈ [0, 1, 2, 3, 4, 5, 6, 7, 8, 9, 10, 11, 12, 13, 14, 15, 16], _
          refine zA (zB 0 _ rfl rfl hLo rfl rfl (fun _ _ _ _ => rfl) (fun b G w hb ho => zD (.inl rfl) (zG rfl (HS3.get 8 rfl)))) ?_
          refine zA (zB 1 _ rfl rfl hLo rfl rfl (fun _ _ _ _ => rfl) (fun b G w hb ho => exec_un rfl (zC hLo 0 rfl HS3.1 rfl (hb 0 (by rfl))) (ru_not _))) ?_
          refine zA (zB 2 _ rfl rfl hLo rfl rfl (fun _ _ _ _ => rfl) (fun b G w hb ho => zD (.inl rfl) (zC hLo 1 rfl HS3.1 rfl (hb 1 (by rfl))))) ?_
          refine zA (zB 3 _ rfl rfl hLo rfl rfl (fun b G hb ho => zE rfl rfl rfl HS3.1 rfl (zC hLo 2 rfl HS3.1 rfl (hb 2 (by rfl))) rfl) (fun b G w hb ho => zD (.inl rfl) (zG rfl (HS3.get 7 rfl)))) ?_
          refine zA (zB 4 _ rfl rfl hLo rfl rfl (fun b G hb ho => zE rfl rfl rfl HS3.1 rfl (zC hLo 2 rfl HS3.1 rfl (hb 2 (by rfl))) rfl) (fun b G w hb ho => zD (.inl rfl) (zG rfl (HS3.get 3 rfl)))) ?_
          refine zA (zB 5 _ rfl rfl hLo rfl rfl (fun b G hb ho => zE rfl rfl rfl HS3.1 rfl (zC hLo 2 rfl HS3.1 rfl (hb 2 (by rfl))) rfl) (fun b G w hb ho => zI rfl (zC hLo 3 rfl HS3.1 rfl (hb 3 (by rfl))) (zC hLo 4 rfl HS3.1 rfl (hb 4 (by rfl))) (rb_leq hr4 _ _ _))) ?_
          refine zA (zB 6 _ rfl rfl hLo rfl rfl (fun _ _ _ _ => rfl) (fun b G w hb ho => zL rfl (zC hLo 2 rfl HS3.1 rfl (hb 2 (by rfl))) (zC hLo 5 rfl HS3.1 rfl (hb 5 (by rfl))))) ?_
          refine zA (zB 7 _ rfl rfl hLo rfl rfl (fun _ _ _ _ => rfl) (fun b G w hb ho => zD (.inl rfl) (zC hLo 6 rfl HS3.1 rfl (hb 6 (by rfl))))) ?_
          refine zA (zB 8 _ rfl rfl hLo rfl rfl (fun b G hb ho => zE rfl rfl rfl HS3.1 rfl (zC hLo 7 rfl HS3.1 rfl (hb 7 (by rfl))) rfl) (fun b G w hb ho => zD (.inl rfl) (zG rfl (HS3.get 10 rfl)))) ?_
          refine zA (zB 9 _ rfl rfl hLo rfl rfl (fun b G hb ho => zE rfl rfl rfl HS3.1 rfl (zC hLo 7 rfl HS3.1 rfl (hb 7 (by rfl))) rfl) (fun b G w hb ho => exec_un rfl (zC hLo 8 rfl HS3.1 rfl (hb 8 (by rfl))) (ru_not _))) ?_
          refine zA (zB 10 _ rfl rfl hLo rfl rfl (fun b G hb ho => zE rfl rfl rfl HS3.1 rfl (zC hLo 7 rfl HS3.1 rfl (hb 7 (by rfl))) rfl) (fun b G w hb ho => zD (.inl rfl) (zC hLo 9 rfl HS3.1 rfl (hb 9 (by rfl))))) ?_
          refine zA (zB 11 _ rfl rfl hLo rfl rfl (fun b G hb ho => zE rfl rfl rfl HS3.1 rfl (zC hLo 10 rfl HS3.1 rfl (hb 10 (by rfl))) rfl) (fun b G w hb ho => zD (.inl rfl) (zG rfl (HS3.get 9 rfl)))) ?_
          refine zA (zB 12 _ rfl rfl hLo rfl rfl (fun b G hb ho => zE rfl rfl rfl HS3.1 rfl (zC hLo 10 rfl HS3.1 rfl (hb 10 (by rfl))) rfl) (fun b G w hb ho => zD (.inl rfl) (zG rfl (HS3.get 3 rfl)))) ?_
          refine zA (zB 13 _ rfl rfl hLo rfl rfl (fun b G hb ho => zE rfl rfl rfl HS3.1 rfl (zC hLo 10 rfl HS3.1 rfl (hb 10 (by rfl))) rfl) (fun b G w hb ho => zI rfl (zC hLo 11 rfl HS3.1 rfl (hb 11 (by rfl))) (zC hLo 12 rfl HS3.1 rfl (hb 12 (by rfl))) (rb_leq hr5 _ _ _))) ?_
          refine zA (zB 14 _ rfl rfl hLo rfl rfl (fun b G hb ho => zE rfl rfl rfl HS3.1 rfl (zC hLo 7 rfl HS3.1 rfl (hb 7 (by rfl))) rfl) (fun b G w hb ho => zL rfl (zC hLo 10 rfl HS3.1 rfl (hb 10 (by rfl))) (zC hLo 13 rfl HS3.1 rfl (hb 13 (by rfl))))) ?_
          refine zA (zB 15 _ rfl rfl hLo rfl rfl (fun _ _ _ _ => rfl) (fun b G w hb ho => zL rfl (zC hLo 7 rfl HS3.1 rfl (hb 7 (by rfl))) (zC hLo 14 rfl HS3.1 rfl (hb 14 (by rfl))))) ?_
          refine zA (zB 16 _ rfl rfl hLo rfl rfl (fun _ _ _ _ => rfl) (fun b G w hb ho => zD (.inr rfl) (zC hLo 15 rfl HS3.1 rfl (hb 15 (by rfl))))) ?_
          exact zF
        clear hLo
        intro G a8 w8 hS hH
        have HS8 : Sl a8 41 [(0, .agg (FR () 6 ((a).sc))), (1, .agg (FR () 6 ((b).sc))), (2, .string (key)), (3, .int .i64 (mine)), (4, .pointer (some ⟨g1_0, 0, none⟩)), (5, .pointer (some ⟨g1_1, 0, none⟩)), (9, .int .i64 (((a).tell key).1)), (10, .bool true), (11, .int .i64 (((b).tell key).1)), (12, .bool true), (8, .bool r5)] := hS
        have HH8 : Held w w8 [⟨g1_0, (), 6, (a).sc, 25⟩, ⟨g1_1, (), 6, (b).sc, 25⟩] := hH
        clear hS hH HS3 HH3
        refine then_ ?_
        refine wp_ret ?_
        repeat (first | refine zR ?_ | refine zK ?_)
        exact b_tmp rfl HS8.2.1 (HS8.get 10 rfl) ⟨may_ret (by unfold mayB; rw [hr1, hr2, hr4, hr5]; rfl), HH8.1⟩
theorem tables_calls (w : World) : Calls Tryd.prog 33 #[] w fun e w' => (∃ g, e = .returned (.slice (some ⟨g, 0, none⟩) 3 3) ∧ StrsAt w' (some ⟨g, 0, none⟩) 3 TN) ∧ Below w.heap.size w w' := by
  refine enter_ 2 Tryd.func33 rfl rfl (fun a0 hS => ?_)
  have HS0 : Sl a0 2 [] := hS
  have HH0 : Held w w [] := Held.first w
  clear hS
  refine wp_seq ?_
  have hLo : LOk [(0, 0, .val (.slice (none) (0) (0)))] := lok (by rfl) (by rfl)
  refine zH (wE := w) (sz := 2) (n := 1) [0] [(0, .val (.slice (none) (0) (0)))] [(0, 0, .val (.slice (none) (0) (0)))] [] rfl (by rfl) HH0 rfl rfl hLo rfl HS0 (slL 0 (d := 0) rfl (trivial)) ?_ ?_
  · show ∀ i ∈ [0], _
    refine zA (zB 0 _ rfl rfl hLo rfl rfl (fun _ _ _ _ => rfl) (fun b G w hb ho => zD (.inr rfl) (rfl))) ?_
    exact zF
  clear hLo
  intro G a1 w1 hS hH
  have HS1 : Sl a1 2 [(0, .slice (none) (0) (0))] := hS
  have HH1 : Held w w1 [] := hH
  clear hS hH HS0 HH0
  refine then_ ?_
  refine wp_seq ?_
  refine whole_ ?_
  have hLo : LOk [(0, 1, .new 0 (fun g => .slice (some ⟨g, 0, none⟩) (3) (3)))] := lok (by rfl) (by rfl)
  refine part_ (wE := w) (sz := 2) (n := 2) 0 1 [0, 1] [(0, .val (.slice (none) (0) (0))), (1, .new 0 (fun g => .slice (some ⟨g, 0, none⟩) (3) (3)))] [(0, 1, .new 0 (fun g => .slice (some ⟨g, 0, none⟩) (3) (3)))] [⟨0, some 0, none, (), 3, lsc [.s (zO), .s (k_notifications), .s (zS)], lsc [.s (zO), .s (k_notifications), .s (zS)], 9⟩] rfl rfl (by rfl) HH1 rfl rfl hLo rfl HS1 (slS 0 rfl rfl (slL 0 (d := 0) rfl (trivial))) ?_ ?_
  · show ∀ i ∈ [0], _
    refine zA (zZ 0 0 () 3 9 none _ _ rfl rfl (fun _ _ _ _ => rfl) rfl hLo rfl rfl rfl rfl (by rfl) (fun b G w hb ho => exec_buildSlice rfl (parts3 (rfl) (rfl) (rfl)) (by kernel_rfl))) ?_
    exact zF
  clear hLo
  intro G a2 w2 hS hH
  have HS2 : Sl a2 2 [(0, .slice (none) (0) (0)), (1, .slice (some ⟨(G 0), 0, none⟩) (3) (3))] := hS
  have HH2 : Held w w2 [⟨(G 0), (), 3, lsc [.s (zO), .s (k_notifications), .s (zS)], 9⟩] := hH
  clear hS hH HS1 HH1
  generalize G 0 = g2_0 at HS2 HH2
  have hLo : LOk [(1, 0, .val (.slice (some ⟨g2_0, 0, none⟩) (3) (3)))] := lok (by rfl) (by rfl)
  refine part_ (wE := w) (sz := 2) (n := 2) 1 2 [0, 1] [(0, .val (.slice (some ⟨g2_0, 0, none⟩) (3) (3)))] [(1, 0, .val (.slice (some ⟨g2_0, 0, none⟩) (3) (3)))] [⟨g2_0, none, none, (), 3, lsc [.s (zO), .s (k_notifications), .s (zS)], lsc [.s (zO), .s (k_notifications), .s (zS)], 9⟩] rfl rfl (by rfl) HH2 rfl rfl hLo rfl HS2 (slL 0 (d := 1) rfl (trivial)) ?_ ?_
  · show ∀ i ∈ [1], _
    refine zA (zB 0 _ rfl rfl hLo rfl rfl (fun _ _ _ _ => rfl) (fun b G w hb ho => zD (.inr rfl) (zG rfl (HS2.get 1 rfl)))) ?_
    exact zF
  clear hLo
  intro G a3 w3 hS hH
  have HS3 : Sl a3 2 [(0, .slice (some ⟨g2_0, 0, none⟩) (3) (3))] := hS
  have HH3 : Held w w3 [⟨g2_0, (), 3, lsc [.s (zO), .s (k_notifications), .s (zS)], 9⟩] := hH
  clear hS hH HS2 HH2
  refine end_ rfl ?_
  refine then_ ?_
  refine wp_ret ?_
  repeat (first | refine zR ?_ | refine zK ?_)
  exact b_tmp rfl HS3.2.1 (HS3.get 0 rfl) ⟨⟨g2_0, rfl, .row (HH3.row 0 rfl) tn_row⟩, HH3.1⟩
def zM : Value := .agg #[.string ByteArray.empty, .int .i64 0, .bool false, .int .i64 0, .string ByteArray.empty, .slice none 0 0, .slice none 0 0]
theorem infM : (Tryd.prog.info? 44).map (fun i => (i.zero, i.size, i.bytes)) = some (some zM, 7, 104) := by kernel_rfl
theorem zM7 : zM.cells.size = 7 := by rfl
theorem zeros_one {n : Nat} : ∀ u ∈ (Builtin.zeroCells zM.cells n).toList, u.oneCell' = true := by
  intro u hu
  unfold Builtin.zeroCells at hu
  simp only [Array.toList_map, List.mem_map] at hu
  obtain ⟨j, _, rfl⟩ := hu
  have e : zM.cells.size = 7 := rfl
  rw [e]
  have h : j % 7 = 0 ∨ j % 7 = 1 ∨ j % 7 = 2 ∨ j % 7 = 3 ∨ j % 7 = 4 ∨ j % 7 = 5 ∨ j % 7 = 6 := by omega
  rcases h with h | h | h | h | h | h | h <;> rw [h] <;> rfl
theorem grow_run {w : World} {n : Nat} (hn : n ≤ 1099511627776) (ty : TypeId) : ∃ oa c w', (Builtin.append_ #[23, 3] ty #[.slice none 0 0, .int .i64 (n : Int)]).run Tryd.prog w = .ok (.slice oa n c) w' ∧ OwnR w.heap.size w' 44 7 [] (.slice oa n c) n (Builtin.zeroCells zM.cells n).toList ∧ Below w.heap.size w w' := by
  obtain ⟨i, hi, hz, hs, hb⟩ := info_parts2 infM
  obtain ⟨v', w', hr, ho, hg, hv⟩ := run_append_zeros w w.heap.size 23 3 ty 44 i zM 7 104 Tryd.underlying23 Tryd.underlying3 hi hz hs hb zM7 (by decide) (by decide) (.slice none 0 0) 0 [] (World.ownsRow_nil _ _ _ _) .i64 n zeros_one (by omega) (Nat.le_refl _)
  rw [Nat.zero_add] at ho
  rw [List.nil_append] at ho
  have hO : OwnR w.heap.size w' 44 7 [] v' n (Builtin.zeroCells zM.cells n).toList := ⟨ho, fun g hm => by cases hm⟩
  obtain ⟨oa, c, rfl, _, _⟩ := hO.slice
  exact ⟨oa, c, w', hr, hO, (Below.refl _ w).grown hg (Nat.le_refl _) (fun k hk => by cases hk)⟩
def zT (a b : T) (i : Nat) : T := if i = 0 then a else b
theorem pick2_in {w : World} {a b : T} (ha : In w a) (hb : In w b) (i : Nat) : In w (zT a b i) := by unfold zT; split; exact ha; exact hb
def cumN (a b : T) : Nat → Nat
  | 0 => 0
  | i + 1 => cumN a b i + (zT a b i).ml
def cumC (a b : T) : Nat → List Value
  | 0 => []
  | i + 1 => cumC a b i ++ mcells (zT a b i).key (zT a b i).mem (zT a b i).ml
theorem pick2_le {a b : T} (ha : a.ml ≤ 1073741824) (hb : b.ml ≤ 1073741824) (i : Nat) : (zT a b i).ml ≤ 1073741824 := by unfold zT; split; exact ha; exact hb
theorem cumN_le {a b : T} (ha : a.ml ≤ 1073741824) (hb : b.ml ≤ 1073741824) : ∀ i, cumN a b i ≤ i * 1073741824
  | 0 => Nat.le_refl _
  | i + 1 => by
    have h1 := cumN_le ha hb i
    have h2 := pick2_le ha hb i
    show cumN a b i + (zT a b i).ml ≤ _
    omega
theorem cumN_two (a b : T) : cumN a b 2 = a.ml + b.ml := by
  show 0 + (zT a b 0).ml + (zT a b 1).ml = _
  rw [Nat.zero_add]; rfl
theorem cumC_two (a b : T) : cumC a b 2 = mcells (catK a b) (catM a b) (a.ml + b.ml) := by
  show [] ++ mcells a.key a.mem a.ml ++ mcells b.key b.mem b.ml = _
  rw [List.nil_append, mcells_add]; rfl
theorem sum_ok {a b : T} {i : Nat} (ha : a.ml ≤ 1073741824) (hb : b.ml ≤ 1073741824) (hi : i < 2) : IntKind.i64.wrap ((cumN a b i : Int) + ((zT a b (i)).ml : Int)) = (cumN a b (i + 1) : Int) := by
  have h1 := cumN_le ha hb (i + 1)
  have e : cumN a b (i + 1) = cumN a b i + (zT a b i).ml := rfl
  exact w_nat (by omega) (by omega)
theorem concat_fin {base : Nat} {w : World} {e : TypeId} {oa : Option Addr} {c : Nat} {a b : T} (h : OwnR base w e 7 [] (.slice oa (cumN a b 2) c) (cumN a b 2) (cumC a b 2)) : MemsAt w oa (a.ml + b.ml) (catK a b) (catM a b) := by
  rw [cumN_two, cumC_two] at h
  exact MemsAt.own h
theorem grow_calls (n : Nat) (hn : n ≤ 1099511627776) (w : World) : Calls Tryd.prog 43 #[.slice none 0 0, .int .i64 (n : Int)] w fun e w' => (∃ oa c, e = .returned (.slice oa 0 c) ∧ OwnR w.heap.size w' 44 7 [] (.slice oa 0 c) 0 []) ∧ Below w.heap.size w w' := by
  refine enter_ 27 Tryd.func43 rfl rfl (fun a0 hS => ?_)
  have HS0 : Sl a0 27 [(0, .slice (none) (0) (0)), (1, .int .i64 ((n : Int)))] := hS
  have HH0 : Held w w [] := Held.first w
  clear hS
  refine wp_seq ?_
  have hLo : LOk [(0, 4, .val (.slice (none) (0) (0)))] := lok (by rfl) (by rfl)
  refine zH (wE := w) (sz := 27) (n := 1) [0] [(0, .val (.slice (none) (0) (0))), (1, .val (.int .i64 ((n : Int)))), (4, .val (.slice (none) (0) (0)))] [(0, 4, .val (.slice (none) (0) (0)))] [] rfl (by rfl) HH0 rfl rfl hLo rfl HS0 (slS 0 rfl rfl (slS 1 rfl rfl (slL 0 (d := 0) rfl (trivial)))) ?_ ?_
  · show ∀ i ∈ [0], _
    refine zA (zB 0 _ rfl rfl hLo rfl rfl (fun _ _ _ _ => rfl) (fun b G w hb ho => zD (.inr rfl) (rfl))) ?_
    exact zF
  clear hLo
  intro G a1 w1 hS hH
  have HS1 : Sl a1 27 [(0, .slice (none) (0) (0)), (1, .int .i64 ((n : Int))), (4, .slice (none) (0) (0))] := hS
  have HH1 : Held w w1 [] := hH
  clear hS hH HS0 HH0
  refine then_ ?_
  refine wp_seq ?_
  refine wp_seq ?_
  have hLo : LOk [(0, 5, .val (.int .i64 ((n : Int)))), (1, 6, .val (.bool false))] := lok (by rfl) (by rfl)
  refine zH (wE := w) (sz := 27) (n := 2) [0, 1] [(0, .val (.slice (none) (0) (0))), (1, .val (.int .i64 ((n : Int)))), (4, .val (.slice (none) (0) (0))), (6, .val (.bool false))] [(0, 5, .val (.int .i64 ((n : Int)))), (1, 6, .val (.bool false))] [] rfl (by rfl) HH1 rfl rfl hLo rfl HS1 (slS 0 rfl rfl (slS 1 rfl rfl (slS 2 rfl rfl (slL 1 (d := 1) rfl (trivial))))) ?_ ?_
  · show ∀ i ∈ [0, 1], _
    refine zA (zB 0 _ rfl rfl hLo rfl rfl (fun _ _ _ _ => rfl) (fun b G w hb ho => zD (.inl rfl) (zG rfl (HS1.get 1 rfl)))) ?_
    refine zA (zB 1 _ rfl rfl hLo rfl rfl (fun _ _ _ _ => rfl) (fun b G w hb ho => zI rfl (zC hLo 0 rfl HS1.1 rfl (hb 0 (by rfl))) (rfl) (rb_lss (decide_eq_false (by omega)) _ _ _))) ?_
    exact zF
  clear hLo
  intro G a2 w2 hS hH
  have HS2 : Sl a2 27 [(0, .slice (none) (0) (0)), (1, .int .i64 ((n : Int))), (4, .slice (none) (0) (0)), (6, .bool false)] := hS
  have HH2 : Held w w2 [] := hH
  clear hS hH HS1 HH1
  refine then_ ?_
  refine wp_cond_false (HS2.get 3 rfl) ?_
  refine wp_skip ?_
  refine then_ ?_
  refine wp_seq ?_
  refine wp_seq ?_
  have hLo : LOk [(0, 8, .val (.int .i64 ((n : Int)))), (1, 9, .val (.slice (none) (0) (0))), (2, 10, .val (.int .i64 (0))), (3, 11, .val (.slice (none) (0) (0))), (4, 12, .val (.int .i64 (0))), (5, 13, .val (.int .i64 (0))), (6, 14, .val (.int .i64 ((n : Int)))), (7, 1, .val (.int .i64 ((n : Int))))] := lok (by rfl) (by rfl)
  refine zH (wE := w) (sz := 27) (n := 8) [0, 1, 3, 7, 15, 31, 63, 127] [(0, .val (.slice (none) (0) (0))), (4, .val (.slice (none) (0) (0))), (6, .val (.bool false)), (1, .val (.int .i64 ((n : Int))))] [(0, 8, .val (.int .i64 ((n : Int)))), (1, 9, .val (.slice (none) (0) (0))), (2, 10, .val (.int .i64 (0))), (3, 11, .val (.slice (none) (0) (0))), (4, 12, .val (.int .i64 (0))), (5, 13, .val (.int .i64 (0))), (6, 14, .val (.int .i64 ((n : Int)))), (7, 1, .val (.int .i64 ((n : Int))))] [] rfl (by rfl) HH2 rfl rfl hLo rfl HS2 (slS 0 rfl rfl (slS 2 rfl rfl (slS 3 rfl rfl (slL 7 (d := 7) rfl (trivial))))) ?_ ?_
  · show ∀ i ∈ [0, 1, 2, 3, 4, 5, 6, 7], _
    refine zA (zB 0 _ rfl rfl hLo rfl rfl (fun _ _ _ _ => rfl) (fun b G w hb ho => zD (.inl rfl) (ev_pre hLo 7 rfl (ho 7 (by rfl)) (HS2.get 1 rfl)))) ?_
    refine zA (zB 1 _ rfl rfl hLo rfl rfl (fun _ _ _ _ => rfl) (fun b G w hb ho => zD (.inl rfl) (zG rfl (HS2.get 0 rfl)))) ?_
    refine zA (zB 2 _ rfl rfl hLo rfl rfl (fun _ _ _ _ => rfl) (fun b G w hb ho => exec_capL Tryd.underlying23 rfl (zC hLo 1 rfl HS2.1 rfl (hb 1 (by rfl))))) ?_
    refine zA (zB 3 _ rfl rfl hLo rfl rfl (fun _ _ _ _ => rfl) (fun b G w hb ho => zD (.inl rfl) (zG rfl (HS2.get 0 rfl)))) ?_
    refine zA (zB 4 _ rfl rfl hLo rfl rfl (fun _ _ _ _ => rfl) (fun b G w hb ho => yF Tryd.underlying23 rfl (zC hLo 3 rfl HS2.1 rfl (hb 3 (by rfl))))) ?_
    refine zA (zB 5 _ rfl rfl hLo rfl rfl (fun _ _ _ _ => rfl) (fun b G w hb ho => zI rfl (zC hLo 2 rfl HS2.1 rfl (hb 2 (by rfl))) (zC hLo 4 rfl HS2.1 rfl (hb 4 (by rfl))) (rb_sub (by decide) _ _ _))) ?_
    refine zA (zB 6 _ rfl rfl hLo rfl rfl (fun _ _ _ _ => rfl) (fun b G w hb ho => zI rfl (zC hLo 0 rfl HS2.1 rfl (hb 0 (by rfl))) (zC hLo 5 rfl HS2.1 rfl (hb 5 (by rfl))) (rb_sub (w_nat (by omega) (by omega)) _ _ _))) ?_
    refine zA (zB 7 _ rfl rfl hLo rfl rfl (fun _ _ _ _ => rfl) (fun b G w hb ho => zD (.inr rfl) (zC hLo 6 rfl HS2.1 rfl (hb 6 (by rfl))))) ?_
    exact zF
  clear hLo
  intro G a3 w3 hS hH
  have HS3 : Sl a3 27 [(0, .slice (none) (0) (0)), (4, .slice (none) (0) (0)), (6, .bool false), (1, .int .i64 ((n : Int)))] := hS
  have HH3 : Held w w3 [] := hH
  clear hS hH HS2 HH2
  refine then_ ?_
  obtain ⟨r1, hr1⟩ : ∃ r : Bool, (decide ((0 : Int) < (n : Int))) = r := ⟨_, rfl⟩
  refine wp_seq ?_
  have hLo : LOk [(0, 15, .val (.int .i64 ((n : Int)))), (1, 16, .val (.bool r1))] := lok (by rfl) (by rfl)
  refine zH (wE := w) (sz := 27) (n := 2) [0, 1] [(0, .val (.slice (none) (0) (0))), (4, .val (.slice (none) (0) (0))), (6, .val (.bool false)), (1, .val (.int .i64 ((n : Int)))), (16, .val (.bool r1))] [(0, 15, .val (.int .i64 ((n : Int)))), (1, 16, .val (.bool r1))] [] rfl (by rfl) HH3 rfl rfl hLo rfl HS3 (slS 0 rfl rfl (slS 1 rfl rfl (slS 2 rfl rfl (slS 3 rfl rfl (slL 1 (d := 1) rfl (trivial)))))) ?_ ?_
  · show ∀ i ∈ [0, 1], _
    refine zA (zB 0 _ rfl rfl hLo rfl rfl (fun _ _ _ _ => rfl) (fun b G w hb ho => zD (.inl rfl) (zG rfl (HS3.get 3 rfl)))) ?_
    refine zA (zB 1 _ rfl rfl hLo rfl rfl (fun _ _ _ _ => rfl) (fun b G w hb ho => zI rfl (zC hLo 0 rfl HS3.1 rfl (hb 0 (by rfl))) (rfl) (rb_gtr hr1 _ _ _))) ?_
    exact zF
  clear hLo
  intro G a4 w4 hS hH
  have HS4 : Sl a4 27 [(0, .slice (none) (0) (0)), (4, .slice (none) (0) (0)), (6, .bool false), (1, .int .i64 ((n : Int))), (16, .bool r1)] := hS
  have HH4 : Held w w4 [] := hH
  clear hS hH HS3 HH3
  refine then_ ?_
  cases r1
  · skip
    refine wp_cond_false (HS4.get 4 rfl) ?_
    refine wp_skip ?_
    refine then_ ?_
    refine wp_seq ?_
    have hLo : LOk [(0, 26, .val (.slice (none) (0) (0))), (1, 4, .val (.slice (none) (0) (0)))] := lok (by rfl) (by rfl)
    refine zH (wE := w) (sz := 27) (n := 2) [0, 1] [(0, .val (.slice (none) (0) (0))), (6, .val (.bool false)), (1, .val (.int .i64 ((n : Int)))), (16, .val (.bool false)), (4, .val (.slice (none) (0) (0)))] [(0, 26, .val (.slice (none) (0) (0))), (1, 4, .val (.slice (none) (0) (0)))] [] rfl (by rfl) HH4 rfl rfl hLo rfl HS4 (slS 0 rfl rfl (slS 2 rfl rfl (slS 3 rfl rfl (slS 4 rfl rfl (slL 1 (d := 1) rfl (trivial)))))) ?_ ?_
    · show ∀ i ∈ [0, 1], _
      refine zA (zB 0 _ rfl rfl hLo rfl rfl (fun _ _ _ _ => rfl) (fun b G w hb ho => zD (.inl rfl) (zG rfl (HS4.get 0 rfl)))) ?_
      refine zA (zB 1 _ rfl rfl hLo rfl rfl (fun _ _ _ _ => rfl) (fun b G w hb ho => zD (.inr rfl) (zC hLo 0 rfl HS4.1 rfl (hb 0 (by rfl))))) ?_
      exact zF
    clear hLo
    intro G a5 w5 hS hH
    have HS5 : Sl a5 27 [(0, .slice (none) (0) (0)), (6, .bool false), (1, .int .i64 ((n : Int))), (16, .bool false), (4, .slice (none) (0) (0))] := hS
    have HH5 : Held w w5 [] := hH
    clear hS hH HS4 HH4
    refine then_ ?_
    refine wp_ret ?_
    repeat (first | refine zR ?_ | refine zK ?_)
    exact b_tmp rfl HS5.2.1 (HS5.get 4 rfl) ⟨⟨none, 0, rfl, OwnR.nil⟩, HH5.1⟩
  · skip
    refine wp_cond_true (HS4.get 4 rfl) ?_
    refine whole_ ?_
    have hLo : LOk [(0, 17, .val (.slice (none) (0) (0))), (1, 18, .val (.slice (none) (0) (0))), (2, 19, .val (.int .i64 (0))), (3, 20, .val (.slice (none) (0) (0))), (4, 21, .val (.int .i64 ((n : Int))))] := lok (by rfl) (by rfl)
    refine part_ (wE := w) (sz := 27) (n := 10) 0 5 [0, 1, 3, 7, 15, 31, 63, 127, 255, 511] [(0, .val (.slice (none) (0) (0))), (4, .val (.slice (none) (0) (0))), (6, .val (.bool false)), (1, .val (.int .i64 ((n : Int)))), (16, .val (.bool true)), (20, .val (.slice (none) (0) (0))), (21, .val (.int .i64 ((n : Int))))] [(0, 17, .val (.slice (none) (0) (0))), (1, 18, .val (.slice (none) (0) (0))), (2, 19, .val (.int .i64 (0))), (3, 20, .val (.slice (none) (0) (0))), (4, 21, .val (.int .i64 ((n : Int))))] [] rfl rfl (by rfl) HH4 rfl rfl hLo rfl HS4 (slS 0 rfl rfl (slS 1 rfl rfl (slS 2 rfl rfl (slS 3 rfl rfl (slS 4 rfl rfl (slL 3 (d := 3) rfl (slL 4 (d := 4) rfl (trivial)))))))) ?_ ?_
    · show ∀ i ∈ [0, 1, 2, 3, 4], _
      refine zA (zB 0 _ rfl rfl hLo rfl rfl (fun _ _ _ _ => rfl) (fun b G w hb ho => zD (.inl rfl) (zG rfl (HS4.get 0 rfl)))) ?_
      refine zA (zB 1 _ rfl rfl hLo rfl rfl (fun _ _ _ _ => rfl) (fun b G w hb ho => zD (.inl rfl) (zG rfl (HS4.get 0 rfl)))) ?_
      refine zA (zB 2 _ rfl rfl hLo rfl rfl (fun _ _ _ _ => rfl) (fun b G w hb ho => exec_capL Tryd.underlying23 rfl (zC hLo 1 rfl HS4.1 rfl (hb 1 (by rfl))))) ?_
      refine zA (zB 3 _ rfl rfl hLo rfl rfl (fun _ _ _ _ => rfl) (fun b G w hb ho => exec_slice rfl (zC hLo 0 rfl HS4.1 rfl (hb 0 (by rfl))) rfl (congrArg some (zC hLo 2 rfl HS4.1 rfl (hb 2 (by rfl)))) rfl (run_slice0 (m := 7) Tryd.underlying23 (by kernel_rfl) _))) ?_
      refine zA (zB 4 _ rfl rfl hLo rfl rfl (fun _ _ _ _ => rfl) (fun b G w hb ho => zD (.inl rfl) (zG rfl (HS4.get 3 rfl)))) ?_
      exact zF
    clear hLo
    intro G a6 w6 hS hH
    have HS6 : Sl a6 27 [(0, .slice (none) (0) (0)), (4, .slice (none) (0) (0)), (6, .bool false), (1, .int .i64 ((n : Int))), (16, .bool true), (20, .slice (none) (0) (0)), (21, .int .i64 ((n : Int)))] := hS
    have HH6 : Held w w6 [] := hH
    clear hS hH HS4 HH4
    obtain ⟨oa, c, w7, hr7, hO7, hb7⟩ := grow_run (w := w6) (n := n) (by omega) 23
    replace hO7 := (hO7.low HH6.1.size).cut0
    refine cut_run rfl rfl rfl (exec_appendMake rfl (HS6.get 5 rfl) (HS6.get 6 rfl) hr7) HS6 rfl (fun a7 hS => ?_)
    have HS8 : Sl a7 27 [(22, .slice (oa) (n) (c)), (0, .slice (none) (0) (0)), (4, .slice (none) (0) (0)), (6, .bool false), (1, .int .i64 ((n : Int))), (16, .bool true), (20, .slice (none) (0) (0)), (21, .int .i64 ((n : Int)))] := hS
    have HH8 : Held w w7 [] := HH6.call hb7
    clear hS
    have HH9 : Held w7 w7 [] := Held.first w7
    have HS9 : Sl a7 27 [(22, .slice (oa) (n) (c)), (0, .slice (none) (0) (0)), (4, .slice (none) (0) (0)), (6, .bool false), (1, .int .i64 ((n : Int))), (16, .bool true), (20, .slice (none) (0) (0)), (21, .int .i64 ((n : Int)))] := HS8
    have hLo : LOk [(6, 23, .val (.slice (none) (0) (0))), (7, 24, .val (.int .i64 (0))), (8, 25, .val (.slice (oa) (0) (c))), (9, 0, .val (.slice (oa) (0) (c)))] := lok (by rfl) (by rfl)
    refine part_ (wE := w7) (sz := 27) (n := 10) 6 10 [0, 1, 3, 7, 15, 31, 63, 127, 255, 511] [(4, .val (.slice (none) (0) (0))), (6, .val (.bool false)), (1, .val (.int .i64 ((n : Int)))), (16, .val (.bool true)), (0, .val (.slice (oa) (0) (c)))] [(6, 23, .val (.slice (none) (0) (0))), (7, 24, .val (.int .i64 (0))), (8, 25, .val (.slice (oa) (0) (c))), (9, 0, .val (.slice (oa) (0) (c)))] [] rfl rfl (by rfl) HH9 rfl rfl hLo rfl HS9 (slS 2 rfl rfl (slS 3 rfl rfl (slS 4 rfl rfl (slS 5 rfl rfl (slL 3 (d := 9) rfl (trivial)))))) ?_ ?_
    · show ∀ i ∈ [6, 7, 8, 9], _
      refine zA (zB 0 _ rfl rfl hLo rfl rfl (fun _ _ _ _ => rfl) (fun b G w hb ho => zD (.inl rfl) (ev_pre hLo 3 rfl (ho 9 (by rfl)) (HS9.get 1 rfl)))) ?_
      refine zA (zB 1 _ rfl rfl hLo rfl rfl (fun _ _ _ _ => rfl) (fun b G w hb ho => yF Tryd.underlying23 rfl (zC hLo 0 rfl HS9.1 rfl (hb 6 (by rfl))))) ?_
      refine zA (zB 2 _ rfl rfl hLo rfl rfl (fun _ _ _ _ => rfl) (fun b G w hb ho => exec_slice rfl (zG rfl (HS9.get 0 rfl)) rfl (congrArg some (zC hLo 1 rfl HS9.1 rfl (hb 7 (by rfl)))) rfl (run_slice0 (m := 7) Tryd.underlying23 (by kernel_rfl) _))) ?_
      refine zA (zB 3 _ rfl rfl hLo rfl rfl (fun _ _ _ _ => rfl) (fun b G w hb ho => zD (.inr rfl) (zC hLo 2 rfl HS9.1 rfl (hb 8 (by rfl))))) ?_
      exact zF
    clear hLo
    intro G a10 w10 hS hH
    have HS10 : Sl a10 27 [(4, .slice (none) (0) (0)), (6, .bool false), (1, .int .i64 ((n : Int))), (16, .bool true), (0, .slice (oa) (0) (c))] := hS
    have HH10 : Held w7 w10 [] := hH
    clear hS hH HS9 HH9
    refine end_ rfl ?_
    refine then_ ?_
    refine wp_seq ?_
    have hLo : LOk [(0, 26, .val (.slice (oa) (0) (c))), (1, 4, .val (.slice (oa) (0) (c)))] := lok (by rfl) (by rfl)
    refine zH (wE := w7) (sz := 27) (n := 2) [0, 1] [(6, .val (.bool false)), (1, .val (.int .i64 ((n : Int)))), (16, .val (.bool true)), (0, .val (.slice (oa) (0) (c))), (4, .val (.slice (oa) (0) (c)))] [(0, 26, .val (.slice (oa) (0) (c))), (1, 4, .val (.slice (oa) (0) (c)))] [] rfl (by rfl) HH10 rfl rfl hLo rfl HS10 (slS 1 rfl rfl (slS 2 rfl rfl (slS 3 rfl rfl (slS 4 rfl rfl (slL 1 (d := 1) rfl (trivial)))))) ?_ ?_
    · show ∀ i ∈ [0, 1], _
      refine zA (zB 0 _ rfl rfl hLo rfl rfl (fun _ _ _ _ => rfl) (fun b G w hb ho => zD (.inl rfl) (zG rfl (HS10.get 4 rfl)))) ?_
      refine zA (zB 1 _ rfl rfl hLo rfl rfl (fun _ _ _ _ => rfl) (fun b G w hb ho => zD (.inr rfl) (zC hLo 0 rfl HS10.1 rfl (hb 0 (by rfl))))) ?_
      exact zF
    clear hLo
    intro G a11 w11 hS hH
    have HS11 : Sl a11 27 [(6, .bool false), (1, .int .i64 ((n : Int))), (16, .bool true), (0, .slice (oa) (0) (c)), (4, .slice (oa) (0) (c))] := hS
    have HH11 : Held w7 w11 [] := hH
    clear hS hH HS10 HH10
    refine then_ ?_
    refine wp_ret ?_
    repeat (first | refine zR ?_ | refine zK ?_)
    have hOf := hO7.below HH11.1
    have HH12 := Held.back HH8 HH11
    exact b_tmp rfl HS11.2.1 (HS11.get 4 rfl) ⟨⟨oa, c, rfl, hOf⟩, HH12.1⟩
theorem concat_calls {p q : T} {ad : Addr} {cc : Nat} (w : World) (hmp : p.ml ≤ 1073741824) (hmq : q.ml ≤ 1073741824) (hIna : In w p) (hInb : In w q) (hA : ∀ i, i < 2 → w.cell? (ad.add (i * 1)) = some (.slice (zT p q i).xm (zT p q i).ml (zT p q i).cm)) : Calls Tryd.prog 39 #[.slice (some ad) 2 cc] w fun e w' => (∃ oa c, e = .returned (.slice oa (p.ml + q.ml) c) ∧ MemsAt w' oa (p.ml + q.ml) (catK p q) (catM p q)) ∧ Below w.heap.size w w' := by
  refine enter_ 36 Tryd.func39 rfl rfl (fun a0 hS => ?_)
  have HS0 : Sl a0 36 [(0, .slice (some ad) (2) (cc))] := hS
  have HH0 : Held w w [] := Held.first w
  clear hS
  refine wp_seq ?_
  have hLo : LOk [(0, 2, .val (.slice (none) (0) (0)))] := lok (by rfl) (by rfl)
  refine zH (wE := w) (sz := 36) (n := 1) [0] [(0, .val (.slice (some ad) (2) (cc))), (2, .val (.slice (none) (0) (0)))] [(0, 2, .val (.slice (none) (0) (0)))] [] rfl (by rfl) HH0 rfl rfl hLo rfl HS0 (slS 0 rfl rfl (slL 0 (d := 0) rfl (trivial))) ?_ ?_
  · show ∀ i ∈ [0], _
    refine zA (zB 0 _ rfl rfl hLo rfl rfl (fun _ _ _ _ => rfl) (fun b G w hb ho => zD (.inr rfl) (rfl))) ?_
    exact zF
  clear hLo
  intro G a1 w1 hS hH
  have HS1 : Sl a1 36 [(0, .slice (some ad) (2) (cc)), (2, .slice (none) (0) (0))] := hS
  have HH1 : Held w w1 [] := hH
  clear hS hH HS0 HH0
  refine then_ ?_
  refine wp_seq ?_
  have hLo : LOk [(0, 3, .val (.int .i64 (0)))] := lok (by rfl) (by rfl)
  refine zH (wE := w) (sz := 36) (n := 1) [0] [(0, .val (.slice (some ad) (2) (cc))), (2, .val (.slice (none) (0) (0))), (3, .val (.int .i64 (0)))] [(0, 3, .val (.int .i64 (0)))] [] rfl (by rfl) HH1 rfl rfl hLo rfl HS1 (slS 0 rfl rfl (slS 1 rfl rfl (slL 0 (d := 0) rfl (trivial)))) ?_ ?_
  · show ∀ i ∈ [0], _
    refine zA (zB 0 _ rfl rfl hLo rfl rfl (fun _ _ _ _ => rfl) (fun b G w hb ho => zD (.inr rfl) (rfl))) ?_
    exact zF
  clear hLo
  intro G a2 w2 hS hH
  have HS2 : Sl a2 36 [(0, .slice (some ad) (2) (cc)), (2, .slice (none) (0) (0)), (3, .int .i64 (0))] := hS
  have HH2 : Held w w2 [] := hH
  clear hS hH HS1 HH1
  refine then_ ?_
  refine wp_seq ?_
  refine wp_seq ?_
  have hLo : LOk [(0, 9, .val (.slice (some ad) (2) (cc))), (1, 10, .val (.int .i64 (2))), (2, 11, .val (.int .i64 (0)))] := lok (by rfl) (by rfl)
  refine zH (wE := w) (sz := 36) (n := 3) [0, 1, 3] [(0, .val (.slice (some ad) (2) (cc))), (2, .val (.slice (none) (0) (0))), (3, .val (.int .i64 (0))), (9, .val (.slice (some ad) (2) (cc))), (10, .val (.int .i64 (2))), (11, .val (.int .i64 (0)))] [(0, 9, .val (.slice (some ad) (2) (cc))), (1, 10, .val (.int .i64 (2))), (2, 11, .val (.int .i64 (0)))] [] rfl (by rfl) HH2 rfl rfl hLo rfl HS2 (slS 0 rfl rfl (slS 1 rfl rfl (slS 2 rfl rfl (slL 0 (d := 0) rfl (slL 1 (d := 1) rfl (slL 2 (d := 2) rfl (trivial))))))) ?_ ?_
  · show ∀ i ∈ [0, 1, 2], _
    refine zA (zB 0 _ rfl rfl hLo rfl rfl (fun _ _ _ _ => rfl) (fun b G w hb ho => zD (.inl rfl) (zG rfl (HS2.get 0 rfl)))) ?_
    refine zA (zB 1 _ rfl rfl hLo rfl rfl (fun _ _ _ _ => rfl) (fun b G w hb ho => yF Tryd.underlying64 rfl (zC hLo 0 rfl HS2.1 rfl (hb 0 (by rfl))))) ?_
    refine zA (zB 2 _ rfl rfl hLo rfl rfl (fun _ _ _ _ => rfl) (fun b G w hb ho => zD (.inl rfl) (rfl))) ?_
    exact zF
  clear hLo
  intro G a3 w3 hS hH
  have HS3 : Sl a3 36 [(0, .slice (some ad) (2) (cc)), (2, .slice (none) (0) (0)), (3, .int .i64 (0)), (9, .slice (some ad) (2) (cc)), (10, .int .i64 (2)), (11, .int .i64 (0))] := hS
  have HH3 : Held w w3 [] := hH
  clear hS hH HS2 HH2
  refine then_ ?_
  refine wp_block ?_
  have hSq0 : Sl _ 36 [(0, .slice (some ad) (2) (cc)), (2, .slice (none) (0) (0)), (9, .slice (some ad) (2) (cc)), (10, .int .i64 (2)), (11, .int .i64 (0)), (3, .int .i64 (0))] := yA HS3 [0, 1, 3, 4, 5, 2] (by rfl)
  refine wp_loop (fun a w' => ∃ i : Nat, i ≤ 2 ∧ Sl a 36 [(0, .slice (some ad) (2) (cc)), (2, .slice (none) (0) (0)), (9, .slice (some ad) (2) (cc)), (10, .int .i64 (2)), (11, .int .i64 ((i : Int))), (3, .int .i64 ((cumN p q i : Int)))] ∧ Held w w' []) (fun a w' => 2 - (intOf (a.eval (.tmp 11))).toNat) ⟨0, Nat.zero_le _, hSq0, HH3⟩ ?_
  clear hSq0 HS3 HH3
  rintro aq0 wq0 ⟨i, hi, HSq0, HHq0⟩
  have hm : (intOf (aq0.eval (.tmp 11))).toNat = i := by rw [(HSq0.get 4 rfl)]; rfl
  rw [hm]
  clear hm
  obtain ⟨r1, hr1⟩ : ∃ r : Bool, (decide (((i : Int) : Int) < 2)) = r := ⟨_, rfl⟩
  refine wp_seq ?_
  have hLo : LOk [(0, 12, .val (.bool r1))] := lok (by rfl) (by rfl)
  refine zH (wE := w) (sz := 36) (n := 1) [0] [(0, .val (.slice (some ad) (2) (cc))), (2, .val (.slice (none) (0) (0))), (9, .val (.slice (some ad) (2) (cc))), (10, .val (.int .i64 (2))), (11, .val (.int .i64 ((i : Int)))), (3, .val (.int .i64 ((cumN p q i : Int)))), (12, .val (.bool r1))] [(0, 12, .val (.bool r1))] [] rfl (by rfl) HHq0 rfl rfl hLo rfl HSq0 (slS 0 rfl rfl (slS 1 rfl rfl (slS 2 rfl rfl (slS 3 rfl rfl (slS 4 rfl rfl (slS 5 rfl rfl (slL 0 (d := 0) rfl (trivial)))))))) ?_ ?_
  · show ∀ i ∈ [0], _
    refine zA (zB 0 _ rfl rfl hLo rfl rfl (fun _ _ _ _ => rfl) (fun b G w hb ho => zI rfl (zG rfl (HSq0.get 4 rfl)) (zG rfl (HSq0.get 3 rfl)) (rb_lss hr1 _ _ _))) ?_
    exact zF
  clear hLo
  intro G a4 w4 hS hH
  have HS4 : Sl a4 36 [(0, .slice (some ad) (2) (cc)), (2, .slice (none) (0) (0)), (9, .slice (some ad) (2) (cc)), (10, .int .i64 (2)), (11, .int .i64 ((i : Int))), (3, .int .i64 ((cumN p q i : Int))), (12, .bool r1)] := hS
  have HH4 : Held w w4 [] := hH
  clear hS hH HSq0 HHq0
  refine then_ ?_
  refine wp_seq ?_
  cases r1
  · skip
    obtain rfl : i = 2 := by have := of_decide_eq_false hr1; omega
    refine wp_cond_false (HS4.get 6 rfl) ?_
    refine wp_exit ?_
    refine zY ?_
    refine zY ?_
    refine yE ?_
    refine then_ ?_
    refine wp_seq ?_
    refine whole_ ?_
    have hLo : LOk [(0, 23, .val (.int .i64 ((cumN p q 2 : Int))))] := lok (by rfl) (by rfl)
    refine part_ (wE := w) (sz := 36) (n := 3) 0 1 [0, 1, 3] [(0, .val (.slice (some ad) (2) (cc))), (2, .val (.slice (none) (0) (0))), (9, .val (.slice (some ad) (2) (cc))), (10, .val (.int .i64 (2))), (11, .val (.int .i64 (((2 : Nat) : Int)))), (3, .val (.int .i64 ((cumN p q 2 : Int)))), (12, .val (.bool false)), (23, .val (.int .i64 ((cumN p q 2 : Int))))] [(0, 23, .val (.int .i64 ((cumN p q 2 : Int))))] [] rfl rfl (by rfl) HH4 rfl rfl hLo rfl HS4 (slS 0 rfl rfl (slS 1 rfl rfl (slS 2 rfl rfl (slS 3 rfl rfl (slS 4 rfl rfl (slS 5 rfl rfl (slS 6 rfl rfl (slL 0 (d := 0) rfl (trivial))))))))) ?_ ?_
    · show ∀ i ∈ [0], _
      refine zA (zB 0 _ rfl rfl hLo rfl rfl (fun _ _ _ _ => rfl) (fun b G w hb ho => zD (.inl rfl) (zG rfl (HS4.get 5 rfl)))) ?_
      exact zF
    clear hLo
    intro G a5 w5 hS hH
    have HS5 : Sl a5 36 [(0, .slice (some ad) (2) (cc)), (2, .slice (none) (0) (0)), (9, .slice (some ad) (2) (cc)), (10, .int .i64 (2)), (11, .int .i64 (((2 : Nat) : Int))), (3, .int .i64 ((cumN p q 2 : Int))), (12, .bool false), (23, .int .i64 ((cumN p q 2 : Int)))] := hS
    have HH5 : Held w w5 [] := hH
    clear hS hH HS4 HH4
    have hcn := cumN_le hmp hmq 2
    refine cut_call _ rfl rfl rfl rfl Tryd.func43 rfl rfl (args2 rfl (HS5.get 7 rfl)) (grow_calls (cumN p q 2) (by omega) _) HS5 rfl ?_
    rintro e6 w6 ⟨⟨oa, cp, rfl, hOg⟩, hbg⟩
    refine ⟨_, rfl, fun a6 hS => ?_⟩
    have HS7 : Sl a6 36 [(24, .slice (oa) (0) (cp)), (0, .slice (some ad) (2) (cc)), (2, .slice (none) (0) (0)), (9, .slice (some ad) (2) (cc)), (10, .int .i64 (2)), (11, .int .i64 (((2 : Nat) : Int))), (3, .int .i64 ((cumN p q 2 : Int))), (12, .bool false), (23, .int .i64 ((cumN p q 2 : Int)))] := hS
    have HH7 : Held w w6 [] := HH5.call hbg
    clear hS
    replace hOg := hOg.low HH5.1.size
    have hA_8 := fun i hi => bel_kept HH7.1 _ _ (hA i hi)
    have hIna_8 := hIna.below HH7.1
    have hInb_8 := hInb.below HH7.1
    have HH8 : Held w6 w6 [] := Held.first w6
    have HS8 : Sl a6 36 [(24, .slice (oa) (0) (cp)), (0, .slice (some ad) (2) (cc)), (2, .slice (none) (0) (0)), (9, .slice (some ad) (2) (cc)), (10, .int .i64 (2)), (11, .int .i64 (((2 : Nat) : Int))), (3, .int .i64 ((cumN p q 2 : Int))), (12, .bool false), (23, .int .i64 ((cumN p q 2 : Int)))] := HS7
    have hLo : LOk [(2, 6, .val (.slice (oa) (0) (cp)))] := lok (by rfl) (by rfl)
    refine part_ (wE := w6) (sz := 36) (n := 3) 2 3 [0, 1, 3] [(0, .val (.slice (some ad) (2) (cc))), (2, .val (.slice (none) (0) (0))), (9, .val (.slice (some ad) (2) (cc))), (10, .val (.int .i64 (2))), (11, .val (.int .i64 (((2 : Nat) : Int)))), (3, .val (.int .i64 ((cumN p q 2 : Int)))), (12, .val (.bool false)), (6, .val (.slice (oa) (0) (cp)))] [(2, 6, .val (.slice (oa) (0) (cp)))] [] rfl rfl (by rfl) HH8 rfl rfl hLo rfl HS8 (slS 1 rfl rfl (slS 2 rfl rfl (slS 3 rfl rfl (slS 4 rfl rfl (slS 5 rfl rfl (slS 6 rfl rfl (slS 7 rfl rfl (slL 0 (d := 2) rfl (trivial))))))))) ?_ ?_
    · show ∀ i ∈ [2], _
      refine zA (zB 0 _ rfl rfl hLo rfl rfl (fun _ _ _ _ => rfl) (fun b G w hb ho => zD (.inr rfl) (zG rfl (HS8.get 0 rfl)))) ?_
      exact zF
    clear hLo
    intro G a9 w9 hS hH
    have HS9 : Sl a9 36 [(0, .slice (some ad) (2) (cc)), (2, .slice (none) (0) (0)), (9, .slice (some ad) (2) (cc)), (10, .int .i64 (2)), (11, .int .i64 (((2 : Nat) : Int))), (3, .int .i64 ((cumN p q 2 : Int))), (12, .bool false), (6, .slice (oa) (0) (cp))] := hS
    have HH9 : Held w6 w9 [] := hH
    clear hS hH HS8 HH8
    refine end_ rfl ?_
    refine then_ ?_
    refine wp_seq ?_
    refine wp_seq ?_
    have hLo : LOk [(0, 25, .val (.slice (some ad) (2) (cc))), (1, 26, .val (.int .i64 (2))), (2, 27, .val (.int .i64 (0)))] := lok (by rfl) (by rfl)
    refine zH (wE := w6) (sz := 36) (n := 3) [0, 1, 3] [(0, .val (.slice (some ad) (2) (cc))), (2, .val (.slice (none) (0) (0))), (9, .val (.slice (some ad) (2) (cc))), (10, .val (.int .i64 (2))), (11, .val (.int .i64 (((2 : Nat) : Int)))), (3, .val (.int .i64 ((cumN p q 2 : Int)))), (12, .val (.bool false)), (6, .val (.slice (oa) (0) (cp))), (25, .val (.slice (some ad) (2) (cc))), (26, .val (.int .i64 (2))), (27, .val (.int .i64 (0)))] [(0, 25, .val (.slice (some ad) (2) (cc))), (1, 26, .val (.int .i64 (2))), (2, 27, .val (.int .i64 (0)))] [] rfl (by rfl) HH9 rfl rfl hLo rfl HS9 (slS 0 rfl rfl (slS 1 rfl rfl (slS 2 rfl rfl (slS 3 rfl rfl (slS 4 rfl rfl (slS 5 rfl rfl (slS 6 rfl rfl (slS 7 rfl rfl (slL 0 (d := 0) rfl (slL 1 (d := 1) rfl (slL 2 (d := 2) rfl (trivial)))))))))))) ?_ ?_
    · show ∀ i ∈ [0, 1, 2], _
      refine zA (zB 0 _ rfl rfl hLo rfl rfl (fun _ _ _ _ => rfl) (fun b G w hb ho => zD (.inl rfl) (zG rfl (HS9.get 0 rfl)))) ?_
      refine zA (zB 1 _ rfl rfl hLo rfl rfl (fun _ _ _ _ => rfl) (fun b G w hb ho => yF Tryd.underlying64 rfl (zC hLo 0 rfl HS9.1 rfl (hb 0 (by rfl))))) ?_
      refine zA (zB 2 _ rfl rfl hLo rfl rfl (fun _ _ _ _ => rfl) (fun b G w hb ho => zD (.inl rfl) (rfl))) ?_
      exact zF
    clear hLo
    intro G a10 w10 hS hH
    have HS10 : Sl a10 36 [(0, .slice (some ad) (2) (cc)), (2, .slice (none) (0) (0)), (9, .slice (some ad) (2) (cc)), (10, .int .i64 (2)), (11, .int .i64 (((2 : Nat) : Int))), (3, .int .i64 ((cumN p q 2 : Int))), (12, .bool false), (6, .slice (oa) (0) (cp)), (25, .slice (some ad) (2) (cc)), (26, .int .i64 (2)), (27, .int .i64 (0))] := hS
    have HH10 : Held w6 w10 [] := hH
    clear hS hH HS9 HH9
    refine then_ ?_
    refine wp_block ?_
    have hOg := hOg.below HH10.1
    have HH11 := Held.back HH7 HH10
    have hSq1 : Sl _ 36 [(0, .slice (some ad) (2) (cc)), (2, .slice (none) (0) (0)), (9, .slice (some ad) (2) (cc)), (10, .int .i64 (2)), (11, .int .i64 (((2 : Nat) : Int))), (3, .int .i64 ((cumN p q 2 : Int))), (12, .bool false), (25, .slice (some ad) (2) (cc)), (26, .int .i64 (2)), (27, .int .i64 (0)), (6, .slice (oa) (0) (cp))] := yA HS10 [0, 1, 2, 3, 4, 5, 6, 8, 9, 10, 7] (by rfl)
    refine wp_loop (fun a w' => ∃ j : Nat, ∃ oa : Option Addr, ∃ cp : Nat, j ≤ 2 ∧ OwnR w.heap.size w' 44 7 [] (.slice oa (cumN p q j) cp) (cumN p q j) (cumC p q j) ∧ Sl a 36 [(0, .slice (some ad) (2) (cc)), (2, .slice (none) (0) (0)), (9, .slice (some ad) (2) (cc)), (10, .int .i64 (2)), (11, .int .i64 (((2 : Nat) : Int))), (3, .int .i64 ((cumN p q 2 : Int))), (12, .bool false), (25, .slice (some ad) (2) (cc)), (26, .int .i64 (2)), (27, .int .i64 ((j : Int))), (6, .slice (oa) (cumN p q j) (cp))] ∧ Held w w' []) (fun a w' => 2 - (intOf (a.eval (.tmp 27))).toNat) ⟨0, oa, cp, Nat.zero_le _, hOg, hSq1, HH11⟩ ?_
    clear hSq1 HS10 HH11
    rintro aq1 wq1 ⟨j, oa, cp, hj, hO, HSq1, HHq1⟩
    have hm : (intOf (aq1.eval (.tmp 27))).toNat = j := by rw [(HSq1.get 9 rfl)]; rfl
    rw [hm]
    clear hm
    have hA_12 := fun i hi => bel_kept HHq1.1 _ _ (hA i hi)
    have hIna_12 := hIna.below HHq1.1
    have hInb_12 := hInb.below HHq1.1
    have HH12 : Held wq1 wq1 [] := Held.first wq1
    have HS12 : Sl aq1 36 [(0, .slice (some ad) (2) (cc)), (2, .slice (none) (0) (0)), (9, .slice (some ad) (2) (cc)), (10, .int .i64 (2)), (11, .int .i64 (((2 : Nat) : Int))), (3, .int .i64 ((cumN p q 2 : Int))), (12, .bool false), (25, .slice (some ad) (2) (cc)), (26, .int .i64 (2)), (27, .int .i64 ((j : Int))), (6, .slice (oa) (cumN p q j) (cp))] := HSq1
    obtain ⟨r2, hr2⟩ : ∃ r : Bool, (decide (((j : Int) : Int) < 2)) = r := ⟨_, rfl⟩
    refine wp_seq ?_
    have hLo : LOk [(0, 28, .val (.bool r2))] := lok (by rfl) (by rfl)
    refine zH (wE := wq1) (sz := 36) (n := 1) [0] [(0, .val (.slice (some ad) (2) (cc))), (2, .val (.slice (none) (0) (0))), (9, .val (.slice (some ad) (2) (cc))), (10, .val (.int .i64 (2))), (11, .val (.int .i64 (((2 : Nat) : Int)))), (3, .val (.int .i64 ((cumN p q 2 : Int)))), (12, .val (.bool false)), (25, .val (.slice (some ad) (2) (cc))), (26, .val (.int .i64 (2))), (27, .val (.int .i64 ((j : Int)))), (6, .val (.slice (oa) (cumN p q j) (cp))), (28, .val (.bool r2))] [(0, 28, .val (.bool r2))] [] rfl (by rfl) HH12 rfl rfl hLo rfl HS12 (slS 0 rfl rfl (slS 1 rfl rfl (slS 2 rfl rfl (slS 3 rfl rfl (slS 4 rfl rfl (slS 5 rfl rfl (slS 6 rfl rfl (slS 7 rfl rfl (slS 8 rfl rfl (slS 9 rfl rfl (slS 10 rfl rfl (slL 0 (d := 0) rfl (trivial))))))))))))) ?_ ?_
    · show ∀ i ∈ [0], _
      refine zA (zB 0 _ rfl rfl hLo rfl rfl (fun _ _ _ _ => rfl) (fun b G w hb ho => zI rfl (zG rfl (HS12.get 9 rfl)) (zG rfl (HS12.get 8 rfl)) (rb_lss hr2 _ _ _))) ?_
      exact zF
    clear hLo
    intro G a13 w13 hS hH
    have HS13 : Sl a13 36 [(0, .slice (some ad) (2) (cc)), (2, .slice (none) (0) (0)), (9, .slice (some ad) (2) (cc)), (10, .int .i64 (2)), (11, .int .i64 (((2 : Nat) : Int))), (3, .int .i64 ((cumN p q 2 : Int))), (12, .bool false), (25, .slice (some ad) (2) (cc)), (26, .int .i64 (2)), (27, .int .i64 ((j : Int))), (6, .slice (oa) (cumN p q j) (cp)), (28, .bool r2)] := hS
    have HH13 : Held wq1 w13 [] := hH
    clear hS hH HS12 HH12
    refine then_ ?_
    refine wp_seq ?_
    cases r2
    · skip
      obtain rfl : j = 2 := by have := of_decide_eq_false hr2; omega
      refine wp_cond_false (HS13.get 11 rfl) ?_
      refine wp_exit ?_
      refine zY ?_
      refine zY ?_
      refine yE ?_
      refine then_ ?_
      refine wp_seq ?_
      have hLo : LOk [(0, 35, .val (.slice (oa) (cumN p q 2) (cp))), (1, 2, .val (.slice (oa) (cumN p q 2) (cp)))] := lok (by rfl) (by rfl)
      refine zH (wE := wq1) (sz := 36) (n := 2) [0, 1] [(0, .val (.slice (some ad) (2) (cc))), (9, .val (.slice (some ad) (2) (cc))), (10, .val (.int .i64 (2))), (11, .val (.int .i64 (((2 : Nat) : Int)))), (3, .val (.int .i64 ((cumN p q 2 : Int)))), (12, .val (.bool false)), (25, .val (.slice (some ad) (2) (cc))), (26, .val (.int .i64 (2))), (27, .val (.int .i64 (((2 : Nat) : Int)))), (6, .val (.slice (oa) (cumN p q 2) (cp))), (28, .val (.bool false)), (2, .val (.slice (oa) (cumN p q 2) (cp)))] [(0, 35, .val (.slice (oa) (cumN p q 2) (cp))), (1, 2, .val (.slice (oa) (cumN p q 2) (cp)))] [] rfl (by rfl) HH13 rfl rfl hLo rfl HS13 (slS 0 rfl rfl (slS 2 rfl rfl (slS 3 rfl rfl (slS 4 rfl rfl (slS 5 rfl rfl (slS 6 rfl rfl (slS 7 rfl rfl (slS 8 rfl rfl (slS 9 rfl rfl (slS 10 rfl rfl (slS 11 rfl rfl (slL 1 (d := 1) rfl (trivial))))))))))))) ?_ ?_
      · show ∀ i ∈ [0, 1], _
        refine zA (zB 0 _ rfl rfl hLo rfl rfl (fun _ _ _ _ => rfl) (fun b G w hb ho => zD (.inl rfl) (zG rfl (HS13.get 10 rfl)))) ?_
        refine zA (zB 1 _ rfl rfl hLo rfl rfl (fun _ _ _ _ => rfl) (fun b G w hb ho => zD (.inr rfl) (zC hLo 0 rfl HS13.1 rfl (hb 0 (by rfl))))) ?_
        exact zF
      clear hLo
      intro G a14 w14 hS hH
      have HS14 : Sl a14 36 [(0, .slice (some ad) (2) (cc)), (9, .slice (some ad) (2) (cc)), (10, .int .i64 (2)), (11, .int .i64 (((2 : Nat) : Int))), (3, .int .i64 ((cumN p q 2 : Int))), (12, .bool false), (25, .slice (some ad) (2) (cc)), (26, .int .i64 (2)), (27, .int .i64 (((2 : Nat) : Int))), (6, .slice (oa) (cumN p q 2) (cp)), (28, .bool false), (2, .slice (oa) (cumN p q 2) (cp))] := hS
      have HH14 : Held wq1 w14 [] := hH
      clear hS hH HS13 HH13
      refine then_ ?_
      refine wp_ret ?_
      repeat (first | refine zR ?_ | refine zK ?_)
      have hOf := hO.below HH14.1
      have HH15 := Held.back HHq1 HH14
      exact b_tmp rfl HS14.2.1 (HS14.get 11 rfl) ⟨⟨oa, cp, by rw [cumN_two], concat_fin hOf⟩, HH15.1⟩
    · skip
      have hltj : j < 2 := by have := of_decide_eq_true hr2; omega
      refine wp_cond_true (HS13.get 11 rfl) ?_
      refine wp_skip ?_
      refine then_ ?_
      refine wp_seq ?_
      refine wp_block ?_
      refine wp_seq ?_
      have hLo : LOk [(0, 29, .val (.pointer (some (ad.add ((j) * 1))))), (1, 30, .val (.slice ((zT p q (j)).xm) ((zT p q (j)).ml) ((zT p q (j)).cm))), (2, 8, .val (.slice ((zT p q (j)).xm) ((zT p q (j)).ml) ((zT p q (j)).cm)))] := lok (by rfl) (by rfl)
      refine zH (wE := wq1) (sz := 36) (n := 3) [0, 1, 3] [(0, .val (.slice (some ad) (2) (cc))), (2, .val (.slice (none) (0) (0))), (9, .val (.slice (some ad) (2) (cc))), (10, .val (.int .i64 (2))), (11, .val (.int .i64 (((2 : Nat) : Int)))), (3, .val (.int .i64 ((cumN p q 2 : Int)))), (12, .val (.bool false)), (25, .val (.slice (some ad) (2) (cc))), (26, .val (.int .i64 (2))), (27, .val (.int .i64 ((j : Int)))), (6, .val (.slice (oa) (cumN p q j) (cp))), (28, .val (.bool true)), (8, .val (.slice ((zT p q (j)).xm) ((zT p q (j)).ml) ((zT p q (j)).cm)))] [(0, 29, .val (.pointer (some (ad.add ((j) * 1))))), (1, 30, .val (.slice ((zT p q (j)).xm) ((zT p q (j)).ml) ((zT p q (j)).cm))), (2, 8, .val (.slice ((zT p q (j)).xm) ((zT p q (j)).ml) ((zT p q (j)).cm)))] [] rfl (by rfl) HH13 rfl rfl hLo rfl HS13 (slS 0 rfl rfl (slS 1 rfl rfl (slS 2 rfl rfl (slS 3 rfl rfl (slS 4 rfl rfl (slS 5 rfl rfl (slS 6 rfl rfl (slS 7 rfl rfl (slS 8 rfl rfl (slS 9 rfl rfl (slS 10 rfl rfl (slS 11 rfl rfl (slL 2 (d := 2) rfl (trivial)))))))))))))) ?_ ?_
      · show ∀ i ∈ [0, 1, 2], _
        refine zA (zB 0 _ rfl rfl hLo rfl rfl (fun _ _ _ _ => rfl) (fun b G w hb ho => zU rfl (zG rfl (HS13.get 7 rfl)) (zG rfl (HS13.get 9 rfl)) (index_sl Tryd.underlying64 (by kernel_rfl) rfl hltj _))) ?_
        refine zA (st_at1 1 (ad.add ((j) * 1)) _ rfl rfl rfl (fun _ _ _ _ => rfl) hLo rfl rfl Tryd.underlying23 rfl ((hA_12 j hltj)) (fun b G hb ho => zC hLo 0 rfl HS13.1 rfl (hb 0 (by rfl)))) ?_
        refine zA (zB 2 _ rfl rfl hLo rfl rfl (fun _ _ _ _ => rfl) (fun b G w hb ho => zD (.inr rfl) (zC hLo 1 rfl HS13.1 rfl (hb 1 (by rfl))))) ?_
        exact zF
      clear hLo
      intro G a16 w16 hS hH
      have HS16 : Sl a16 36 [(0, .slice (some ad) (2) (cc)), (2, .slice (none) (0) (0)), (9, .slice (some ad) (2) (cc)), (10, .int .i64 (2)), (11, .int .i64 (((2 : Nat) : Int))), (3, .int .i64 ((cumN p q 2 : Int))), (12, .bool false), (25, .slice (some ad) (2) (cc)), (26, .int .i64 (2)), (27, .int .i64 ((j : Int))), (6, .slice (oa) (cumN p q j) (cp)), (28, .bool true), (8, .slice ((zT p q (j)).xm) ((zT p q (j)).ml) ((zT p q (j)).cm))] := hS
      have HH16 : Held wq1 w16 [] := hH
      clear hS hH HS13 HH13
      refine then_ ?_
      refine whole_ ?_
      have hLo : LOk [(0, 31, .val (.slice (oa) (cumN p q j) (cp))), (1, 32, .val (.slice ((zT p q (j)).xm) ((zT p q (j)).ml) ((zT p q (j)).cm)))] := lok (by rfl) (by rfl)
      refine part_ (wE := wq1) (sz := 36) (n := 4) 0 2 [0, 1, 3, 7] [(0, .val (.slice (some ad) (2) (cc))), (2, .val (.slice (none) (0) (0))), (9, .val (.slice (some ad) (2) (cc))), (10, .val (.int .i64 (2))), (11, .val (.int .i64 (((2 : Nat) : Int)))), (3, .val (.int .i64 ((cumN p q 2 : Int)))), (12, .val (.bool false)), (25, .val (.slice (some ad) (2) (cc))), (26, .val (.int .i64 (2))), (27, .val (.int .i64 ((j : Int)))), (6, .val (.slice (oa) (cumN p q j) (cp))), (28, .val (.bool true)), (8, .val (.slice ((zT p q (j)).xm) ((zT p q (j)).ml) ((zT p q (j)).cm))), (31, .val (.slice (oa) (cumN p q j) (cp))), (32, .val (.slice ((zT p q (j)).xm) ((zT p q (j)).ml) ((zT p q (j)).cm)))] [(0, 31, .val (.slice (oa) (cumN p q j) (cp))), (1, 32, .val (.slice ((zT p q (j)).xm) ((zT p q (j)).ml) ((zT p q (j)).cm)))] [] rfl rfl (by rfl) HH16 rfl rfl hLo rfl HS16 (slS 0 rfl rfl (slS 1 rfl rfl (slS 2 rfl rfl (slS 3 rfl rfl (slS 4 rfl rfl (slS 5 rfl rfl (slS 6 rfl rfl (slS 7 rfl rfl (slS 8 rfl rfl (slS 9 rfl rfl (slS 10 rfl rfl (slS 11 rfl rfl (slS 12 rfl rfl (slL 0 (d := 0) rfl (slL 1 (d := 1) rfl (trivial)))))))))))))))) ?_ ?_
      · show ∀ i ∈ [0, 1], _
        refine zA (zB 0 _ rfl rfl hLo rfl rfl (fun _ _ _ _ => rfl) (fun b G w hb ho => zD (.inl rfl) (zG rfl (HS16.get 10 rfl)))) ?_
        refine zA (zB 1 _ rfl rfl hLo rfl rfl (fun _ _ _ _ => rfl) (fun b G w hb ho => zD (.inl rfl) (zG rfl (HS16.get 12 rfl)))) ?_
        exact zF
      clear hLo
      intro G a17 w17 hS hH
      have HS17 : Sl a17 36 [(0, .slice (some ad) (2) (cc)), (2, .slice (none) (0) (0)), (9, .slice (some ad) (2) (cc)), (10, .int .i64 (2)), (11, .int .i64 (((2 : Nat) : Int))), (3, .int .i64 ((cumN p q 2 : Int))), (12, .bool false), (25, .slice (some ad) (2) (cc)), (26, .int .i64 (2)), (27, .int .i64 ((j : Int))), (6, .slice (oa) (cumN p q j) (cp)), (28, .bool true), (8, .slice ((zT p q (j)).xm) ((zT p q (j)).ml) ((zT p q (j)).cm)), (31, .slice (oa) (cumN p q j) (cp)), (32, .slice ((zT p q (j)).xm) ((zT p q (j)).ml) ((zT p q (j)).cm))] := hS
      have HH17 : Held wq1 w17 [] := hH
      clear hS hH HS16 HH16
      have hcj := cumN_le hmp hmq j
      have hpj := pick2_le hmp hmq j
      have hOw18 := hO.below HH17.1
      have hSr18 := (MemsAt.tree ((pick2_in hIna_12 hInb_12 j).below HH17.1)).src (c := (zT p q j).cm) Tryd.underlying23
      have HH19 := Held.back HHq1 HH17
      refine cut_append (wE := w) rfl rfl rfl rfl (HS17.get 13 rfl) (HS17.get 14 rfl) Tryd.underlying23 infM zM7 hOw18 hSr18 (by unfold maxLen; omega) (by omega) HH19 rfl HS17 rfl ?_
      intro oa18 c18 w18 hO18 hH18 a18 hS
      have HS20 : Sl a18 36 [(33, .slice (oa18) (cumN p q (j + 1)) (c18)), (0, .slice (some ad) (2) (cc)), (2, .slice (none) (0) (0)), (9, .slice (some ad) (2) (cc)), (10, .int .i64 (2)), (11, .int .i64 (((2 : Nat) : Int))), (3, .int .i64 ((cumN p q 2 : Int))), (12, .bool false), (25, .slice (some ad) (2) (cc)), (26, .int .i64 (2)), (27, .int .i64 ((j : Int))), (6, .slice (oa) (cumN p q j) (cp)), (28, .bool true), (8, .slice ((zT p q (j)).xm) ((zT p q (j)).ml) ((zT p q (j)).cm)), (31, .slice (oa) (cumN p q j) (cp)), (32, .slice ((zT p q (j)).xm) ((zT p q (j)).ml) ((zT p q (j)).cm))] := hS
      have HH20 : Held w w18 [] := hH18
      clear hS
      have hA_21 := fun i hi => bel_kept HH20.1 _ _ (hA i hi)
      have hIna_21 := hIna.below HH20.1
      have hInb_21 := hInb.below HH20.1
      have HH21 : Held w18 w18 [] := Held.first w18
      have HS21 : Sl a18 36 [(33, .slice (oa18) (cumN p q (j + 1)) (c18)), (0, .slice (some ad) (2) (cc)), (2, .slice (none) (0) (0)), (9, .slice (some ad) (2) (cc)), (10, .int .i64 (2)), (11, .int .i64 (((2 : Nat) : Int))), (3, .int .i64 ((cumN p q 2 : Int))), (12, .bool false), (25, .slice (some ad) (2) (cc)), (26, .int .i64 (2)), (27, .int .i64 ((j : Int))), (6, .slice (oa) (cumN p q j) (cp)), (28, .bool true), (8, .slice ((zT p q (j)).xm) ((zT p q (j)).ml) ((zT p q (j)).cm)), (31, .slice (oa) (cumN p q j) (cp)), (32, .slice ((zT p q (j)).xm) ((zT p q (j)).ml) ((zT p q (j)).cm))] := HS20
      have hLo : LOk [(3, 6, .val (.slice (oa18) (cumN p q (j + 1)) (c18)))] := lok (by rfl) (by rfl)
      refine part_ (wE := w18) (sz := 36) (n := 4) 3 4 [0, 1, 3, 7] [(0, .val (.slice (some ad) (2) (cc))), (2, .val (.slice (none) (0) (0))), (9, .val (.slice (some ad) (2) (cc))), (10, .val (.int .i64 (2))), (11, .val (.int .i64 (((2 : Nat) : Int)))), (3, .val (.int .i64 ((cumN p q 2 : Int)))), (12, .val (.bool false)), (25, .val (.slice (some ad) (2) (cc))), (26, .val (.int .i64 (2))), (27, .val (.int .i64 ((j : Int)))), (28, .val (.bool true)), (8, .val (.slice ((zT p q (j)).xm) ((zT p q (j)).ml) ((zT p q (j)).cm))), (6, .val (.slice (oa18) (cumN p q (j + 1)) (c18)))] [(3, 6, .val (.slice (oa18) (cumN p q (j + 1)) (c18)))] [] rfl rfl (by rfl) HH21 rfl rfl hLo rfl HS21 (slS 1 rfl rfl (slS 2 rfl rfl (slS 3 rfl rfl (slS 4 rfl rfl (slS 5 rfl rfl (slS 6 rfl rfl (slS 7 rfl rfl (slS 8 rfl rfl (slS 9 rfl rfl (slS 10 rfl rfl (slS 12 rfl rfl (slS 13 rfl rfl (slL 0 (d := 3) rfl (trivial)))))))))))))) ?_ ?_
      · show ∀ i ∈ [3], _
        refine zA (zB 0 _ rfl rfl hLo rfl rfl (fun _ _ _ _ => rfl) (fun b G w hb ho => zD (.inr rfl) (zG rfl (HS21.get 0 rfl)))) ?_
        exact zF
      clear hLo
      intro G a22 w22 hS hH
      have HS22 : Sl a22 36 [(0, .slice (some ad) (2) (cc)), (2, .slice (none) (0) (0)), (9, .slice (some ad) (2) (cc)), (10, .int .i64 (2)), (11, .int .i64 (((2 : Nat) : Int))), (3, .int .i64 ((cumN p q 2 : Int))), (12, .bool false), (25, .slice (some ad) (2) (cc)), (26, .int .i64 (2)), (27, .int .i64 ((j : Int))), (28, .bool true), (8, .slice ((zT p q (j)).xm) ((zT p q (j)).ml) ((zT p q (j)).cm)), (6, .slice (oa18) (cumN p q (j + 1)) (c18))] := hS
      have HH22 : Held w18 w22 [] := hH
      clear hS hH HS21 HH21
      refine end_ rfl ?_
      refine zQ ?_
      refine then_ ?_
      have hLo : LOk [(0, 34, .val (.int .i64 (((j + 1 : Nat) : Int)))), (1, 27, .val (.int .i64 (((j + 1 : Nat) : Int))))] := lok (by rfl) (by rfl)
      refine zH (wE := w18) (sz := 36) (n := 2) [0, 1] [(0, .val (.slice (some ad) (2) (cc))), (2, .val (.slice (none) (0) (0))), (9, .val (.slice (some ad) (2) (cc))), (10, .val (.int .i64 (2))), (11, .val (.int .i64 (((2 : Nat) : Int)))), (3, .val (.int .i64 ((cumN p q 2 : Int)))), (12, .val (.bool false)), (25, .val (.slice (some ad) (2) (cc))), (26, .val (.int .i64 (2))), (28, .val (.bool true)), (8, .val (.slice ((zT p q (j)).xm) ((zT p q (j)).ml) ((zT p q (j)).cm))), (6, .val (.slice (oa18) (cumN p q (j + 1)) (c18))), (27, .val (.int .i64 (((j + 1 : Nat) : Int))))] [(0, 34, .val (.int .i64 (((j + 1 : Nat) : Int)))), (1, 27, .val (.int .i64 (((j + 1 : Nat) : Int))))] [] rfl (by rfl) HH22 rfl rfl hLo rfl HS22 (slS 0 rfl rfl (slS 1 rfl rfl (slS 2 rfl rfl (slS 3 rfl rfl (slS 4 rfl rfl (slS 5 rfl rfl (slS 6 rfl rfl (slS 7 rfl rfl (slS 8 rfl rfl (slS 10 rfl rfl (slS 11 rfl rfl (slS 12 rfl rfl (slL 1 (d := 1) rfl (trivial)))))))))))))) ?_ ?_
      · show ∀ i ∈ [0, 1], _
        refine zA (zB 0 _ rfl rfl hLo rfl rfl (fun _ _ _ _ => rfl) (fun b G w hb ho => zI rfl (ev_pre hLo 1 rfl (ho 1 (by rfl)) (HS22.get 9 rfl)) (rfl) (rb_add (w_nat (by omega) (by omega)) _ _ _))) ?_
        refine zA (zB 1 _ rfl rfl hLo rfl rfl (fun _ _ _ _ => rfl) (fun b G w hb ho => zD (.inl rfl) (zC hLo 0 rfl HS22.1 rfl (hb 0 (by rfl))))) ?_
        exact zF
      clear hLo
      intro G a23 w23 hS hH
      have HS23 : Sl a23 36 [(0, .slice (some ad) (2) (cc)), (2, .slice (none) (0) (0)), (9, .slice (some ad) (2) (cc)), (10, .int .i64 (2)), (11, .int .i64 (((2 : Nat) : Int))), (3, .int .i64 ((cumN p q 2 : Int))), (12, .bool false), (25, .slice (some ad) (2) (cc)), (26, .int .i64 (2)), (28, .bool true), (8, .slice ((zT p q (j)).xm) ((zT p q (j)).ml) ((zT p q (j)).cm)), (6, .slice (oa18) (cumN p q (j + 1)) (c18)), (27, .int .i64 (((j + 1 : Nat) : Int)))] := hS
      have HH23 : Held w18 w23 [] := hH
      clear hS hH HS22 HH22
      refine then_ ?_
      have hOn := hO18.below HH23.1
      have HH24 := Held.back HH20 HH23
      have hSq1' : Sl _ 36 [(0, .slice (some ad) (2) (cc)), (2, .slice (none) (0) (0)), (9, .slice (some ad) (2) (cc)), (10, .int .i64 (2)), (11, .int .i64 (((2 : Nat) : Int))), (3, .int .i64 ((cumN p q 2 : Int))), (12, .bool false), (25, .slice (some ad) (2) (cc)), (26, .int .i64 (2)), (27, .int .i64 (((j + 1 : Nat) : Int))), (6, .slice (oa18) (cumN p q (j + 1)) (c18))] := yA HS23 [0, 1, 2, 3, 4, 5, 6, 7, 8, 12, 11] (by rfl)
      have hHq1' : Held w _ [] := yD HH24 0 rfl
      exact ⟨⟨j + 1, oa18, c18, by omega, hOn, hSq1', hHq1'⟩, by rw [(hSq1'.get 9 rfl)]; show 2 - (((j + 1 : Nat) : Int)).toNat < 2 - j; omega⟩
  · skip
    have hlti : i < 2 := by have := of_decide_eq_true hr1; omega
    refine wp_cond_true (HS4.get 6 rfl) ?_
    refine wp_skip ?_
    refine then_ ?_
    refine wp_seq ?_
    refine wp_block ?_
    refine wp_seq ?_
    have hLo : LOk [(0, 13, .val (.pointer (some (ad.add ((i) * 1))))), (1, 14, .val (.slice ((zT p q (i)).xm) ((zT p q (i)).ml) ((zT p q (i)).cm))), (2, 5, .val (.slice ((zT p q (i)).xm) ((zT p q (i)).ml) ((zT p q (i)).cm)))] := lok (by rfl) (by rfl)
    refine zH (wE := w) (sz := 36) (n := 3) [0, 1, 3] [(0, .val (.slice (some ad) (2) (cc))), (2, .val (.slice (none) (0) (0))), (9, .val (.slice (some ad) (2) (cc))), (10, .val (.int .i64 (2))), (11, .val (.int .i64 ((i : Int)))), (3, .val (.int .i64 ((cumN p q i : Int)))), (12, .val (.bool true)), (5, .val (.slice ((zT p q (i)).xm) ((zT p q (i)).ml) ((zT p q (i)).cm)))] [(0, 13, .val (.pointer (some (ad.add ((i) * 1))))), (1, 14, .val (.slice ((zT p q (i)).xm) ((zT p q (i)).ml) ((zT p q (i)).cm))), (2, 5, .val (.slice ((zT p q (i)).xm) ((zT p q (i)).ml) ((zT p q (i)).cm)))] [] rfl (by rfl) HH4 rfl rfl hLo rfl HS4 (slS 0 rfl rfl (slS 1 rfl rfl (slS 2 rfl rfl (slS 3 rfl rfl (slS 4 rfl rfl (slS 5 rfl rfl (slS 6 rfl rfl (slL 2 (d := 2) rfl (trivial))))))))) ?_ ?_
    · show ∀ i ∈ [0, 1, 2], _
      refine zA (zB 0 _ rfl rfl hLo rfl rfl (fun _ _ _ _ => rfl) (fun b G w hb ho => zU rfl (zG rfl (HS4.get 2 rfl)) (zG rfl (HS4.get 4 rfl)) (index_sl Tryd.underlying64 (by kernel_rfl) rfl hlti _))) ?_
      refine zA (st_at1 1 (ad.add ((i) * 1)) _ rfl rfl rfl (fun _ _ _ _ => rfl) hLo rfl rfl Tryd.underlying23 rfl ((hA i hlti)) (fun b G hb ho => zC hLo 0 rfl HS4.1 rfl (hb 0 (by rfl)))) ?_
      refine zA (zB 2 _ rfl rfl hLo rfl rfl (fun _ _ _ _ => rfl) (fun b G w hb ho => zD (.inr rfl) (zC hLo 1 rfl HS4.1 rfl (hb 1 (by rfl))))) ?_
      exact zF
    clear hLo
    intro G a25 w25 hS hH
    have HS25 : Sl a25 36 [(0, .slice (some ad) (2) (cc)), (2, .slice (none) (0) (0)), (9, .slice (some ad) (2) (cc)), (10, .int .i64 (2)), (11, .int .i64 ((i : Int))), (3, .int .i64 ((cumN p q i : Int))), (12, .bool true), (5, .slice ((zT p q (i)).xm) ((zT p q (i)).ml) ((zT p q (i)).cm))] := hS
    have HH25 : Held w w25 [] := hH
    clear hS hH HS4 HH4
    refine then_ ?_
    refine wp_seq ?_
    have hLo : LOk [(0, 15, .val (.int .i64 ((cumN p q i : Int)))), (1, 16, .val (.slice ((zT p q (i)).xm) ((zT p q (i)).ml) ((zT p q (i)).cm))), (2, 17, .val (.int .i64 (((zT p q (i)).ml : Int)))), (3, 18, .val (.int .i64 ((cumN p q (i + 1) : Int)))), (4, 3, .val (.int .i64 ((cumN p q (i + 1) : Int))))] := lok (by rfl) (by rfl)
    refine zH (wE := w) (sz := 36) (n := 5) [0, 1, 3, 7, 15] [(0, .val (.slice (some ad) (2) (cc))), (2, .val (.slice (none) (0) (0))), (9, .val (.slice (some ad) (2) (cc))), (10, .val (.int .i64 (2))), (11, .val (.int .i64 ((i : Int)))), (12, .val (.bool true)), (5, .val (.slice ((zT p q (i)).xm) ((zT p q (i)).ml) ((zT p q (i)).cm))), (3, .val (.int .i64 ((cumN p q (i + 1) : Int))))] [(0, 15, .val (.int .i64 ((cumN p q i : Int)))), (1, 16, .val (.slice ((zT p q (i)).xm) ((zT p q (i)).ml) ((zT p q (i)).cm))), (2, 17, .val (.int .i64 (((zT p q (i)).ml : Int)))), (3, 18, .val (.int .i64 ((cumN p q (i + 1) : Int)))), (4, 3, .val (.int .i64 ((cumN p q (i + 1) : Int))))] [] rfl (by rfl) HH25 rfl rfl hLo rfl HS25 (slS 0 rfl rfl (slS 1 rfl rfl (slS 2 rfl rfl (slS 3 rfl rfl (slS 4 rfl rfl (slS 6 rfl rfl (slS 7 rfl rfl (slL 4 (d := 4) rfl (trivial))))))))) ?_ ?_
    · show ∀ i ∈ [0, 1, 2, 3, 4], _
      refine zA (zB 0 _ rfl rfl hLo rfl rfl (fun _ _ _ _ => rfl) (fun b G w hb ho => zD (.inl rfl) (ev_pre hLo 4 rfl (ho 4 (by rfl)) (HS25.get 5 rfl)))) ?_
      refine zA (zB 1 _ rfl rfl hLo rfl rfl (fun _ _ _ _ => rfl) (fun b G w hb ho => zD (.inl rfl) (zG rfl (HS25.get 7 rfl)))) ?_
      refine zA (zB 2 _ rfl rfl hLo rfl rfl (fun _ _ _ _ => rfl) (fun b G w hb ho => yF Tryd.underlying23 rfl (zC hLo 1 rfl HS25.1 rfl (hb 1 (by rfl))))) ?_
      refine zA (zB 3 _ rfl rfl hLo rfl rfl (fun _ _ _ _ => rfl) (fun b G w hb ho => zI rfl (zC hLo 0 rfl HS25.1 rfl (hb 0 (by rfl))) (zC hLo 2 rfl HS25.1 rfl (hb 2 (by rfl))) (rb_add (sum_ok hmp hmq hlti) _ _ _))) ?_
      refine zA (zB 4 _ rfl rfl hLo rfl rfl (fun _ _ _ _ => rfl) (fun b G w hb ho => zD (.inr rfl) (zC hLo 3 rfl HS25.1 rfl (hb 3 (by rfl))))) ?_
      exact zF
    clear hLo
    intro G a26 w26 hS hH
    have HS26 : Sl a26 36 [(0, .slice (some ad) (2) (cc)), (2, .slice (none) (0) (0)), (9, .slice (some ad) (2) (cc)), (10, .int .i64 (2)), (11, .int .i64 ((i : Int))), (12, .bool true), (5, .slice ((zT p q (i)).xm) ((zT p q (i)).ml) ((zT p q (i)).cm)), (3, .int .i64 ((cumN p q (i + 1) : Int)))] := hS
    have HH26 : Held w w26 [] := hH
    clear hS hH HS25 HH25
    refine then_ ?_
    refine wp_seq ?_
    have hLo : LOk [(0, 19, .val (.int .i64 ((cumN p q (i + 1) : Int)))), (1, 20, .val (.bool false))] := lok (by rfl) (by rfl)
    refine zH (wE := w) (sz := 36) (n := 2) [0, 1] [(0, .val (.slice (some ad) (2) (cc))), (2, .val (.slice (none) (0) (0))), (9, .val (.slice (some ad) (2) (cc))), (10, .val (.int .i64 (2))), (11, .val (.int .i64 ((i : Int)))), (12, .val (.bool true)), (5, .val (.slice ((zT p q (i)).xm) ((zT p q (i)).ml) ((zT p q (i)).cm))), (3, .val (.int .i64 ((cumN p q (i + 1) : Int)))), (20, .val (.bool false))] [(0, 19, .val (.int .i64 ((cumN p q (i + 1) : Int)))), (1, 20, .val (.bool false))] [] rfl (by rfl) HH26 rfl rfl hLo rfl HS26 (slS 0 rfl rfl (slS 1 rfl rfl (slS 2 rfl rfl (slS 3 rfl rfl (slS 4 rfl rfl (slS 5 rfl rfl (slS 6 rfl rfl (slS 7 rfl rfl (slL 1 (d := 1) rfl (trivial)))))))))) ?_ ?_
    · show ∀ i ∈ [0, 1], _
      refine zA (zB 0 _ rfl rfl hLo rfl rfl (fun _ _ _ _ => rfl) (fun b G w hb ho => zD (.inl rfl) (zG rfl (HS26.get 7 rfl)))) ?_
      refine zA (zB 1 _ rfl rfl hLo rfl rfl (fun _ _ _ _ => rfl) (fun b G w hb ho => zI rfl (zC hLo 0 rfl HS26.1 rfl (hb 0 (by rfl))) (rfl) (rb_lss (decide_eq_false (by omega)) _ _ _))) ?_
      exact zF
    clear hLo
    intro G a27 w27 hS hH
    have HS27 : Sl a27 36 [(0, .slice (some ad) (2) (cc)), (2, .slice (none) (0) (0)), (9, .slice (some ad) (2) (cc)), (10, .int .i64 (2)), (11, .int .i64 ((i : Int))), (12, .bool true), (5, .slice ((zT p q (i)).xm) ((zT p q (i)).ml) ((zT p q (i)).cm)), (3, .int .i64 ((cumN p q (i + 1) : Int))), (20, .bool false)] := hS
    have HH27 : Held w w27 [] := hH
    clear hS hH HS26 HH26
    refine then_ ?_
    refine wp_cond_false (HS27.get 8 rfl) ?_
    refine wp_skip ?_
    refine zQ ?_
    refine then_ ?_
    have hLo : LOk [(0, 22, .val (.int .i64 (((i + 1 : Nat) : Int)))), (1, 11, .val (.int .i64 (((i + 1 : Nat) : Int))))] := lok (by rfl) (by rfl)
    refine zH (wE := w) (sz := 36) (n := 2) [0, 1] [(0, .val (.slice (some ad) (2) (cc))), (2, .val (.slice (none) (0) (0))), (9, .val (.slice (some ad) (2) (cc))), (10, .val (.int .i64 (2))), (12, .val (.bool true)), (5, .val (.slice ((zT p q (i)).xm) ((zT p q (i)).ml) ((zT p q (i)).cm))), (3, .val (.int .i64 ((cumN p q (i + 1) : Int)))), (20, .val (.bool false)), (11, .val (.int .i64 (((i + 1 : Nat) : Int))))] [(0, 22, .val (.int .i64 (((i + 1 : Nat) : Int)))), (1, 11, .val (.int .i64 (((i + 1 : Nat) : Int))))] [] rfl (by rfl) HH27 rfl rfl hLo rfl HS27 (slS 0 rfl rfl (slS 1 rfl rfl (slS 2 rfl rfl (slS 3 rfl rfl (slS 5 rfl rfl (slS 6 rfl rfl (slS 7 rfl rfl (slS 8 rfl rfl (slL 1 (d := 1) rfl (trivial)))))))))) ?_ ?_
    · show ∀ i ∈ [0, 1], _
      refine zA (zB 0 _ rfl rfl hLo rfl rfl (fun _ _ _ _ => rfl) (fun b G w hb ho => zI rfl (ev_pre hLo 1 rfl (ho 1 (by rfl)) (HS27.get 4 rfl)) (rfl) (rb_add (w_nat (by omega) (by omega)) _ _ _))) ?_
      refine zA (zB 1 _ rfl rfl hLo rfl rfl (fun _ _ _ _ => rfl) (fun b G w hb ho => zD (.inl rfl) (zC hLo 0 rfl HS27.1 rfl (hb 0 (by rfl))))) ?_
      exact zF
    clear hLo
    intro G a28 w28 hS hH
    have HS28 : Sl a28 36 [(0, .slice (some ad) (2) (cc)), (2, .slice (none) (0) (0)), (9, .slice (some ad) (2) (cc)), (10, .int .i64 (2)), (12, .bool true), (5, .slice ((zT p q (i)).xm) ((zT p q (i)).ml) ((zT p q (i)).cm)), (3, .int .i64 ((cumN p q (i + 1) : Int))), (20, .bool false), (11, .int .i64 (((i + 1 : Nat) : Int)))] := hS
    have HH28 : Held w w28 [] := hH
    clear hS hH HS27 HH27
    refine then_ ?_
    have hSq0' : Sl _ 36 [(0, .slice (some ad) (2) (cc)), (2, .slice (none) (0) (0)), (9, .slice (some ad) (2) (cc)), (10, .int .i64 (2)), (11, .int .i64 (((i + 1 : Nat) : Int))), (3, .int .i64 ((cumN p q (i + 1) : Int)))] := yA HS28 [0, 1, 2, 3, 8, 6] (by rfl)
    have hHq0' : Held w _ [] := yD HH28 0 rfl
    exact ⟨⟨i + 1, by omega, hSq0', hHq0'⟩, by rw [(hSq0'.get 4 rfl)]; show 2 - (((i + 1 : Nat) : Int)).toNat < 2 - i; omega⟩
end Go.Proofs.YtjpiofbedglagaaDoor.P
end
