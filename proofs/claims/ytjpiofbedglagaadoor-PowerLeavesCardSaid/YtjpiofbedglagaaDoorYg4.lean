/- Merged of the texts: Pz (trim.py). -/
import Derived.Test.YtjpiofbedglagaaDoorYg3
section
namespace Go.Proofs.YtjpiofbedglagaaDoor.P
set_option linter.unusedVariables false
set_option linter.unusedSimpArgs false
open Go.RowKit Go.ChangeShapes Go.WideShapes Go.Proofs.YtjpiofbedglagaaDoorW.PrintWords Go.Proofs.YtjpiofbedglagaaDoorW.PrintLast Go.Proofs.YtjpiofbedglagaaDoorW.PrintMore
theorem infS : (Tryd.prog.info? 9).map (fun i => (i.zero, i.size, i.bytes)) = some (some (.string ByteArray.empty), 1, 16) := by kernel_rfl
theorem zS1 : (Value.string ByteArray.empty).cells.size = 1 := by rfl
theorem src_one {P : Program} {w : World} {ty e : TypeId} {g : Nat} {k : ByteArray} {t : TypeId} (hr : Row w g () 1 (lsc [.s k]) t) (ht : P.underlying ty = some (.slice e)) : Src P 1 ty (.slice (some ⟨g, 0, none⟩) 1 1) 1 [Value.string k] w :=
  src_of ht rfl (fun u hu => by rw [List.mem_singleton] at hu; subst hu; rfl) (fun x hx j u hu => by
    injection hx with hx; subst hx
    match j, hu with
    | 0, hu => injection hu with hu; subst hu; exact row_at hr 0 (by decide)
    | j + 1, hu => cases hu) (fun h => by cases h)
theorem two_row {w : World} {g : Nat} {t : TypeId} {p q : T} (hr : Row w g () 2 (lsc [.sl p.xm p.ml p.cm, .sl q.xm q.ml q.cm]) t) : ∀ i, i < 2 → w.cell? ((⟨g, 0, none⟩ : Addr).add (i * 1)) = some (.slice (zT p q i).xm (zT p q i).ml (zT p q i).cm) := by
  intro i hi
  match i, hi with
  | 0, _ => exact row_at hr 0 (by decide)
  | 1, _ => exact row_at hr 1 (by decide)
theorem differs_of {a b : T} {key : ByteArray} {x y r : Bool} (h1 : (a.tell key).2 = x) (h2 : (b.tell key).2 = y) (h : ((x != y) || ((a.tell key).1 != (b.tell key).1)) = r) : differs a b key = r := by unfold differs; rw [h1, h2]; exact h
theorem out_yes {a b : T} {i : Nat} (h : differs a b (catK a b i) = true) (h2 : hasB (outL a b i) (catK a b i) = false) : (outL a b (i + 1)).length = (outL a b i).length + 1 ∧ (outL a b (i + 1)).map Value.string = (outL a b i).map Value.string ++ [Value.string (catK a b i)] := by
  rw [outL_yes h h2]
  exact ⟨by simp, by simp⟩
theorem differ_calls {p q : T} (w : World) (hInp : In w p) (hInq : In w q) (hRp : Rises p) (hRq : Rises q) (hmp : p.ml ≤ 1073741824) (hmq : q.ml ≤ 1073741824) : Calls Tryd.prog 34 #[.agg (FR () 6 ((p).sc)), .agg (FR () 6 ((q).sc))] w fun e w' => (∃ o c, e = .returned (.slice o (outL p q (p.ml + q.ml)).length c) ∧ StrsAt w' o (outL p q (p.ml + q.ml)).length (outK p q)) ∧ Below w.heap.size w w' := by
  refine enter_ 59 Tryd.func34 rfl rfl (fun a0 hS => ?_)
  have HS0 : Sl a0 59 [(0, .agg (FR () 6 ((p).sc))), (1, .agg (FR () 6 ((q).sc)))] := hS
  have HH0 : Held w w [] := Held.first w
  clear hS
  refine wp_seq ?_
  have hLo : LOk [(0, 2, .new 0 (fun g => .pointer (some ⟨g, 0, none⟩))), (1, 3, .new 1 (fun g => .pointer (some ⟨g, 0, none⟩))), (2, 4, .val (.slice (none) (0) (0)))] := lok (by rfl) (by rfl)
  refine zH (wE := w) (sz := 59) (n := 3) [0, 1, 3] [(0, .val (.agg (FR () 6 ((p).sc)))), (1, .val (.agg (FR () 6 ((q).sc)))), (2, .new 0 (fun g => .pointer (some ⟨g, 0, none⟩))), (3, .new 1 (fun g => .pointer (some ⟨g, 0, none⟩))), (4, .val (.slice (none) (0) (0)))] [(0, 2, .new 0 (fun g => .pointer (some ⟨g, 0, none⟩))), (1, 3, .new 1 (fun g => .pointer (some ⟨g, 0, none⟩))), (2, 4, .val (.slice (none) (0) (0)))] [⟨0, some 0, none, (), 6, (p).sc, (p).sc, 25⟩, ⟨0, some 1, none, (), 6, (q).sc, (q).sc, 25⟩] rfl (by rfl) HH0 rfl rfl hLo rfl HS0 (slS 0 rfl rfl (slS 1 rfl rfl (slL 0 (d := 0) rfl (slL 1 (d := 1) rfl (slL 2 (d := 2) rfl (trivial)))))) ?_ ?_
  · show ∀ i ∈ [0, 1, 2], _
    refine zA (zZ 0 0 () 6 25 none _ _ rfl rfl (fun _ _ _ _ => rfl) rfl hLo rfl rfl rfl rfl (by rfl) (fun b G w hb ho => exec_box rfl (zG rfl (HS0.get 0 rfl)) (by kernel_rfl))) ?_
    refine zA (zZ 1 1 () 6 25 none _ _ rfl rfl (fun _ _ _ _ => rfl) rfl hLo rfl rfl rfl rfl (by rfl) (fun b G w hb ho => exec_box rfl (zG rfl (HS0.get 1 rfl)) (by kernel_rfl))) ?_
    refine zA (zB 2 _ rfl rfl hLo rfl rfl (fun _ _ _ _ => rfl) (fun b G w hb ho => zD (.inr rfl) (rfl))) ?_
    exact zF
  clear hLo
  intro G a1 w1 hS hH
  have HS1 : Sl a1 59 [(0, .agg (FR () 6 ((p).sc))), (1, .agg (FR () 6 ((q).sc))), (2, .pointer (some ⟨(G 0), 0, none⟩)), (3, .pointer (some ⟨(G 1), 0, none⟩)), (4, .slice (none) (0) (0))] := hS
  have HH1 : Held w w1 [⟨(G 0), (), 6, (p).sc, 25⟩, ⟨(G 1), (), 6, (q).sc, 25⟩] := hH
  clear hS hH HS0 HH0
  generalize G 0 = g1_0 at HS1 HH1
  generalize G 1 = g1_1 at HS1 HH1
  refine then_ ?_
  refine wp_seq ?_
  have hLo : LOk [(0, 5, .val (.slice (none) (0) (0)))] := lok (by rfl) (by rfl)
  refine zH (wE := w) (sz := 59) (n := 1) [0] [(0, .val (.agg (FR () 6 ((p).sc)))), (1, .val (.agg (FR () 6 ((q).sc)))), (2, .val (.pointer (some ⟨g1_0, 0, none⟩))), (3, .val (.pointer (some ⟨g1_1, 0, none⟩))), (4, .val (.slice (none) (0) (0))), (5, .val (.slice (none) (0) (0)))] [(0, 5, .val (.slice (none) (0) (0)))] [⟨g1_0, none, none, (), 6, (p).sc, (p).sc, 25⟩, ⟨g1_1, none, none, (), 6, (q).sc, (q).sc, 25⟩] rfl (by rfl) HH1 rfl rfl hLo rfl HS1 (slS 0 rfl rfl (slS 1 rfl rfl (slS 2 rfl rfl (slS 3 rfl rfl (slS 4 rfl rfl (slL 0 (d := 0) rfl (trivial))))))) ?_ ?_
  · show ∀ i ∈ [0], _
    refine zA (zB 0 _ rfl rfl hLo rfl rfl (fun _ _ _ _ => rfl) (fun b G w hb ho => zD (.inr rfl) (rfl))) ?_
    exact zF
  clear hLo
  intro G a2 w2 hS hH
  have HS2 : Sl a2 59 [(0, .agg (FR () 6 ((p).sc))), (1, .agg (FR () 6 ((q).sc))), (2, .pointer (some ⟨g1_0, 0, none⟩)), (3, .pointer (some ⟨g1_1, 0, none⟩)), (4, .slice (none) (0) (0)), (5, .slice (none) (0) (0))] := hS
  have HH2 : Held w w2 [⟨g1_0, (), 6, (p).sc, 25⟩, ⟨g1_1, (), 6, (q).sc, 25⟩] := hH
  clear hS hH HS1 HH1
  refine then_ ?_
  refine wp_seq ?_
  refine wp_seq ?_
  refine whole_ ?_
  have hLo : LOk [(0, 12, .val (.pointer (some ⟨g1_0, 5, none⟩))), (1, 13, .val (.slice ((p).xm) ((p).ml) ((p).cm))), (2, 14, .val (.pointer (some ⟨g1_1, 5, none⟩))), (3, 15, .val (.slice ((q).xm) ((q).ml) ((q).cm))), (4, 16, .new 4 (fun g => .slice (some ⟨g, 0, none⟩) (2) (2)))] := lok (by rfl) (by rfl)
  refine part_ (wE := w) (sz := 59) (n := 8) 0 5 [0, 1, 3, 7, 15, 31, 63, 127] [(0, .val (.agg (FR () 6 ((p).sc)))), (1, .val (.agg (FR () 6 ((q).sc)))), (2, .val (.pointer (some ⟨g1_0, 0, none⟩))), (3, .val (.pointer (some ⟨g1_1, 0, none⟩))), (4, .val (.slice (none) (0) (0))), (5, .val (.slice (none) (0) (0))), (16, .new 4 (fun g => .slice (some ⟨g, 0, none⟩) (2) (2)))] [(0, 12, .val (.pointer (some ⟨g1_0, 5, none⟩))), (1, 13, .val (.slice ((p).xm) ((p).ml) ((p).cm))), (2, 14, .val (.pointer (some ⟨g1_1, 5, none⟩))), (3, 15, .val (.slice ((q).xm) ((q).ml) ((q).cm))), (4, 16, .new 4 (fun g => .slice (some ⟨g, 0, none⟩) (2) (2)))] [⟨g1_0, none, none, (), 6, (p).sc, (p).sc, 25⟩, ⟨g1_1, none, none, (), 6, (q).sc, (q).sc, 25⟩, ⟨0, some 4, none, (), 2, lsc [.sl ((p).xm) ((p).ml) ((p).cm), .sl ((q).xm) ((q).ml) ((q).cm)], lsc [.sl ((p).xm) ((p).ml) ((p).cm), .sl ((q).xm) ((q).ml) ((q).cm)], 23⟩] rfl rfl (by rfl) HH2 rfl rfl hLo rfl HS2 (slS 0 rfl rfl (slS 1 rfl rfl (slS 2 rfl rfl (slS 3 rfl rfl (slS 4 rfl rfl (slS 5 rfl rfl (slL 4 (d := 4) rfl (trivial)))))))) ?_ ?_
  · show ∀ i ∈ [0, 1, 2, 3, 4], _
    refine zA (zB 0 _ rfl rfl hLo rfl rfl (fun _ _ _ _ => rfl) (fun b G w hb ho => zJ rfl (zG rfl (HS2.get 2 rfl)) (by kernel_rfl))) ?_
    refine zA (zW 1 0 _ _ rfl rfl rfl hLo rfl rfl (fun _ _ _ _ => rfl) (by rfl) (by rfl) (fun b G w hb ho hr => zP hr (Nat.le_of_ble_eq_true rfl) Tryd.underlying23 rfl rfl (zC hLo 0 rfl HS2.1 rfl (hb 0 (by rfl))))) ?_
    refine zA (zB 2 _ rfl rfl hLo rfl rfl (fun _ _ _ _ => rfl) (fun b G w hb ho => zJ rfl (zG rfl (HS2.get 3 rfl)) (by kernel_rfl))) ?_
    refine zA (zW 3 1 _ _ rfl rfl rfl hLo rfl rfl (fun _ _ _ _ => rfl) (by rfl) (by rfl) (fun b G w hb ho hr => zP hr (Nat.le_of_ble_eq_true rfl) Tryd.underlying23 rfl rfl (zC hLo 2 rfl HS2.1 rfl (hb 2 (by rfl))))) ?_
    refine zA (zZ 4 2 () 2 23 none _ _ rfl rfl (fun _ _ _ _ => rfl) rfl hLo rfl rfl rfl rfl (by rfl) (fun b G w hb ho => exec_buildSlice rfl (parts2 (zC hLo 1 rfl HS2.1 rfl (hb 1 (by rfl))) (zC hLo 3 rfl HS2.1 rfl (hb 3 (by rfl)))) (by kernel_rfl))) ?_
    exact zF
  clear hLo
  intro G a3 w3 hS hH
  have HS3 : Sl a3 59 [(0, .agg (FR () 6 ((p).sc))), (1, .agg (FR () 6 ((q).sc))), (2, .pointer (some ⟨g1_0, 0, none⟩)), (3, .pointer (some ⟨g1_1, 0, none⟩)), (4, .slice (none) (0) (0)), (5, .slice (none) (0) (0)), (16, .slice (some ⟨(G 4), 0, none⟩) (2) (2))] := hS
  have HH3 : Held w w3 [⟨g1_0, (), 6, (p).sc, 25⟩, ⟨g1_1, (), 6, (q).sc, 25⟩, ⟨(G 4), (), 2, lsc [.sl ((p).xm) ((p).ml) ((p).cm), .sl ((q).xm) ((q).ml) ((q).cm)], 23⟩] := hH
  clear hS hH HS2 HH2
  generalize G 4 = g3_4 at HS3 HH3
  obtain ⟨n, hn⟩ : ∃ n, n = p.ml + q.ml := ⟨_, rfl⟩
  refine cut_call _ rfl rfl rfl rfl Tryd.func39 rfl rfl (args1 (HS3.get 6 rfl)) ((by have hq := concat_calls (cc := 2) _ hmp hmq (hInp.below HH3.1) (hInq.below HH3.1) (two_row (HH3.row 2 rfl)); rw [← hn] at hq; exact hq)) HS3 rfl ?_
  rintro e4 w4 ⟨⟨oa, cc, rfl, hM⟩, hbc⟩
  refine ⟨_, rfl, fun a4 hS => ?_⟩
  have HS5 : Sl a4 59 [(17, .slice (oa) (n) (cc)), (0, .agg (FR () 6 ((p).sc))), (1, .agg (FR () 6 ((q).sc))), (2, .pointer (some ⟨g1_0, 0, none⟩)), (3, .pointer (some ⟨g1_1, 0, none⟩)), (4, .slice (none) (0) (0)), (5, .slice (none) (0) (0)), (16, .slice (some ⟨g3_4, 0, none⟩) (2) (2))] := hS
  have HH5 : Held w w4 [⟨g1_0, (), 6, (p).sc, 25⟩, ⟨g1_1, (), 6, (q).sc, 25⟩, ⟨g3_4, (), 2, lsc [.sl ((p).xm) ((p).ml) ((p).cm), .sl ((q).xm) ((q).ml) ((q).cm)], 23⟩] := HH3.call hbc
  clear hS
  have hRow6_0 := HH5.row 0 rfl
  have hRow6_1 := HH5.row 1 rfl
  have hRow6_2 := HH5.row 2 rfl
  have hInp_6 := hInp.below HH5.1
  have hInq_6 := hInq.below HH5.1
  have HH6 : Held w4 w4 [] := Held.first w4
  have HS6 : Sl a4 59 [(17, .slice (oa) (n) (cc)), (0, .agg (FR () 6 ((p).sc))), (1, .agg (FR () 6 ((q).sc))), (2, .pointer (some (⟨g1_0, 0, none⟩))), (3, .pointer (some (⟨g1_1, 0, none⟩))), (4, .slice (none) (0) (0)), (5, .slice (none) (0) (0)), (16, .slice (some ⟨g3_4, 0, none⟩) (2) (2))] := HS5
  have hLo : LOk [(6, 18, .val (.int .i64 ((n : Int)))), (7, 19, .val (.int .i64 (0)))] := lok (by rfl) (by rfl)
  refine part_ (wE := w4) (sz := 59) (n := 8) 6 8 [0, 1, 3, 7, 15, 31, 63, 127] [(17, .val (.slice (oa) (n) (cc))), (0, .val (.agg (FR () 6 ((p).sc)))), (1, .val (.agg (FR () 6 ((q).sc)))), (2, .val (.pointer (some (⟨g1_0, 0, none⟩)))), (3, .val (.pointer (some (⟨g1_1, 0, none⟩)))), (4, .val (.slice (none) (0) (0))), (5, .val (.slice (none) (0) (0))), (18, .val (.int .i64 ((n : Int)))), (19, .val (.int .i64 (0)))] [(6, 18, .val (.int .i64 ((n : Int)))), (7, 19, .val (.int .i64 (0)))] [] rfl rfl (by rfl) HH6 rfl rfl hLo rfl HS6 (slS 0 rfl rfl (slS 1 rfl rfl (slS 2 rfl rfl (slS 3 rfl rfl (slS 4 rfl rfl (slS 5 rfl rfl (slS 6 rfl rfl (slL 0 (d := 6) rfl (slL 1 (d := 7) rfl (trivial)))))))))) ?_ ?_
  · show ∀ i ∈ [6, 7], _
    refine zA (zB 0 _ rfl rfl hLo rfl rfl (fun _ _ _ _ => rfl) (fun b G w hb ho => yF Tryd.underlying23 rfl (zG rfl (HS6.get 0 rfl)))) ?_
    refine zA (zB 1 _ rfl rfl hLo rfl rfl (fun _ _ _ _ => rfl) (fun b G w hb ho => zD (.inl rfl) (rfl))) ?_
    exact zF
  clear hLo
  intro G a7 w7 hS hH
  have HS7 : Sl a7 59 [(17, .slice (oa) (n) (cc)), (0, .agg (FR () 6 ((p).sc))), (1, .agg (FR () 6 ((q).sc))), (2, .pointer (some (⟨g1_0, 0, none⟩))), (3, .pointer (some (⟨g1_1, 0, none⟩))), (4, .slice (none) (0) (0)), (5, .slice (none) (0) (0)), (18, .int .i64 ((n : Int))), (19, .int .i64 (0))] := hS
  have HH7 : Held w4 w7 [] := hH
  clear hS hH HS6 HH6
  refine end_ rfl ?_
  refine then_ ?_
  refine wp_block ?_
  have hSq0 : Sl _ 59 [(17, .slice (oa) (n) (cc)), (0, .agg (FR () 6 ((p).sc))), (1, .agg (FR () 6 ((q).sc))), (2, .pointer (some (⟨g1_0, 0, none⟩))), (3, .pointer (some (⟨g1_1, 0, none⟩))), (4, .slice (none) (0) (0)), (18, .int .i64 ((n : Int))), (19, .int .i64 (0)), (5, .slice (none) (0) (0))] := yA HS7 [0, 1, 2, 3, 4, 5, 7, 8, 6] (by rfl)
  refine wp_loop (fun a w' => ∃ i : Nat, ∃ o : Option Addr, ∃ cp : Nat, i ≤ n ∧ OwnR w4.heap.size w' 9 1 [] (.slice o (outL p q i).length cp) (outL p q i).length ((outL p q i).map Value.string) ∧ Sl a 59 [(17, .slice (oa) (n) (cc)), (0, .agg (FR () 6 ((p).sc))), (1, .agg (FR () 6 ((q).sc))), (2, .pointer (some (⟨g1_0, 0, none⟩))), (3, .pointer (some (⟨g1_1, 0, none⟩))), (4, .slice (none) (0) (0)), (18, .int .i64 ((n : Int))), (19, .int .i64 ((i : Int))), (5, .slice (o) ((outL p q i).length) (cp))] ∧ Held w4 w' []) (fun a w' => n - (intOf (a.eval (.tmp 19))).toNat) ⟨0, none, 0, Nat.zero_le _, OwnR.nil, hSq0, HH7⟩ ?_
  clear hSq0 HS7 HH7
  rintro aq0 wq0 ⟨i, o, cp, hi, hO, HSq0, HHq0⟩
  have hm : (intOf (aq0.eval (.tmp 19))).toNat = i := by rw [(HSq0.get 7 rfl)]; rfl
  rw [hm]
  clear hm
  have hInp_8 := hInp_6.below HHq0.1
  have hInq_8 := hInq_6.below HHq0.1
  have hRow6_0_8 := (hRow6_0).below HHq0.1 (hRow6_0).lt
  have hRow6_1_8 := (hRow6_1).below HHq0.1 (hRow6_1).lt
  have hRow6_2_8 := (hRow6_2).below HHq0.1 (hRow6_2).lt
  have hM_8 := hM.below HHq0.1
  have HH8 : Held wq0 wq0 [] := Held.first wq0
  have HS8 : Sl aq0 59 [(17, .slice (oa) (n) (cc)), (0, .agg (FR () 6 ((p).sc))), (1, .agg (FR () 6 ((q).sc))), (2, .pointer (some (⟨g1_0, 0, none⟩))), (3, .pointer (some (⟨g1_1, 0, none⟩))), (4, .slice (none) (0) (0)), (18, .int .i64 ((n : Int))), (19, .int .i64 ((i : Int))), (5, .slice (o) ((outL p q i).length) (cp))] := HSq0
  obtain ⟨r1, hr1⟩ : ∃ r : Bool, (decide (((i : Int) : Int) < (n : Int))) = r := ⟨_, rfl⟩
  refine wp_seq ?_
  have hLo : LOk [(0, 20, .val (.bool r1))] := lok (by rfl) (by rfl)
  refine zH (wE := wq0) (sz := 59) (n := 1) [0] [(17, .val (.slice (oa) (n) (cc))), (0, .val (.agg (FR () 6 ((p).sc)))), (1, .val (.agg (FR () 6 ((q).sc)))), (2, .val (.pointer (some (⟨g1_0, 0, none⟩)))), (3, .val (.pointer (some (⟨g1_1, 0, none⟩)))), (4, .val (.slice (none) (0) (0))), (18, .val (.int .i64 ((n : Int)))), (19, .val (.int .i64 ((i : Int)))), (5, .val (.slice (o) ((outL p q i).length) (cp))), (20, .val (.bool r1))] [(0, 20, .val (.bool r1))] [] rfl (by rfl) HH8 rfl rfl hLo rfl HS8 (slS 0 rfl rfl (slS 1 rfl rfl (slS 2 rfl rfl (slS 3 rfl rfl (slS 4 rfl rfl (slS 5 rfl rfl (slS 6 rfl rfl (slS 7 rfl rfl (slS 8 rfl rfl (slL 0 (d := 0) rfl (trivial))))))))))) ?_ ?_
  · show ∀ i ∈ [0], _
    refine zA (zB 0 _ rfl rfl hLo rfl rfl (fun _ _ _ _ => rfl) (fun b G w hb ho => zI rfl (zG rfl (HS8.get 7 rfl)) (zG rfl (HS8.get 6 rfl)) (rb_lss hr1 _ _ _))) ?_
    exact zF
  clear hLo
  intro G a9 w9 hS hH
  have HS9 : Sl a9 59 [(17, .slice (oa) (n) (cc)), (0, .agg (FR () 6 ((p).sc))), (1, .agg (FR () 6 ((q).sc))), (2, .pointer (some (⟨g1_0, 0, none⟩))), (3, .pointer (some (⟨g1_1, 0, none⟩))), (4, .slice (none) (0) (0)), (18, .int .i64 ((n : Int))), (19, .int .i64 ((i : Int))), (5, .slice (o) ((outL p q i).length) (cp)), (20, .bool r1)] := hS
  have HH9 : Held wq0 w9 [] := hH
  clear hS hH HS8 HH8
  refine then_ ?_
  refine wp_seq ?_
  cases r1
  · skip
    have hend : i = n := by have := of_decide_eq_false hr1; omega
    have hOe := hO
    rw [hend] at HS9 hOe
    refine wp_cond_false (HS9.get 9 rfl) ?_
    refine wp_exit ?_
    refine zY ?_
    refine zY ?_
    refine yE ?_
    refine then_ ?_
    refine wp_seq ?_
    have hLo : LOk [(0, 58, .val (.slice (o) ((outL p q n).length) (cp))), (1, 4, .val (.slice (o) ((outL p q n).length) (cp)))] := lok (by rfl) (by rfl)
    refine zH (wE := wq0) (sz := 59) (n := 2) [0, 1] [(17, .val (.slice (oa) (n) (cc))), (0, .val (.agg (FR () 6 ((p).sc)))), (1, .val (.agg (FR () 6 ((q).sc)))), (2, .val (.pointer (some (⟨g1_0, 0, none⟩)))), (3, .val (.pointer (some (⟨g1_1, 0, none⟩)))), (18, .val (.int .i64 ((n : Int)))), (19, .val (.int .i64 ((n : Int)))), (5, .val (.slice (o) ((outL p q n).length) (cp))), (20, .val (.bool false)), (4, .val (.slice (o) ((outL p q n).length) (cp)))] [(0, 58, .val (.slice (o) ((outL p q n).length) (cp))), (1, 4, .val (.slice (o) ((outL p q n).length) (cp)))] [] rfl (by rfl) HH9 rfl rfl hLo rfl HS9 (slS 0 rfl rfl (slS 1 rfl rfl (slS 2 rfl rfl (slS 3 rfl rfl (slS 4 rfl rfl (slS 6 rfl rfl (slS 7 rfl rfl (slS 8 rfl rfl (slS 9 rfl rfl (slL 1 (d := 1) rfl (trivial))))))))))) ?_ ?_
    · show ∀ i ∈ [0, 1], _
      refine zA (zB 0 _ rfl rfl hLo rfl rfl (fun _ _ _ _ => rfl) (fun b G w hb ho => zD (.inl rfl) (zG rfl (HS9.get 8 rfl)))) ?_
      refine zA (zB 1 _ rfl rfl hLo rfl rfl (fun _ _ _ _ => rfl) (fun b G w hb ho => zD (.inr rfl) (zC hLo 0 rfl HS9.1 rfl (hb 0 (by rfl))))) ?_
      exact zF
    clear hLo
    intro G a10 w10 hS hH
    have HS10 : Sl a10 59 [(17, .slice (oa) (n) (cc)), (0, .agg (FR () 6 ((p).sc))), (1, .agg (FR () 6 ((q).sc))), (2, .pointer (some (⟨g1_0, 0, none⟩))), (3, .pointer (some (⟨g1_1, 0, none⟩))), (18, .int .i64 ((n : Int))), (19, .int .i64 ((n : Int))), (5, .slice (o) ((outL p q n).length) (cp)), (20, .bool false), (4, .slice (o) ((outL p q n).length) (cp))] := hS
    have HH10 : Held wq0 w10 [] := hH
    clear hS hH HS9 HH9
    refine then_ ?_
    refine wp_ret ?_
    repeat (first | refine zR ?_ | refine zK ?_)
    have hOf := hOe.below HH10.1
    have HH11 := Held.back HHq0 HH10
    have HH12 := Held.back HH5 HH11
    exact b_tmp rfl HS10.2.1 (HS10.get 9 rfl) ⟨by subst hn; exact ⟨o, cp, rfl, StrsAt.own hOf⟩, HH12.1⟩
  · skip
    have hlt : i < n := by have := of_decide_eq_true hr1; omega
    refine wp_cond_true (HS9.get 9 rfl) ?_
    refine wp_skip ?_
    refine then_ ?_
    refine wp_seq ?_
    refine wp_block ?_
    obtain ⟨x1, hx1, hk1, hv1⟩ := hM_8 i hlt
    refine wp_seq ?_
    have hLo : LOk [(0, 21, .val (.pointer (some (x1.add ((i) * 7))))), (1, 22, .val (.agg (FR () 7 (msc (catK p q (i)) (catM p q (i)))))), (2, 7, .new 2 (fun g => .pointer (some ⟨g, 0, none⟩)))] := lok (by rfl) (by rfl)
    refine zH (wE := wq0) (sz := 59) (n := 4) [0, 1, 3, 7] [(17, .val (.slice (oa) (n) (cc))), (0, .val (.agg (FR () 6 ((p).sc)))), (1, .val (.agg (FR () 6 ((q).sc)))), (2, .val (.pointer (some (⟨g1_0, 0, none⟩)))), (3, .val (.pointer (some (⟨g1_1, 0, none⟩)))), (4, .val (.slice (none) (0) (0))), (18, .val (.int .i64 ((n : Int)))), (19, .val (.int .i64 ((i : Int)))), (5, .val (.slice (o) ((outL p q i).length) (cp))), (20, .val (.bool true)), (7, .new 2 (fun g => .pointer (some ⟨g, 0, none⟩)))] [(0, 21, .val (.pointer (some (x1.add ((i) * 7))))), (1, 22, .val (.agg (FR () 7 (msc (catK p q (i)) (catM p q (i)))))), (2, 7, .new 2 (fun g => .pointer (some ⟨g, 0, none⟩)))] [⟨0, some 2, some 3, (), 7, lsc [.s (ByteArray.empty), .i .i64 (0), .b (false), .i .i64 (0), .s (ByteArray.empty), .sl (none) (0) (0), .sl (none) (0) (0)], msc (catK p q (i)) (catM p q (i)), 44⟩] rfl (by rfl) HH9 rfl rfl hLo rfl HS9 (slS 0 rfl rfl (slS 1 rfl rfl (slS 2 rfl rfl (slS 3 rfl rfl (slS 4 rfl rfl (slS 5 rfl rfl (slS 6 rfl rfl (slS 7 rfl rfl (slS 8 rfl rfl (slS 9 rfl rfl (slL 2 (d := 2) rfl (trivial)))))))))))) ?_ ?_
    · show ∀ i ∈ [0, 1, 2, 3], _
      refine zA (zB 0 _ rfl rfl hLo rfl rfl (fun _ _ _ _ => rfl) (fun b G w hb ho => zU rfl (zG rfl (HS9.get 0 rfl)) (zG rfl (HS9.get 7 rfl)) (index_sl Tryd.underlying23 (by kernel_rfl) hx1 hlt _))) ?_
      refine zA (st_at 1 (x1.add ((i) * 7)) rfl rfl rfl (fun _ _ _ _ => rfl) hLo rfl rfl Tryd.underlying44 (by kernel_rfl) rfl (at7 hk1 hv1) (fun b G hb ho => zC hLo 0 rfl HS9.1 rfl (hb 0 (by rfl)))) ?_
      refine zA (zZ 2 0 () 7 44 (some 3) _ _ rfl rfl (fun _ _ _ _ => rfl) rfl hLo rfl rfl rfl rfl (by rfl) (fun b G w _ _ => by kernel_rfl)) ?_
      refine zA (st_store 0 _ rfl rfl rfl rfl rfl (fun _ _ _ _ => rfl) rfl rfl rfl (by rfl) (by kernel_rfl) (fun b G hb ho => zC hLo 2 rfl HS9.1 rfl (hb 2 (by rfl))) (fun b G hb ho => zC hLo 1 rfl HS9.1 rfl (hb 1 (by rfl)))) ?_
      exact zF
    clear hLo
    intro G a13 w13 hS hH
    have HS13 : Sl a13 59 [(17, .slice (oa) (n) (cc)), (0, .agg (FR () 6 ((p).sc))), (1, .agg (FR () 6 ((q).sc))), (2, .pointer (some (⟨g1_0, 0, none⟩))), (3, .pointer (some (⟨g1_1, 0, none⟩))), (4, .slice (none) (0) (0)), (18, .int .i64 ((n : Int))), (19, .int .i64 ((i : Int))), (5, .slice (o) ((outL p q i).length) (cp)), (20, .bool true), (7, .pointer (some ⟨(G 2), 0, none⟩))] := hS
    have HH13 : Held wq0 w13 [⟨(G 2), (), 7, msc (catK p q (i)) (catM p q (i)), 44⟩] := hH
    clear hS hH HS9 HH9
    generalize G 2 = g13_2 at HS13 HH13
    refine then_ ?_
    obtain ⟨r2, hr2⟩ : ∃ r : Bool, (((p).tell (catK p q (i))).2) = r := ⟨_, rfl⟩
    refine wp_seq ?_
    have hLo : LOk [(0, 24, .val (.agg (FR () 6 ((p).sc)))), (1, 25, .val (.pointer (some ⟨g13_2, 0, none⟩))), (2, 26, .val (.string (catK p q (i)))), (3, 27, .val (.tuple #[.int .i64 (((p).tell (catK p q (i))).1), .bool r2])), (4, 23, .val (.tuple #[.int .i64 (((p).tell (catK p q (i))).1), .bool r2])), (5, 28, .val (.int .i64 (((p).tell (catK p q (i))).1))), (6, 29, .val (.bool r2)), (7, 8, .val (.int .i64 (((p).tell (catK p q (i))).1))), (8, 9, .val (.bool r2))] := lok (by rfl) (by rfl)
    refine zH (wE := wq0) (sz := 59) (n := 9) [0, 1, 3, 7, 15, 31, 63, 127, 255] [(17, .val (.slice (oa) (n) (cc))), (0, .val (.agg (FR () 6 ((p).sc)))), (1, .val (.agg (FR () 6 ((q).sc)))), (2, .val (.pointer (some (⟨g1_0, 0, none⟩)))), (3, .val (.pointer (some (⟨g1_1, 0, none⟩)))), (4, .val (.slice (none) (0) (0))), (18, .val (.int .i64 ((n : Int)))), (19, .val (.int .i64 ((i : Int)))), (5, .val (.slice (o) ((outL p q i).length) (cp))), (20, .val (.bool true)), (7, .val (.pointer (some ⟨g13_2, 0, none⟩))), (8, .val (.int .i64 (((p).tell (catK p q (i))).1))), (9, .val (.bool r2))] [(0, 24, .val (.agg (FR () 6 ((p).sc)))), (1, 25, .val (.pointer (some ⟨g13_2, 0, none⟩))), (2, 26, .val (.string (catK p q (i)))), (3, 27, .val (.tuple #[.int .i64 (((p).tell (catK p q (i))).1), .bool r2])), (4, 23, .val (.tuple #[.int .i64 (((p).tell (catK p q (i))).1), .bool r2])), (5, 28, .val (.int .i64 (((p).tell (catK p q (i))).1))), (6, 29, .val (.bool r2)), (7, 8, .val (.int .i64 (((p).tell (catK p q (i))).1))), (8, 9, .val (.bool r2))] [⟨g13_2, none, none, (), 7, msc (catK p q (i)) (catM p q (i)), msc (catK p q (i)) (catM p q (i)), 44⟩] rfl (by rfl) HH13 rfl rfl hLo rfl HS13 (slS 0 rfl rfl (slS 1 rfl rfl (slS 2 rfl rfl (slS 3 rfl rfl (slS 4 rfl rfl (slS 5 rfl rfl (slS 6 rfl rfl (slS 7 rfl rfl (slS 8 rfl rfl (slS 9 rfl rfl (slS 10 rfl rfl (slL 7 (d := 7) rfl (slL 8 (d := 8) rfl (trivial)))))))))))))) ?_ ?_
    · show ∀ i ∈ [0, 1, 2, 3, 4, 5, 6, 7, 8], _
      refine zA (st_at 0 (⟨g1_0, 0, none⟩) rfl rfl rfl (fun _ _ _ _ => rfl) hLo rfl rfl Tryd.underlying25 (by kernel_rfl) rfl (row_at hRow6_0_8) (fun b G hb ho => zG rfl (HS13.get 3 rfl))) ?_
      refine zA (zB 1 _ rfl rfl hLo rfl rfl (fun _ _ _ _ => rfl) (fun b G w hb ho => zJ rfl (zG rfl (HS13.get 10 rfl)) (by kernel_rfl))) ?_
      refine zA (zW 2 0 _ _ rfl rfl rfl hLo rfl rfl (fun _ _ _ _ => rfl) (by rfl) (by rfl) (fun b G w hb ho hr => zP hr (Nat.le_of_ble_eq_true rfl) Tryd.underlying9 rfl rfl (zC hLo 1 rfl HS13.1 rfl (hb 1 (by rfl))))) ?_
      refine zA (yB 3 _ #[.agg (FR () 6 ((p).sc)), .string (catK p q (i))] rfl rfl rfl (fun _ _ _ _ => rfl) hLo rfl rfl Tryd.func25 rfl rfl (fun b G hb ho => args2 (zC hLo 0 rfl HS13.1 rfl (hb 0 (by rfl))) (zC hLo 2 rfl HS13.1 rfl (hb 2 (by rfl)))) (fun w hw => (by have hq := num_calls (t := p) (catK p q (i)) (hInp_8.below hw) hRp.rise; rw [hr2] at hq; exact hq))) ?_
      refine zA (zB 4 _ rfl rfl hLo rfl rfl (fun _ _ _ _ => rfl) (fun b G w hb ho => zD (.inl rfl) (zC hLo 3 rfl HS13.1 rfl (hb 3 (by rfl))))) ?_
      refine zA (zB 5 _ rfl rfl hLo rfl rfl (fun _ _ _ _ => rfl) (fun b G w hb ho => zX rfl (zC hLo 4 rfl HS13.1 rfl (hb 4 (by rfl))) (by rfl))) ?_
      refine zA (zB 6 _ rfl rfl hLo rfl rfl (fun _ _ _ _ => rfl) (fun b G w hb ho => zX rfl (zC hLo 4 rfl HS13.1 rfl (hb 4 (by rfl))) (by rfl))) ?_
      refine zA (zB 7 _ rfl rfl hLo rfl rfl (fun _ _ _ _ => rfl) (fun b G w hb ho => zD (.inr rfl) (zC hLo 5 rfl HS13.1 rfl (hb 5 (by rfl))))) ?_
      refine zA (zB 8 _ rfl rfl hLo rfl rfl (fun _ _ _ _ => rfl) (fun b G w hb ho => zD (.inr rfl) (zC hLo 6 rfl HS13.1 rfl (hb 6 (by rfl))))) ?_
      exact zF
    clear hLo
    intro G a14 w14 hS hH
    have HS14 : Sl a14 59 [(17, .slice (oa) (n) (cc)), (0, .agg (FR () 6 ((p).sc))), (1, .agg (FR () 6 ((q).sc))), (2, .pointer (some (⟨g1_0, 0, none⟩))), (3, .pointer (some (⟨g1_1, 0, none⟩))), (4, .slice (none) (0) (0)), (18, .int .i64 ((n : Int))), (19, .int .i64 ((i : Int))), (5, .slice (o) ((outL p q i).length) (cp)), (20, .bool true), (7, .pointer (some ⟨g13_2, 0, none⟩)), (8, .int .i64 (((p).tell (catK p q (i))).1)), (9, .bool r2)] := hS
    have HH14 : Held wq0 w14 [⟨g13_2, (), 7, msc (catK p q (i)) (catM p q (i)), 44⟩] := hH
    clear hS hH HS13 HH13
    refine then_ ?_
    obtain ⟨r3, hr3⟩ : ∃ r : Bool, (((q).tell (catK p q (i))).2) = r := ⟨_, rfl⟩
    refine wp_seq ?_
    have hLo : LOk [(0, 31, .val (.agg (FR () 6 ((q).sc)))), (1, 32, .val (.pointer (some ⟨g13_2, 0, none⟩))), (2, 33, .val (.string (catK p q (i)))), (3, 34, .val (.tuple #[.int .i64 (((q).tell (catK p q (i))).1), .bool r3])), (4, 30, .val (.tuple #[.int .i64 (((q).tell (catK p q (i))).1), .bool r3])), (5, 35, .val (.int .i64 (((q).tell (catK p q (i))).1))), (6, 36, .val (.bool r3)), (7, 10, .val (.int .i64 (((q).tell (catK p q (i))).1))), (8, 11, .val (.bool r3))] := lok (by rfl) (by rfl)
    refine zH (wE := wq0) (sz := 59) (n := 9) [0, 1, 3, 7, 15, 31, 63, 127, 255] [(17, .val (.slice (oa) (n) (cc))), (0, .val (.agg (FR () 6 ((p).sc)))), (1, .val (.agg (FR () 6 ((q).sc)))), (2, .val (.pointer (some (⟨g1_0, 0, none⟩)))), (3, .val (.pointer (some (⟨g1_1, 0, none⟩)))), (4, .val (.slice (none) (0) (0))), (18, .val (.int .i64 ((n : Int)))), (19, .val (.int .i64 ((i : Int)))), (5, .val (.slice (o) ((outL p q i).length) (cp))), (20, .val (.bool true)), (7, .val (.pointer (some ⟨g13_2, 0, none⟩))), (8, .val (.int .i64 (((p).tell (catK p q (i))).1))), (9, .val (.bool r2)), (10, .val (.int .i64 (((q).tell (catK p q (i))).1))), (11, .val (.bool r3))] [(0, 31, .val (.agg (FR () 6 ((q).sc)))), (1, 32, .val (.pointer (some ⟨g13_2, 0, none⟩))), (2, 33, .val (.string (catK p q (i)))), (3, 34, .val (.tuple #[.int .i64 (((q).tell (catK p q (i))).1), .bool r3])), (4, 30, .val (.tuple #[.int .i64 (((q).tell (catK p q (i))).1), .bool r3])), (5, 35, .val (.int .i64 (((q).tell (catK p q (i))).1))), (6, 36, .val (.bool r3)), (7, 10, .val (.int .i64 (((q).tell (catK p q (i))).1))), (8, 11, .val (.bool r3))] [⟨g13_2, none, none, (), 7, msc (catK p q (i)) (catM p q (i)), msc (catK p q (i)) (catM p q (i)), 44⟩] rfl (by rfl) HH14 rfl rfl hLo rfl HS14 (slS 0 rfl rfl (slS 1 rfl rfl (slS 2 rfl rfl (slS 3 rfl rfl (slS 4 rfl rfl (slS 5 rfl rfl (slS 6 rfl rfl (slS 7 rfl rfl (slS 8 rfl rfl (slS 9 rfl rfl (slS 10 rfl rfl (slS 11 rfl rfl (slS 12 rfl rfl (slL 7 (d := 7) rfl (slL 8 (d := 8) rfl (trivial)))))))))))))))) ?_ ?_
    · show ∀ i ∈ [0, 1, 2, 3, 4, 5, 6, 7, 8], _
      refine zA (st_at 0 (⟨g1_1, 0, none⟩) rfl rfl rfl (fun _ _ _ _ => rfl) hLo rfl rfl Tryd.underlying25 (by kernel_rfl) rfl (row_at hRow6_1_8) (fun b G hb ho => zG rfl (HS14.get 4 rfl))) ?_
      refine zA (zB 1 _ rfl rfl hLo rfl rfl (fun _ _ _ _ => rfl) (fun b G w hb ho => zJ rfl (zG rfl (HS14.get 10 rfl)) (by kernel_rfl))) ?_
      refine zA (zW 2 0 _ _ rfl rfl rfl hLo rfl rfl (fun _ _ _ _ => rfl) (by rfl) (by rfl) (fun b G w hb ho hr => zP hr (Nat.le_of_ble_eq_true rfl) Tryd.underlying9 rfl rfl (zC hLo 1 rfl HS14.1 rfl (hb 1 (by rfl))))) ?_
      refine zA (yB 3 _ #[.agg (FR () 6 ((q).sc)), .string (catK p q (i))] rfl rfl rfl (fun _ _ _ _ => rfl) hLo rfl rfl Tryd.func25 rfl rfl (fun b G hb ho => args2 (zC hLo 0 rfl HS14.1 rfl (hb 0 (by rfl))) (zC hLo 2 rfl HS14.1 rfl (hb 2 (by rfl)))) (fun w hw => (by have hq := num_calls (t := q) (catK p q (i)) (hInq_8.below hw) hRq.rise; rw [hr3] at hq; exact hq))) ?_
      refine zA (zB 4 _ rfl rfl hLo rfl rfl (fun _ _ _ _ => rfl) (fun b G w hb ho => zD (.inl rfl) (zC hLo 3 rfl HS14.1 rfl (hb 3 (by rfl))))) ?_
      refine zA (zB 5 _ rfl rfl hLo rfl rfl (fun _ _ _ _ => rfl) (fun b G w hb ho => zX rfl (zC hLo 4 rfl HS14.1 rfl (hb 4 (by rfl))) (by rfl))) ?_
      refine zA (zB 6 _ rfl rfl hLo rfl rfl (fun _ _ _ _ => rfl) (fun b G w hb ho => zX rfl (zC hLo 4 rfl HS14.1 rfl (hb 4 (by rfl))) (by rfl))) ?_
      refine zA (zB 7 _ rfl rfl hLo rfl rfl (fun _ _ _ _ => rfl) (fun b G w hb ho => zD (.inr rfl) (zC hLo 5 rfl HS14.1 rfl (hb 5 (by rfl))))) ?_
      refine zA (zB 8 _ rfl rfl hLo rfl rfl (fun _ _ _ _ => rfl) (fun b G w hb ho => zD (.inr rfl) (zC hLo 6 rfl HS14.1 rfl (hb 6 (by rfl))))) ?_
      exact zF
    clear hLo
    intro G a15 w15 hS hH
    have HS15 : Sl a15 59 [(17, .slice (oa) (n) (cc)), (0, .agg (FR () 6 ((p).sc))), (1, .agg (FR () 6 ((q).sc))), (2, .pointer (some (⟨g1_0, 0, none⟩))), (3, .pointer (some (⟨g1_1, 0, none⟩))), (4, .slice (none) (0) (0)), (18, .int .i64 ((n : Int))), (19, .int .i64 ((i : Int))), (5, .slice (o) ((outL p q i).length) (cp)), (20, .bool true), (7, .pointer (some ⟨g13_2, 0, none⟩)), (8, .int .i64 (((p).tell (catK p q (i))).1)), (9, .bool r2), (10, .int .i64 (((q).tell (catK p q (i))).1)), (11, .bool r3)] := hS
    have HH15 : Held wq0 w15 [⟨g13_2, (), 7, msc (catK p q (i)) (catM p q (i)), 44⟩] := hH
    clear hS hH HS14 HH14
    refine then_ ?_
    cases r2
    · skip
      cases r3
      · skip
        obtain ⟨r4, hr4⟩ : ∃ r : Bool, (((((p).tell (catK p q (i))).1 : Int) != ((q).tell (catK p q (i))).1)) = r := ⟨_, rfl⟩
        cases r4
        · skip
          refine wp_seq ?_
          have hLo : LOk [(0, 37, .val (.bool false)), (1, 38, .val (.bool false)), (2, 39, .val (.bool false)), (3, 40, .val (.bool false)), (4, 41, .val (.int .i64 (((p).tell (catK p q (i))).1))), (5, 42, .val (.int .i64 (((q).tell (catK p q (i))).1))), (6, 43, .val (.bool false)), (7, 44, .val (.bool false)), (8, 45, .val (.bool false)), (9, 46, .val (undef)), (10, 47, .val (undef)), (11, 48, .val (undef)), (12, 49, .val (undef)), (13, 50, .val (undef)), (14, 51, .val (.bool false))] := lok (by rfl) (by rfl)
          refine zH (wE := wq0) (sz := 59) (n := 15) [0, 1, 3, 7, 15, 31, 63, 127, 255, 511, 1023, 2047, 4095, 8191, 16383] [(17, .val (.slice (oa) (n) (cc))), (0, .val (.agg (FR () 6 ((p).sc)))), (1, .val (.agg (FR () 6 ((q).sc)))), (2, .val (.pointer (some (⟨g1_0, 0, none⟩)))), (3, .val (.pointer (some (⟨g1_1, 0, none⟩)))), (4, .val (.slice (none) (0) (0))), (18, .val (.int .i64 ((n : Int)))), (19, .val (.int .i64 ((i : Int)))), (5, .val (.slice (o) ((outL p q i).length) (cp))), (20, .val (.bool true)), (7, .val (.pointer (some ⟨g13_2, 0, none⟩))), (8, .val (.int .i64 (((p).tell (catK p q (i))).1))), (9, .val (.bool false)), (10, .val (.int .i64 (((q).tell (catK p q (i))).1))), (11, .val (.bool false)), (51, .val (.bool false))] [(0, 37, .val (.bool false)), (1, 38, .val (.bool false)), (2, 39, .val (.bool false)), (3, 40, .val (.bool false)), (4, 41, .val (.int .i64 (((p).tell (catK p q (i))).1))), (5, 42, .val (.int .i64 (((q).tell (catK p q (i))).1))), (6, 43, .val (.bool false)), (7, 44, .val (.bool false)), (8, 45, .val (.bool false)), (9, 46, .val (undef)), (10, 47, .val (undef)), (11, 48, .val (undef)), (12, 49, .val (undef)), (13, 50, .val (undef)), (14, 51, .val (.bool false))] [⟨g13_2, none, none, (), 7, msc (catK p q (i)) (catM p q (i)), msc (catK p q (i)) (catM p q (i)), 44⟩] rfl (by rfl) HH15 rfl rfl hLo rfl HS15 (slS 0 rfl rfl (slS 1 rfl rfl (slS 2 rfl rfl (slS 3 rfl rfl (slS 4 rfl rfl (slS 5 rfl rfl (slS 6 rfl rfl (slS 7 rfl rfl (slS 8 rfl rfl (slS 9 rfl rfl (slS 10 rfl rfl (slS 11 rfl rfl (slS 12 rfl rfl (slS 13 rfl rfl (slS 14 rfl rfl (slL 14 (d := 14) rfl (trivial))))))))))))))))) ?_ ?_
          · show ∀ i ∈ [0, 1, 2, 3, 4, 5, 6, 7, 8, 9, 10, 11, 12, 13, 14], _
            refine zA (zB 0 _ rfl rfl hLo rfl rfl (fun _ _ _ _ => rfl) (fun b G w hb ho => zD (.inl rfl) (zG rfl (HS15.get 12 rfl)))) ?_
            refine zA (zB 1 _ rfl rfl hLo rfl rfl (fun _ _ _ _ => rfl) (fun b G w hb ho => zD (.inl rfl) (zG rfl (HS15.get 14 rfl)))) ?_
            refine zA (zB 2 _ rfl rfl hLo rfl rfl (fun _ _ _ _ => rfl) (fun b G w hb ho => zI rfl (zC hLo 0 rfl HS15.1 rfl (hb 0 (by rfl))) (zC hLo 1 rfl HS15.1 rfl (hb 1 (by rfl))) (rb_bneq Tryd.underlying4 (rfl) _ _ _))) ?_
            refine zA (zB 3 _ rfl rfl hLo rfl rfl (fun _ _ _ _ => rfl) (fun b G w hb ho => zD (.inl rfl) (zC hLo 2 rfl HS15.1 rfl (hb 2 (by rfl))))) ?_
            refine zA (zB 4 _ rfl rfl hLo rfl rfl (fun b G hb ho => zE rfl rfl rfl HS15.1 rfl (zC hLo 3 rfl HS15.1 rfl (hb 3 (by rfl))) rfl) (fun b G w hb ho => zD (.inl rfl) (zG rfl (HS15.get 11 rfl)))) ?_
            refine zA (zB 5 _ rfl rfl hLo rfl rfl (fun b G hb ho => zE rfl rfl rfl HS15.1 rfl (zC hLo 3 rfl HS15.1 rfl (hb 3 (by rfl))) rfl) (fun b G w hb ho => zD (.inl rfl) (zG rfl (HS15.get 13 rfl)))) ?_
            refine zA (zB 6 _ rfl rfl hLo rfl rfl (fun b G hb ho => zE rfl rfl rfl HS15.1 rfl (zC hLo 3 rfl HS15.1 rfl (hb 3 (by rfl))) rfl) (fun b G w hb ho => zI rfl (zC hLo 4 rfl HS15.1 rfl (hb 4 (by rfl))) (zC hLo 5 rfl HS15.1 rfl (hb 5 (by rfl))) (rb_neq hr4 _ _ _))) ?_
            refine zA (zB 7 _ rfl rfl hLo rfl rfl (fun _ _ _ _ => rfl) (fun b G w hb ho => zL rfl (zC hLo 3 rfl HS15.1 rfl (hb 3 (by rfl))) (zC hLo 6 rfl HS15.1 rfl (hb 6 (by rfl))))) ?_
            refine zA (zB 8 _ rfl rfl hLo rfl rfl (fun _ _ _ _ => rfl) (fun b G w hb ho => zD (.inl rfl) (zC hLo 7 rfl HS15.1 rfl (hb 7 (by rfl))))) ?_
            refine zA (zN 9 rfl rfl hLo rfl rfl (fun b G hb ho => zE rfl rfl rfl HS15.1 rfl (zC hLo 8 rfl HS15.1 rfl (hb 8 (by rfl))) rfl)) ?_
            refine zA (zN 10 rfl rfl hLo rfl rfl (fun b G hb ho => zE rfl rfl rfl HS15.1 rfl (zC hLo 8 rfl HS15.1 rfl (hb 8 (by rfl))) rfl)) ?_
            refine zA (zN 11 rfl rfl hLo rfl rfl (fun b G hb ho => zE rfl rfl rfl HS15.1 rfl (zC hLo 8 rfl HS15.1 rfl (hb 8 (by rfl))) rfl)) ?_
            refine zA (zN 12 rfl rfl hLo rfl rfl (fun b G hb ho => zE rfl rfl rfl HS15.1 rfl (zC hLo 8 rfl HS15.1 rfl (hb 8 (by rfl))) rfl)) ?_
            refine zA (zN 13 rfl rfl hLo rfl rfl (fun b G hb ho => zE rfl rfl rfl HS15.1 rfl (zC hLo 8 rfl HS15.1 rfl (hb 8 (by rfl))) rfl)) ?_
            refine zA (zB 14 _ rfl rfl hLo rfl rfl (fun _ _ _ _ => rfl) (fun b G w hb ho => zL rfl (zC hLo 8 rfl HS15.1 rfl (hb 8 (by rfl))) (rfl))) ?_
            exact zF
          clear hLo
          intro G a16 w16 hS hH
          have HS16 : Sl a16 59 [(17, .slice (oa) (n) (cc)), (0, .agg (FR () 6 ((p).sc))), (1, .agg (FR () 6 ((q).sc))), (2, .pointer (some (⟨g1_0, 0, none⟩))), (3, .pointer (some (⟨g1_1, 0, none⟩))), (4, .slice (none) (0) (0)), (18, .int .i64 ((n : Int))), (19, .int .i64 ((i : Int))), (5, .slice (o) ((outL p q i).length) (cp)), (20, .bool true), (7, .pointer (some ⟨g13_2, 0, none⟩)), (8, .int .i64 (((p).tell (catK p q (i))).1)), (9, .bool false), (10, .int .i64 (((q).tell (catK p q (i))).1)), (11, .bool false), (51, .bool false)] := hS
          have HH16 : Held wq0 w16 [⟨g13_2, (), 7, msc (catK p q (i)) (catM p q (i)), 44⟩] := hH
          clear hS hH HS15 HH15
          refine then_ ?_
          refine wp_cond_false (HS16.get 15 rfl) ?_
          refine wp_skip ?_
          refine zQ ?_
          refine then_ ?_
          have hLo : LOk [(0, 57, .val (.int .i64 (((i + 1 : Nat) : Int)))), (1, 19, .val (.int .i64 (((i + 1 : Nat) : Int))))] := lok (by rfl) (by rfl)
          refine zH (wE := wq0) (sz := 59) (n := 2) [0, 1] [(17, .val (.slice (oa) (n) (cc))), (0, .val (.agg (FR () 6 ((p).sc)))), (1, .val (.agg (FR () 6 ((q).sc)))), (2, .val (.pointer (some (⟨g1_0, 0, none⟩)))), (3, .val (.pointer (some (⟨g1_1, 0, none⟩)))), (4, .val (.slice (none) (0) (0))), (18, .val (.int .i64 ((n : Int)))), (5, .val (.slice (o) ((outL p q i).length) (cp))), (20, .val (.bool true)), (7, .val (.pointer (some ⟨g13_2, 0, none⟩))), (8, .val (.int .i64 (((p).tell (catK p q (i))).1))), (9, .val (.bool false)), (10, .val (.int .i64 (((q).tell (catK p q (i))).1))), (11, .val (.bool false)), (51, .val (.bool false)), (19, .val (.int .i64 (((i + 1 : Nat) : Int))))] [(0, 57, .val (.int .i64 (((i + 1 : Nat) : Int)))), (1, 19, .val (.int .i64 (((i + 1 : Nat) : Int))))] [⟨g13_2, none, none, (), 7, msc (catK p q (i)) (catM p q (i)), msc (catK p q (i)) (catM p q (i)), 44⟩] rfl (by rfl) HH16 rfl rfl hLo rfl HS16 (slS 0 rfl rfl (slS 1 rfl rfl (slS 2 rfl rfl (slS 3 rfl rfl (slS 4 rfl rfl (slS 5 rfl rfl (slS 6 rfl rfl (slS 8 rfl rfl (slS 9 rfl rfl (slS 10 rfl rfl (slS 11 rfl rfl (slS 12 rfl rfl (slS 13 rfl rfl (slS 14 rfl rfl (slS 15 rfl rfl (slL 1 (d := 1) rfl (trivial))))))))))))))))) ?_ ?_
          · show ∀ i ∈ [0, 1], _
            refine zA (zB 0 _ rfl rfl hLo rfl rfl (fun _ _ _ _ => rfl) (fun b G w hb ho => zI rfl (ev_pre hLo 1 rfl (ho 1 (by rfl)) (HS16.get 7 rfl)) (rfl) (rb_add (w_nat (by omega) (by omega)) _ _ _))) ?_
            refine zA (zB 1 _ rfl rfl hLo rfl rfl (fun _ _ _ _ => rfl) (fun b G w hb ho => zD (.inl rfl) (zC hLo 0 rfl HS16.1 rfl (hb 0 (by rfl))))) ?_
            exact zF
          clear hLo
          intro G a17 w17 hS hH
          have HS17 : Sl a17 59 [(17, .slice (oa) (n) (cc)), (0, .agg (FR () 6 ((p).sc))), (1, .agg (FR () 6 ((q).sc))), (2, .pointer (some (⟨g1_0, 0, none⟩))), (3, .pointer (some (⟨g1_1, 0, none⟩))), (4, .slice (none) (0) (0)), (18, .int .i64 ((n : Int))), (5, .slice (o) ((outL p q i).length) (cp)), (20, .bool true), (7, .pointer (some ⟨g13_2, 0, none⟩)), (8, .int .i64 (((p).tell (catK p q (i))).1)), (9, .bool false), (10, .int .i64 (((q).tell (catK p q (i))).1)), (11, .bool false), (51, .bool false), (19, .int .i64 (((i + 1 : Nat) : Int)))] := hS
          have HH17 : Held wq0 w17 [⟨g13_2, (), 7, msc (catK p q (i)) (catM p q (i)), 44⟩] := hH
          clear hS hH HS16 HH16
          refine then_ ?_
          have hOn := hO.below HH17.1
          have HH18 := Held.back HHq0 HH17
          have hSq0' : Sl _ 59 [(17, .slice (oa) (n) (cc)), (0, .agg (FR () 6 ((p).sc))), (1, .agg (FR () 6 ((q).sc))), (2, .pointer (some (⟨g1_0, 0, none⟩))), (3, .pointer (some (⟨g1_1, 0, none⟩))), (4, .slice (none) (0) (0)), (18, .int .i64 ((n : Int))), (19, .int .i64 (((i + 1 : Nat) : Int))), (5, .slice (o) ((outL p q i).length) (cp))] := yA HS17 [0, 1, 2, 3, 4, 5, 6, 15, 7] (by rfl)
          have hHq0' : Held w4 _ [] := yD HH18 0 rfl
          have e1 := outL_no1 (differs_of hr2 hr3 (by rw [hr4]; rfl))
          rw [← e1] at hSq0' hOn
          exact ⟨⟨i + 1, o, cp, by omega, hOn, hSq0', hHq0'⟩, by rw [(hSq0'.get 7 rfl)]; show n - (((i + 1 : Nat) : Int)).toNat < n - i; omega⟩
        · skip
          obtain ⟨r5, hr5⟩ : ∃ r : Bool, (hasB (outL p q i) (catK p q (i))) = r := ⟨_, rfl⟩
          refine wp_seq ?_
          have hLo : LOk [(0, 37, .val (.bool false)), (1, 38, .val (.bool false)), (2, 39, .val (.bool false)), (3, 40, .val (.bool false)), (4, 41, .val (.int .i64 (((p).tell (catK p q (i))).1))), (5, 42, .val (.int .i64 (((q).tell (catK p q (i))).1))), (6, 43, .val (.bool true)), (7, 44, .val (.bool true)), (8, 45, .val (.bool true)), (9, 46, .val (.slice (o) ((outL p q i).length) (cp))), (10, 47, .val (.pointer (some ⟨g13_2, 0, none⟩))), (11, 48, .val (.string (catK p q (i)))), (12, 49, .val (.bool r5)), (13, 50, .val (.bool (!r5))), (14, 51, .val (.bool (!r5)))] := lok (by rfl) (by rfl)
          refine zH (wE := wq0) (sz := 59) (n := 15) [0, 1, 3, 7, 15, 31, 63, 127, 255, 511, 1023, 2047, 4095, 8191, 16383] [(17, .val (.slice (oa) (n) (cc))), (0, .val (.agg (FR () 6 ((p).sc)))), (1, .val (.agg (FR () 6 ((q).sc)))), (2, .val (.pointer (some (⟨g1_0, 0, none⟩)))), (3, .val (.pointer (some (⟨g1_1, 0, none⟩)))), (4, .val (.slice (none) (0) (0))), (18, .val (.int .i64 ((n : Int)))), (19, .val (.int .i64 ((i : Int)))), (5, .val (.slice (o) ((outL p q i).length) (cp))), (20, .val (.bool true)), (7, .val (.pointer (some ⟨g13_2, 0, none⟩))), (8, .val (.int .i64 (((p).tell (catK p q (i))).1))), (9, .val (.bool false)), (10, .val (.int .i64 (((q).tell (catK p q (i))).1))), (11, .val (.bool false)), (51, .val (.bool (!r5)))] [(0, 37, .val (.bool false)), (1, 38, .val (.bool false)), (2, 39, .val (.bool false)), (3, 40, .val (.bool false)), (4, 41, .val (.int .i64 (((p).tell (catK p q (i))).1))), (5, 42, .val (.int .i64 (((q).tell (catK p q (i))).1))), (6, 43, .val (.bool true)), (7, 44, .val (.bool true)), (8, 45, .val (.bool true)), (9, 46, .val (.slice (o) ((outL p q i).length) (cp))), (10, 47, .val (.pointer (some ⟨g13_2, 0, none⟩))), (11, 48, .val (.string (catK p q (i)))), (12, 49, .val (.bool r5)), (13, 50, .val (.bool (!r5))), (14, 51, .val (.bool (!r5)))] [⟨g13_2, none, none, (), 7, msc (catK p q (i)) (catM p q (i)), msc (catK p q (i)) (catM p q (i)), 44⟩] rfl (by rfl) HH15 rfl rfl hLo rfl HS15 (slS 0 rfl rfl (slS 1 rfl rfl (slS 2 rfl rfl (slS 3 rfl rfl (slS 4 rfl rfl (slS 5 rfl rfl (slS 6 rfl rfl (slS 7 rfl rfl (slS 8 rfl rfl (slS 9 rfl rfl (slS 10 rfl rfl (slS 11 rfl rfl (slS 12 rfl rfl (slS 13 rfl rfl (slS 14 rfl rfl (slL 14 (d := 14) rfl (trivial))))))))))))))))) ?_ ?_
          · show ∀ i ∈ [0, 1, 2, 3, 4, 5, 6, 7, 8, 9, 10, 11, 12, 13, 14], _
            refine zA (zB 0 _ rfl rfl hLo rfl rfl (fun _ _ _ _ => rfl) (fun b G w hb ho => zD (.inl rfl) (zG rfl (HS15.get 12 rfl)))) ?_
            refine zA (zB 1 _ rfl rfl hLo rfl rfl (fun _ _ _ _ => rfl) (fun b G w hb ho => zD (.inl rfl) (zG rfl (HS15.get 14 rfl)))) ?_
            refine zA (zB 2 _ rfl rfl hLo rfl rfl (fun _ _ _ _ => rfl) (fun b G w hb ho => zI rfl (zC hLo 0 rfl HS15.1 rfl (hb 0 (by rfl))) (zC hLo 1 rfl HS15.1 rfl (hb 1 (by rfl))) (rb_bneq Tryd.underlying4 (rfl) _ _ _))) ?_
            refine zA (zB 3 _ rfl rfl hLo rfl rfl (fun _ _ _ _ => rfl) (fun b G w hb ho => zD (.inl rfl) (zC hLo 2 rfl HS15.1 rfl (hb 2 (by rfl))))) ?_
            refine zA (zB 4 _ rfl rfl hLo rfl rfl (fun b G hb ho => zE rfl rfl rfl HS15.1 rfl (zC hLo 3 rfl HS15.1 rfl (hb 3 (by rfl))) rfl) (fun b G w hb ho => zD (.inl rfl) (zG rfl (HS15.get 11 rfl)))) ?_
            refine zA (zB 5 _ rfl rfl hLo rfl rfl (fun b G hb ho => zE rfl rfl rfl HS15.1 rfl (zC hLo 3 rfl HS15.1 rfl (hb 3 (by rfl))) rfl) (fun b G w hb ho => zD (.inl rfl) (zG rfl (HS15.get 13 rfl)))) ?_
            refine zA (zB 6 _ rfl rfl hLo rfl rfl (fun b G hb ho => zE rfl rfl rfl HS15.1 rfl (zC hLo 3 rfl HS15.1 rfl (hb 3 (by rfl))) rfl) (fun b G w hb ho => zI rfl (zC hLo 4 rfl HS15.1 rfl (hb 4 (by rfl))) (zC hLo 5 rfl HS15.1 rfl (hb 5 (by rfl))) (rb_neq hr4 _ _ _))) ?_
            refine zA (zB 7 _ rfl rfl hLo rfl rfl (fun _ _ _ _ => rfl) (fun b G w hb ho => zL rfl (zC hLo 3 rfl HS15.1 rfl (hb 3 (by rfl))) (zC hLo 6 rfl HS15.1 rfl (hb 6 (by rfl))))) ?_
            refine zA (zB 8 _ rfl rfl hLo rfl rfl (fun _ _ _ _ => rfl) (fun b G w hb ho => zD (.inl rfl) (zC hLo 7 rfl HS15.1 rfl (hb 7 (by rfl))))) ?_
            refine zA (zB 9 _ rfl rfl hLo rfl rfl (fun b G hb ho => zE rfl rfl rfl HS15.1 rfl (zC hLo 8 rfl HS15.1 rfl (hb 8 (by rfl))) rfl) (fun b G w hb ho => zD (.inl rfl) (zG rfl (HS15.get 8 rfl)))) ?_
            refine zA (zB 10 _ rfl rfl hLo rfl rfl (fun b G hb ho => zE rfl rfl rfl HS15.1 rfl (zC hLo 8 rfl HS15.1 rfl (hb 8 (by rfl))) rfl) (fun b G w hb ho => zJ rfl (zG rfl (HS15.get 10 rfl)) (by kernel_rfl))) ?_
            refine zA (zW 11 0 _ _ rfl rfl rfl hLo rfl rfl (fun b G hb ho => zE rfl rfl rfl HS15.1 rfl (zC hLo 8 rfl HS15.1 rfl (hb 8 (by rfl))) rfl) (by rfl) (by rfl) (fun b G w hb ho hr => zP hr (Nat.le_of_ble_eq_true rfl) Tryd.underlying9 rfl rfl (zC hLo 10 rfl HS15.1 rfl (hb 10 (by rfl))))) ?_
            refine zA (yB 12 _ #[.slice (o) ((outL p q i).length) (cp), .string (catK p q (i))] rfl rfl rfl (fun b G hb ho => zE rfl rfl rfl HS15.1 rfl (zC hLo 8 rfl HS15.1 rfl (hb 8 (by rfl))) rfl) hLo rfl rfl Tryd.func40 rfl rfl (fun b G hb ho => args2 (zC hLo 9 rfl HS15.1 rfl (hb 9 (by rfl))) (zC hLo 11 rfl HS15.1 rfl (hb 11 (by rfl)))) (fun w hw => (by have hq := contains_calls (catK p q (i)) (c := cp) (StrsAt.own (hO.below hw)) (by have := outL_len (a := p) (b := q) i; omega); rw [show (look (fun k => (outL p q i).getD k ByteArray.empty) (catK p q (i)) (outL p q i).length).isSome = hasB (outL p q i) (catK p q (i)) from rfl, hr5] at hq; exact hq))) ?_
            refine zA (zB 13 _ rfl rfl hLo rfl rfl (fun b G hb ho => zE rfl rfl rfl HS15.1 rfl (zC hLo 8 rfl HS15.1 rfl (hb 8 (by rfl))) rfl) (fun b G w hb ho => exec_un rfl (zC hLo 12 rfl HS15.1 rfl (hb 12 (by rfl))) (ru_not _))) ?_
            refine zA (zB 14 _ rfl rfl hLo rfl rfl (fun _ _ _ _ => rfl) (fun b G w hb ho => zL rfl (zC hLo 8 rfl HS15.1 rfl (hb 8 (by rfl))) (zC hLo 13 rfl HS15.1 rfl (hb 13 (by rfl))))) ?_
            exact zF
          clear hLo
          intro G a19 w19 hS hH
          have HS19 : Sl a19 59 [(17, .slice (oa) (n) (cc)), (0, .agg (FR () 6 ((p).sc))), (1, .agg (FR () 6 ((q).sc))), (2, .pointer (some (⟨g1_0, 0, none⟩))), (3, .pointer (some (⟨g1_1, 0, none⟩))), (4, .slice (none) (0) (0)), (18, .int .i64 ((n : Int))), (19, .int .i64 ((i : Int))), (5, .slice (o) ((outL p q i).length) (cp)), (20, .bool true), (7, .pointer (some ⟨g13_2, 0, none⟩)), (8, .int .i64 (((p).tell (catK p q (i))).1)), (9, .bool false), (10, .int .i64 (((q).tell (catK p q (i))).1)), (11, .bool false), (51, .bool (!r5))] := hS
          have HH19 : Held wq0 w19 [⟨g13_2, (), 7, msc (catK p q (i)) (catM p q (i)), 44⟩] := hH
          clear hS hH HS15 HH15
          refine then_ ?_
          cases r5
          · skip
            refine wp_cond_true (HS19.get 15 rfl) ?_
            refine whole_ ?_
            have hLo : LOk [(0, 52, .val (.slice (o) ((outL p q i).length) (cp))), (1, 53, .val (.pointer (some ⟨g13_2, 0, none⟩))), (2, 54, .val (.string (catK p q (i)))), (3, 55, .new 3 (fun g => .slice (some ⟨g, 0, none⟩) (1) (1)))] := lok (by rfl) (by rfl)
            refine part_ (wE := wq0) (sz := 59) (n := 6) 0 4 [0, 1, 3, 7, 15, 31] [(17, .val (.slice (oa) (n) (cc))), (0, .val (.agg (FR () 6 ((p).sc)))), (1, .val (.agg (FR () 6 ((q).sc)))), (2, .val (.pointer (some (⟨g1_0, 0, none⟩)))), (3, .val (.pointer (some (⟨g1_1, 0, none⟩)))), (4, .val (.slice (none) (0) (0))), (18, .val (.int .i64 ((n : Int)))), (19, .val (.int .i64 ((i : Int)))), (5, .val (.slice (o) ((outL p q i).length) (cp))), (20, .val (.bool true)), (7, .val (.pointer (some ⟨g13_2, 0, none⟩))), (8, .val (.int .i64 (((p).tell (catK p q (i))).1))), (9, .val (.bool false)), (10, .val (.int .i64 (((q).tell (catK p q (i))).1))), (11, .val (.bool false)), (51, .val (.bool true)), (52, .val (.slice (o) ((outL p q i).length) (cp))), (55, .new 3 (fun g => .slice (some ⟨g, 0, none⟩) (1) (1)))] [(0, 52, .val (.slice (o) ((outL p q i).length) (cp))), (1, 53, .val (.pointer (some ⟨g13_2, 0, none⟩))), (2, 54, .val (.string (catK p q (i)))), (3, 55, .new 3 (fun g => .slice (some ⟨g, 0, none⟩) (1) (1)))] [⟨g13_2, none, none, (), 7, msc (catK p q (i)) (catM p q (i)), msc (catK p q (i)) (catM p q (i)), 44⟩, ⟨0, some 3, none, (), 1, lsc [.s (catK p q (i))], lsc [.s (catK p q (i))], 9⟩] rfl rfl (by rfl) HH19 rfl rfl hLo rfl HS19 (slS 0 rfl rfl (slS 1 rfl rfl (slS 2 rfl rfl (slS 3 rfl rfl (slS 4 rfl rfl (slS 5 rfl rfl (slS 6 rfl rfl (slS 7 rfl rfl (slS 8 rfl rfl (slS 9 rfl rfl (slS 10 rfl rfl (slS 11 rfl rfl (slS 12 rfl rfl (slS 13 rfl rfl (slS 14 rfl rfl (slS 15 rfl rfl (slL 0 (d := 0) rfl (slL 3 (d := 3) rfl (trivial))))))))))))))))))) ?_ ?_
            · show ∀ i ∈ [0, 1, 2, 3], _
              refine zA (zB 0 _ rfl rfl hLo rfl rfl (fun _ _ _ _ => rfl) (fun b G w hb ho => zD (.inl rfl) (zG rfl (HS19.get 8 rfl)))) ?_
              refine zA (zB 1 _ rfl rfl hLo rfl rfl (fun _ _ _ _ => rfl) (fun b G w hb ho => zJ rfl (zG rfl (HS19.get 10 rfl)) (by kernel_rfl))) ?_
              refine zA (zW 2 0 _ _ rfl rfl rfl hLo rfl rfl (fun _ _ _ _ => rfl) (by rfl) (by rfl) (fun b G w hb ho hr => zP hr (Nat.le_of_ble_eq_true rfl) Tryd.underlying9 rfl rfl (zC hLo 1 rfl HS19.1 rfl (hb 1 (by rfl))))) ?_
              refine zA (zZ 3 1 () 1 9 none _ _ rfl rfl (fun _ _ _ _ => rfl) rfl hLo rfl rfl rfl rfl (by rfl) (fun b G w hb ho => exec_buildSlice rfl (parts1 (zC hLo 2 rfl HS19.1 rfl (hb 2 (by rfl)))) (by kernel_rfl))) ?_
              exact zF
            clear hLo
            intro G a20 w20 hS hH
            have HS20 : Sl a20 59 [(17, .slice (oa) (n) (cc)), (0, .agg (FR () 6 ((p).sc))), (1, .agg (FR () 6 ((q).sc))), (2, .pointer (some (⟨g1_0, 0, none⟩))), (3, .pointer (some (⟨g1_1, 0, none⟩))), (4, .slice (none) (0) (0)), (18, .int .i64 ((n : Int))), (19, .int .i64 ((i : Int))), (5, .slice (o) ((outL p q i).length) (cp)), (20, .bool true), (7, .pointer (some ⟨g13_2, 0, none⟩)), (8, .int .i64 (((p).tell (catK p q (i))).1)), (9, .bool false), (10, .int .i64 (((q).tell (catK p q (i))).1)), (11, .bool false), (51, .bool true), (52, .slice (o) ((outL p q i).length) (cp)), (55, .slice (some ⟨(G 3), 0, none⟩) (1) (1))] := hS
            have HH20 : Held wq0 w20 [⟨g13_2, (), 7, msc (catK p q (i)) (catM p q (i)), 44⟩, ⟨(G 3), (), 1, lsc [.s (catK p q (i))], 9⟩] := hH
            clear hS hH HS19 HH19
            generalize G 3 = g20_3 at HS20 HH20
            have hol := outL_len (a := p) (b := q) i
            have hOw21 := hO.below HH20.1
            have hSr21 := src_one (HH20.row 1 rfl) Tryd.underlying54
            have HH22 := Held.back HHq0 HH20
            refine cut_append (wE := w4) rfl rfl rfl rfl (HS20.get 16 rfl) (HS20.get 17 rfl) Tryd.underlying54 infS zS1 hOw21 hSr21 (by unfold maxLen; omega) (by omega) HH22 rfl HS20 rfl ?_
            intro oa21 c21 w21 hO21 hH21 a21 hS
            have HS23 : Sl a21 59 [(56, .slice (oa21) ((outL p q i).length + 1) (c21)), (17, .slice (oa) (n) (cc)), (0, .agg (FR () 6 ((p).sc))), (1, .agg (FR () 6 ((q).sc))), (2, .pointer (some (⟨g1_0, 0, none⟩))), (3, .pointer (some (⟨g1_1, 0, none⟩))), (4, .slice (none) (0) (0)), (18, .int .i64 ((n : Int))), (19, .int .i64 ((i : Int))), (5, .slice (o) ((outL p q i).length) (cp)), (20, .bool true), (7, .pointer (some (⟨g13_2, 0, none⟩))), (8, .int .i64 (((p).tell (catK p q (i))).1)), (9, .bool false), (10, .int .i64 (((q).tell (catK p q (i))).1)), (11, .bool false), (51, .bool true), (52, .slice (o) ((outL p q i).length) (cp)), (55, .slice (some ⟨g20_3, 0, none⟩) (1) (1))] := hS
            have HH23 : Held w4 w21 [] := hH21
            clear hS
            have hInp_24 := hInp_6.below HH23.1
            have hInq_24 := hInq_6.below HH23.1
            have hRow6_0_24 := (hRow6_0).below HH23.1 (hRow6_0).lt
            have hRow6_1_24 := (hRow6_1).below HH23.1 (hRow6_1).lt
            have hRow6_2_24 := (hRow6_2).below HH23.1 (hRow6_2).lt
            have hM_24 := hM.below HH23.1
            have HH24 : Held w21 w21 [] := Held.first w21
            have HS24 : Sl a21 59 [(56, .slice (oa21) ((outL p q i).length + 1) (c21)), (17, .slice (oa) (n) (cc)), (0, .agg (FR () 6 ((p).sc))), (1, .agg (FR () 6 ((q).sc))), (2, .pointer (some (⟨g1_0, 0, none⟩))), (3, .pointer (some (⟨g1_1, 0, none⟩))), (4, .slice (none) (0) (0)), (18, .int .i64 ((n : Int))), (19, .int .i64 ((i : Int))), (5, .slice (o) ((outL p q i).length) (cp)), (20, .bool true), (7, .pointer (some (⟨g13_2, 0, none⟩))), (8, .int .i64 (((p).tell (catK p q (i))).1)), (9, .bool false), (10, .int .i64 (((q).tell (catK p q (i))).1)), (11, .bool false), (51, .bool true), (52, .slice (o) ((outL p q i).length) (cp)), (55, .slice (some ⟨g20_3, 0, none⟩) (1) (1))] := HS23
            have hLo : LOk [(5, 5, .val (.slice (oa21) ((outL p q i).length + 1) (c21)))] := lok (by rfl) (by rfl)
            refine part_ (wE := w21) (sz := 59) (n := 6) 5 6 [0, 1, 3, 7, 15, 31] [(17, .val (.slice (oa) (n) (cc))), (0, .val (.agg (FR () 6 ((p).sc)))), (1, .val (.agg (FR () 6 ((q).sc)))), (2, .val (.pointer (some (⟨g1_0, 0, none⟩)))), (3, .val (.pointer (some (⟨g1_1, 0, none⟩)))), (4, .val (.slice (none) (0) (0))), (18, .val (.int .i64 ((n : Int)))), (19, .val (.int .i64 ((i : Int)))), (20, .val (.bool true)), (7, .val (.pointer (some (⟨g13_2, 0, none⟩)))), (8, .val (.int .i64 (((p).tell (catK p q (i))).1))), (9, .val (.bool false)), (10, .val (.int .i64 (((q).tell (catK p q (i))).1))), (11, .val (.bool false)), (51, .val (.bool true)), (5, .val (.slice (oa21) ((outL p q i).length + 1) (c21)))] [(5, 5, .val (.slice (oa21) ((outL p q i).length + 1) (c21)))] [] rfl rfl (by rfl) HH24 rfl rfl hLo rfl HS24 (slS 1 rfl rfl (slS 2 rfl rfl (slS 3 rfl rfl (slS 4 rfl rfl (slS 5 rfl rfl (slS 6 rfl rfl (slS 7 rfl rfl (slS 8 rfl rfl (slS 10 rfl rfl (slS 11 rfl rfl (slS 12 rfl rfl (slS 13 rfl rfl (slS 14 rfl rfl (slS 15 rfl rfl (slS 16 rfl rfl (slL 0 (d := 5) rfl (trivial))))))))))))))))) ?_ ?_
            · show ∀ i ∈ [5], _
              refine zA (zB 0 _ rfl rfl hLo rfl rfl (fun _ _ _ _ => rfl) (fun b G w hb ho => zD (.inr rfl) (zG rfl (HS24.get 0 rfl)))) ?_
              exact zF
            clear hLo
            intro G a25 w25 hS hH
            have HS25 : Sl a25 59 [(17, .slice (oa) (n) (cc)), (0, .agg (FR () 6 ((p).sc))), (1, .agg (FR () 6 ((q).sc))), (2, .pointer (some (⟨g1_0, 0, none⟩))), (3, .pointer (some (⟨g1_1, 0, none⟩))), (4, .slice (none) (0) (0)), (18, .int .i64 ((n : Int))), (19, .int .i64 ((i : Int))), (20, .bool true), (7, .pointer (some (⟨g13_2, 0, none⟩))), (8, .int .i64 (((p).tell (catK p q (i))).1)), (9, .bool false), (10, .int .i64 (((q).tell (catK p q (i))).1)), (11, .bool false), (51, .bool true), (5, .slice (oa21) ((outL p q i).length + 1) (c21))] := hS
            have HH25 : Held w21 w25 [] := hH
            clear hS hH HS24 HH24
            refine end_ rfl ?_
            refine zQ ?_
            refine then_ ?_
            have hLo : LOk [(0, 57, .val (.int .i64 (((i + 1 : Nat) : Int)))), (1, 19, .val (.int .i64 (((i + 1 : Nat) : Int))))] := lok (by rfl) (by rfl)
            refine zH (wE := w21) (sz := 59) (n := 2) [0, 1] [(17, .val (.slice (oa) (n) (cc))), (0, .val (.agg (FR () 6 ((p).sc)))), (1, .val (.agg (FR () 6 ((q).sc)))), (2, .val (.pointer (some (⟨g1_0, 0, none⟩)))), (3, .val (.pointer (some (⟨g1_1, 0, none⟩)))), (4, .val (.slice (none) (0) (0))), (18, .val (.int .i64 ((n : Int)))), (20, .val (.bool true)), (7, .val (.pointer (some (⟨g13_2, 0, none⟩)))), (8, .val (.int .i64 (((p).tell (catK p q (i))).1))), (9, .val (.bool false)), (10, .val (.int .i64 (((q).tell (catK p q (i))).1))), (11, .val (.bool false)), (51, .val (.bool true)), (5, .val (.slice (oa21) ((outL p q i).length + 1) (c21))), (19, .val (.int .i64 (((i + 1 : Nat) : Int))))] [(0, 57, .val (.int .i64 (((i + 1 : Nat) : Int)))), (1, 19, .val (.int .i64 (((i + 1 : Nat) : Int))))] [] rfl (by rfl) HH25 rfl rfl hLo rfl HS25 (slS 0 rfl rfl (slS 1 rfl rfl (slS 2 rfl rfl (slS 3 rfl rfl (slS 4 rfl rfl (slS 5 rfl rfl (slS 6 rfl rfl (slS 8 rfl rfl (slS 9 rfl rfl (slS 10 rfl rfl (slS 11 rfl rfl (slS 12 rfl rfl (slS 13 rfl rfl (slS 14 rfl rfl (slS 15 rfl rfl (slL 1 (d := 1) rfl (trivial))))))))))))))))) ?_ ?_
            · show ∀ i ∈ [0, 1], _
              refine zA (zB 0 _ rfl rfl hLo rfl rfl (fun _ _ _ _ => rfl) (fun b G w hb ho => zI rfl (ev_pre hLo 1 rfl (ho 1 (by rfl)) (HS25.get 7 rfl)) (rfl) (rb_add (w_nat (by omega) (by omega)) _ _ _))) ?_
              refine zA (zB 1 _ rfl rfl hLo rfl rfl (fun _ _ _ _ => rfl) (fun b G w hb ho => zD (.inl rfl) (zC hLo 0 rfl HS25.1 rfl (hb 0 (by rfl))))) ?_
              exact zF
            clear hLo
            intro G a26 w26 hS hH
            have HS26 : Sl a26 59 [(17, .slice (oa) (n) (cc)), (0, .agg (FR () 6 ((p).sc))), (1, .agg (FR () 6 ((q).sc))), (2, .pointer (some (⟨g1_0, 0, none⟩))), (3, .pointer (some (⟨g1_1, 0, none⟩))), (4, .slice (none) (0) (0)), (18, .int .i64 ((n : Int))), (20, .bool true), (7, .pointer (some (⟨g13_2, 0, none⟩))), (8, .int .i64 (((p).tell (catK p q (i))).1)), (9, .bool false), (10, .int .i64 (((q).tell (catK p q (i))).1)), (11, .bool false), (51, .bool true), (5, .slice (oa21) ((outL p q i).length + 1) (c21)), (19, .int .i64 (((i + 1 : Nat) : Int)))] := hS
            have HH26 : Held w21 w26 [] := hH
            clear hS hH HS25 HH25
            refine then_ ?_
            have hOn := hO21.below HH26.1
            have HH27 := Held.back HH23 HH26
            have hSq0' : Sl _ 59 [(17, .slice (oa) (n) (cc)), (0, .agg (FR () 6 ((p).sc))), (1, .agg (FR () 6 ((q).sc))), (2, .pointer (some (⟨g1_0, 0, none⟩))), (3, .pointer (some (⟨g1_1, 0, none⟩))), (4, .slice (none) (0) (0)), (18, .int .i64 ((n : Int))), (19, .int .i64 (((i + 1 : Nat) : Int))), (5, .slice (oa21) ((outL p q i).length + 1) (c21))] := yA HS26 [0, 1, 2, 3, 4, 5, 6, 15, 14] (by rfl)
            have hHq0' : Held w4 _ [] := yD HH27 0 rfl
            obtain ⟨e1, e2⟩ := out_yes (differs_of hr2 hr3 (by rw [hr4]; rfl)) hr5
            rw [← e1] at hSq0' hOn
            rw [← e2] at hOn
            exact ⟨⟨i + 1, oa21, c21, by omega, hOn, hSq0', hHq0'⟩, by rw [(hSq0'.get 7 rfl)]; show n - (((i + 1 : Nat) : Int)).toNat < n - i; omega⟩
          · skip
            refine wp_cond_false (HS19.get 15 rfl) ?_
            refine wp_skip ?_
            refine zQ ?_
            refine then_ ?_
            have hLo : LOk [(0, 57, .val (.int .i64 (((i + 1 : Nat) : Int)))), (1, 19, .val (.int .i64 (((i + 1 : Nat) : Int))))] := lok (by rfl) (by rfl)
            refine zH (wE := wq0) (sz := 59) (n := 2) [0, 1] [(17, .val (.slice (oa) (n) (cc))), (0, .val (.agg (FR () 6 ((p).sc)))), (1, .val (.agg (FR () 6 ((q).sc)))), (2, .val (.pointer (some (⟨g1_0, 0, none⟩)))), (3, .val (.pointer (some (⟨g1_1, 0, none⟩)))), (4, .val (.slice (none) (0) (0))), (18, .val (.int .i64 ((n : Int)))), (5, .val (.slice (o) ((outL p q i).length) (cp))), (20, .val (.bool true)), (7, .val (.pointer (some ⟨g13_2, 0, none⟩))), (8, .val (.int .i64 (((p).tell (catK p q (i))).1))), (9, .val (.bool false)), (10, .val (.int .i64 (((q).tell (catK p q (i))).1))), (11, .val (.bool false)), (51, .val (.bool false)), (19, .val (.int .i64 (((i + 1 : Nat) : Int))))] [(0, 57, .val (.int .i64 (((i + 1 : Nat) : Int)))), (1, 19, .val (.int .i64 (((i + 1 : Nat) : Int))))] [⟨g13_2, none, none, (), 7, msc (catK p q (i)) (catM p q (i)), msc (catK p q (i)) (catM p q (i)), 44⟩] rfl (by rfl) HH19 rfl rfl hLo rfl HS19 (slS 0 rfl rfl (slS 1 rfl rfl (slS 2 rfl rfl (slS 3 rfl rfl (slS 4 rfl rfl (slS 5 rfl rfl (slS 6 rfl rfl (slS 8 rfl rfl (slS 9 rfl rfl (slS 10 rfl rfl (slS 11 rfl rfl (slS 12 rfl rfl (slS 13 rfl rfl (slS 14 rfl rfl (slS 15 rfl rfl (slL 1 (d := 1) rfl (trivial))))))))))))))))) ?_ ?_
            · show ∀ i ∈ [0, 1], _
              refine zA (zB 0 _ rfl rfl hLo rfl rfl (fun _ _ _ _ => rfl) (fun b G w hb ho => zI rfl (ev_pre hLo 1 rfl (ho 1 (by rfl)) (HS19.get 7 rfl)) (rfl) (rb_add (w_nat (by omega) (by omega)) _ _ _))) ?_
              refine zA (zB 1 _ rfl rfl hLo rfl rfl (fun _ _ _ _ => rfl) (fun b G w hb ho => zD (.inl rfl) (zC hLo 0 rfl HS19.1 rfl (hb 0 (by rfl))))) ?_
              exact zF
            clear hLo
            intro G a28 w28 hS hH
            have HS28 : Sl a28 59 [(17, .slice (oa) (n) (cc)), (0, .agg (FR () 6 ((p).sc))), (1, .agg (FR () 6 ((q).sc))), (2, .pointer (some (⟨g1_0, 0, none⟩))), (3, .pointer (some (⟨g1_1, 0, none⟩))), (4, .slice (none) (0) (0)), (18, .int .i64 ((n : Int))), (5, .slice (o) ((outL p q i).length) (cp)), (20, .bool true), (7, .pointer (some ⟨g13_2, 0, none⟩)), (8, .int .i64 (((p).tell (catK p q (i))).1)), (9, .bool false), (10, .int .i64 (((q).tell (catK p q (i))).1)), (11, .bool false), (51, .bool false), (19, .int .i64 (((i + 1 : Nat) : Int)))] := hS
            have HH28 : Held wq0 w28 [⟨g13_2, (), 7, msc (catK p q (i)) (catM p q (i)), 44⟩] := hH
            clear hS hH HS19 HH19
            refine then_ ?_
            have hOn := hO.below HH28.1
            have HH29 := Held.back HHq0 HH28
            have hSq0' : Sl _ 59 [(17, .slice (oa) (n) (cc)), (0, .agg (FR () 6 ((p).sc))), (1, .agg (FR () 6 ((q).sc))), (2, .pointer (some (⟨g1_0, 0, none⟩))), (3, .pointer (some (⟨g1_1, 0, none⟩))), (4, .slice (none) (0) (0)), (18, .int .i64 ((n : Int))), (19, .int .i64 (((i + 1 : Nat) : Int))), (5, .slice (o) ((outL p q i).length) (cp))] := yA HS28 [0, 1, 2, 3, 4, 5, 6, 15, 7] (by rfl)
            have hHq0' : Held w4 _ [] := yD HH29 0 rfl
            have e1 := outL_no2 hr5
            rw [← e1] at hSq0' hOn
            exact ⟨⟨i + 1, o, cp, by omega, hOn, hSq0', hHq0'⟩, by rw [(hSq0'.get 7 rfl)]; show n - (((i + 1 : Nat) : Int)).toNat < n - i; omega⟩
      · skip
        obtain ⟨r6, hr6⟩ : ∃ r : Bool, (hasB (outL p q i) (catK p q (i))) = r := ⟨_, rfl⟩
        refine wp_seq ?_
        have hLo : LOk [(0, 37, .val (.bool false)), (1, 38, .val (.bool true)), (2, 39, .val (.bool true)), (3, 40, .val (.bool true)), (4, 41, .val (undef)), (5, 42, .val (undef)), (6, 43, .val (undef)), (7, 44, .val (.bool true)), (8, 45, .val (.bool true)), (9, 46, .val (.slice (o) ((outL p q i).length) (cp))), (10, 47, .val (.pointer (some ⟨g13_2, 0, none⟩))), (11, 48, .val (.string (catK p q (i)))), (12, 49, .val (.bool r6)), (13, 50, .val (.bool (!r6))), (14, 51, .val (.bool (!r6)))] := lok (by rfl) (by rfl)
        refine zH (wE := wq0) (sz := 59) (n := 15) [0, 1, 3, 7, 15, 31, 63, 127, 255, 511, 1023, 2047, 4095, 8191, 16383] [(17, .val (.slice (oa) (n) (cc))), (0, .val (.agg (FR () 6 ((p).sc)))), (1, .val (.agg (FR () 6 ((q).sc)))), (2, .val (.pointer (some (⟨g1_0, 0, none⟩)))), (3, .val (.pointer (some (⟨g1_1, 0, none⟩)))), (4, .val (.slice (none) (0) (0))), (18, .val (.int .i64 ((n : Int)))), (19, .val (.int .i64 ((i : Int)))), (5, .val (.slice (o) ((outL p q i).length) (cp))), (20, .val (.bool true)), (7, .val (.pointer (some ⟨g13_2, 0, none⟩))), (8, .val (.int .i64 (((p).tell (catK p q (i))).1))), (9, .val (.bool false)), (10, .val (.int .i64 (((q).tell (catK p q (i))).1))), (11, .val (.bool true)), (51, .val (.bool (!r6)))] [(0, 37, .val (.bool false)), (1, 38, .val (.bool true)), (2, 39, .val (.bool true)), (3, 40, .val (.bool true)), (4, 41, .val (undef)), (5, 42, .val (undef)), (6, 43, .val (undef)), (7, 44, .val (.bool true)), (8, 45, .val (.bool true)), (9, 46, .val (.slice (o) ((outL p q i).length) (cp))), (10, 47, .val (.pointer (some ⟨g13_2, 0, none⟩))), (11, 48, .val (.string (catK p q (i)))), (12, 49, .val (.bool r6)), (13, 50, .val (.bool (!r6))), (14, 51, .val (.bool (!r6)))] [⟨g13_2, none, none, (), 7, msc (catK p q (i)) (catM p q (i)), msc (catK p q (i)) (catM p q (i)), 44⟩] rfl (by rfl) HH15 rfl rfl hLo rfl HS15 (slS 0 rfl rfl (slS 1 rfl rfl (slS 2 rfl rfl (slS 3 rfl rfl (slS 4 rfl rfl (slS 5 rfl rfl (slS 6 rfl rfl (slS 7 rfl rfl (slS 8 rfl rfl (slS 9 rfl rfl (slS 10 rfl rfl (slS 11 rfl rfl (slS 12 rfl rfl (slS 13 rfl rfl (slS 14 rfl rfl (slL 14 (d := 14) rfl (trivial))))))))))))))))) ?_ ?_
        · show ∀ i ∈ [0, 1, 2, 3, 4, 5, 6, 7, 8, 9, 10, 11, 12, 13, 14], _
          refine zA (zB 0 _ rfl rfl hLo rfl rfl (fun _ _ _ _ => rfl) (fun b G w hb ho => zD (.inl rfl) (zG rfl (HS15.get 12 rfl)))) ?_
          refine zA (zB 1 _ rfl rfl hLo rfl rfl (fun _ _ _ _ => rfl) (fun b G w hb ho => zD (.inl rfl) (zG rfl (HS15.get 14 rfl)))) ?_
          refine zA (zB 2 _ rfl rfl hLo rfl rfl (fun _ _ _ _ => rfl) (fun b G w hb ho => zI rfl (zC hLo 0 rfl HS15.1 rfl (hb 0 (by rfl))) (zC hLo 1 rfl HS15.1 rfl (hb 1 (by rfl))) (rb_bneq Tryd.underlying4 (rfl) _ _ _))) ?_
          refine zA (zB 3 _ rfl rfl hLo rfl rfl (fun _ _ _ _ => rfl) (fun b G w hb ho => zD (.inl rfl) (zC hLo 2 rfl HS15.1 rfl (hb 2 (by rfl))))) ?_
          refine zA (zN 4 rfl rfl hLo rfl rfl (fun b G hb ho => zE rfl rfl rfl HS15.1 rfl (zC hLo 3 rfl HS15.1 rfl (hb 3 (by rfl))) rfl)) ?_
          refine zA (zN 5 rfl rfl hLo rfl rfl (fun b G hb ho => zE rfl rfl rfl HS15.1 rfl (zC hLo 3 rfl HS15.1 rfl (hb 3 (by rfl))) rfl)) ?_
          refine zA (zN 6 rfl rfl hLo rfl rfl (fun b G hb ho => zE rfl rfl rfl HS15.1 rfl (zC hLo 3 rfl HS15.1 rfl (hb 3 (by rfl))) rfl)) ?_
          refine zA (zB 7 _ rfl rfl hLo rfl rfl (fun _ _ _ _ => rfl) (fun b G w hb ho => zL rfl (zC hLo 3 rfl HS15.1 rfl (hb 3 (by rfl))) (rfl))) ?_
          refine zA (zB 8 _ rfl rfl hLo rfl rfl (fun _ _ _ _ => rfl) (fun b G w hb ho => zD (.inl rfl) (zC hLo 7 rfl HS15.1 rfl (hb 7 (by rfl))))) ?_
          refine zA (zB 9 _ rfl rfl hLo rfl rfl (fun b G hb ho => zE rfl rfl rfl HS15.1 rfl (zC hLo 8 rfl HS15.1 rfl (hb 8 (by rfl))) rfl) (fun b G w hb ho => zD (.inl rfl) (zG rfl (HS15.get 8 rfl)))) ?_
          refine zA (zB 10 _ rfl rfl hLo rfl rfl (fun b G hb ho => zE rfl rfl rfl HS15.1 rfl (zC hLo 8 rfl HS15.1 rfl (hb 8 (by rfl))) rfl) (fun b G w hb ho => zJ rfl (zG rfl (HS15.get 10 rfl)) (by kernel_rfl))) ?_
          refine zA (zW 11 0 _ _ rfl rfl rfl hLo rfl rfl (fun b G hb ho => zE rfl rfl rfl HS15.1 rfl (zC hLo 8 rfl HS15.1 rfl (hb 8 (by rfl))) rfl) (by rfl) (by rfl) (fun b G w hb ho hr => zP hr (Nat.le_of_ble_eq_true rfl) Tryd.underlying9 rfl rfl (zC hLo 10 rfl HS15.1 rfl (hb 10 (by rfl))))) ?_
          refine zA (yB 12 _ #[.slice (o) ((outL p q i).length) (cp), .string (catK p q (i))] rfl rfl rfl (fun b G hb ho => zE rfl rfl rfl HS15.1 rfl (zC hLo 8 rfl HS15.1 rfl (hb 8 (by rfl))) rfl) hLo rfl rfl Tryd.func40 rfl rfl (fun b G hb ho => args2 (zC hLo 9 rfl HS15.1 rfl (hb 9 (by rfl))) (zC hLo 11 rfl HS15.1 rfl (hb 11 (by rfl)))) (fun w hw => (by have hq := contains_calls (catK p q (i)) (c := cp) (StrsAt.own (hO.below hw)) (by have := outL_len (a := p) (b := q) i; omega); rw [show (look (fun k => (outL p q i).getD k ByteArray.empty) (catK p q (i)) (outL p q i).length).isSome = hasB (outL p q i) (catK p q (i)) from rfl, hr6] at hq; exact hq))) ?_
          refine zA (zB 13 _ rfl rfl hLo rfl rfl (fun b G hb ho => zE rfl rfl rfl HS15.1 rfl (zC hLo 8 rfl HS15.1 rfl (hb 8 (by rfl))) rfl) (fun b G w hb ho => exec_un rfl (zC hLo 12 rfl HS15.1 rfl (hb 12 (by rfl))) (ru_not _))) ?_
          refine zA (zB 14 _ rfl rfl hLo rfl rfl (fun _ _ _ _ => rfl) (fun b G w hb ho => zL rfl (zC hLo 8 rfl HS15.1 rfl (hb 8 (by rfl))) (zC hLo 13 rfl HS15.1 rfl (hb 13 (by rfl))))) ?_
          exact zF
        clear hLo
        intro G a30 w30 hS hH
        have HS30 : Sl a30 59 [(17, .slice (oa) (n) (cc)), (0, .agg (FR () 6 ((p).sc))), (1, .agg (FR () 6 ((q).sc))), (2, .pointer (some (⟨g1_0, 0, none⟩))), (3, .pointer (some (⟨g1_1, 0, none⟩))), (4, .slice (none) (0) (0)), (18, .int .i64 ((n : Int))), (19, .int .i64 ((i : Int))), (5, .slice (o) ((outL p q i).length) (cp)), (20, .bool true), (7, .pointer (some ⟨g13_2, 0, none⟩)), (8, .int .i64 (((p).tell (catK p q (i))).1)), (9, .bool false), (10, .int .i64 (((q).tell (catK p q (i))).1)), (11, .bool true), (51, .bool (!r6))] := hS
        have HH30 : Held wq0 w30 [⟨g13_2, (), 7, msc (catK p q (i)) (catM p q (i)), 44⟩] := hH
        clear hS hH HS15 HH15
        refine then_ ?_
        cases r6
        · skip
          refine wp_cond_true (HS30.get 15 rfl) ?_
          refine whole_ ?_
          have hLo : LOk [(0, 52, .val (.slice (o) ((outL p q i).length) (cp))), (1, 53, .val (.pointer (some ⟨g13_2, 0, none⟩))), (2, 54, .val (.string (catK p q (i)))), (3, 55, .new 3 (fun g => .slice (some ⟨g, 0, none⟩) (1) (1)))] := lok (by rfl) (by rfl)
          refine part_ (wE := wq0) (sz := 59) (n := 6) 0 4 [0, 1, 3, 7, 15, 31] [(17, .val (.slice (oa) (n) (cc))), (0, .val (.agg (FR () 6 ((p).sc)))), (1, .val (.agg (FR () 6 ((q).sc)))), (2, .val (.pointer (some (⟨g1_0, 0, none⟩)))), (3, .val (.pointer (some (⟨g1_1, 0, none⟩)))), (4, .val (.slice (none) (0) (0))), (18, .val (.int .i64 ((n : Int)))), (19, .val (.int .i64 ((i : Int)))), (5, .val (.slice (o) ((outL p q i).length) (cp))), (20, .val (.bool true)), (7, .val (.pointer (some ⟨g13_2, 0, none⟩))), (8, .val (.int .i64 (((p).tell (catK p q (i))).1))), (9, .val (.bool false)), (10, .val (.int .i64 (((q).tell (catK p q (i))).1))), (11, .val (.bool true)), (51, .val (.bool true)), (52, .val (.slice (o) ((outL p q i).length) (cp))), (55, .new 3 (fun g => .slice (some ⟨g, 0, none⟩) (1) (1)))] [(0, 52, .val (.slice (o) ((outL p q i).length) (cp))), (1, 53, .val (.pointer (some ⟨g13_2, 0, none⟩))), (2, 54, .val (.string (catK p q (i)))), (3, 55, .new 3 (fun g => .slice (some ⟨g, 0, none⟩) (1) (1)))] [⟨g13_2, none, none, (), 7, msc (catK p q (i)) (catM p q (i)), msc (catK p q (i)) (catM p q (i)), 44⟩, ⟨0, some 3, none, (), 1, lsc [.s (catK p q (i))], lsc [.s (catK p q (i))], 9⟩] rfl rfl (by rfl) HH30 rfl rfl hLo rfl HS30 (slS 0 rfl rfl (slS 1 rfl rfl (slS 2 rfl rfl (slS 3 rfl rfl (slS 4 rfl rfl (slS 5 rfl rfl (slS 6 rfl rfl (slS 7 rfl rfl (slS 8 rfl rfl (slS 9 rfl rfl (slS 10 rfl rfl (slS 11 rfl rfl (slS 12 rfl rfl (slS 13 rfl rfl (slS 14 rfl rfl (slS 15 rfl rfl (slL 0 (d := 0) rfl (slL 3 (d := 3) rfl (trivial))))))))))))))))))) ?_ ?_
          · show ∀ i ∈ [0, 1, 2, 3], _
            refine zA (zB 0 _ rfl rfl hLo rfl rfl (fun _ _ _ _ => rfl) (fun b G w hb ho => zD (.inl rfl) (zG rfl (HS30.get 8 rfl)))) ?_
            refine zA (zB 1 _ rfl rfl hLo rfl rfl (fun _ _ _ _ => rfl) (fun b G w hb ho => zJ rfl (zG rfl (HS30.get 10 rfl)) (by kernel_rfl))) ?_
            refine zA (zW 2 0 _ _ rfl rfl rfl hLo rfl rfl (fun _ _ _ _ => rfl) (by rfl) (by rfl) (fun b G w hb ho hr => zP hr (Nat.le_of_ble_eq_true rfl) Tryd.underlying9 rfl rfl (zC hLo 1 rfl HS30.1 rfl (hb 1 (by rfl))))) ?_
            refine zA (zZ 3 1 () 1 9 none _ _ rfl rfl (fun _ _ _ _ => rfl) rfl hLo rfl rfl rfl rfl (by rfl) (fun b G w hb ho => exec_buildSlice rfl (parts1 (zC hLo 2 rfl HS30.1 rfl (hb 2 (by rfl)))) (by kernel_rfl))) ?_
            exact zF
          clear hLo
          intro G a31 w31 hS hH
          have HS31 : Sl a31 59 [(17, .slice (oa) (n) (cc)), (0, .agg (FR () 6 ((p).sc))), (1, .agg (FR () 6 ((q).sc))), (2, .pointer (some (⟨g1_0, 0, none⟩))), (3, .pointer (some (⟨g1_1, 0, none⟩))), (4, .slice (none) (0) (0)), (18, .int .i64 ((n : Int))), (19, .int .i64 ((i : Int))), (5, .slice (o) ((outL p q i).length) (cp)), (20, .bool true), (7, .pointer (some ⟨g13_2, 0, none⟩)), (8, .int .i64 (((p).tell (catK p q (i))).1)), (9, .bool false), (10, .int .i64 (((q).tell (catK p q (i))).1)), (11, .bool true), (51, .bool true), (52, .slice (o) ((outL p q i).length) (cp)), (55, .slice (some ⟨(G 3), 0, none⟩) (1) (1))] := hS
          have HH31 : Held wq0 w31 [⟨g13_2, (), 7, msc (catK p q (i)) (catM p q (i)), 44⟩, ⟨(G 3), (), 1, lsc [.s (catK p q (i))], 9⟩] := hH
          clear hS hH HS30 HH30
          generalize G 3 = g31_3 at HS31 HH31
          have hol := outL_len (a := p) (b := q) i
          have hOw32 := hO.below HH31.1
          have hSr32 := src_one (HH31.row 1 rfl) Tryd.underlying54
          have HH33 := Held.back HHq0 HH31
          refine cut_append (wE := w4) rfl rfl rfl rfl (HS31.get 16 rfl) (HS31.get 17 rfl) Tryd.underlying54 infS zS1 hOw32 hSr32 (by unfold maxLen; omega) (by omega) HH33 rfl HS31 rfl ?_
          intro oa32 c32 w32 hO32 hH32 a32 hS
          have HS34 : Sl a32 59 [(56, .slice (oa32) ((outL p q i).length + 1) (c32)), (17, .slice (oa) (n) (cc)), (0, .agg (FR () 6 ((p).sc))), (1, .agg (FR () 6 ((q).sc))), (2, .pointer (some (⟨g1_0, 0, none⟩))), (3, .pointer (some (⟨g1_1, 0, none⟩))), (4, .slice (none) (0) (0)), (18, .int .i64 ((n : Int))), (19, .int .i64 ((i : Int))), (5, .slice (o) ((outL p q i).length) (cp)), (20, .bool true), (7, .pointer (some (⟨g13_2, 0, none⟩))), (8, .int .i64 (((p).tell (catK p q (i))).1)), (9, .bool false), (10, .int .i64 (((q).tell (catK p q (i))).1)), (11, .bool true), (51, .bool true), (52, .slice (o) ((outL p q i).length) (cp)), (55, .slice (some ⟨g31_3, 0, none⟩) (1) (1))] := hS
          have HH34 : Held w4 w32 [] := hH32
          clear hS
          have hInp_35 := hInp_6.below HH34.1
          have hInq_35 := hInq_6.below HH34.1
          have hRow6_0_35 := (hRow6_0).below HH34.1 (hRow6_0).lt
          have hRow6_1_35 := (hRow6_1).below HH34.1 (hRow6_1).lt
          have hRow6_2_35 := (hRow6_2).below HH34.1 (hRow6_2).lt
          have hM_35 := hM.below HH34.1
          have HH35 : Held w32 w32 [] := Held.first w32
          have HS35 : Sl a32 59 [(56, .slice (oa32) ((outL p q i).length + 1) (c32)), (17, .slice (oa) (n) (cc)), (0, .agg (FR () 6 ((p).sc))), (1, .agg (FR () 6 ((q).sc))), (2, .pointer (some (⟨g1_0, 0, none⟩))), (3, .pointer (some (⟨g1_1, 0, none⟩))), (4, .slice (none) (0) (0)), (18, .int .i64 ((n : Int))), (19, .int .i64 ((i : Int))), (5, .slice (o) ((outL p q i).length) (cp)), (20, .bool true), (7, .pointer (some (⟨g13_2, 0, none⟩))), (8, .int .i64 (((p).tell (catK p q (i))).1)), (9, .bool false), (10, .int .i64 (((q).tell (catK p q (i))).1)), (11, .bool true), (51, .bool true), (52, .slice (o) ((outL p q i).length) (cp)), (55, .slice (some ⟨g31_3, 0, none⟩) (1) (1))] := HS34
          have hLo : LOk [(5, 5, .val (.slice (oa32) ((outL p q i).length + 1) (c32)))] := lok (by rfl) (by rfl)
          refine part_ (wE := w32) (sz := 59) (n := 6) 5 6 [0, 1, 3, 7, 15, 31] [(17, .val (.slice (oa) (n) (cc))), (0, .val (.agg (FR () 6 ((p).sc)))), (1, .val (.agg (FR () 6 ((q).sc)))), (2, .val (.pointer (some (⟨g1_0, 0, none⟩)))), (3, .val (.pointer (some (⟨g1_1, 0, none⟩)))), (4, .val (.slice (none) (0) (0))), (18, .val (.int .i64 ((n : Int)))), (19, .val (.int .i64 ((i : Int)))), (20, .val (.bool true)), (7, .val (.pointer (some (⟨g13_2, 0, none⟩)))), (8, .val (.int .i64 (((p).tell (catK p q (i))).1))), (9, .val (.bool false)), (10, .val (.int .i64 (((q).tell (catK p q (i))).1))), (11, .val (.bool true)), (51, .val (.bool true)), (5, .val (.slice (oa32) ((outL p q i).length + 1) (c32)))] [(5, 5, .val (.slice (oa32) ((outL p q i).length + 1) (c32)))] [] rfl rfl (by rfl) HH35 rfl rfl hLo rfl HS35 (slS 1 rfl rfl (slS 2 rfl rfl (slS 3 rfl rfl (slS 4 rfl rfl (slS 5 rfl rfl (slS 6 rfl rfl (slS 7 rfl rfl (slS 8 rfl rfl (slS 10 rfl rfl (slS 11 rfl rfl (slS 12 rfl rfl (slS 13 rfl rfl (slS 14 rfl rfl (slS 15 rfl rfl (slS 16 rfl rfl (slL 0 (d := 5) rfl (trivial))))))))))))))))) ?_ ?_
          · show ∀ i ∈ [5], _
            refine zA (zB 0 _ rfl rfl hLo rfl rfl (fun _ _ _ _ => rfl) (fun b G w hb ho => zD (.inr rfl) (zG rfl (HS35.get 0 rfl)))) ?_
            exact zF
          clear hLo
          intro G a36 w36 hS hH
          have HS36 : Sl a36 59 [(17, .slice (oa) (n) (cc)), (0, .agg (FR () 6 ((p).sc))), (1, .agg (FR () 6 ((q).sc))), (2, .pointer (some (⟨g1_0, 0, none⟩))), (3, .pointer (some (⟨g1_1, 0, none⟩))), (4, .slice (none) (0) (0)), (18, .int .i64 ((n : Int))), (19, .int .i64 ((i : Int))), (20, .bool true), (7, .pointer (some (⟨g13_2, 0, none⟩))), (8, .int .i64 (((p).tell (catK p q (i))).1)), (9, .bool false), (10, .int .i64 (((q).tell (catK p q (i))).1)), (11, .bool true), (51, .bool true), (5, .slice (oa32) ((outL p q i).length + 1) (c32))] := hS
          have HH36 : Held w32 w36 [] := hH
          clear hS hH HS35 HH35
          refine end_ rfl ?_
          refine zQ ?_
          refine then_ ?_
          have hLo : LOk [(0, 57, .val (.int .i64 (((i + 1 : Nat) : Int)))), (1, 19, .val (.int .i64 (((i + 1 : Nat) : Int))))] := lok (by rfl) (by rfl)
          refine zH (wE := w32) (sz := 59) (n := 2) [0, 1] [(17, .val (.slice (oa) (n) (cc))), (0, .val (.agg (FR () 6 ((p).sc)))), (1, .val (.agg (FR () 6 ((q).sc)))), (2, .val (.pointer (some (⟨g1_0, 0, none⟩)))), (3, .val (.pointer (some (⟨g1_1, 0, none⟩)))), (4, .val (.slice (none) (0) (0))), (18, .val (.int .i64 ((n : Int)))), (20, .val (.bool true)), (7, .val (.pointer (some (⟨g13_2, 0, none⟩)))), (8, .val (.int .i64 (((p).tell (catK p q (i))).1))), (9, .val (.bool false)), (10, .val (.int .i64 (((q).tell (catK p q (i))).1))), (11, .val (.bool true)), (51, .val (.bool true)), (5, .val (.slice (oa32) ((outL p q i).length + 1) (c32))), (19, .val (.int .i64 (((i + 1 : Nat) : Int))))] [(0, 57, .val (.int .i64 (((i + 1 : Nat) : Int)))), (1, 19, .val (.int .i64 (((i + 1 : Nat) : Int))))] [] rfl (by rfl) HH36 rfl rfl hLo rfl HS36 (slS 0 rfl rfl (slS 1 rfl rfl (slS 2 rfl rfl (slS 3 rfl rfl (slS 4 rfl rfl (slS 5 rfl rfl (slS 6 rfl rfl (slS 8 rfl rfl (slS 9 rfl rfl (slS 10 rfl rfl (slS 11 rfl rfl (slS 12 rfl rfl (slS 13 rfl rfl (slS 14 rfl rfl (slS 15 rfl rfl (slL 1 (d := 1) rfl (trivial))))))))))))))))) ?_ ?_
          · show ∀ i ∈ [0, 1], _
            refine zA (zB 0 _ rfl rfl hLo rfl rfl (fun _ _ _ _ => rfl) (fun b G w hb ho => zI rfl (ev_pre hLo 1 rfl (ho 1 (by rfl)) (HS36.get 7 rfl)) (rfl) (rb_add (w_nat (by omega) (by omega)) _ _ _))) ?_
            refine zA (zB 1 _ rfl rfl hLo rfl rfl (fun _ _ _ _ => rfl) (fun b G w hb ho => zD (.inl rfl) (zC hLo 0 rfl HS36.1 rfl (hb 0 (by rfl))))) ?_
            exact zF
          clear hLo
          intro G a37 w37 hS hH
          have HS37 : Sl a37 59 [(17, .slice (oa) (n) (cc)), (0, .agg (FR () 6 ((p).sc))), (1, .agg (FR () 6 ((q).sc))), (2, .pointer (some (⟨g1_0, 0, none⟩))), (3, .pointer (some (⟨g1_1, 0, none⟩))), (4, .slice (none) (0) (0)), (18, .int .i64 ((n : Int))), (20, .bool true), (7, .pointer (some (⟨g13_2, 0, none⟩))), (8, .int .i64 (((p).tell (catK p q (i))).1)), (9, .bool false), (10, .int .i64 (((q).tell (catK p q (i))).1)), (11, .bool true), (51, .bool true), (5, .slice (oa32) ((outL p q i).length + 1) (c32)), (19, .int .i64 (((i + 1 : Nat) : Int)))] := hS
          have HH37 : Held w32 w37 [] := hH
          clear hS hH HS36 HH36
          refine then_ ?_
          have hOn := hO32.below HH37.1
          have HH38 := Held.back HH34 HH37
          have hSq0' : Sl _ 59 [(17, .slice (oa) (n) (cc)), (0, .agg (FR () 6 ((p).sc))), (1, .agg (FR () 6 ((q).sc))), (2, .pointer (some (⟨g1_0, 0, none⟩))), (3, .pointer (some (⟨g1_1, 0, none⟩))), (4, .slice (none) (0) (0)), (18, .int .i64 ((n : Int))), (19, .int .i64 (((i + 1 : Nat) : Int))), (5, .slice (oa32) ((outL p q i).length + 1) (c32))] := yA HS37 [0, 1, 2, 3, 4, 5, 6, 15, 14] (by rfl)
          have hHq0' : Held w4 _ [] := yD HH38 0 rfl
          obtain ⟨e1, e2⟩ := out_yes (differs_of hr2 hr3 (by rfl)) hr6
          rw [← e1] at hSq0' hOn
          rw [← e2] at hOn
          exact ⟨⟨i + 1, oa32, c32, by omega, hOn, hSq0', hHq0'⟩, by rw [(hSq0'.get 7 rfl)]; show n - (((i + 1 : Nat) : Int)).toNat < n - i; omega⟩
        · skip
          refine wp_cond_false (HS30.get 15 rfl) ?_
          refine wp_skip ?_
          refine zQ ?_
          refine then_ ?_
          have hLo : LOk [(0, 57, .val (.int .i64 (((i + 1 : Nat) : Int)))), (1, 19, .val (.int .i64 (((i + 1 : Nat) : Int))))] := lok (by rfl) (by rfl)
          refine zH (wE := wq0) (sz := 59) (n := 2) [0, 1] [(17, .val (.slice (oa) (n) (cc))), (0, .val (.agg (FR () 6 ((p).sc)))), (1, .val (.agg (FR () 6 ((q).sc)))), (2, .val (.pointer (some (⟨g1_0, 0, none⟩)))), (3, .val (.pointer (some (⟨g1_1, 0, none⟩)))), (4, .val (.slice (none) (0) (0))), (18, .val (.int .i64 ((n : Int)))), (5, .val (.slice (o) ((outL p q i).length) (cp))), (20, .val (.bool true)), (7, .val (.pointer (some ⟨g13_2, 0, none⟩))), (8, .val (.int .i64 (((p).tell (catK p q (i))).1))), (9, .val (.bool false)), (10, .val (.int .i64 (((q).tell (catK p q (i))).1))), (11, .val (.bool true)), (51, .val (.bool false)), (19, .val (.int .i64 (((i + 1 : Nat) : Int))))] [(0, 57, .val (.int .i64 (((i + 1 : Nat) : Int)))), (1, 19, .val (.int .i64 (((i + 1 : Nat) : Int))))] [⟨g13_2, none, none, (), 7, msc (catK p q (i)) (catM p q (i)), msc (catK p q (i)) (catM p q (i)), 44⟩] rfl (by rfl) HH30 rfl rfl hLo rfl HS30 (slS 0 rfl rfl (slS 1 rfl rfl (slS 2 rfl rfl (slS 3 rfl rfl (slS 4 rfl rfl (slS 5 rfl rfl (slS 6 rfl rfl (slS 8 rfl rfl (slS 9 rfl rfl (slS 10 rfl rfl (slS 11 rfl rfl (slS 12 rfl rfl (slS 13 rfl rfl (slS 14 rfl rfl (slS 15 rfl rfl (slL 1 (d := 1) rfl (trivial))))))))))))))))) ?_ ?_
          · show ∀ i ∈ [0, 1], _
            refine zA (zB 0 _ rfl rfl hLo rfl rfl (fun _ _ _ _ => rfl) (fun b G w hb ho => zI rfl (ev_pre hLo 1 rfl (ho 1 (by rfl)) (HS30.get 7 rfl)) (rfl) (rb_add (w_nat (by omega) (by omega)) _ _ _))) ?_
            refine zA (zB 1 _ rfl rfl hLo rfl rfl (fun _ _ _ _ => rfl) (fun b G w hb ho => zD (.inl rfl) (zC hLo 0 rfl HS30.1 rfl (hb 0 (by rfl))))) ?_
            exact zF
          clear hLo
          intro G a39 w39 hS hH
          have HS39 : Sl a39 59 [(17, .slice (oa) (n) (cc)), (0, .agg (FR () 6 ((p).sc))), (1, .agg (FR () 6 ((q).sc))), (2, .pointer (some (⟨g1_0, 0, none⟩))), (3, .pointer (some (⟨g1_1, 0, none⟩))), (4, .slice (none) (0) (0)), (18, .int .i64 ((n : Int))), (5, .slice (o) ((outL p q i).length) (cp)), (20, .bool true), (7, .pointer (some ⟨g13_2, 0, none⟩)), (8, .int .i64 (((p).tell (catK p q (i))).1)), (9, .bool false), (10, .int .i64 (((q).tell (catK p q (i))).1)), (11, .bool true), (51, .bool false), (19, .int .i64 (((i + 1 : Nat) : Int)))] := hS
          have HH39 : Held wq0 w39 [⟨g13_2, (), 7, msc (catK p q (i)) (catM p q (i)), 44⟩] := hH
          clear hS hH HS30 HH30
          refine then_ ?_
          have hOn := hO.below HH39.1
          have HH40 := Held.back HHq0 HH39
          have hSq0' : Sl _ 59 [(17, .slice (oa) (n) (cc)), (0, .agg (FR () 6 ((p).sc))), (1, .agg (FR () 6 ((q).sc))), (2, .pointer (some (⟨g1_0, 0, none⟩))), (3, .pointer (some (⟨g1_1, 0, none⟩))), (4, .slice (none) (0) (0)), (18, .int .i64 ((n : Int))), (19, .int .i64 (((i + 1 : Nat) : Int))), (5, .slice (o) ((outL p q i).length) (cp))] := yA HS39 [0, 1, 2, 3, 4, 5, 6, 15, 7] (by rfl)
          have hHq0' : Held w4 _ [] := yD HH40 0 rfl
          have e1 := outL_no2 hr6
          rw [← e1] at hSq0' hOn
          exact ⟨⟨i + 1, o, cp, by omega, hOn, hSq0', hHq0'⟩, by rw [(hSq0'.get 7 rfl)]; show n - (((i + 1 : Nat) : Int)).toNat < n - i; omega⟩
    · skip
      cases r3
      · skip
        obtain ⟨r7, hr7⟩ : ∃ r : Bool, (hasB (outL p q i) (catK p q (i))) = r := ⟨_, rfl⟩
        refine wp_seq ?_
        have hLo : LOk [(0, 37, .val (.bool true)), (1, 38, .val (.bool false)), (2, 39, .val (.bool true)), (3, 40, .val (.bool true)), (4, 41, .val (undef)), (5, 42, .val (undef)), (6, 43, .val (undef)), (7, 44, .val (.bool true)), (8, 45, .val (.bool true)), (9, 46, .val (.slice (o) ((outL p q i).length) (cp))), (10, 47, .val (.pointer (some ⟨g13_2, 0, none⟩))), (11, 48, .val (.string (catK p q (i)))), (12, 49, .val (.bool r7)), (13, 50, .val (.bool (!r7))), (14, 51, .val (.bool (!r7)))] := lok (by rfl) (by rfl)
        refine zH (wE := wq0) (sz := 59) (n := 15) [0, 1, 3, 7, 15, 31, 63, 127, 255, 511, 1023, 2047, 4095, 8191, 16383] [(17, .val (.slice (oa) (n) (cc))), (0, .val (.agg (FR () 6 ((p).sc)))), (1, .val (.agg (FR () 6 ((q).sc)))), (2, .val (.pointer (some (⟨g1_0, 0, none⟩)))), (3, .val (.pointer (some (⟨g1_1, 0, none⟩)))), (4, .val (.slice (none) (0) (0))), (18, .val (.int .i64 ((n : Int)))), (19, .val (.int .i64 ((i : Int)))), (5, .val (.slice (o) ((outL p q i).length) (cp))), (20, .val (.bool true)), (7, .val (.pointer (some ⟨g13_2, 0, none⟩))), (8, .val (.int .i64 (((p).tell (catK p q (i))).1))), (9, .val (.bool true)), (10, .val (.int .i64 (((q).tell (catK p q (i))).1))), (11, .val (.bool false)), (51, .val (.bool (!r7)))] [(0, 37, .val (.bool true)), (1, 38, .val (.bool false)), (2, 39, .val (.bool true)), (3, 40, .val (.bool true)), (4, 41, .val (undef)), (5, 42, .val (undef)), (6, 43, .val (undef)), (7, 44, .val (.bool true)), (8, 45, .val (.bool true)), (9, 46, .val (.slice (o) ((outL p q i).length) (cp))), (10, 47, .val (.pointer (some ⟨g13_2, 0, none⟩))), (11, 48, .val (.string (catK p q (i)))), (12, 49, .val (.bool r7)), (13, 50, .val (.bool (!r7))), (14, 51, .val (.bool (!r7)))] [⟨g13_2, none, none, (), 7, msc (catK p q (i)) (catM p q (i)), msc (catK p q (i)) (catM p q (i)), 44⟩] rfl (by rfl) HH15 rfl rfl hLo rfl HS15 (slS 0 rfl rfl (slS 1 rfl rfl (slS 2 rfl rfl (slS 3 rfl rfl (slS 4 rfl rfl (slS 5 rfl rfl (slS 6 rfl rfl (slS 7 rfl rfl (slS 8 rfl rfl (slS 9 rfl rfl (slS 10 rfl rfl (slS 11 rfl rfl (slS 12 rfl rfl (slS 13 rfl rfl (slS 14 rfl rfl (slL 14 (d := 14) rfl (trivial))))))))))))))))) ?_ ?_
        · show ∀ i ∈ [0, 1, 2, 3, 4, 5, 6, 7, 8, 9, 10, 11, 12, 13, 14], _
          refine zA (zB 0 _ rfl rfl hLo rfl rfl (fun _ _ _ _ => rfl) (fun b G w hb ho => zD (.inl rfl) (zG rfl (HS15.get 12 rfl)))) ?_
          refine zA (zB 1 _ rfl rfl hLo rfl rfl (fun _ _ _ _ => rfl) (fun b G w hb ho => zD (.inl rfl) (zG rfl (HS15.get 14 rfl)))) ?_
          refine zA (zB 2 _ rfl rfl hLo rfl rfl (fun _ _ _ _ => rfl) (fun b G w hb ho => zI rfl (zC hLo 0 rfl HS15.1 rfl (hb 0 (by rfl))) (zC hLo 1 rfl HS15.1 rfl (hb 1 (by rfl))) (rb_bneq Tryd.underlying4 (rfl) _ _ _))) ?_
          refine zA (zB 3 _ rfl rfl hLo rfl rfl (fun _ _ _ _ => rfl) (fun b G w hb ho => zD (.inl rfl) (zC hLo 2 rfl HS15.1 rfl (hb 2 (by rfl))))) ?_
          refine zA (zN 4 rfl rfl hLo rfl rfl (fun b G hb ho => zE rfl rfl rfl HS15.1 rfl (zC hLo 3 rfl HS15.1 rfl (hb 3 (by rfl))) rfl)) ?_
          refine zA (zN 5 rfl rfl hLo rfl rfl (fun b G hb ho => zE rfl rfl rfl HS15.1 rfl (zC hLo 3 rfl HS15.1 rfl (hb 3 (by rfl))) rfl)) ?_
          refine zA (zN 6 rfl rfl hLo rfl rfl (fun b G hb ho => zE rfl rfl rfl HS15.1 rfl (zC hLo 3 rfl HS15.1 rfl (hb 3 (by rfl))) rfl)) ?_
          refine zA (zB 7 _ rfl rfl hLo rfl rfl (fun _ _ _ _ => rfl) (fun b G w hb ho => zL rfl (zC hLo 3 rfl HS15.1 rfl (hb 3 (by rfl))) (rfl))) ?_
          refine zA (zB 8 _ rfl rfl hLo rfl rfl (fun _ _ _ _ => rfl) (fun b G w hb ho => zD (.inl rfl) (zC hLo 7 rfl HS15.1 rfl (hb 7 (by rfl))))) ?_
          refine zA (zB 9 _ rfl rfl hLo rfl rfl (fun b G hb ho => zE rfl rfl rfl HS15.1 rfl (zC hLo 8 rfl HS15.1 rfl (hb 8 (by rfl))) rfl) (fun b G w hb ho => zD (.inl rfl) (zG rfl (HS15.get 8 rfl)))) ?_
          refine zA (zB 10 _ rfl rfl hLo rfl rfl (fun b G hb ho => zE rfl rfl rfl HS15.1 rfl (zC hLo 8 rfl HS15.1 rfl (hb 8 (by rfl))) rfl) (fun b G w hb ho => zJ rfl (zG rfl (HS15.get 10 rfl)) (by kernel_rfl))) ?_
          refine zA (zW 11 0 _ _ rfl rfl rfl hLo rfl rfl (fun b G hb ho => zE rfl rfl rfl HS15.1 rfl (zC hLo 8 rfl HS15.1 rfl (hb 8 (by rfl))) rfl) (by rfl) (by rfl) (fun b G w hb ho hr => zP hr (Nat.le_of_ble_eq_true rfl) Tryd.underlying9 rfl rfl (zC hLo 10 rfl HS15.1 rfl (hb 10 (by rfl))))) ?_
          refine zA (yB 12 _ #[.slice (o) ((outL p q i).length) (cp), .string (catK p q (i))] rfl rfl rfl (fun b G hb ho => zE rfl rfl rfl HS15.1 rfl (zC hLo 8 rfl HS15.1 rfl (hb 8 (by rfl))) rfl) hLo rfl rfl Tryd.func40 rfl rfl (fun b G hb ho => args2 (zC hLo 9 rfl HS15.1 rfl (hb 9 (by rfl))) (zC hLo 11 rfl HS15.1 rfl (hb 11 (by rfl)))) (fun w hw => (by have hq := contains_calls (catK p q (i)) (c := cp) (StrsAt.own (hO.below hw)) (by have := outL_len (a := p) (b := q) i; omega); rw [show (look (fun k => (outL p q i).getD k ByteArray.empty) (catK p q (i)) (outL p q i).length).isSome = hasB (outL p q i) (catK p q (i)) from rfl, hr7] at hq; exact hq))) ?_
          refine zA (zB 13 _ rfl rfl hLo rfl rfl (fun b G hb ho => zE rfl rfl rfl HS15.1 rfl (zC hLo 8 rfl HS15.1 rfl (hb 8 (by rfl))) rfl) (fun b G w hb ho => exec_un rfl (zC hLo 12 rfl HS15.1 rfl (hb 12 (by rfl))) (ru_not _))) ?_
          refine zA (zB 14 _ rfl rfl hLo rfl rfl (fun _ _ _ _ => rfl) (fun b G w hb ho => zL rfl (zC hLo 8 rfl HS15.1 rfl (hb 8 (by rfl))) (zC hLo 13 rfl HS15.1 rfl (hb 13 (by rfl))))) ?_
          exact zF
        clear hLo
        intro G a41 w41 hS hH
        have HS41 : Sl a41 59 [(17, .slice (oa) (n) (cc)), (0, .agg (FR () 6 ((p).sc))), (1, .agg (FR () 6 ((q).sc))), (2, .pointer (some (⟨g1_0, 0, none⟩))), (3, .pointer (some (⟨g1_1, 0, none⟩))), (4, .slice (none) (0) (0)), (18, .int .i64 ((n : Int))), (19, .int .i64 ((i : Int))), (5, .slice (o) ((outL p q i).length) (cp)), (20, .bool true), (7, .pointer (some ⟨g13_2, 0, none⟩)), (8, .int .i64 (((p).tell (catK p q (i))).1)), (9, .bool true), (10, .int .i64 (((q).tell (catK p q (i))).1)), (11, .bool false), (51, .bool (!r7))] := hS
        have HH41 : Held wq0 w41 [⟨g13_2, (), 7, msc (catK p q (i)) (catM p q (i)), 44⟩] := hH
        clear hS hH HS15 HH15
        refine then_ ?_
        cases r7
        · skip
          refine wp_cond_true (HS41.get 15 rfl) ?_
          refine whole_ ?_
          have hLo : LOk [(0, 52, .val (.slice (o) ((outL p q i).length) (cp))), (1, 53, .val (.pointer (some ⟨g13_2, 0, none⟩))), (2, 54, .val (.string (catK p q (i)))), (3, 55, .new 3 (fun g => .slice (some ⟨g, 0, none⟩) (1) (1)))] := lok (by rfl) (by rfl)
          refine part_ (wE := wq0) (sz := 59) (n := 6) 0 4 [0, 1, 3, 7, 15, 31] [(17, .val (.slice (oa) (n) (cc))), (0, .val (.agg (FR () 6 ((p).sc)))), (1, .val (.agg (FR () 6 ((q).sc)))), (2, .val (.pointer (some (⟨g1_0, 0, none⟩)))), (3, .val (.pointer (some (⟨g1_1, 0, none⟩)))), (4, .val (.slice (none) (0) (0))), (18, .val (.int .i64 ((n : Int)))), (19, .val (.int .i64 ((i : Int)))), (5, .val (.slice (o) ((outL p q i).length) (cp))), (20, .val (.bool true)), (7, .val (.pointer (some ⟨g13_2, 0, none⟩))), (8, .val (.int .i64 (((p).tell (catK p q (i))).1))), (9, .val (.bool true)), (10, .val (.int .i64 (((q).tell (catK p q (i))).1))), (11, .val (.bool false)), (51, .val (.bool true)), (52, .val (.slice (o) ((outL p q i).length) (cp))), (55, .new 3 (fun g => .slice (some ⟨g, 0, none⟩) (1) (1)))] [(0, 52, .val (.slice (o) ((outL p q i).length) (cp))), (1, 53, .val (.pointer (some ⟨g13_2, 0, none⟩))), (2, 54, .val (.string (catK p q (i)))), (3, 55, .new 3 (fun g => .slice (some ⟨g, 0, none⟩) (1) (1)))] [⟨g13_2, none, none, (), 7, msc (catK p q (i)) (catM p q (i)), msc (catK p q (i)) (catM p q (i)), 44⟩, ⟨0, some 3, none, (), 1, lsc [.s (catK p q (i))], lsc [.s (catK p q (i))], 9⟩] rfl rfl (by rfl) HH41 rfl rfl hLo rfl HS41 (slS 0 rfl rfl (slS 1 rfl rfl (slS 2 rfl rfl (slS 3 rfl rfl (slS 4 rfl rfl (slS 5 rfl rfl (slS 6 rfl rfl (slS 7 rfl rfl (slS 8 rfl rfl (slS 9 rfl rfl (slS 10 rfl rfl (slS 11 rfl rfl (slS 12 rfl rfl (slS 13 rfl rfl (slS 14 rfl rfl (slS 15 rfl rfl (slL 0 (d := 0) rfl (slL 3 (d := 3) rfl (trivial))))))))))))))))))) ?_ ?_
          · show ∀ i ∈ [0, 1, 2, 3], _
            refine zA (zB 0 _ rfl rfl hLo rfl rfl (fun _ _ _ _ => rfl) (fun b G w hb ho => zD (.inl rfl) (zG rfl (HS41.get 8 rfl)))) ?_
            refine zA (zB 1 _ rfl rfl hLo rfl rfl (fun _ _ _ _ => rfl) (fun b G w hb ho => zJ rfl (zG rfl (HS41.get 10 rfl)) (by kernel_rfl))) ?_
            refine zA (zW 2 0 _ _ rfl rfl rfl hLo rfl rfl (fun _ _ _ _ => rfl) (by rfl) (by rfl) (fun b G w hb ho hr => zP hr (Nat.le_of_ble_eq_true rfl) Tryd.underlying9 rfl rfl (zC hLo 1 rfl HS41.1 rfl (hb 1 (by rfl))))) ?_
            refine zA (zZ 3 1 () 1 9 none _ _ rfl rfl (fun _ _ _ _ => rfl) rfl hLo rfl rfl rfl rfl (by rfl) (fun b G w hb ho => exec_buildSlice rfl (parts1 (zC hLo 2 rfl HS41.1 rfl (hb 2 (by rfl)))) (by kernel_rfl))) ?_
            exact zF
          clear hLo
          intro G a42 w42 hS hH
          have HS42 : Sl a42 59 [(17, .slice (oa) (n) (cc)), (0, .agg (FR () 6 ((p).sc))), (1, .agg (FR () 6 ((q).sc))), (2, .pointer (some (⟨g1_0, 0, none⟩))), (3, .pointer (some (⟨g1_1, 0, none⟩))), (4, .slice (none) (0) (0)), (18, .int .i64 ((n : Int))), (19, .int .i64 ((i : Int))), (5, .slice (o) ((outL p q i).length) (cp)), (20, .bool true), (7, .pointer (some ⟨g13_2, 0, none⟩)), (8, .int .i64 (((p).tell (catK p q (i))).1)), (9, .bool true), (10, .int .i64 (((q).tell (catK p q (i))).1)), (11, .bool false), (51, .bool true), (52, .slice (o) ((outL p q i).length) (cp)), (55, .slice (some ⟨(G 3), 0, none⟩) (1) (1))] := hS
          have HH42 : Held wq0 w42 [⟨g13_2, (), 7, msc (catK p q (i)) (catM p q (i)), 44⟩, ⟨(G 3), (), 1, lsc [.s (catK p q (i))], 9⟩] := hH
          clear hS hH HS41 HH41
          generalize G 3 = g42_3 at HS42 HH42
          have hol := outL_len (a := p) (b := q) i
          have hOw43 := hO.below HH42.1
          have hSr43 := src_one (HH42.row 1 rfl) Tryd.underlying54
          have HH44 := Held.back HHq0 HH42
          refine cut_append (wE := w4) rfl rfl rfl rfl (HS42.get 16 rfl) (HS42.get 17 rfl) Tryd.underlying54 infS zS1 hOw43 hSr43 (by unfold maxLen; omega) (by omega) HH44 rfl HS42 rfl ?_
          intro oa43 c43 w43 hO43 hH43 a43 hS
          have HS45 : Sl a43 59 [(56, .slice (oa43) ((outL p q i).length + 1) (c43)), (17, .slice (oa) (n) (cc)), (0, .agg (FR () 6 ((p).sc))), (1, .agg (FR () 6 ((q).sc))), (2, .pointer (some (⟨g1_0, 0, none⟩))), (3, .pointer (some (⟨g1_1, 0, none⟩))), (4, .slice (none) (0) (0)), (18, .int .i64 ((n : Int))), (19, .int .i64 ((i : Int))), (5, .slice (o) ((outL p q i).length) (cp)), (20, .bool true), (7, .pointer (some (⟨g13_2, 0, none⟩))), (8, .int .i64 (((p).tell (catK p q (i))).1)), (9, .bool true), (10, .int .i64 (((q).tell (catK p q (i))).1)), (11, .bool false), (51, .bool true), (52, .slice (o) ((outL p q i).length) (cp)), (55, .slice (some ⟨g42_3, 0, none⟩) (1) (1))] := hS
          have HH45 : Held w4 w43 [] := hH43
          clear hS
          have hInp_46 := hInp_6.below HH45.1
          have hInq_46 := hInq_6.below HH45.1
          have hRow6_0_46 := (hRow6_0).below HH45.1 (hRow6_0).lt
          have hRow6_1_46 := (hRow6_1).below HH45.1 (hRow6_1).lt
          have hRow6_2_46 := (hRow6_2).below HH45.1 (hRow6_2).lt
          have hM_46 := hM.below HH45.1
          have HH46 : Held w43 w43 [] := Held.first w43
          have HS46 : Sl a43 59 [(56, .slice (oa43) ((outL p q i).length + 1) (c43)), (17, .slice (oa) (n) (cc)), (0, .agg (FR () 6 ((p).sc))), (1, .agg (FR () 6 ((q).sc))), (2, .pointer (some (⟨g1_0, 0, none⟩))), (3, .pointer (some (⟨g1_1, 0, none⟩))), (4, .slice (none) (0) (0)), (18, .int .i64 ((n : Int))), (19, .int .i64 ((i : Int))), (5, .slice (o) ((outL p q i).length) (cp)), (20, .bool true), (7, .pointer (some (⟨g13_2, 0, none⟩))), (8, .int .i64 (((p).tell (catK p q (i))).1)), (9, .bool true), (10, .int .i64 (((q).tell (catK p q (i))).1)), (11, .bool false), (51, .bool true), (52, .slice (o) ((outL p q i).length) (cp)), (55, .slice (some ⟨g42_3, 0, none⟩) (1) (1))] := HS45
          have hLo : LOk [(5, 5, .val (.slice (oa43) ((outL p q i).length + 1) (c43)))] := lok (by rfl) (by rfl)
          refine part_ (wE := w43) (sz := 59) (n := 6) 5 6 [0, 1, 3, 7, 15, 31] [(17, .val (.slice (oa) (n) (cc))), (0, .val (.agg (FR () 6 ((p).sc)))), (1, .val (.agg (FR () 6 ((q).sc)))), (2, .val (.pointer (some (⟨g1_0, 0, none⟩)))), (3, .val (.pointer (some (⟨g1_1, 0, none⟩)))), (4, .val (.slice (none) (0) (0))), (18, .val (.int .i64 ((n : Int)))), (19, .val (.int .i64 ((i : Int)))), (20, .val (.bool true)), (7, .val (.pointer (some (⟨g13_2, 0, none⟩)))), (8, .val (.int .i64 (((p).tell (catK p q (i))).1))), (9, .val (.bool true)), (10, .val (.int .i64 (((q).tell (catK p q (i))).1))), (11, .val (.bool false)), (51, .val (.bool true)), (5, .val (.slice (oa43) ((outL p q i).length + 1) (c43)))] [(5, 5, .val (.slice (oa43) ((outL p q i).length + 1) (c43)))] [] rfl rfl (by rfl) HH46 rfl rfl hLo rfl HS46 (slS 1 rfl rfl (slS 2 rfl rfl (slS 3 rfl rfl (slS 4 rfl rfl (slS 5 rfl rfl (slS 6 rfl rfl (slS 7 rfl rfl (slS 8 rfl rfl (slS 10 rfl rfl (slS 11 rfl rfl (slS 12 rfl rfl (slS 13 rfl rfl (slS 14 rfl rfl (slS 15 rfl rfl (slS 16 rfl rfl (slL 0 (d := 5) rfl (trivial))))))))))))))))) ?_ ?_
          · show ∀ i ∈ [5], _
            refine zA (zB 0 _ rfl rfl hLo rfl rfl (fun _ _ _ _ => rfl) (fun b G w hb ho => zD (.inr rfl) (zG rfl (HS46.get 0 rfl)))) ?_
            exact zF
          clear hLo
          intro G a47 w47 hS hH
          have HS47 : Sl a47 59 [(17, .slice (oa) (n) (cc)), (0, .agg (FR () 6 ((p).sc))), (1, .agg (FR () 6 ((q).sc))), (2, .pointer (some (⟨g1_0, 0, none⟩))), (3, .pointer (some (⟨g1_1, 0, none⟩))), (4, .slice (none) (0) (0)), (18, .int .i64 ((n : Int))), (19, .int .i64 ((i : Int))), (20, .bool true), (7, .pointer (some (⟨g13_2, 0, none⟩))), (8, .int .i64 (((p).tell (catK p q (i))).1)), (9, .bool true), (10, .int .i64 (((q).tell (catK p q (i))).1)), (11, .bool false), (51, .bool true), (5, .slice (oa43) ((outL p q i).length + 1) (c43))] := hS
          have HH47 : Held w43 w47 [] := hH
          clear hS hH HS46 HH46
          refine end_ rfl ?_
          refine zQ ?_
          refine then_ ?_
          have hLo : LOk [(0, 57, .val (.int .i64 (((i + 1 : Nat) : Int)))), (1, 19, .val (.int .i64 (((i + 1 : Nat) : Int))))] := lok (by rfl) (by rfl)
          refine zH (wE := w43) (sz := 59) (n := 2) [0, 1] [(17, .val (.slice (oa) (n) (cc))), (0, .val (.agg (FR () 6 ((p).sc)))), (1, .val (.agg (FR () 6 ((q).sc)))), (2, .val (.pointer (some (⟨g1_0, 0, none⟩)))), (3, .val (.pointer (some (⟨g1_1, 0, none⟩)))), (4, .val (.slice (none) (0) (0))), (18, .val (.int .i64 ((n : Int)))), (20, .val (.bool true)), (7, .val (.pointer (some (⟨g13_2, 0, none⟩)))), (8, .val (.int .i64 (((p).tell (catK p q (i))).1))), (9, .val (.bool true)), (10, .val (.int .i64 (((q).tell (catK p q (i))).1))), (11, .val (.bool false)), (51, .val (.bool true)), (5, .val (.slice (oa43) ((outL p q i).length + 1) (c43))), (19, .val (.int .i64 (((i + 1 : Nat) : Int))))] [(0, 57, .val (.int .i64 (((i + 1 : Nat) : Int)))), (1, 19, .val (.int .i64 (((i + 1 : Nat) : Int))))] [] rfl (by rfl) HH47 rfl rfl hLo rfl HS47 (slS 0 rfl rfl (slS 1 rfl rfl (slS 2 rfl rfl (slS 3 rfl rfl (slS 4 rfl rfl (slS 5 rfl rfl (slS 6 rfl rfl (slS 8 rfl rfl (slS 9 rfl rfl (slS 10 rfl rfl (slS 11 rfl rfl (slS 12 rfl rfl (slS 13 rfl rfl (slS 14 rfl rfl (slS 15 rfl rfl (slL 1 (d := 1) rfl (trivial))))))))))))))))) ?_ ?_
          · show ∀ i ∈ [0, 1], _
            refine zA (zB 0 _ rfl rfl hLo rfl rfl (fun _ _ _ _ => rfl) (fun b G w hb ho => zI rfl (ev_pre hLo 1 rfl (ho 1 (by rfl)) (HS47.get 7 rfl)) (rfl) (rb_add (w_nat (by omega) (by omega)) _ _ _))) ?_
            refine zA (zB 1 _ rfl rfl hLo rfl rfl (fun _ _ _ _ => rfl) (fun b G w hb ho => zD (.inl rfl) (zC hLo 0 rfl HS47.1 rfl (hb 0 (by rfl))))) ?_
            exact zF
          clear hLo
          intro G a48 w48 hS hH
          have HS48 : Sl a48 59 [(17, .slice (oa) (n) (cc)), (0, .agg (FR () 6 ((p).sc))), (1, .agg (FR () 6 ((q).sc))), (2, .pointer (some (⟨g1_0, 0, none⟩))), (3, .pointer (some (⟨g1_1, 0, none⟩))), (4, .slice (none) (0) (0)), (18, .int .i64 ((n : Int))), (20, .bool true), (7, .pointer (some (⟨g13_2, 0, none⟩))), (8, .int .i64 (((p).tell (catK p q (i))).1)), (9, .bool true), (10, .int .i64 (((q).tell (catK p q (i))).1)), (11, .bool false), (51, .bool true), (5, .slice (oa43) ((outL p q i).length + 1) (c43)), (19, .int .i64 (((i + 1 : Nat) : Int)))] := hS
          have HH48 : Held w43 w48 [] := hH
          clear hS hH HS47 HH47
          refine then_ ?_
          have hOn := hO43.below HH48.1
          have HH49 := Held.back HH45 HH48
          have hSq0' : Sl _ 59 [(17, .slice (oa) (n) (cc)), (0, .agg (FR () 6 ((p).sc))), (1, .agg (FR () 6 ((q).sc))), (2, .pointer (some (⟨g1_0, 0, none⟩))), (3, .pointer (some (⟨g1_1, 0, none⟩))), (4, .slice (none) (0) (0)), (18, .int .i64 ((n : Int))), (19, .int .i64 (((i + 1 : Nat) : Int))), (5, .slice (oa43) ((outL p q i).length + 1) (c43))] := yA HS48 [0, 1, 2, 3, 4, 5, 6, 15, 14] (by rfl)
          have hHq0' : Held w4 _ [] := yD HH49 0 rfl
          obtain ⟨e1, e2⟩ := out_yes (differs_of hr2 hr3 (by rfl)) hr7
          rw [← e1] at hSq0' hOn
          rw [← e2] at hOn
          exact ⟨⟨i + 1, oa43, c43, by omega, hOn, hSq0', hHq0'⟩, by rw [(hSq0'.get 7 rfl)]; show n - (((i + 1 : Nat) : Int)).toNat < n - i; omega⟩
        · skip
          refine wp_cond_false (HS41.get 15 rfl) ?_
          refine wp_skip ?_
          refine zQ ?_
          refine then_ ?_
          have hLo : LOk [(0, 57, .val (.int .i64 (((i + 1 : Nat) : Int)))), (1, 19, .val (.int .i64 (((i + 1 : Nat) : Int))))] := lok (by rfl) (by rfl)
          refine zH (wE := wq0) (sz := 59) (n := 2) [0, 1] [(17, .val (.slice (oa) (n) (cc))), (0, .val (.agg (FR () 6 ((p).sc)))), (1, .val (.agg (FR () 6 ((q).sc)))), (2, .val (.pointer (some (⟨g1_0, 0, none⟩)))), (3, .val (.pointer (some (⟨g1_1, 0, none⟩)))), (4, .val (.slice (none) (0) (0))), (18, .val (.int .i64 ((n : Int)))), (5, .val (.slice (o) ((outL p q i).length) (cp))), (20, .val (.bool true)), (7, .val (.pointer (some ⟨g13_2, 0, none⟩))), (8, .val (.int .i64 (((p).tell (catK p q (i))).1))), (9, .val (.bool true)), (10, .val (.int .i64 (((q).tell (catK p q (i))).1))), (11, .val (.bool false)), (51, .val (.bool false)), (19, .val (.int .i64 (((i + 1 : Nat) : Int))))] [(0, 57, .val (.int .i64 (((i + 1 : Nat) : Int)))), (1, 19, .val (.int .i64 (((i + 1 : Nat) : Int))))] [⟨g13_2, none, none, (), 7, msc (catK p q (i)) (catM p q (i)), msc (catK p q (i)) (catM p q (i)), 44⟩] rfl (by rfl) HH41 rfl rfl hLo rfl HS41 (slS 0 rfl rfl (slS 1 rfl rfl (slS 2 rfl rfl (slS 3 rfl rfl (slS 4 rfl rfl (slS 5 rfl rfl (slS 6 rfl rfl (slS 8 rfl rfl (slS 9 rfl rfl (slS 10 rfl rfl (slS 11 rfl rfl (slS 12 rfl rfl (slS 13 rfl rfl (slS 14 rfl rfl (slS 15 rfl rfl (slL 1 (d := 1) rfl (trivial))))))))))))))))) ?_ ?_
          · show ∀ i ∈ [0, 1], _
            refine zA (zB 0 _ rfl rfl hLo rfl rfl (fun _ _ _ _ => rfl) (fun b G w hb ho => zI rfl (ev_pre hLo 1 rfl (ho 1 (by rfl)) (HS41.get 7 rfl)) (rfl) (rb_add (w_nat (by omega) (by omega)) _ _ _))) ?_
            refine zA (zB 1 _ rfl rfl hLo rfl rfl (fun _ _ _ _ => rfl) (fun b G w hb ho => zD (.inl rfl) (zC hLo 0 rfl HS41.1 rfl (hb 0 (by rfl))))) ?_
            exact zF
          clear hLo
          intro G a50 w50 hS hH
          have HS50 : Sl a50 59 [(17, .slice (oa) (n) (cc)), (0, .agg (FR () 6 ((p).sc))), (1, .agg (FR () 6 ((q).sc))), (2, .pointer (some (⟨g1_0, 0, none⟩))), (3, .pointer (some (⟨g1_1, 0, none⟩))), (4, .slice (none) (0) (0)), (18, .int .i64 ((n : Int))), (5, .slice (o) ((outL p q i).length) (cp)), (20, .bool true), (7, .pointer (some ⟨g13_2, 0, none⟩)), (8, .int .i64 (((p).tell (catK p q (i))).1)), (9, .bool true), (10, .int .i64 (((q).tell (catK p q (i))).1)), (11, .bool false), (51, .bool false), (19, .int .i64 (((i + 1 : Nat) : Int)))] := hS
          have HH50 : Held wq0 w50 [⟨g13_2, (), 7, msc (catK p q (i)) (catM p q (i)), 44⟩] := hH
          clear hS hH HS41 HH41
          refine then_ ?_
          have hOn := hO.below HH50.1
          have HH51 := Held.back HHq0 HH50
          have hSq0' : Sl _ 59 [(17, .slice (oa) (n) (cc)), (0, .agg (FR () 6 ((p).sc))), (1, .agg (FR () 6 ((q).sc))), (2, .pointer (some (⟨g1_0, 0, none⟩))), (3, .pointer (some (⟨g1_1, 0, none⟩))), (4, .slice (none) (0) (0)), (18, .int .i64 ((n : Int))), (19, .int .i64 (((i + 1 : Nat) : Int))), (5, .slice (o) ((outL p q i).length) (cp))] := yA HS50 [0, 1, 2, 3, 4, 5, 6, 15, 7] (by rfl)
          have hHq0' : Held w4 _ [] := yD HH51 0 rfl
          have e1 := outL_no2 hr7
          rw [← e1] at hSq0' hOn
          exact ⟨⟨i + 1, o, cp, by omega, hOn, hSq0', hHq0'⟩, by rw [(hSq0'.get 7 rfl)]; show n - (((i + 1 : Nat) : Int)).toNat < n - i; omega⟩
      · skip
        obtain ⟨r8, hr8⟩ : ∃ r : Bool, (((((p).tell (catK p q (i))).1 : Int) != ((q).tell (catK p q (i))).1)) = r := ⟨_, rfl⟩
        cases r8
        · skip
          refine wp_seq ?_
          have hLo : LOk [(0, 37, .val (.bool true)), (1, 38, .val (.bool true)), (2, 39, .val (.bool false)), (3, 40, .val (.bool false)), (4, 41, .val (.int .i64 (((p).tell (catK p q (i))).1))), (5, 42, .val (.int .i64 (((q).tell (catK p q (i))).1))), (6, 43, .val (.bool false)), (7, 44, .val (.bool false)), (8, 45, .val (.bool false)), (9, 46, .val (undef)), (10, 47, .val (undef)), (11, 48, .val (undef)), (12, 49, .val (undef)), (13, 50, .val (undef)), (14, 51, .val (.bool false))] := lok (by rfl) (by rfl)
          refine zH (wE := wq0) (sz := 59) (n := 15) [0, 1, 3, 7, 15, 31, 63, 127, 255, 511, 1023, 2047, 4095, 8191, 16383] [(17, .val (.slice (oa) (n) (cc))), (0, .val (.agg (FR () 6 ((p).sc)))), (1, .val (.agg (FR () 6 ((q).sc)))), (2, .val (.pointer (some (⟨g1_0, 0, none⟩)))), (3, .val (.pointer (some (⟨g1_1, 0, none⟩)))), (4, .val (.slice (none) (0) (0))), (18, .val (.int .i64 ((n : Int)))), (19, .val (.int .i64 ((i : Int)))), (5, .val (.slice (o) ((outL p q i).length) (cp))), (20, .val (.bool true)), (7, .val (.pointer (some ⟨g13_2, 0, none⟩))), (8, .val (.int .i64 (((p).tell (catK p q (i))).1))), (9, .val (.bool true)), (10, .val (.int .i64 (((q).tell (catK p q (i))).1))), (11, .val (.bool true)), (51, .val (.bool false))] [(0, 37, .val (.bool true)), (1, 38, .val (.bool true)), (2, 39, .val (.bool false)), (3, 40, .val (.bool false)), (4, 41, .val (.int .i64 (((p).tell (catK p q (i))).1))), (5, 42, .val (.int .i64 (((q).tell (catK p q (i))).1))), (6, 43, .val (.bool false)), (7, 44, .val (.bool false)), (8, 45, .val (.bool false)), (9, 46, .val (undef)), (10, 47, .val (undef)), (11, 48, .val (undef)), (12, 49, .val (undef)), (13, 50, .val (undef)), (14, 51, .val (.bool false))] [⟨g13_2, none, none, (), 7, msc (catK p q (i)) (catM p q (i)), msc (catK p q (i)) (catM p q (i)), 44⟩] rfl (by rfl) HH15 rfl rfl hLo rfl HS15 (slS 0 rfl rfl (slS 1 rfl rfl (slS 2 rfl rfl (slS 3 rfl rfl (slS 4 rfl rfl (slS 5 rfl rfl (slS 6 rfl rfl (slS 7 rfl rfl (slS 8 rfl rfl (slS 9 rfl rfl (slS 10 rfl rfl (slS 11 rfl rfl (slS 12 rfl rfl (slS 13 rfl rfl (slS 14 rfl rfl (slL 14 (d := 14) rfl (trivial))))))))))))))))) ?_ ?_
          · show ∀ i ∈ [0, 1, 2, 3, 4, 5, 6, 7, 8, 9, 10, 11, 12, 13, 14], _
            refine zA (zB 0 _ rfl rfl hLo rfl rfl (fun _ _ _ _ => rfl) (fun b G w hb ho => zD (.inl rfl) (zG rfl (HS15.get 12 rfl)))) ?_
            refine zA (zB 1 _ rfl rfl hLo rfl rfl (fun _ _ _ _ => rfl) (fun b G w hb ho => zD (.inl rfl) (zG rfl (HS15.get 14 rfl)))) ?_
            refine zA (zB 2 _ rfl rfl hLo rfl rfl (fun _ _ _ _ => rfl) (fun b G w hb ho => zI rfl (zC hLo 0 rfl HS15.1 rfl (hb 0 (by rfl))) (zC hLo 1 rfl HS15.1 rfl (hb 1 (by rfl))) (rb_bneq Tryd.underlying4 (rfl) _ _ _))) ?_
            refine zA (zB 3 _ rfl rfl hLo rfl rfl (fun _ _ _ _ => rfl) (fun b G w hb ho => zD (.inl rfl) (zC hLo 2 rfl HS15.1 rfl (hb 2 (by rfl))))) ?_
            refine zA (zB 4 _ rfl rfl hLo rfl rfl (fun b G hb ho => zE rfl rfl rfl HS15.1 rfl (zC hLo 3 rfl HS15.1 rfl (hb 3 (by rfl))) rfl) (fun b G w hb ho => zD (.inl rfl) (zG rfl (HS15.get 11 rfl)))) ?_
            refine zA (zB 5 _ rfl rfl hLo rfl rfl (fun b G hb ho => zE rfl rfl rfl HS15.1 rfl (zC hLo 3 rfl HS15.1 rfl (hb 3 (by rfl))) rfl) (fun b G w hb ho => zD (.inl rfl) (zG rfl (HS15.get 13 rfl)))) ?_
            refine zA (zB 6 _ rfl rfl hLo rfl rfl (fun b G hb ho => zE rfl rfl rfl HS15.1 rfl (zC hLo 3 rfl HS15.1 rfl (hb 3 (by rfl))) rfl) (fun b G w hb ho => zI rfl (zC hLo 4 rfl HS15.1 rfl (hb 4 (by rfl))) (zC hLo 5 rfl HS15.1 rfl (hb 5 (by rfl))) (rb_neq hr8 _ _ _))) ?_
            refine zA (zB 7 _ rfl rfl hLo rfl rfl (fun _ _ _ _ => rfl) (fun b G w hb ho => zL rfl (zC hLo 3 rfl HS15.1 rfl (hb 3 (by rfl))) (zC hLo 6 rfl HS15.1 rfl (hb 6 (by rfl))))) ?_
            refine zA (zB 8 _ rfl rfl hLo rfl rfl (fun _ _ _ _ => rfl) (fun b G w hb ho => zD (.inl rfl) (zC hLo 7 rfl HS15.1 rfl (hb 7 (by rfl))))) ?_
            refine zA (zN 9 rfl rfl hLo rfl rfl (fun b G hb ho => zE rfl rfl rfl HS15.1 rfl (zC hLo 8 rfl HS15.1 rfl (hb 8 (by rfl))) rfl)) ?_
            refine zA (zN 10 rfl rfl hLo rfl rfl (fun b G hb ho => zE rfl rfl rfl HS15.1 rfl (zC hLo 8 rfl HS15.1 rfl (hb 8 (by rfl))) rfl)) ?_
            refine zA (zN 11 rfl rfl hLo rfl rfl (fun b G hb ho => zE rfl rfl rfl HS15.1 rfl (zC hLo 8 rfl HS15.1 rfl (hb 8 (by rfl))) rfl)) ?_
            refine zA (zN 12 rfl rfl hLo rfl rfl (fun b G hb ho => zE rfl rfl rfl HS15.1 rfl (zC hLo 8 rfl HS15.1 rfl (hb 8 (by rfl))) rfl)) ?_
            refine zA (zN 13 rfl rfl hLo rfl rfl (fun b G hb ho => zE rfl rfl rfl HS15.1 rfl (zC hLo 8 rfl HS15.1 rfl (hb 8 (by rfl))) rfl)) ?_
            refine zA (zB 14 _ rfl rfl hLo rfl rfl (fun _ _ _ _ => rfl) (fun b G w hb ho => zL rfl (zC hLo 8 rfl HS15.1 rfl (hb 8 (by rfl))) (rfl))) ?_
            exact zF
          clear hLo
          intro G a52 w52 hS hH
          have HS52 : Sl a52 59 [(17, .slice (oa) (n) (cc)), (0, .agg (FR () 6 ((p).sc))), (1, .agg (FR () 6 ((q).sc))), (2, .pointer (some (⟨g1_0, 0, none⟩))), (3, .pointer (some (⟨g1_1, 0, none⟩))), (4, .slice (none) (0) (0)), (18, .int .i64 ((n : Int))), (19, .int .i64 ((i : Int))), (5, .slice (o) ((outL p q i).length) (cp)), (20, .bool true), (7, .pointer (some ⟨g13_2, 0, none⟩)), (8, .int .i64 (((p).tell (catK p q (i))).1)), (9, .bool true), (10, .int .i64 (((q).tell (catK p q (i))).1)), (11, .bool true), (51, .bool false)] := hS
          have HH52 : Held wq0 w52 [⟨g13_2, (), 7, msc (catK p q (i)) (catM p q (i)), 44⟩] := hH
          clear hS hH HS15 HH15
          refine then_ ?_
          refine wp_cond_false (HS52.get 15 rfl) ?_
          refine wp_skip ?_
          refine zQ ?_
          refine then_ ?_
          have hLo : LOk [(0, 57, .val (.int .i64 (((i + 1 : Nat) : Int)))), (1, 19, .val (.int .i64 (((i + 1 : Nat) : Int))))] := lok (by rfl) (by rfl)
          refine zH (wE := wq0) (sz := 59) (n := 2) [0, 1] [(17, .val (.slice (oa) (n) (cc))), (0, .val (.agg (FR () 6 ((p).sc)))), (1, .val (.agg (FR () 6 ((q).sc)))), (2, .val (.pointer (some (⟨g1_0, 0, none⟩)))), (3, .val (.pointer (some (⟨g1_1, 0, none⟩)))), (4, .val (.slice (none) (0) (0))), (18, .val (.int .i64 ((n : Int)))), (5, .val (.slice (o) ((outL p q i).length) (cp))), (20, .val (.bool true)), (7, .val (.pointer (some ⟨g13_2, 0, none⟩))), (8, .val (.int .i64 (((p).tell (catK p q (i))).1))), (9, .val (.bool true)), (10, .val (.int .i64 (((q).tell (catK p q (i))).1))), (11, .val (.bool true)), (51, .val (.bool false)), (19, .val (.int .i64 (((i + 1 : Nat) : Int))))] [(0, 57, .val (.int .i64 (((i + 1 : Nat) : Int)))), (1, 19, .val (.int .i64 (((i + 1 : Nat) : Int))))] [⟨g13_2, none, none, (), 7, msc (catK p q (i)) (catM p q (i)), msc (catK p q (i)) (catM p q (i)), 44⟩] rfl (by rfl) HH52 rfl rfl hLo rfl HS52 (slS 0 rfl rfl (slS 1 rfl rfl (slS 2 rfl rfl (slS 3 rfl rfl (slS 4 rfl rfl (slS 5 rfl rfl (slS 6 rfl rfl (slS 8 rfl rfl (slS 9 rfl rfl (slS 10 rfl rfl (slS 11 rfl rfl (slS 12 rfl rfl (slS 13 rfl rfl (slS 14 rfl rfl (slS 15 rfl rfl (slL 1 (d := 1) rfl (trivial))))))))))))))))) ?_ ?_
          · show ∀ i ∈ [0, 1], _
            refine zA (zB 0 _ rfl rfl hLo rfl rfl (fun _ _ _ _ => rfl) (fun b G w hb ho => zI rfl (ev_pre hLo 1 rfl (ho 1 (by rfl)) (HS52.get 7 rfl)) (rfl) (rb_add (w_nat (by omega) (by omega)) _ _ _))) ?_
            refine zA (zB 1 _ rfl rfl hLo rfl rfl (fun _ _ _ _ => rfl) (fun b G w hb ho => zD (.inl rfl) (zC hLo 0 rfl HS52.1 rfl (hb 0 (by rfl))))) ?_
            exact zF
          clear hLo
          intro G a53 w53 hS hH
          have HS53 : Sl a53 59 [(17, .slice (oa) (n) (cc)), (0, .agg (FR () 6 ((p).sc))), (1, .agg (FR () 6 ((q).sc))), (2, .pointer (some (⟨g1_0, 0, none⟩))), (3, .pointer (some (⟨g1_1, 0, none⟩))), (4, .slice (none) (0) (0)), (18, .int .i64 ((n : Int))), (5, .slice (o) ((outL p q i).length) (cp)), (20, .bool true), (7, .pointer (some ⟨g13_2, 0, none⟩)), (8, .int .i64 (((p).tell (catK p q (i))).1)), (9, .bool true), (10, .int .i64 (((q).tell (catK p q (i))).1)), (11, .bool true), (51, .bool false), (19, .int .i64 (((i + 1 : Nat) : Int)))] := hS
          have HH53 : Held wq0 w53 [⟨g13_2, (), 7, msc (catK p q (i)) (catM p q (i)), 44⟩] := hH
          clear hS hH HS52 HH52
          refine then_ ?_
          have hOn := hO.below HH53.1
          have HH54 := Held.back HHq0 HH53
          have hSq0' : Sl _ 59 [(17, .slice (oa) (n) (cc)), (0, .agg (FR () 6 ((p).sc))), (1, .agg (FR () 6 ((q).sc))), (2, .pointer (some (⟨g1_0, 0, none⟩))), (3, .pointer (some (⟨g1_1, 0, none⟩))), (4, .slice (none) (0) (0)), (18, .int .i64 ((n : Int))), (19, .int .i64 (((i + 1 : Nat) : Int))), (5, .slice (o) ((outL p q i).length) (cp))] := yA HS53 [0, 1, 2, 3, 4, 5, 6, 15, 7] (by rfl)
          have hHq0' : Held w4 _ [] := yD HH54 0 rfl
          have e1 := outL_no1 (differs_of hr2 hr3 (by rw [hr8]; rfl))
          rw [← e1] at hSq0' hOn
          exact ⟨⟨i + 1, o, cp, by omega, hOn, hSq0', hHq0'⟩, by rw [(hSq0'.get 7 rfl)]; show n - (((i + 1 : Nat) : Int)).toNat < n - i; omega⟩
        · skip
          obtain ⟨r9, hr9⟩ : ∃ r : Bool, (hasB (outL p q i) (catK p q (i))) = r := ⟨_, rfl⟩
          refine wp_seq ?_
          have hLo : LOk [(0, 37, .val (.bool true)), (1, 38, .val (.bool true)), (2, 39, .val (.bool false)), (3, 40, .val (.bool false)), (4, 41, .val (.int .i64 (((p).tell (catK p q (i))).1))), (5, 42, .val (.int .i64 (((q).tell (catK p q (i))).1))), (6, 43, .val (.bool true)), (7, 44, .val (.bool true)), (8, 45, .val (.bool true)), (9, 46, .val (.slice (o) ((outL p q i).length) (cp))), (10, 47, .val (.pointer (some ⟨g13_2, 0, none⟩))), (11, 48, .val (.string (catK p q (i)))), (12, 49, .val (.bool r9)), (13, 50, .val (.bool (!r9))), (14, 51, .val (.bool (!r9)))] := lok (by rfl) (by rfl)
          refine zH (wE := wq0) (sz := 59) (n := 15) [0, 1, 3, 7, 15, 31, 63, 127, 255, 511, 1023, 2047, 4095, 8191, 16383] [(17, .val (.slice (oa) (n) (cc))), (0, .val (.agg (FR () 6 ((p).sc)))), (1, .val (.agg (FR () 6 ((q).sc)))), (2, .val (.pointer (some (⟨g1_0, 0, none⟩)))), (3, .val (.pointer (some (⟨g1_1, 0, none⟩)))), (4, .val (.slice (none) (0) (0))), (18, .val (.int .i64 ((n : Int)))), (19, .val (.int .i64 ((i : Int)))), (5, .val (.slice (o) ((outL p q i).length) (cp))), (20, .val (.bool true)), (7, .val (.pointer (some ⟨g13_2, 0, none⟩))), (8, .val (.int .i64 (((p).tell (catK p q (i))).1))), (9, .val (.bool true)), (10, .val (.int .i64 (((q).tell (catK p q (i))).1))), (11, .val (.bool true)), (51, .val (.bool (!r9)))] [(0, 37, .val (.bool true)), (1, 38, .val (.bool true)), (2, 39, .val (.bool false)), (3, 40, .val (.bool false)), (4, 41, .val (.int .i64 (((p).tell (catK p q (i))).1))), (5, 42, .val (.int .i64 (((q).tell (catK p q (i))).1))), (6, 43, .val (.bool true)), (7, 44, .val (.bool true)), (8, 45, .val (.bool true)), (9, 46, .val (.slice (o) ((outL p q i).length) (cp))), (10, 47, .val (.pointer (some ⟨g13_2, 0, none⟩))), (11, 48, .val (.string (catK p q (i)))), (12, 49, .val (.bool r9)), (13, 50, .val (.bool (!r9))), (14, 51, .val (.bool (!r9)))] [⟨g13_2, none, none, (), 7, msc (catK p q (i)) (catM p q (i)), msc (catK p q (i)) (catM p q (i)), 44⟩] rfl (by rfl) HH15 rfl rfl hLo rfl HS15 (slS 0 rfl rfl (slS 1 rfl rfl (slS 2 rfl rfl (slS 3 rfl rfl (slS 4 rfl rfl (slS 5 rfl rfl (slS 6 rfl rfl (slS 7 rfl rfl (slS 8 rfl rfl (slS 9 rfl rfl (slS 10 rfl rfl (slS 11 rfl rfl (slS 12 rfl rfl (slS 13 rfl rfl (slS 14 rfl rfl (slL 14 (d := 14) rfl (trivial))))))))))))))))) ?_ ?_
          · show ∀ i ∈ [0, 1, 2, 3, 4, 5, 6, 7, 8, 9, 10, 11, 12, 13, 14], _
            refine zA (zB 0 _ rfl rfl hLo rfl rfl (fun _ _ _ _ => rfl) (fun b G w hb ho => zD (.inl rfl) (zG rfl (HS15.get 12 rfl)))) ?_
            refine zA (zB 1 _ rfl rfl hLo rfl rfl (fun _ _ _ _ => rfl) (fun b G w hb ho => zD (.inl rfl) (zG rfl (HS15.get 14 rfl)))) ?_
            refine zA (zB 2 _ rfl rfl hLo rfl rfl (fun _ _ _ _ => rfl) (fun b G w hb ho => zI rfl (zC hLo 0 rfl HS15.1 rfl (hb 0 (by rfl))) (zC hLo 1 rfl HS15.1 rfl (hb 1 (by rfl))) (rb_bneq Tryd.underlying4 (rfl) _ _ _))) ?_
            refine zA (zB 3 _ rfl rfl hLo rfl rfl (fun _ _ _ _ => rfl) (fun b G w hb ho => zD (.inl rfl) (zC hLo 2 rfl HS15.1 rfl (hb 2 (by rfl))))) ?_
            refine zA (zB 4 _ rfl rfl hLo rfl rfl (fun b G hb ho => zE rfl rfl rfl HS15.1 rfl (zC hLo 3 rfl HS15.1 rfl (hb 3 (by rfl))) rfl) (fun b G w hb ho => zD (.inl rfl) (zG rfl (HS15.get 11 rfl)))) ?_
            refine zA (zB 5 _ rfl rfl hLo rfl rfl (fun b G hb ho => zE rfl rfl rfl HS15.1 rfl (zC hLo 3 rfl HS15.1 rfl (hb 3 (by rfl))) rfl) (fun b G w hb ho => zD (.inl rfl) (zG rfl (HS15.get 13 rfl)))) ?_
            refine zA (zB 6 _ rfl rfl hLo rfl rfl (fun b G hb ho => zE rfl rfl rfl HS15.1 rfl (zC hLo 3 rfl HS15.1 rfl (hb 3 (by rfl))) rfl) (fun b G w hb ho => zI rfl (zC hLo 4 rfl HS15.1 rfl (hb 4 (by rfl))) (zC hLo 5 rfl HS15.1 rfl (hb 5 (by rfl))) (rb_neq hr8 _ _ _))) ?_
            refine zA (zB 7 _ rfl rfl hLo rfl rfl (fun _ _ _ _ => rfl) (fun b G w hb ho => zL rfl (zC hLo 3 rfl HS15.1 rfl (hb 3 (by rfl))) (zC hLo 6 rfl HS15.1 rfl (hb 6 (by rfl))))) ?_
            refine zA (zB 8 _ rfl rfl hLo rfl rfl (fun _ _ _ _ => rfl) (fun b G w hb ho => zD (.inl rfl) (zC hLo 7 rfl HS15.1 rfl (hb 7 (by rfl))))) ?_
            refine zA (zB 9 _ rfl rfl hLo rfl rfl (fun b G hb ho => zE rfl rfl rfl HS15.1 rfl (zC hLo 8 rfl HS15.1 rfl (hb 8 (by rfl))) rfl) (fun b G w hb ho => zD (.inl rfl) (zG rfl (HS15.get 8 rfl)))) ?_
            refine zA (zB 10 _ rfl rfl hLo rfl rfl (fun b G hb ho => zE rfl rfl rfl HS15.1 rfl (zC hLo 8 rfl HS15.1 rfl (hb 8 (by rfl))) rfl) (fun b G w hb ho => zJ rfl (zG rfl (HS15.get 10 rfl)) (by kernel_rfl))) ?_
            refine zA (zW 11 0 _ _ rfl rfl rfl hLo rfl rfl (fun b G hb ho => zE rfl rfl rfl HS15.1 rfl (zC hLo 8 rfl HS15.1 rfl (hb 8 (by rfl))) rfl) (by rfl) (by rfl) (fun b G w hb ho hr => zP hr (Nat.le_of_ble_eq_true rfl) Tryd.underlying9 rfl rfl (zC hLo 10 rfl HS15.1 rfl (hb 10 (by rfl))))) ?_
            refine zA (yB 12 _ #[.slice (o) ((outL p q i).length) (cp), .string (catK p q (i))] rfl rfl rfl (fun b G hb ho => zE rfl rfl rfl HS15.1 rfl (zC hLo 8 rfl HS15.1 rfl (hb 8 (by rfl))) rfl) hLo rfl rfl Tryd.func40 rfl rfl (fun b G hb ho => args2 (zC hLo 9 rfl HS15.1 rfl (hb 9 (by rfl))) (zC hLo 11 rfl HS15.1 rfl (hb 11 (by rfl)))) (fun w hw => (by have hq := contains_calls (catK p q (i)) (c := cp) (StrsAt.own (hO.below hw)) (by have := outL_len (a := p) (b := q) i; omega); rw [show (look (fun k => (outL p q i).getD k ByteArray.empty) (catK p q (i)) (outL p q i).length).isSome = hasB (outL p q i) (catK p q (i)) from rfl, hr9] at hq; exact hq))) ?_
            refine zA (zB 13 _ rfl rfl hLo rfl rfl (fun b G hb ho => zE rfl rfl rfl HS15.1 rfl (zC hLo 8 rfl HS15.1 rfl (hb 8 (by rfl))) rfl) (fun b G w hb ho => exec_un rfl (zC hLo 12 rfl HS15.1 rfl (hb 12 (by rfl))) (ru_not _))) ?_
            refine zA (zB 14 _ rfl rfl hLo rfl rfl (fun _ _ _ _ => rfl) (fun b G w hb ho => zL rfl (zC hLo 8 rfl HS15.1 rfl (hb 8 (by rfl))) (zC hLo 13 rfl HS15.1 rfl (hb 13 (by rfl))))) ?_
            exact zF
          clear hLo
          intro G a55 w55 hS hH
          have HS55 : Sl a55 59 [(17, .slice (oa) (n) (cc)), (0, .agg (FR () 6 ((p).sc))), (1, .agg (FR () 6 ((q).sc))), (2, .pointer (some (⟨g1_0, 0, none⟩))), (3, .pointer (some (⟨g1_1, 0, none⟩))), (4, .slice (none) (0) (0)), (18, .int .i64 ((n : Int))), (19, .int .i64 ((i : Int))), (5, .slice (o) ((outL p q i).length) (cp)), (20, .bool true), (7, .pointer (some ⟨g13_2, 0, none⟩)), (8, .int .i64 (((p).tell (catK p q (i))).1)), (9, .bool true), (10, .int .i64 (((q).tell (catK p q (i))).1)), (11, .bool true), (51, .bool (!r9))] := hS
          have HH55 : Held wq0 w55 [⟨g13_2, (), 7, msc (catK p q (i)) (catM p q (i)), 44⟩] := hH
          clear hS hH HS15 HH15
          refine then_ ?_
          cases r9
          · skip
            refine wp_cond_true (HS55.get 15 rfl) ?_
            refine whole_ ?_
            have hLo : LOk [(0, 52, .val (.slice (o) ((outL p q i).length) (cp))), (1, 53, .val (.pointer (some ⟨g13_2, 0, none⟩))), (2, 54, .val (.string (catK p q (i)))), (3, 55, .new 3 (fun g => .slice (some ⟨g, 0, none⟩) (1) (1)))] := lok (by rfl) (by rfl)
            refine part_ (wE := wq0) (sz := 59) (n := 6) 0 4 [0, 1, 3, 7, 15, 31] [(17, .val (.slice (oa) (n) (cc))), (0, .val (.agg (FR () 6 ((p).sc)))), (1, .val (.agg (FR () 6 ((q).sc)))), (2, .val (.pointer (some (⟨g1_0, 0, none⟩)))), (3, .val (.pointer (some (⟨g1_1, 0, none⟩)))), (4, .val (.slice (none) (0) (0))), (18, .val (.int .i64 ((n : Int)))), (19, .val (.int .i64 ((i : Int)))), (5, .val (.slice (o) ((outL p q i).length) (cp))), (20, .val (.bool true)), (7, .val (.pointer (some ⟨g13_2, 0, none⟩))), (8, .val (.int .i64 (((p).tell (catK p q (i))).1))), (9, .val (.bool true)), (10, .val (.int .i64 (((q).tell (catK p q (i))).1))), (11, .val (.bool true)), (51, .val (.bool true)), (52, .val (.slice (o) ((outL p q i).length) (cp))), (55, .new 3 (fun g => .slice (some ⟨g, 0, none⟩) (1) (1)))] [(0, 52, .val (.slice (o) ((outL p q i).length) (cp))), (1, 53, .val (.pointer (some ⟨g13_2, 0, none⟩))), (2, 54, .val (.string (catK p q (i)))), (3, 55, .new 3 (fun g => .slice (some ⟨g, 0, none⟩) (1) (1)))] [⟨g13_2, none, none, (), 7, msc (catK p q (i)) (catM p q (i)), msc (catK p q (i)) (catM p q (i)), 44⟩, ⟨0, some 3, none, (), 1, lsc [.s (catK p q (i))], lsc [.s (catK p q (i))], 9⟩] rfl rfl (by rfl) HH55 rfl rfl hLo rfl HS55 (slS 0 rfl rfl (slS 1 rfl rfl (slS 2 rfl rfl (slS 3 rfl rfl (slS 4 rfl rfl (slS 5 rfl rfl (slS 6 rfl rfl (slS 7 rfl rfl (slS 8 rfl rfl (slS 9 rfl rfl (slS 10 rfl rfl (slS 11 rfl rfl (slS 12 rfl rfl (slS 13 rfl rfl (slS 14 rfl rfl (slS 15 rfl rfl (slL 0 (d := 0) rfl (slL 3 (d := 3) rfl (trivial))))))))))))))))))) ?_ ?_
            · show ∀ i ∈ [0, 1, 2, 3], _
              refine zA (zB 0 _ rfl rfl hLo rfl rfl (fun _ _ _ _ => rfl) (fun b G w hb ho => zD (.inl rfl) (zG rfl (HS55.get 8 rfl)))) ?_
              refine zA (zB 1 _ rfl rfl hLo rfl rfl (fun _ _ _ _ => rfl) (fun b G w hb ho => zJ rfl (zG rfl (HS55.get 10 rfl)) (by kernel_rfl))) ?_
              refine zA (zW 2 0 _ _ rfl rfl rfl hLo rfl rfl (fun _ _ _ _ => rfl) (by rfl) (by rfl) (fun b G w hb ho hr => zP hr (Nat.le_of_ble_eq_true rfl) Tryd.underlying9 rfl rfl (zC hLo 1 rfl HS55.1 rfl (hb 1 (by rfl))))) ?_
              refine zA (zZ 3 1 () 1 9 none _ _ rfl rfl (fun _ _ _ _ => rfl) rfl hLo rfl rfl rfl rfl (by rfl) (fun b G w hb ho => exec_buildSlice rfl (parts1 (zC hLo 2 rfl HS55.1 rfl (hb 2 (by rfl)))) (by kernel_rfl))) ?_
              exact zF
            clear hLo
            intro G a56 w56 hS hH
            have HS56 : Sl a56 59 [(17, .slice (oa) (n) (cc)), (0, .agg (FR () 6 ((p).sc))), (1, .agg (FR () 6 ((q).sc))), (2, .pointer (some (⟨g1_0, 0, none⟩))), (3, .pointer (some (⟨g1_1, 0, none⟩))), (4, .slice (none) (0) (0)), (18, .int .i64 ((n : Int))), (19, .int .i64 ((i : Int))), (5, .slice (o) ((outL p q i).length) (cp)), (20, .bool true), (7, .pointer (some ⟨g13_2, 0, none⟩)), (8, .int .i64 (((p).tell (catK p q (i))).1)), (9, .bool true), (10, .int .i64 (((q).tell (catK p q (i))).1)), (11, .bool true), (51, .bool true), (52, .slice (o) ((outL p q i).length) (cp)), (55, .slice (some ⟨(G 3), 0, none⟩) (1) (1))] := hS
            have HH56 : Held wq0 w56 [⟨g13_2, (), 7, msc (catK p q (i)) (catM p q (i)), 44⟩, ⟨(G 3), (), 1, lsc [.s (catK p q (i))], 9⟩] := hH
            clear hS hH HS55 HH55
            generalize G 3 = g56_3 at HS56 HH56
            have hol := outL_len (a := p) (b := q) i
            have hOw57 := hO.below HH56.1
            have hSr57 := src_one (HH56.row 1 rfl) Tryd.underlying54
            have HH58 := Held.back HHq0 HH56
            refine cut_append (wE := w4) rfl rfl rfl rfl (HS56.get 16 rfl) (HS56.get 17 rfl) Tryd.underlying54 infS zS1 hOw57 hSr57 (by unfold maxLen; omega) (by omega) HH58 rfl HS56 rfl ?_
            intro oa57 c57 w57 hO57 hH57 a57 hS
            have HS59 : Sl a57 59 [(56, .slice (oa57) ((outL p q i).length + 1) (c57)), (17, .slice (oa) (n) (cc)), (0, .agg (FR () 6 ((p).sc))), (1, .agg (FR () 6 ((q).sc))), (2, .pointer (some (⟨g1_0, 0, none⟩))), (3, .pointer (some (⟨g1_1, 0, none⟩))), (4, .slice (none) (0) (0)), (18, .int .i64 ((n : Int))), (19, .int .i64 ((i : Int))), (5, .slice (o) ((outL p q i).length) (cp)), (20, .bool true), (7, .pointer (some (⟨g13_2, 0, none⟩))), (8, .int .i64 (((p).tell (catK p q (i))).1)), (9, .bool true), (10, .int .i64 (((q).tell (catK p q (i))).1)), (11, .bool true), (51, .bool true), (52, .slice (o) ((outL p q i).length) (cp)), (55, .slice (some ⟨g56_3, 0, none⟩) (1) (1))] := hS
            have HH59 : Held w4 w57 [] := hH57
            clear hS
            have hInp_60 := hInp_6.below HH59.1
            have hInq_60 := hInq_6.below HH59.1
            have hRow6_0_60 := (hRow6_0).below HH59.1 (hRow6_0).lt
            have hRow6_1_60 := (hRow6_1).below HH59.1 (hRow6_1).lt
            have hRow6_2_60 := (hRow6_2).below HH59.1 (hRow6_2).lt
            have hM_60 := hM.below HH59.1
            have HH60 : Held w57 w57 [] := Held.first w57
            have HS60 : Sl a57 59 [(56, .slice (oa57) ((outL p q i).length + 1) (c57)), (17, .slice (oa) (n) (cc)), (0, .agg (FR () 6 ((p).sc))), (1, .agg (FR () 6 ((q).sc))), (2, .pointer (some (⟨g1_0, 0, none⟩))), (3, .pointer (some (⟨g1_1, 0, none⟩))), (4, .slice (none) (0) (0)), (18, .int .i64 ((n : Int))), (19, .int .i64 ((i : Int))), (5, .slice (o) ((outL p q i).length) (cp)), (20, .bool true), (7, .pointer (some (⟨g13_2, 0, none⟩))), (8, .int .i64 (((p).tell (catK p q (i))).1)), (9, .bool true), (10, .int .i64 (((q).tell (catK p q (i))).1)), (11, .bool true), (51, .bool true), (52, .slice (o) ((outL p q i).length) (cp)), (55, .slice (some ⟨g56_3, 0, none⟩) (1) (1))] := HS59
            have hLo : LOk [(5, 5, .val (.slice (oa57) ((outL p q i).length + 1) (c57)))] := lok (by rfl) (by rfl)
            refine part_ (wE := w57) (sz := 59) (n := 6) 5 6 [0, 1, 3, 7, 15, 31] [(17, .val (.slice (oa) (n) (cc))), (0, .val (.agg (FR () 6 ((p).sc)))), (1, .val (.agg (FR () 6 ((q).sc)))), (2, .val (.pointer (some (⟨g1_0, 0, none⟩)))), (3, .val (.pointer (some (⟨g1_1, 0, none⟩)))), (4, .val (.slice (none) (0) (0))), (18, .val (.int .i64 ((n : Int)))), (19, .val (.int .i64 ((i : Int)))), (20, .val (.bool true)), (7, .val (.pointer (some (⟨g13_2, 0, none⟩)))), (8, .val (.int .i64 (((p).tell (catK p q (i))).1))), (9, .val (.bool true)), (10, .val (.int .i64 (((q).tell (catK p q (i))).1))), (11, .val (.bool true)), (51, .val (.bool true)), (5, .val (.slice (oa57) ((outL p q i).length + 1) (c57)))] [(5, 5, .val (.slice (oa57) ((outL p q i).length + 1) (c57)))] [] rfl rfl (by rfl) HH60 rfl rfl hLo rfl HS60 (slS 1 rfl rfl (slS 2 rfl rfl (slS 3 rfl rfl (slS 4 rfl rfl (slS 5 rfl rfl (slS 6 rfl rfl (slS 7 rfl rfl (slS 8 rfl rfl (slS 10 rfl rfl (slS 11 rfl rfl (slS 12 rfl rfl (slS 13 rfl rfl (slS 14 rfl rfl (slS 15 rfl rfl (slS 16 rfl rfl (slL 0 (d := 5) rfl (trivial))))))))))))))))) ?_ ?_
            · show ∀ i ∈ [5], _
              refine zA (zB 0 _ rfl rfl hLo rfl rfl (fun _ _ _ _ => rfl) (fun b G w hb ho => zD (.inr rfl) (zG rfl (HS60.get 0 rfl)))) ?_
              exact zF
            clear hLo
            intro G a61 w61 hS hH
            have HS61 : Sl a61 59 [(17, .slice (oa) (n) (cc)), (0, .agg (FR () 6 ((p).sc))), (1, .agg (FR () 6 ((q).sc))), (2, .pointer (some (⟨g1_0, 0, none⟩))), (3, .pointer (some (⟨g1_1, 0, none⟩))), (4, .slice (none) (0) (0)), (18, .int .i64 ((n : Int))), (19, .int .i64 ((i : Int))), (20, .bool true), (7, .pointer (some (⟨g13_2, 0, none⟩))), (8, .int .i64 (((p).tell (catK p q (i))).1)), (9, .bool true), (10, .int .i64 (((q).tell (catK p q (i))).1)), (11, .bool true), (51, .bool true), (5, .slice (oa57) ((outL p q i).length + 1) (c57))] := hS
            have HH61 : Held w57 w61 [] := hH
            clear hS hH HS60 HH60
            refine end_ rfl ?_
            refine zQ ?_
            refine then_ ?_
            have hLo : LOk [(0, 57, .val (.int .i64 (((i + 1 : Nat) : Int)))), (1, 19, .val (.int .i64 (((i + 1 : Nat) : Int))))] := lok (by rfl) (by rfl)
            refine zH (wE := w57) (sz := 59) (n := 2) [0, 1] [(17, .val (.slice (oa) (n) (cc))), (0, .val (.agg (FR () 6 ((p).sc)))), (1, .val (.agg (FR () 6 ((q).sc)))), (2, .val (.pointer (some (⟨g1_0, 0, none⟩)))), (3, .val (.pointer (some (⟨g1_1, 0, none⟩)))), (4, .val (.slice (none) (0) (0))), (18, .val (.int .i64 ((n : Int)))), (20, .val (.bool true)), (7, .val (.pointer (some (⟨g13_2, 0, none⟩)))), (8, .val (.int .i64 (((p).tell (catK p q (i))).1))), (9, .val (.bool true)), (10, .val (.int .i64 (((q).tell (catK p q (i))).1))), (11, .val (.bool true)), (51, .val (.bool true)), (5, .val (.slice (oa57) ((outL p q i).length + 1) (c57))), (19, .val (.int .i64 (((i + 1 : Nat) : Int))))] [(0, 57, .val (.int .i64 (((i + 1 : Nat) : Int)))), (1, 19, .val (.int .i64 (((i + 1 : Nat) : Int))))] [] rfl (by rfl) HH61 rfl rfl hLo rfl HS61 (slS 0 rfl rfl (slS 1 rfl rfl (slS 2 rfl rfl (slS 3 rfl rfl (slS 4 rfl rfl (slS 5 rfl rfl (slS 6 rfl rfl (slS 8 rfl rfl (slS 9 rfl rfl (slS 10 rfl rfl (slS 11 rfl rfl (slS 12 rfl rfl (slS 13 rfl rfl (slS 14 rfl rfl (slS 15 rfl rfl (slL 1 (d := 1) rfl (trivial))))))))))))))))) ?_ ?_
            · show ∀ i ∈ [0, 1], _
              refine zA (zB 0 _ rfl rfl hLo rfl rfl (fun _ _ _ _ => rfl) (fun b G w hb ho => zI rfl (ev_pre hLo 1 rfl (ho 1 (by rfl)) (HS61.get 7 rfl)) (rfl) (rb_add (w_nat (by omega) (by omega)) _ _ _))) ?_
              refine zA (zB 1 _ rfl rfl hLo rfl rfl (fun _ _ _ _ => rfl) (fun b G w hb ho => zD (.inl rfl) (zC hLo 0 rfl HS61.1 rfl (hb 0 (by rfl))))) ?_
              exact zF
            clear hLo
            intro G a62 w62 hS hH
            have HS62 : Sl a62 59 [(17, .slice (oa) (n) (cc)), (0, .agg (FR () 6 ((p).sc))), (1, .agg (FR () 6 ((q).sc))), (2, .pointer (some (⟨g1_0, 0, none⟩))), (3, .pointer (some (⟨g1_1, 0, none⟩))), (4, .slice (none) (0) (0)), (18, .int .i64 ((n : Int))), (20, .bool true), (7, .pointer (some (⟨g13_2, 0, none⟩))), (8, .int .i64 (((p).tell (catK p q (i))).1)), (9, .bool true), (10, .int .i64 (((q).tell (catK p q (i))).1)), (11, .bool true), (51, .bool true), (5, .slice (oa57) ((outL p q i).length + 1) (c57)), (19, .int .i64 (((i + 1 : Nat) : Int)))] := hS
            have HH62 : Held w57 w62 [] := hH
            clear hS hH HS61 HH61
            refine then_ ?_
            have hOn := hO57.below HH62.1
            have HH63 := Held.back HH59 HH62
            have hSq0' : Sl _ 59 [(17, .slice (oa) (n) (cc)), (0, .agg (FR () 6 ((p).sc))), (1, .agg (FR () 6 ((q).sc))), (2, .pointer (some (⟨g1_0, 0, none⟩))), (3, .pointer (some (⟨g1_1, 0, none⟩))), (4, .slice (none) (0) (0)), (18, .int .i64 ((n : Int))), (19, .int .i64 (((i + 1 : Nat) : Int))), (5, .slice (oa57) ((outL p q i).length + 1) (c57))] := yA HS62 [0, 1, 2, 3, 4, 5, 6, 15, 14] (by rfl)
            have hHq0' : Held w4 _ [] := yD HH63 0 rfl
            obtain ⟨e1, e2⟩ := out_yes (differs_of hr2 hr3 (by rw [hr8]; rfl)) hr9
            rw [← e1] at hSq0' hOn
            rw [← e2] at hOn
            exact ⟨⟨i + 1, oa57, c57, by omega, hOn, hSq0', hHq0'⟩, by rw [(hSq0'.get 7 rfl)]; show n - (((i + 1 : Nat) : Int)).toNat < n - i; omega⟩
          · skip
            refine wp_cond_false (HS55.get 15 rfl) ?_
            refine wp_skip ?_
            refine zQ ?_
            refine then_ ?_
            have hLo : LOk [(0, 57, .val (.int .i64 (((i + 1 : Nat) : Int)))), (1, 19, .val (.int .i64 (((i + 1 : Nat) : Int))))] := lok (by rfl) (by rfl)
            refine zH (wE := wq0) (sz := 59) (n := 2) [0, 1] [(17, .val (.slice (oa) (n) (cc))), (0, .val (.agg (FR () 6 ((p).sc)))), (1, .val (.agg (FR () 6 ((q).sc)))), (2, .val (.pointer (some (⟨g1_0, 0, none⟩)))), (3, .val (.pointer (some (⟨g1_1, 0, none⟩)))), (4, .val (.slice (none) (0) (0))), (18, .val (.int .i64 ((n : Int)))), (5, .val (.slice (o) ((outL p q i).length) (cp))), (20, .val (.bool true)), (7, .val (.pointer (some ⟨g13_2, 0, none⟩))), (8, .val (.int .i64 (((p).tell (catK p q (i))).1))), (9, .val (.bool true)), (10, .val (.int .i64 (((q).tell (catK p q (i))).1))), (11, .val (.bool true)), (51, .val (.bool false)), (19, .val (.int .i64 (((i + 1 : Nat) : Int))))] [(0, 57, .val (.int .i64 (((i + 1 : Nat) : Int)))), (1, 19, .val (.int .i64 (((i + 1 : Nat) : Int))))] [⟨g13_2, none, none, (), 7, msc (catK p q (i)) (catM p q (i)), msc (catK p q (i)) (catM p q (i)), 44⟩] rfl (by rfl) HH55 rfl rfl hLo rfl HS55 (slS 0 rfl rfl (slS 1 rfl rfl (slS 2 rfl rfl (slS 3 rfl rfl (slS 4 rfl rfl (slS 5 rfl rfl (slS 6 rfl rfl (slS 8 rfl rfl (slS 9 rfl rfl (slS 10 rfl rfl (slS 11 rfl rfl (slS 12 rfl rfl (slS 13 rfl rfl (slS 14 rfl rfl (slS 15 rfl rfl (slL 1 (d := 1) rfl (trivial))))))))))))))))) ?_ ?_
            · show ∀ i ∈ [0, 1], _
              refine zA (zB 0 _ rfl rfl hLo rfl rfl (fun _ _ _ _ => rfl) (fun b G w hb ho => zI rfl (ev_pre hLo 1 rfl (ho 1 (by rfl)) (HS55.get 7 rfl)) (rfl) (rb_add (w_nat (by omega) (by omega)) _ _ _))) ?_
              refine zA (zB 1 _ rfl rfl hLo rfl rfl (fun _ _ _ _ => rfl) (fun b G w hb ho => zD (.inl rfl) (zC hLo 0 rfl HS55.1 rfl (hb 0 (by rfl))))) ?_
              exact zF
            clear hLo
            intro G a64 w64 hS hH
            have HS64 : Sl a64 59 [(17, .slice (oa) (n) (cc)), (0, .agg (FR () 6 ((p).sc))), (1, .agg (FR () 6 ((q).sc))), (2, .pointer (some (⟨g1_0, 0, none⟩))), (3, .pointer (some (⟨g1_1, 0, none⟩))), (4, .slice (none) (0) (0)), (18, .int .i64 ((n : Int))), (5, .slice (o) ((outL p q i).length) (cp)), (20, .bool true), (7, .pointer (some ⟨g13_2, 0, none⟩)), (8, .int .i64 (((p).tell (catK p q (i))).1)), (9, .bool true), (10, .int .i64 (((q).tell (catK p q (i))).1)), (11, .bool true), (51, .bool false), (19, .int .i64 (((i + 1 : Nat) : Int)))] := hS
            have HH64 : Held wq0 w64 [⟨g13_2, (), 7, msc (catK p q (i)) (catM p q (i)), 44⟩] := hH
            clear hS hH HS55 HH55
            refine then_ ?_
            have hOn := hO.below HH64.1
            have HH65 := Held.back HHq0 HH64
            have hSq0' : Sl _ 59 [(17, .slice (oa) (n) (cc)), (0, .agg (FR () 6 ((p).sc))), (1, .agg (FR () 6 ((q).sc))), (2, .pointer (some (⟨g1_0, 0, none⟩))), (3, .pointer (some (⟨g1_1, 0, none⟩))), (4, .slice (none) (0) (0)), (18, .int .i64 ((n : Int))), (19, .int .i64 (((i + 1 : Nat) : Int))), (5, .slice (o) ((outL p q i).length) (cp))] := yA HS64 [0, 1, 2, 3, 4, 5, 6, 15, 7] (by rfl)
            have hHq0' : Held w4 _ [] := yD HH65 0 rfl
            have e1 := outL_no2 hr9
            rw [← e1] at hSq0' hOn
            exact ⟨⟨i + 1, o, cp, by omega, hOn, hSq0', hHq0'⟩, by rw [(hSq0'.get 7 rfl)]; show n - (((i + 1 : Nat) : Int)).toNat < n - i; omega⟩
end Go.Proofs.YtjpiofbedglagaaDoor.P
end
