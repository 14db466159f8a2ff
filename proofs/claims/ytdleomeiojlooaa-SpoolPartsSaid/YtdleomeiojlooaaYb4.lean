/- Merged of the texts: Xl, WSized (trim.py). -/
import Derived.SizedLaws
import Derived.ChangeSlices
import Derived.Test.YtdleomeiojlooaaYb3
section
namespace Go.Proofs.Ytdleomeiojlooaa.P
set_option linter.unusedVariables false
set_option linter.unusedSimpArgs false
open Go.RowKit Go.ChangeShapes Go.WideShapes Go.Proofs.YtdleomeiojlooaaW.PrintWords Go.Proofs.YtdleomeiojlooaaW.PrintLast Go.Proofs.YtdleomeiojlooaaW.PrintMore Go.Proofs.Ytdleomeiojlooaa.L
theorem sumR_mem {x : ByteArray} : ∀ {l : List ByteArray}, x ∈ l → x.size ≤ sumR l
  | y :: r, h => by
    show _ ≤ y.size + sumR r
    rcases List.mem_cons.1 h with rfl | h
    · omega
    · have := sumR_mem h; omega
theorem sumR_step {l : List ByteArray} {i : Nat} {x : ByteArray} (h : l[i]? = some x) : sumR (l.take (i + 1)) = sumR (l.take i) + x.size := by rw [take_get h, sumR_snoc]
theorem catR_step {l : List ByteArray} {i : Nat} {x : ByteArray} (h : l[i]? = some x) : catR (l.take (i + 1)) = catR (l.take i) ++ lineS x := by rw [take_get h, catR_snoc]
theorem catR_take (l : List ByteArray) (i : Nat) : (catR (l.take i)).size ≤ 2 * sumR l + l.length := by
  have h1 := catR_le (l.take i)
  have h2 := sumR_take_le l i
  have h3 : (l.take i).length ≤ l.length := by rw [List.length_take]; omega
  omega
abbrev InS := InL Kd.string (fun x : ByteArray => x.size ≤ reach47)
theorem lit_range {z : Int} (h : (Lit.int .i64 z).wf = true) : -9223372036854775808 ≤ z ∧ z < 9223372036854775808 := by
  simp [Lit.wf, IntKind.min, IntKind.max, IntKind.bits, IntKind.signed] at h
  omega
set_option maxHeartbeats 4000000 in
theorem SpoolLines_walk (al0 : Option Addr) (len0 cap0 : Nat) (l0 : List ByteArray) (sy : Int) (w : World) (hI : InS w al0 len0 cap0 l0) (hsw : (Lit.int .i64 sy).wf = true) : Calls Try.prog 4 #[.slice al0 len0 cap0, .int .i64 sy] w fun e w' => e = .returned (.bool true) ∧ Below w.heap.size w w' := by
  have hB := Below.refl w.heap.size w
  have hir := lit_range hsw
  have hmax : len0 ≤ 140737488351232 := hI.z_max
  have hln := hI.z_len
  refine enter_ 92 Try.func4 rfl rfl (fun a0 hS => ?_)
  have HS0 : Sl a0 92 [(0, .slice (al0) (len0) (cap0)), (1, .int .i64 (sy))] := hS
  have HH0 : Held ⟨w, []⟩ w [] := Held.first w []
  clear hS
  refine wp_seq ?_
  have hLo : LOk [(0, 4, .val (.bool false))] := lok (by rfl) (by rfl)
  refine plain_ (wE := ⟨w, []⟩) (sz := 92) (n := 1) [0] [(0, .val (.slice (al0) (len0) (cap0))), (1, .val (.int .i64 (sy))), (4, .val (.bool false))] [(0, 4, .val (.bool false))] [] rfl (by rfl) HH0 rfl rfl hLo rfl HS0 (slS 0 rfl rfl (slS 1 rfl rfl (slL 0 (d := 0) rfl (trivial)))) ?_ ?_
  · show ∀ i ∈ [0], _
    refine steps_cons (st_run 0 _ rfl rfl hLo rfl rfl (fun _ _ _ _ => rfl) (fun b G w hb ho => exec_move (.inr rfl) (rfl))) ?_
    exact steps_nil
  clear hLo
  intro G a1 w1 hS hH
  have HS1 : Sl a1 92 [(0, .slice (al0) (len0) (cap0)), (1, .int .i64 (sy)), (4, .bool false)] := hS
  have HH1 : Held ⟨w, []⟩ w1 [] := hH
  clear hS hH HS0 HH0
  refine then_ ?_
  refine wp_seq ?_
  refine wp_seq ?_
  have hLo : LOk [(0, 15, .val (.bool true)), (1, 16, .val (.bool false))] := lok (by rfl) (by rfl)
  refine plain_ (wE := ⟨w, []⟩) (sz := 92) (n := 2) [0, 1] [(0, .val (.slice (al0) (len0) (cap0))), (1, .val (.int .i64 (sy))), (4, .val (.bool false)), (16, .val (.bool false))] [(0, 15, .val (.bool true)), (1, 16, .val (.bool false))] [] rfl (by rfl) HH1 rfl rfl hLo rfl HS1 (slS 0 rfl rfl (slS 1 rfl rfl (slS 2 rfl rfl (slL 1 (d := 1) rfl (trivial))))) ?_ ?_
  · show ∀ i ∈ [0, 1], _
    refine steps_cons (st_call 0 _ #[] rfl rfl rfl (fun _ _ _ _ => rfl) hLo rfl rfl Try.func8 rfl rfl (fun b G hb ho => args0 ) (fun w hw => alive_calls _)) ?_
    refine steps_cons (st_run 1 _ rfl rfl hLo rfl rfl (fun _ _ _ _ => rfl) (fun b G w hb ho => exec_un rfl (ev_on hLo 0 rfl HS1.1 rfl (hb 0 (by rfl))) (ru_not _))) ?_
    exact steps_nil
  clear hLo
  intro G a2 w2 hS hH
  have HS2 : Sl a2 92 [(0, .slice (al0) (len0) (cap0)), (1, .int .i64 (sy)), (4, .bool false), (16, .bool false)] := hS
  have HH2 : Held ⟨w, []⟩ w2 [] := hH
  clear hS hH HS1 HH1
  refine then_ ?_
  refine wp_cond_false (HS2.get 3 rfl) ?_
  refine wp_skip ?_
  refine then_ ?_
  refine wp_seq ?_
  have hLo : LOk [(0, 5, .val (.int .i64 (0)))] := lok (by rfl) (by rfl)
  refine plain_ (wE := ⟨w, []⟩) (sz := 92) (n := 1) [0] [(0, .val (.slice (al0) (len0) (cap0))), (1, .val (.int .i64 (sy))), (4, .val (.bool false)), (16, .val (.bool false)), (5, .val (.int .i64 (0)))] [(0, 5, .val (.int .i64 (0)))] [] rfl (by rfl) HH2 rfl rfl hLo rfl HS2 (slS 0 rfl rfl (slS 1 rfl rfl (slS 2 rfl rfl (slS 3 rfl rfl (slL 0 (d := 0) rfl (trivial)))))) ?_ ?_
  · show ∀ i ∈ [0], _
    refine steps_cons (st_run 0 _ rfl rfl hLo rfl rfl (fun _ _ _ _ => rfl) (fun b G w hb ho => exec_move (.inr rfl) (rfl))) ?_
    exact steps_nil
  clear hLo
  intro G a3 w3 hS hH
  have HS3 : Sl a3 92 [(0, .slice (al0) (len0) (cap0)), (1, .int .i64 (sy)), (4, .bool false), (16, .bool false), (5, .int .i64 (0))] := hS
  have HH3 : Held ⟨w, []⟩ w3 [] := hH
  clear hS hH HS2 HH2
  refine then_ ?_
  refine wp_seq ?_
  have hLo : LOk [(0, 6, .val (.string (ByteArray.empty)))] := lok (by rfl) (by rfl)
  refine plain_ (wE := ⟨w, []⟩) (sz := 92) (n := 1) [0] [(0, .val (.slice (al0) (len0) (cap0))), (1, .val (.int .i64 (sy))), (4, .val (.bool false)), (16, .val (.bool false)), (5, .val (.int .i64 (0))), (6, .val (.string (ByteArray.empty)))] [(0, 6, .val (.string (ByteArray.empty)))] [] rfl (by rfl) HH3 rfl rfl hLo rfl HS3 (slS 0 rfl rfl (slS 1 rfl rfl (slS 2 rfl rfl (slS 3 rfl rfl (slS 4 rfl rfl (slL 0 (d := 0) rfl (trivial))))))) ?_ ?_
  · show ∀ i ∈ [0], _
    refine steps_cons (st_run 0 _ rfl rfl hLo rfl rfl (fun _ _ _ _ => rfl) (fun b G w hb ho => exec_move (.inr rfl) (rfl))) ?_
    exact steps_nil
  clear hLo
  intro G a4 w4 hS hH
  have HS4 : Sl a4 92 [(0, .slice (al0) (len0) (cap0)), (1, .int .i64 (sy)), (4, .bool false), (16, .bool false), (5, .int .i64 (0)), (6, .string (ByteArray.empty))] := hS
  have HH4 : Held ⟨w, []⟩ w4 [] := hH
  clear hS hH HS3 HH3
  refine then_ ?_
  refine wp_seq ?_
  refine wp_seq ?_
  have hLo : LOk [(0, 17, .val (.slice (al0) (len0) (cap0))), (1, 18, .val (.int .i64 ((len0 : Int)))), (2, 19, .val (.int .i64 (0)))] := lok (by rfl) (by rfl)
  refine plain_ (wE := ⟨w, []⟩) (sz := 92) (n := 3) [0, 1, 3] [(0, .val (.slice (al0) (len0) (cap0))), (1, .val (.int .i64 (sy))), (4, .val (.bool false)), (16, .val (.bool false)), (5, .val (.int .i64 (0))), (6, .val (.string (ByteArray.empty))), (17, .val (.slice (al0) (len0) (cap0))), (18, .val (.int .i64 ((len0 : Int)))), (19, .val (.int .i64 (0)))] [(0, 17, .val (.slice (al0) (len0) (cap0))), (1, 18, .val (.int .i64 ((len0 : Int)))), (2, 19, .val (.int .i64 (0)))] [] rfl (by rfl) HH4 rfl rfl hLo rfl HS4 (slS 0 rfl rfl (slS 1 rfl rfl (slS 2 rfl rfl (slS 3 rfl rfl (slS 4 rfl rfl (slS 5 rfl rfl (slL 0 (d := 0) rfl (slL 1 (d := 1) rfl (slL 2 (d := 2) rfl (trivial)))))))))) ?_ ?_
  · show ∀ i ∈ [0, 1, 2], _
    refine steps_cons (st_run 0 _ rfl rfl hLo rfl rfl (fun _ _ _ _ => rfl) (fun b G w hb ho => exec_move (.inl rfl) (ev_off rfl (HS4.get 0 rfl)))) ?_
    refine steps_cons (st_run 1 _ rfl rfl hLo rfl rfl (fun _ _ _ _ => rfl) (fun b G w hb ho => exec_lenL Try.underlying25 rfl (ev_on hLo 0 rfl HS4.1 rfl (hb 0 (by rfl))))) ?_
    refine steps_cons (st_run 2 _ rfl rfl hLo rfl rfl (fun _ _ _ _ => rfl) (fun b G w hb ho => exec_move (.inl rfl) (rfl))) ?_
    exact steps_nil
  clear hLo
  intro G a5 w5 hS hH
  have HS5 : Sl a5 92 [(0, .slice (al0) (len0) (cap0)), (1, .int .i64 (sy)), (4, .bool false), (16, .bool false), (5, .int .i64 (0)), (6, .string (ByteArray.empty)), (17, .slice (al0) (len0) (cap0)), (18, .int .i64 ((len0 : Int))), (19, .int .i64 (0))] := hS
  have HH5 : Held ⟨w, []⟩ w5 [] := hH
  clear hS hH HS4 HH4
  refine then_ ?_
  refine wp_block ?_
  have hSq0 : Sl _ 92 [(0, .slice (al0) (len0) (cap0)), (1, .int .i64 (sy)), (16, .bool false), (17, .slice (al0) (len0) (cap0)), (18, .int .i64 ((len0 : Int))), (19, .int .i64 (0)), (5, .int .i64 (0)), (6, .string (ByteArray.empty))] := sl_keep HS5 [0, 1, 3, 6, 7, 8, 4, 5] (by rfl)
  refine wp_loop (fun a w' => ∃ i : Nat, i ≤ len0 ∧ sumR (l0.take i) ≤ 16384 ∧ Sl a 92 [(0, .slice (al0) (len0) (cap0)), (1, .int .i64 (sy)), (16, .bool false), (17, .slice (al0) (len0) (cap0)), (18, .int .i64 ((len0 : Int))), (19, .int .i64 ((i : Int))), (5, .int .i64 (((sumR (l0.take i) : Nat) : Int))), (6, .string (catR (l0.take i)))] ∧ Held ⟨w, []⟩ w' []) (fun a w' => len0 - (intOf (a.eval (.tmp 19))).toNat) ⟨0, Nat.zero_le _, Nat.zero_le _, hSq0, HH5⟩ ?_
  clear hSq0 HS5 HH5
  rintro aq0 wq0 ⟨i, hi, hsz, HSq0, HHq0⟩
  have hm : (intOf (aq0.eval (.tmp 19))).toNat = i := by rw [(HSq0.get 5 rfl)]; rfl
  rw [hm]
  clear hm
  obtain ⟨r1, hr1⟩ : ∃ r : Bool, (decide (((i : Int) : Int) < (len0 : Int))) = r := ⟨_, rfl⟩
  refine wp_seq ?_
  have hLo : LOk [(0, 20, .val (.bool r1))] := lok (by rfl) (by rfl)
  refine plain_ (wE := ⟨w, []⟩) (sz := 92) (n := 1) [0] [(0, .val (.slice (al0) (len0) (cap0))), (1, .val (.int .i64 (sy))), (16, .val (.bool false)), (17, .val (.slice (al0) (len0) (cap0))), (18, .val (.int .i64 ((len0 : Int)))), (19, .val (.int .i64 ((i : Int)))), (5, .val (.int .i64 (((sumR (l0.take i) : Nat) : Int)))), (6, .val (.string (catR (l0.take i)))), (20, .val (.bool r1))] [(0, 20, .val (.bool r1))] [] rfl (by rfl) HHq0 rfl rfl hLo rfl HSq0 (slS 0 rfl rfl (slS 1 rfl rfl (slS 2 rfl rfl (slS 3 rfl rfl (slS 4 rfl rfl (slS 5 rfl rfl (slS 6 rfl rfl (slS 7 rfl rfl (slL 0 (d := 0) rfl (trivial)))))))))) ?_ ?_
  · show ∀ i ∈ [0], _
    refine steps_cons (st_run 0 _ rfl rfl hLo rfl rfl (fun _ _ _ _ => rfl) (fun b G w hb ho => exec_bin rfl (ev_off rfl (HSq0.get 5 rfl)) (ev_off rfl (HSq0.get 4 rfl)) (rb_lss hr1 _ _ _))) ?_
    exact steps_nil
  clear hLo
  intro G a6 w6 hS hH
  have HS6 : Sl a6 92 [(0, .slice (al0) (len0) (cap0)), (1, .int .i64 (sy)), (16, .bool false), (17, .slice (al0) (len0) (cap0)), (18, .int .i64 ((len0 : Int))), (19, .int .i64 ((i : Int))), (5, .int .i64 (((sumR (l0.take i) : Nat) : Int))), (6, .string (catR (l0.take i))), (20, .bool r1)] := hS
  have HH6 : Held ⟨w, []⟩ w6 [] := hH
  clear hS hH HSq0 HHq0
  refine then_ ?_
  refine wp_seq ?_
  cases r1
  · skip
    have hge := of_decide_eq_false hr1
    obtain rfl : len0 = i := by omega
    have htk : l0.take len0 = l0 := List.take_of_length_le (by rw [hI.z_len]; exact Nat.le_refl _)
    rw [htk] at HS6 hsz
    refine wp_cond_false (HS6.get 8 rfl) ?_
    refine wp_exit ?_
    refine then_exit ?_
    refine then_exit ?_
    refine inBlock_exit ?_
    refine then_ ?_
    refine wp_seq ?_
    obtain ⟨r2, hr2⟩ : ∃ r : Bool, (decide ((60 : Int) < (len0 : Int))) = r := ⟨_, rfl⟩
    cases r2
    · skip
      have hzr2 := of_decide_eq_false hr2
      obtain ⟨r3, hr3⟩ : ∃ r : Bool, (decide ((sy : Int) < 0)) = r := ⟨_, rfl⟩
      cases r3
      · skip
        have hzr3 := of_decide_eq_false hr3
        obtain ⟨r4, hr4⟩ : ∃ r : Bool, (decide ((100 : Int) < sy)) = r := ⟨_, rfl⟩
        refine wp_seq ?_
        have hLo : LOk [(0, 34, .val (.slice (al0) (len0) (cap0))), (1, 35, .val (.int .i64 ((len0 : Int)))), (2, 36, .val (.bool false)), (3, 37, .val (.bool false)), (4, 38, .val (.int .i64 (sy))), (5, 39, .val (.bool false)), (6, 40, .val (.bool false)), (7, 41, .val (.bool false)), (8, 42, .val (.int .i64 (sy))), (9, 43, .val (.bool r4)), (10, 44, .val (.bool r4))] := lok (by rfl) (by rfl)
        refine plain_ (wE := ⟨w, []⟩) (sz := 92) (n := 11) [0, 1, 3, 7, 15, 31, 63, 127, 255, 511, 1023] [(0, .val (.slice (al0) (len0) (cap0))), (1, .val (.int .i64 (sy))), (16, .val (.bool false)), (17, .val (.slice (al0) (len0) (cap0))), (18, .val (.int .i64 ((len0 : Int)))), (19, .val (.int .i64 ((len0 : Int)))), (5, .val (.int .i64 (((sumR l0 : Nat) : Int)))), (6, .val (.string (catR l0))), (20, .val (.bool false)), (44, .val (.bool r4))] [(0, 34, .val (.slice (al0) (len0) (cap0))), (1, 35, .val (.int .i64 ((len0 : Int)))), (2, 36, .val (.bool false)), (3, 37, .val (.bool false)), (4, 38, .val (.int .i64 (sy))), (5, 39, .val (.bool false)), (6, 40, .val (.bool false)), (7, 41, .val (.bool false)), (8, 42, .val (.int .i64 (sy))), (9, 43, .val (.bool r4)), (10, 44, .val (.bool r4))] [] rfl (by rfl) HH6 rfl rfl hLo rfl HS6 (slS 0 rfl rfl (slS 1 rfl rfl (slS 2 rfl rfl (slS 3 rfl rfl (slS 4 rfl rfl (slS 5 rfl rfl (slS 6 rfl rfl (slS 7 rfl rfl (slS 8 rfl rfl (slL 10 (d := 10) rfl (trivial))))))))))) ?_ ?_
        · show ∀ i ∈ [0, 1, 2, 3, 4, 5, 6, 7, 8, 9, 10], _
          refine steps_cons (st_run 0 _ rfl rfl hLo rfl rfl (fun _ _ _ _ => rfl) (fun b G w hb ho => exec_move (.inl rfl) (ev_off rfl (HS6.get 0 rfl)))) ?_
          refine steps_cons (st_run 1 _ rfl rfl hLo rfl rfl (fun _ _ _ _ => rfl) (fun b G w hb ho => exec_lenL Try.underlying25 rfl (ev_on hLo 0 rfl HS6.1 rfl (hb 0 (by rfl))))) ?_
          refine steps_cons (st_run 2 _ rfl rfl hLo rfl rfl (fun _ _ _ _ => rfl) (fun b G w hb ho => exec_bin rfl (ev_on hLo 1 rfl HS6.1 rfl (hb 1 (by rfl))) (rfl) (rb_gtr hr2 _ _ _))) ?_
          refine steps_cons (st_run 3 _ rfl rfl hLo rfl rfl (fun _ _ _ _ => rfl) (fun b G w hb ho => exec_move (.inl rfl) (ev_on hLo 2 rfl HS6.1 rfl (hb 2 (by rfl))))) ?_
          refine steps_cons (st_run 4 _ rfl rfl hLo rfl rfl (fun b G hb ho => wanted_is rfl rfl rfl HS6.1 rfl (ev_on hLo 3 rfl HS6.1 rfl (hb 3 (by rfl))) rfl) (fun b G w hb ho => exec_move (.inl rfl) (ev_off rfl (HS6.get 1 rfl)))) ?_
          refine steps_cons (st_run 5 _ rfl rfl hLo rfl rfl (fun b G hb ho => wanted_is rfl rfl rfl HS6.1 rfl (ev_on hLo 3 rfl HS6.1 rfl (hb 3 (by rfl))) rfl) (fun b G w hb ho => exec_bin rfl (ev_on hLo 4 rfl HS6.1 rfl (hb 4 (by rfl))) (rfl) (rb_lss hr3 _ _ _))) ?_
          refine steps_cons (st_run 6 _ rfl rfl hLo rfl rfl (fun _ _ _ _ => rfl) (fun b G w hb ho => exec_pick rfl (ev_on hLo 3 rfl HS6.1 rfl (hb 3 (by rfl))) (ev_on hLo 5 rfl HS6.1 rfl (hb 5 (by rfl))))) ?_
          refine steps_cons (st_run 7 _ rfl rfl hLo rfl rfl (fun _ _ _ _ => rfl) (fun b G w hb ho => exec_move (.inl rfl) (ev_on hLo 6 rfl HS6.1 rfl (hb 6 (by rfl))))) ?_
          refine steps_cons (st_run 8 _ rfl rfl hLo rfl rfl (fun b G hb ho => wanted_is rfl rfl rfl HS6.1 rfl (ev_on hLo 7 rfl HS6.1 rfl (hb 7 (by rfl))) rfl) (fun b G w hb ho => exec_move (.inl rfl) (ev_off rfl (HS6.get 1 rfl)))) ?_
          refine steps_cons (st_run 9 _ rfl rfl hLo rfl rfl (fun b G hb ho => wanted_is rfl rfl rfl HS6.1 rfl (ev_on hLo 7 rfl HS6.1 rfl (hb 7 (by rfl))) rfl) (fun b G w hb ho => exec_bin rfl (ev_on hLo 8 rfl HS6.1 rfl (hb 8 (by rfl))) (rfl) (rb_gtr hr4 _ _ _))) ?_
          refine steps_cons (st_run 10 _ rfl rfl hLo rfl rfl (fun _ _ _ _ => rfl) (fun b G w hb ho => exec_pick rfl (ev_on hLo 7 rfl HS6.1 rfl (hb 7 (by rfl))) (ev_on hLo 9 rfl HS6.1 rfl (hb 9 (by rfl))))) ?_
          exact steps_nil
        clear hLo
        intro G a7 w7 hS hH
        have HS7 : Sl a7 92 [(0, .slice (al0) (len0) (cap0)), (1, .int .i64 (sy)), (16, .bool false), (17, .slice (al0) (len0) (cap0)), (18, .int .i64 ((len0 : Int))), (19, .int .i64 ((len0 : Int))), (5, .int .i64 (((sumR l0 : Nat) : Int))), (6, .string (catR l0)), (20, .bool false), (44, .bool r4)] := hS
        have HH7 : Held ⟨w, []⟩ w7 [] := hH
        clear hS hH HS6 HH6
        refine then_ ?_
        cases r4
        · skip
          have hzr4 := of_decide_eq_false hr4
          refine wp_cond_false (HS7.get 9 rfl) ?_
          refine wp_skip ?_
          refine then_ ?_
          refine wp_seq ?_
          refine whole_ ?_
          obtain ⟨ns, rfl⟩ : ∃ ns : Nat, sy = ns := ⟨sy.toNat, by omega⟩
          refine cut_call _ rfl rfl rfl rfl Try.func9 rfl rfl (args1 rfl) (new_calls (by decide)) HS7 rfl ?_
          rintro e8 w8 ⟨g, rfl, hng, hrg, hbg⟩
          refine ⟨_, rfl, fun a8 hS => ?_⟩
          have hwg : w.heap.size ≤ g := Nat.le_trans (Nat.le_trans hB.size HH7.1.size) hng
          have HS9 : Sl a8 92 [(45, .pointer (some ⟨g, 0, none⟩)), (0, .slice (al0) (len0) (cap0)), (1, .int .i64 ((ns : Int))), (16, .bool false), (17, .slice (al0) (len0) (cap0)), (18, .int .i64 ((len0 : Int))), (19, .int .i64 ((len0 : Int))), (5, .int .i64 (((sumR l0 : Nat) : Int))), (6, .string (catR l0)), (20, .bool false), (44, .bool false)] := hS
          have HH9 : Held ⟨w, []⟩ w8 [⟨g, (), 6, spC ⟨ByteArray.empty, 0, false, 0, 0, 0⟩, 53⟩] := HH7.add hbg hng hrg
          clear hS
          have hLo : LOk [(1, 9, .val (.pointer (some ⟨g, 0, none⟩)))] := lok (by rfl) (by rfl)
          refine part_ (wE := ⟨w, []⟩) (sz := 92) (n := 2) 1 2 [0, 1] [(0, .val (.slice (al0) (len0) (cap0))), (1, .val (.int .i64 ((ns : Int)))), (16, .val (.bool false)), (17, .val (.slice (al0) (len0) (cap0))), (18, .val (.int .i64 ((len0 : Int)))), (19, .val (.int .i64 ((len0 : Int)))), (5, .val (.int .i64 (((sumR l0 : Nat) : Int)))), (6, .val (.string (catR l0))), (20, .val (.bool false)), (44, .val (.bool false)), (9, .val (.pointer (some ⟨g, 0, none⟩)))] [(1, 9, .val (.pointer (some ⟨g, 0, none⟩)))] [⟨g, none, none, (), 6, spC ⟨ByteArray.empty, 0, false, 0, 0, 0⟩, spC ⟨ByteArray.empty, 0, false, 0, 0, 0⟩, 53⟩] rfl rfl (by rfl) HH9 rfl rfl hLo rfl HS9 (slS 1 rfl rfl (slS 2 rfl rfl (slS 3 rfl rfl (slS 4 rfl rfl (slS 5 rfl rfl (slS 6 rfl rfl (slS 7 rfl rfl (slS 8 rfl rfl (slS 9 rfl rfl (slS 10 rfl rfl (slL 0 (d := 1) rfl (trivial)))))))))))) ?_ ?_
          · show ∀ i ∈ [1], _
            refine steps_cons (st_run 0 _ rfl rfl hLo rfl rfl (fun _ _ _ _ => rfl) (fun b G w hb ho => exec_move (.inr rfl) (ev_off rfl (HS9.get 0 rfl)))) ?_
            exact steps_nil
          clear hLo
          intro G a10 w10 hS hH
          have HS10 : Sl a10 92 [(0, .slice (al0) (len0) (cap0)), (1, .int .i64 ((ns : Int))), (16, .bool false), (17, .slice (al0) (len0) (cap0)), (18, .int .i64 ((len0 : Int))), (19, .int .i64 ((len0 : Int))), (5, .int .i64 (((sumR l0 : Nat) : Int))), (6, .string (catR l0)), (20, .bool false), (44, .bool false), (9, .pointer (some ⟨g, 0, none⟩))] := hS
          have HH10 : Held ⟨w, []⟩ w10 [⟨g, (), 6, spC ⟨ByteArray.empty, 0, false, 0, 0, 0⟩, 53⟩] := hH
          clear hS hH HS9 HH9
          refine end_ rfl ?_
          refine then_ ?_
          refine wp_seq ?_
          refine wp_seq ?_
          have hLo : LOk [(0, 46, .val (.slice (al0) (len0) (cap0))), (1, 47, .val (.int .i64 ((len0 : Int)))), (2, 48, .val (.int .i64 (0)))] := lok (by rfl) (by rfl)
          refine plain_ (wE := ⟨w, []⟩) (sz := 92) (n := 3) [0, 1, 3] [(0, .val (.slice (al0) (len0) (cap0))), (1, .val (.int .i64 ((ns : Int)))), (16, .val (.bool false)), (17, .val (.slice (al0) (len0) (cap0))), (18, .val (.int .i64 ((len0 : Int)))), (19, .val (.int .i64 ((len0 : Int)))), (5, .val (.int .i64 (((sumR l0 : Nat) : Int)))), (6, .val (.string (catR l0))), (20, .val (.bool false)), (44, .val (.bool false)), (9, .val (.pointer (some ⟨g, 0, none⟩))), (46, .val (.slice (al0) (len0) (cap0))), (47, .val (.int .i64 ((len0 : Int)))), (48, .val (.int .i64 (0)))] [(0, 46, .val (.slice (al0) (len0) (cap0))), (1, 47, .val (.int .i64 ((len0 : Int)))), (2, 48, .val (.int .i64 (0)))] [⟨g, none, none, (), 6, spC ⟨ByteArray.empty, 0, false, 0, 0, 0⟩, spC ⟨ByteArray.empty, 0, false, 0, 0, 0⟩, 53⟩] rfl (by rfl) HH10 rfl rfl hLo rfl HS10 (slS 0 rfl rfl (slS 1 rfl rfl (slS 2 rfl rfl (slS 3 rfl rfl (slS 4 rfl rfl (slS 5 rfl rfl (slS 6 rfl rfl (slS 7 rfl rfl (slS 8 rfl rfl (slS 9 rfl rfl (slS 10 rfl rfl (slL 0 (d := 0) rfl (slL 1 (d := 1) rfl (slL 2 (d := 2) rfl (trivial))))))))))))))) ?_ ?_
          · show ∀ i ∈ [0, 1, 2], _
            refine steps_cons (st_run 0 _ rfl rfl hLo rfl rfl (fun _ _ _ _ => rfl) (fun b G w hb ho => exec_move (.inl rfl) (ev_off rfl (HS10.get 0 rfl)))) ?_
            refine steps_cons (st_run 1 _ rfl rfl hLo rfl rfl (fun _ _ _ _ => rfl) (fun b G w hb ho => exec_lenL Try.underlying25 rfl (ev_on hLo 0 rfl HS10.1 rfl (hb 0 (by rfl))))) ?_
            refine steps_cons (st_run 2 _ rfl rfl hLo rfl rfl (fun _ _ _ _ => rfl) (fun b G w hb ho => exec_move (.inl rfl) (rfl))) ?_
            exact steps_nil
          clear hLo
          intro G a11 w11 hS hH
          have HS11 : Sl a11 92 [(0, .slice (al0) (len0) (cap0)), (1, .int .i64 ((ns : Int))), (16, .bool false), (17, .slice (al0) (len0) (cap0)), (18, .int .i64 ((len0 : Int))), (19, .int .i64 ((len0 : Int))), (5, .int .i64 (((sumR l0 : Nat) : Int))), (6, .string (catR l0)), (20, .bool false), (44, .bool false), (9, .pointer (some ⟨g, 0, none⟩)), (46, .slice (al0) (len0) (cap0)), (47, .int .i64 ((len0 : Int))), (48, .int .i64 (0))] := hS
          have HH11 : Held ⟨w, []⟩ w11 [⟨g, (), 6, spC ⟨ByteArray.empty, 0, false, 0, 0, 0⟩, 53⟩] := hH
          clear hS hH HS10 HH10
          refine then_ ?_
          refine wp_block ?_
          have hSq1 : Sl _ 92 [(0, .slice (al0) (len0) (cap0)), (1, .int .i64 ((ns : Int))), (16, .bool false), (17, .slice (al0) (len0) (cap0)), (18, .int .i64 ((len0 : Int))), (19, .int .i64 ((len0 : Int))), (5, .int .i64 (((sumR l0 : Nat) : Int))), (6, .string (catR l0)), (20, .bool false), (44, .bool false), (9, .pointer (some ⟨g, 0, none⟩)), (46, .slice (al0) (len0) (cap0)), (47, .int .i64 ((len0 : Int))), (48, .int .i64 (0))] := sl_keep HS11 [0, 1, 2, 3, 4, 5, 6, 7, 8, 9, 10, 11, 12, 13] (by rfl)
          refine wp_loop (fun a w' => ∃ j : Nat, j ≤ len0 ∧ Sl a 92 [(0, .slice (al0) (len0) (cap0)), (1, .int .i64 ((ns : Int))), (16, .bool false), (17, .slice (al0) (len0) (cap0)), (18, .int .i64 ((len0 : Int))), (19, .int .i64 ((len0 : Int))), (5, .int .i64 (((sumR l0 : Nat) : Int))), (6, .string (catR l0)), (20, .bool false), (44, .bool false), (9, .pointer (some ⟨g, 0, none⟩)), (46, .slice (al0) (len0) (cap0)), (47, .int .i64 ((len0 : Int))), (48, .int .i64 ((j : Int)))] ∧ Held ⟨w, []⟩ w' [⟨g, (), 6, spC ⟨catR (l0.take j), 0, false, j, 0, 0⟩, 53⟩]) (fun a w' => len0 - (intOf (a.eval (.tmp 48))).toNat) ⟨0, Nat.zero_le _, hSq1, HH11⟩ ?_
          clear hSq1 HS11 HH11
          rintro aq1 wq1 ⟨j, hj, HSq1, HHq1⟩
          have hm : (intOf (aq1.eval (.tmp 48))).toNat = j := by rw [(HSq1.get 13 rfl)]; rfl
          rw [hm]
          clear hm
          obtain ⟨r5, hr5⟩ : ∃ r : Bool, (decide (((j : Int) : Int) < (len0 : Int))) = r := ⟨_, rfl⟩
          refine wp_seq ?_
          have hLo : LOk [(0, 49, .val (.bool r5))] := lok (by rfl) (by rfl)
          refine plain_ (wE := ⟨w, []⟩) (sz := 92) (n := 1) [0] [(0, .val (.slice (al0) (len0) (cap0))), (1, .val (.int .i64 ((ns : Int)))), (16, .val (.bool false)), (17, .val (.slice (al0) (len0) (cap0))), (18, .val (.int .i64 ((len0 : Int)))), (19, .val (.int .i64 ((len0 : Int)))), (5, .val (.int .i64 (((sumR l0 : Nat) : Int)))), (6, .val (.string (catR l0))), (20, .val (.bool false)), (44, .val (.bool false)), (9, .val (.pointer (some ⟨g, 0, none⟩))), (46, .val (.slice (al0) (len0) (cap0))), (47, .val (.int .i64 ((len0 : Int)))), (48, .val (.int .i64 ((j : Int)))), (49, .val (.bool r5))] [(0, 49, .val (.bool r5))] [⟨g, none, none, (), 6, spC ⟨catR (l0.take j), 0, false, j, 0, 0⟩, spC ⟨catR (l0.take j), 0, false, j, 0, 0⟩, 53⟩] rfl (by rfl) HHq1 rfl rfl hLo rfl HSq1 (slS 0 rfl rfl (slS 1 rfl rfl (slS 2 rfl rfl (slS 3 rfl rfl (slS 4 rfl rfl (slS 5 rfl rfl (slS 6 rfl rfl (slS 7 rfl rfl (slS 8 rfl rfl (slS 9 rfl rfl (slS 10 rfl rfl (slS 11 rfl rfl (slS 12 rfl rfl (slS 13 rfl rfl (slL 0 (d := 0) rfl (trivial)))))))))))))))) ?_ ?_
          · show ∀ i ∈ [0], _
            refine steps_cons (st_run 0 _ rfl rfl hLo rfl rfl (fun _ _ _ _ => rfl) (fun b G w hb ho => exec_bin rfl (ev_off rfl (HSq1.get 13 rfl)) (ev_off rfl (HSq1.get 12 rfl)) (rb_lss hr5 _ _ _))) ?_
            exact steps_nil
          clear hLo
          intro G a12 w12 hS hH
          have HS12 : Sl a12 92 [(0, .slice (al0) (len0) (cap0)), (1, .int .i64 ((ns : Int))), (16, .bool false), (17, .slice (al0) (len0) (cap0)), (18, .int .i64 ((len0 : Int))), (19, .int .i64 ((len0 : Int))), (5, .int .i64 (((sumR l0 : Nat) : Int))), (6, .string (catR l0)), (20, .bool false), (44, .bool false), (9, .pointer (some ⟨g, 0, none⟩)), (46, .slice (al0) (len0) (cap0)), (47, .int .i64 ((len0 : Int))), (48, .int .i64 ((j : Int))), (49, .bool r5)] := hS
          have HH12 : Held ⟨w, []⟩ w12 [⟨g, (), 6, spC ⟨catR (l0.take j), 0, false, j, 0, 0⟩, 53⟩] := hH
          clear hS hH HSq1 HHq1
          refine then_ ?_
          refine wp_seq ?_
          cases r5
          · skip
            have hge := of_decide_eq_false hr5
            obtain rfl : len0 = j := by omega
            rw [htk] at HH12
            refine wp_cond_false (HS12.get 14 rfl) ?_
            refine wp_exit ?_
            refine then_exit ?_
            refine then_exit ?_
            refine inBlock_exit ?_
            refine then_ ?_
            refine wp_seq ?_
            refine wp_seq ?_
            have hLo : LOk [(0, 12, .val (.int .i64 (0)))] := lok (by rfl) (by rfl)
            refine plain_ (wE := ⟨w, []⟩) (sz := 92) (n := 1) [0] [(0, .val (.slice (al0) (len0) (cap0))), (1, .val (.int .i64 ((ns : Int)))), (16, .val (.bool false)), (17, .val (.slice (al0) (len0) (cap0))), (18, .val (.int .i64 ((len0 : Int)))), (19, .val (.int .i64 ((len0 : Int)))), (5, .val (.int .i64 (((sumR l0 : Nat) : Int)))), (6, .val (.string (catR l0))), (20, .val (.bool false)), (44, .val (.bool false)), (9, .val (.pointer (some ⟨g, 0, none⟩))), (46, .val (.slice (al0) (len0) (cap0))), (47, .val (.int .i64 ((len0 : Int)))), (48, .val (.int .i64 ((len0 : Int)))), (49, .val (.bool false)), (12, .val (.int .i64 (0)))] [(0, 12, .val (.int .i64 (0)))] [⟨g, none, none, (), 6, spC ⟨catR l0, 0, false, len0, 0, 0⟩, spC ⟨catR l0, 0, false, len0, 0, 0⟩, 53⟩] rfl (by rfl) HH12 rfl rfl hLo rfl HS12 (slS 0 rfl rfl (slS 1 rfl rfl (slS 2 rfl rfl (slS 3 rfl rfl (slS 4 rfl rfl (slS 5 rfl rfl (slS 6 rfl rfl (slS 7 rfl rfl (slS 8 rfl rfl (slS 9 rfl rfl (slS 10 rfl rfl (slS 11 rfl rfl (slS 12 rfl rfl (slS 13 rfl rfl (slS 14 rfl rfl (slL 0 (d := 0) rfl (trivial))))))))))))))))) ?_ ?_
            · show ∀ i ∈ [0], _
              refine steps_cons (st_run 0 _ rfl rfl hLo rfl rfl (fun _ _ _ _ => rfl) (fun b G w hb ho => exec_move (.inr rfl) (rfl))) ?_
              exact steps_nil
            clear hLo
            intro G a13 w13 hS hH
            have HS13 : Sl a13 92 [(0, .slice (al0) (len0) (cap0)), (1, .int .i64 ((ns : Int))), (16, .bool false), (17, .slice (al0) (len0) (cap0)), (18, .int .i64 ((len0 : Int))), (19, .int .i64 ((len0 : Int))), (5, .int .i64 (((sumR l0 : Nat) : Int))), (6, .string (catR l0)), (20, .bool false), (44, .bool false), (9, .pointer (some ⟨g, 0, none⟩)), (46, .slice (al0) (len0) (cap0)), (47, .int .i64 ((len0 : Int))), (48, .int .i64 ((len0 : Int))), (49, .bool false), (12, .int .i64 (0))] := hS
            have HH13 : Held ⟨w, []⟩ w13 [⟨g, (), 6, spC ⟨catR l0, 0, false, len0, 0, 0⟩, 53⟩] := hH
            clear hS hH HS12 HH12
            refine then_ ?_
            refine wp_block ?_
            have hSq2 : Sl _ 92 [(0, .slice (al0) (len0) (cap0)), (1, .int .i64 ((ns : Int))), (16, .bool false), (17, .slice (al0) (len0) (cap0)), (18, .int .i64 ((len0 : Int))), (19, .int .i64 ((len0 : Int))), (5, .int .i64 (((sumR l0 : Nat) : Int))), (6, .string (catR l0)), (20, .bool false), (44, .bool false), (9, .pointer (some ⟨g, 0, none⟩)), (46, .slice (al0) (len0) (cap0)), (47, .int .i64 ((len0 : Int))), (48, .int .i64 ((len0 : Int))), (49, .bool false), (12, .int .i64 (0))] := sl_keep HS13 [0, 1, 2, 3, 4, 5, 6, 7, 8, 9, 10, 11, 12, 13, 14, 15] (by rfl)
            refine wp_loop (fun a w' => ∃ k : Nat, ∃ s2 : Nat, k ≤ ns ∧ Sl a 92 [(0, .slice (al0) (len0) (cap0)), (1, .int .i64 ((ns : Int))), (16, .bool false), (17, .slice (al0) (len0) (cap0)), (18, .int .i64 ((len0 : Int))), (19, .int .i64 ((len0 : Int))), (5, .int .i64 (((sumR l0 : Nat) : Int))), (6, .string (catR l0)), (20, .bool false), (44, .bool false), (9, .pointer (some ⟨g, 0, none⟩)), (46, .slice (al0) (len0) (cap0)), (47, .int .i64 ((len0 : Int))), (48, .int .i64 ((len0 : Int))), (49, .bool false), (12, .int .i64 ((k : Int)))] ∧ Held ⟨w, []⟩ w' [⟨g, (), 6, spC ⟨catR l0, s2, false, len0 + k, 0, 0⟩, 53⟩]) (fun a w' => ns - (intOf (a.eval (.tmp 12))).toNat) ⟨0, 0, Nat.zero_le _, hSq2, HH13⟩ ?_
            clear hSq2 HS13 HH13
            rintro aq2 wq2 ⟨k, s2, hk, HSq2, HHq2⟩
            have hm : (intOf (aq2.eval (.tmp 12))).toNat = k := by rw [(HSq2.get 15 rfl)]; rfl
            rw [hm]
            clear hm
            refine wp_seq ?_
            obtain ⟨r6, hr6⟩ : ∃ r : Bool, (decide (((k : Int) : Int) < (ns : Int))) = r := ⟨_, rfl⟩
            refine wp_seq ?_
            have hLo : LOk [(0, 57, .val (.int .i64 ((k : Int)))), (1, 58, .val (.int .i64 ((ns : Int)))), (2, 59, .val (.bool r6))] := lok (by rfl) (by rfl)
            refine plain_ (wE := ⟨w, []⟩) (sz := 92) (n := 3) [0, 1, 3] [(0, .val (.slice (al0) (len0) (cap0))), (1, .val (.int .i64 ((ns : Int)))), (16, .val (.bool false)), (17, .val (.slice (al0) (len0) (cap0))), (18, .val (.int .i64 ((len0 : Int)))), (19, .val (.int .i64 ((len0 : Int)))), (5, .val (.int .i64 (((sumR l0 : Nat) : Int)))), (6, .val (.string (catR l0))), (20, .val (.bool false)), (44, .val (.bool false)), (9, .val (.pointer (some ⟨g, 0, none⟩))), (46, .val (.slice (al0) (len0) (cap0))), (47, .val (.int .i64 ((len0 : Int)))), (48, .val (.int .i64 ((len0 : Int)))), (49, .val (.bool false)), (12, .val (.int .i64 ((k : Int)))), (59, .val (.bool r6))] [(0, 57, .val (.int .i64 ((k : Int)))), (1, 58, .val (.int .i64 ((ns : Int)))), (2, 59, .val (.bool r6))] [⟨g, none, none, (), 6, spC ⟨catR l0, s2, false, len0 + k, 0, 0⟩, spC ⟨catR l0, s2, false, len0 + k, 0, 0⟩, 53⟩] rfl (by rfl) HHq2 rfl rfl hLo rfl HSq2 (slS 0 rfl rfl (slS 1 rfl rfl (slS 2 rfl rfl (slS 3 rfl rfl (slS 4 rfl rfl (slS 5 rfl rfl (slS 6 rfl rfl (slS 7 rfl rfl (slS 8 rfl rfl (slS 9 rfl rfl (slS 10 rfl rfl (slS 11 rfl rfl (slS 12 rfl rfl (slS 13 rfl rfl (slS 14 rfl rfl (slS 15 rfl rfl (slL 2 (d := 2) rfl (trivial)))))))))))))))))) ?_ ?_
            · show ∀ i ∈ [0, 1, 2], _
              refine steps_cons (st_run 0 _ rfl rfl hLo rfl rfl (fun _ _ _ _ => rfl) (fun b G w hb ho => exec_move (.inl rfl) (ev_off rfl (HSq2.get 15 rfl)))) ?_
              refine steps_cons (st_run 1 _ rfl rfl hLo rfl rfl (fun _ _ _ _ => rfl) (fun b G w hb ho => exec_move (.inl rfl) (ev_off rfl (HSq2.get 1 rfl)))) ?_
              refine steps_cons (st_run 2 _ rfl rfl hLo rfl rfl (fun _ _ _ _ => rfl) (fun b G w hb ho => exec_bin rfl (ev_on hLo 0 rfl HSq2.1 rfl (hb 0 (by rfl))) (ev_on hLo 1 rfl HSq2.1 rfl (hb 1 (by rfl))) (rb_lss hr6 _ _ _))) ?_
              exact steps_nil
            clear hLo
            intro G a14 w14 hS hH
            have HS14 : Sl a14 92 [(0, .slice (al0) (len0) (cap0)), (1, .int .i64 ((ns : Int))), (16, .bool false), (17, .slice (al0) (len0) (cap0)), (18, .int .i64 ((len0 : Int))), (19, .int .i64 ((len0 : Int))), (5, .int .i64 (((sumR l0 : Nat) : Int))), (6, .string (catR l0)), (20, .bool false), (44, .bool false), (9, .pointer (some ⟨g, 0, none⟩)), (46, .slice (al0) (len0) (cap0)), (47, .int .i64 ((len0 : Int))), (48, .int .i64 ((len0 : Int))), (49, .bool false), (12, .int .i64 ((k : Int))), (59, .bool r6)] := hS
            have HH14 : Held ⟨w, []⟩ w14 [⟨g, (), 6, spC ⟨catR l0, s2, false, len0 + k, 0, 0⟩, 53⟩] := hH
            clear hS hH HSq2 HHq2
            refine then_ ?_
            cases r6
            · skip
              have hge := of_decide_eq_false hr6
              obtain rfl : ns = k := by omega
              refine wp_cond_false (HS14.get 16 rfl) ?_
              refine wp_exit ?_
              refine then_exit ?_
              refine then_exit ?_
              refine inBlock_exit ?_
              refine then_ ?_
              refine wp_seq ?_
              refine whole_ ?_
              have hLo : LOk [(0, 66, .val (.pointer (some ⟨g, 0, none⟩)))] := lok (by rfl) (by rfl)
              refine part_ (wE := ⟨w, []⟩) (sz := 92) (n := 7) 0 1 [0, 1, 3, 7, 15, 31, 63] [(0, .val (.slice (al0) (len0) (cap0))), (1, .val (.int .i64 ((ns : Int)))), (16, .val (.bool false)), (17, .val (.slice (al0) (len0) (cap0))), (18, .val (.int .i64 ((len0 : Int)))), (19, .val (.int .i64 ((len0 : Int)))), (5, .val (.int .i64 (((sumR l0 : Nat) : Int)))), (6, .val (.string (catR l0))), (20, .val (.bool false)), (44, .val (.bool false)), (9, .val (.pointer (some ⟨g, 0, none⟩))), (46, .val (.slice (al0) (len0) (cap0))), (47, .val (.int .i64 ((len0 : Int)))), (48, .val (.int .i64 ((len0 : Int)))), (49, .val (.bool false)), (12, .val (.int .i64 ((ns : Int)))), (59, .val (.bool false)), (66, .val (.pointer (some ⟨g, 0, none⟩)))] [(0, 66, .val (.pointer (some ⟨g, 0, none⟩)))] [⟨g, none, none, (), 6, spC ⟨catR l0, s2, false, len0 + ns, 0, 0⟩, spC ⟨catR l0, s2, false, len0 + ns, 0, 0⟩, 53⟩] rfl rfl (by rfl) HH14 rfl rfl hLo rfl HS14 (slS 0 rfl rfl (slS 1 rfl rfl (slS 2 rfl rfl (slS 3 rfl rfl (slS 4 rfl rfl (slS 5 rfl rfl (slS 6 rfl rfl (slS 7 rfl rfl (slS 8 rfl rfl (slS 9 rfl rfl (slS 10 rfl rfl (slS 11 rfl rfl (slS 12 rfl rfl (slS 13 rfl rfl (slS 14 rfl rfl (slS 15 rfl rfl (slS 16 rfl rfl (slL 0 (d := 0) rfl (trivial))))))))))))))))))) ?_ ?_
              · show ∀ i ∈ [0], _
                refine steps_cons (st_run 0 _ rfl rfl hLo rfl rfl (fun _ _ _ _ => rfl) (fun b G w hb ho => exec_move (.inl rfl) (ev_off rfl (HS14.get 10 rfl)))) ?_
                exact steps_nil
              clear hLo
              intro G a15 w15 hS hH
              have HS15 : Sl a15 92 [(0, .slice (al0) (len0) (cap0)), (1, .int .i64 ((ns : Int))), (16, .bool false), (17, .slice (al0) (len0) (cap0)), (18, .int .i64 ((len0 : Int))), (19, .int .i64 ((len0 : Int))), (5, .int .i64 (((sumR l0 : Nat) : Int))), (6, .string (catR l0)), (20, .bool false), (44, .bool false), (9, .pointer (some ⟨g, 0, none⟩)), (46, .slice (al0) (len0) (cap0)), (47, .int .i64 ((len0 : Int))), (48, .int .i64 ((len0 : Int))), (49, .bool false), (12, .int .i64 ((ns : Int))), (59, .bool false), (66, .pointer (some ⟨g, 0, none⟩))] := hS
              have HH15 : Held ⟨w, []⟩ w15 [⟨g, (), 6, spC ⟨catR l0, s2, false, len0 + ns, 0, 0⟩, 53⟩] := hH
              clear hS hH HS14 HH14
              have hrw1 := HH15.row 0 rfl
              have hlt1 := hrw1.lt
              refine cut_call _ rfl rfl rfl rfl Try.func10 rfl rfl (args1 (HS15.get 17 rfl)) (open_some (cutsR l0) (by have := catR_le l0; have := hI.z_len; omega) (recs_enR l0) hrw1) HS15 rfl ?_
              rintro e16 w16 ⟨⟨A1, c1, rfl, hT1⟩, hr1, hf1⟩
              refine ⟨_, rfl, fun a16 hS => ?_⟩
              have HS17 : Sl a16 92 [(67, .tuple #[.slice (A1) (l0.length) (c1), .int .i64 (0)]), (0, .slice (al0) (len0) (cap0)), (1, .int .i64 ((ns : Int))), (16, .bool false), (17, .slice (al0) (len0) (cap0)), (18, .int .i64 ((len0 : Int))), (19, .int .i64 ((len0 : Int))), (5, .int .i64 (((sumR l0 : Nat) : Int))), (6, .string (catR l0)), (20, .bool false), (44, .bool false), (9, .pointer (some ⟨g, 0, none⟩)), (46, .slice (al0) (len0) (cap0)), (47, .int .i64 ((len0 : Int))), (48, .int .i64 ((len0 : Int))), (49, .bool false), (12, .int .i64 ((ns : Int))), (59, .bool false), (66, .pointer (some ⟨g, 0, none⟩))] := hS
              have HH17 : Held ⟨w, []⟩ w16 [⟨g, (), 6, spC ⟨catR l0, min s2 (catR l0).size, false, len0 + ns, 0, 0⟩, 53⟩] := HH15.turn 0 rfl hf1 hr1
              clear hS
              skip
              have hB_18 := bel_over hB HH17.1 hB.size (fun x hx => by cases hx)
              have HH18 : Held ⟨w16, [g]⟩ w16 [⟨g, (), 6, spC ⟨catR l0, min s2 (catR l0).size, false, len0 + ns, 0, 0⟩, 53⟩] := HH17.anew
              have hLo : LOk [(2, 65, .val (.tuple #[.slice (A1) (l0.length) (c1), .int .i64 (0)])), (3, 68, .val (.slice (A1) (l0.length) (c1))), (4, 69, .val (.int .i64 (0))), (5, 13, .val (.slice (A1) (l0.length) (c1))), (6, 14, .val (.int .i64 (0)))] := lok (by rfl) (by rfl)
              refine part_ (wE := ⟨w16, [g]⟩) (sz := 92) (n := 7) 2 7 [0, 1, 3, 7, 15, 31, 63] [(0, .val (.slice (al0) (len0) (cap0))), (1, .val (.int .i64 ((ns : Int)))), (16, .val (.bool false)), (17, .val (.slice (al0) (len0) (cap0))), (18, .val (.int .i64 ((len0 : Int)))), (19, .val (.int .i64 ((len0 : Int)))), (5, .val (.int .i64 (((sumR l0 : Nat) : Int)))), (6, .val (.string (catR l0))), (20, .val (.bool false)), (44, .val (.bool false)), (9, .val (.pointer (some ⟨g, 0, none⟩))), (46, .val (.slice (al0) (len0) (cap0))), (47, .val (.int .i64 ((len0 : Int)))), (48, .val (.int .i64 ((len0 : Int)))), (49, .val (.bool false)), (12, .val (.int .i64 ((ns : Int)))), (59, .val (.bool false)), (13, .val (.slice (A1) (l0.length) (c1))), (14, .val (.int .i64 (0)))] [(2, 65, .val (.tuple #[.slice (A1) (l0.length) (c1), .int .i64 (0)])), (3, 68, .val (.slice (A1) (l0.length) (c1))), (4, 69, .val (.int .i64 (0))), (5, 13, .val (.slice (A1) (l0.length) (c1))), (6, 14, .val (.int .i64 (0)))] [⟨g, none, none, (), 6, spC ⟨catR l0, min s2 (catR l0).size, false, len0 + ns, 0, 0⟩, spC ⟨catR l0, min s2 (catR l0).size, false, len0 + ns, 0, 0⟩, 53⟩] rfl rfl (by rfl) HH18 rfl rfl hLo rfl HS17 (slS 1 rfl rfl (slS 2 rfl rfl (slS 3 rfl rfl (slS 4 rfl rfl (slS 5 rfl rfl (slS 6 rfl rfl (slS 7 rfl rfl (slS 8 rfl rfl (slS 9 rfl rfl (slS 10 rfl rfl (slS 11 rfl rfl (slS 12 rfl rfl (slS 13 rfl rfl (slS 14 rfl rfl (slS 15 rfl rfl (slS 16 rfl rfl (slS 17 rfl rfl (slL 3 (d := 5) rfl (slL 4 (d := 6) rfl (trivial)))))))))))))))))))) ?_ ?_
              · show ∀ i ∈ [2, 3, 4, 5, 6], _
                refine steps_cons (st_run 0 _ rfl rfl hLo rfl rfl (fun _ _ _ _ => rfl) (fun b G w hb ho => exec_move (.inl rfl) (ev_off rfl (HS17.get 0 rfl)))) ?_
                refine steps_cons (st_run 1 _ rfl rfl hLo rfl rfl (fun _ _ _ _ => rfl) (fun b G w hb ho => exec_extract rfl (ev_on hLo 0 rfl HS17.1 rfl (hb 2 (by rfl))) (by rfl))) ?_
                refine steps_cons (st_run 2 _ rfl rfl hLo rfl rfl (fun _ _ _ _ => rfl) (fun b G w hb ho => exec_extract rfl (ev_on hLo 0 rfl HS17.1 rfl (hb 2 (by rfl))) (by rfl))) ?_
                refine steps_cons (st_run 3 _ rfl rfl hLo rfl rfl (fun _ _ _ _ => rfl) (fun b G w hb ho => exec_move (.inr rfl) (ev_on hLo 1 rfl HS17.1 rfl (hb 3 (by rfl))))) ?_
                refine steps_cons (st_run 4 _ rfl rfl hLo rfl rfl (fun _ _ _ _ => rfl) (fun b G w hb ho => exec_move (.inr rfl) (ev_on hLo 2 rfl HS17.1 rfl (hb 4 (by rfl))))) ?_
                exact steps_nil
              clear hLo
              intro G a19 w19 hS hH
              have HS19 : Sl a19 92 [(0, .slice (al0) (len0) (cap0)), (1, .int .i64 ((ns : Int))), (16, .bool false), (17, .slice (al0) (len0) (cap0)), (18, .int .i64 ((len0 : Int))), (19, .int .i64 ((len0 : Int))), (5, .int .i64 (((sumR l0 : Nat) : Int))), (6, .string (catR l0)), (20, .bool false), (44, .bool false), (9, .pointer (some ⟨g, 0, none⟩)), (46, .slice (al0) (len0) (cap0)), (47, .int .i64 ((len0 : Int))), (48, .int .i64 ((len0 : Int))), (49, .bool false), (12, .int .i64 ((ns : Int))), (59, .bool false), (13, .slice (A1) (l0.length) (c1)), (14, .int .i64 (0))] := hS
              have HH19 : Held ⟨w16, [g]⟩ w19 [⟨g, (), 6, spC ⟨catR l0, min s2 (catR l0).size, false, len0 + ns, 0, 0⟩, 53⟩] := hH
              clear hS hH HS17 HH18
              refine end_ rfl ?_
              refine then_ ?_
              refine wp_seq ?_
              have hLo : LOk [(0, 70, .val (.pointer (some ⟨g, 0, none⟩))), (1, 71, .val (.string (catR l0))), (2, 72, .val (.string (catR l0))), (3, 73, .val (.bool true)), (4, 74, .val (.bool true)), (5, 75, .val (.pointer (some ⟨g, 0, none⟩))), (6, 76, .val (.int .i64 (((len0 + ns : Nat) : Int)))), (7, 77, .val (.slice (al0) (len0) (cap0))), (8, 78, .val (.int .i64 ((len0 : Int)))), (9, 79, .val (.int .i64 ((ns : Int)))), (10, 80, .val (.int .i64 (((len0 + ns : Nat) : Int)))), (11, 81, .val (.bool true)), (12, 82, .val (.bool true)), (13, 83, .val (.bool true)), (14, 84, .val (.int .i64 (0))), (15, 85, .val (.bool true)), (16, 86, .val (.bool true)), (17, 87, .val (.bool true)), (18, 88, .val (.slice (A1) (l0.length) (c1))), (19, 89, .val (.slice (al0) (len0) (cap0))), (20, 90, .val (.bool true)), (21, 91, .val (.bool true)), (22, 4, .val (.bool true))] := lok (by rfl) (by rfl)
              refine plain_ (wE := ⟨w16, [g]⟩) (sz := 92) (n := 23) [0, 1, 3, 7, 15, 31, 63, 127, 255, 511, 1023, 2047, 4095, 8191, 16383, 32767, 65535, 131071, 262143, 524287, 1048575, 2097151, 4194303] [(0, .val (.slice (al0) (len0) (cap0))), (1, .val (.int .i64 ((ns : Int)))), (16, .val (.bool false)), (17, .val (.slice (al0) (len0) (cap0))), (18, .val (.int .i64 ((len0 : Int)))), (19, .val (.int .i64 ((len0 : Int)))), (5, .val (.int .i64 (((sumR l0 : Nat) : Int)))), (6, .val (.string (catR l0))), (20, .val (.bool false)), (44, .val (.bool false)), (9, .val (.pointer (some ⟨g, 0, none⟩))), (46, .val (.slice (al0) (len0) (cap0))), (47, .val (.int .i64 ((len0 : Int)))), (48, .val (.int .i64 ((len0 : Int)))), (49, .val (.bool false)), (12, .val (.int .i64 ((ns : Int)))), (59, .val (.bool false)), (13, .val (.slice (A1) (l0.length) (c1))), (14, .val (.int .i64 (0))), (4, .val (.bool true))] [(0, 70, .val (.pointer (some ⟨g, 0, none⟩))), (1, 71, .val (.string (catR l0))), (2, 72, .val (.string (catR l0))), (3, 73, .val (.bool true)), (4, 74, .val (.bool true)), (5, 75, .val (.pointer (some ⟨g, 0, none⟩))), (6, 76, .val (.int .i64 (((len0 + ns : Nat) : Int)))), (7, 77, .val (.slice (al0) (len0) (cap0))), (8, 78, .val (.int .i64 ((len0 : Int)))), (9, 79, .val (.int .i64 ((ns : Int)))), (10, 80, .val (.int .i64 (((len0 + ns : Nat) : Int)))), (11, 81, .val (.bool true)), (12, 82, .val (.bool true)), (13, 83, .val (.bool true)), (14, 84, .val (.int .i64 (0))), (15, 85, .val (.bool true)), (16, 86, .val (.bool true)), (17, 87, .val (.bool true)), (18, 88, .val (.slice (A1) (l0.length) (c1))), (19, 89, .val (.slice (al0) (len0) (cap0))), (20, 90, .val (.bool true)), (21, 91, .val (.bool true)), (22, 4, .val (.bool true))] [⟨g, none, none, (), 6, spC ⟨catR l0, min s2 (catR l0).size, false, len0 + ns, 0, 0⟩, spC ⟨catR l0, min s2 (catR l0).size, false, len0 + ns, 0, 0⟩, 53⟩] rfl (by rfl) HH19 rfl rfl hLo rfl HS19 (slS 0 rfl rfl (slS 1 rfl rfl (slS 2 rfl rfl (slS 3 rfl rfl (slS 4 rfl rfl (slS 5 rfl rfl (slS 6 rfl rfl (slS 7 rfl rfl (slS 8 rfl rfl (slS 9 rfl rfl (slS 10 rfl rfl (slS 11 rfl rfl (slS 12 rfl rfl (slS 13 rfl rfl (slS 14 rfl rfl (slS 15 rfl rfl (slS 16 rfl rfl (slS 17 rfl rfl (slS 18 rfl rfl (slL 22 (d := 22) rfl (trivial))))))))))))))))))))) ?_ ?_
              · show ∀ i ∈ [0, 1, 2, 3, 4, 5, 6, 7, 8, 9, 10, 11, 12, 13, 14, 15, 16, 17, 18, 19, 20, 21, 22], _
                refine steps_cons (st_run 0 _ rfl rfl hLo rfl rfl (fun _ _ _ _ => rfl) (fun b G w hb ho => exec_move (.inl rfl) (ev_off rfl (HS19.get 10 rfl)))) ?_
                refine steps_cons (st_callRB 1 0 _ _ (fun G => #[.pointer (some ⟨g, 0, none⟩)]) rfl rfl rfl rfl (fun _ _ _ _ => rfl) hLo rfl rfl (by rfl) (by rfl) Try.func13 rfl rfl (fun b G hb ho => args1 (ev_on hLo 0 rfl HS19.1 rfl (hb 0 (by rfl)))) (fun G w hw hr => bytes_calls hr)) ?_
                refine steps_cons (st_run 2 _ rfl rfl hLo rfl rfl (fun _ _ _ _ => rfl) (fun b G w hb ho => exec_move (.inl rfl) (ev_off rfl (HS19.get 7 rfl)))) ?_
                refine steps_cons (st_run 3 _ rfl rfl hLo rfl rfl (fun _ _ _ _ => rfl) (fun b G w hb ho => exec_bin rfl (ev_on hLo 1 rfl HS19.1 rfl (hb 1 (by rfl))) (ev_on hLo 2 rfl HS19.1 rfl (hb 2 (by rfl))) (rb_seql (decide_eq_true rfl) _ _ _))) ?_
                refine steps_cons (st_run 4 _ rfl rfl hLo rfl rfl (fun _ _ _ _ => rfl) (fun b G w hb ho => exec_move (.inl rfl) (ev_on hLo 3 rfl HS19.1 rfl (hb 3 (by rfl))))) ?_
                refine steps_cons (st_run 5 _ rfl rfl hLo rfl rfl (fun b G hb ho => wanted_is rfl rfl rfl HS19.1 rfl (ev_on hLo 4 rfl HS19.1 rfl (hb 4 (by rfl))) rfl) (fun b G w hb ho => exec_move (.inl rfl) (ev_off rfl (HS19.get 10 rfl)))) ?_
                refine steps_cons (st_callRB 6 0 _ _ (fun G => #[.pointer (some ⟨g, 0, none⟩)]) rfl rfl rfl rfl (fun b G hb ho => wanted_is rfl rfl rfl HS19.1 rfl (ev_on hLo 4 rfl HS19.1 rfl (hb 4 (by rfl))) rfl) hLo rfl rfl (by rfl) (by rfl) Try.func14 rfl rfl (fun b G hb ho => args1 (ev_on hLo 5 rfl HS19.1 rfl (hb 5 (by rfl)))) (fun G w hw hr => acts_calls hr)) ?_
                refine steps_cons (st_run 7 _ rfl rfl hLo rfl rfl (fun b G hb ho => wanted_is rfl rfl rfl HS19.1 rfl (ev_on hLo 4 rfl HS19.1 rfl (hb 4 (by rfl))) rfl) (fun b G w hb ho => exec_move (.inl rfl) (ev_off rfl (HS19.get 0 rfl)))) ?_
                refine steps_cons (st_run 8 _ rfl rfl hLo rfl rfl (fun b G hb ho => wanted_is rfl rfl rfl HS19.1 rfl (ev_on hLo 4 rfl HS19.1 rfl (hb 4 (by rfl))) rfl) (fun b G w hb ho => exec_lenL Try.underlying25 rfl (ev_on hLo 7 rfl HS19.1 rfl (hb 7 (by rfl))))) ?_
                refine steps_cons (st_run 9 _ rfl rfl hLo rfl rfl (fun b G hb ho => wanted_is rfl rfl rfl HS19.1 rfl (ev_on hLo 4 rfl HS19.1 rfl (hb 4 (by rfl))) rfl) (fun b G w hb ho => exec_move (.inl rfl) (ev_off rfl (HS19.get 1 rfl)))) ?_
                refine steps_cons (st_run 10 _ rfl rfl hLo rfl rfl (fun b G hb ho => wanted_is rfl rfl rfl HS19.1 rfl (ev_on hLo 4 rfl HS19.1 rfl (hb 4 (by rfl))) rfl) (fun b G w hb ho => exec_bin rfl (ev_on hLo 8 rfl HS19.1 rfl (hb 8 (by rfl))) (ev_on hLo 9 rfl HS19.1 rfl (hb 9 (by rfl))) (rb_add (w_nat (by omega) (by omega)) _ _ _))) ?_
                refine steps_cons (st_run 11 _ rfl rfl hLo rfl rfl (fun b G hb ho => wanted_is rfl rfl rfl HS19.1 rfl (ev_on hLo 4 rfl HS19.1 rfl (hb 4 (by rfl))) rfl) (fun b G w hb ho => exec_bin rfl (ev_on hLo 6 rfl HS19.1 rfl (hb 6 (by rfl))) (ev_on hLo 10 rfl HS19.1 rfl (hb 10 (by rfl))) (rb_eql (beq_self_eq_true _) _ _ _))) ?_
                refine steps_cons (st_run 12 _ rfl rfl hLo rfl rfl (fun _ _ _ _ => rfl) (fun b G w hb ho => exec_pick rfl (ev_on hLo 4 rfl HS19.1 rfl (hb 4 (by rfl))) (ev_on hLo 11 rfl HS19.1 rfl (hb 11 (by rfl))))) ?_
                refine steps_cons (st_run 13 _ rfl rfl hLo rfl rfl (fun _ _ _ _ => rfl) (fun b G w hb ho => exec_move (.inl rfl) (ev_on hLo 12 rfl HS19.1 rfl (hb 12 (by rfl))))) ?_
                refine steps_cons (st_run 14 _ rfl rfl hLo rfl rfl (fun b G hb ho => wanted_is rfl rfl rfl HS19.1 rfl (ev_on hLo 13 rfl HS19.1 rfl (hb 13 (by rfl))) rfl) (fun b G w hb ho => exec_move (.inl rfl) (ev_off rfl (HS19.get 18 rfl)))) ?_
                refine steps_cons (st_run 15 _ rfl rfl hLo rfl rfl (fun b G hb ho => wanted_is rfl rfl rfl HS19.1 rfl (ev_on hLo 13 rfl HS19.1 rfl (hb 13 (by rfl))) rfl) (fun b G w hb ho => exec_bin rfl (ev_on hLo 14 rfl HS19.1 rfl (hb 14 (by rfl))) (rfl) (rb_eql (rfl) _ _ _))) ?_
                refine steps_cons (st_run 16 _ rfl rfl hLo rfl rfl (fun _ _ _ _ => rfl) (fun b G w hb ho => exec_pick rfl (ev_on hLo 13 rfl HS19.1 rfl (hb 13 (by rfl))) (ev_on hLo 15 rfl HS19.1 rfl (hb 15 (by rfl))))) ?_
                refine steps_cons (st_run 17 _ rfl rfl hLo rfl rfl (fun _ _ _ _ => rfl) (fun b G w hb ho => exec_move (.inl rfl) (ev_on hLo 16 rfl HS19.1 rfl (hb 16 (by rfl))))) ?_
                refine steps_cons (st_run 18 _ rfl rfl hLo rfl rfl (fun b G hb ho => wanted_is rfl rfl rfl HS19.1 rfl (ev_on hLo 17 rfl HS19.1 rfl (hb 17 (by rfl))) rfl) (fun b G w hb ho => exec_move (.inl rfl) (ev_off rfl (HS19.get 17 rfl)))) ?_
                refine steps_cons (st_run 19 _ rfl rfl hLo rfl rfl (fun b G hb ho => wanted_is rfl rfl rfl HS19.1 rfl (ev_on hLo 17 rfl HS19.1 rfl (hb 17 (by rfl))) rfl) (fun b G w hb ho => exec_move (.inl rfl) (ev_off rfl (HS19.get 0 rfl)))) ?_
                refine steps_cons (st_call 20 _ #[.slice (A1) (l0.length) (c1), .slice (al0) (len0) (cap0)] rfl rfl rfl (fun b G hb ho => wanted_is rfl rfl rfl HS19.1 rfl (ev_on hLo 17 rfl HS19.1 rfl (hb 17 (by rfl))) rfl) hLo rfl rfl Try.func12 rfl rfl (fun b G hb ho => args2 (ev_on hLo 18 rfl HS19.1 rfl (hb 18 (by rfl))) (ev_on hLo 19 rfl HS19.1 rfl (hb 19 (by rfl)))) (fun w hw => same_callsC (hT1.over hw (allLt1 (by omega))).C.1 (hT1.over hw (allLt1 (by omega))).C.2 (Kd.C_below hI.z_C (bel_over hB_18 hw hB_18.size (allLe1 (by omega)))) hI.z_cap (by have := hI.z_len; omega))) ?_
                refine steps_cons (st_run 21 _ rfl rfl hLo rfl rfl (fun _ _ _ _ => rfl) (fun b G w hb ho => exec_pick rfl (ev_on hLo 17 rfl HS19.1 rfl (hb 17 (by rfl))) (ev_on hLo 20 rfl HS19.1 rfl (hb 20 (by rfl))))) ?_
                refine steps_cons (st_run 22 _ rfl rfl hLo rfl rfl (fun _ _ _ _ => rfl) (fun b G w hb ho => exec_move (.inr rfl) (ev_on hLo 21 rfl HS19.1 rfl (hb 21 (by rfl))))) ?_
                exact steps_nil
              clear hLo
              intro G a20 w20 hS hH
              have HS20 : Sl a20 92 [(0, .slice (al0) (len0) (cap0)), (1, .int .i64 ((ns : Int))), (16, .bool false), (17, .slice (al0) (len0) (cap0)), (18, .int .i64 ((len0 : Int))), (19, .int .i64 ((len0 : Int))), (5, .int .i64 (((sumR l0 : Nat) : Int))), (6, .string (catR l0)), (20, .bool false), (44, .bool false), (9, .pointer (some ⟨g, 0, none⟩)), (46, .slice (al0) (len0) (cap0)), (47, .int .i64 ((len0 : Int))), (48, .int .i64 ((len0 : Int))), (49, .bool false), (12, .int .i64 ((ns : Int))), (59, .bool false), (13, .slice (A1) (l0.length) (c1)), (14, .int .i64 (0)), (4, .bool true)] := hS
              have HH20 : Held ⟨w16, [g]⟩ w20 [⟨g, (), 6, spC ⟨catR l0, min s2 (catR l0).size, false, len0 + ns, 0, 0⟩, 53⟩] := hH
              clear hS hH HS19 HH19
              refine then_ ?_
              refine wp_ret ?_
              repeat (first | refine then_ret ?_ | refine inBlock_ret' ?_)
              exact b_tmp rfl HS20.2.1 (HS20.get 19 rfl) ⟨rfl, bel_over hB_18 HH20.1 hB_18.size (allLe1 (by omega))⟩
            · skip
              have hltk : k < ns := by have := of_decide_eq_true hr6; omega
              refine wp_cond_true (HS14.get 16 rfl) ?_
              refine wp_skip ?_
              refine then_ ?_
              refine wp_seq ?_
              refine wp_block ?_
              refine wp_seq ?_
              have hLo : LOk [(0, 62, .val (.pointer (some ⟨g, 0, none⟩))), (1, 63, .val (.int .i64 (0))), (2, 64, .val (.bool false))] := lok (by rfl) (by rfl)
              refine plain_ (wE := ⟨w, []⟩) (sz := 92) (n := 3) [0, 1, 3] [(0, .val (.slice (al0) (len0) (cap0))), (1, .val (.int .i64 ((ns : Int)))), (16, .val (.bool false)), (17, .val (.slice (al0) (len0) (cap0))), (18, .val (.int .i64 ((len0 : Int)))), (19, .val (.int .i64 ((len0 : Int)))), (5, .val (.int .i64 (((sumR l0 : Nat) : Int)))), (6, .val (.string (catR l0))), (20, .val (.bool false)), (44, .val (.bool false)), (9, .val (.pointer (some ⟨g, 0, none⟩))), (46, .val (.slice (al0) (len0) (cap0))), (47, .val (.int .i64 ((len0 : Int)))), (48, .val (.int .i64 ((len0 : Int)))), (49, .val (.bool false)), (12, .val (.int .i64 ((k : Int)))), (59, .val (.bool true)), (64, .val (.bool false))] [(0, 62, .val (.pointer (some ⟨g, 0, none⟩))), (1, 63, .val (.int .i64 (0))), (2, 64, .val (.bool false))] [⟨g, none, some 1, (), 6, spC ⟨catR l0, s2, false, len0 + k, 0, 0⟩, spC ⟨catR l0, (catR l0).size, false, len0 + (k + 1), 0, 0⟩, 53⟩] rfl (by rfl) HH14 rfl rfl hLo rfl HS14 (slS 0 rfl rfl (slS 1 rfl rfl (slS 2 rfl rfl (slS 3 rfl rfl (slS 4 rfl rfl (slS 5 rfl rfl (slS 6 rfl rfl (slS 7 rfl rfl (slS 8 rfl rfl (slS 9 rfl rfl (slS 10 rfl rfl (slS 11 rfl rfl (slS 12 rfl rfl (slS 13 rfl rfl (slS 14 rfl rfl (slS 15 rfl rfl (slS 16 rfl rfl (slL 2 (d := 2) rfl (trivial))))))))))))))))))) ?_ ?_
              · show ∀ i ∈ [0, 1, 2], _
                refine steps_cons (st_run 0 _ rfl rfl hLo rfl rfl (fun _ _ _ _ => rfl) (fun b G w hb ho => exec_move (.inl rfl) (ev_off rfl (HS14.get 10 rfl)))) ?_
                refine steps_cons (st_callM 1 0 _ _ (fun G => #[.pointer (some ⟨g, 0, none⟩)]) rfl rfl rfl rfl rfl (fun _ _ _ _ => rfl) hLo rfl (by rfl) (by rfl) (by rfl) Try.func17 rfl rfl (fun b G hb ho => args1 (ev_on hLo 0 rfl HS14.1 rfl (hb 0 (by rfl)))) (fun G w hw hr => sync_stays hr (by omega) (by decide) (by decide))) ?_
                refine steps_cons (st_run 2 _ rfl rfl hLo rfl rfl (fun _ _ _ _ => rfl) (fun b G w hb ho => exec_bin rfl (ev_on hLo 1 rfl HS14.1 rfl (hb 1 (by rfl))) (rfl) (rb_neq (rfl) _ _ _))) ?_
                exact steps_nil
              clear hLo
              intro G a21 w21 hS hH
              have HS21 : Sl a21 92 [(0, .slice (al0) (len0) (cap0)), (1, .int .i64 ((ns : Int))), (16, .bool false), (17, .slice (al0) (len0) (cap0)), (18, .int .i64 ((len0 : Int))), (19, .int .i64 ((len0 : Int))), (5, .int .i64 (((sumR l0 : Nat) : Int))), (6, .string (catR l0)), (20, .bool false), (44, .bool false), (9, .pointer (some ⟨g, 0, none⟩)), (46, .slice (al0) (len0) (cap0)), (47, .int .i64 ((len0 : Int))), (48, .int .i64 ((len0 : Int))), (49, .bool false), (12, .int .i64 ((k : Int))), (59, .bool true), (64, .bool false)] := hS
              have HH21 : Held ⟨w, []⟩ w21 [⟨g, (), 6, spC ⟨catR l0, (catR l0).size, false, len0 + (k + 1), 0, 0⟩, 53⟩] := hH
              clear hS hH HS14 HH14
              refine then_ ?_
              refine wp_cond_false (HS21.get 17 rfl) ?_
              refine wp_skip ?_
              refine inBlock_normal ?_
              refine then_ ?_
              have hLo : LOk [(0, 60, .val (.int .i64 ((k : Int)))), (1, 61, .val (.int .i64 (((k + 1 : Nat) : Int)))), (2, 12, .val (.int .i64 (((k + 1 : Nat) : Int))))] := lok (by rfl) (by rfl)
              refine plain_ (wE := ⟨w, []⟩) (sz := 92) (n := 3) [0, 1, 3] [(0, .val (.slice (al0) (len0) (cap0))), (1, .val (.int .i64 ((ns : Int)))), (16, .val (.bool false)), (17, .val (.slice (al0) (len0) (cap0))), (18, .val (.int .i64 ((len0 : Int)))), (19, .val (.int .i64 ((len0 : Int)))), (5, .val (.int .i64 (((sumR l0 : Nat) : Int)))), (6, .val (.string (catR l0))), (20, .val (.bool false)), (44, .val (.bool false)), (9, .val (.pointer (some ⟨g, 0, none⟩))), (46, .val (.slice (al0) (len0) (cap0))), (47, .val (.int .i64 ((len0 : Int)))), (48, .val (.int .i64 ((len0 : Int)))), (49, .val (.bool false)), (59, .val (.bool true)), (64, .val (.bool false)), (12, .val (.int .i64 (((k + 1 : Nat) : Int))))] [(0, 60, .val (.int .i64 ((k : Int)))), (1, 61, .val (.int .i64 (((k + 1 : Nat) : Int)))), (2, 12, .val (.int .i64 (((k + 1 : Nat) : Int))))] [⟨g, none, none, (), 6, spC ⟨catR l0, (catR l0).size, false, len0 + (k + 1), 0, 0⟩, spC ⟨catR l0, (catR l0).size, false, len0 + (k + 1), 0, 0⟩, 53⟩] rfl (by rfl) HH21 rfl rfl hLo rfl HS21 (slS 0 rfl rfl (slS 1 rfl rfl (slS 2 rfl rfl (slS 3 rfl rfl (slS 4 rfl rfl (slS 5 rfl rfl (slS 6 rfl rfl (slS 7 rfl rfl (slS 8 rfl rfl (slS 9 rfl rfl (slS 10 rfl rfl (slS 11 rfl rfl (slS 12 rfl rfl (slS 13 rfl rfl (slS 14 rfl rfl (slS 16 rfl rfl (slS 17 rfl rfl (slL 2 (d := 2) rfl (trivial))))))))))))))))))) ?_ ?_
              · show ∀ i ∈ [0, 1, 2], _
                refine steps_cons (st_run 0 _ rfl rfl hLo rfl rfl (fun _ _ _ _ => rfl) (fun b G w hb ho => exec_move (.inl rfl) (ev_pre hLo 2 rfl (ho 2 (by rfl)) (HS21.get 15 rfl)))) ?_
                refine steps_cons (st_run 1 _ rfl rfl hLo rfl rfl (fun _ _ _ _ => rfl) (fun b G w hb ho => exec_bin rfl (ev_on hLo 0 rfl HS21.1 rfl (hb 0 (by rfl))) (rfl) (rb_add (w_nat (by omega) (by omega)) _ _ _))) ?_
                refine steps_cons (st_run 2 _ rfl rfl hLo rfl rfl (fun _ _ _ _ => rfl) (fun b G w hb ho => exec_move (.inr rfl) (ev_on hLo 1 rfl HS21.1 rfl (hb 1 (by rfl))))) ?_
                exact steps_nil
              clear hLo
              intro G a22 w22 hS hH
              have HS22 : Sl a22 92 [(0, .slice (al0) (len0) (cap0)), (1, .int .i64 ((ns : Int))), (16, .bool false), (17, .slice (al0) (len0) (cap0)), (18, .int .i64 ((len0 : Int))), (19, .int .i64 ((len0 : Int))), (5, .int .i64 (((sumR l0 : Nat) : Int))), (6, .string (catR l0)), (20, .bool false), (44, .bool false), (9, .pointer (some ⟨g, 0, none⟩)), (46, .slice (al0) (len0) (cap0)), (47, .int .i64 ((len0 : Int))), (48, .int .i64 ((len0 : Int))), (49, .bool false), (59, .bool true), (64, .bool false), (12, .int .i64 (((k + 1 : Nat) : Int)))] := hS
              have HH22 : Held ⟨w, []⟩ w22 [⟨g, (), 6, spC ⟨catR l0, (catR l0).size, false, len0 + (k + 1), 0, 0⟩, 53⟩] := hH
              clear hS hH HS21 HH21
              refine then_ ?_
              have hSq2' : Sl _ 92 [(0, .slice (al0) (len0) (cap0)), (1, .int .i64 ((ns : Int))), (16, .bool false), (17, .slice (al0) (len0) (cap0)), (18, .int .i64 ((len0 : Int))), (19, .int .i64 ((len0 : Int))), (5, .int .i64 (((sumR l0 : Nat) : Int))), (6, .string (catR l0)), (20, .bool false), (44, .bool false), (9, .pointer (some ⟨g, 0, none⟩)), (46, .slice (al0) (len0) (cap0)), (47, .int .i64 ((len0 : Int))), (48, .int .i64 ((len0 : Int))), (49, .bool false), (12, .int .i64 (((k + 1 : Nat) : Int)))] := sl_keep HS22 [0, 1, 2, 3, 4, 5, 6, 7, 8, 9, 10, 11, 12, 13, 14, 17] (by rfl)
              have hHq2' : Held ⟨w, []⟩ _ [⟨g, (), 6, spC ⟨catR l0, (catR l0).size, false, len0 + (k + 1), 0, 0⟩, 53⟩] := held_keep HH22 1 rfl
              exact ⟨⟨k + 1, (catR l0).size, by omega, hSq2', hHq2'⟩, by rw [(hSq2'.get 15 rfl)]; show ns - (((k + 1 : Nat) : Int)).toNat < ns - k; omega⟩
          · skip
            have hltj : j < len0 := by have := of_decide_eq_true hr5; omega
            obtain ⟨y, hy⟩ : ∃ x, l0[j]? = some x := ⟨_, List.getElem?_eq_getElem (by rw [hI.z_len]; exact hltj)⟩
            obtain ⟨ady, hady, hcelly⟩ := c_cell hI.z_C hy
            have hmy := List.mem_of_getElem? hy
            have hsy : y.size ≤ 140737488351232 := hI.z_ok y hmy
            refine wp_cond_true (HS12.get 14 rfl) ?_
            refine wp_skip ?_
            refine then_ ?_
            refine wp_seq ?_
            refine wp_block ?_
            refine wp_seq ?_
            have hLo : LOk [(0, 50, .val (.pointer (some (ady.add (j * 1))))), (1, 51, .val (.string (y))), (2, 11, .val (.string (y)))] := lok (by rfl) (by rfl)
            refine plain_ (wE := ⟨w, []⟩) (sz := 92) (n := 3) [0, 1, 3] [(0, .val (.slice (al0) (len0) (cap0))), (1, .val (.int .i64 ((ns : Int)))), (16, .val (.bool false)), (17, .val (.slice (al0) (len0) (cap0))), (18, .val (.int .i64 ((len0 : Int)))), (19, .val (.int .i64 ((len0 : Int)))), (5, .val (.int .i64 (((sumR l0 : Nat) : Int)))), (6, .val (.string (catR l0))), (20, .val (.bool false)), (44, .val (.bool false)), (9, .val (.pointer (some ⟨g, 0, none⟩))), (46, .val (.slice (al0) (len0) (cap0))), (47, .val (.int .i64 ((len0 : Int)))), (48, .val (.int .i64 ((j : Int)))), (49, .val (.bool true)), (11, .val (.string (y)))] [(0, 50, .val (.pointer (some (ady.add (j * 1))))), (1, 51, .val (.string (y))), (2, 11, .val (.string (y)))] [⟨g, none, none, (), 6, spC ⟨catR (l0.take j), 0, false, j, 0, 0⟩, spC ⟨catR (l0.take j), 0, false, j, 0, 0⟩, 53⟩] rfl (by rfl) HH12 rfl rfl hLo rfl HS12 (slS 0 rfl rfl (slS 1 rfl rfl (slS 2 rfl rfl (slS 3 rfl rfl (slS 4 rfl rfl (slS 5 rfl rfl (slS 6 rfl rfl (slS 7 rfl rfl (slS 8 rfl rfl (slS 9 rfl rfl (slS 10 rfl rfl (slS 11 rfl rfl (slS 12 rfl rfl (slS 13 rfl rfl (slS 14 rfl rfl (slL 2 (d := 2) rfl (trivial))))))))))))))))) ?_ ?_
            · show ∀ i ∈ [0, 1, 2], _
              refine steps_cons (st_run 0 _ rfl rfl hLo rfl rfl (fun _ _ _ _ => rfl) (fun b G w hb ho => exec_indexAddr rfl (ev_off rfl (HS12.get 11 rfl)) (ev_off rfl (HS12.get 13 rfl)) (index_sl Try.underlying25 (by kernel_rfl) hady hltj _))) ?_
              refine steps_cons (st_at1 1 (ady.add (j * 1)) _ rfl rfl rfl (fun _ _ _ _ => rfl) hLo rfl rfl Try.underlying9 rfl (wxc hcelly rfl (Below.refl _ w) (fun x hx => by cases hx)) (fun b G hb ho => ev_on hLo 0 rfl HS12.1 rfl (hb 0 (by rfl)))) ?_
              refine steps_cons (st_run 2 _ rfl rfl hLo rfl rfl (fun _ _ _ _ => rfl) (fun b G w hb ho => exec_move (.inr rfl) (ev_on hLo 1 rfl HS12.1 rfl (hb 1 (by rfl))))) ?_
              exact steps_nil
            clear hLo
            intro G a23 w23 hS hH
            have HS23 : Sl a23 92 [(0, .slice (al0) (len0) (cap0)), (1, .int .i64 ((ns : Int))), (16, .bool false), (17, .slice (al0) (len0) (cap0)), (18, .int .i64 ((len0 : Int))), (19, .int .i64 ((len0 : Int))), (5, .int .i64 (((sumR l0 : Nat) : Int))), (6, .string (catR l0)), (20, .bool false), (44, .bool false), (9, .pointer (some ⟨g, 0, none⟩)), (46, .slice (al0) (len0) (cap0)), (47, .int .i64 ((len0 : Int))), (48, .int .i64 ((j : Int))), (49, .bool true), (11, .string (y))] := hS
            have HH23 : Held ⟨w, []⟩ w23 [⟨g, (), 6, spC ⟨catR (l0.take j), 0, false, j, 0, 0⟩, 53⟩] := hH
            clear hS hH HS12 HH12
            refine then_ ?_
            refine wp_seq ?_
            have hLo : LOk [(0, 52, .val (.pointer (some ⟨g, 0, none⟩))), (1, 53, .val (.string (y))), (2, 54, .val (.int .i64 (0))), (3, 55, .val (.bool false))] := lok (by rfl) (by rfl)
            refine plain_ (wE := ⟨w, []⟩) (sz := 92) (n := 4) [0, 1, 3, 7] [(0, .val (.slice (al0) (len0) (cap0))), (1, .val (.int .i64 ((ns : Int)))), (16, .val (.bool false)), (17, .val (.slice (al0) (len0) (cap0))), (18, .val (.int .i64 ((len0 : Int)))), (19, .val (.int .i64 ((len0 : Int)))), (5, .val (.int .i64 (((sumR l0 : Nat) : Int)))), (6, .val (.string (catR l0))), (20, .val (.bool false)), (44, .val (.bool false)), (9, .val (.pointer (some ⟨g, 0, none⟩))), (46, .val (.slice (al0) (len0) (cap0))), (47, .val (.int .i64 ((len0 : Int)))), (48, .val (.int .i64 ((j : Int)))), (49, .val (.bool true)), (11, .val (.string (y))), (55, .val (.bool false))] [(0, 52, .val (.pointer (some ⟨g, 0, none⟩))), (1, 53, .val (.string (y))), (2, 54, .val (.int .i64 (0))), (3, 55, .val (.bool false))] [⟨g, none, some 2, (), 6, spC ⟨catR (l0.take j), 0, false, j, 0, 0⟩, spC ⟨catR (l0.take j) ++ lineS y, 0, false, j + 1, 0, 0⟩, 53⟩] rfl (by rfl) HH23 rfl rfl hLo rfl HS23 (slS 0 rfl rfl (slS 1 rfl rfl (slS 2 rfl rfl (slS 3 rfl rfl (slS 4 rfl rfl (slS 5 rfl rfl (slS 6 rfl rfl (slS 7 rfl rfl (slS 8 rfl rfl (slS 9 rfl rfl (slS 10 rfl rfl (slS 11 rfl rfl (slS 12 rfl rfl (slS 13 rfl rfl (slS 14 rfl rfl (slS 15 rfl rfl (slL 3 (d := 3) rfl (trivial)))))))))))))))))) ?_ ?_
            · show ∀ i ∈ [0, 1, 2, 3], _
              refine steps_cons (st_run 0 _ rfl rfl hLo rfl rfl (fun _ _ _ _ => rfl) (fun b G w hb ho => exec_move (.inl rfl) (ev_off rfl (HS23.get 10 rfl)))) ?_
              refine steps_cons (st_run 1 _ rfl rfl hLo rfl rfl (fun _ _ _ _ => rfl) (fun b G w hb ho => exec_move (.inl rfl) (ev_off rfl (HS23.get 15 rfl)))) ?_
              refine steps_cons (st_callM 2 0 _ _ (fun G => #[.pointer (some ⟨g, 0, none⟩), .string (y)]) rfl rfl rfl rfl rfl (fun _ _ _ _ => rfl) hLo rfl (by rfl) (by rfl) (by rfl) Try.func16 rfl rfl (fun b G hb ho => args2 (ev_on hLo 0 rfl HS23.1 rfl (hb 0 (by rfl))) (ev_on hLo 1 rfl HS23.1 rfl (hb 1 (by rfl)))) (fun G w hw hr => app_stays hr (by have := sumR_mem hmy; omega) (by have := encLen_le y.size; have := catR_take l0 j; have := sumR_mem hmy; have := hI.z_len; omega) (by omega) (by decide) (by decide))) ?_
              refine steps_cons (st_run 3 _ rfl rfl hLo rfl rfl (fun _ _ _ _ => rfl) (fun b G w hb ho => exec_bin rfl (ev_on hLo 2 rfl HS23.1 rfl (hb 2 (by rfl))) (rfl) (rb_neq (rfl) _ _ _))) ?_
              exact steps_nil
            clear hLo
            intro G a24 w24 hS hH
            have HS24 : Sl a24 92 [(0, .slice (al0) (len0) (cap0)), (1, .int .i64 ((ns : Int))), (16, .bool false), (17, .slice (al0) (len0) (cap0)), (18, .int .i64 ((len0 : Int))), (19, .int .i64 ((len0 : Int))), (5, .int .i64 (((sumR l0 : Nat) : Int))), (6, .string (catR l0)), (20, .bool false), (44, .bool false), (9, .pointer (some ⟨g, 0, none⟩)), (46, .slice (al0) (len0) (cap0)), (47, .int .i64 ((len0 : Int))), (48, .int .i64 ((j : Int))), (49, .bool true), (11, .string (y)), (55, .bool false)] := hS
            have HH24 : Held ⟨w, []⟩ w24 [⟨g, (), 6, spC ⟨catR (l0.take j) ++ lineS y, 0, false, j + 1, 0, 0⟩, 53⟩] := hH
            clear hS hH HS23 HH23
            refine then_ ?_
            refine wp_cond_false (HS24.get 16 rfl) ?_
            refine wp_skip ?_
            refine inBlock_normal ?_
            refine then_ ?_
            have hLo : LOk [(0, 56, .val (.int .i64 (((j + 1 : Nat) : Int)))), (1, 48, .val (.int .i64 (((j + 1 : Nat) : Int))))] := lok (by rfl) (by rfl)
            refine plain_ (wE := ⟨w, []⟩) (sz := 92) (n := 2) [0, 1] [(0, .val (.slice (al0) (len0) (cap0))), (1, .val (.int .i64 ((ns : Int)))), (16, .val (.bool false)), (17, .val (.slice (al0) (len0) (cap0))), (18, .val (.int .i64 ((len0 : Int)))), (19, .val (.int .i64 ((len0 : Int)))), (5, .val (.int .i64 (((sumR l0 : Nat) : Int)))), (6, .val (.string (catR l0))), (20, .val (.bool false)), (44, .val (.bool false)), (9, .val (.pointer (some ⟨g, 0, none⟩))), (46, .val (.slice (al0) (len0) (cap0))), (47, .val (.int .i64 ((len0 : Int)))), (49, .val (.bool true)), (11, .val (.string (y))), (55, .val (.bool false)), (48, .val (.int .i64 (((j + 1 : Nat) : Int))))] [(0, 56, .val (.int .i64 (((j + 1 : Nat) : Int)))), (1, 48, .val (.int .i64 (((j + 1 : Nat) : Int))))] [⟨g, none, none, (), 6, spC ⟨catR (l0.take j) ++ lineS y, 0, false, j + 1, 0, 0⟩, spC ⟨catR (l0.take j) ++ lineS y, 0, false, j + 1, 0, 0⟩, 53⟩] rfl (by rfl) HH24 rfl rfl hLo rfl HS24 (slS 0 rfl rfl (slS 1 rfl rfl (slS 2 rfl rfl (slS 3 rfl rfl (slS 4 rfl rfl (slS 5 rfl rfl (slS 6 rfl rfl (slS 7 rfl rfl (slS 8 rfl rfl (slS 9 rfl rfl (slS 10 rfl rfl (slS 11 rfl rfl (slS 12 rfl rfl (slS 14 rfl rfl (slS 15 rfl rfl (slS 16 rfl rfl (slL 1 (d := 1) rfl (trivial)))))))))))))))))) ?_ ?_
            · show ∀ i ∈ [0, 1], _
              refine steps_cons (st_run 0 _ rfl rfl hLo rfl rfl (fun _ _ _ _ => rfl) (fun b G w hb ho => exec_bin rfl (ev_pre hLo 1 rfl (ho 1 (by rfl)) (HS24.get 13 rfl)) (rfl) (rb_add (w_nat (by omega) (by omega)) _ _ _))) ?_
              refine steps_cons (st_run 1 _ rfl rfl hLo rfl rfl (fun _ _ _ _ => rfl) (fun b G w hb ho => exec_move (.inl rfl) (ev_on hLo 0 rfl HS24.1 rfl (hb 0 (by rfl))))) ?_
              exact steps_nil
            clear hLo
            intro G a25 w25 hS hH
            have HS25 : Sl a25 92 [(0, .slice (al0) (len0) (cap0)), (1, .int .i64 ((ns : Int))), (16, .bool false), (17, .slice (al0) (len0) (cap0)), (18, .int .i64 ((len0 : Int))), (19, .int .i64 ((len0 : Int))), (5, .int .i64 (((sumR l0 : Nat) : Int))), (6, .string (catR l0)), (20, .bool false), (44, .bool false), (9, .pointer (some ⟨g, 0, none⟩)), (46, .slice (al0) (len0) (cap0)), (47, .int .i64 ((len0 : Int))), (49, .bool true), (11, .string (y)), (55, .bool false), (48, .int .i64 (((j + 1 : Nat) : Int)))] := hS
            have HH25 : Held ⟨w, []⟩ w25 [⟨g, (), 6, spC ⟨catR (l0.take j) ++ lineS y, 0, false, j + 1, 0, 0⟩, 53⟩] := hH
            clear hS hH HS24 HH24
            refine then_ ?_
            have hSq1' : Sl _ 92 [(0, .slice (al0) (len0) (cap0)), (1, .int .i64 ((ns : Int))), (16, .bool false), (17, .slice (al0) (len0) (cap0)), (18, .int .i64 ((len0 : Int))), (19, .int .i64 ((len0 : Int))), (5, .int .i64 (((sumR l0 : Nat) : Int))), (6, .string (catR l0)), (20, .bool false), (44, .bool false), (9, .pointer (some ⟨g, 0, none⟩)), (46, .slice (al0) (len0) (cap0)), (47, .int .i64 ((len0 : Int))), (48, .int .i64 (((j + 1 : Nat) : Int)))] := sl_keep HS25 [0, 1, 2, 3, 4, 5, 6, 7, 8, 9, 10, 11, 12, 16] (by rfl)
            have hHq1' : Held ⟨w, []⟩ _ [⟨g, (), 6, spC ⟨catR (l0.take j) ++ lineS y, 0, false, j + 1, 0, 0⟩, 53⟩] := held_keep HH25 1 rfl
            have e2 := catR_step hy
            rw [← e2] at hHq1'
            exact ⟨⟨j + 1, by omega, hSq1', hHq1'⟩, by rw [(hSq1'.get 13 rfl)]; show len0 - (((j + 1 : Nat) : Int)).toNat < len0 - j; omega⟩
        · skip
          refine wp_cond_true (HS7.get 9 rfl) ?_
          refine wp_seq ?_
          have hLo : LOk [(0, 4, .val (.bool true))] := lok (by rfl) (by rfl)
          refine plain_ (wE := ⟨w, []⟩) (sz := 92) (n := 1) [0] [(0, .val (.slice (al0) (len0) (cap0))), (1, .val (.int .i64 (sy))), (16, .val (.bool false)), (17, .val (.slice (al0) (len0) (cap0))), (18, .val (.int .i64 ((len0 : Int)))), (19, .val (.int .i64 ((len0 : Int)))), (5, .val (.int .i64 (((sumR l0 : Nat) : Int)))), (6, .val (.string (catR l0))), (20, .val (.bool false)), (44, .val (.bool true)), (4, .val (.bool true))] [(0, 4, .val (.bool true))] [] rfl (by rfl) HH7 rfl rfl hLo rfl HS7 (slS 0 rfl rfl (slS 1 rfl rfl (slS 2 rfl rfl (slS 3 rfl rfl (slS 4 rfl rfl (slS 5 rfl rfl (slS 6 rfl rfl (slS 7 rfl rfl (slS 8 rfl rfl (slS 9 rfl rfl (slL 0 (d := 0) rfl (trivial)))))))))))) ?_ ?_
          · show ∀ i ∈ [0], _
            refine steps_cons (st_run 0 _ rfl rfl hLo rfl rfl (fun _ _ _ _ => rfl) (fun b G w hb ho => exec_move (.inr rfl) (rfl))) ?_
            exact steps_nil
          clear hLo
          intro G a26 w26 hS hH
          have HS26 : Sl a26 92 [(0, .slice (al0) (len0) (cap0)), (1, .int .i64 (sy)), (16, .bool false), (17, .slice (al0) (len0) (cap0)), (18, .int .i64 ((len0 : Int))), (19, .int .i64 ((len0 : Int))), (5, .int .i64 (((sumR l0 : Nat) : Int))), (6, .string (catR l0)), (20, .bool false), (44, .bool true), (4, .bool true)] := hS
          have HH26 : Held ⟨w, []⟩ w26 [] := hH
          clear hS hH HS7 HH7
          refine then_ ?_
          refine wp_ret ?_
          repeat (first | refine then_ret ?_ | refine inBlock_ret' ?_)
          exact b_tmp rfl HS26.2.1 (HS26.get 10 rfl) ⟨rfl, bel_over hB HH26.1 hB.size (fun x hx => by cases hx)⟩
      · skip
        refine wp_seq ?_
        have hLo : LOk [(0, 34, .val (.slice (al0) (len0) (cap0))), (1, 35, .val (.int .i64 ((len0 : Int)))), (2, 36, .val (.bool false)), (3, 37, .val (.bool false)), (4, 38, .val (.int .i64 (sy))), (5, 39, .val (.bool true)), (6, 40, .val (.bool true)), (7, 41, .val (.bool true)), (8, 42, .val (undef)), (9, 43, .val (undef)), (10, 44, .val (.bool true))] := lok (by rfl) (by rfl)
        refine plain_ (wE := ⟨w, []⟩) (sz := 92) (n := 11) [0, 1, 3, 7, 15, 31, 63, 127, 255, 511, 1023] [(0, .val (.slice (al0) (len0) (cap0))), (1, .val (.int .i64 (sy))), (16, .val (.bool false)), (17, .val (.slice (al0) (len0) (cap0))), (18, .val (.int .i64 ((len0 : Int)))), (19, .val (.int .i64 ((len0 : Int)))), (5, .val (.int .i64 (((sumR l0 : Nat) : Int)))), (6, .val (.string (catR l0))), (20, .val (.bool false)), (44, .val (.bool true))] [(0, 34, .val (.slice (al0) (len0) (cap0))), (1, 35, .val (.int .i64 ((len0 : Int)))), (2, 36, .val (.bool false)), (3, 37, .val (.bool false)), (4, 38, .val (.int .i64 (sy))), (5, 39, .val (.bool true)), (6, 40, .val (.bool true)), (7, 41, .val (.bool true)), (8, 42, .val (undef)), (9, 43, .val (undef)), (10, 44, .val (.bool true))] [] rfl (by rfl) HH6 rfl rfl hLo rfl HS6 (slS 0 rfl rfl (slS 1 rfl rfl (slS 2 rfl rfl (slS 3 rfl rfl (slS 4 rfl rfl (slS 5 rfl rfl (slS 6 rfl rfl (slS 7 rfl rfl (slS 8 rfl rfl (slL 10 (d := 10) rfl (trivial))))))))))) ?_ ?_
        · show ∀ i ∈ [0, 1, 2, 3, 4, 5, 6, 7, 8, 9, 10], _
          refine steps_cons (st_run 0 _ rfl rfl hLo rfl rfl (fun _ _ _ _ => rfl) (fun b G w hb ho => exec_move (.inl rfl) (ev_off rfl (HS6.get 0 rfl)))) ?_
          refine steps_cons (st_run 1 _ rfl rfl hLo rfl rfl (fun _ _ _ _ => rfl) (fun b G w hb ho => exec_lenL Try.underlying25 rfl (ev_on hLo 0 rfl HS6.1 rfl (hb 0 (by rfl))))) ?_
          refine steps_cons (st_run 2 _ rfl rfl hLo rfl rfl (fun _ _ _ _ => rfl) (fun b G w hb ho => exec_bin rfl (ev_on hLo 1 rfl HS6.1 rfl (hb 1 (by rfl))) (rfl) (rb_gtr hr2 _ _ _))) ?_
          refine steps_cons (st_run 3 _ rfl rfl hLo rfl rfl (fun _ _ _ _ => rfl) (fun b G w hb ho => exec_move (.inl rfl) (ev_on hLo 2 rfl HS6.1 rfl (hb 2 (by rfl))))) ?_
          refine steps_cons (st_run 4 _ rfl rfl hLo rfl rfl (fun b G hb ho => wanted_is rfl rfl rfl HS6.1 rfl (ev_on hLo 3 rfl HS6.1 rfl (hb 3 (by rfl))) rfl) (fun b G w hb ho => exec_move (.inl rfl) (ev_off rfl (HS6.get 1 rfl)))) ?_
          refine steps_cons (st_run 5 _ rfl rfl hLo rfl rfl (fun b G hb ho => wanted_is rfl rfl rfl HS6.1 rfl (ev_on hLo 3 rfl HS6.1 rfl (hb 3 (by rfl))) rfl) (fun b G w hb ho => exec_bin rfl (ev_on hLo 4 rfl HS6.1 rfl (hb 4 (by rfl))) (rfl) (rb_lss hr3 _ _ _))) ?_
          refine steps_cons (st_run 6 _ rfl rfl hLo rfl rfl (fun _ _ _ _ => rfl) (fun b G w hb ho => exec_pick rfl (ev_on hLo 3 rfl HS6.1 rfl (hb 3 (by rfl))) (ev_on hLo 5 rfl HS6.1 rfl (hb 5 (by rfl))))) ?_
          refine steps_cons (st_run 7 _ rfl rfl hLo rfl rfl (fun _ _ _ _ => rfl) (fun b G w hb ho => exec_move (.inl rfl) (ev_on hLo 6 rfl HS6.1 rfl (hb 6 (by rfl))))) ?_
          refine steps_cons (st_skip 8 rfl rfl hLo rfl rfl (fun b G hb ho => wanted_is rfl rfl rfl HS6.1 rfl (ev_on hLo 7 rfl HS6.1 rfl (hb 7 (by rfl))) rfl)) ?_
          refine steps_cons (st_skip 9 rfl rfl hLo rfl rfl (fun b G hb ho => wanted_is rfl rfl rfl HS6.1 rfl (ev_on hLo 7 rfl HS6.1 rfl (hb 7 (by rfl))) rfl)) ?_
          refine steps_cons (st_run 10 _ rfl rfl hLo rfl rfl (fun _ _ _ _ => rfl) (fun b G w hb ho => exec_pick rfl (ev_on hLo 7 rfl HS6.1 rfl (hb 7 (by rfl))) (rfl))) ?_
          exact steps_nil
        clear hLo
        intro G a27 w27 hS hH
        have HS27 : Sl a27 92 [(0, .slice (al0) (len0) (cap0)), (1, .int .i64 (sy)), (16, .bool false), (17, .slice (al0) (len0) (cap0)), (18, .int .i64 ((len0 : Int))), (19, .int .i64 ((len0 : Int))), (5, .int .i64 (((sumR l0 : Nat) : Int))), (6, .string (catR l0)), (20, .bool false), (44, .bool true)] := hS
        have HH27 : Held ⟨w, []⟩ w27 [] := hH
        clear hS hH HS6 HH6
        refine then_ ?_
        refine wp_cond_true (HS27.get 9 rfl) ?_
        refine wp_seq ?_
        have hLo : LOk [(0, 4, .val (.bool true))] := lok (by rfl) (by rfl)
        refine plain_ (wE := ⟨w, []⟩) (sz := 92) (n := 1) [0] [(0, .val (.slice (al0) (len0) (cap0))), (1, .val (.int .i64 (sy))), (16, .val (.bool false)), (17, .val (.slice (al0) (len0) (cap0))), (18, .val (.int .i64 ((len0 : Int)))), (19, .val (.int .i64 ((len0 : Int)))), (5, .val (.int .i64 (((sumR l0 : Nat) : Int)))), (6, .val (.string (catR l0))), (20, .val (.bool false)), (44, .val (.bool true)), (4, .val (.bool true))] [(0, 4, .val (.bool true))] [] rfl (by rfl) HH27 rfl rfl hLo rfl HS27 (slS 0 rfl rfl (slS 1 rfl rfl (slS 2 rfl rfl (slS 3 rfl rfl (slS 4 rfl rfl (slS 5 rfl rfl (slS 6 rfl rfl (slS 7 rfl rfl (slS 8 rfl rfl (slS 9 rfl rfl (slL 0 (d := 0) rfl (trivial)))))))))))) ?_ ?_
        · show ∀ i ∈ [0], _
          refine steps_cons (st_run 0 _ rfl rfl hLo rfl rfl (fun _ _ _ _ => rfl) (fun b G w hb ho => exec_move (.inr rfl) (rfl))) ?_
          exact steps_nil
        clear hLo
        intro G a28 w28 hS hH
        have HS28 : Sl a28 92 [(0, .slice (al0) (len0) (cap0)), (1, .int .i64 (sy)), (16, .bool false), (17, .slice (al0) (len0) (cap0)), (18, .int .i64 ((len0 : Int))), (19, .int .i64 ((len0 : Int))), (5, .int .i64 (((sumR l0 : Nat) : Int))), (6, .string (catR l0)), (20, .bool false), (44, .bool true), (4, .bool true)] := hS
        have HH28 : Held ⟨w, []⟩ w28 [] := hH
        clear hS hH HS27 HH27
        refine then_ ?_
        refine wp_ret ?_
        repeat (first | refine then_ret ?_ | refine inBlock_ret' ?_)
        exact b_tmp rfl HS28.2.1 (HS28.get 10 rfl) ⟨rfl, bel_over hB HH28.1 hB.size (fun x hx => by cases hx)⟩
    · skip
      refine wp_seq ?_
      have hLo : LOk [(0, 34, .val (.slice (al0) (len0) (cap0))), (1, 35, .val (.int .i64 ((len0 : Int)))), (2, 36, .val (.bool true)), (3, 37, .val (.bool true)), (4, 38, .val (undef)), (5, 39, .val (undef)), (6, 40, .val (.bool true)), (7, 41, .val (.bool true)), (8, 42, .val (undef)), (9, 43, .val (undef)), (10, 44, .val (.bool true))] := lok (by rfl) (by rfl)
      refine plain_ (wE := ⟨w, []⟩) (sz := 92) (n := 11) [0, 1, 3, 7, 15, 31, 63, 127, 255, 511, 1023] [(0, .val (.slice (al0) (len0) (cap0))), (1, .val (.int .i64 (sy))), (16, .val (.bool false)), (17, .val (.slice (al0) (len0) (cap0))), (18, .val (.int .i64 ((len0 : Int)))), (19, .val (.int .i64 ((len0 : Int)))), (5, .val (.int .i64 (((sumR l0 : Nat) : Int)))), (6, .val (.string (catR l0))), (20, .val (.bool false)), (44, .val (.bool true))] [(0, 34, .val (.slice (al0) (len0) (cap0))), (1, 35, .val (.int .i64 ((len0 : Int)))), (2, 36, .val (.bool true)), (3, 37, .val (.bool true)), (4, 38, .val (undef)), (5, 39, .val (undef)), (6, 40, .val (.bool true)), (7, 41, .val (.bool true)), (8, 42, .val (undef)), (9, 43, .val (undef)), (10, 44, .val (.bool true))] [] rfl (by rfl) HH6 rfl rfl hLo rfl HS6 (slS 0 rfl rfl (slS 1 rfl rfl (slS 2 rfl rfl (slS 3 rfl rfl (slS 4 rfl rfl (slS 5 rfl rfl (slS 6 rfl rfl (slS 7 rfl rfl (slS 8 rfl rfl (slL 10 (d := 10) rfl (trivial))))))))))) ?_ ?_
      · show ∀ i ∈ [0, 1, 2, 3, 4, 5, 6, 7, 8, 9, 10], _
        refine steps_cons (st_run 0 _ rfl rfl hLo rfl rfl (fun _ _ _ _ => rfl) (fun b G w hb ho => exec_move (.inl rfl) (ev_off rfl (HS6.get 0 rfl)))) ?_
        refine steps_cons (st_run 1 _ rfl rfl hLo rfl rfl (fun _ _ _ _ => rfl) (fun b G w hb ho => exec_lenL Try.underlying25 rfl (ev_on hLo 0 rfl HS6.1 rfl (hb 0 (by rfl))))) ?_
        refine steps_cons (st_run 2 _ rfl rfl hLo rfl rfl (fun _ _ _ _ => rfl) (fun b G w hb ho => exec_bin rfl (ev_on hLo 1 rfl HS6.1 rfl (hb 1 (by rfl))) (rfl) (rb_gtr hr2 _ _ _))) ?_
        refine steps_cons (st_run 3 _ rfl rfl hLo rfl rfl (fun _ _ _ _ => rfl) (fun b G w hb ho => exec_move (.inl rfl) (ev_on hLo 2 rfl HS6.1 rfl (hb 2 (by rfl))))) ?_
        refine steps_cons (st_skip 4 rfl rfl hLo rfl rfl (fun b G hb ho => wanted_is rfl rfl rfl HS6.1 rfl (ev_on hLo 3 rfl HS6.1 rfl (hb 3 (by rfl))) rfl)) ?_
        refine steps_cons (st_skip 5 rfl rfl hLo rfl rfl (fun b G hb ho => wanted_is rfl rfl rfl HS6.1 rfl (ev_on hLo 3 rfl HS6.1 rfl (hb 3 (by rfl))) rfl)) ?_
        refine steps_cons (st_run 6 _ rfl rfl hLo rfl rfl (fun _ _ _ _ => rfl) (fun b G w hb ho => exec_pick rfl (ev_on hLo 3 rfl HS6.1 rfl (hb 3 (by rfl))) (rfl))) ?_
        refine steps_cons (st_run 7 _ rfl rfl hLo rfl rfl (fun _ _ _ _ => rfl) (fun b G w hb ho => exec_move (.inl rfl) (ev_on hLo 6 rfl HS6.1 rfl (hb 6 (by rfl))))) ?_
        refine steps_cons (st_skip 8 rfl rfl hLo rfl rfl (fun b G hb ho => wanted_is rfl rfl rfl HS6.1 rfl (ev_on hLo 7 rfl HS6.1 rfl (hb 7 (by rfl))) rfl)) ?_
        refine steps_cons (st_skip 9 rfl rfl hLo rfl rfl (fun b G hb ho => wanted_is rfl rfl rfl HS6.1 rfl (ev_on hLo 7 rfl HS6.1 rfl (hb 7 (by rfl))) rfl)) ?_
        refine steps_cons (st_run 10 _ rfl rfl hLo rfl rfl (fun _ _ _ _ => rfl) (fun b G w hb ho => exec_pick rfl (ev_on hLo 7 rfl HS6.1 rfl (hb 7 (by rfl))) (rfl))) ?_
        exact steps_nil
      clear hLo
      intro G a29 w29 hS hH
      have HS29 : Sl a29 92 [(0, .slice (al0) (len0) (cap0)), (1, .int .i64 (sy)), (16, .bool false), (17, .slice (al0) (len0) (cap0)), (18, .int .i64 ((len0 : Int))), (19, .int .i64 ((len0 : Int))), (5, .int .i64 (((sumR l0 : Nat) : Int))), (6, .string (catR l0)), (20, .bool false), (44, .bool true)] := hS
      have HH29 : Held ⟨w, []⟩ w29 [] := hH
      clear hS hH HS6 HH6
      refine then_ ?_
      refine wp_cond_true (HS29.get 9 rfl) ?_
      refine wp_seq ?_
      have hLo : LOk [(0, 4, .val (.bool true))] := lok (by rfl) (by rfl)
      refine plain_ (wE := ⟨w, []⟩) (sz := 92) (n := 1) [0] [(0, .val (.slice (al0) (len0) (cap0))), (1, .val (.int .i64 (sy))), (16, .val (.bool false)), (17, .val (.slice (al0) (len0) (cap0))), (18, .val (.int .i64 ((len0 : Int)))), (19, .val (.int .i64 ((len0 : Int)))), (5, .val (.int .i64 (((sumR l0 : Nat) : Int)))), (6, .val (.string (catR l0))), (20, .val (.bool false)), (44, .val (.bool true)), (4, .val (.bool true))] [(0, 4, .val (.bool true))] [] rfl (by rfl) HH29 rfl rfl hLo rfl HS29 (slS 0 rfl rfl (slS 1 rfl rfl (slS 2 rfl rfl (slS 3 rfl rfl (slS 4 rfl rfl (slS 5 rfl rfl (slS 6 rfl rfl (slS 7 rfl rfl (slS 8 rfl rfl (slS 9 rfl rfl (slL 0 (d := 0) rfl (trivial)))))))))))) ?_ ?_
      · show ∀ i ∈ [0], _
        refine steps_cons (st_run 0 _ rfl rfl hLo rfl rfl (fun _ _ _ _ => rfl) (fun b G w hb ho => exec_move (.inr rfl) (rfl))) ?_
        exact steps_nil
      clear hLo
      intro G a30 w30 hS hH
      have HS30 : Sl a30 92 [(0, .slice (al0) (len0) (cap0)), (1, .int .i64 (sy)), (16, .bool false), (17, .slice (al0) (len0) (cap0)), (18, .int .i64 ((len0 : Int))), (19, .int .i64 ((len0 : Int))), (5, .int .i64 (((sumR l0 : Nat) : Int))), (6, .string (catR l0)), (20, .bool false), (44, .bool true), (4, .bool true)] := hS
      have HH30 : Held ⟨w, []⟩ w30 [] := hH
      clear hS hH HS29 HH29
      refine then_ ?_
      refine wp_ret ?_
      repeat (first | refine then_ret ?_ | refine inBlock_ret' ?_)
      exact b_tmp rfl HS30.2.1 (HS30.get 10 rfl) ⟨rfl, bel_over hB HH30.1 hB.size (fun x hx => by cases hx)⟩
  · skip
    have hlti : i < len0 := by have := of_decide_eq_true hr1; omega
    obtain ⟨x, hx⟩ : ∃ x, l0[i]? = some x := ⟨_, List.getElem?_eq_getElem (by rw [hI.z_len]; exact hlti)⟩
    obtain ⟨adx, hadx, hcellx⟩ := c_cell hI.z_C hx
    have hmx := List.mem_of_getElem? hx
    have hsx : x.size ≤ 140737488351232 := hI.z_ok x hmx
    refine wp_cond_true (HS6.get 8 rfl) ?_
    refine wp_skip ?_
    refine then_ ?_
    refine wp_seq ?_
    refine wp_block ?_
    refine wp_seq ?_
    have hLo : LOk [(0, 21, .val (.pointer (some (adx.add (i * 1))))), (1, 22, .val (.string (x))), (2, 8, .val (.string (x)))] := lok (by rfl) (by rfl)
    refine plain_ (wE := ⟨w, []⟩) (sz := 92) (n := 3) [0, 1, 3] [(0, .val (.slice (al0) (len0) (cap0))), (1, .val (.int .i64 (sy))), (16, .val (.bool false)), (17, .val (.slice (al0) (len0) (cap0))), (18, .val (.int .i64 ((len0 : Int)))), (19, .val (.int .i64 ((i : Int)))), (5, .val (.int .i64 (((sumR (l0.take i) : Nat) : Int)))), (6, .val (.string (catR (l0.take i)))), (20, .val (.bool true)), (8, .val (.string (x)))] [(0, 21, .val (.pointer (some (adx.add (i * 1))))), (1, 22, .val (.string (x))), (2, 8, .val (.string (x)))] [] rfl (by rfl) HH6 rfl rfl hLo rfl HS6 (slS 0 rfl rfl (slS 1 rfl rfl (slS 2 rfl rfl (slS 3 rfl rfl (slS 4 rfl rfl (slS 5 rfl rfl (slS 6 rfl rfl (slS 7 rfl rfl (slS 8 rfl rfl (slL 2 (d := 2) rfl (trivial))))))))))) ?_ ?_
    · show ∀ i ∈ [0, 1, 2], _
      refine steps_cons (st_run 0 _ rfl rfl hLo rfl rfl (fun _ _ _ _ => rfl) (fun b G w hb ho => exec_indexAddr rfl (ev_off rfl (HS6.get 3 rfl)) (ev_off rfl (HS6.get 5 rfl)) (index_sl Try.underlying25 (by kernel_rfl) hadx hlti _))) ?_
      refine steps_cons (st_at1 1 (adx.add (i * 1)) _ rfl rfl rfl (fun _ _ _ _ => rfl) hLo rfl rfl Try.underlying9 rfl (wxc hcellx rfl (Below.refl _ w) (fun x hx => by cases hx)) (fun b G hb ho => ev_on hLo 0 rfl HS6.1 rfl (hb 0 (by rfl)))) ?_
      refine steps_cons (st_run 2 _ rfl rfl hLo rfl rfl (fun _ _ _ _ => rfl) (fun b G w hb ho => exec_move (.inr rfl) (ev_on hLo 1 rfl HS6.1 rfl (hb 1 (by rfl))))) ?_
      exact steps_nil
    clear hLo
    intro G a31 w31 hS hH
    have HS31 : Sl a31 92 [(0, .slice (al0) (len0) (cap0)), (1, .int .i64 (sy)), (16, .bool false), (17, .slice (al0) (len0) (cap0)), (18, .int .i64 ((len0 : Int))), (19, .int .i64 ((i : Int))), (5, .int .i64 (((sumR (l0.take i) : Nat) : Int))), (6, .string (catR (l0.take i))), (20, .bool true), (8, .string (x))] := hS
    have HH31 : Held ⟨w, []⟩ w31 [] := hH
    clear hS hH HS6 HH6
    refine then_ ?_
    refine wp_seq ?_
    have hLo : LOk [(0, 23, .val (.int .i64 (((sumR (l0.take i) : Nat) : Int)))), (1, 24, .val (.string (x))), (2, 25, .val (.int .i64 (((x).size : Int)))), (3, 26, .val (.int .i64 (((sumR (l0.take i) + x.size : Nat) : Int)))), (4, 5, .val (.int .i64 (((sumR (l0.take i) + x.size : Nat) : Int))))] := lok (by rfl) (by rfl)
    refine plain_ (wE := ⟨w, []⟩) (sz := 92) (n := 5) [0, 1, 3, 7, 15] [(0, .val (.slice (al0) (len0) (cap0))), (1, .val (.int .i64 (sy))), (16, .val (.bool false)), (17, .val (.slice (al0) (len0) (cap0))), (18, .val (.int .i64 ((len0 : Int)))), (19, .val (.int .i64 ((i : Int)))), (6, .val (.string (catR (l0.take i)))), (20, .val (.bool true)), (8, .val (.string (x))), (5, .val (.int .i64 (((sumR (l0.take i) + x.size : Nat) : Int))))] [(0, 23, .val (.int .i64 (((sumR (l0.take i) : Nat) : Int)))), (1, 24, .val (.string (x))), (2, 25, .val (.int .i64 (((x).size : Int)))), (3, 26, .val (.int .i64 (((sumR (l0.take i) + x.size : Nat) : Int)))), (4, 5, .val (.int .i64 (((sumR (l0.take i) + x.size : Nat) : Int))))] [] rfl (by rfl) HH31 rfl rfl hLo rfl HS31 (slS 0 rfl rfl (slS 1 rfl rfl (slS 2 rfl rfl (slS 3 rfl rfl (slS 4 rfl rfl (slS 5 rfl rfl (slS 7 rfl rfl (slS 8 rfl rfl (slS 9 rfl rfl (slL 4 (d := 4) rfl (trivial))))))))))) ?_ ?_
    · show ∀ i ∈ [0, 1, 2, 3, 4], _
      refine steps_cons (st_run 0 _ rfl rfl hLo rfl rfl (fun _ _ _ _ => rfl) (fun b G w hb ho => exec_move (.inl rfl) (ev_pre hLo 4 rfl (ho 4 (by rfl)) (HS31.get 6 rfl)))) ?_
      refine steps_cons (st_run 1 _ rfl rfl hLo rfl rfl (fun _ _ _ _ => rfl) (fun b G w hb ho => exec_move (.inl rfl) (ev_off rfl (HS31.get 9 rfl)))) ?_
      refine steps_cons (st_run 2 _ rfl rfl hLo rfl rfl (fun _ _ _ _ => rfl) (fun b G w hb ho => exec_lenS Try.underlying9 rfl (ev_on hLo 1 rfl HS31.1 rfl (hb 1 (by rfl))))) ?_
      refine steps_cons (st_run 3 _ rfl rfl hLo rfl rfl (fun _ _ _ _ => rfl) (fun b G w hb ho => exec_bin rfl (ev_on hLo 0 rfl HS31.1 rfl (hb 0 (by rfl))) (ev_on hLo 2 rfl HS31.1 rfl (hb 2 (by rfl))) (rb_add (w_nat (by omega) (by omega)) _ _ _))) ?_
      refine steps_cons (st_run 4 _ rfl rfl hLo rfl rfl (fun _ _ _ _ => rfl) (fun b G w hb ho => exec_move (.inr rfl) (ev_on hLo 3 rfl HS31.1 rfl (hb 3 (by rfl))))) ?_
      exact steps_nil
    clear hLo
    intro G a32 w32 hS hH
    have HS32 : Sl a32 92 [(0, .slice (al0) (len0) (cap0)), (1, .int .i64 (sy)), (16, .bool false), (17, .slice (al0) (len0) (cap0)), (18, .int .i64 ((len0 : Int))), (19, .int .i64 ((i : Int))), (6, .string (catR (l0.take i))), (20, .bool true), (8, .string (x)), (5, .int .i64 (((sumR (l0.take i) + x.size : Nat) : Int)))] := hS
    have HH32 : Held ⟨w, []⟩ w32 [] := hH
    clear hS hH HS31 HH31
    refine then_ ?_
    refine wp_seq ?_
    obtain ⟨r7, hr7⟩ : ∃ r : Bool, (decide ((16384 : Int) < ((sumR (l0.take i) + x.size : Nat) : Int))) = r := ⟨_, rfl⟩
    refine wp_seq ?_
    have hLo : LOk [(0, 27, .val (.int .i64 (((sumR (l0.take i) + x.size : Nat) : Int)))), (1, 28, .val (.bool r7))] := lok (by rfl) (by rfl)
    refine plain_ (wE := ⟨w, []⟩) (sz := 92) (n := 2) [0, 1] [(0, .val (.slice (al0) (len0) (cap0))), (1, .val (.int .i64 (sy))), (16, .val (.bool false)), (17, .val (.slice (al0) (len0) (cap0))), (18, .val (.int .i64 ((len0 : Int)))), (19, .val (.int .i64 ((i : Int)))), (6, .val (.string (catR (l0.take i)))), (20, .val (.bool true)), (8, .val (.string (x))), (5, .val (.int .i64 (((sumR (l0.take i) + x.size : Nat) : Int)))), (28, .val (.bool r7))] [(0, 27, .val (.int .i64 (((sumR (l0.take i) + x.size : Nat) : Int)))), (1, 28, .val (.bool r7))] [] rfl (by rfl) HH32 rfl rfl hLo rfl HS32 (slS 0 rfl rfl (slS 1 rfl rfl (slS 2 rfl rfl (slS 3 rfl rfl (slS 4 rfl rfl (slS 5 rfl rfl (slS 6 rfl rfl (slS 7 rfl rfl (slS 8 rfl rfl (slS 9 rfl rfl (slL 1 (d := 1) rfl (trivial)))))))))))) ?_ ?_
    · show ∀ i ∈ [0, 1], _
      refine steps_cons (st_run 0 _ rfl rfl hLo rfl rfl (fun _ _ _ _ => rfl) (fun b G w hb ho => exec_move (.inl rfl) (ev_off rfl (HS32.get 9 rfl)))) ?_
      refine steps_cons (st_run 1 _ rfl rfl hLo rfl rfl (fun _ _ _ _ => rfl) (fun b G w hb ho => exec_bin rfl (ev_on hLo 0 rfl HS32.1 rfl (hb 0 (by rfl))) (rfl) (rb_gtr hr7 _ _ _))) ?_
      exact steps_nil
    clear hLo
    intro G a33 w33 hS hH
    have HS33 : Sl a33 92 [(0, .slice (al0) (len0) (cap0)), (1, .int .i64 (sy)), (16, .bool false), (17, .slice (al0) (len0) (cap0)), (18, .int .i64 ((len0 : Int))), (19, .int .i64 ((i : Int))), (6, .string (catR (l0.take i))), (20, .bool true), (8, .string (x)), (5, .int .i64 (((sumR (l0.take i) + x.size : Nat) : Int))), (28, .bool r7)] := hS
    have HH33 : Held ⟨w, []⟩ w33 [] := hH
    clear hS hH HS32 HH32
    refine then_ ?_
    cases r7
    · skip
      have hzr7 := of_decide_eq_false hr7
      refine wp_cond_false (HS33.get 10 rfl) ?_
      refine wp_skip ?_
      refine then_ ?_
      have hLo : LOk [(0, 29, .val (.string (catR (l0.take i)))), (1, 30, .val (.string (x))), (2, 31, .val (.string (lineS x))), (3, 32, .val (.string ((catR (l0.take i)) ++ (lineS x)))), (4, 6, .val (.string ((catR (l0.take i)) ++ (lineS x))))] := lok (by rfl) (by rfl)
      refine plain_ (wE := ⟨w, []⟩) (sz := 92) (n := 5) [0, 1, 3, 7, 15] [(0, .val (.slice (al0) (len0) (cap0))), (1, .val (.int .i64 (sy))), (16, .val (.bool false)), (17, .val (.slice (al0) (len0) (cap0))), (18, .val (.int .i64 ((len0 : Int)))), (19, .val (.int .i64 ((i : Int)))), (20, .val (.bool true)), (8, .val (.string (x))), (5, .val (.int .i64 (((sumR (l0.take i) + x.size : Nat) : Int)))), (28, .val (.bool false)), (6, .val (.string ((catR (l0.take i)) ++ (lineS x))))] [(0, 29, .val (.string (catR (l0.take i)))), (1, 30, .val (.string (x))), (2, 31, .val (.string (lineS x))), (3, 32, .val (.string ((catR (l0.take i)) ++ (lineS x)))), (4, 6, .val (.string ((catR (l0.take i)) ++ (lineS x))))] [] rfl (by rfl) HH33 rfl rfl hLo rfl HS33 (slS 0 rfl rfl (slS 1 rfl rfl (slS 2 rfl rfl (slS 3 rfl rfl (slS 4 rfl rfl (slS 5 rfl rfl (slS 7 rfl rfl (slS 8 rfl rfl (slS 9 rfl rfl (slS 10 rfl rfl (slL 4 (d := 4) rfl (trivial)))))))))))) ?_ ?_
      · show ∀ i ∈ [0, 1, 2, 3, 4], _
        refine steps_cons (st_run 0 _ rfl rfl hLo rfl rfl (fun _ _ _ _ => rfl) (fun b G w hb ho => exec_move (.inl rfl) (ev_pre hLo 4 rfl (ho 4 (by rfl)) (HS33.get 6 rfl)))) ?_
        refine steps_cons (st_run 1 _ rfl rfl hLo rfl rfl (fun _ _ _ _ => rfl) (fun b G w hb ho => exec_move (.inl rfl) (ev_off rfl (HS33.get 8 rfl)))) ?_
        refine steps_cons (st_call 2 _ #[.string (x)] rfl rfl rfl (fun _ _ _ _ => rfl) hLo rfl rfl Try.func15 rfl rfl (fun b G hb ho => args1 (ev_on hLo 1 rfl HS33.1 rfl (hb 1 (by rfl)))) (fun w hw => line_calls (by omega))) ?_
        refine steps_cons (st_run 3 _ rfl rfl hLo rfl rfl (fun _ _ _ _ => rfl) (fun b G w hb ho => exec_bin rfl (ev_on hLo 0 rfl HS33.1 rfl (hb 0 (by rfl))) (ev_on hLo 2 rfl HS33.1 rfl (hb 2 (by rfl))) (rb_sadd (by have h1 := catR_le (l0.take i); have h2 := encLen_le x.size; rw [lineS_size]; have h3 : (l0.take i).length ≤ l0.length := (by rw [List.length_take]; omega); omega) _ _ _))) ?_
        refine steps_cons (st_run 4 _ rfl rfl hLo rfl rfl (fun _ _ _ _ => rfl) (fun b G w hb ho => exec_move (.inr rfl) (ev_on hLo 3 rfl HS33.1 rfl (hb 3 (by rfl))))) ?_
        exact steps_nil
      clear hLo
      intro G a34 w34 hS hH
      have HS34 : Sl a34 92 [(0, .slice (al0) (len0) (cap0)), (1, .int .i64 (sy)), (16, .bool false), (17, .slice (al0) (len0) (cap0)), (18, .int .i64 ((len0 : Int))), (19, .int .i64 ((i : Int))), (20, .bool true), (8, .string (x)), (5, .int .i64 (((sumR (l0.take i) + x.size : Nat) : Int))), (28, .bool false), (6, .string ((catR (l0.take i)) ++ (lineS x)))] := hS
      have HH34 : Held ⟨w, []⟩ w34 [] := hH
      clear hS hH HS33 HH33
      refine inBlock_normal ?_
      refine then_ ?_
      have hLo : LOk [(0, 33, .val (.int .i64 (((i + 1 : Nat) : Int)))), (1, 19, .val (.int .i64 (((i + 1 : Nat) : Int))))] := lok (by rfl) (by rfl)
      refine plain_ (wE := ⟨w, []⟩) (sz := 92) (n := 2) [0, 1] [(0, .val (.slice (al0) (len0) (cap0))), (1, .val (.int .i64 (sy))), (16, .val (.bool false)), (17, .val (.slice (al0) (len0) (cap0))), (18, .val (.int .i64 ((len0 : Int)))), (20, .val (.bool true)), (8, .val (.string (x))), (5, .val (.int .i64 (((sumR (l0.take i) + x.size : Nat) : Int)))), (28, .val (.bool false)), (6, .val (.string ((catR (l0.take i)) ++ (lineS x)))), (19, .val (.int .i64 (((i + 1 : Nat) : Int))))] [(0, 33, .val (.int .i64 (((i + 1 : Nat) : Int)))), (1, 19, .val (.int .i64 (((i + 1 : Nat) : Int))))] [] rfl (by rfl) HH34 rfl rfl hLo rfl HS34 (slS 0 rfl rfl (slS 1 rfl rfl (slS 2 rfl rfl (slS 3 rfl rfl (slS 4 rfl rfl (slS 6 rfl rfl (slS 7 rfl rfl (slS 8 rfl rfl (slS 9 rfl rfl (slS 10 rfl rfl (slL 1 (d := 1) rfl (trivial)))))))))))) ?_ ?_
      · show ∀ i ∈ [0, 1], _
        refine steps_cons (st_run 0 _ rfl rfl hLo rfl rfl (fun _ _ _ _ => rfl) (fun b G w hb ho => exec_bin rfl (ev_pre hLo 1 rfl (ho 1 (by rfl)) (HS34.get 5 rfl)) (rfl) (rb_add (w_nat (by omega) (by omega)) _ _ _))) ?_
        refine steps_cons (st_run 1 _ rfl rfl hLo rfl rfl (fun _ _ _ _ => rfl) (fun b G w hb ho => exec_move (.inl rfl) (ev_on hLo 0 rfl HS34.1 rfl (hb 0 (by rfl))))) ?_
        exact steps_nil
      clear hLo
      intro G a35 w35 hS hH
      have HS35 : Sl a35 92 [(0, .slice (al0) (len0) (cap0)), (1, .int .i64 (sy)), (16, .bool false), (17, .slice (al0) (len0) (cap0)), (18, .int .i64 ((len0 : Int))), (20, .bool true), (8, .string (x)), (5, .int .i64 (((sumR (l0.take i) + x.size : Nat) : Int))), (28, .bool false), (6, .string ((catR (l0.take i)) ++ (lineS x))), (19, .int .i64 (((i + 1 : Nat) : Int)))] := hS
      have HH35 : Held ⟨w, []⟩ w35 [] := hH
      clear hS hH HS34 HH34
      refine then_ ?_
      have hSq0' : Sl _ 92 [(0, .slice (al0) (len0) (cap0)), (1, .int .i64 (sy)), (16, .bool false), (17, .slice (al0) (len0) (cap0)), (18, .int .i64 ((len0 : Int))), (19, .int .i64 (((i + 1 : Nat) : Int))), (5, .int .i64 (((sumR (l0.take i) + x.size : Nat) : Int))), (6, .string ((catR (l0.take i)) ++ (lineS x)))] := sl_keep HS35 [0, 1, 2, 3, 4, 10, 7, 9] (by rfl)
      have hHq0' : Held ⟨w, []⟩ _ [] := held_keep HH35 0 rfl
      have e1 := sumR_step hx
      have e2 := catR_step hx
      rw [← e1, ← e2] at hSq0'
      exact ⟨⟨i + 1, by omega, by omega, hSq0', hHq0'⟩, by rw [(hSq0'.get 5 rfl)]; show len0 - (((i + 1 : Nat) : Int)).toNat < len0 - i; omega⟩
    · skip
      refine wp_cond_true (HS33.get 10 rfl) ?_
      refine wp_seq ?_
      have hLo : LOk [(0, 4, .val (.bool true))] := lok (by rfl) (by rfl)
      refine plain_ (wE := ⟨w, []⟩) (sz := 92) (n := 1) [0] [(0, .val (.slice (al0) (len0) (cap0))), (1, .val (.int .i64 (sy))), (16, .val (.bool false)), (17, .val (.slice (al0) (len0) (cap0))), (18, .val (.int .i64 ((len0 : Int)))), (19, .val (.int .i64 ((i : Int)))), (6, .val (.string (catR (l0.take i)))), (20, .val (.bool true)), (8, .val (.string (x))), (5, .val (.int .i64 (((sumR (l0.take i) + x.size : Nat) : Int)))), (28, .val (.bool true)), (4, .val (.bool true))] [(0, 4, .val (.bool true))] [] rfl (by rfl) HH33 rfl rfl hLo rfl HS33 (slS 0 rfl rfl (slS 1 rfl rfl (slS 2 rfl rfl (slS 3 rfl rfl (slS 4 rfl rfl (slS 5 rfl rfl (slS 6 rfl rfl (slS 7 rfl rfl (slS 8 rfl rfl (slS 9 rfl rfl (slS 10 rfl rfl (slL 0 (d := 0) rfl (trivial))))))))))))) ?_ ?_
      · show ∀ i ∈ [0], _
        refine steps_cons (st_run 0 _ rfl rfl hLo rfl rfl (fun _ _ _ _ => rfl) (fun b G w hb ho => exec_move (.inr rfl) (rfl))) ?_
        exact steps_nil
      clear hLo
      intro G a36 w36 hS hH
      have HS36 : Sl a36 92 [(0, .slice (al0) (len0) (cap0)), (1, .int .i64 (sy)), (16, .bool false), (17, .slice (al0) (len0) (cap0)), (18, .int .i64 ((len0 : Int))), (19, .int .i64 ((i : Int))), (6, .string (catR (l0.take i))), (20, .bool true), (8, .string (x)), (5, .int .i64 (((sumR (l0.take i) + x.size : Nat) : Int))), (28, .bool true), (4, .bool true)] := hS
      have HH36 : Held ⟨w, []⟩ w36 [] := hH
      clear hS hH HS33 HH33
      refine then_ ?_
      refine wp_ret ?_
      repeat (first | refine then_ret ?_ | refine inBlock_ret' ?_)
      exact b_tmp rfl HS36.2.1 (HS36.get 11 rfl) ⟨rfl, bel_over hB HH36.1 hB.size (fun x hx => by cases hx)⟩
end Go.Proofs.Ytdleomeiojlooaa.P
end
