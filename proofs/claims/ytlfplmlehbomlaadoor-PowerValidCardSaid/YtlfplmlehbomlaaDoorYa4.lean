/- Merged of the texts: Uj (trim.py). -/
import Derived.Test.YtlfplmlehbomlaaDoorYa3
section
namespace Go.Proofs.YtlfplmlehbomlaaDoor.P
set_option linter.unusedVariables false
set_option linter.unusedSimpArgs false
open Go.RowKit Go.ChangeShapes Go.WideShapes Go.Proofs.YtlfplmlehbomlaaDoorW.PrintWords Go.Proofs.YtlfplmlehbomlaaDoorW.PrintLast Go.Proofs.YtlfplmlehbomlaaDoorW.PrintMore
theorem nameV_no {t : T} {i : Nat} (h : (t.get (NM i)).isSome = false) : nameV t i = true := by
  unfold nameV
  cases e : t.get (NM i) with
  | none => rfl
  | some x => rw [e] at h; cases h
theorem nameV_some {t x : T} {i : Nat} (hx : x = t.tbl (NM i)) (h : (t.get (NM i)).isSome = true) {b : Bool} (h2 : (x.kind != 2) = b) : nameV t i = !b := by
  subst hx
  unfold nameV T.tbl at *
  cases e : t.get (NM i) with
  | none => rw [e] at h; cases h
  | some x => rw [e] at h2; exact congrArg (! ·) h2
theorem tabV_no {t : T} {j : Nat} (h : (t.get (TN j)).isSome = false) : tabV zY t j = true := by
  unfold tabV
  cases e : t.get (TN j) with
  | none => rfl
  | some x => rw [e] at h; cases h
theorem tabV_some {t x : T} {j : Nat} (hx : x = t.tbl (TN j)) (h : (t.get (TN j)).isSome = true) : tabV zY t j = (!(x.kind != 5) && allB (memV zY (TN j) x) x.ml) := by
  subst hx
  unfold tabV T.tbl
  cases e : t.get (TN j) with
  | none => rw [e] at h; cases h
  | some x => rfl
theorem valid_k {t : T} (h : (t.kind != 5) = true) : validB zY t = false := by unfold validB; rw [h]; rfl
theorem valid_n {t : T} {i : Nat} (hi : i < 7) (h : nameV t i = false) : validB zY t = false := by unfold validB; rw [allB_no hi h, Bool.false_and, Bool.and_false]
theorem valid_t {t : T} {j : Nat} (hj : j < 3) (h : tabV zY t j = false) : validB zY t = false := by unfold validB; rw [allB_no hj h, Bool.and_false, Bool.and_false]
theorem valid_y {t : T} (h : (t.kind != 5) = false) (h1 : allB (nameV t) 7 = true) (h2 : allB (tabV zY t) 3 = true) : validB zY t = true := by unfold validB; rw [h, h1, h2]; rfl
theorem rvalid_k {t : T} (h : (t.kind != 5) = true) : rvalidB zY t = false := by unfold rvalidB; rw [h]; rfl
theorem rvalid_m {t : T} {i : Nat} (hi : i < t.ml) (h : memR zY t i = false) : rvalidB zY t = false := by unfold rvalidB; rw [allB_no hi h, Bool.and_false]
theorem rvalid_y {t : T} (h : (t.kind != 5) = false) (h1 : allB (memR zY t) t.ml = true) : rvalidB zY t = true := by unfold rvalidB; rw [h, h1]; rfl
theorem memR_n {t : T} {i n : Nat} (hn : n < 7) (h : nameR t i n = false) : memR zY t i = false := by unfold memR; rw [allB_no hn h]; rfl
theorem memR_t {t : T} {i : Nat} (h : tabR zY t i = false) : memR zY t i = false := by unfold memR; rw [h, Bool.and_false]
theorem memR_y {t : T} {i : Nat} (h : allB (nameR t i) 7 = true) (h2 : tabR zY t i = true) : memR zY t i = true := by unfold memR; rw [h, h2]; rfl
theorem users_ax : zY k_ax = true := by decide +kernel
theorem valid_lv (g h : Nat) : validB zY (lvT g h) = true := by
  refine valid_y rfl (allB_is.2 fun i hi => ?_) (allB_is.2 fun j hj => ?_)
  · unfold nameV lvT
    rw [one_get]
    have e : i = 0 ∨ i = 1 ∨ i = 2 ∨ i = 3 ∨ i = 4 ∨ i = 5 ∨ i = 6 := by omega
    rcases e with rfl | rfl | rfl | rfl | rfl | rfl | rfl <;> rfl
  · unfold tabV lvT
    rw [one_get]
    have e : j = 0 ∨ j = 1 ∨ j = 2 := by omega
    rcases e with rfl | rfl | rfl
    · rfl
    · rfl
    · rw [if_pos (show k_users = TN 2 from rfl)]
      show (!((5 : Int) != 5) && allB (memV zY k_users (one g k_ax lvN)) 1) = true
      have : memV zY k_users (one g k_ax lvN) 0 = true := by
        show (!(((2 : Int) != 2) || (decide (k_users = k_users) && !zY k_ax))) = true
        rw [users_ax]; simp
      show (!((5 : Int) != 5) && (true && memV zY k_users (one g k_ax lvN) 0)) = true
      rw [this]; rfl
theorem valid_zero : validB zY T.zero = false := valid_k (by decide)
set_option maxHeartbeats 4000000 in
theorem valid_calls {w : World} {t : T} (hIn : In w t) (hR : Rises t) (hTab : Tab w) : Calls Tryd.prog 4 #[.agg (FR () 6 ((t).sc))] w fun e w' => e = .returned (.bool (validB zY t)) ∧ Below w.heap.size w w' := by
  obtain ⟨ba, cn, hG, hT⟩ := hTab
  refine enter_ 59 Tryd.func4 rfl rfl (fun a0 hS => ?_)
  have HS0 : Sl a0 59 [(0, .agg (FR () 6 ((t).sc)))] := hS
  have HH0 : Held w w [] := Held.first w
  clear hS
  refine wp_seq ?_
  have hLo : LOk [(0, 1, .new 0 (fun g => .pointer (some ⟨g, 0, none⟩))), (1, 2, .val (.bool false))] := lok (by rfl) (by rfl)
  refine zK (wE := w) (sz := 59) (n := 2) [0, 1] [(0, .val (.agg (FR () 6 ((t).sc)))), (1, .new 0 (fun g => .pointer (some ⟨g, 0, none⟩))), (2, .val (.bool false))] [(0, 1, .new 0 (fun g => .pointer (some ⟨g, 0, none⟩))), (1, 2, .val (.bool false))] [⟨0, some 0, none, (), 6, (t).sc, (t).sc, 25⟩] rfl (by rfl) HH0 rfl rfl hLo rfl HS0 (slS 0 rfl rfl (slL 0 (d := 0) rfl (slL 1 (d := 1) rfl (trivial)))) ?_ ?_
  · show ∀ i ∈ [0, 1], _
    refine zA (st_alloc 0 0 () 6 25 none _ _ rfl rfl (fun _ _ _ _ => rfl) rfl hLo rfl rfl rfl rfl (by rfl) (fun b G w hb ho => exec_box rfl (zG rfl (HS0.get 0 rfl)) (by kernel_rfl))) ?_
    refine zA (zC 1 _ rfl rfl hLo rfl rfl (fun _ _ _ _ => rfl) (fun b G w hb ho => zD (.inr rfl) (rfl))) ?_
    exact zF
  clear hLo
  intro G a1 w1 hS hH
  have HS1 : Sl a1 59 [(0, .agg (FR () 6 ((t).sc))), (1, .pointer (some ⟨(G 0), 0, none⟩)), (2, .bool false)] := hS
  have HH1 : Held w w1 [⟨(G 0), (), 6, (t).sc, 25⟩] := hH
  clear hS hH HS0 HH0
  generalize G 0 = g1_0 at HS1 HH1
  refine then_ ?_
  refine wp_seq ?_
  obtain ⟨r1, hr1⟩ : ∃ r : Bool, ((((t).kind : Int) != 5)) = r := ⟨_, rfl⟩
  refine wp_seq ?_
  have hLo : LOk [(0, 11, .val (.pointer (some ⟨g1_0, 0, none⟩))), (1, 12, .val (.int .i64 ((t).kind))), (2, 13, .val (.bool r1))] := lok (by rfl) (by rfl)
  refine zK (wE := w) (sz := 59) (n := 3) [0, 1, 3] [(0, .val (.agg (FR () 6 ((t).sc)))), (1, .val (.pointer (some ⟨g1_0, 0, none⟩))), (2, .val (.bool false)), (13, .val (.bool r1))] [(0, 11, .val (.pointer (some ⟨g1_0, 0, none⟩))), (1, 12, .val (.int .i64 ((t).kind))), (2, 13, .val (.bool r1))] [⟨g1_0, none, none, (), 6, (t).sc, (t).sc, 25⟩] rfl (by rfl) HH1 rfl rfl hLo rfl HS1 (slS 0 rfl rfl (slS 1 rfl rfl (slS 2 rfl rfl (slL 2 (d := 2) rfl (trivial))))) ?_ ?_
  · show ∀ i ∈ [0, 1, 2], _
    refine zA (zC 0 _ rfl rfl hLo rfl rfl (fun _ _ _ _ => rfl) (fun b G w hb ho => zH rfl (zG rfl (HS1.get 1 rfl)) (by kernel_rfl))) ?_
    refine zA (zW 1 0 _ _ rfl rfl rfl hLo rfl rfl (fun _ _ _ _ => rfl) (by rfl) (by rfl) (fun b G w hb ho hr => zP hr (Nat.le_of_ble_eq_true rfl) Tryd.underlying3 rfl rfl (zB hLo 0 rfl HS1.1 rfl (hb 0 (by rfl))))) ?_
    refine zA (zC 2 _ rfl rfl hLo rfl rfl (fun _ _ _ _ => rfl) (fun b G w hb ho => zJ rfl (zB hLo 1 rfl HS1.1 rfl (hb 1 (by rfl))) (rfl) (rb_neq hr1 _ _ _))) ?_
    exact zF
  clear hLo
  intro G a2 w2 hS hH
  have HS2 : Sl a2 59 [(0, .agg (FR () 6 ((t).sc))), (1, .pointer (some ⟨g1_0, 0, none⟩)), (2, .bool false), (13, .bool r1)] := hS
  have HH2 : Held w w2 [⟨g1_0, (), 6, (t).sc, 25⟩] := hH
  clear hS hH HS1 HH1
  refine then_ ?_
  cases r1
  · skip
    refine wp_cond_false (HS2.get 3 rfl) ?_
    refine wp_skip ?_
    refine then_ ?_
    refine wp_seq ?_
    refine wp_seq ?_
    have hLo : LOk [(0, 14, .val (.slice (some ba) (7) (cn))), (1, 15, .val (.int .i64 (7))), (2, 16, .val (.int .i64 (0)))] := lok (by rfl) (by rfl)
    refine zK (wE := w) (sz := 59) (n := 3) [0, 1, 3] [(0, .val (.agg (FR () 6 ((t).sc)))), (1, .val (.pointer (some ⟨g1_0, 0, none⟩))), (2, .val (.bool false)), (13, .val (.bool false)), (14, .val (.slice (some ba) (7) (cn))), (15, .val (.int .i64 (7))), (16, .val (.int .i64 (0)))] [(0, 14, .val (.slice (some ba) (7) (cn))), (1, 15, .val (.int .i64 (7))), (2, 16, .val (.int .i64 (0)))] [⟨g1_0, none, none, (), 6, (t).sc, (t).sc, 25⟩] rfl (by rfl) HH2 rfl rfl hLo rfl HS2 (slS 0 rfl rfl (slS 1 rfl rfl (slS 2 rfl rfl (slS 3 rfl rfl (slL 0 (d := 0) rfl (slL 1 (d := 1) rfl (slL 2 (d := 2) rfl (trivial)))))))) ?_ ?_
    · show ∀ i ∈ [0, 1, 2], _
      refine zA (st_at1 0 (⟨0, 0, none⟩) _ rfl rfl rfl (fun _ _ _ _ => rfl) hLo rfl rfl Tryd.underlying28 rfl (hG) (fun b G hb ho => rfl)) ?_
      refine zA (zC 1 _ rfl rfl hLo rfl rfl (fun _ _ _ _ => rfl) (fun b G w hb ho => exec_lenL Tryd.underlying28 rfl (zB hLo 0 rfl HS2.1 rfl (hb 0 (by rfl))))) ?_
      refine zA (zC 2 _ rfl rfl hLo rfl rfl (fun _ _ _ _ => rfl) (fun b G w hb ho => zD (.inl rfl) (rfl))) ?_
      exact zF
    clear hLo
    intro G a3 w3 hS hH
    have HS3 : Sl a3 59 [(0, .agg (FR () 6 ((t).sc))), (1, .pointer (some ⟨g1_0, 0, none⟩)), (2, .bool false), (13, .bool false), (14, .slice (some ba) (7) (cn)), (15, .int .i64 (7)), (16, .int .i64 (0))] := hS
    have HH3 : Held w w3 [⟨g1_0, (), 6, (t).sc, 25⟩] := hH
    clear hS hH HS2 HH2
    refine then_ ?_
    refine wp_block ?_
    have hSq0 : Sl _ 59 [(0, .agg (FR () 6 ((t).sc))), (1, .pointer (some ⟨g1_0, 0, none⟩)), (13, .bool false), (14, .slice (some ba) (7) (cn)), (15, .int .i64 (7)), (16, .int .i64 (0))] := sl_keep HS3 [0, 1, 3, 4, 5, 6] (by rfl)
    refine wp_loop (fun a w' => ∃ i : Nat, i ≤ 7 ∧ allB (nameV t) i = true ∧ Sl a 59 [(0, .agg (FR () 6 ((t).sc))), (1, .pointer (some ⟨g1_0, 0, none⟩)), (13, .bool false), (14, .slice (some ba) (7) (cn)), (15, .int .i64 (7)), (16, .int .i64 ((i : Int)))] ∧ Held w w' [⟨g1_0, (), 6, (t).sc, 25⟩]) (fun a w' => 7 - (intOf (a.eval (.tmp 16))).toNat) ⟨0, Nat.zero_le _, rfl, hSq0, HH3⟩ ?_
    clear hSq0 HS3 HH3
    rintro aq0 wq0 ⟨i, hlei, hpi, HSq0, HHq0⟩
    have hm' : (intOf (aq0.eval (.tmp 16))).toNat = i := by rw [(HSq0.get 5 rfl)]; rfl
    rw [hm']
    clear hm'
    obtain ⟨x, hx⟩ : ∃ x : T, x = t.tbl (NM i) := ⟨_, rfl⟩
    obtain ⟨r2, hr2⟩ : ∃ r : Bool, (decide (((i : Int) : Int) < 7)) = r := ⟨_, rfl⟩
    refine wp_seq ?_
    have hLo : LOk [(0, 17, .val (.bool r2))] := lok (by rfl) (by rfl)
    refine zK (wE := w) (sz := 59) (n := 1) [0] [(0, .val (.agg (FR () 6 ((t).sc)))), (1, .val (.pointer (some ⟨g1_0, 0, none⟩))), (13, .val (.bool false)), (14, .val (.slice (some ba) (7) (cn))), (15, .val (.int .i64 (7))), (16, .val (.int .i64 ((i : Int)))), (17, .val (.bool r2))] [(0, 17, .val (.bool r2))] [⟨g1_0, none, none, (), 6, (t).sc, (t).sc, 25⟩] rfl (by rfl) HHq0 rfl rfl hLo rfl HSq0 (slS 0 rfl rfl (slS 1 rfl rfl (slS 2 rfl rfl (slS 3 rfl rfl (slS 4 rfl rfl (slS 5 rfl rfl (slL 0 (d := 0) rfl (trivial)))))))) ?_ ?_
    · show ∀ i ∈ [0], _
      refine zA (zC 0 _ rfl rfl hLo rfl rfl (fun _ _ _ _ => rfl) (fun b G w hb ho => zJ rfl (zG rfl (HSq0.get 5 rfl)) (zG rfl (HSq0.get 4 rfl)) (rb_lss hr2 _ _ _))) ?_
      exact zF
    clear hLo
    intro G a4 w4 hS hH
    have HS4 : Sl a4 59 [(0, .agg (FR () 6 ((t).sc))), (1, .pointer (some ⟨g1_0, 0, none⟩)), (13, .bool false), (14, .slice (some ba) (7) (cn)), (15, .int .i64 (7)), (16, .int .i64 ((i : Int))), (17, .bool r2)] := hS
    have HH4 : Held w w4 [⟨g1_0, (), 6, (t).sc, 25⟩] := hH
    clear hS hH HSq0 HHq0
    refine then_ ?_
    refine wp_seq ?_
    cases r2
    · skip
      have hendi : i = 7 := by have := of_decide_eq_false hr2; omega
      have hqi := hpi
      rw [hendi] at hqi
      refine wp_cond_false (HS4.get 6 rfl) ?_
      refine wp_exit ?_
      refine zV ?_
      refine zV ?_
      refine inBlock_exit ?_
      refine then_ ?_
      refine wp_seq ?_
      refine wp_seq ?_
      refine whole_ ?_
      refine cut_call _ rfl rfl rfl rfl Tryd.func9 rfl rfl (args0 ) (tables_calls _) HS4 rfl ?_
      rintro e5 w5 ⟨⟨gt, rfl, hTN⟩, hbt⟩
      refine ⟨_, rfl, fun a5 hS => ?_⟩
      have HS6 : Sl a5 59 [(34, .slice (some ⟨gt, 0, none⟩) (3) (3)), (0, .agg (FR () 6 ((t).sc))), (1, .pointer (some ⟨g1_0, 0, none⟩)), (13, .bool false), (14, .slice (some ba) (7) (cn)), (15, .int .i64 (7)), (16, .int .i64 ((i : Int))), (17, .bool false)] := hS
      have HH6 : Held w w5 [⟨g1_0, (), 6, (t).sc, 25⟩] := HH4.call hbt
      clear hS
      have hRow7_0 := HH6.row 0 rfl
      have hIn_7 := hIn.below HH6.1
      have hG_7 := bel_kept HH6.1 _ _ hG
      have hT_7 := tt_below hT HH6.1
      have HH7 : Held w5 w5 [] := Held.first w5
      have HS7 : Sl a5 59 [(34, .slice (some ⟨gt, 0, none⟩) (3) (3)), (0, .agg (FR () 6 ((t).sc))), (1, .pointer (some ((⟨g1_0, 0, none⟩ : Addr)))), (13, .bool false), (14, .slice (some ba) (7) (cn)), (15, .int .i64 (7)), (16, .int .i64 ((i : Int))), (17, .bool false)] := HS6
      have hLo : LOk [(1, 35, .val (.int .i64 (3))), (2, 36, .val (.int .i64 (0)))] := lok (by rfl) (by rfl)
      refine part_ (wE := w5) (sz := 59) (n := 3) 1 3 [0, 1, 3] [(34, .val (.slice (some ⟨gt, 0, none⟩) (3) (3))), (0, .val (.agg (FR () 6 ((t).sc)))), (1, .val (.pointer (some ((⟨g1_0, 0, none⟩ : Addr))))), (13, .val (.bool false)), (14, .val (.slice (some ba) (7) (cn))), (15, .val (.int .i64 (7))), (16, .val (.int .i64 ((i : Int)))), (17, .val (.bool false)), (35, .val (.int .i64 (3))), (36, .val (.int .i64 (0)))] [(1, 35, .val (.int .i64 (3))), (2, 36, .val (.int .i64 (0)))] [] rfl rfl (by rfl) HH7 rfl rfl hLo rfl HS7 (slS 0 rfl rfl (slS 1 rfl rfl (slS 2 rfl rfl (slS 3 rfl rfl (slS 4 rfl rfl (slS 5 rfl rfl (slS 6 rfl rfl (slS 7 rfl rfl (slL 0 (d := 1) rfl (slL 1 (d := 2) rfl (trivial))))))))))) ?_ ?_
      · show ∀ i ∈ [1, 2], _
        refine zA (zC 0 _ rfl rfl hLo rfl rfl (fun _ _ _ _ => rfl) (fun b G w hb ho => exec_lenL Tryd.underlying32 rfl (zG rfl (HS7.get 0 rfl)))) ?_
        refine zA (zC 1 _ rfl rfl hLo rfl rfl (fun _ _ _ _ => rfl) (fun b G w hb ho => zD (.inl rfl) (rfl))) ?_
        exact zF
      clear hLo
      intro G a8 w8 hS hH
      have HS8 : Sl a8 59 [(34, .slice (some ⟨gt, 0, none⟩) (3) (3)), (0, .agg (FR () 6 ((t).sc))), (1, .pointer (some ((⟨g1_0, 0, none⟩ : Addr)))), (13, .bool false), (14, .slice (some ba) (7) (cn)), (15, .int .i64 (7)), (16, .int .i64 ((i : Int))), (17, .bool false), (35, .int .i64 (3)), (36, .int .i64 (0))] := hS
      have HH8 : Held w5 w8 [] := hH
      clear hS hH HS7 HH7
      refine end_ rfl ?_
      refine then_ ?_
      refine wp_block ?_
      have hSq1 : Sl _ 59 [(34, .slice (some ⟨gt, 0, none⟩) (3) (3)), (0, .agg (FR () 6 ((t).sc))), (1, .pointer (some ((⟨g1_0, 0, none⟩ : Addr)))), (13, .bool false), (14, .slice (some ba) (7) (cn)), (15, .int .i64 (7)), (16, .int .i64 ((i : Int))), (17, .bool false), (35, .int .i64 (3)), (36, .int .i64 (0))] := sl_keep HS8 [0, 1, 2, 3, 4, 5, 6, 7, 8, 9] (by rfl)
      refine wp_loop (fun a w' => ∃ j : Nat, j ≤ 3 ∧ allB (tabV zY t) j = true ∧ Sl a 59 [(34, .slice (some ⟨gt, 0, none⟩) (3) (3)), (0, .agg (FR () 6 ((t).sc))), (1, .pointer (some ((⟨g1_0, 0, none⟩ : Addr)))), (13, .bool false), (14, .slice (some ba) (7) (cn)), (15, .int .i64 (7)), (16, .int .i64 ((i : Int))), (17, .bool false), (35, .int .i64 (3)), (36, .int .i64 ((j : Int)))] ∧ Held w5 w' []) (fun a w' => 3 - (intOf (a.eval (.tmp 36))).toNat) ⟨0, Nat.zero_le _, rfl, hSq1, HH8⟩ ?_
      clear hSq1 HS8 HH8
      rintro aq1 wq1 ⟨j, hlej, hpj, HSq1, HHq1⟩
      have hm' : (intOf (aq1.eval (.tmp 36))).toNat = j := by rw [(HSq1.get 9 rfl)]; rfl
      rw [hm']
      clear hm'
      obtain ⟨y, hy⟩ : ∃ y : T, y = t.tbl (TN j) := ⟨_, rfl⟩
      have hIny : In w5 y := by rw [hy]; exact hIn_7.tbl
      obtain ⟨r3, hr3⟩ : ∃ r : Bool, (decide (((j : Int) : Int) < 3)) = r := ⟨_, rfl⟩
      refine wp_seq ?_
      have hLo : LOk [(0, 37, .val (.bool r3))] := lok (by rfl) (by rfl)
      refine zK (wE := w5) (sz := 59) (n := 1) [0] [(34, .val (.slice (some ⟨gt, 0, none⟩) (3) (3))), (0, .val (.agg (FR () 6 ((t).sc)))), (1, .val (.pointer (some ((⟨g1_0, 0, none⟩ : Addr))))), (13, .val (.bool false)), (14, .val (.slice (some ba) (7) (cn))), (15, .val (.int .i64 (7))), (16, .val (.int .i64 ((i : Int)))), (17, .val (.bool false)), (35, .val (.int .i64 (3))), (36, .val (.int .i64 ((j : Int)))), (37, .val (.bool r3))] [(0, 37, .val (.bool r3))] [] rfl (by rfl) HHq1 rfl rfl hLo rfl HSq1 (slS 0 rfl rfl (slS 1 rfl rfl (slS 2 rfl rfl (slS 3 rfl rfl (slS 4 rfl rfl (slS 5 rfl rfl (slS 6 rfl rfl (slS 7 rfl rfl (slS 8 rfl rfl (slS 9 rfl rfl (slL 0 (d := 0) rfl (trivial)))))))))))) ?_ ?_
      · show ∀ i ∈ [0], _
        refine zA (zC 0 _ rfl rfl hLo rfl rfl (fun _ _ _ _ => rfl) (fun b G w hb ho => zJ rfl (zG rfl (HSq1.get 9 rfl)) (zG rfl (HSq1.get 8 rfl)) (rb_lss hr3 _ _ _))) ?_
        exact zF
      clear hLo
      intro G a9 w9 hS hH
      have HS9 : Sl a9 59 [(34, .slice (some ⟨gt, 0, none⟩) (3) (3)), (0, .agg (FR () 6 ((t).sc))), (1, .pointer (some ((⟨g1_0, 0, none⟩ : Addr)))), (13, .bool false), (14, .slice (some ba) (7) (cn)), (15, .int .i64 (7)), (16, .int .i64 ((i : Int))), (17, .bool false), (35, .int .i64 (3)), (36, .int .i64 ((j : Int))), (37, .bool r3)] := hS
      have HH9 : Held w5 w9 [] := hH
      clear hS hH HSq1 HHq1
      refine then_ ?_
      refine wp_seq ?_
      cases r3
      · skip
        have hendj : j = 3 := by have := of_decide_eq_false hr3; omega
        have hqj := hpj
        rw [hendj] at hqj
        refine wp_cond_false (HS9.get 10 rfl) ?_
        refine wp_exit ?_
        refine zV ?_
        refine zV ?_
        refine inBlock_exit ?_
        refine then_ ?_
        refine wp_seq ?_
        have hLo : LOk [(0, 2, .val (.bool true))] := lok (by rfl) (by rfl)
        refine zK (wE := w5) (sz := 59) (n := 1) [0] [(34, .val (.slice (some ⟨gt, 0, none⟩) (3) (3))), (0, .val (.agg (FR () 6 ((t).sc)))), (1, .val (.pointer (some ((⟨g1_0, 0, none⟩ : Addr))))), (13, .val (.bool false)), (14, .val (.slice (some ba) (7) (cn))), (15, .val (.int .i64 (7))), (16, .val (.int .i64 ((i : Int)))), (17, .val (.bool false)), (35, .val (.int .i64 (3))), (36, .val (.int .i64 ((j : Int)))), (37, .val (.bool false)), (2, .val (.bool true))] [(0, 2, .val (.bool true))] [] rfl (by rfl) HH9 rfl rfl hLo rfl HS9 (slS 0 rfl rfl (slS 1 rfl rfl (slS 2 rfl rfl (slS 3 rfl rfl (slS 4 rfl rfl (slS 5 rfl rfl (slS 6 rfl rfl (slS 7 rfl rfl (slS 8 rfl rfl (slS 9 rfl rfl (slS 10 rfl rfl (slL 0 (d := 0) rfl (trivial))))))))))))) ?_ ?_
        · show ∀ i ∈ [0], _
          refine zA (zC 0 _ rfl rfl hLo rfl rfl (fun _ _ _ _ => rfl) (fun b G w hb ho => zD (.inr rfl) (rfl))) ?_
          exact zF
        clear hLo
        intro G a10 w10 hS hH
        have HS10 : Sl a10 59 [(34, .slice (some ⟨gt, 0, none⟩) (3) (3)), (0, .agg (FR () 6 ((t).sc))), (1, .pointer (some ((⟨g1_0, 0, none⟩ : Addr)))), (13, .bool false), (14, .slice (some ba) (7) (cn)), (15, .int .i64 (7)), (16, .int .i64 ((i : Int))), (17, .bool false), (35, .int .i64 (3)), (36, .int .i64 ((j : Int))), (37, .bool false), (2, .bool true)] := hS
        have HH10 : Held w5 w10 [] := hH
        clear hS hH HS9 HH9
        refine then_ ?_
        refine wp_ret ?_
        repeat (first | refine zS ?_ | refine zM ?_)
        have HH11 := Held.back HH6 HH10
        exact b_tmp rfl HS10.2.1 (HS10.get 11 rfl) ⟨bool_ret (valid_y hr1 hqi hqj), HH11.1⟩
      · skip
        have hltj : j < 3 := by have := of_decide_eq_true hr3; omega
        refine wp_cond_true (HS9.get 10 rfl) ?_
        refine wp_skip ?_
        refine then_ ?_
        refine wp_seq ?_
        refine wp_block ?_
        obtain ⟨xj, hxj, hcj⟩ := hTN j hltj
        refine wp_seq ?_
        have hLo : LOk [(0, 38, .val (.pointer (some (xj.add ((j) * 1))))), (1, 39, .val (.string (TN (j)))), (2, 8, .new 2 (fun g => .pointer (some ⟨g, 0, none⟩)))] := lok (by rfl) (by rfl)
        refine zK (wE := w5) (sz := 59) (n := 4) [0, 1, 3, 7] [(34, .val (.slice (some ⟨gt, 0, none⟩) (3) (3))), (0, .val (.agg (FR () 6 ((t).sc)))), (1, .val (.pointer (some ((⟨g1_0, 0, none⟩ : Addr))))), (13, .val (.bool false)), (14, .val (.slice (some ba) (7) (cn))), (15, .val (.int .i64 (7))), (16, .val (.int .i64 ((i : Int)))), (17, .val (.bool false)), (35, .val (.int .i64 (3))), (36, .val (.int .i64 ((j : Int)))), (37, .val (.bool true)), (8, .new 2 (fun g => .pointer (some ⟨g, 0, none⟩)))] [(0, 38, .val (.pointer (some (xj.add ((j) * 1))))), (1, 39, .val (.string (TN (j)))), (2, 8, .new 2 (fun g => .pointer (some ⟨g, 0, none⟩)))] [⟨0, some 2, some 3, (), 1, lsc [.s (ByteArray.empty)], upd (lsc [.s (ByteArray.empty)]) 0 (.s (TN (j))), 9⟩] rfl (by rfl) HH9 rfl rfl hLo rfl HS9 (slS 0 rfl rfl (slS 1 rfl rfl (slS 2 rfl rfl (slS 3 rfl rfl (slS 4 rfl rfl (slS 5 rfl rfl (slS 6 rfl rfl (slS 7 rfl rfl (slS 8 rfl rfl (slS 9 rfl rfl (slS 10 rfl rfl (slL 2 (d := 2) rfl (trivial))))))))))))) ?_ ?_
        · show ∀ i ∈ [0, 1, 2, 3], _
          refine zA (zC 0 _ rfl rfl hLo rfl rfl (fun _ _ _ _ => rfl) (fun b G w hb ho => zU rfl (zG rfl (HS9.get 0 rfl)) (zG rfl (HS9.get 9 rfl)) (index_sl Tryd.underlying32 (by kernel_rfl) hxj hltj _))) ?_
          refine zA (st_at1 1 (xj.add ((j) * 1)) _ rfl rfl rfl (fun _ _ _ _ => rfl) hLo rfl rfl Tryd.underlying9 rfl (hcj) (fun b G hb ho => zB hLo 0 rfl HS9.1 rfl (hb 0 (by rfl)))) ?_
          refine zA (st_alloc 2 0 () 1 9 (some 3) _ _ rfl rfl (fun _ _ _ _ => rfl) rfl hLo rfl rfl rfl rfl (by rfl) (fun b G w _ _ => by kernel_rfl)) ?_
          refine zA (st_put 0 _ rfl rfl rfl rfl (fun _ _ _ _ => rfl) rfl rfl rfl (by rfl) (fun b G w hb ho hr => exec_put1 hr (Nat.le_of_ble_eq_true rfl) (by kernel_rfl) rfl (zB hLo 2 rfl HS9.1 rfl (hb 2 (by rfl))) (zB hLo 1 rfl HS9.1 rfl (hb 1 (by rfl))))) ?_
          exact zF
        clear hLo
        intro G a12 w12 hS hH
        have HS12 : Sl a12 59 [(34, .slice (some ⟨gt, 0, none⟩) (3) (3)), (0, .agg (FR () 6 ((t).sc))), (1, .pointer (some ((⟨g1_0, 0, none⟩ : Addr)))), (13, .bool false), (14, .slice (some ba) (7) (cn)), (15, .int .i64 (7)), (16, .int .i64 ((i : Int))), (17, .bool false), (35, .int .i64 (3)), (36, .int .i64 ((j : Int))), (37, .bool true), (8, .pointer (some ⟨(G 2), 0, none⟩))] := hS
        have HH12 : Held w5 w12 [⟨(G 2), (), 1, upd (lsc [.s (ByteArray.empty)]) 0 (.s (TN (j))), 9⟩] := hH
        clear hS hH HS9 HH9
        generalize G 2 = g12_2 at HS12 HH12
        refine then_ ?_
        obtain ⟨r4, hr4⟩ : ∃ r : Bool, ((t.get (TN (j))).isSome) = r := ⟨_, rfl⟩
        refine wp_seq ?_
        have hLo : LOk [(0, 41, .val (.agg (FR () 6 ((t).sc)))), (1, 42, .val (.string (TN (j)))), (2, 43, .val (.tuple #[.agg (FR () 6 ((y).sc)), .bool r4])), (3, 40, .val (.tuple #[.agg (FR () 6 ((y).sc)), .bool r4])), (4, 44, .val (.agg (FR () 6 ((y).sc)))), (5, 45, .val (.bool r4)), (6, 9, .new 6 (fun g => .pointer (some ⟨g, 0, none⟩))), (8, 10, .val (.bool r4))] := lok (by rfl) (by rfl)
        refine zK (wE := w5) (sz := 59) (n := 9) [0, 1, 3, 7, 15, 31, 63, 127, 255] [(34, .val (.slice (some ⟨gt, 0, none⟩) (3) (3))), (0, .val (.agg (FR () 6 ((t).sc)))), (1, .val (.pointer (some ((⟨g1_0, 0, none⟩ : Addr))))), (13, .val (.bool false)), (14, .val (.slice (some ba) (7) (cn))), (15, .val (.int .i64 (7))), (16, .val (.int .i64 ((i : Int)))), (17, .val (.bool false)), (35, .val (.int .i64 (3))), (36, .val (.int .i64 ((j : Int)))), (37, .val (.bool true)), (8, .val (.pointer (some ⟨g12_2, 0, none⟩))), (9, .new 6 (fun g => .pointer (some ⟨g, 0, none⟩))), (10, .val (.bool r4))] [(0, 41, .val (.agg (FR () 6 ((t).sc)))), (1, 42, .val (.string (TN (j)))), (2, 43, .val (.tuple #[.agg (FR () 6 ((y).sc)), .bool r4])), (3, 40, .val (.tuple #[.agg (FR () 6 ((y).sc)), .bool r4])), (4, 44, .val (.agg (FR () 6 ((y).sc)))), (5, 45, .val (.bool r4)), (6, 9, .new 6 (fun g => .pointer (some ⟨g, 0, none⟩))), (8, 10, .val (.bool r4))] [⟨g12_2, none, none, (), 1, upd (lsc [.s (ByteArray.empty)]) 0 (.s (TN (j))), upd (lsc [.s (ByteArray.empty)]) 0 (.s (TN (j))), 9⟩, ⟨0, some 6, some 7, (), 6, lsc [.i .i64 (0), .b (false), .i .i64 (0), .s (ByteArray.empty), .sl (none) (0) (0), .sl (none) (0) (0)], (y).sc, 25⟩] rfl (by rfl) HH12 rfl rfl hLo rfl HS12 (slS 0 rfl rfl (slS 1 rfl rfl (slS 2 rfl rfl (slS 3 rfl rfl (slS 4 rfl rfl (slS 5 rfl rfl (slS 6 rfl rfl (slS 7 rfl rfl (slS 8 rfl rfl (slS 9 rfl rfl (slS 10 rfl rfl (slS 11 rfl rfl (slL 6 (d := 6) rfl (slL 7 (d := 8) rfl (trivial))))))))))))))) ?_ ?_
        · show ∀ i ∈ [0, 1, 2, 3, 4, 5, 6, 7, 8], _
          refine zA (st_at 0 ((⟨g1_0, 0, none⟩ : Addr)) rfl rfl rfl (fun _ _ _ _ => rfl) hLo rfl rfl Tryd.underlying25 (by kernel_rfl) rfl (row_at hRow7_0) (fun b G hb ho => zG rfl (HS12.get 2 rfl))) ?_
          refine zA (zW 1 0 _ _ rfl rfl rfl hLo rfl rfl (fun _ _ _ _ => rfl) (by rfl) (by rfl) (fun b G w hb ho hr => zP hr (Nat.le_of_ble_eq_true rfl) Tryd.underlying9 rfl rfl (zG rfl (HS12.get 11 rfl)))) ?_
          refine zA (st_call 2 _ #[.agg (FR () 6 ((t).sc)), .string (TN (j))] rfl rfl rfl (fun _ _ _ _ => rfl) hLo rfl rfl Tryd.func8 rfl rfl (fun b G hb ho => args2 (zB hLo 0 rfl HS12.1 rfl (hb 0 (by rfl))) (zB hLo 1 rfl HS12.1 rfl (hb 1 (by rfl)))) (fun w hw => (by have hq := get_calls (TN (j)) (hIn_7.below hw) hR.rise; rw [← hy, hr4] at hq; exact hq))) ?_
          refine zA (zC 3 _ rfl rfl hLo rfl rfl (fun _ _ _ _ => rfl) (fun b G w hb ho => zD (.inl rfl) (zB hLo 2 rfl HS12.1 rfl (hb 2 (by rfl))))) ?_
          refine zA (zC 4 _ rfl rfl hLo rfl rfl (fun _ _ _ _ => rfl) (fun b G w hb ho => exec_extract rfl (zB hLo 3 rfl HS12.1 rfl (hb 3 (by rfl))) (by rfl))) ?_
          refine zA (zC 5 _ rfl rfl hLo rfl rfl (fun _ _ _ _ => rfl) (fun b G w hb ho => exec_extract rfl (zB hLo 3 rfl HS12.1 rfl (hb 3 (by rfl))) (by rfl))) ?_
          refine zA (st_alloc 6 1 () 6 25 (some 7) _ _ rfl rfl (fun _ _ _ _ => rfl) rfl hLo rfl rfl rfl rfl (by rfl) (fun b G w _ _ => by kernel_rfl)) ?_
          refine zA (st_store 1 _ rfl rfl rfl rfl rfl (fun _ _ _ _ => rfl) rfl rfl rfl (by rfl) (by kernel_rfl) (fun b G hb ho => zB hLo 6 rfl HS12.1 rfl (hb 6 (by rfl))) (fun b G hb ho => zB hLo 4 rfl HS12.1 rfl (hb 4 (by rfl)))) ?_
          refine zA (zC 7 _ rfl rfl hLo rfl rfl (fun _ _ _ _ => rfl) (fun b G w hb ho => zD (.inr rfl) (zB hLo 5 rfl HS12.1 rfl (hb 5 (by rfl))))) ?_
          exact zF
        clear hLo
        intro G a13 w13 hS hH
        have HS13 : Sl a13 59 [(34, .slice (some ⟨gt, 0, none⟩) (3) (3)), (0, .agg (FR () 6 ((t).sc))), (1, .pointer (some ((⟨g1_0, 0, none⟩ : Addr)))), (13, .bool false), (14, .slice (some ba) (7) (cn)), (15, .int .i64 (7)), (16, .int .i64 ((i : Int))), (17, .bool false), (35, .int .i64 (3)), (36, .int .i64 ((j : Int))), (37, .bool true), (8, .pointer (some ⟨g12_2, 0, none⟩)), (9, .pointer (some ⟨(G 6), 0, none⟩)), (10, .bool r4)] := hS
        have HH13 : Held w5 w13 [⟨g12_2, (), 1, upd (lsc [.s (ByteArray.empty)]) 0 (.s (TN (j))), 9⟩, ⟨(G 6), (), 6, (y).sc, 25⟩] := hH
        clear hS hH HS12 HH12
        generalize G 6 = g13_6 at HS13 HH13
        refine then_ ?_
        cases r4
        · skip
          refine wp_seq ?_
          have hLo : LOk [(0, 46, .val (.bool false)), (1, 47, .val (.bool false)), (2, 48, .val (undef)), (3, 49, .val (undef)), (4, 50, .val (undef)), (5, 51, .val (undef)), (6, 52, .val (undef)), (7, 53, .val (undef)), (8, 54, .val (undef)), (9, 55, .val (undef)), (10, 56, .val (undef)), (11, 57, .val (.bool false))] := lok (by rfl) (by rfl)
          refine zK (wE := w5) (sz := 59) (n := 12) [0, 1, 3, 7, 15, 31, 63, 127, 255, 511, 1023, 2047] [(34, .val (.slice (some ⟨gt, 0, none⟩) (3) (3))), (0, .val (.agg (FR () 6 ((t).sc)))), (1, .val (.pointer (some ((⟨g1_0, 0, none⟩ : Addr))))), (13, .val (.bool false)), (14, .val (.slice (some ba) (7) (cn))), (15, .val (.int .i64 (7))), (16, .val (.int .i64 ((i : Int)))), (17, .val (.bool false)), (35, .val (.int .i64 (3))), (36, .val (.int .i64 ((j : Int)))), (37, .val (.bool true)), (8, .val (.pointer (some ⟨g12_2, 0, none⟩))), (9, .val (.pointer (some ⟨g13_6, 0, none⟩))), (10, .val (.bool false)), (57, .val (.bool false))] [(0, 46, .val (.bool false)), (1, 47, .val (.bool false)), (2, 48, .val (undef)), (3, 49, .val (undef)), (4, 50, .val (undef)), (5, 51, .val (undef)), (6, 52, .val (undef)), (7, 53, .val (undef)), (8, 54, .val (undef)), (9, 55, .val (undef)), (10, 56, .val (undef)), (11, 57, .val (.bool false))] [⟨g12_2, none, none, (), 1, upd (lsc [.s (ByteArray.empty)]) 0 (.s (TN (j))), upd (lsc [.s (ByteArray.empty)]) 0 (.s (TN (j))), 9⟩, ⟨g13_6, none, none, (), 6, (y).sc, (y).sc, 25⟩] rfl (by rfl) HH13 rfl rfl hLo rfl HS13 (slS 0 rfl rfl (slS 1 rfl rfl (slS 2 rfl rfl (slS 3 rfl rfl (slS 4 rfl rfl (slS 5 rfl rfl (slS 6 rfl rfl (slS 7 rfl rfl (slS 8 rfl rfl (slS 9 rfl rfl (slS 10 rfl rfl (slS 11 rfl rfl (slS 12 rfl rfl (slS 13 rfl rfl (slL 11 (d := 11) rfl (trivial)))))))))))))))) ?_ ?_
          · show ∀ i ∈ [0, 1, 2, 3, 4, 5, 6, 7, 8, 9, 10, 11], _
            refine zA (zC 0 _ rfl rfl hLo rfl rfl (fun _ _ _ _ => rfl) (fun b G w hb ho => zD (.inl rfl) (zG rfl (HS13.get 13 rfl)))) ?_
            refine zA (zC 1 _ rfl rfl hLo rfl rfl (fun _ _ _ _ => rfl) (fun b G w hb ho => zD (.inl rfl) (zB hLo 0 rfl HS13.1 rfl (hb 0 (by rfl))))) ?_
            refine zA (zL 2 rfl rfl hLo rfl rfl (fun b G hb ho => zE rfl rfl rfl HS13.1 rfl (zB hLo 1 rfl HS13.1 rfl (hb 1 (by rfl))) rfl)) ?_
            refine zA (zL 3 rfl rfl hLo rfl rfl (fun b G hb ho => zE rfl rfl rfl HS13.1 rfl (zB hLo 1 rfl HS13.1 rfl (hb 1 (by rfl))) rfl)) ?_
            refine zA (zL 4 rfl rfl hLo rfl rfl (fun b G hb ho => zE rfl rfl rfl HS13.1 rfl (zB hLo 1 rfl HS13.1 rfl (hb 1 (by rfl))) rfl)) ?_
            refine zA (zL 5 rfl rfl hLo rfl rfl (fun b G hb ho => zE rfl rfl rfl HS13.1 rfl (zB hLo 1 rfl HS13.1 rfl (hb 1 (by rfl))) rfl)) ?_
            refine zA (zL 6 rfl rfl hLo rfl rfl (fun b G hb ho => wanted_un rfl rfl rfl HS13.1 rfl (zB hLo 5 rfl HS13.1 rfl (hb 5 (by rfl))))) ?_
            refine zA (zL 7 rfl rfl hLo rfl rfl (fun b G hb ho => wanted_un rfl rfl rfl HS13.1 rfl (zB hLo 5 rfl HS13.1 rfl (hb 5 (by rfl))))) ?_
            refine zA (zL 8 rfl rfl hLo rfl rfl (fun b G hb ho => wanted_un rfl rfl rfl HS13.1 rfl (zB hLo 5 rfl HS13.1 rfl (hb 5 (by rfl))))) ?_
            refine zA (zL 9 rfl rfl hLo rfl rfl (fun b G hb ho => wanted_un rfl rfl rfl HS13.1 rfl (zB hLo 5 rfl HS13.1 rfl (hb 5 (by rfl))))) ?_
            refine zA (zL 10 rfl rfl hLo rfl rfl (fun b G hb ho => zE rfl rfl rfl HS13.1 rfl (zB hLo 1 rfl HS13.1 rfl (hb 1 (by rfl))) rfl)) ?_
            refine zA (zC 11 _ rfl rfl hLo rfl rfl (fun _ _ _ _ => rfl) (fun b G w hb ho => zO rfl (zB hLo 1 rfl HS13.1 rfl (hb 1 (by rfl))) (rfl))) ?_
            exact zF
          clear hLo
          intro G a14 w14 hS hH
          have HS14 : Sl a14 59 [(34, .slice (some ⟨gt, 0, none⟩) (3) (3)), (0, .agg (FR () 6 ((t).sc))), (1, .pointer (some ((⟨g1_0, 0, none⟩ : Addr)))), (13, .bool false), (14, .slice (some ba) (7) (cn)), (15, .int .i64 (7)), (16, .int .i64 ((i : Int))), (17, .bool false), (35, .int .i64 (3)), (36, .int .i64 ((j : Int))), (37, .bool true), (8, .pointer (some ⟨g12_2, 0, none⟩)), (9, .pointer (some ⟨g13_6, 0, none⟩)), (10, .bool false), (57, .bool false)] := hS
          have HH14 : Held w5 w14 [⟨g12_2, (), 1, upd (lsc [.s (ByteArray.empty)]) 0 (.s (TN (j))), 9⟩, ⟨g13_6, (), 6, (y).sc, 25⟩] := hH
          clear hS hH HS13 HH13
          refine then_ ?_
          refine wp_cond_false (HS14.get 14 rfl) ?_
          refine wp_skip ?_
          refine zT ?_
          refine then_ ?_
          have hLo : LOk [(0, 58, .val (.int .i64 (((j + 1 : Nat) : Int)))), (1, 36, .val (.int .i64 (((j + 1 : Nat) : Int))))] := lok (by rfl) (by rfl)
          refine zK (wE := w5) (sz := 59) (n := 2) [0, 1] [(34, .val (.slice (some ⟨gt, 0, none⟩) (3) (3))), (0, .val (.agg (FR () 6 ((t).sc)))), (1, .val (.pointer (some ((⟨g1_0, 0, none⟩ : Addr))))), (13, .val (.bool false)), (14, .val (.slice (some ba) (7) (cn))), (15, .val (.int .i64 (7))), (16, .val (.int .i64 ((i : Int)))), (17, .val (.bool false)), (35, .val (.int .i64 (3))), (37, .val (.bool true)), (8, .val (.pointer (some ⟨g12_2, 0, none⟩))), (9, .val (.pointer (some ⟨g13_6, 0, none⟩))), (10, .val (.bool false)), (57, .val (.bool false)), (36, .val (.int .i64 (((j + 1 : Nat) : Int))))] [(0, 58, .val (.int .i64 (((j + 1 : Nat) : Int)))), (1, 36, .val (.int .i64 (((j + 1 : Nat) : Int))))] [⟨g12_2, none, none, (), 1, upd (lsc [.s (ByteArray.empty)]) 0 (.s (TN (j))), upd (lsc [.s (ByteArray.empty)]) 0 (.s (TN (j))), 9⟩, ⟨g13_6, none, none, (), 6, (y).sc, (y).sc, 25⟩] rfl (by rfl) HH14 rfl rfl hLo rfl HS14 (slS 0 rfl rfl (slS 1 rfl rfl (slS 2 rfl rfl (slS 3 rfl rfl (slS 4 rfl rfl (slS 5 rfl rfl (slS 6 rfl rfl (slS 7 rfl rfl (slS 8 rfl rfl (slS 10 rfl rfl (slS 11 rfl rfl (slS 12 rfl rfl (slS 13 rfl rfl (slS 14 rfl rfl (slL 1 (d := 1) rfl (trivial)))))))))))))))) ?_ ?_
          · show ∀ i ∈ [0, 1], _
            refine zA (zC 0 _ rfl rfl hLo rfl rfl (fun _ _ _ _ => rfl) (fun b G w hb ho => zJ rfl (ev_pre hLo 1 rfl (ho 1 (by rfl)) (HS14.get 9 rfl)) (rfl) (rb_add (w_nat (by omega) (by omega)) _ _ _))) ?_
            refine zA (zC 1 _ rfl rfl hLo rfl rfl (fun _ _ _ _ => rfl) (fun b G w hb ho => zD (.inl rfl) (zB hLo 0 rfl HS14.1 rfl (hb 0 (by rfl))))) ?_
            exact zF
          clear hLo
          intro G a15 w15 hS hH
          have HS15 : Sl a15 59 [(34, .slice (some ⟨gt, 0, none⟩) (3) (3)), (0, .agg (FR () 6 ((t).sc))), (1, .pointer (some ((⟨g1_0, 0, none⟩ : Addr)))), (13, .bool false), (14, .slice (some ba) (7) (cn)), (15, .int .i64 (7)), (16, .int .i64 ((i : Int))), (17, .bool false), (35, .int .i64 (3)), (37, .bool true), (8, .pointer (some ⟨g12_2, 0, none⟩)), (9, .pointer (some ⟨g13_6, 0, none⟩)), (10, .bool false), (57, .bool false), (36, .int .i64 (((j + 1 : Nat) : Int)))] := hS
          have HH15 : Held w5 w15 [⟨g12_2, (), 1, upd (lsc [.s (ByteArray.empty)]) 0 (.s (TN (j))), 9⟩, ⟨g13_6, (), 6, (y).sc, 25⟩] := hH
          clear hS hH HS14 HH14
          refine then_ ?_
          have hSq1' : Sl _ 59 [(34, .slice (some ⟨gt, 0, none⟩) (3) (3)), (0, .agg (FR () 6 ((t).sc))), (1, .pointer (some ((⟨g1_0, 0, none⟩ : Addr)))), (13, .bool false), (14, .slice (some ba) (7) (cn)), (15, .int .i64 (7)), (16, .int .i64 ((i : Int))), (17, .bool false), (35, .int .i64 (3)), (36, .int .i64 (((j + 1 : Nat) : Int)))] := sl_keep HS15 [0, 1, 2, 3, 4, 5, 6, 7, 8, 14] (by rfl)
          have hHq1' : Held w5 _ [] := held_keep HH15 0 rfl
          exact ⟨⟨j + 1, by omega, allB_step hpj (tabV_no hr4), hSq1', hHq1'⟩, by rw [(hSq1'.get 9 rfl)]; show 3 - (((j + 1 : Nat) : Int)).toNat < 3 - j; omega⟩
        · skip
          obtain ⟨r5, hr5⟩ : ∃ r : Bool, ((((y).kind : Int) != 5)) = r := ⟨_, rfl⟩
          cases r5
          · skip
            obtain ⟨r6, hr6⟩ : ∃ r : Bool, (!allB (memV zY (TN j) y) y.ml) = r := ⟨_, rfl⟩
            refine wp_seq ?_
            have hLo : LOk [(0, 46, .val (.bool true)), (1, 47, .val (.bool true)), (2, 48, .val (.pointer (some ⟨g13_6, 0, none⟩))), (3, 49, .val (.int .i64 ((y).kind))), (4, 50, .val (.bool false)), (5, 51, .val (.bool false)), (6, 52, .val (.pointer (some ⟨g13_6, 5, none⟩))), (7, 53, .val (.slice ((y).xm) ((y).ml) ((y).cm))), (8, 54, .val (.func (.func 11) #[] #[.pointer (some ⟨g12_2, 0, none⟩)])), (9, 55, .val (.bool r6)), (10, 56, .val (.bool r6)), (11, 57, .val (.bool r6))] := lok (by rfl) (by rfl)
            refine zK (wE := w5) (sz := 59) (n := 12) [0, 1, 3, 7, 15, 31, 63, 127, 255, 511, 1023, 2047] [(34, .val (.slice (some ⟨gt, 0, none⟩) (3) (3))), (0, .val (.agg (FR () 6 ((t).sc)))), (1, .val (.pointer (some ((⟨g1_0, 0, none⟩ : Addr))))), (13, .val (.bool false)), (14, .val (.slice (some ba) (7) (cn))), (15, .val (.int .i64 (7))), (16, .val (.int .i64 ((i : Int)))), (17, .val (.bool false)), (35, .val (.int .i64 (3))), (36, .val (.int .i64 ((j : Int)))), (37, .val (.bool true)), (8, .val (.pointer (some ⟨g12_2, 0, none⟩))), (9, .val (.pointer (some ⟨g13_6, 0, none⟩))), (10, .val (.bool true)), (57, .val (.bool r6))] [(0, 46, .val (.bool true)), (1, 47, .val (.bool true)), (2, 48, .val (.pointer (some ⟨g13_6, 0, none⟩))), (3, 49, .val (.int .i64 ((y).kind))), (4, 50, .val (.bool false)), (5, 51, .val (.bool false)), (6, 52, .val (.pointer (some ⟨g13_6, 5, none⟩))), (7, 53, .val (.slice ((y).xm) ((y).ml) ((y).cm))), (8, 54, .val (.func (.func 11) #[] #[.pointer (some ⟨g12_2, 0, none⟩)])), (9, 55, .val (.bool r6)), (10, 56, .val (.bool r6)), (11, 57, .val (.bool r6))] [⟨g12_2, none, none, (), 1, upd (lsc [.s (ByteArray.empty)]) 0 (.s (TN (j))), upd (lsc [.s (ByteArray.empty)]) 0 (.s (TN (j))), 9⟩, ⟨g13_6, none, none, (), 6, (y).sc, (y).sc, 25⟩] rfl (by rfl) HH13 rfl rfl hLo rfl HS13 (slS 0 rfl rfl (slS 1 rfl rfl (slS 2 rfl rfl (slS 3 rfl rfl (slS 4 rfl rfl (slS 5 rfl rfl (slS 6 rfl rfl (slS 7 rfl rfl (slS 8 rfl rfl (slS 9 rfl rfl (slS 10 rfl rfl (slS 11 rfl rfl (slS 12 rfl rfl (slS 13 rfl rfl (slL 11 (d := 11) rfl (trivial)))))))))))))))) ?_ ?_
            · show ∀ i ∈ [0, 1, 2, 3, 4, 5, 6, 7, 8, 9, 10, 11], _
              refine zA (zC 0 _ rfl rfl hLo rfl rfl (fun _ _ _ _ => rfl) (fun b G w hb ho => zD (.inl rfl) (zG rfl (HS13.get 13 rfl)))) ?_
              refine zA (zC 1 _ rfl rfl hLo rfl rfl (fun _ _ _ _ => rfl) (fun b G w hb ho => zD (.inl rfl) (zB hLo 0 rfl HS13.1 rfl (hb 0 (by rfl))))) ?_
              refine zA (zC 2 _ rfl rfl hLo rfl rfl (fun b G hb ho => zE rfl rfl rfl HS13.1 rfl (zB hLo 1 rfl HS13.1 rfl (hb 1 (by rfl))) rfl) (fun b G w hb ho => zH rfl (zG rfl (HS13.get 12 rfl)) (by kernel_rfl))) ?_
              refine zA (zW 3 1 _ _ rfl rfl rfl hLo rfl rfl (fun b G hb ho => zE rfl rfl rfl HS13.1 rfl (zB hLo 1 rfl HS13.1 rfl (hb 1 (by rfl))) rfl) (by rfl) (by rfl) (fun b G w hb ho hr => zP hr (Nat.le_of_ble_eq_true rfl) Tryd.underlying3 rfl rfl (zB hLo 2 rfl HS13.1 rfl (hb 2 (by rfl))))) ?_
              refine zA (zC 4 _ rfl rfl hLo rfl rfl (fun b G hb ho => zE rfl rfl rfl HS13.1 rfl (zB hLo 1 rfl HS13.1 rfl (hb 1 (by rfl))) rfl) (fun b G w hb ho => zJ rfl (zB hLo 3 rfl HS13.1 rfl (hb 3 (by rfl))) (rfl) (rb_neq hr5 _ _ _))) ?_
              refine zA (zC 5 _ rfl rfl hLo rfl rfl (fun b G hb ho => zE rfl rfl rfl HS13.1 rfl (zB hLo 1 rfl HS13.1 rfl (hb 1 (by rfl))) rfl) (fun b G w hb ho => zD (.inl rfl) (zB hLo 4 rfl HS13.1 rfl (hb 4 (by rfl))))) ?_
              refine zA (zC 6 _ rfl rfl hLo rfl rfl (fun b G hb ho => zE rfl rfl rfl HS13.1 rfl (zB hLo 5 rfl HS13.1 rfl (hb 5 (by rfl))) rfl) (fun b G w hb ho => zH rfl (zG rfl (HS13.get 12 rfl)) (by kernel_rfl))) ?_
              refine zA (zW 7 1 _ _ rfl rfl rfl hLo rfl rfl (fun b G hb ho => zE rfl rfl rfl HS13.1 rfl (zB hLo 5 rfl HS13.1 rfl (hb 5 (by rfl))) rfl) (by rfl) (by rfl) (fun b G w hb ho hr => zP hr (Nat.le_of_ble_eq_true rfl) Tryd.underlying23 rfl rfl (zB hLo 6 rfl HS13.1 rfl (hb 6 (by rfl))))) ?_
              refine zA (zC 8 _ rfl rfl hLo rfl rfl (fun b G hb ho => zE rfl rfl rfl HS13.1 rfl (zB hLo 5 rfl HS13.1 rfl (hb 5 (by rfl))) rfl) (fun b G w hb ho => exec_makeFunc rfl (zG rfl (HS13.get 11 rfl)) (by kernel_rfl))) ?_
              refine zA (st_callRB 9 0 _ _ (fun G => #[.slice ((y).xm) ((y).ml) ((y).cm), .func (.func 11) #[] #[.pointer (some ⟨g12_2, 0, none⟩)]]) rfl rfl rfl rfl (fun b G hb ho => zE rfl rfl rfl HS13.1 rfl (zB hLo 5 rfl HS13.1 rfl (hb 5 (by rfl))) rfl) hLo rfl rfl (by rfl) (by rfl) Tryd.func10 rfl rfl (fun b G hb ho => args2 (zB hLo 7 rfl HS13.1 rfl (hb 7 (by rfl))) (zB hLo 8 rfl HS13.1 rfl (hb 8 (by rfl)))) (fun G w hw hr => (by have hq := ctf_calls (x := y) (TN (j)) (hIny.below hw) (row_str hr); rw [hr6] at hq; exact hq))) ?_
              refine zA (zC 10 _ rfl rfl hLo rfl rfl (fun b G hb ho => zE rfl rfl rfl HS13.1 rfl (zB hLo 1 rfl HS13.1 rfl (hb 1 (by rfl))) rfl) (fun b G w hb ho => zO rfl (zB hLo 5 rfl HS13.1 rfl (hb 5 (by rfl))) (zB hLo 9 rfl HS13.1 rfl (hb 9 (by rfl))))) ?_
              refine zA (zC 11 _ rfl rfl hLo rfl rfl (fun _ _ _ _ => rfl) (fun b G w hb ho => zO rfl (zB hLo 1 rfl HS13.1 rfl (hb 1 (by rfl))) (zB hLo 10 rfl HS13.1 rfl (hb 10 (by rfl))))) ?_
              exact zF
            clear hLo
            intro G a16 w16 hS hH
            have HS16 : Sl a16 59 [(34, .slice (some ⟨gt, 0, none⟩) (3) (3)), (0, .agg (FR () 6 ((t).sc))), (1, .pointer (some ((⟨g1_0, 0, none⟩ : Addr)))), (13, .bool false), (14, .slice (some ba) (7) (cn)), (15, .int .i64 (7)), (16, .int .i64 ((i : Int))), (17, .bool false), (35, .int .i64 (3)), (36, .int .i64 ((j : Int))), (37, .bool true), (8, .pointer (some ⟨g12_2, 0, none⟩)), (9, .pointer (some ⟨g13_6, 0, none⟩)), (10, .bool true), (57, .bool r6)] := hS
            have HH16 : Held w5 w16 [⟨g12_2, (), 1, upd (lsc [.s (ByteArray.empty)]) 0 (.s (TN (j))), 9⟩, ⟨g13_6, (), 6, (y).sc, 25⟩] := hH
            clear hS hH HS13 HH13
            refine then_ ?_
            cases r6
            · skip
              refine wp_cond_false (HS16.get 14 rfl) ?_
              refine wp_skip ?_
              refine zT ?_
              refine then_ ?_
              have hLo : LOk [(0, 58, .val (.int .i64 (((j + 1 : Nat) : Int)))), (1, 36, .val (.int .i64 (((j + 1 : Nat) : Int))))] := lok (by rfl) (by rfl)
              refine zK (wE := w5) (sz := 59) (n := 2) [0, 1] [(34, .val (.slice (some ⟨gt, 0, none⟩) (3) (3))), (0, .val (.agg (FR () 6 ((t).sc)))), (1, .val (.pointer (some ((⟨g1_0, 0, none⟩ : Addr))))), (13, .val (.bool false)), (14, .val (.slice (some ba) (7) (cn))), (15, .val (.int .i64 (7))), (16, .val (.int .i64 ((i : Int)))), (17, .val (.bool false)), (35, .val (.int .i64 (3))), (37, .val (.bool true)), (8, .val (.pointer (some ⟨g12_2, 0, none⟩))), (9, .val (.pointer (some ⟨g13_6, 0, none⟩))), (10, .val (.bool true)), (57, .val (.bool false)), (36, .val (.int .i64 (((j + 1 : Nat) : Int))))] [(0, 58, .val (.int .i64 (((j + 1 : Nat) : Int)))), (1, 36, .val (.int .i64 (((j + 1 : Nat) : Int))))] [⟨g12_2, none, none, (), 1, upd (lsc [.s (ByteArray.empty)]) 0 (.s (TN (j))), upd (lsc [.s (ByteArray.empty)]) 0 (.s (TN (j))), 9⟩, ⟨g13_6, none, none, (), 6, (y).sc, (y).sc, 25⟩] rfl (by rfl) HH16 rfl rfl hLo rfl HS16 (slS 0 rfl rfl (slS 1 rfl rfl (slS 2 rfl rfl (slS 3 rfl rfl (slS 4 rfl rfl (slS 5 rfl rfl (slS 6 rfl rfl (slS 7 rfl rfl (slS 8 rfl rfl (slS 10 rfl rfl (slS 11 rfl rfl (slS 12 rfl rfl (slS 13 rfl rfl (slS 14 rfl rfl (slL 1 (d := 1) rfl (trivial)))))))))))))))) ?_ ?_
              · show ∀ i ∈ [0, 1], _
                refine zA (zC 0 _ rfl rfl hLo rfl rfl (fun _ _ _ _ => rfl) (fun b G w hb ho => zJ rfl (ev_pre hLo 1 rfl (ho 1 (by rfl)) (HS16.get 9 rfl)) (rfl) (rb_add (w_nat (by omega) (by omega)) _ _ _))) ?_
                refine zA (zC 1 _ rfl rfl hLo rfl rfl (fun _ _ _ _ => rfl) (fun b G w hb ho => zD (.inl rfl) (zB hLo 0 rfl HS16.1 rfl (hb 0 (by rfl))))) ?_
                exact zF
              clear hLo
              intro G a17 w17 hS hH
              have HS17 : Sl a17 59 [(34, .slice (some ⟨gt, 0, none⟩) (3) (3)), (0, .agg (FR () 6 ((t).sc))), (1, .pointer (some ((⟨g1_0, 0, none⟩ : Addr)))), (13, .bool false), (14, .slice (some ba) (7) (cn)), (15, .int .i64 (7)), (16, .int .i64 ((i : Int))), (17, .bool false), (35, .int .i64 (3)), (37, .bool true), (8, .pointer (some ⟨g12_2, 0, none⟩)), (9, .pointer (some ⟨g13_6, 0, none⟩)), (10, .bool true), (57, .bool false), (36, .int .i64 (((j + 1 : Nat) : Int)))] := hS
              have HH17 : Held w5 w17 [⟨g12_2, (), 1, upd (lsc [.s (ByteArray.empty)]) 0 (.s (TN (j))), 9⟩, ⟨g13_6, (), 6, (y).sc, 25⟩] := hH
              clear hS hH HS16 HH16
              refine then_ ?_
              have hSq1' : Sl _ 59 [(34, .slice (some ⟨gt, 0, none⟩) (3) (3)), (0, .agg (FR () 6 ((t).sc))), (1, .pointer (some ((⟨g1_0, 0, none⟩ : Addr)))), (13, .bool false), (14, .slice (some ba) (7) (cn)), (15, .int .i64 (7)), (16, .int .i64 ((i : Int))), (17, .bool false), (35, .int .i64 (3)), (36, .int .i64 (((j + 1 : Nat) : Int)))] := sl_keep HS17 [0, 1, 2, 3, 4, 5, 6, 7, 8, 14] (by rfl)
              have hHq1' : Held w5 _ [] := held_keep HH17 0 rfl
              exact ⟨⟨j + 1, by omega, allB_step hpj ((by rw [tabV_some hy hr4, hr5, ← Bool.not_not (allB _ _), hr6]; rfl)), hSq1', hHq1'⟩, by rw [(hSq1'.get 9 rfl)]; show 3 - (((j + 1 : Nat) : Int)).toNat < 3 - j; omega⟩
            · skip
              refine wp_cond_true (HS16.get 14 rfl) ?_
              refine wp_seq ?_
              have hLo : LOk [(0, 2, .val (.bool false))] := lok (by rfl) (by rfl)
              refine zK (wE := w5) (sz := 59) (n := 1) [0] [(34, .val (.slice (some ⟨gt, 0, none⟩) (3) (3))), (0, .val (.agg (FR () 6 ((t).sc)))), (1, .val (.pointer (some ((⟨g1_0, 0, none⟩ : Addr))))), (13, .val (.bool false)), (14, .val (.slice (some ba) (7) (cn))), (15, .val (.int .i64 (7))), (16, .val (.int .i64 ((i : Int)))), (17, .val (.bool false)), (35, .val (.int .i64 (3))), (36, .val (.int .i64 ((j : Int)))), (37, .val (.bool true)), (8, .val (.pointer (some ⟨g12_2, 0, none⟩))), (9, .val (.pointer (some ⟨g13_6, 0, none⟩))), (10, .val (.bool true)), (57, .val (.bool true)), (2, .val (.bool false))] [(0, 2, .val (.bool false))] [⟨g12_2, none, none, (), 1, upd (lsc [.s (ByteArray.empty)]) 0 (.s (TN (j))), upd (lsc [.s (ByteArray.empty)]) 0 (.s (TN (j))), 9⟩, ⟨g13_6, none, none, (), 6, (y).sc, (y).sc, 25⟩] rfl (by rfl) HH16 rfl rfl hLo rfl HS16 (slS 0 rfl rfl (slS 1 rfl rfl (slS 2 rfl rfl (slS 3 rfl rfl (slS 4 rfl rfl (slS 5 rfl rfl (slS 6 rfl rfl (slS 7 rfl rfl (slS 8 rfl rfl (slS 9 rfl rfl (slS 10 rfl rfl (slS 11 rfl rfl (slS 12 rfl rfl (slS 13 rfl rfl (slS 14 rfl rfl (slL 0 (d := 0) rfl (trivial))))))))))))))))) ?_ ?_
              · show ∀ i ∈ [0], _
                refine zA (zC 0 _ rfl rfl hLo rfl rfl (fun _ _ _ _ => rfl) (fun b G w hb ho => zD (.inr rfl) (rfl))) ?_
                exact zF
              clear hLo
              intro G a18 w18 hS hH
              have HS18 : Sl a18 59 [(34, .slice (some ⟨gt, 0, none⟩) (3) (3)), (0, .agg (FR () 6 ((t).sc))), (1, .pointer (some ((⟨g1_0, 0, none⟩ : Addr)))), (13, .bool false), (14, .slice (some ba) (7) (cn)), (15, .int .i64 (7)), (16, .int .i64 ((i : Int))), (17, .bool false), (35, .int .i64 (3)), (36, .int .i64 ((j : Int))), (37, .bool true), (8, .pointer (some ⟨g12_2, 0, none⟩)), (9, .pointer (some ⟨g13_6, 0, none⟩)), (10, .bool true), (57, .bool true), (2, .bool false)] := hS
              have HH18 : Held w5 w18 [⟨g12_2, (), 1, upd (lsc [.s (ByteArray.empty)]) 0 (.s (TN (j))), 9⟩, ⟨g13_6, (), 6, (y).sc, 25⟩] := hH
              clear hS hH HS16 HH16
              refine then_ ?_
              refine wp_ret ?_
              repeat (first | refine zS ?_ | refine zM ?_)
              have HH19 := Held.back HH6 HH18
              exact b_tmp rfl HS18.2.1 (HS18.get 15 rfl) ⟨bool_ret (valid_t hltj (by rw [tabV_some hy hr4, hr5, ← Bool.not_not (allB _ _), hr6]; rfl)), HH19.1⟩
          · skip
            refine wp_seq ?_
            have hLo : LOk [(0, 46, .val (.bool true)), (1, 47, .val (.bool true)), (2, 48, .val (.pointer (some ⟨g13_6, 0, none⟩))), (3, 49, .val (.int .i64 ((y).kind))), (4, 50, .val (.bool true)), (5, 51, .val (.bool true)), (6, 52, .val (undef)), (7, 53, .val (undef)), (8, 54, .val (undef)), (9, 55, .val (undef)), (10, 56, .val (.bool true)), (11, 57, .val (.bool true))] := lok (by rfl) (by rfl)
            refine zK (wE := w5) (sz := 59) (n := 12) [0, 1, 3, 7, 15, 31, 63, 127, 255, 511, 1023, 2047] [(34, .val (.slice (some ⟨gt, 0, none⟩) (3) (3))), (0, .val (.agg (FR () 6 ((t).sc)))), (1, .val (.pointer (some ((⟨g1_0, 0, none⟩ : Addr))))), (13, .val (.bool false)), (14, .val (.slice (some ba) (7) (cn))), (15, .val (.int .i64 (7))), (16, .val (.int .i64 ((i : Int)))), (17, .val (.bool false)), (35, .val (.int .i64 (3))), (36, .val (.int .i64 ((j : Int)))), (37, .val (.bool true)), (8, .val (.pointer (some ⟨g12_2, 0, none⟩))), (9, .val (.pointer (some ⟨g13_6, 0, none⟩))), (10, .val (.bool true)), (57, .val (.bool true))] [(0, 46, .val (.bool true)), (1, 47, .val (.bool true)), (2, 48, .val (.pointer (some ⟨g13_6, 0, none⟩))), (3, 49, .val (.int .i64 ((y).kind))), (4, 50, .val (.bool true)), (5, 51, .val (.bool true)), (6, 52, .val (undef)), (7, 53, .val (undef)), (8, 54, .val (undef)), (9, 55, .val (undef)), (10, 56, .val (.bool true)), (11, 57, .val (.bool true))] [⟨g12_2, none, none, (), 1, upd (lsc [.s (ByteArray.empty)]) 0 (.s (TN (j))), upd (lsc [.s (ByteArray.empty)]) 0 (.s (TN (j))), 9⟩, ⟨g13_6, none, none, (), 6, (y).sc, (y).sc, 25⟩] rfl (by rfl) HH13 rfl rfl hLo rfl HS13 (slS 0 rfl rfl (slS 1 rfl rfl (slS 2 rfl rfl (slS 3 rfl rfl (slS 4 rfl rfl (slS 5 rfl rfl (slS 6 rfl rfl (slS 7 rfl rfl (slS 8 rfl rfl (slS 9 rfl rfl (slS 10 rfl rfl (slS 11 rfl rfl (slS 12 rfl rfl (slS 13 rfl rfl (slL 11 (d := 11) rfl (trivial)))))))))))))))) ?_ ?_
            · show ∀ i ∈ [0, 1, 2, 3, 4, 5, 6, 7, 8, 9, 10, 11], _
              refine zA (zC 0 _ rfl rfl hLo rfl rfl (fun _ _ _ _ => rfl) (fun b G w hb ho => zD (.inl rfl) (zG rfl (HS13.get 13 rfl)))) ?_
              refine zA (zC 1 _ rfl rfl hLo rfl rfl (fun _ _ _ _ => rfl) (fun b G w hb ho => zD (.inl rfl) (zB hLo 0 rfl HS13.1 rfl (hb 0 (by rfl))))) ?_
              refine zA (zC 2 _ rfl rfl hLo rfl rfl (fun b G hb ho => zE rfl rfl rfl HS13.1 rfl (zB hLo 1 rfl HS13.1 rfl (hb 1 (by rfl))) rfl) (fun b G w hb ho => zH rfl (zG rfl (HS13.get 12 rfl)) (by kernel_rfl))) ?_
              refine zA (zW 3 1 _ _ rfl rfl rfl hLo rfl rfl (fun b G hb ho => zE rfl rfl rfl HS13.1 rfl (zB hLo 1 rfl HS13.1 rfl (hb 1 (by rfl))) rfl) (by rfl) (by rfl) (fun b G w hb ho hr => zP hr (Nat.le_of_ble_eq_true rfl) Tryd.underlying3 rfl rfl (zB hLo 2 rfl HS13.1 rfl (hb 2 (by rfl))))) ?_
              refine zA (zC 4 _ rfl rfl hLo rfl rfl (fun b G hb ho => zE rfl rfl rfl HS13.1 rfl (zB hLo 1 rfl HS13.1 rfl (hb 1 (by rfl))) rfl) (fun b G w hb ho => zJ rfl (zB hLo 3 rfl HS13.1 rfl (hb 3 (by rfl))) (rfl) (rb_neq hr5 _ _ _))) ?_
              refine zA (zC 5 _ rfl rfl hLo rfl rfl (fun b G hb ho => zE rfl rfl rfl HS13.1 rfl (zB hLo 1 rfl HS13.1 rfl (hb 1 (by rfl))) rfl) (fun b G w hb ho => zD (.inl rfl) (zB hLo 4 rfl HS13.1 rfl (hb 4 (by rfl))))) ?_
              refine zA (zL 6 rfl rfl hLo rfl rfl (fun b G hb ho => zE rfl rfl rfl HS13.1 rfl (zB hLo 5 rfl HS13.1 rfl (hb 5 (by rfl))) rfl)) ?_
              refine zA (zL 7 rfl rfl hLo rfl rfl (fun b G hb ho => zE rfl rfl rfl HS13.1 rfl (zB hLo 5 rfl HS13.1 rfl (hb 5 (by rfl))) rfl)) ?_
              refine zA (zL 8 rfl rfl hLo rfl rfl (fun b G hb ho => zE rfl rfl rfl HS13.1 rfl (zB hLo 5 rfl HS13.1 rfl (hb 5 (by rfl))) rfl)) ?_
              refine zA (zL 9 rfl rfl hLo rfl rfl (fun b G hb ho => zE rfl rfl rfl HS13.1 rfl (zB hLo 5 rfl HS13.1 rfl (hb 5 (by rfl))) rfl)) ?_
              refine zA (zC 10 _ rfl rfl hLo rfl rfl (fun b G hb ho => zE rfl rfl rfl HS13.1 rfl (zB hLo 1 rfl HS13.1 rfl (hb 1 (by rfl))) rfl) (fun b G w hb ho => zO rfl (zB hLo 5 rfl HS13.1 rfl (hb 5 (by rfl))) (rfl))) ?_
              refine zA (zC 11 _ rfl rfl hLo rfl rfl (fun _ _ _ _ => rfl) (fun b G w hb ho => zO rfl (zB hLo 1 rfl HS13.1 rfl (hb 1 (by rfl))) (zB hLo 10 rfl HS13.1 rfl (hb 10 (by rfl))))) ?_
              exact zF
            clear hLo
            intro G a20 w20 hS hH
            have HS20 : Sl a20 59 [(34, .slice (some ⟨gt, 0, none⟩) (3) (3)), (0, .agg (FR () 6 ((t).sc))), (1, .pointer (some ((⟨g1_0, 0, none⟩ : Addr)))), (13, .bool false), (14, .slice (some ba) (7) (cn)), (15, .int .i64 (7)), (16, .int .i64 ((i : Int))), (17, .bool false), (35, .int .i64 (3)), (36, .int .i64 ((j : Int))), (37, .bool true), (8, .pointer (some ⟨g12_2, 0, none⟩)), (9, .pointer (some ⟨g13_6, 0, none⟩)), (10, .bool true), (57, .bool true)] := hS
            have HH20 : Held w5 w20 [⟨g12_2, (), 1, upd (lsc [.s (ByteArray.empty)]) 0 (.s (TN (j))), 9⟩, ⟨g13_6, (), 6, (y).sc, 25⟩] := hH
            clear hS hH HS13 HH13
            refine then_ ?_
            refine wp_cond_true (HS20.get 14 rfl) ?_
            refine wp_seq ?_
            have hLo : LOk [(0, 2, .val (.bool false))] := lok (by rfl) (by rfl)
            refine zK (wE := w5) (sz := 59) (n := 1) [0] [(34, .val (.slice (some ⟨gt, 0, none⟩) (3) (3))), (0, .val (.agg (FR () 6 ((t).sc)))), (1, .val (.pointer (some ((⟨g1_0, 0, none⟩ : Addr))))), (13, .val (.bool false)), (14, .val (.slice (some ba) (7) (cn))), (15, .val (.int .i64 (7))), (16, .val (.int .i64 ((i : Int)))), (17, .val (.bool false)), (35, .val (.int .i64 (3))), (36, .val (.int .i64 ((j : Int)))), (37, .val (.bool true)), (8, .val (.pointer (some ⟨g12_2, 0, none⟩))), (9, .val (.pointer (some ⟨g13_6, 0, none⟩))), (10, .val (.bool true)), (57, .val (.bool true)), (2, .val (.bool false))] [(0, 2, .val (.bool false))] [⟨g12_2, none, none, (), 1, upd (lsc [.s (ByteArray.empty)]) 0 (.s (TN (j))), upd (lsc [.s (ByteArray.empty)]) 0 (.s (TN (j))), 9⟩, ⟨g13_6, none, none, (), 6, (y).sc, (y).sc, 25⟩] rfl (by rfl) HH20 rfl rfl hLo rfl HS20 (slS 0 rfl rfl (slS 1 rfl rfl (slS 2 rfl rfl (slS 3 rfl rfl (slS 4 rfl rfl (slS 5 rfl rfl (slS 6 rfl rfl (slS 7 rfl rfl (slS 8 rfl rfl (slS 9 rfl rfl (slS 10 rfl rfl (slS 11 rfl rfl (slS 12 rfl rfl (slS 13 rfl rfl (slS 14 rfl rfl (slL 0 (d := 0) rfl (trivial))))))))))))))))) ?_ ?_
            · show ∀ i ∈ [0], _
              refine zA (zC 0 _ rfl rfl hLo rfl rfl (fun _ _ _ _ => rfl) (fun b G w hb ho => zD (.inr rfl) (rfl))) ?_
              exact zF
            clear hLo
            intro G a21 w21 hS hH
            have HS21 : Sl a21 59 [(34, .slice (some ⟨gt, 0, none⟩) (3) (3)), (0, .agg (FR () 6 ((t).sc))), (1, .pointer (some ((⟨g1_0, 0, none⟩ : Addr)))), (13, .bool false), (14, .slice (some ba) (7) (cn)), (15, .int .i64 (7)), (16, .int .i64 ((i : Int))), (17, .bool false), (35, .int .i64 (3)), (36, .int .i64 ((j : Int))), (37, .bool true), (8, .pointer (some ⟨g12_2, 0, none⟩)), (9, .pointer (some ⟨g13_6, 0, none⟩)), (10, .bool true), (57, .bool true), (2, .bool false)] := hS
            have HH21 : Held w5 w21 [⟨g12_2, (), 1, upd (lsc [.s (ByteArray.empty)]) 0 (.s (TN (j))), 9⟩, ⟨g13_6, (), 6, (y).sc, 25⟩] := hH
            clear hS hH HS20 HH20
            refine then_ ?_
            refine wp_ret ?_
            repeat (first | refine zS ?_ | refine zM ?_)
            have HH22 := Held.back HH6 HH21
            exact b_tmp rfl HS21.2.1 (HS21.get 15 rfl) ⟨bool_ret (valid_t hltj (by rw [tabV_some hy hr4, hr5]; rfl)), HH22.1⟩
    · skip
      have hlti : i < 7 := by have := of_decide_eq_true hr2; omega
      refine wp_cond_true (HS4.get 6 rfl) ?_
      refine wp_skip ?_
      refine then_ ?_
      refine wp_seq ?_
      refine wp_block ?_
      refine wp_seq ?_
      have hLo : LOk [(0, 18, .val (.pointer (some (ba.add ((i) * 2))))), (1, 19, .val (.agg (FR () 2 (lsc (ent (i)))))), (2, 4, .new 2 (fun g => .pointer (some ⟨g, 0, none⟩)))] := lok (by rfl) (by rfl)
      refine zK (wE := w) (sz := 59) (n := 4) [0, 1, 3, 7] [(0, .val (.agg (FR () 6 ((t).sc)))), (1, .val (.pointer (some ⟨g1_0, 0, none⟩))), (13, .val (.bool false)), (14, .val (.slice (some ba) (7) (cn))), (15, .val (.int .i64 (7))), (16, .val (.int .i64 ((i : Int)))), (17, .val (.bool true)), (4, .new 2 (fun g => .pointer (some ⟨g, 0, none⟩)))] [(0, 18, .val (.pointer (some (ba.add ((i) * 2))))), (1, 19, .val (.agg (FR () 2 (lsc (ent (i)))))), (2, 4, .new 2 (fun g => .pointer (some ⟨g, 0, none⟩)))] [⟨g1_0, none, none, (), 6, (t).sc, (t).sc, 25⟩, ⟨0, some 2, some 3, (), 2, lsc [.s (ByteArray.empty), .i .i64 (0)], lsc (ent (i)), 29⟩] rfl (by rfl) HH4 rfl rfl hLo rfl HS4 (slS 0 rfl rfl (slS 1 rfl rfl (slS 2 rfl rfl (slS 3 rfl rfl (slS 4 rfl rfl (slS 5 rfl rfl (slS 6 rfl rfl (slL 2 (d := 2) rfl (trivial))))))))) ?_ ?_
      · show ∀ i ∈ [0, 1, 2, 3], _
        refine zA (zC 0 _ rfl rfl hLo rfl rfl (fun _ _ _ _ => rfl) (fun b G w hb ho => zU rfl (zG rfl (HS4.get 3 rfl)) (zG rfl (HS4.get 5 rfl)) (index_sl Tryd.underlying28 (by kernel_rfl) rfl hlti _))) ?_
        refine zA (st_at 1 (ba.add ((i) * 2)) rfl rfl rfl (fun _ _ _ _ => rfl) hLo rfl rfl Tryd.underlying29 (by kernel_rfl) rfl (Tab.at hT hlti) (fun b G hb ho => zB hLo 0 rfl HS4.1 rfl (hb 0 (by rfl)))) ?_
        refine zA (st_alloc 2 1 () 2 29 (some 3) _ _ rfl rfl (fun _ _ _ _ => rfl) rfl hLo rfl rfl rfl rfl (by rfl) (fun b G w _ _ => by kernel_rfl)) ?_
        refine zA (st_store 1 _ rfl rfl rfl rfl rfl (fun _ _ _ _ => rfl) rfl rfl rfl (by rfl) (by kernel_rfl) (fun b G hb ho => zB hLo 2 rfl HS4.1 rfl (hb 2 (by rfl))) (fun b G hb ho => zB hLo 1 rfl HS4.1 rfl (hb 1 (by rfl)))) ?_
        exact zF
      clear hLo
      intro G a23 w23 hS hH
      have HS23 : Sl a23 59 [(0, .agg (FR () 6 ((t).sc))), (1, .pointer (some ⟨g1_0, 0, none⟩)), (13, .bool false), (14, .slice (some ba) (7) (cn)), (15, .int .i64 (7)), (16, .int .i64 ((i : Int))), (17, .bool true), (4, .pointer (some ⟨(G 2), 0, none⟩))] := hS
      have HH23 : Held w w23 [⟨g1_0, (), 6, (t).sc, 25⟩, ⟨(G 2), (), 2, lsc (ent (i)), 29⟩] := hH
      clear hS hH HS4 HH4
      generalize G 2 = g23_2 at HS23 HH23
      refine then_ ?_
      obtain ⟨r7, hr7⟩ : ∃ r : Bool, ((t.get (NM (i))).isSome) = r := ⟨_, rfl⟩
      refine wp_seq ?_
      have hLo : LOk [(0, 21, .val (.agg (FR () 6 ((t).sc)))), (1, 22, .val (.pointer (some ⟨g23_2, 0, none⟩))), (2, 23, .val (.string (NM (i)))), (3, 24, .val (.tuple #[.agg (FR () 6 ((x).sc)), .bool r7])), (4, 20, .val (.tuple #[.agg (FR () 6 ((x).sc)), .bool r7])), (5, 25, .val (.agg (FR () 6 ((x).sc)))), (6, 26, .val (.bool r7)), (7, 5, .new 7 (fun g => .pointer (some ⟨g, 0, none⟩))), (9, 6, .val (.bool r7))] := lok (by rfl) (by rfl)
      refine zK (wE := w) (sz := 59) (n := 10) [0, 1, 3, 7, 15, 31, 63, 127, 255, 511] [(0, .val (.agg (FR () 6 ((t).sc)))), (1, .val (.pointer (some ⟨g1_0, 0, none⟩))), (13, .val (.bool false)), (14, .val (.slice (some ba) (7) (cn))), (15, .val (.int .i64 (7))), (16, .val (.int .i64 ((i : Int)))), (17, .val (.bool true)), (4, .val (.pointer (some ⟨g23_2, 0, none⟩))), (5, .new 7 (fun g => .pointer (some ⟨g, 0, none⟩))), (6, .val (.bool r7))] [(0, 21, .val (.agg (FR () 6 ((t).sc)))), (1, 22, .val (.pointer (some ⟨g23_2, 0, none⟩))), (2, 23, .val (.string (NM (i)))), (3, 24, .val (.tuple #[.agg (FR () 6 ((x).sc)), .bool r7])), (4, 20, .val (.tuple #[.agg (FR () 6 ((x).sc)), .bool r7])), (5, 25, .val (.agg (FR () 6 ((x).sc)))), (6, 26, .val (.bool r7)), (7, 5, .new 7 (fun g => .pointer (some ⟨g, 0, none⟩))), (9, 6, .val (.bool r7))] [⟨g1_0, none, none, (), 6, (t).sc, (t).sc, 25⟩, ⟨g23_2, none, none, (), 2, lsc (ent (i)), lsc (ent (i)), 29⟩, ⟨0, some 7, some 8, (), 6, lsc [.i .i64 (0), .b (false), .i .i64 (0), .s (ByteArray.empty), .sl (none) (0) (0), .sl (none) (0) (0)], (x).sc, 25⟩] rfl (by rfl) HH23 rfl rfl hLo rfl HS23 (slS 0 rfl rfl (slS 1 rfl rfl (slS 2 rfl rfl (slS 3 rfl rfl (slS 4 rfl rfl (slS 5 rfl rfl (slS 6 rfl rfl (slS 7 rfl rfl (slL 7 (d := 7) rfl (slL 8 (d := 9) rfl (trivial))))))))))) ?_ ?_
      · show ∀ i ∈ [0, 1, 2, 3, 4, 5, 6, 7, 8, 9], _
        refine zA (st_row0 0 0 _ rfl rfl rfl rfl (fun _ _ _ _ => rfl) hLo rfl rfl rfl (by rfl) Tryd.underlying25 (by kernel_rfl) rfl (fun b G hb ho => zG rfl (HS23.get 1 rfl))) ?_
        refine zA (zC 1 _ rfl rfl hLo rfl rfl (fun _ _ _ _ => rfl) (fun b G w hb ho => zH rfl (zG rfl (HS23.get 7 rfl)) (by kernel_rfl))) ?_
        refine zA (zW 2 1 _ _ rfl rfl rfl hLo rfl rfl (fun _ _ _ _ => rfl) (by rfl) (by rfl) (fun b G w hb ho hr => zP hr (Nat.le_of_ble_eq_true rfl) Tryd.underlying9 rfl rfl (zB hLo 1 rfl HS23.1 rfl (hb 1 (by rfl))))) ?_
        refine zA (st_call 3 _ #[.agg (FR () 6 ((t).sc)), .string (NM (i))] rfl rfl rfl (fun _ _ _ _ => rfl) hLo rfl rfl Tryd.func8 rfl rfl (fun b G hb ho => args2 (zB hLo 0 rfl HS23.1 rfl (hb 0 (by rfl))) (zB hLo 2 rfl HS23.1 rfl (hb 2 (by rfl)))) (fun w hw => (by have hq := get_calls (NM (i)) (hIn.below hw) hR.rise; rw [← hx, hr7] at hq; exact hq))) ?_
        refine zA (zC 4 _ rfl rfl hLo rfl rfl (fun _ _ _ _ => rfl) (fun b G w hb ho => zD (.inl rfl) (zB hLo 3 rfl HS23.1 rfl (hb 3 (by rfl))))) ?_
        refine zA (zC 5 _ rfl rfl hLo rfl rfl (fun _ _ _ _ => rfl) (fun b G w hb ho => exec_extract rfl (zB hLo 4 rfl HS23.1 rfl (hb 4 (by rfl))) (by rfl))) ?_
        refine zA (zC 6 _ rfl rfl hLo rfl rfl (fun _ _ _ _ => rfl) (fun b G w hb ho => exec_extract rfl (zB hLo 4 rfl HS23.1 rfl (hb 4 (by rfl))) (by rfl))) ?_
        refine zA (st_alloc 7 2 () 6 25 (some 8) _ _ rfl rfl (fun _ _ _ _ => rfl) rfl hLo rfl rfl rfl rfl (by rfl) (fun b G w _ _ => by kernel_rfl)) ?_
        refine zA (st_store 2 _ rfl rfl rfl rfl rfl (fun _ _ _ _ => rfl) rfl rfl rfl (by rfl) (by kernel_rfl) (fun b G hb ho => zB hLo 7 rfl HS23.1 rfl (hb 7 (by rfl))) (fun b G hb ho => zB hLo 5 rfl HS23.1 rfl (hb 5 (by rfl)))) ?_
        refine zA (zC 8 _ rfl rfl hLo rfl rfl (fun _ _ _ _ => rfl) (fun b G w hb ho => zD (.inr rfl) (zB hLo 6 rfl HS23.1 rfl (hb 6 (by rfl))))) ?_
        exact zF
      clear hLo
      intro G a24 w24 hS hH
      have HS24 : Sl a24 59 [(0, .agg (FR () 6 ((t).sc))), (1, .pointer (some ⟨g1_0, 0, none⟩)), (13, .bool false), (14, .slice (some ba) (7) (cn)), (15, .int .i64 (7)), (16, .int .i64 ((i : Int))), (17, .bool true), (4, .pointer (some ⟨g23_2, 0, none⟩)), (5, .pointer (some ⟨(G 7), 0, none⟩)), (6, .bool r7)] := hS
      have HH24 : Held w w24 [⟨g1_0, (), 6, (t).sc, 25⟩, ⟨g23_2, (), 2, lsc (ent (i)), 29⟩, ⟨(G 7), (), 6, (x).sc, 25⟩] := hH
      clear hS hH HS23 HH23
      generalize G 7 = g24_7 at HS24 HH24
      refine then_ ?_
      cases r7
      · skip
        refine wp_seq ?_
        have hLo : LOk [(0, 27, .val (.bool false)), (1, 28, .val (.bool false)), (2, 29, .val (undef)), (3, 30, .val (undef)), (4, 31, .val (undef)), (5, 32, .val (.bool false))] := lok (by rfl) (by rfl)
        refine zK (wE := w) (sz := 59) (n := 6) [0, 1, 3, 7, 15, 31] [(0, .val (.agg (FR () 6 ((t).sc)))), (1, .val (.pointer (some ⟨g1_0, 0, none⟩))), (13, .val (.bool false)), (14, .val (.slice (some ba) (7) (cn))), (15, .val (.int .i64 (7))), (16, .val (.int .i64 ((i : Int)))), (17, .val (.bool true)), (4, .val (.pointer (some ⟨g23_2, 0, none⟩))), (5, .val (.pointer (some ⟨g24_7, 0, none⟩))), (6, .val (.bool false)), (32, .val (.bool false))] [(0, 27, .val (.bool false)), (1, 28, .val (.bool false)), (2, 29, .val (undef)), (3, 30, .val (undef)), (4, 31, .val (undef)), (5, 32, .val (.bool false))] [⟨g1_0, none, none, (), 6, (t).sc, (t).sc, 25⟩, ⟨g23_2, none, none, (), 2, lsc (ent (i)), lsc (ent (i)), 29⟩, ⟨g24_7, none, none, (), 6, (x).sc, (x).sc, 25⟩] rfl (by rfl) HH24 rfl rfl hLo rfl HS24 (slS 0 rfl rfl (slS 1 rfl rfl (slS 2 rfl rfl (slS 3 rfl rfl (slS 4 rfl rfl (slS 5 rfl rfl (slS 6 rfl rfl (slS 7 rfl rfl (slS 8 rfl rfl (slS 9 rfl rfl (slL 5 (d := 5) rfl (trivial)))))))))))) ?_ ?_
        · show ∀ i ∈ [0, 1, 2, 3, 4, 5], _
          refine zA (zC 0 _ rfl rfl hLo rfl rfl (fun _ _ _ _ => rfl) (fun b G w hb ho => zD (.inl rfl) (zG rfl (HS24.get 9 rfl)))) ?_
          refine zA (zC 1 _ rfl rfl hLo rfl rfl (fun _ _ _ _ => rfl) (fun b G w hb ho => zD (.inl rfl) (zB hLo 0 rfl HS24.1 rfl (hb 0 (by rfl))))) ?_
          refine zA (zL 2 rfl rfl hLo rfl rfl (fun b G hb ho => zE rfl rfl rfl HS24.1 rfl (zB hLo 1 rfl HS24.1 rfl (hb 1 (by rfl))) rfl)) ?_
          refine zA (zL 3 rfl rfl hLo rfl rfl (fun b G hb ho => zE rfl rfl rfl HS24.1 rfl (zB hLo 1 rfl HS24.1 rfl (hb 1 (by rfl))) rfl)) ?_
          refine zA (zL 4 rfl rfl hLo rfl rfl (fun b G hb ho => zE rfl rfl rfl HS24.1 rfl (zB hLo 1 rfl HS24.1 rfl (hb 1 (by rfl))) rfl)) ?_
          refine zA (zC 5 _ rfl rfl hLo rfl rfl (fun _ _ _ _ => rfl) (fun b G w hb ho => zO rfl (zB hLo 1 rfl HS24.1 rfl (hb 1 (by rfl))) (rfl))) ?_
          exact zF
        clear hLo
        intro G a25 w25 hS hH
        have HS25 : Sl a25 59 [(0, .agg (FR () 6 ((t).sc))), (1, .pointer (some ⟨g1_0, 0, none⟩)), (13, .bool false), (14, .slice (some ba) (7) (cn)), (15, .int .i64 (7)), (16, .int .i64 ((i : Int))), (17, .bool true), (4, .pointer (some ⟨g23_2, 0, none⟩)), (5, .pointer (some ⟨g24_7, 0, none⟩)), (6, .bool false), (32, .bool false)] := hS
        have HH25 : Held w w25 [⟨g1_0, (), 6, (t).sc, 25⟩, ⟨g23_2, (), 2, lsc (ent (i)), 29⟩, ⟨g24_7, (), 6, (x).sc, 25⟩] := hH
        clear hS hH HS24 HH24
        refine then_ ?_
        refine wp_cond_false (HS25.get 10 rfl) ?_
        refine wp_skip ?_
        refine zT ?_
        refine then_ ?_
        have hLo : LOk [(0, 33, .val (.int .i64 (((i + 1 : Nat) : Int)))), (1, 16, .val (.int .i64 (((i + 1 : Nat) : Int))))] := lok (by rfl) (by rfl)
        refine zK (wE := w) (sz := 59) (n := 2) [0, 1] [(0, .val (.agg (FR () 6 ((t).sc)))), (1, .val (.pointer (some ⟨g1_0, 0, none⟩))), (13, .val (.bool false)), (14, .val (.slice (some ba) (7) (cn))), (15, .val (.int .i64 (7))), (17, .val (.bool true)), (4, .val (.pointer (some ⟨g23_2, 0, none⟩))), (5, .val (.pointer (some ⟨g24_7, 0, none⟩))), (6, .val (.bool false)), (32, .val (.bool false)), (16, .val (.int .i64 (((i + 1 : Nat) : Int))))] [(0, 33, .val (.int .i64 (((i + 1 : Nat) : Int)))), (1, 16, .val (.int .i64 (((i + 1 : Nat) : Int))))] [⟨g1_0, none, none, (), 6, (t).sc, (t).sc, 25⟩, ⟨g23_2, none, none, (), 2, lsc (ent (i)), lsc (ent (i)), 29⟩, ⟨g24_7, none, none, (), 6, (x).sc, (x).sc, 25⟩] rfl (by rfl) HH25 rfl rfl hLo rfl HS25 (slS 0 rfl rfl (slS 1 rfl rfl (slS 2 rfl rfl (slS 3 rfl rfl (slS 4 rfl rfl (slS 6 rfl rfl (slS 7 rfl rfl (slS 8 rfl rfl (slS 9 rfl rfl (slS 10 rfl rfl (slL 1 (d := 1) rfl (trivial)))))))))))) ?_ ?_
        · show ∀ i ∈ [0, 1], _
          refine zA (zC 0 _ rfl rfl hLo rfl rfl (fun _ _ _ _ => rfl) (fun b G w hb ho => zJ rfl (ev_pre hLo 1 rfl (ho 1 (by rfl)) (HS25.get 5 rfl)) (rfl) (rb_add (w_nat (by omega) (by omega)) _ _ _))) ?_
          refine zA (zC 1 _ rfl rfl hLo rfl rfl (fun _ _ _ _ => rfl) (fun b G w hb ho => zD (.inl rfl) (zB hLo 0 rfl HS25.1 rfl (hb 0 (by rfl))))) ?_
          exact zF
        clear hLo
        intro G a26 w26 hS hH
        have HS26 : Sl a26 59 [(0, .agg (FR () 6 ((t).sc))), (1, .pointer (some ⟨g1_0, 0, none⟩)), (13, .bool false), (14, .slice (some ba) (7) (cn)), (15, .int .i64 (7)), (17, .bool true), (4, .pointer (some ⟨g23_2, 0, none⟩)), (5, .pointer (some ⟨g24_7, 0, none⟩)), (6, .bool false), (32, .bool false), (16, .int .i64 (((i + 1 : Nat) : Int)))] := hS
        have HH26 : Held w w26 [⟨g1_0, (), 6, (t).sc, 25⟩, ⟨g23_2, (), 2, lsc (ent (i)), 29⟩, ⟨g24_7, (), 6, (x).sc, 25⟩] := hH
        clear hS hH HS25 HH25
        refine then_ ?_
        have hSq0' : Sl _ 59 [(0, .agg (FR () 6 ((t).sc))), (1, .pointer (some ⟨g1_0, 0, none⟩)), (13, .bool false), (14, .slice (some ba) (7) (cn)), (15, .int .i64 (7)), (16, .int .i64 (((i + 1 : Nat) : Int)))] := sl_keep HS26 [0, 1, 2, 3, 4, 10] (by rfl)
        have hHq0' : Held w _ [⟨g1_0, (), 6, (t).sc, 25⟩] := held_keep HH26 1 rfl
        exact ⟨⟨i + 1, by omega, allB_step hpi (nameV_no hr7), hSq0', hHq0'⟩, by rw [(hSq0'.get 5 rfl)]; show 7 - (((i + 1 : Nat) : Int)).toNat < 7 - i; omega⟩
      · skip
        obtain ⟨r8, hr8⟩ : ∃ r : Bool, ((((x).kind : Int) != 2)) = r := ⟨_, rfl⟩
        refine wp_seq ?_
        have hLo : LOk [(0, 27, .val (.bool true)), (1, 28, .val (.bool true)), (2, 29, .val (.pointer (some ⟨g24_7, 0, none⟩))), (3, 30, .val (.int .i64 ((x).kind))), (4, 31, .val (.bool r8)), (5, 32, .val (.bool r8))] := lok (by rfl) (by rfl)
        refine zK (wE := w) (sz := 59) (n := 6) [0, 1, 3, 7, 15, 31] [(0, .val (.agg (FR () 6 ((t).sc)))), (1, .val (.pointer (some ⟨g1_0, 0, none⟩))), (13, .val (.bool false)), (14, .val (.slice (some ba) (7) (cn))), (15, .val (.int .i64 (7))), (16, .val (.int .i64 ((i : Int)))), (17, .val (.bool true)), (4, .val (.pointer (some ⟨g23_2, 0, none⟩))), (5, .val (.pointer (some ⟨g24_7, 0, none⟩))), (6, .val (.bool true)), (32, .val (.bool r8))] [(0, 27, .val (.bool true)), (1, 28, .val (.bool true)), (2, 29, .val (.pointer (some ⟨g24_7, 0, none⟩))), (3, 30, .val (.int .i64 ((x).kind))), (4, 31, .val (.bool r8)), (5, 32, .val (.bool r8))] [⟨g1_0, none, none, (), 6, (t).sc, (t).sc, 25⟩, ⟨g23_2, none, none, (), 2, lsc (ent (i)), lsc (ent (i)), 29⟩, ⟨g24_7, none, none, (), 6, (x).sc, (x).sc, 25⟩] rfl (by rfl) HH24 rfl rfl hLo rfl HS24 (slS 0 rfl rfl (slS 1 rfl rfl (slS 2 rfl rfl (slS 3 rfl rfl (slS 4 rfl rfl (slS 5 rfl rfl (slS 6 rfl rfl (slS 7 rfl rfl (slS 8 rfl rfl (slS 9 rfl rfl (slL 5 (d := 5) rfl (trivial)))))))))))) ?_ ?_
        · show ∀ i ∈ [0, 1, 2, 3, 4, 5], _
          refine zA (zC 0 _ rfl rfl hLo rfl rfl (fun _ _ _ _ => rfl) (fun b G w hb ho => zD (.inl rfl) (zG rfl (HS24.get 9 rfl)))) ?_
          refine zA (zC 1 _ rfl rfl hLo rfl rfl (fun _ _ _ _ => rfl) (fun b G w hb ho => zD (.inl rfl) (zB hLo 0 rfl HS24.1 rfl (hb 0 (by rfl))))) ?_
          refine zA (zC 2 _ rfl rfl hLo rfl rfl (fun b G hb ho => zE rfl rfl rfl HS24.1 rfl (zB hLo 1 rfl HS24.1 rfl (hb 1 (by rfl))) rfl) (fun b G w hb ho => zH rfl (zG rfl (HS24.get 8 rfl)) (by kernel_rfl))) ?_
          refine zA (zW 3 2 _ _ rfl rfl rfl hLo rfl rfl (fun b G hb ho => zE rfl rfl rfl HS24.1 rfl (zB hLo 1 rfl HS24.1 rfl (hb 1 (by rfl))) rfl) (by rfl) (by rfl) (fun b G w hb ho hr => zP hr (Nat.le_of_ble_eq_true rfl) Tryd.underlying3 rfl rfl (zB hLo 2 rfl HS24.1 rfl (hb 2 (by rfl))))) ?_
          refine zA (zC 4 _ rfl rfl hLo rfl rfl (fun b G hb ho => zE rfl rfl rfl HS24.1 rfl (zB hLo 1 rfl HS24.1 rfl (hb 1 (by rfl))) rfl) (fun b G w hb ho => zJ rfl (zB hLo 3 rfl HS24.1 rfl (hb 3 (by rfl))) (rfl) (rb_neq hr8 _ _ _))) ?_
          refine zA (zC 5 _ rfl rfl hLo rfl rfl (fun _ _ _ _ => rfl) (fun b G w hb ho => zO rfl (zB hLo 1 rfl HS24.1 rfl (hb 1 (by rfl))) (zB hLo 4 rfl HS24.1 rfl (hb 4 (by rfl))))) ?_
          exact zF
        clear hLo
        intro G a27 w27 hS hH
        have HS27 : Sl a27 59 [(0, .agg (FR () 6 ((t).sc))), (1, .pointer (some ⟨g1_0, 0, none⟩)), (13, .bool false), (14, .slice (some ba) (7) (cn)), (15, .int .i64 (7)), (16, .int .i64 ((i : Int))), (17, .bool true), (4, .pointer (some ⟨g23_2, 0, none⟩)), (5, .pointer (some ⟨g24_7, 0, none⟩)), (6, .bool true), (32, .bool r8)] := hS
        have HH27 : Held w w27 [⟨g1_0, (), 6, (t).sc, 25⟩, ⟨g23_2, (), 2, lsc (ent (i)), 29⟩, ⟨g24_7, (), 6, (x).sc, 25⟩] := hH
        clear hS hH HS24 HH24
        refine then_ ?_
        cases r8
        · skip
          refine wp_cond_false (HS27.get 10 rfl) ?_
          refine wp_skip ?_
          refine zT ?_
          refine then_ ?_
          have hLo : LOk [(0, 33, .val (.int .i64 (((i + 1 : Nat) : Int)))), (1, 16, .val (.int .i64 (((i + 1 : Nat) : Int))))] := lok (by rfl) (by rfl)
          refine zK (wE := w) (sz := 59) (n := 2) [0, 1] [(0, .val (.agg (FR () 6 ((t).sc)))), (1, .val (.pointer (some ⟨g1_0, 0, none⟩))), (13, .val (.bool false)), (14, .val (.slice (some ba) (7) (cn))), (15, .val (.int .i64 (7))), (17, .val (.bool true)), (4, .val (.pointer (some ⟨g23_2, 0, none⟩))), (5, .val (.pointer (some ⟨g24_7, 0, none⟩))), (6, .val (.bool true)), (32, .val (.bool false)), (16, .val (.int .i64 (((i + 1 : Nat) : Int))))] [(0, 33, .val (.int .i64 (((i + 1 : Nat) : Int)))), (1, 16, .val (.int .i64 (((i + 1 : Nat) : Int))))] [⟨g1_0, none, none, (), 6, (t).sc, (t).sc, 25⟩, ⟨g23_2, none, none, (), 2, lsc (ent (i)), lsc (ent (i)), 29⟩, ⟨g24_7, none, none, (), 6, (x).sc, (x).sc, 25⟩] rfl (by rfl) HH27 rfl rfl hLo rfl HS27 (slS 0 rfl rfl (slS 1 rfl rfl (slS 2 rfl rfl (slS 3 rfl rfl (slS 4 rfl rfl (slS 6 rfl rfl (slS 7 rfl rfl (slS 8 rfl rfl (slS 9 rfl rfl (slS 10 rfl rfl (slL 1 (d := 1) rfl (trivial)))))))))))) ?_ ?_
          · show ∀ i ∈ [0, 1], _
            refine zA (zC 0 _ rfl rfl hLo rfl rfl (fun _ _ _ _ => rfl) (fun b G w hb ho => zJ rfl (ev_pre hLo 1 rfl (ho 1 (by rfl)) (HS27.get 5 rfl)) (rfl) (rb_add (w_nat (by omega) (by omega)) _ _ _))) ?_
            refine zA (zC 1 _ rfl rfl hLo rfl rfl (fun _ _ _ _ => rfl) (fun b G w hb ho => zD (.inl rfl) (zB hLo 0 rfl HS27.1 rfl (hb 0 (by rfl))))) ?_
            exact zF
          clear hLo
          intro G a28 w28 hS hH
          have HS28 : Sl a28 59 [(0, .agg (FR () 6 ((t).sc))), (1, .pointer (some ⟨g1_0, 0, none⟩)), (13, .bool false), (14, .slice (some ba) (7) (cn)), (15, .int .i64 (7)), (17, .bool true), (4, .pointer (some ⟨g23_2, 0, none⟩)), (5, .pointer (some ⟨g24_7, 0, none⟩)), (6, .bool true), (32, .bool false), (16, .int .i64 (((i + 1 : Nat) : Int)))] := hS
          have HH28 : Held w w28 [⟨g1_0, (), 6, (t).sc, 25⟩, ⟨g23_2, (), 2, lsc (ent (i)), 29⟩, ⟨g24_7, (), 6, (x).sc, 25⟩] := hH
          clear hS hH HS27 HH27
          refine then_ ?_
          have hSq0' : Sl _ 59 [(0, .agg (FR () 6 ((t).sc))), (1, .pointer (some ⟨g1_0, 0, none⟩)), (13, .bool false), (14, .slice (some ba) (7) (cn)), (15, .int .i64 (7)), (16, .int .i64 (((i + 1 : Nat) : Int)))] := sl_keep HS28 [0, 1, 2, 3, 4, 10] (by rfl)
          have hHq0' : Held w _ [⟨g1_0, (), 6, (t).sc, 25⟩] := held_keep HH28 1 rfl
          exact ⟨⟨i + 1, by omega, allB_step hpi (nameV_some hx hr7 hr8), hSq0', hHq0'⟩, by rw [(hSq0'.get 5 rfl)]; show 7 - (((i + 1 : Nat) : Int)).toNat < 7 - i; omega⟩
        · skip
          refine wp_cond_true (HS27.get 10 rfl) ?_
          refine wp_seq ?_
          have hLo : LOk [(0, 2, .val (.bool false))] := lok (by rfl) (by rfl)
          refine zK (wE := w) (sz := 59) (n := 1) [0] [(0, .val (.agg (FR () 6 ((t).sc)))), (1, .val (.pointer (some ⟨g1_0, 0, none⟩))), (13, .val (.bool false)), (14, .val (.slice (some ba) (7) (cn))), (15, .val (.int .i64 (7))), (16, .val (.int .i64 ((i : Int)))), (17, .val (.bool true)), (4, .val (.pointer (some ⟨g23_2, 0, none⟩))), (5, .val (.pointer (some ⟨g24_7, 0, none⟩))), (6, .val (.bool true)), (32, .val (.bool true)), (2, .val (.bool false))] [(0, 2, .val (.bool false))] [⟨g1_0, none, none, (), 6, (t).sc, (t).sc, 25⟩, ⟨g23_2, none, none, (), 2, lsc (ent (i)), lsc (ent (i)), 29⟩, ⟨g24_7, none, none, (), 6, (x).sc, (x).sc, 25⟩] rfl (by rfl) HH27 rfl rfl hLo rfl HS27 (slS 0 rfl rfl (slS 1 rfl rfl (slS 2 rfl rfl (slS 3 rfl rfl (slS 4 rfl rfl (slS 5 rfl rfl (slS 6 rfl rfl (slS 7 rfl rfl (slS 8 rfl rfl (slS 9 rfl rfl (slS 10 rfl rfl (slL 0 (d := 0) rfl (trivial))))))))))))) ?_ ?_
          · show ∀ i ∈ [0], _
            refine zA (zC 0 _ rfl rfl hLo rfl rfl (fun _ _ _ _ => rfl) (fun b G w hb ho => zD (.inr rfl) (rfl))) ?_
            exact zF
          clear hLo
          intro G a29 w29 hS hH
          have HS29 : Sl a29 59 [(0, .agg (FR () 6 ((t).sc))), (1, .pointer (some ⟨g1_0, 0, none⟩)), (13, .bool false), (14, .slice (some ba) (7) (cn)), (15, .int .i64 (7)), (16, .int .i64 ((i : Int))), (17, .bool true), (4, .pointer (some ⟨g23_2, 0, none⟩)), (5, .pointer (some ⟨g24_7, 0, none⟩)), (6, .bool true), (32, .bool true), (2, .bool false)] := hS
          have HH29 : Held w w29 [⟨g1_0, (), 6, (t).sc, 25⟩, ⟨g23_2, (), 2, lsc (ent (i)), 29⟩, ⟨g24_7, (), 6, (x).sc, 25⟩] := hH
          clear hS hH HS27 HH27
          refine then_ ?_
          refine wp_ret ?_
          repeat (first | refine zS ?_ | refine zM ?_)
          exact b_tmp rfl HS29.2.1 (HS29.get 11 rfl) ⟨bool_ret (valid_n hlti (nameV_some hx hr7 hr8)), HH29.1⟩
  · skip
    refine wp_cond_true (HS2.get 3 rfl) ?_
    refine wp_seq ?_
    have hLo : LOk [(0, 2, .val (.bool false))] := lok (by rfl) (by rfl)
    refine zK (wE := w) (sz := 59) (n := 1) [0] [(0, .val (.agg (FR () 6 ((t).sc)))), (1, .val (.pointer (some ⟨g1_0, 0, none⟩))), (13, .val (.bool true)), (2, .val (.bool false))] [(0, 2, .val (.bool false))] [⟨g1_0, none, none, (), 6, (t).sc, (t).sc, 25⟩] rfl (by rfl) HH2 rfl rfl hLo rfl HS2 (slS 0 rfl rfl (slS 1 rfl rfl (slS 3 rfl rfl (slL 0 (d := 0) rfl (trivial))))) ?_ ?_
    · show ∀ i ∈ [0], _
      refine zA (zC 0 _ rfl rfl hLo rfl rfl (fun _ _ _ _ => rfl) (fun b G w hb ho => zD (.inr rfl) (rfl))) ?_
      exact zF
    clear hLo
    intro G a30 w30 hS hH
    have HS30 : Sl a30 59 [(0, .agg (FR () 6 ((t).sc))), (1, .pointer (some ⟨g1_0, 0, none⟩)), (13, .bool true), (2, .bool false)] := hS
    have HH30 : Held w w30 [⟨g1_0, (), 6, (t).sc, 25⟩] := hH
    clear hS hH HS2 HH2
    refine then_ ?_
    refine wp_ret ?_
    repeat (first | refine zS ?_ | refine zM ?_)
    exact b_tmp rfl HS30.2.1 (HS30.get 3 rfl) ⟨bool_ret (valid_k hr1), HH30.1⟩
set_option maxHeartbeats 4000000 in
theorem rvalid_calls {w : World} {t : T} (hIn : In w t) : Calls Tryd.prog 7 #[.agg (FR () 6 ((t).sc))] w fun e w' => e = .returned (.bool (rvalidB zY t)) ∧ Below w.heap.size w w' := by
  have hb47 := hIn.own.2.2.2.2.1
  unfold reach47 at hb47
  refine enter_ 78 Tryd.func7 rfl rfl (fun a0 hS => ?_)
  have HS0 : Sl a0 78 [(0, .agg (FR () 6 ((t).sc)))] := hS
  have HH0 : Held w w [] := Held.first w
  clear hS
  refine wp_seq ?_
  have hLo : LOk [(0, 1, .new 0 (fun g => .pointer (some ⟨g, 0, none⟩))), (1, 2, .val (.bool false))] := lok (by rfl) (by rfl)
  refine zK (wE := w) (sz := 78) (n := 2) [0, 1] [(0, .val (.agg (FR () 6 ((t).sc)))), (1, .new 0 (fun g => .pointer (some ⟨g, 0, none⟩))), (2, .val (.bool false))] [(0, 1, .new 0 (fun g => .pointer (some ⟨g, 0, none⟩))), (1, 2, .val (.bool false))] [⟨0, some 0, none, (), 6, (t).sc, (t).sc, 25⟩] rfl (by rfl) HH0 rfl rfl hLo rfl HS0 (slS 0 rfl rfl (slL 0 (d := 0) rfl (slL 1 (d := 1) rfl (trivial)))) ?_ ?_
  · show ∀ i ∈ [0, 1], _
    refine zA (st_alloc 0 0 () 6 25 none _ _ rfl rfl (fun _ _ _ _ => rfl) rfl hLo rfl rfl rfl rfl (by rfl) (fun b G w hb ho => exec_box rfl (zG rfl (HS0.get 0 rfl)) (by kernel_rfl))) ?_
    refine zA (zC 1 _ rfl rfl hLo rfl rfl (fun _ _ _ _ => rfl) (fun b G w hb ho => zD (.inr rfl) (rfl))) ?_
    exact zF
  clear hLo
  intro G a1 w1 hS hH
  have HS1 : Sl a1 78 [(0, .agg (FR () 6 ((t).sc))), (1, .pointer (some ⟨(G 0), 0, none⟩)), (2, .bool false)] := hS
  have HH1 : Held w w1 [⟨(G 0), (), 6, (t).sc, 25⟩] := hH
  clear hS hH HS0 HH0
  generalize G 0 = g1_0 at HS1 HH1
  refine then_ ?_
  refine wp_seq ?_
  obtain ⟨r1, hr1⟩ : ∃ r : Bool, ((((t).kind : Int) != 5)) = r := ⟨_, rfl⟩
  refine wp_seq ?_
  have hLo : LOk [(0, 9, .val (.pointer (some ⟨g1_0, 0, none⟩))), (1, 10, .val (.int .i64 ((t).kind))), (2, 11, .val (.bool r1))] := lok (by rfl) (by rfl)
  refine zK (wE := w) (sz := 78) (n := 3) [0, 1, 3] [(0, .val (.agg (FR () 6 ((t).sc)))), (1, .val (.pointer (some ⟨g1_0, 0, none⟩))), (2, .val (.bool false)), (11, .val (.bool r1))] [(0, 9, .val (.pointer (some ⟨g1_0, 0, none⟩))), (1, 10, .val (.int .i64 ((t).kind))), (2, 11, .val (.bool r1))] [⟨g1_0, none, none, (), 6, (t).sc, (t).sc, 25⟩] rfl (by rfl) HH1 rfl rfl hLo rfl HS1 (slS 0 rfl rfl (slS 1 rfl rfl (slS 2 rfl rfl (slL 2 (d := 2) rfl (trivial))))) ?_ ?_
  · show ∀ i ∈ [0, 1, 2], _
    refine zA (zC 0 _ rfl rfl hLo rfl rfl (fun _ _ _ _ => rfl) (fun b G w hb ho => zH rfl (zG rfl (HS1.get 1 rfl)) (by kernel_rfl))) ?_
    refine zA (zW 1 0 _ _ rfl rfl rfl hLo rfl rfl (fun _ _ _ _ => rfl) (by rfl) (by rfl) (fun b G w hb ho hr => zP hr (Nat.le_of_ble_eq_true rfl) Tryd.underlying3 rfl rfl (zB hLo 0 rfl HS1.1 rfl (hb 0 (by rfl))))) ?_
    refine zA (zC 2 _ rfl rfl hLo rfl rfl (fun _ _ _ _ => rfl) (fun b G w hb ho => zJ rfl (zB hLo 1 rfl HS1.1 rfl (hb 1 (by rfl))) (rfl) (rb_neq hr1 _ _ _))) ?_
    exact zF
  clear hLo
  intro G a2 w2 hS hH
  have HS2 : Sl a2 78 [(0, .agg (FR () 6 ((t).sc))), (1, .pointer (some ⟨g1_0, 0, none⟩)), (2, .bool false), (11, .bool r1)] := hS
  have HH2 : Held w w2 [⟨g1_0, (), 6, (t).sc, 25⟩] := hH
  clear hS hH HS1 HH1
  refine then_ ?_
  cases r1
  · skip
    refine wp_cond_false (HS2.get 3 rfl) ?_
    refine wp_skip ?_
    refine then_ ?_
    refine wp_seq ?_
    refine wp_seq ?_
    have hLo : LOk [(0, 12, .val (.pointer (some ⟨g1_0, 5, none⟩))), (1, 13, .val (.slice ((t).xm) ((t).ml) ((t).cm))), (2, 14, .val (.int .i64 (((t).ml : Int)))), (3, 15, .val (.int .i64 (0)))] := lok (by rfl) (by rfl)
    refine zK (wE := w) (sz := 78) (n := 4) [0, 1, 3, 7] [(0, .val (.agg (FR () 6 ((t).sc)))), (1, .val (.pointer (some ⟨g1_0, 0, none⟩))), (2, .val (.bool false)), (11, .val (.bool false)), (13, .val (.slice ((t).xm) ((t).ml) ((t).cm))), (14, .val (.int .i64 (((t).ml : Int)))), (15, .val (.int .i64 (0)))] [(0, 12, .val (.pointer (some ⟨g1_0, 5, none⟩))), (1, 13, .val (.slice ((t).xm) ((t).ml) ((t).cm))), (2, 14, .val (.int .i64 (((t).ml : Int)))), (3, 15, .val (.int .i64 (0)))] [⟨g1_0, none, none, (), 6, (t).sc, (t).sc, 25⟩] rfl (by rfl) HH2 rfl rfl hLo rfl HS2 (slS 0 rfl rfl (slS 1 rfl rfl (slS 2 rfl rfl (slS 3 rfl rfl (slL 1 (d := 1) rfl (slL 2 (d := 2) rfl (slL 3 (d := 3) rfl (trivial)))))))) ?_ ?_
    · show ∀ i ∈ [0, 1, 2, 3], _
      refine zA (zC 0 _ rfl rfl hLo rfl rfl (fun _ _ _ _ => rfl) (fun b G w hb ho => zH rfl (zG rfl (HS2.get 1 rfl)) (by kernel_rfl))) ?_
      refine zA (zW 1 0 _ _ rfl rfl rfl hLo rfl rfl (fun _ _ _ _ => rfl) (by rfl) (by rfl) (fun b G w hb ho hr => zP hr (Nat.le_of_ble_eq_true rfl) Tryd.underlying23 rfl rfl (zB hLo 0 rfl HS2.1 rfl (hb 0 (by rfl))))) ?_
      refine zA (zC 2 _ rfl rfl hLo rfl rfl (fun _ _ _ _ => rfl) (fun b G w hb ho => exec_lenL Tryd.underlying23 rfl (zB hLo 1 rfl HS2.1 rfl (hb 1 (by rfl))))) ?_
      refine zA (zC 3 _ rfl rfl hLo rfl rfl (fun _ _ _ _ => rfl) (fun b G w hb ho => zD (.inl rfl) (rfl))) ?_
      exact zF
    clear hLo
    intro G a3 w3 hS hH
    have HS3 : Sl a3 78 [(0, .agg (FR () 6 ((t).sc))), (1, .pointer (some ⟨g1_0, 0, none⟩)), (2, .bool false), (11, .bool false), (13, .slice ((t).xm) ((t).ml) ((t).cm)), (14, .int .i64 (((t).ml : Int))), (15, .int .i64 (0))] := hS
    have HH3 : Held w w3 [⟨g1_0, (), 6, (t).sc, 25⟩] := hH
    clear hS hH HS2 HH2
    refine then_ ?_
    refine wp_block ?_
    have hSq0 : Sl _ 78 [(0, .agg (FR () 6 ((t).sc))), (1, .pointer (some ⟨g1_0, 0, none⟩)), (11, .bool false), (13, .slice ((t).xm) ((t).ml) ((t).cm)), (14, .int .i64 (((t).ml : Int))), (15, .int .i64 (0))] := sl_keep HS3 [0, 1, 3, 4, 5, 6] (by rfl)
    refine wp_loop (fun a w' => ∃ i : Nat, i ≤ t.ml ∧ allB (memR zY t) i = true ∧ Sl a 78 [(0, .agg (FR () 6 ((t).sc))), (1, .pointer (some ⟨g1_0, 0, none⟩)), (11, .bool false), (13, .slice ((t).xm) ((t).ml) ((t).cm)), (14, .int .i64 (((t).ml : Int))), (15, .int .i64 ((i : Int)))] ∧ Held w w' [⟨g1_0, (), 6, (t).sc, 25⟩]) (fun a w' => t.ml - (intOf (a.eval (.tmp 15))).toNat) ⟨0, Nat.zero_le _, rfl, hSq0, HH3⟩ ?_
    clear hSq0 HS3 HH3
    rintro aq0 wq0 ⟨i, hlei, hpi, HSq0, HHq0⟩
    have hm' : (intOf (aq0.eval (.tmp 15))).toNat = i := by rw [(HSq0.get 5 rfl)]; rfl
    rw [hm']
    clear hm'
    obtain ⟨r2, hr2⟩ : ∃ r : Bool, (decide (((i : Int) : Int) < ((t).ml : Int))) = r := ⟨_, rfl⟩
    refine wp_seq ?_
    have hLo : LOk [(0, 16, .val (.bool r2))] := lok (by rfl) (by rfl)
    refine zK (wE := w) (sz := 78) (n := 1) [0] [(0, .val (.agg (FR () 6 ((t).sc)))), (1, .val (.pointer (some ⟨g1_0, 0, none⟩))), (11, .val (.bool false)), (13, .val (.slice ((t).xm) ((t).ml) ((t).cm))), (14, .val (.int .i64 (((t).ml : Int)))), (15, .val (.int .i64 ((i : Int)))), (16, .val (.bool r2))] [(0, 16, .val (.bool r2))] [⟨g1_0, none, none, (), 6, (t).sc, (t).sc, 25⟩] rfl (by rfl) HHq0 rfl rfl hLo rfl HSq0 (slS 0 rfl rfl (slS 1 rfl rfl (slS 2 rfl rfl (slS 3 rfl rfl (slS 4 rfl rfl (slS 5 rfl rfl (slL 0 (d := 0) rfl (trivial)))))))) ?_ ?_
    · show ∀ i ∈ [0], _
      refine zA (zC 0 _ rfl rfl hLo rfl rfl (fun _ _ _ _ => rfl) (fun b G w hb ho => zJ rfl (zG rfl (HSq0.get 5 rfl)) (zG rfl (HSq0.get 4 rfl)) (rb_lss hr2 _ _ _))) ?_
      exact zF
    clear hLo
    intro G a4 w4 hS hH
    have HS4 : Sl a4 78 [(0, .agg (FR () 6 ((t).sc))), (1, .pointer (some ⟨g1_0, 0, none⟩)), (11, .bool false), (13, .slice ((t).xm) ((t).ml) ((t).cm)), (14, .int .i64 (((t).ml : Int))), (15, .int .i64 ((i : Int))), (16, .bool r2)] := hS
    have HH4 : Held w w4 [⟨g1_0, (), 6, (t).sc, 25⟩] := hH
    clear hS hH HSq0 HHq0
    refine then_ ?_
    refine wp_seq ?_
    cases r2
    · skip
      have hendi : i = t.ml := by have := of_decide_eq_false hr2; omega
      have hqi := hpi
      rw [hendi] at hqi
      refine wp_cond_false (HS4.get 6 rfl) ?_
      refine wp_exit ?_
      refine zV ?_
      refine zV ?_
      refine inBlock_exit ?_
      refine then_ ?_
      refine wp_seq ?_
      have hLo : LOk [(0, 2, .val (.bool true))] := lok (by rfl) (by rfl)
      refine zK (wE := w) (sz := 78) (n := 1) [0] [(0, .val (.agg (FR () 6 ((t).sc)))), (1, .val (.pointer (some ⟨g1_0, 0, none⟩))), (11, .val (.bool false)), (13, .val (.slice ((t).xm) ((t).ml) ((t).cm))), (14, .val (.int .i64 (((t).ml : Int)))), (15, .val (.int .i64 ((i : Int)))), (16, .val (.bool false)), (2, .val (.bool true))] [(0, 2, .val (.bool true))] [⟨g1_0, none, none, (), 6, (t).sc, (t).sc, 25⟩] rfl (by rfl) HH4 rfl rfl hLo rfl HS4 (slS 0 rfl rfl (slS 1 rfl rfl (slS 2 rfl rfl (slS 3 rfl rfl (slS 4 rfl rfl (slS 5 rfl rfl (slS 6 rfl rfl (slL 0 (d := 0) rfl (trivial))))))))) ?_ ?_
      · show ∀ i ∈ [0], _
        refine zA (zC 0 _ rfl rfl hLo rfl rfl (fun _ _ _ _ => rfl) (fun b G w hb ho => zD (.inr rfl) (rfl))) ?_
        exact zF
      clear hLo
      intro G a5 w5 hS hH
      have HS5 : Sl a5 78 [(0, .agg (FR () 6 ((t).sc))), (1, .pointer (some ⟨g1_0, 0, none⟩)), (11, .bool false), (13, .slice ((t).xm) ((t).ml) ((t).cm)), (14, .int .i64 (((t).ml : Int))), (15, .int .i64 ((i : Int))), (16, .bool false), (2, .bool true)] := hS
      have HH5 : Held w w5 [⟨g1_0, (), 6, (t).sc, 25⟩] := hH
      clear hS hH HS4 HH4
      refine then_ ?_
      refine wp_ret ?_
      repeat (first | refine zS ?_ | refine zM ?_)
      exact b_tmp rfl HS5.2.1 (HS5.get 7 rfl) ⟨bool_ret (rvalid_y hr1 hqi), HH5.1⟩
    · skip
      have hlti : i < t.ml := by have := of_decide_eq_true hr2; omega
      refine wp_cond_true (HS4.get 6 rfl) ?_
      refine wp_skip ?_
      refine then_ ?_
      refine wp_seq ?_
      refine wp_block ?_
      obtain ⟨⟨a1, hx1, hk1, hv1⟩, _, hn1⟩ := (hIn).mems (i := i) (by omega)
      refine wp_seq ?_
      have hLo : LOk [(0, 17, .val (.pointer (some (a1.add ((i) * 7))))), (1, 18, .val (.agg (FR () 7 (msc ((t).key (i)) ((t).mem (i)))))), (2, 4, .new 2 (fun g => .pointer (some ⟨g, 0, none⟩)))] := lok (by rfl) (by rfl)
      refine zK (wE := w) (sz := 78) (n := 4) [0, 1, 3, 7] [(0, .val (.agg (FR () 6 ((t).sc)))), (1, .val (.pointer (some ⟨g1_0, 0, none⟩))), (11, .val (.bool false)), (13, .val (.slice ((t).xm) ((t).ml) ((t).cm))), (14, .val (.int .i64 (((t).ml : Int)))), (15, .val (.int .i64 ((i : Int)))), (16, .val (.bool true)), (4, .new 2 (fun g => .pointer (some ⟨g, 0, none⟩)))] [(0, 17, .val (.pointer (some (a1.add ((i) * 7))))), (1, 18, .val (.agg (FR () 7 (msc ((t).key (i)) ((t).mem (i)))))), (2, 4, .new 2 (fun g => .pointer (some ⟨g, 0, none⟩)))] [⟨g1_0, none, none, (), 6, (t).sc, (t).sc, 25⟩, ⟨0, some 2, some 3, (), 7, lsc [.s (ByteArray.empty), .i .i64 (0), .b (false), .i .i64 (0), .s (ByteArray.empty), .sl (none) (0) (0), .sl (none) (0) (0)], msc ((t).key (i)) ((t).mem (i)), 36⟩] rfl (by rfl) HH4 rfl rfl hLo rfl HS4 (slS 0 rfl rfl (slS 1 rfl rfl (slS 2 rfl rfl (slS 3 rfl rfl (slS 4 rfl rfl (slS 5 rfl rfl (slS 6 rfl rfl (slL 2 (d := 2) rfl (trivial))))))))) ?_ ?_
      · show ∀ i ∈ [0, 1, 2, 3], _
        refine zA (zC 0 _ rfl rfl hLo rfl rfl (fun _ _ _ _ => rfl) (fun b G w hb ho => zU rfl (zG rfl (HS4.get 3 rfl)) (zG rfl (HS4.get 5 rfl)) (index_sl Tryd.underlying23 (by kernel_rfl) hx1 (by omega) _))) ?_
        refine zA (st_at 1 (a1.add ((i) * 7)) rfl rfl rfl (fun _ _ _ _ => rfl) hLo rfl rfl Tryd.underlying36 (by kernel_rfl) rfl (at7 hk1 hv1) (fun b G hb ho => zB hLo 0 rfl HS4.1 rfl (hb 0 (by rfl)))) ?_
        refine zA (st_alloc 2 1 () 7 36 (some 3) _ _ rfl rfl (fun _ _ _ _ => rfl) rfl hLo rfl rfl rfl rfl (by rfl) (fun b G w _ _ => by kernel_rfl)) ?_
        refine zA (st_store 1 _ rfl rfl rfl rfl rfl (fun _ _ _ _ => rfl) rfl rfl rfl (by rfl) (by kernel_rfl) (fun b G hb ho => zB hLo 2 rfl HS4.1 rfl (hb 2 (by rfl))) (fun b G hb ho => zB hLo 1 rfl HS4.1 rfl (hb 1 (by rfl)))) ?_
        exact zF
      clear hLo
      intro G a6 w6 hS hH
      have HS6 : Sl a6 78 [(0, .agg (FR () 6 ((t).sc))), (1, .pointer (some ⟨g1_0, 0, none⟩)), (11, .bool false), (13, .slice ((t).xm) ((t).ml) ((t).cm)), (14, .int .i64 (((t).ml : Int))), (15, .int .i64 ((i : Int))), (16, .bool true), (4, .pointer (some ⟨(G 2), 0, none⟩))] := hS
      have HH6 : Held w w6 [⟨g1_0, (), 6, (t).sc, 25⟩, ⟨(G 2), (), 7, msc ((t).key (i)) ((t).mem (i)), 36⟩] := hH
      clear hS hH HS4 HH4
      generalize G 2 = g6_2 at HS6 HH6
      refine then_ ?_
      refine wp_seq ?_
      refine wp_seq ?_
      refine whole_ ?_
      refine cut_call _ rfl rfl rfl rfl Tryd.func15 rfl rfl (args0 ) (names_calls _) HS6 rfl ?_
      rintro e7 w7 ⟨⟨gn, rfl, hNM⟩, hbn⟩
      refine ⟨_, rfl, fun a7 hS => ?_⟩
      have HS8 : Sl a7 78 [(19, .slice (some ⟨gn, 0, none⟩) (7) (7)), (0, .agg (FR () 6 ((t).sc))), (1, .pointer (some ⟨g1_0, 0, none⟩)), (11, .bool false), (13, .slice ((t).xm) ((t).ml) ((t).cm)), (14, .int .i64 (((t).ml : Int))), (15, .int .i64 ((i : Int))), (16, .bool true), (4, .pointer (some ⟨g6_2, 0, none⟩))] := hS
      have HH8 : Held w w7 [⟨g1_0, (), 6, (t).sc, 25⟩, ⟨g6_2, (), 7, msc ((t).key (i)) ((t).mem (i)), 36⟩] := HH6.call hbn
      clear hS
      have hRow9_0 := HH8.row 0 rfl
      have hRow9_1 := HH8.row 1 rfl
      have hIn_9 := hIn.below HH8.1
      have HH9 : Held w7 w7 [] := Held.first w7
      have HS9 : Sl a7 78 [(19, .slice (some ⟨gn, 0, none⟩) (7) (7)), (0, .agg (FR () 6 ((t).sc))), (1, .pointer (some ((⟨g1_0, 0, none⟩ : Addr)))), (11, .bool false), (13, .slice ((t).xm) ((t).ml) ((t).cm)), (14, .int .i64 (((t).ml : Int))), (15, .int .i64 ((i : Int))), (16, .bool true), (4, .pointer (some ((⟨g6_2, 0, none⟩ : Addr))))] := HS8
      have hLo : LOk [(1, 20, .val (.int .i64 (7))), (2, 21, .val (.int .i64 (0)))] := lok (by rfl) (by rfl)
      refine part_ (wE := w7) (sz := 78) (n := 3) 1 3 [0, 1, 3] [(19, .val (.slice (some ⟨gn, 0, none⟩) (7) (7))), (0, .val (.agg (FR () 6 ((t).sc)))), (1, .val (.pointer (some ((⟨g1_0, 0, none⟩ : Addr))))), (11, .val (.bool false)), (13, .val (.slice ((t).xm) ((t).ml) ((t).cm))), (14, .val (.int .i64 (((t).ml : Int)))), (15, .val (.int .i64 ((i : Int)))), (16, .val (.bool true)), (4, .val (.pointer (some ((⟨g6_2, 0, none⟩ : Addr))))), (20, .val (.int .i64 (7))), (21, .val (.int .i64 (0)))] [(1, 20, .val (.int .i64 (7))), (2, 21, .val (.int .i64 (0)))] [] rfl rfl (by rfl) HH9 rfl rfl hLo rfl HS9 (slS 0 rfl rfl (slS 1 rfl rfl (slS 2 rfl rfl (slS 3 rfl rfl (slS 4 rfl rfl (slS 5 rfl rfl (slS 6 rfl rfl (slS 7 rfl rfl (slS 8 rfl rfl (slL 0 (d := 1) rfl (slL 1 (d := 2) rfl (trivial)))))))))))) ?_ ?_
      · show ∀ i ∈ [1, 2], _
        refine zA (zC 0 _ rfl rfl hLo rfl rfl (fun _ _ _ _ => rfl) (fun b G w hb ho => exec_lenL Tryd.underlying32 rfl (zG rfl (HS9.get 0 rfl)))) ?_
        refine zA (zC 1 _ rfl rfl hLo rfl rfl (fun _ _ _ _ => rfl) (fun b G w hb ho => zD (.inl rfl) (rfl))) ?_
        exact zF
      clear hLo
      intro G a10 w10 hS hH
      have HS10 : Sl a10 78 [(19, .slice (some ⟨gn, 0, none⟩) (7) (7)), (0, .agg (FR () 6 ((t).sc))), (1, .pointer (some ((⟨g1_0, 0, none⟩ : Addr)))), (11, .bool false), (13, .slice ((t).xm) ((t).ml) ((t).cm)), (14, .int .i64 (((t).ml : Int))), (15, .int .i64 ((i : Int))), (16, .bool true), (4, .pointer (some ((⟨g6_2, 0, none⟩ : Addr)))), (20, .int .i64 (7)), (21, .int .i64 (0))] := hS
      have HH10 : Held w7 w10 [] := hH
      clear hS hH HS9 HH9
      refine end_ rfl ?_
      refine then_ ?_
      refine wp_block ?_
      have hSq1 : Sl _ 78 [(19, .slice (some ⟨gn, 0, none⟩) (7) (7)), (0, .agg (FR () 6 ((t).sc))), (1, .pointer (some ((⟨g1_0, 0, none⟩ : Addr)))), (11, .bool false), (13, .slice ((t).xm) ((t).ml) ((t).cm)), (14, .int .i64 (((t).ml : Int))), (15, .int .i64 ((i : Int))), (16, .bool true), (4, .pointer (some ((⟨g6_2, 0, none⟩ : Addr)))), (20, .int .i64 (7)), (21, .int .i64 (0))] := sl_keep HS10 [0, 1, 2, 3, 4, 5, 6, 7, 8, 9, 10] (by rfl)
      refine wp_loop (fun a w' => ∃ n : Nat, n ≤ 7 ∧ allB (nameR t i) n = true ∧ Sl a 78 [(19, .slice (some ⟨gn, 0, none⟩) (7) (7)), (0, .agg (FR () 6 ((t).sc))), (1, .pointer (some ((⟨g1_0, 0, none⟩ : Addr)))), (11, .bool false), (13, .slice ((t).xm) ((t).ml) ((t).cm)), (14, .int .i64 (((t).ml : Int))), (15, .int .i64 ((i : Int))), (16, .bool true), (4, .pointer (some ((⟨g6_2, 0, none⟩ : Addr)))), (20, .int .i64 (7)), (21, .int .i64 ((n : Int)))] ∧ Held w7 w' []) (fun a w' => 7 - (intOf (a.eval (.tmp 21))).toNat) ⟨0, Nat.zero_le _, rfl, hSq1, HH10⟩ ?_
      clear hSq1 HS10 HH10
      rintro aq1 wq1 ⟨n, hlen, hpn, HSq1, HHq1⟩
      have hm' : (intOf (aq1.eval (.tmp 21))).toNat = n := by rw [(HSq1.get 10 rfl)]; rfl
      rw [hm']
      clear hm'
      obtain ⟨r3, hr3⟩ : ∃ r : Bool, (decide (((n : Int) : Int) < 7)) = r := ⟨_, rfl⟩
      refine wp_seq ?_
      have hLo : LOk [(0, 22, .val (.bool r3))] := lok (by rfl) (by rfl)
      refine zK (wE := w7) (sz := 78) (n := 1) [0] [(19, .val (.slice (some ⟨gn, 0, none⟩) (7) (7))), (0, .val (.agg (FR () 6 ((t).sc)))), (1, .val (.pointer (some ((⟨g1_0, 0, none⟩ : Addr))))), (11, .val (.bool false)), (13, .val (.slice ((t).xm) ((t).ml) ((t).cm))), (14, .val (.int .i64 (((t).ml : Int)))), (15, .val (.int .i64 ((i : Int)))), (16, .val (.bool true)), (4, .val (.pointer (some ((⟨g6_2, 0, none⟩ : Addr))))), (20, .val (.int .i64 (7))), (21, .val (.int .i64 ((n : Int)))), (22, .val (.bool r3))] [(0, 22, .val (.bool r3))] [] rfl (by rfl) HHq1 rfl rfl hLo rfl HSq1 (slS 0 rfl rfl (slS 1 rfl rfl (slS 2 rfl rfl (slS 3 rfl rfl (slS 4 rfl rfl (slS 5 rfl rfl (slS 6 rfl rfl (slS 7 rfl rfl (slS 8 rfl rfl (slS 9 rfl rfl (slS 10 rfl rfl (slL 0 (d := 0) rfl (trivial))))))))))))) ?_ ?_
      · show ∀ i ∈ [0], _
        refine zA (zC 0 _ rfl rfl hLo rfl rfl (fun _ _ _ _ => rfl) (fun b G w hb ho => zJ rfl (zG rfl (HSq1.get 10 rfl)) (zG rfl (HSq1.get 9 rfl)) (rb_lss hr3 _ _ _))) ?_
        exact zF
      clear hLo
      intro G a11 w11 hS hH
      have HS11 : Sl a11 78 [(19, .slice (some ⟨gn, 0, none⟩) (7) (7)), (0, .agg (FR () 6 ((t).sc))), (1, .pointer (some ((⟨g1_0, 0, none⟩ : Addr)))), (11, .bool false), (13, .slice ((t).xm) ((t).ml) ((t).cm)), (14, .int .i64 (((t).ml : Int))), (15, .int .i64 ((i : Int))), (16, .bool true), (4, .pointer (some ((⟨g6_2, 0, none⟩ : Addr)))), (20, .int .i64 (7)), (21, .int .i64 ((n : Int))), (22, .bool r3)] := hS
      have HH11 : Held w7 w11 [] := hH
      clear hS hH HSq1 HHq1
      refine then_ ?_
      refine wp_seq ?_
      cases r3
      · skip
        have hendn : n = 7 := by have := of_decide_eq_false hr3; omega
        have hqn := hpn
        rw [hendn] at hqn
        refine wp_cond_false (HS11.get 11 rfl) ?_
        refine wp_exit ?_
        refine zV ?_
        refine zV ?_
        refine inBlock_exit ?_
        refine then_ ?_
        obtain ⟨r4, hr4⟩ : ∃ r : Bool, (decide (((t).key (i) : ByteArray) = k_users)) = r := ⟨_, rfl⟩
        cases r4
        · skip
          obtain ⟨r5, hr5⟩ : ∃ r : Bool, (decide (((t).key (i) : ByteArray) = k_events)) = r := ⟨_, rfl⟩
          cases r5
          · skip
            obtain ⟨r6, hr6⟩ : ∃ r : Bool, (decide (((t).key (i) : ByteArray) = k_notifications)) = r := ⟨_, rfl⟩
            refine wp_seq ?_
            have hLo : LOk [(0, 36, .val (.pointer (some ((⟨g6_2, 0, none⟩ : Addr))))), (1, 37, .val (.string ((t).key (i)))), (2, 38, .val (.bool false)), (3, 39, .val (.bool false)), (4, 40, .val (.pointer (some ((⟨g6_2, 0, none⟩ : Addr))))), (5, 41, .val (.string ((t).key (i)))), (6, 42, .val (.bool false)), (7, 43, .val (.bool false)), (8, 44, .val (.bool false)), (9, 45, .val (.pointer (some ((⟨g6_2, 0, none⟩ : Addr))))), (10, 46, .val (.string ((t).key (i)))), (11, 47, .val (.bool r6)), (12, 48, .val (.bool r6))] := lok (by rfl) (by rfl)
            refine zK (wE := w7) (sz := 78) (n := 13) [0, 1, 3, 7, 15, 31, 63, 127, 255, 511, 1023, 2047, 4095] [(19, .val (.slice (some ⟨gn, 0, none⟩) (7) (7))), (0, .val (.agg (FR () 6 ((t).sc)))), (1, .val (.pointer (some ((⟨g1_0, 0, none⟩ : Addr))))), (11, .val (.bool false)), (13, .val (.slice ((t).xm) ((t).ml) ((t).cm))), (14, .val (.int .i64 (((t).ml : Int)))), (15, .val (.int .i64 ((i : Int)))), (16, .val (.bool true)), (4, .val (.pointer (some ((⟨g6_2, 0, none⟩ : Addr))))), (20, .val (.int .i64 (7))), (21, .val (.int .i64 ((n : Int)))), (22, .val (.bool false)), (48, .val (.bool r6))] [(0, 36, .val (.pointer (some ((⟨g6_2, 0, none⟩ : Addr))))), (1, 37, .val (.string ((t).key (i)))), (2, 38, .val (.bool false)), (3, 39, .val (.bool false)), (4, 40, .val (.pointer (some ((⟨g6_2, 0, none⟩ : Addr))))), (5, 41, .val (.string ((t).key (i)))), (6, 42, .val (.bool false)), (7, 43, .val (.bool false)), (8, 44, .val (.bool false)), (9, 45, .val (.pointer (some ((⟨g6_2, 0, none⟩ : Addr))))), (10, 46, .val (.string ((t).key (i)))), (11, 47, .val (.bool r6)), (12, 48, .val (.bool r6))] [] rfl (by rfl) HH11 rfl rfl hLo rfl HS11 (slS 0 rfl rfl (slS 1 rfl rfl (slS 2 rfl rfl (slS 3 rfl rfl (slS 4 rfl rfl (slS 5 rfl rfl (slS 6 rfl rfl (slS 7 rfl rfl (slS 8 rfl rfl (slS 9 rfl rfl (slS 10 rfl rfl (slS 11 rfl rfl (slL 12 (d := 12) rfl (trivial)))))))))))))) ?_ ?_
            · show ∀ i ∈ [0, 1, 2, 3, 4, 5, 6, 7, 8, 9, 10, 11, 12], _
              refine zA (zC 0 _ rfl rfl hLo rfl rfl (fun _ _ _ _ => rfl) (fun b G w hb ho => zH rfl (zG rfl (HS11.get 8 rfl)) (by kernel_rfl))) ?_
              refine zA (st_at1 1 ((⟨g6_2, 0, none⟩ : Addr)) _ rfl rfl rfl (fun _ _ _ _ => rfl) hLo rfl rfl Tryd.underlying9 rfl (row_at hRow9_1 0 (Nat.le_of_ble_eq_true rfl)) (fun b G hb ho => zB hLo 0 rfl HS11.1 rfl (hb 0 (by rfl)))) ?_
              refine zA (zC 2 _ rfl rfl hLo rfl rfl (fun _ _ _ _ => rfl) (fun b G w hb ho => zJ rfl (zB hLo 1 rfl HS11.1 rfl (hb 1 (by rfl))) (rfl) (rb_seql hr4 _ _ _))) ?_
              refine zA (zC 3 _ rfl rfl hLo rfl rfl (fun _ _ _ _ => rfl) (fun b G w hb ho => zD (.inl rfl) (zB hLo 2 rfl HS11.1 rfl (hb 2 (by rfl))))) ?_
              refine zA (zC 4 _ rfl rfl hLo rfl rfl (fun b G hb ho => zE rfl rfl rfl HS11.1 rfl (zB hLo 3 rfl HS11.1 rfl (hb 3 (by rfl))) rfl) (fun b G w hb ho => zH rfl (zG rfl (HS11.get 8 rfl)) (by kernel_rfl))) ?_
              refine zA (st_at1 5 ((⟨g6_2, 0, none⟩ : Addr)) _ rfl rfl rfl (fun b G hb ho => zE rfl rfl rfl HS11.1 rfl (zB hLo 3 rfl HS11.1 rfl (hb 3 (by rfl))) rfl) hLo rfl rfl Tryd.underlying9 rfl (row_at hRow9_1 0 (Nat.le_of_ble_eq_true rfl)) (fun b G hb ho => zB hLo 4 rfl HS11.1 rfl (hb 4 (by rfl)))) ?_
              refine zA (zC 6 _ rfl rfl hLo rfl rfl (fun b G hb ho => zE rfl rfl rfl HS11.1 rfl (zB hLo 3 rfl HS11.1 rfl (hb 3 (by rfl))) rfl) (fun b G w hb ho => zJ rfl (zB hLo 5 rfl HS11.1 rfl (hb 5 (by rfl))) (rfl) (rb_seql hr5 _ _ _))) ?_
              refine zA (zC 7 _ rfl rfl hLo rfl rfl (fun _ _ _ _ => rfl) (fun b G w hb ho => zO rfl (zB hLo 3 rfl HS11.1 rfl (hb 3 (by rfl))) (zB hLo 6 rfl HS11.1 rfl (hb 6 (by rfl))))) ?_
              refine zA (zC 8 _ rfl rfl hLo rfl rfl (fun _ _ _ _ => rfl) (fun b G w hb ho => zD (.inl rfl) (zB hLo 7 rfl HS11.1 rfl (hb 7 (by rfl))))) ?_
              refine zA (zC 9 _ rfl rfl hLo rfl rfl (fun b G hb ho => zE rfl rfl rfl HS11.1 rfl (zB hLo 8 rfl HS11.1 rfl (hb 8 (by rfl))) rfl) (fun b G w hb ho => zH rfl (zG rfl (HS11.get 8 rfl)) (by kernel_rfl))) ?_
              refine zA (st_at1 10 ((⟨g6_2, 0, none⟩ : Addr)) _ rfl rfl rfl (fun b G hb ho => zE rfl rfl rfl HS11.1 rfl (zB hLo 8 rfl HS11.1 rfl (hb 8 (by rfl))) rfl) hLo rfl rfl Tryd.underlying9 rfl (row_at hRow9_1 0 (Nat.le_of_ble_eq_true rfl)) (fun b G hb ho => zB hLo 9 rfl HS11.1 rfl (hb 9 (by rfl)))) ?_
              refine zA (zC 11 _ rfl rfl hLo rfl rfl (fun b G hb ho => zE rfl rfl rfl HS11.1 rfl (zB hLo 8 rfl HS11.1 rfl (hb 8 (by rfl))) rfl) (fun b G w hb ho => zJ rfl (zB hLo 10 rfl HS11.1 rfl (hb 10 (by rfl))) (rfl) (rb_seql hr6 _ _ _))) ?_
              refine zA (zC 12 _ rfl rfl hLo rfl rfl (fun _ _ _ _ => rfl) (fun b G w hb ho => zO rfl (zB hLo 8 rfl HS11.1 rfl (hb 8 (by rfl))) (zB hLo 11 rfl HS11.1 rfl (hb 11 (by rfl))))) ?_
              exact zF
            clear hLo
            intro G a12 w12 hS hH
            have HS12 : Sl a12 78 [(19, .slice (some ⟨gn, 0, none⟩) (7) (7)), (0, .agg (FR () 6 ((t).sc))), (1, .pointer (some ((⟨g1_0, 0, none⟩ : Addr)))), (11, .bool false), (13, .slice ((t).xm) ((t).ml) ((t).cm)), (14, .int .i64 (((t).ml : Int))), (15, .int .i64 ((i : Int))), (16, .bool true), (4, .pointer (some ((⟨g6_2, 0, none⟩ : Addr)))), (20, .int .i64 (7)), (21, .int .i64 ((n : Int))), (22, .bool false), (48, .bool r6)] := hS
            have HH12 : Held w7 w12 [] := hH
            clear hS hH HS11 HH11
            refine then_ ?_
            cases r6
            · skip
              refine wp_cond_false (HS12.get 12 rfl) ?_
              refine wp_skip ?_
              refine zT ?_
              refine then_ ?_
              have hLo : LOk [(0, 77, .val (.int .i64 (((i + 1 : Nat) : Int)))), (1, 15, .val (.int .i64 (((i + 1 : Nat) : Int))))] := lok (by rfl) (by rfl)
              refine zK (wE := w7) (sz := 78) (n := 2) [0, 1] [(19, .val (.slice (some ⟨gn, 0, none⟩) (7) (7))), (0, .val (.agg (FR () 6 ((t).sc)))), (1, .val (.pointer (some ((⟨g1_0, 0, none⟩ : Addr))))), (11, .val (.bool false)), (13, .val (.slice ((t).xm) ((t).ml) ((t).cm))), (14, .val (.int .i64 (((t).ml : Int)))), (16, .val (.bool true)), (4, .val (.pointer (some ((⟨g6_2, 0, none⟩ : Addr))))), (20, .val (.int .i64 (7))), (21, .val (.int .i64 ((n : Int)))), (22, .val (.bool false)), (48, .val (.bool false)), (15, .val (.int .i64 (((i + 1 : Nat) : Int))))] [(0, 77, .val (.int .i64 (((i + 1 : Nat) : Int)))), (1, 15, .val (.int .i64 (((i + 1 : Nat) : Int))))] [] rfl (by rfl) HH12 rfl rfl hLo rfl HS12 (slS 0 rfl rfl (slS 1 rfl rfl (slS 2 rfl rfl (slS 3 rfl rfl (slS 4 rfl rfl (slS 5 rfl rfl (slS 7 rfl rfl (slS 8 rfl rfl (slS 9 rfl rfl (slS 10 rfl rfl (slS 11 rfl rfl (slS 12 rfl rfl (slL 1 (d := 1) rfl (trivial)))))))))))))) ?_ ?_
              · show ∀ i ∈ [0, 1], _
                refine zA (zC 0 _ rfl rfl hLo rfl rfl (fun _ _ _ _ => rfl) (fun b G w hb ho => zJ rfl (ev_pre hLo 1 rfl (ho 1 (by rfl)) (HS12.get 6 rfl)) (rfl) (rb_add (w_nat (by omega) (by omega)) _ _ _))) ?_
                refine zA (zC 1 _ rfl rfl hLo rfl rfl (fun _ _ _ _ => rfl) (fun b G w hb ho => zD (.inl rfl) (zB hLo 0 rfl HS12.1 rfl (hb 0 (by rfl))))) ?_
                exact zF
              clear hLo
              intro G a13 w13 hS hH
              have HS13 : Sl a13 78 [(19, .slice (some ⟨gn, 0, none⟩) (7) (7)), (0, .agg (FR () 6 ((t).sc))), (1, .pointer (some ((⟨g1_0, 0, none⟩ : Addr)))), (11, .bool false), (13, .slice ((t).xm) ((t).ml) ((t).cm)), (14, .int .i64 (((t).ml : Int))), (16, .bool true), (4, .pointer (some ((⟨g6_2, 0, none⟩ : Addr)))), (20, .int .i64 (7)), (21, .int .i64 ((n : Int))), (22, .bool false), (48, .bool false), (15, .int .i64 (((i + 1 : Nat) : Int)))] := hS
              have HH13 : Held w7 w13 [] := hH
              clear hS hH HS12 HH12
              refine then_ ?_
              have HH14 := Held.back HH8 HH13
              have hSq0' : Sl _ 78 [(0, .agg (FR () 6 ((t).sc))), (1, .pointer (some ⟨g1_0, 0, none⟩)), (11, .bool false), (13, .slice ((t).xm) ((t).ml) ((t).cm)), (14, .int .i64 (((t).ml : Int))), (15, .int .i64 (((i + 1 : Nat) : Int)))] := sl_keep HS13 [1, 2, 3, 4, 5, 12] (by rfl)
              have hHq0' : Held w _ [⟨g1_0, (), 6, (t).sc, 25⟩] := held_keep HH14 1 rfl
              exact ⟨⟨i + 1, by omega, allB_step hpi (memR_y hqn (by
                  have hit : isTab ((t).key (i)) = false := by unfold isTab; simp only [hr4, hr5, hr6]; try rfl
                  show (!isTab ((t).key (i)) || (!((((t).mem (i)).kind) != 5) && allB (memV zY ((t).key (i)) ((t).mem (i))) ((t).mem (i)).ml)) = _
                  rw [hit]; rfl)), hSq0', hHq0'⟩, by rw [(hSq0'.get 5 rfl)]; show t.ml - (((i + 1 : Nat) : Int)).toNat < t.ml - i; omega⟩
            · skip
              refine wp_cond_true (HS12.get 12 rfl) ?_
              refine wp_seq ?_
              obtain ⟨r7, hr7⟩ : ∃ r : Bool, (((((t).mem (i)).kind : Int) != 5)) = r := ⟨_, rfl⟩
              refine wp_seq ?_
              have hLo : LOk [(0, 49, .val (.pointer (some (((⟨g6_2, 0, none⟩ : Addr)).add 1)))), (1, 50, .val (.pointer (some (((⟨g6_2, 0, none⟩ : Addr)).add 1)))), (2, 51, .val (.int .i64 (((t).mem (i)).kind))), (3, 52, .val (.bool r7))] := lok (by rfl) (by rfl)
              refine zK (wE := w7) (sz := 78) (n := 4) [0, 1, 3, 7] [(19, .val (.slice (some ⟨gn, 0, none⟩) (7) (7))), (0, .val (.agg (FR () 6 ((t).sc)))), (1, .val (.pointer (some ((⟨g1_0, 0, none⟩ : Addr))))), (11, .val (.bool false)), (13, .val (.slice ((t).xm) ((t).ml) ((t).cm))), (14, .val (.int .i64 (((t).ml : Int)))), (15, .val (.int .i64 ((i : Int)))), (16, .val (.bool true)), (4, .val (.pointer (some ((⟨g6_2, 0, none⟩ : Addr))))), (20, .val (.int .i64 (7))), (21, .val (.int .i64 ((n : Int)))), (22, .val (.bool false)), (48, .val (.bool true)), (52, .val (.bool r7))] [(0, 49, .val (.pointer (some (((⟨g6_2, 0, none⟩ : Addr)).add 1)))), (1, 50, .val (.pointer (some (((⟨g6_2, 0, none⟩ : Addr)).add 1)))), (2, 51, .val (.int .i64 (((t).mem (i)).kind))), (3, 52, .val (.bool r7))] [] rfl (by rfl) HH12 rfl rfl hLo rfl HS12 (slS 0 rfl rfl (slS 1 rfl rfl (slS 2 rfl rfl (slS 3 rfl rfl (slS 4 rfl rfl (slS 5 rfl rfl (slS 6 rfl rfl (slS 7 rfl rfl (slS 8 rfl rfl (slS 9 rfl rfl (slS 10 rfl rfl (slS 11 rfl rfl (slS 12 rfl rfl (slL 3 (d := 3) rfl (trivial))))))))))))))) ?_ ?_
              · show ∀ i ∈ [0, 1, 2, 3], _
                refine zA (zC 0 _ rfl rfl hLo rfl rfl (fun _ _ _ _ => rfl) (fun b G w hb ho => zH rfl (zG rfl (HS12.get 8 rfl)) (by kernel_rfl))) ?_
                refine zA (zC 1 _ rfl rfl hLo rfl rfl (fun _ _ _ _ => rfl) (fun b G w hb ho => zH rfl (zB hLo 0 rfl HS12.1 rfl (hb 0 (by rfl))) (by kernel_rfl))) ?_
                refine zA (st_at1 2 (((⟨g6_2, 0, none⟩ : Addr)).add 1) _ rfl rfl rfl (fun _ _ _ _ => rfl) hLo rfl rfl Tryd.underlying3 rfl (row_at hRow9_1 1 (Nat.le_of_ble_eq_true rfl)) (fun b G hb ho => zB hLo 1 rfl HS12.1 rfl (hb 1 (by rfl)))) ?_
                refine zA (zC 3 _ rfl rfl hLo rfl rfl (fun _ _ _ _ => rfl) (fun b G w hb ho => zJ rfl (zB hLo 2 rfl HS12.1 rfl (hb 2 (by rfl))) (rfl) (rb_neq hr7 _ _ _))) ?_
                exact zF
              clear hLo
              intro G a15 w15 hS hH
              have HS15 : Sl a15 78 [(19, .slice (some ⟨gn, 0, none⟩) (7) (7)), (0, .agg (FR () 6 ((t).sc))), (1, .pointer (some ((⟨g1_0, 0, none⟩ : Addr)))), (11, .bool false), (13, .slice ((t).xm) ((t).ml) ((t).cm)), (14, .int .i64 (((t).ml : Int))), (15, .int .i64 ((i : Int))), (16, .bool true), (4, .pointer (some ((⟨g6_2, 0, none⟩ : Addr)))), (20, .int .i64 (7)), (21, .int .i64 ((n : Int))), (22, .bool false), (48, .bool true), (52, .bool r7)] := hS
              have HH15 : Held w7 w15 [] := hH
              clear hS hH HS12 HH12
              refine then_ ?_
              cases r7
              · skip
                refine wp_cond_false (HS15.get 13 rfl) ?_
                refine wp_skip ?_
                refine then_ ?_
                refine wp_seq ?_
                have hLo : LOk [(0, 53, .val (.pointer (some (((⟨g6_2, 0, none⟩ : Addr)).add 1)))), (1, 54, .val (.pointer (some ((((⟨g6_2, 0, none⟩ : Addr)).add 1).add 5)))), (2, 55, .val (.slice (((t).mem (i)).xm) (((t).mem (i)).ml) (((t).mem (i)).cm))), (3, 56, .val (.int .i64 ((((t).mem (i)).ml : Int)))), (4, 57, .val (.int .i64 (0)))] := lok (by rfl) (by rfl)
                refine zK (wE := w7) (sz := 78) (n := 5) [0, 1, 3, 7, 15] [(19, .val (.slice (some ⟨gn, 0, none⟩) (7) (7))), (0, .val (.agg (FR () 6 ((t).sc)))), (1, .val (.pointer (some ((⟨g1_0, 0, none⟩ : Addr))))), (11, .val (.bool false)), (13, .val (.slice ((t).xm) ((t).ml) ((t).cm))), (14, .val (.int .i64 (((t).ml : Int)))), (15, .val (.int .i64 ((i : Int)))), (16, .val (.bool true)), (4, .val (.pointer (some ((⟨g6_2, 0, none⟩ : Addr))))), (20, .val (.int .i64 (7))), (21, .val (.int .i64 ((n : Int)))), (22, .val (.bool false)), (48, .val (.bool true)), (52, .val (.bool false)), (55, .val (.slice (((t).mem (i)).xm) (((t).mem (i)).ml) (((t).mem (i)).cm))), (56, .val (.int .i64 ((((t).mem (i)).ml : Int)))), (57, .val (.int .i64 (0)))] [(0, 53, .val (.pointer (some (((⟨g6_2, 0, none⟩ : Addr)).add 1)))), (1, 54, .val (.pointer (some ((((⟨g6_2, 0, none⟩ : Addr)).add 1).add 5)))), (2, 55, .val (.slice (((t).mem (i)).xm) (((t).mem (i)).ml) (((t).mem (i)).cm))), (3, 56, .val (.int .i64 ((((t).mem (i)).ml : Int)))), (4, 57, .val (.int .i64 (0)))] [] rfl (by rfl) HH15 rfl rfl hLo rfl HS15 (slS 0 rfl rfl (slS 1 rfl rfl (slS 2 rfl rfl (slS 3 rfl rfl (slS 4 rfl rfl (slS 5 rfl rfl (slS 6 rfl rfl (slS 7 rfl rfl (slS 8 rfl rfl (slS 9 rfl rfl (slS 10 rfl rfl (slS 11 rfl rfl (slS 12 rfl rfl (slS 13 rfl rfl (slL 2 (d := 2) rfl (slL 3 (d := 3) rfl (slL 4 (d := 4) rfl (trivial)))))))))))))))))) ?_ ?_
                · show ∀ i ∈ [0, 1, 2, 3, 4], _
                  refine zA (zC 0 _ rfl rfl hLo rfl rfl (fun _ _ _ _ => rfl) (fun b G w hb ho => zH rfl (zG rfl (HS15.get 8 rfl)) (by kernel_rfl))) ?_
                  refine zA (zC 1 _ rfl rfl hLo rfl rfl (fun _ _ _ _ => rfl) (fun b G w hb ho => zH rfl (zB hLo 0 rfl HS15.1 rfl (hb 0 (by rfl))) (by kernel_rfl))) ?_
                  refine zA (st_at1 2 ((((⟨g6_2, 0, none⟩ : Addr)).add 1).add 5) _ rfl rfl rfl (fun _ _ _ _ => rfl) hLo rfl rfl Tryd.underlying23 rfl (row_at hRow9_1 6 (Nat.le_of_ble_eq_true rfl)) (fun b G hb ho => zB hLo 1 rfl HS15.1 rfl (hb 1 (by rfl)))) ?_
                  refine zA (zC 3 _ rfl rfl hLo rfl rfl (fun _ _ _ _ => rfl) (fun b G w hb ho => exec_lenL Tryd.underlying23 rfl (zB hLo 2 rfl HS15.1 rfl (hb 2 (by rfl))))) ?_
                  refine zA (zC 4 _ rfl rfl hLo rfl rfl (fun _ _ _ _ => rfl) (fun b G w hb ho => zD (.inl rfl) (rfl))) ?_
                  exact zF
                clear hLo
                intro G a16 w16 hS hH
                have HS16 : Sl a16 78 [(19, .slice (some ⟨gn, 0, none⟩) (7) (7)), (0, .agg (FR () 6 ((t).sc))), (1, .pointer (some ((⟨g1_0, 0, none⟩ : Addr)))), (11, .bool false), (13, .slice ((t).xm) ((t).ml) ((t).cm)), (14, .int .i64 (((t).ml : Int))), (15, .int .i64 ((i : Int))), (16, .bool true), (4, .pointer (some ((⟨g6_2, 0, none⟩ : Addr)))), (20, .int .i64 (7)), (21, .int .i64 ((n : Int))), (22, .bool false), (48, .bool true), (52, .bool false), (55, .slice (((t).mem (i)).xm) (((t).mem (i)).ml) (((t).mem (i)).cm)), (56, .int .i64 ((((t).mem (i)).ml : Int))), (57, .int .i64 (0))] := hS
                have HH16 : Held w7 w16 [] := hH
                clear hS hH HS15 HH15
                refine then_ ?_
                refine wp_block ?_
                have hSq2 : Sl _ 78 [(19, .slice (some ⟨gn, 0, none⟩) (7) (7)), (0, .agg (FR () 6 ((t).sc))), (1, .pointer (some ((⟨g1_0, 0, none⟩ : Addr)))), (11, .bool false), (13, .slice ((t).xm) ((t).ml) ((t).cm)), (14, .int .i64 (((t).ml : Int))), (15, .int .i64 ((i : Int))), (16, .bool true), (4, .pointer (some ((⟨g6_2, 0, none⟩ : Addr)))), (20, .int .i64 (7)), (21, .int .i64 ((n : Int))), (22, .bool false), (48, .bool true), (52, .bool false), (55, .slice (((t).mem (i)).xm) (((t).mem (i)).ml) (((t).mem (i)).cm)), (56, .int .i64 ((((t).mem (i)).ml : Int))), (57, .int .i64 (0))] := sl_keep HS16 [0, 1, 2, 3, 4, 5, 6, 7, 8, 9, 10, 11, 12, 13, 14, 15, 16] (by rfl)
                refine wp_loop (fun a w' => ∃ k : Nat, k ≤ ((t).mem (i)).ml ∧ allB (memV zY ((t).key (i)) ((t).mem (i))) k = true ∧ Sl a 78 [(19, .slice (some ⟨gn, 0, none⟩) (7) (7)), (0, .agg (FR () 6 ((t).sc))), (1, .pointer (some ((⟨g1_0, 0, none⟩ : Addr)))), (11, .bool false), (13, .slice ((t).xm) ((t).ml) ((t).cm)), (14, .int .i64 (((t).ml : Int))), (15, .int .i64 ((i : Int))), (16, .bool true), (4, .pointer (some ((⟨g6_2, 0, none⟩ : Addr)))), (20, .int .i64 (7)), (21, .int .i64 ((n : Int))), (22, .bool false), (48, .bool true), (52, .bool false), (55, .slice (((t).mem (i)).xm) (((t).mem (i)).ml) (((t).mem (i)).cm)), (56, .int .i64 ((((t).mem (i)).ml : Int))), (57, .int .i64 ((k : Int)))] ∧ Held w7 w' []) (fun a w' => ((t).mem (i)).ml - (intOf (a.eval (.tmp 57))).toNat) ⟨0, Nat.zero_le _, rfl, hSq2, HH16⟩ ?_
                clear hSq2 HS16 HH16
                rintro aq2 wq2 ⟨k, hlek, hpk, HSq2, HHq2⟩
                have hm' : (intOf (aq2.eval (.tmp 57))).toNat = k := by rw [(HSq2.get 16 rfl)]; rfl
                rw [hm']
                clear hm'
                have hby := (hIn_9.mem hlti).own.2.2.2.2.1
                unfold reach47 at hby
                obtain ⟨r8, hr8⟩ : ∃ r : Bool, (decide (((k : Int) : Int) < (((t).mem (i)).ml : Int))) = r := ⟨_, rfl⟩
                refine wp_seq ?_
                have hLo : LOk [(0, 58, .val (.bool r8))] := lok (by rfl) (by rfl)
                refine zK (wE := w7) (sz := 78) (n := 1) [0] [(19, .val (.slice (some ⟨gn, 0, none⟩) (7) (7))), (0, .val (.agg (FR () 6 ((t).sc)))), (1, .val (.pointer (some ((⟨g1_0, 0, none⟩ : Addr))))), (11, .val (.bool false)), (13, .val (.slice ((t).xm) ((t).ml) ((t).cm))), (14, .val (.int .i64 (((t).ml : Int)))), (15, .val (.int .i64 ((i : Int)))), (16, .val (.bool true)), (4, .val (.pointer (some ((⟨g6_2, 0, none⟩ : Addr))))), (20, .val (.int .i64 (7))), (21, .val (.int .i64 ((n : Int)))), (22, .val (.bool false)), (48, .val (.bool true)), (52, .val (.bool false)), (55, .val (.slice (((t).mem (i)).xm) (((t).mem (i)).ml) (((t).mem (i)).cm))), (56, .val (.int .i64 ((((t).mem (i)).ml : Int)))), (57, .val (.int .i64 ((k : Int)))), (58, .val (.bool r8))] [(0, 58, .val (.bool r8))] [] rfl (by rfl) HHq2 rfl rfl hLo rfl HSq2 (slS 0 rfl rfl (slS 1 rfl rfl (slS 2 rfl rfl (slS 3 rfl rfl (slS 4 rfl rfl (slS 5 rfl rfl (slS 6 rfl rfl (slS 7 rfl rfl (slS 8 rfl rfl (slS 9 rfl rfl (slS 10 rfl rfl (slS 11 rfl rfl (slS 12 rfl rfl (slS 13 rfl rfl (slS 14 rfl rfl (slS 15 rfl rfl (slS 16 rfl rfl (slL 0 (d := 0) rfl (trivial))))))))))))))))))) ?_ ?_
                · show ∀ i ∈ [0], _
                  refine zA (zC 0 _ rfl rfl hLo rfl rfl (fun _ _ _ _ => rfl) (fun b G w hb ho => zJ rfl (zG rfl (HSq2.get 16 rfl)) (zG rfl (HSq2.get 15 rfl)) (rb_lss hr8 _ _ _))) ?_
                  exact zF
                clear hLo
                intro G a17 w17 hS hH
                have HS17 : Sl a17 78 [(19, .slice (some ⟨gn, 0, none⟩) (7) (7)), (0, .agg (FR () 6 ((t).sc))), (1, .pointer (some ((⟨g1_0, 0, none⟩ : Addr)))), (11, .bool false), (13, .slice ((t).xm) ((t).ml) ((t).cm)), (14, .int .i64 (((t).ml : Int))), (15, .int .i64 ((i : Int))), (16, .bool true), (4, .pointer (some ((⟨g6_2, 0, none⟩ : Addr)))), (20, .int .i64 (7)), (21, .int .i64 ((n : Int))), (22, .bool false), (48, .bool true), (52, .bool false), (55, .slice (((t).mem (i)).xm) (((t).mem (i)).ml) (((t).mem (i)).cm)), (56, .int .i64 ((((t).mem (i)).ml : Int))), (57, .int .i64 ((k : Int))), (58, .bool r8)] := hS
                have HH17 : Held w7 w17 [] := hH
                clear hS hH HSq2 HHq2
                refine then_ ?_
                refine wp_seq ?_
                cases r8
                · skip
                  have hendk : k = ((t).mem (i)).ml := by have := of_decide_eq_false hr8; omega
                  have hqk := hpk
                  rw [hendk] at hqk
                  refine wp_cond_false (HS17.get 17 rfl) ?_
                  refine wp_exit ?_
                  refine zV ?_
                  refine zV ?_
                  refine inBlock_exit ?_
                  refine zT ?_
                  refine then_ ?_
                  have hLo : LOk [(0, 77, .val (.int .i64 (((i + 1 : Nat) : Int)))), (1, 15, .val (.int .i64 (((i + 1 : Nat) : Int))))] := lok (by rfl) (by rfl)
                  refine zK (wE := w7) (sz := 78) (n := 2) [0, 1] [(19, .val (.slice (some ⟨gn, 0, none⟩) (7) (7))), (0, .val (.agg (FR () 6 ((t).sc)))), (1, .val (.pointer (some ((⟨g1_0, 0, none⟩ : Addr))))), (11, .val (.bool false)), (13, .val (.slice ((t).xm) ((t).ml) ((t).cm))), (14, .val (.int .i64 (((t).ml : Int)))), (16, .val (.bool true)), (4, .val (.pointer (some ((⟨g6_2, 0, none⟩ : Addr))))), (20, .val (.int .i64 (7))), (21, .val (.int .i64 ((n : Int)))), (22, .val (.bool false)), (48, .val (.bool true)), (52, .val (.bool false)), (55, .val (.slice (((t).mem (i)).xm) (((t).mem (i)).ml) (((t).mem (i)).cm))), (56, .val (.int .i64 ((((t).mem (i)).ml : Int)))), (57, .val (.int .i64 ((k : Int)))), (58, .val (.bool false)), (15, .val (.int .i64 (((i + 1 : Nat) : Int))))] [(0, 77, .val (.int .i64 (((i + 1 : Nat) : Int)))), (1, 15, .val (.int .i64 (((i + 1 : Nat) : Int))))] [] rfl (by rfl) HH17 rfl rfl hLo rfl HS17 (slS 0 rfl rfl (slS 1 rfl rfl (slS 2 rfl rfl (slS 3 rfl rfl (slS 4 rfl rfl (slS 5 rfl rfl (slS 7 rfl rfl (slS 8 rfl rfl (slS 9 rfl rfl (slS 10 rfl rfl (slS 11 rfl rfl (slS 12 rfl rfl (slS 13 rfl rfl (slS 14 rfl rfl (slS 15 rfl rfl (slS 16 rfl rfl (slS 17 rfl rfl (slL 1 (d := 1) rfl (trivial))))))))))))))))))) ?_ ?_
                  · show ∀ i ∈ [0, 1], _
                    refine zA (zC 0 _ rfl rfl hLo rfl rfl (fun _ _ _ _ => rfl) (fun b G w hb ho => zJ rfl (ev_pre hLo 1 rfl (ho 1 (by rfl)) (HS17.get 6 rfl)) (rfl) (rb_add (w_nat (by omega) (by omega)) _ _ _))) ?_
                    refine zA (zC 1 _ rfl rfl hLo rfl rfl (fun _ _ _ _ => rfl) (fun b G w hb ho => zD (.inl rfl) (zB hLo 0 rfl HS17.1 rfl (hb 0 (by rfl))))) ?_
                    exact zF
                  clear hLo
                  intro G a18 w18 hS hH
                  have HS18 : Sl a18 78 [(19, .slice (some ⟨gn, 0, none⟩) (7) (7)), (0, .agg (FR () 6 ((t).sc))), (1, .pointer (some ((⟨g1_0, 0, none⟩ : Addr)))), (11, .bool false), (13, .slice ((t).xm) ((t).ml) ((t).cm)), (14, .int .i64 (((t).ml : Int))), (16, .bool true), (4, .pointer (some ((⟨g6_2, 0, none⟩ : Addr)))), (20, .int .i64 (7)), (21, .int .i64 ((n : Int))), (22, .bool false), (48, .bool true), (52, .bool false), (55, .slice (((t).mem (i)).xm) (((t).mem (i)).ml) (((t).mem (i)).cm)), (56, .int .i64 ((((t).mem (i)).ml : Int))), (57, .int .i64 ((k : Int))), (58, .bool false), (15, .int .i64 (((i + 1 : Nat) : Int)))] := hS
                  have HH18 : Held w7 w18 [] := hH
                  clear hS hH HS17 HH17
                  refine then_ ?_
                  have HH19 := Held.back HH8 HH18
                  have hSq0' : Sl _ 78 [(0, .agg (FR () 6 ((t).sc))), (1, .pointer (some ⟨g1_0, 0, none⟩)), (11, .bool false), (13, .slice ((t).xm) ((t).ml) ((t).cm)), (14, .int .i64 (((t).ml : Int))), (15, .int .i64 (((i + 1 : Nat) : Int)))] := sl_keep HS18 [1, 2, 3, 4, 5, 17] (by rfl)
                  have hHq0' : Held w _ [⟨g1_0, (), 6, (t).sc, 25⟩] := held_keep HH19 1 rfl
                  exact ⟨⟨i + 1, by omega, allB_step hpi (memR_y hqn (by
                      have hit : isTab ((t).key (i)) = true := by unfold isTab; simp only [hr4, hr5, hr6]; try rfl
                      show (!isTab ((t).key (i)) || (!((((t).mem (i)).kind) != 5) && allB (memV zY ((t).key (i)) ((t).mem (i))) ((t).mem (i)).ml)) = _
                      rw [hit]; rw [hr7, hqk]; rfl)), hSq0', hHq0'⟩, by rw [(hSq0'.get 5 rfl)]; show t.ml - (((i + 1 : Nat) : Int)).toNat < t.ml - i; omega⟩
                · skip
                  have hltk : k < ((t).mem (i)).ml := by have := of_decide_eq_true hr8; omega
                  refine wp_cond_true (HS17.get 17 rfl) ?_
                  refine wp_skip ?_
                  refine then_ ?_
                  refine wp_seq ?_
                  refine wp_block ?_
                  obtain ⟨⟨a2, hx2, hk2, hv2⟩, _, hn2⟩ := ((hIn_9.mem hlti)).mems (i := k) (by omega)
                  refine wp_seq ?_
                  have hLo : LOk [(0, 59, .val (.pointer (some (a2.add ((k) * 7))))), (1, 60, .val (.agg (FR () 7 (msc (((t).mem (i)).key (k)) (((t).mem (i)).mem (k)))))), (2, 8, .new 2 (fun g => .pointer (some ⟨g, 0, none⟩)))] := lok (by rfl) (by rfl)
                  refine zK (wE := w7) (sz := 78) (n := 4) [0, 1, 3, 7] [(19, .val (.slice (some ⟨gn, 0, none⟩) (7) (7))), (0, .val (.agg (FR () 6 ((t).sc)))), (1, .val (.pointer (some ((⟨g1_0, 0, none⟩ : Addr))))), (11, .val (.bool false)), (13, .val (.slice ((t).xm) ((t).ml) ((t).cm))), (14, .val (.int .i64 (((t).ml : Int)))), (15, .val (.int .i64 ((i : Int)))), (16, .val (.bool true)), (4, .val (.pointer (some ((⟨g6_2, 0, none⟩ : Addr))))), (20, .val (.int .i64 (7))), (21, .val (.int .i64 ((n : Int)))), (22, .val (.bool false)), (48, .val (.bool true)), (52, .val (.bool false)), (55, .val (.slice (((t).mem (i)).xm) (((t).mem (i)).ml) (((t).mem (i)).cm))), (56, .val (.int .i64 ((((t).mem (i)).ml : Int)))), (57, .val (.int .i64 ((k : Int)))), (58, .val (.bool true)), (8, .new 2 (fun g => .pointer (some ⟨g, 0, none⟩)))] [(0, 59, .val (.pointer (some (a2.add ((k) * 7))))), (1, 60, .val (.agg (FR () 7 (msc (((t).mem (i)).key (k)) (((t).mem (i)).mem (k)))))), (2, 8, .new 2 (fun g => .pointer (some ⟨g, 0, none⟩)))] [⟨0, some 2, some 3, (), 7, lsc [.s (ByteArray.empty), .i .i64 (0), .b (false), .i .i64 (0), .s (ByteArray.empty), .sl (none) (0) (0), .sl (none) (0) (0)], msc (((t).mem (i)).key (k)) (((t).mem (i)).mem (k)), 36⟩] rfl (by rfl) HH17 rfl rfl hLo rfl HS17 (slS 0 rfl rfl (slS 1 rfl rfl (slS 2 rfl rfl (slS 3 rfl rfl (slS 4 rfl rfl (slS 5 rfl rfl (slS 6 rfl rfl (slS 7 rfl rfl (slS 8 rfl rfl (slS 9 rfl rfl (slS 10 rfl rfl (slS 11 rfl rfl (slS 12 rfl rfl (slS 13 rfl rfl (slS 14 rfl rfl (slS 15 rfl rfl (slS 16 rfl rfl (slS 17 rfl rfl (slL 2 (d := 2) rfl (trivial)))))))))))))))))))) ?_ ?_
                  · show ∀ i ∈ [0, 1, 2, 3], _
                    refine zA (zC 0 _ rfl rfl hLo rfl rfl (fun _ _ _ _ => rfl) (fun b G w hb ho => zU rfl (zG rfl (HS17.get 14 rfl)) (zG rfl (HS17.get 16 rfl)) (index_sl Tryd.underlying23 (by kernel_rfl) hx2 (by omega) _))) ?_
                    refine zA (st_at 1 (a2.add ((k) * 7)) rfl rfl rfl (fun _ _ _ _ => rfl) hLo rfl rfl Tryd.underlying36 (by kernel_rfl) rfl (at7 hk2 hv2) (fun b G hb ho => zB hLo 0 rfl HS17.1 rfl (hb 0 (by rfl)))) ?_
                    refine zA (st_alloc 2 0 () 7 36 (some 3) _ _ rfl rfl (fun _ _ _ _ => rfl) rfl hLo rfl rfl rfl rfl (by rfl) (fun b G w _ _ => by kernel_rfl)) ?_
                    refine zA (st_store 0 _ rfl rfl rfl rfl rfl (fun _ _ _ _ => rfl) rfl rfl rfl (by rfl) (by kernel_rfl) (fun b G hb ho => zB hLo 2 rfl HS17.1 rfl (hb 2 (by rfl))) (fun b G hb ho => zB hLo 1 rfl HS17.1 rfl (hb 1 (by rfl)))) ?_
                    exact zF
                  clear hLo
                  intro G a20 w20 hS hH
                  have HS20 : Sl a20 78 [(19, .slice (some ⟨gn, 0, none⟩) (7) (7)), (0, .agg (FR () 6 ((t).sc))), (1, .pointer (some ((⟨g1_0, 0, none⟩ : Addr)))), (11, .bool false), (13, .slice ((t).xm) ((t).ml) ((t).cm)), (14, .int .i64 (((t).ml : Int))), (15, .int .i64 ((i : Int))), (16, .bool true), (4, .pointer (some ((⟨g6_2, 0, none⟩ : Addr)))), (20, .int .i64 (7)), (21, .int .i64 ((n : Int))), (22, .bool false), (48, .bool true), (52, .bool false), (55, .slice (((t).mem (i)).xm) (((t).mem (i)).ml) (((t).mem (i)).cm)), (56, .int .i64 ((((t).mem (i)).ml : Int))), (57, .int .i64 ((k : Int))), (58, .bool true), (8, .pointer (some ⟨(G 2), 0, none⟩))] := hS
                  have HH20 : Held w7 w20 [⟨(G 2), (), 7, msc (((t).mem (i)).key (k)) (((t).mem (i)).mem (k)), 36⟩] := hH
                  clear hS hH HS17 HH17
                  generalize G 2 = g20_2 at HS20 HH20
                  refine then_ ?_
                  obtain ⟨r9, hr9⟩ : ∃ r : Bool, ((((((t).mem (i)).mem (k)).kind : Int) != 2)) = r := ⟨_, rfl⟩
                  cases r9
                  · skip
                    refine wp_seq ?_
                    have hLo : LOk [(0, 61, .val (.pointer (some ⟨g20_2, 1, none⟩))), (1, 62, .val (.pointer (some ⟨g20_2, 1, none⟩))), (2, 63, .val (.int .i64 ((((t).mem (i)).mem (k)).kind))), (3, 64, .val (.bool false)), (4, 65, .val (.bool false)), (5, 66, .val (.pointer (some ((⟨g6_2, 0, none⟩ : Addr))))), (6, 67, .val (.string ((t).key (i)))), (7, 68, .val (.bool false)), (8, 69, .val (.bool false)), (9, 70, .val (undef)), (10, 71, .val (undef)), (11, 72, .val (undef)), (12, 73, .val (undef)), (13, 74, .val (.bool false)), (14, 75, .val (.bool false))] := lok (by rfl) (by rfl)
                    refine zK (wE := w7) (sz := 78) (n := 15) [0, 1, 3, 7, 15, 31, 63, 127, 255, 511, 1023, 2047, 4095, 8191, 16383] [(19, .val (.slice (some ⟨gn, 0, none⟩) (7) (7))), (0, .val (.agg (FR () 6 ((t).sc)))), (1, .val (.pointer (some ((⟨g1_0, 0, none⟩ : Addr))))), (11, .val (.bool false)), (13, .val (.slice ((t).xm) ((t).ml) ((t).cm))), (14, .val (.int .i64 (((t).ml : Int)))), (15, .val (.int .i64 ((i : Int)))), (16, .val (.bool true)), (4, .val (.pointer (some ((⟨g6_2, 0, none⟩ : Addr))))), (20, .val (.int .i64 (7))), (21, .val (.int .i64 ((n : Int)))), (22, .val (.bool false)), (48, .val (.bool true)), (52, .val (.bool false)), (55, .val (.slice (((t).mem (i)).xm) (((t).mem (i)).ml) (((t).mem (i)).cm))), (56, .val (.int .i64 ((((t).mem (i)).ml : Int)))), (57, .val (.int .i64 ((k : Int)))), (58, .val (.bool true)), (8, .val (.pointer (some ⟨g20_2, 0, none⟩))), (75, .val (.bool false))] [(0, 61, .val (.pointer (some ⟨g20_2, 1, none⟩))), (1, 62, .val (.pointer (some ⟨g20_2, 1, none⟩))), (2, 63, .val (.int .i64 ((((t).mem (i)).mem (k)).kind))), (3, 64, .val (.bool false)), (4, 65, .val (.bool false)), (5, 66, .val (.pointer (some ((⟨g6_2, 0, none⟩ : Addr))))), (6, 67, .val (.string ((t).key (i)))), (7, 68, .val (.bool false)), (8, 69, .val (.bool false)), (9, 70, .val (undef)), (10, 71, .val (undef)), (11, 72, .val (undef)), (12, 73, .val (undef)), (13, 74, .val (.bool false)), (14, 75, .val (.bool false))] [⟨g20_2, none, none, (), 7, msc (((t).mem (i)).key (k)) (((t).mem (i)).mem (k)), msc (((t).mem (i)).key (k)) (((t).mem (i)).mem (k)), 36⟩] rfl (by rfl) HH20 rfl rfl hLo rfl HS20 (slS 0 rfl rfl (slS 1 rfl rfl (slS 2 rfl rfl (slS 3 rfl rfl (slS 4 rfl rfl (slS 5 rfl rfl (slS 6 rfl rfl (slS 7 rfl rfl (slS 8 rfl rfl (slS 9 rfl rfl (slS 10 rfl rfl (slS 11 rfl rfl (slS 12 rfl rfl (slS 13 rfl rfl (slS 14 rfl rfl (slS 15 rfl rfl (slS 16 rfl rfl (slS 17 rfl rfl (slS 18 rfl rfl (slL 14 (d := 14) rfl (trivial))))))))))))))))))))) ?_ ?_
                    · show ∀ i ∈ [0, 1, 2, 3, 4, 5, 6, 7, 8, 9, 10, 11, 12, 13, 14], _
                      refine zA (zC 0 _ rfl rfl hLo rfl rfl (fun _ _ _ _ => rfl) (fun b G w hb ho => zH rfl (zG rfl (HS20.get 18 rfl)) (by kernel_rfl))) ?_
                      refine zA (zC 1 _ rfl rfl hLo rfl rfl (fun _ _ _ _ => rfl) (fun b G w hb ho => zH rfl (zB hLo 0 rfl HS20.1 rfl (hb 0 (by rfl))) (by kernel_rfl))) ?_
                      refine zA (zW 2 0 _ _ rfl rfl rfl hLo rfl rfl (fun _ _ _ _ => rfl) (by rfl) (by rfl) (fun b G w hb ho hr => zP hr (Nat.le_of_ble_eq_true rfl) Tryd.underlying3 rfl rfl (zB hLo 1 rfl HS20.1 rfl (hb 1 (by rfl))))) ?_
                      refine zA (zC 3 _ rfl rfl hLo rfl rfl (fun _ _ _ _ => rfl) (fun b G w hb ho => zJ rfl (zB hLo 2 rfl HS20.1 rfl (hb 2 (by rfl))) (rfl) (rb_neq hr9 _ _ _))) ?_
                      refine zA (zC 4 _ rfl rfl hLo rfl rfl (fun _ _ _ _ => rfl) (fun b G w hb ho => zD (.inl rfl) (zB hLo 3 rfl HS20.1 rfl (hb 3 (by rfl))))) ?_
                      refine zA (zC 5 _ rfl rfl hLo rfl rfl (fun b G hb ho => zE rfl rfl rfl HS20.1 rfl (zB hLo 4 rfl HS20.1 rfl (hb 4 (by rfl))) rfl) (fun b G w hb ho => zH rfl (zG rfl (HS20.get 8 rfl)) (by kernel_rfl))) ?_
                      refine zA (st_at1 6 ((⟨g6_2, 0, none⟩ : Addr)) _ rfl rfl rfl (fun b G hb ho => zE rfl rfl rfl HS20.1 rfl (zB hLo 4 rfl HS20.1 rfl (hb 4 (by rfl))) rfl) hLo rfl rfl Tryd.underlying9 rfl (row_at hRow9_1 0 (Nat.le_of_ble_eq_true rfl)) (fun b G hb ho => zB hLo 5 rfl HS20.1 rfl (hb 5 (by rfl)))) ?_
                      refine zA (zC 7 _ rfl rfl hLo rfl rfl (fun b G hb ho => zE rfl rfl rfl HS20.1 rfl (zB hLo 4 rfl HS20.1 rfl (hb 4 (by rfl))) rfl) (fun b G w hb ho => zJ rfl (zB hLo 6 rfl HS20.1 rfl (hb 6 (by rfl))) (rfl) (rb_seql hr4 _ _ _))) ?_
                      refine zA (zC 8 _ rfl rfl hLo rfl rfl (fun b G hb ho => zE rfl rfl rfl HS20.1 rfl (zB hLo 4 rfl HS20.1 rfl (hb 4 (by rfl))) rfl) (fun b G w hb ho => zD (.inl rfl) (zB hLo 7 rfl HS20.1 rfl (hb 7 (by rfl))))) ?_
                      refine zA (zL 9 rfl rfl hLo rfl rfl (fun b G hb ho => zE rfl rfl rfl HS20.1 rfl (zB hLo 8 rfl HS20.1 rfl (hb 8 (by rfl))) rfl)) ?_
                      refine zA (zL 10 rfl rfl hLo rfl rfl (fun b G hb ho => zE rfl rfl rfl HS20.1 rfl (zB hLo 8 rfl HS20.1 rfl (hb 8 (by rfl))) rfl)) ?_
                      refine zA (zL 11 rfl rfl hLo rfl rfl (fun b G hb ho => zE rfl rfl rfl HS20.1 rfl (zB hLo 8 rfl HS20.1 rfl (hb 8 (by rfl))) rfl)) ?_
                      refine zA (zL 12 rfl rfl hLo rfl rfl (fun b G hb ho => zE rfl rfl rfl HS20.1 rfl (zB hLo 8 rfl HS20.1 rfl (hb 8 (by rfl))) rfl)) ?_
                      refine zA (zC 13 _ rfl rfl hLo rfl rfl (fun b G hb ho => zE rfl rfl rfl HS20.1 rfl (zB hLo 4 rfl HS20.1 rfl (hb 4 (by rfl))) rfl) (fun b G w hb ho => zO rfl (zB hLo 8 rfl HS20.1 rfl (hb 8 (by rfl))) (rfl))) ?_
                      refine zA (zC 14 _ rfl rfl hLo rfl rfl (fun _ _ _ _ => rfl) (fun b G w hb ho => zO rfl (zB hLo 4 rfl HS20.1 rfl (hb 4 (by rfl))) (zB hLo 13 rfl HS20.1 rfl (hb 13 (by rfl))))) ?_
                      exact zF
                    clear hLo
                    intro G a21 w21 hS hH
                    have HS21 : Sl a21 78 [(19, .slice (some ⟨gn, 0, none⟩) (7) (7)), (0, .agg (FR () 6 ((t).sc))), (1, .pointer (some ((⟨g1_0, 0, none⟩ : Addr)))), (11, .bool false), (13, .slice ((t).xm) ((t).ml) ((t).cm)), (14, .int .i64 (((t).ml : Int))), (15, .int .i64 ((i : Int))), (16, .bool true), (4, .pointer (some ((⟨g6_2, 0, none⟩ : Addr)))), (20, .int .i64 (7)), (21, .int .i64 ((n : Int))), (22, .bool false), (48, .bool true), (52, .bool false), (55, .slice (((t).mem (i)).xm) (((t).mem (i)).ml) (((t).mem (i)).cm)), (56, .int .i64 ((((t).mem (i)).ml : Int))), (57, .int .i64 ((k : Int))), (58, .bool true), (8, .pointer (some ⟨g20_2, 0, none⟩)), (75, .bool false)] := hS
                    have HH21 : Held w7 w21 [⟨g20_2, (), 7, msc (((t).mem (i)).key (k)) (((t).mem (i)).mem (k)), 36⟩] := hH
                    clear hS hH HS20 HH20
                    refine then_ ?_
                    refine wp_cond_false (HS21.get 19 rfl) ?_
                    refine wp_skip ?_
                    refine zT ?_
                    refine then_ ?_
                    have hLo : LOk [(0, 76, .val (.int .i64 (((k + 1 : Nat) : Int)))), (1, 57, .val (.int .i64 (((k + 1 : Nat) : Int))))] := lok (by rfl) (by rfl)
                    refine zK (wE := w7) (sz := 78) (n := 2) [0, 1] [(19, .val (.slice (some ⟨gn, 0, none⟩) (7) (7))), (0, .val (.agg (FR () 6 ((t).sc)))), (1, .val (.pointer (some ((⟨g1_0, 0, none⟩ : Addr))))), (11, .val (.bool false)), (13, .val (.slice ((t).xm) ((t).ml) ((t).cm))), (14, .val (.int .i64 (((t).ml : Int)))), (15, .val (.int .i64 ((i : Int)))), (16, .val (.bool true)), (4, .val (.pointer (some ((⟨g6_2, 0, none⟩ : Addr))))), (20, .val (.int .i64 (7))), (21, .val (.int .i64 ((n : Int)))), (22, .val (.bool false)), (48, .val (.bool true)), (52, .val (.bool false)), (55, .val (.slice (((t).mem (i)).xm) (((t).mem (i)).ml) (((t).mem (i)).cm))), (56, .val (.int .i64 ((((t).mem (i)).ml : Int)))), (58, .val (.bool true)), (8, .val (.pointer (some ⟨g20_2, 0, none⟩))), (75, .val (.bool false)), (57, .val (.int .i64 (((k + 1 : Nat) : Int))))] [(0, 76, .val (.int .i64 (((k + 1 : Nat) : Int)))), (1, 57, .val (.int .i64 (((k + 1 : Nat) : Int))))] [⟨g20_2, none, none, (), 7, msc (((t).mem (i)).key (k)) (((t).mem (i)).mem (k)), msc (((t).mem (i)).key (k)) (((t).mem (i)).mem (k)), 36⟩] rfl (by rfl) HH21 rfl rfl hLo rfl HS21 (slS 0 rfl rfl (slS 1 rfl rfl (slS 2 rfl rfl (slS 3 rfl rfl (slS 4 rfl rfl (slS 5 rfl rfl (slS 6 rfl rfl (slS 7 rfl rfl (slS 8 rfl rfl (slS 9 rfl rfl (slS 10 rfl rfl (slS 11 rfl rfl (slS 12 rfl rfl (slS 13 rfl rfl (slS 14 rfl rfl (slS 15 rfl rfl (slS 17 rfl rfl (slS 18 rfl rfl (slS 19 rfl rfl (slL 1 (d := 1) rfl (trivial))))))))))))))))))))) ?_ ?_
                    · show ∀ i ∈ [0, 1], _
                      refine zA (zC 0 _ rfl rfl hLo rfl rfl (fun _ _ _ _ => rfl) (fun b G w hb ho => zJ rfl (ev_pre hLo 1 rfl (ho 1 (by rfl)) (HS21.get 16 rfl)) (rfl) (rb_add (w_nat (by omega) (by omega)) _ _ _))) ?_
                      refine zA (zC 1 _ rfl rfl hLo rfl rfl (fun _ _ _ _ => rfl) (fun b G w hb ho => zD (.inl rfl) (zB hLo 0 rfl HS21.1 rfl (hb 0 (by rfl))))) ?_
                      exact zF
                    clear hLo
                    intro G a22 w22 hS hH
                    have HS22 : Sl a22 78 [(19, .slice (some ⟨gn, 0, none⟩) (7) (7)), (0, .agg (FR () 6 ((t).sc))), (1, .pointer (some ((⟨g1_0, 0, none⟩ : Addr)))), (11, .bool false), (13, .slice ((t).xm) ((t).ml) ((t).cm)), (14, .int .i64 (((t).ml : Int))), (15, .int .i64 ((i : Int))), (16, .bool true), (4, .pointer (some ((⟨g6_2, 0, none⟩ : Addr)))), (20, .int .i64 (7)), (21, .int .i64 ((n : Int))), (22, .bool false), (48, .bool true), (52, .bool false), (55, .slice (((t).mem (i)).xm) (((t).mem (i)).ml) (((t).mem (i)).cm)), (56, .int .i64 ((((t).mem (i)).ml : Int))), (58, .bool true), (8, .pointer (some ⟨g20_2, 0, none⟩)), (75, .bool false), (57, .int .i64 (((k + 1 : Nat) : Int)))] := hS
                    have HH22 : Held w7 w22 [⟨g20_2, (), 7, msc (((t).mem (i)).key (k)) (((t).mem (i)).mem (k)), 36⟩] := hH
                    clear hS hH HS21 HH21
                    refine then_ ?_
                    have hSq2' : Sl _ 78 [(19, .slice (some ⟨gn, 0, none⟩) (7) (7)), (0, .agg (FR () 6 ((t).sc))), (1, .pointer (some ((⟨g1_0, 0, none⟩ : Addr)))), (11, .bool false), (13, .slice ((t).xm) ((t).ml) ((t).cm)), (14, .int .i64 (((t).ml : Int))), (15, .int .i64 ((i : Int))), (16, .bool true), (4, .pointer (some ((⟨g6_2, 0, none⟩ : Addr)))), (20, .int .i64 (7)), (21, .int .i64 ((n : Int))), (22, .bool false), (48, .bool true), (52, .bool false), (55, .slice (((t).mem (i)).xm) (((t).mem (i)).ml) (((t).mem (i)).cm)), (56, .int .i64 ((((t).mem (i)).ml : Int))), (57, .int .i64 (((k + 1 : Nat) : Int)))] := sl_keep HS22 [0, 1, 2, 3, 4, 5, 6, 7, 8, 9, 10, 11, 12, 13, 14, 15, 19] (by rfl)
                    have hHq2' : Held w7 _ [] := held_keep HH22 0 rfl
                    exact ⟨⟨k + 1, by omega, allB_step hpk ((by show (!(((((t).mem (i)).mem (k)).kind != 2) || (decide ((t).key (i) = k_users) && !zY (((t).mem (i)).key (k))))) = _; simp only [hr9, hr4]; try rfl)), hSq2', hHq2'⟩, by rw [(hSq2'.get 16 rfl)]; show ((t).mem (i)).ml - (((k + 1 : Nat) : Int)).toNat < ((t).mem (i)).ml - k; omega⟩
                  · skip
                    refine wp_seq ?_
                    have hLo : LOk [(0, 61, .val (.pointer (some ⟨g20_2, 1, none⟩))), (1, 62, .val (.pointer (some ⟨g20_2, 1, none⟩))), (2, 63, .val (.int .i64 ((((t).mem (i)).mem (k)).kind))), (3, 64, .val (.bool true)), (4, 65, .val (.bool true)), (5, 66, .val (undef)), (6, 67, .val (undef)), (7, 68, .val (undef)), (8, 69, .val (undef)), (9, 70, .val (undef)), (10, 71, .val (undef)), (11, 72, .val (undef)), (12, 73, .val (undef)), (13, 74, .val (undef)), (14, 75, .val (.bool true))] := lok (by rfl) (by rfl)
                    refine zK (wE := w7) (sz := 78) (n := 15) [0, 1, 3, 7, 15, 31, 63, 127, 255, 511, 1023, 2047, 4095, 8191, 16383] [(19, .val (.slice (some ⟨gn, 0, none⟩) (7) (7))), (0, .val (.agg (FR () 6 ((t).sc)))), (1, .val (.pointer (some ((⟨g1_0, 0, none⟩ : Addr))))), (11, .val (.bool false)), (13, .val (.slice ((t).xm) ((t).ml) ((t).cm))), (14, .val (.int .i64 (((t).ml : Int)))), (15, .val (.int .i64 ((i : Int)))), (16, .val (.bool true)), (4, .val (.pointer (some ((⟨g6_2, 0, none⟩ : Addr))))), (20, .val (.int .i64 (7))), (21, .val (.int .i64 ((n : Int)))), (22, .val (.bool false)), (48, .val (.bool true)), (52, .val (.bool false)), (55, .val (.slice (((t).mem (i)).xm) (((t).mem (i)).ml) (((t).mem (i)).cm))), (56, .val (.int .i64 ((((t).mem (i)).ml : Int)))), (57, .val (.int .i64 ((k : Int)))), (58, .val (.bool true)), (8, .val (.pointer (some ⟨g20_2, 0, none⟩))), (75, .val (.bool true))] [(0, 61, .val (.pointer (some ⟨g20_2, 1, none⟩))), (1, 62, .val (.pointer (some ⟨g20_2, 1, none⟩))), (2, 63, .val (.int .i64 ((((t).mem (i)).mem (k)).kind))), (3, 64, .val (.bool true)), (4, 65, .val (.bool true)), (5, 66, .val (undef)), (6, 67, .val (undef)), (7, 68, .val (undef)), (8, 69, .val (undef)), (9, 70, .val (undef)), (10, 71, .val (undef)), (11, 72, .val (undef)), (12, 73, .val (undef)), (13, 74, .val (undef)), (14, 75, .val (.bool true))] [⟨g20_2, none, none, (), 7, msc (((t).mem (i)).key (k)) (((t).mem (i)).mem (k)), msc (((t).mem (i)).key (k)) (((t).mem (i)).mem (k)), 36⟩] rfl (by rfl) HH20 rfl rfl hLo rfl HS20 (slS 0 rfl rfl (slS 1 rfl rfl (slS 2 rfl rfl (slS 3 rfl rfl (slS 4 rfl rfl (slS 5 rfl rfl (slS 6 rfl rfl (slS 7 rfl rfl (slS 8 rfl rfl (slS 9 rfl rfl (slS 10 rfl rfl (slS 11 rfl rfl (slS 12 rfl rfl (slS 13 rfl rfl (slS 14 rfl rfl (slS 15 rfl rfl (slS 16 rfl rfl (slS 17 rfl rfl (slS 18 rfl rfl (slL 14 (d := 14) rfl (trivial))))))))))))))))))))) ?_ ?_
                    · show ∀ i ∈ [0, 1, 2, 3, 4, 5, 6, 7, 8, 9, 10, 11, 12, 13, 14], _
                      refine zA (zC 0 _ rfl rfl hLo rfl rfl (fun _ _ _ _ => rfl) (fun b G w hb ho => zH rfl (zG rfl (HS20.get 18 rfl)) (by kernel_rfl))) ?_
                      refine zA (zC 1 _ rfl rfl hLo rfl rfl (fun _ _ _ _ => rfl) (fun b G w hb ho => zH rfl (zB hLo 0 rfl HS20.1 rfl (hb 0 (by rfl))) (by kernel_rfl))) ?_
                      refine zA (zW 2 0 _ _ rfl rfl rfl hLo rfl rfl (fun _ _ _ _ => rfl) (by rfl) (by rfl) (fun b G w hb ho hr => zP hr (Nat.le_of_ble_eq_true rfl) Tryd.underlying3 rfl rfl (zB hLo 1 rfl HS20.1 rfl (hb 1 (by rfl))))) ?_
                      refine zA (zC 3 _ rfl rfl hLo rfl rfl (fun _ _ _ _ => rfl) (fun b G w hb ho => zJ rfl (zB hLo 2 rfl HS20.1 rfl (hb 2 (by rfl))) (rfl) (rb_neq hr9 _ _ _))) ?_
                      refine zA (zC 4 _ rfl rfl hLo rfl rfl (fun _ _ _ _ => rfl) (fun b G w hb ho => zD (.inl rfl) (zB hLo 3 rfl HS20.1 rfl (hb 3 (by rfl))))) ?_
                      refine zA (zL 5 rfl rfl hLo rfl rfl (fun b G hb ho => zE rfl rfl rfl HS20.1 rfl (zB hLo 4 rfl HS20.1 rfl (hb 4 (by rfl))) rfl)) ?_
                      refine zA (zL 6 rfl rfl hLo rfl rfl (fun b G hb ho => zE rfl rfl rfl HS20.1 rfl (zB hLo 4 rfl HS20.1 rfl (hb 4 (by rfl))) rfl)) ?_
                      refine zA (zL 7 rfl rfl hLo rfl rfl (fun b G hb ho => zE rfl rfl rfl HS20.1 rfl (zB hLo 4 rfl HS20.1 rfl (hb 4 (by rfl))) rfl)) ?_
                      refine zA (zL 8 rfl rfl hLo rfl rfl (fun b G hb ho => zE rfl rfl rfl HS20.1 rfl (zB hLo 4 rfl HS20.1 rfl (hb 4 (by rfl))) rfl)) ?_
                      refine zA (zL 9 rfl rfl hLo rfl rfl (fun b G hb ho => wanted_un rfl rfl rfl HS20.1 rfl (zB hLo 8 rfl HS20.1 rfl (hb 8 (by rfl))))) ?_
                      refine zA (zL 10 rfl rfl hLo rfl rfl (fun b G hb ho => wanted_un rfl rfl rfl HS20.1 rfl (zB hLo 8 rfl HS20.1 rfl (hb 8 (by rfl))))) ?_
                      refine zA (zL 11 rfl rfl hLo rfl rfl (fun b G hb ho => wanted_un rfl rfl rfl HS20.1 rfl (zB hLo 8 rfl HS20.1 rfl (hb 8 (by rfl))))) ?_
                      refine zA (zL 12 rfl rfl hLo rfl rfl (fun b G hb ho => wanted_un rfl rfl rfl HS20.1 rfl (zB hLo 8 rfl HS20.1 rfl (hb 8 (by rfl))))) ?_
                      refine zA (zL 13 rfl rfl hLo rfl rfl (fun b G hb ho => zE rfl rfl rfl HS20.1 rfl (zB hLo 4 rfl HS20.1 rfl (hb 4 (by rfl))) rfl)) ?_
                      refine zA (zC 14 _ rfl rfl hLo rfl rfl (fun _ _ _ _ => rfl) (fun b G w hb ho => zO rfl (zB hLo 4 rfl HS20.1 rfl (hb 4 (by rfl))) (rfl))) ?_
                      exact zF
                    clear hLo
                    intro G a23 w23 hS hH
                    have HS23 : Sl a23 78 [(19, .slice (some ⟨gn, 0, none⟩) (7) (7)), (0, .agg (FR () 6 ((t).sc))), (1, .pointer (some ((⟨g1_0, 0, none⟩ : Addr)))), (11, .bool false), (13, .slice ((t).xm) ((t).ml) ((t).cm)), (14, .int .i64 (((t).ml : Int))), (15, .int .i64 ((i : Int))), (16, .bool true), (4, .pointer (some ((⟨g6_2, 0, none⟩ : Addr)))), (20, .int .i64 (7)), (21, .int .i64 ((n : Int))), (22, .bool false), (48, .bool true), (52, .bool false), (55, .slice (((t).mem (i)).xm) (((t).mem (i)).ml) (((t).mem (i)).cm)), (56, .int .i64 ((((t).mem (i)).ml : Int))), (57, .int .i64 ((k : Int))), (58, .bool true), (8, .pointer (some ⟨g20_2, 0, none⟩)), (75, .bool true)] := hS
                    have HH23 : Held w7 w23 [⟨g20_2, (), 7, msc (((t).mem (i)).key (k)) (((t).mem (i)).mem (k)), 36⟩] := hH
                    clear hS hH HS20 HH20
                    refine then_ ?_
                    refine wp_cond_true (HS23.get 19 rfl) ?_
                    refine wp_seq ?_
                    have hLo : LOk [(0, 2, .val (.bool false))] := lok (by rfl) (by rfl)
                    refine zK (wE := w7) (sz := 78) (n := 1) [0] [(19, .val (.slice (some ⟨gn, 0, none⟩) (7) (7))), (0, .val (.agg (FR () 6 ((t).sc)))), (1, .val (.pointer (some ((⟨g1_0, 0, none⟩ : Addr))))), (11, .val (.bool false)), (13, .val (.slice ((t).xm) ((t).ml) ((t).cm))), (14, .val (.int .i64 (((t).ml : Int)))), (15, .val (.int .i64 ((i : Int)))), (16, .val (.bool true)), (4, .val (.pointer (some ((⟨g6_2, 0, none⟩ : Addr))))), (20, .val (.int .i64 (7))), (21, .val (.int .i64 ((n : Int)))), (22, .val (.bool false)), (48, .val (.bool true)), (52, .val (.bool false)), (55, .val (.slice (((t).mem (i)).xm) (((t).mem (i)).ml) (((t).mem (i)).cm))), (56, .val (.int .i64 ((((t).mem (i)).ml : Int)))), (57, .val (.int .i64 ((k : Int)))), (58, .val (.bool true)), (8, .val (.pointer (some ⟨g20_2, 0, none⟩))), (75, .val (.bool true)), (2, .val (.bool false))] [(0, 2, .val (.bool false))] [⟨g20_2, none, none, (), 7, msc (((t).mem (i)).key (k)) (((t).mem (i)).mem (k)), msc (((t).mem (i)).key (k)) (((t).mem (i)).mem (k)), 36⟩] rfl (by rfl) HH23 rfl rfl hLo rfl HS23 (slS 0 rfl rfl (slS 1 rfl rfl (slS 2 rfl rfl (slS 3 rfl rfl (slS 4 rfl rfl (slS 5 rfl rfl (slS 6 rfl rfl (slS 7 rfl rfl (slS 8 rfl rfl (slS 9 rfl rfl (slS 10 rfl rfl (slS 11 rfl rfl (slS 12 rfl rfl (slS 13 rfl rfl (slS 14 rfl rfl (slS 15 rfl rfl (slS 16 rfl rfl (slS 17 rfl rfl (slS 18 rfl rfl (slS 19 rfl rfl (slL 0 (d := 0) rfl (trivial)))))))))))))))))))))) ?_ ?_
                    · show ∀ i ∈ [0], _
                      refine zA (zC 0 _ rfl rfl hLo rfl rfl (fun _ _ _ _ => rfl) (fun b G w hb ho => zD (.inr rfl) (rfl))) ?_
                      exact zF
                    clear hLo
                    intro G a24 w24 hS hH
                    have HS24 : Sl a24 78 [(19, .slice (some ⟨gn, 0, none⟩) (7) (7)), (0, .agg (FR () 6 ((t).sc))), (1, .pointer (some ((⟨g1_0, 0, none⟩ : Addr)))), (11, .bool false), (13, .slice ((t).xm) ((t).ml) ((t).cm)), (14, .int .i64 (((t).ml : Int))), (15, .int .i64 ((i : Int))), (16, .bool true), (4, .pointer (some ((⟨g6_2, 0, none⟩ : Addr)))), (20, .int .i64 (7)), (21, .int .i64 ((n : Int))), (22, .bool false), (48, .bool true), (52, .bool false), (55, .slice (((t).mem (i)).xm) (((t).mem (i)).ml) (((t).mem (i)).cm)), (56, .int .i64 ((((t).mem (i)).ml : Int))), (57, .int .i64 ((k : Int))), (58, .bool true), (8, .pointer (some ⟨g20_2, 0, none⟩)), (75, .bool true), (2, .bool false)] := hS
                    have HH24 : Held w7 w24 [⟨g20_2, (), 7, msc (((t).mem (i)).key (k)) (((t).mem (i)).mem (k)), 36⟩] := hH
                    clear hS hH HS23 HH23
                    refine then_ ?_
                    refine wp_ret ?_
                    repeat (first | refine zS ?_ | refine zM ?_)
                    have HH25 := Held.back HH8 HH24
                    exact b_tmp rfl HS24.2.1 (HS24.get 20 rfl) ⟨bool_ret (rvalid_m hlti (memR_t (by
                        have hit : isTab ((t).key (i)) = true := by unfold isTab; simp only [hr4, hr5, hr6]; try rfl
                        show (!isTab ((t).key (i)) || (!((((t).mem (i)).kind) != 5) && allB (memV zY ((t).key (i)) ((t).mem (i))) ((t).mem (i)).ml)) = _
                        rw [hit]; rw [hr7, allB_no hltk (by show (!(((((t).mem (i)).mem (k)).kind != 2) || (decide ((t).key (i) = k_users) && !zY (((t).mem (i)).key (k))))) = _; simp only [hr9, hr4]; try rfl)]; rfl))), HH25.1⟩
              · skip
                refine wp_cond_true (HS15.get 13 rfl) ?_
                refine wp_seq ?_
                have hLo : LOk [(0, 2, .val (.bool false))] := lok (by rfl) (by rfl)
                refine zK (wE := w7) (sz := 78) (n := 1) [0] [(19, .val (.slice (some ⟨gn, 0, none⟩) (7) (7))), (0, .val (.agg (FR () 6 ((t).sc)))), (1, .val (.pointer (some ((⟨g1_0, 0, none⟩ : Addr))))), (11, .val (.bool false)), (13, .val (.slice ((t).xm) ((t).ml) ((t).cm))), (14, .val (.int .i64 (((t).ml : Int)))), (15, .val (.int .i64 ((i : Int)))), (16, .val (.bool true)), (4, .val (.pointer (some ((⟨g6_2, 0, none⟩ : Addr))))), (20, .val (.int .i64 (7))), (21, .val (.int .i64 ((n : Int)))), (22, .val (.bool false)), (48, .val (.bool true)), (52, .val (.bool true)), (2, .val (.bool false))] [(0, 2, .val (.bool false))] [] rfl (by rfl) HH15 rfl rfl hLo rfl HS15 (slS 0 rfl rfl (slS 1 rfl rfl (slS 2 rfl rfl (slS 3 rfl rfl (slS 4 rfl rfl (slS 5 rfl rfl (slS 6 rfl rfl (slS 7 rfl rfl (slS 8 rfl rfl (slS 9 rfl rfl (slS 10 rfl rfl (slS 11 rfl rfl (slS 12 rfl rfl (slS 13 rfl rfl (slL 0 (d := 0) rfl (trivial)))))))))))))))) ?_ ?_
                · show ∀ i ∈ [0], _
                  refine zA (zC 0 _ rfl rfl hLo rfl rfl (fun _ _ _ _ => rfl) (fun b G w hb ho => zD (.inr rfl) (rfl))) ?_
                  exact zF
                clear hLo
                intro G a26 w26 hS hH
                have HS26 : Sl a26 78 [(19, .slice (some ⟨gn, 0, none⟩) (7) (7)), (0, .agg (FR () 6 ((t).sc))), (1, .pointer (some ((⟨g1_0, 0, none⟩ : Addr)))), (11, .bool false), (13, .slice ((t).xm) ((t).ml) ((t).cm)), (14, .int .i64 (((t).ml : Int))), (15, .int .i64 ((i : Int))), (16, .bool true), (4, .pointer (some ((⟨g6_2, 0, none⟩ : Addr)))), (20, .int .i64 (7)), (21, .int .i64 ((n : Int))), (22, .bool false), (48, .bool true), (52, .bool true), (2, .bool false)] := hS
                have HH26 : Held w7 w26 [] := hH
                clear hS hH HS15 HH15
                refine then_ ?_
                refine wp_ret ?_
                repeat (first | refine zS ?_ | refine zM ?_)
                have HH27 := Held.back HH8 HH26
                exact b_tmp rfl HS26.2.1 (HS26.get 14 rfl) ⟨bool_ret (rvalid_m hlti (memR_t (by
                    have hit : isTab ((t).key (i)) = true := by unfold isTab; simp only [hr4, hr5, hr6]; try rfl
                    show (!isTab ((t).key (i)) || (!((((t).mem (i)).kind) != 5) && allB (memV zY ((t).key (i)) ((t).mem (i))) ((t).mem (i)).ml)) = _
                    rw [hit]; rw [hr7]; rfl))), HH27.1⟩
          · skip
            refine wp_seq ?_
            have hLo : LOk [(0, 36, .val (.pointer (some ((⟨g6_2, 0, none⟩ : Addr))))), (1, 37, .val (.string ((t).key (i)))), (2, 38, .val (.bool false)), (3, 39, .val (.bool false)), (4, 40, .val (.pointer (some ((⟨g6_2, 0, none⟩ : Addr))))), (5, 41, .val (.string ((t).key (i)))), (6, 42, .val (.bool true)), (7, 43, .val (.bool true)), (8, 44, .val (.bool true)), (9, 45, .val (undef)), (10, 46, .val (undef)), (11, 47, .val (undef)), (12, 48, .val (.bool true))] := lok (by rfl) (by rfl)
            refine zK (wE := w7) (sz := 78) (n := 13) [0, 1, 3, 7, 15, 31, 63, 127, 255, 511, 1023, 2047, 4095] [(19, .val (.slice (some ⟨gn, 0, none⟩) (7) (7))), (0, .val (.agg (FR () 6 ((t).sc)))), (1, .val (.pointer (some ((⟨g1_0, 0, none⟩ : Addr))))), (11, .val (.bool false)), (13, .val (.slice ((t).xm) ((t).ml) ((t).cm))), (14, .val (.int .i64 (((t).ml : Int)))), (15, .val (.int .i64 ((i : Int)))), (16, .val (.bool true)), (4, .val (.pointer (some ((⟨g6_2, 0, none⟩ : Addr))))), (20, .val (.int .i64 (7))), (21, .val (.int .i64 ((n : Int)))), (22, .val (.bool false)), (48, .val (.bool true))] [(0, 36, .val (.pointer (some ((⟨g6_2, 0, none⟩ : Addr))))), (1, 37, .val (.string ((t).key (i)))), (2, 38, .val (.bool false)), (3, 39, .val (.bool false)), (4, 40, .val (.pointer (some ((⟨g6_2, 0, none⟩ : Addr))))), (5, 41, .val (.string ((t).key (i)))), (6, 42, .val (.bool true)), (7, 43, .val (.bool true)), (8, 44, .val (.bool true)), (9, 45, .val (undef)), (10, 46, .val (undef)), (11, 47, .val (undef)), (12, 48, .val (.bool true))] [] rfl (by rfl) HH11 rfl rfl hLo rfl HS11 (slS 0 rfl rfl (slS 1 rfl rfl (slS 2 rfl rfl (slS 3 rfl rfl (slS 4 rfl rfl (slS 5 rfl rfl (slS 6 rfl rfl (slS 7 rfl rfl (slS 8 rfl rfl (slS 9 rfl rfl (slS 10 rfl rfl (slS 11 rfl rfl (slL 12 (d := 12) rfl (trivial)))))))))))))) ?_ ?_
            · show ∀ i ∈ [0, 1, 2, 3, 4, 5, 6, 7, 8, 9, 10, 11, 12], _
              refine zA (zC 0 _ rfl rfl hLo rfl rfl (fun _ _ _ _ => rfl) (fun b G w hb ho => zH rfl (zG rfl (HS11.get 8 rfl)) (by kernel_rfl))) ?_
              refine zA (st_at1 1 ((⟨g6_2, 0, none⟩ : Addr)) _ rfl rfl rfl (fun _ _ _ _ => rfl) hLo rfl rfl Tryd.underlying9 rfl (row_at hRow9_1 0 (Nat.le_of_ble_eq_true rfl)) (fun b G hb ho => zB hLo 0 rfl HS11.1 rfl (hb 0 (by rfl)))) ?_
              refine zA (zC 2 _ rfl rfl hLo rfl rfl (fun _ _ _ _ => rfl) (fun b G w hb ho => zJ rfl (zB hLo 1 rfl HS11.1 rfl (hb 1 (by rfl))) (rfl) (rb_seql hr4 _ _ _))) ?_
              refine zA (zC 3 _ rfl rfl hLo rfl rfl (fun _ _ _ _ => rfl) (fun b G w hb ho => zD (.inl rfl) (zB hLo 2 rfl HS11.1 rfl (hb 2 (by rfl))))) ?_
              refine zA (zC 4 _ rfl rfl hLo rfl rfl (fun b G hb ho => zE rfl rfl rfl HS11.1 rfl (zB hLo 3 rfl HS11.1 rfl (hb 3 (by rfl))) rfl) (fun b G w hb ho => zH rfl (zG rfl (HS11.get 8 rfl)) (by kernel_rfl))) ?_
              refine zA (st_at1 5 ((⟨g6_2, 0, none⟩ : Addr)) _ rfl rfl rfl (fun b G hb ho => zE rfl rfl rfl HS11.1 rfl (zB hLo 3 rfl HS11.1 rfl (hb 3 (by rfl))) rfl) hLo rfl rfl Tryd.underlying9 rfl (row_at hRow9_1 0 (Nat.le_of_ble_eq_true rfl)) (fun b G hb ho => zB hLo 4 rfl HS11.1 rfl (hb 4 (by rfl)))) ?_
              refine zA (zC 6 _ rfl rfl hLo rfl rfl (fun b G hb ho => zE rfl rfl rfl HS11.1 rfl (zB hLo 3 rfl HS11.1 rfl (hb 3 (by rfl))) rfl) (fun b G w hb ho => zJ rfl (zB hLo 5 rfl HS11.1 rfl (hb 5 (by rfl))) (rfl) (rb_seql hr5 _ _ _))) ?_
              refine zA (zC 7 _ rfl rfl hLo rfl rfl (fun _ _ _ _ => rfl) (fun b G w hb ho => zO rfl (zB hLo 3 rfl HS11.1 rfl (hb 3 (by rfl))) (zB hLo 6 rfl HS11.1 rfl (hb 6 (by rfl))))) ?_
              refine zA (zC 8 _ rfl rfl hLo rfl rfl (fun _ _ _ _ => rfl) (fun b G w hb ho => zD (.inl rfl) (zB hLo 7 rfl HS11.1 rfl (hb 7 (by rfl))))) ?_
              refine zA (zL 9 rfl rfl hLo rfl rfl (fun b G hb ho => zE rfl rfl rfl HS11.1 rfl (zB hLo 8 rfl HS11.1 rfl (hb 8 (by rfl))) rfl)) ?_
              refine zA (zL 10 rfl rfl hLo rfl rfl (fun b G hb ho => zE rfl rfl rfl HS11.1 rfl (zB hLo 8 rfl HS11.1 rfl (hb 8 (by rfl))) rfl)) ?_
              refine zA (zL 11 rfl rfl hLo rfl rfl (fun b G hb ho => zE rfl rfl rfl HS11.1 rfl (zB hLo 8 rfl HS11.1 rfl (hb 8 (by rfl))) rfl)) ?_
              refine zA (zC 12 _ rfl rfl hLo rfl rfl (fun _ _ _ _ => rfl) (fun b G w hb ho => zO rfl (zB hLo 8 rfl HS11.1 rfl (hb 8 (by rfl))) (rfl))) ?_
              exact zF
            clear hLo
            intro G a28 w28 hS hH
            have HS28 : Sl a28 78 [(19, .slice (some ⟨gn, 0, none⟩) (7) (7)), (0, .agg (FR () 6 ((t).sc))), (1, .pointer (some ((⟨g1_0, 0, none⟩ : Addr)))), (11, .bool false), (13, .slice ((t).xm) ((t).ml) ((t).cm)), (14, .int .i64 (((t).ml : Int))), (15, .int .i64 ((i : Int))), (16, .bool true), (4, .pointer (some ((⟨g6_2, 0, none⟩ : Addr)))), (20, .int .i64 (7)), (21, .int .i64 ((n : Int))), (22, .bool false), (48, .bool true)] := hS
            have HH28 : Held w7 w28 [] := hH
            clear hS hH HS11 HH11
            refine then_ ?_
            refine wp_cond_true (HS28.get 12 rfl) ?_
            refine wp_seq ?_
            obtain ⟨r10, hr10⟩ : ∃ r : Bool, (((((t).mem (i)).kind : Int) != 5)) = r := ⟨_, rfl⟩
            refine wp_seq ?_
            have hLo : LOk [(0, 49, .val (.pointer (some (((⟨g6_2, 0, none⟩ : Addr)).add 1)))), (1, 50, .val (.pointer (some (((⟨g6_2, 0, none⟩ : Addr)).add 1)))), (2, 51, .val (.int .i64 (((t).mem (i)).kind))), (3, 52, .val (.bool r10))] := lok (by rfl) (by rfl)
            refine zK (wE := w7) (sz := 78) (n := 4) [0, 1, 3, 7] [(19, .val (.slice (some ⟨gn, 0, none⟩) (7) (7))), (0, .val (.agg (FR () 6 ((t).sc)))), (1, .val (.pointer (some ((⟨g1_0, 0, none⟩ : Addr))))), (11, .val (.bool false)), (13, .val (.slice ((t).xm) ((t).ml) ((t).cm))), (14, .val (.int .i64 (((t).ml : Int)))), (15, .val (.int .i64 ((i : Int)))), (16, .val (.bool true)), (4, .val (.pointer (some ((⟨g6_2, 0, none⟩ : Addr))))), (20, .val (.int .i64 (7))), (21, .val (.int .i64 ((n : Int)))), (22, .val (.bool false)), (48, .val (.bool true)), (52, .val (.bool r10))] [(0, 49, .val (.pointer (some (((⟨g6_2, 0, none⟩ : Addr)).add 1)))), (1, 50, .val (.pointer (some (((⟨g6_2, 0, none⟩ : Addr)).add 1)))), (2, 51, .val (.int .i64 (((t).mem (i)).kind))), (3, 52, .val (.bool r10))] [] rfl (by rfl) HH28 rfl rfl hLo rfl HS28 (slS 0 rfl rfl (slS 1 rfl rfl (slS 2 rfl rfl (slS 3 rfl rfl (slS 4 rfl rfl (slS 5 rfl rfl (slS 6 rfl rfl (slS 7 rfl rfl (slS 8 rfl rfl (slS 9 rfl rfl (slS 10 rfl rfl (slS 11 rfl rfl (slS 12 rfl rfl (slL 3 (d := 3) rfl (trivial))))))))))))))) ?_ ?_
            · show ∀ i ∈ [0, 1, 2, 3], _
              refine zA (zC 0 _ rfl rfl hLo rfl rfl (fun _ _ _ _ => rfl) (fun b G w hb ho => zH rfl (zG rfl (HS28.get 8 rfl)) (by kernel_rfl))) ?_
              refine zA (zC 1 _ rfl rfl hLo rfl rfl (fun _ _ _ _ => rfl) (fun b G w hb ho => zH rfl (zB hLo 0 rfl HS28.1 rfl (hb 0 (by rfl))) (by kernel_rfl))) ?_
              refine zA (st_at1 2 (((⟨g6_2, 0, none⟩ : Addr)).add 1) _ rfl rfl rfl (fun _ _ _ _ => rfl) hLo rfl rfl Tryd.underlying3 rfl (row_at hRow9_1 1 (Nat.le_of_ble_eq_true rfl)) (fun b G hb ho => zB hLo 1 rfl HS28.1 rfl (hb 1 (by rfl)))) ?_
              refine zA (zC 3 _ rfl rfl hLo rfl rfl (fun _ _ _ _ => rfl) (fun b G w hb ho => zJ rfl (zB hLo 2 rfl HS28.1 rfl (hb 2 (by rfl))) (rfl) (rb_neq hr10 _ _ _))) ?_
              exact zF
            clear hLo
            intro G a29 w29 hS hH
            have HS29 : Sl a29 78 [(19, .slice (some ⟨gn, 0, none⟩) (7) (7)), (0, .agg (FR () 6 ((t).sc))), (1, .pointer (some ((⟨g1_0, 0, none⟩ : Addr)))), (11, .bool false), (13, .slice ((t).xm) ((t).ml) ((t).cm)), (14, .int .i64 (((t).ml : Int))), (15, .int .i64 ((i : Int))), (16, .bool true), (4, .pointer (some ((⟨g6_2, 0, none⟩ : Addr)))), (20, .int .i64 (7)), (21, .int .i64 ((n : Int))), (22, .bool false), (48, .bool true), (52, .bool r10)] := hS
            have HH29 : Held w7 w29 [] := hH
            clear hS hH HS28 HH28
            refine then_ ?_
            cases r10
            · skip
              refine wp_cond_false (HS29.get 13 rfl) ?_
              refine wp_skip ?_
              refine then_ ?_
              refine wp_seq ?_
              have hLo : LOk [(0, 53, .val (.pointer (some (((⟨g6_2, 0, none⟩ : Addr)).add 1)))), (1, 54, .val (.pointer (some ((((⟨g6_2, 0, none⟩ : Addr)).add 1).add 5)))), (2, 55, .val (.slice (((t).mem (i)).xm) (((t).mem (i)).ml) (((t).mem (i)).cm))), (3, 56, .val (.int .i64 ((((t).mem (i)).ml : Int)))), (4, 57, .val (.int .i64 (0)))] := lok (by rfl) (by rfl)
              refine zK (wE := w7) (sz := 78) (n := 5) [0, 1, 3, 7, 15] [(19, .val (.slice (some ⟨gn, 0, none⟩) (7) (7))), (0, .val (.agg (FR () 6 ((t).sc)))), (1, .val (.pointer (some ((⟨g1_0, 0, none⟩ : Addr))))), (11, .val (.bool false)), (13, .val (.slice ((t).xm) ((t).ml) ((t).cm))), (14, .val (.int .i64 (((t).ml : Int)))), (15, .val (.int .i64 ((i : Int)))), (16, .val (.bool true)), (4, .val (.pointer (some ((⟨g6_2, 0, none⟩ : Addr))))), (20, .val (.int .i64 (7))), (21, .val (.int .i64 ((n : Int)))), (22, .val (.bool false)), (48, .val (.bool true)), (52, .val (.bool false)), (55, .val (.slice (((t).mem (i)).xm) (((t).mem (i)).ml) (((t).mem (i)).cm))), (56, .val (.int .i64 ((((t).mem (i)).ml : Int)))), (57, .val (.int .i64 (0)))] [(0, 53, .val (.pointer (some (((⟨g6_2, 0, none⟩ : Addr)).add 1)))), (1, 54, .val (.pointer (some ((((⟨g6_2, 0, none⟩ : Addr)).add 1).add 5)))), (2, 55, .val (.slice (((t).mem (i)).xm) (((t).mem (i)).ml) (((t).mem (i)).cm))), (3, 56, .val (.int .i64 ((((t).mem (i)).ml : Int)))), (4, 57, .val (.int .i64 (0)))] [] rfl (by rfl) HH29 rfl rfl hLo rfl HS29 (slS 0 rfl rfl (slS 1 rfl rfl (slS 2 rfl rfl (slS 3 rfl rfl (slS 4 rfl rfl (slS 5 rfl rfl (slS 6 rfl rfl (slS 7 rfl rfl (slS 8 rfl rfl (slS 9 rfl rfl (slS 10 rfl rfl (slS 11 rfl rfl (slS 12 rfl rfl (slS 13 rfl rfl (slL 2 (d := 2) rfl (slL 3 (d := 3) rfl (slL 4 (d := 4) rfl (trivial)))))))))))))))))) ?_ ?_
              · show ∀ i ∈ [0, 1, 2, 3, 4], _
                refine zA (zC 0 _ rfl rfl hLo rfl rfl (fun _ _ _ _ => rfl) (fun b G w hb ho => zH rfl (zG rfl (HS29.get 8 rfl)) (by kernel_rfl))) ?_
                refine zA (zC 1 _ rfl rfl hLo rfl rfl (fun _ _ _ _ => rfl) (fun b G w hb ho => zH rfl (zB hLo 0 rfl HS29.1 rfl (hb 0 (by rfl))) (by kernel_rfl))) ?_
                refine zA (st_at1 2 ((((⟨g6_2, 0, none⟩ : Addr)).add 1).add 5) _ rfl rfl rfl (fun _ _ _ _ => rfl) hLo rfl rfl Tryd.underlying23 rfl (row_at hRow9_1 6 (Nat.le_of_ble_eq_true rfl)) (fun b G hb ho => zB hLo 1 rfl HS29.1 rfl (hb 1 (by rfl)))) ?_
                refine zA (zC 3 _ rfl rfl hLo rfl rfl (fun _ _ _ _ => rfl) (fun b G w hb ho => exec_lenL Tryd.underlying23 rfl (zB hLo 2 rfl HS29.1 rfl (hb 2 (by rfl))))) ?_
                refine zA (zC 4 _ rfl rfl hLo rfl rfl (fun _ _ _ _ => rfl) (fun b G w hb ho => zD (.inl rfl) (rfl))) ?_
                exact zF
              clear hLo
              intro G a30 w30 hS hH
              have HS30 : Sl a30 78 [(19, .slice (some ⟨gn, 0, none⟩) (7) (7)), (0, .agg (FR () 6 ((t).sc))), (1, .pointer (some ((⟨g1_0, 0, none⟩ : Addr)))), (11, .bool false), (13, .slice ((t).xm) ((t).ml) ((t).cm)), (14, .int .i64 (((t).ml : Int))), (15, .int .i64 ((i : Int))), (16, .bool true), (4, .pointer (some ((⟨g6_2, 0, none⟩ : Addr)))), (20, .int .i64 (7)), (21, .int .i64 ((n : Int))), (22, .bool false), (48, .bool true), (52, .bool false), (55, .slice (((t).mem (i)).xm) (((t).mem (i)).ml) (((t).mem (i)).cm)), (56, .int .i64 ((((t).mem (i)).ml : Int))), (57, .int .i64 (0))] := hS
              have HH30 : Held w7 w30 [] := hH
              clear hS hH HS29 HH29
              refine then_ ?_
              refine wp_block ?_
              have hSq2 : Sl _ 78 [(19, .slice (some ⟨gn, 0, none⟩) (7) (7)), (0, .agg (FR () 6 ((t).sc))), (1, .pointer (some ((⟨g1_0, 0, none⟩ : Addr)))), (11, .bool false), (13, .slice ((t).xm) ((t).ml) ((t).cm)), (14, .int .i64 (((t).ml : Int))), (15, .int .i64 ((i : Int))), (16, .bool true), (4, .pointer (some ((⟨g6_2, 0, none⟩ : Addr)))), (20, .int .i64 (7)), (21, .int .i64 ((n : Int))), (22, .bool false), (48, .bool true), (52, .bool false), (55, .slice (((t).mem (i)).xm) (((t).mem (i)).ml) (((t).mem (i)).cm)), (56, .int .i64 ((((t).mem (i)).ml : Int))), (57, .int .i64 (0))] := sl_keep HS30 [0, 1, 2, 3, 4, 5, 6, 7, 8, 9, 10, 11, 12, 13, 14, 15, 16] (by rfl)
              refine wp_loop (fun a w' => ∃ k : Nat, k ≤ ((t).mem (i)).ml ∧ allB (memV zY ((t).key (i)) ((t).mem (i))) k = true ∧ Sl a 78 [(19, .slice (some ⟨gn, 0, none⟩) (7) (7)), (0, .agg (FR () 6 ((t).sc))), (1, .pointer (some ((⟨g1_0, 0, none⟩ : Addr)))), (11, .bool false), (13, .slice ((t).xm) ((t).ml) ((t).cm)), (14, .int .i64 (((t).ml : Int))), (15, .int .i64 ((i : Int))), (16, .bool true), (4, .pointer (some ((⟨g6_2, 0, none⟩ : Addr)))), (20, .int .i64 (7)), (21, .int .i64 ((n : Int))), (22, .bool false), (48, .bool true), (52, .bool false), (55, .slice (((t).mem (i)).xm) (((t).mem (i)).ml) (((t).mem (i)).cm)), (56, .int .i64 ((((t).mem (i)).ml : Int))), (57, .int .i64 ((k : Int)))] ∧ Held w7 w' []) (fun a w' => ((t).mem (i)).ml - (intOf (a.eval (.tmp 57))).toNat) ⟨0, Nat.zero_le _, rfl, hSq2, HH30⟩ ?_
              clear hSq2 HS30 HH30
              rintro aq2 wq2 ⟨k, hlek, hpk, HSq2, HHq2⟩
              have hm' : (intOf (aq2.eval (.tmp 57))).toNat = k := by rw [(HSq2.get 16 rfl)]; rfl
              rw [hm']
              clear hm'
              have hby := (hIn_9.mem hlti).own.2.2.2.2.1
              unfold reach47 at hby
              obtain ⟨r11, hr11⟩ : ∃ r : Bool, (decide (((k : Int) : Int) < (((t).mem (i)).ml : Int))) = r := ⟨_, rfl⟩
              refine wp_seq ?_
              have hLo : LOk [(0, 58, .val (.bool r11))] := lok (by rfl) (by rfl)
              refine zK (wE := w7) (sz := 78) (n := 1) [0] [(19, .val (.slice (some ⟨gn, 0, none⟩) (7) (7))), (0, .val (.agg (FR () 6 ((t).sc)))), (1, .val (.pointer (some ((⟨g1_0, 0, none⟩ : Addr))))), (11, .val (.bool false)), (13, .val (.slice ((t).xm) ((t).ml) ((t).cm))), (14, .val (.int .i64 (((t).ml : Int)))), (15, .val (.int .i64 ((i : Int)))), (16, .val (.bool true)), (4, .val (.pointer (some ((⟨g6_2, 0, none⟩ : Addr))))), (20, .val (.int .i64 (7))), (21, .val (.int .i64 ((n : Int)))), (22, .val (.bool false)), (48, .val (.bool true)), (52, .val (.bool false)), (55, .val (.slice (((t).mem (i)).xm) (((t).mem (i)).ml) (((t).mem (i)).cm))), (56, .val (.int .i64 ((((t).mem (i)).ml : Int)))), (57, .val (.int .i64 ((k : Int)))), (58, .val (.bool r11))] [(0, 58, .val (.bool r11))] [] rfl (by rfl) HHq2 rfl rfl hLo rfl HSq2 (slS 0 rfl rfl (slS 1 rfl rfl (slS 2 rfl rfl (slS 3 rfl rfl (slS 4 rfl rfl (slS 5 rfl rfl (slS 6 rfl rfl (slS 7 rfl rfl (slS 8 rfl rfl (slS 9 rfl rfl (slS 10 rfl rfl (slS 11 rfl rfl (slS 12 rfl rfl (slS 13 rfl rfl (slS 14 rfl rfl (slS 15 rfl rfl (slS 16 rfl rfl (slL 0 (d := 0) rfl (trivial))))))))))))))))))) ?_ ?_
              · show ∀ i ∈ [0], _
                refine zA (zC 0 _ rfl rfl hLo rfl rfl (fun _ _ _ _ => rfl) (fun b G w hb ho => zJ rfl (zG rfl (HSq2.get 16 rfl)) (zG rfl (HSq2.get 15 rfl)) (rb_lss hr11 _ _ _))) ?_
                exact zF
              clear hLo
              intro G a31 w31 hS hH
              have HS31 : Sl a31 78 [(19, .slice (some ⟨gn, 0, none⟩) (7) (7)), (0, .agg (FR () 6 ((t).sc))), (1, .pointer (some ((⟨g1_0, 0, none⟩ : Addr)))), (11, .bool false), (13, .slice ((t).xm) ((t).ml) ((t).cm)), (14, .int .i64 (((t).ml : Int))), (15, .int .i64 ((i : Int))), (16, .bool true), (4, .pointer (some ((⟨g6_2, 0, none⟩ : Addr)))), (20, .int .i64 (7)), (21, .int .i64 ((n : Int))), (22, .bool false), (48, .bool true), (52, .bool false), (55, .slice (((t).mem (i)).xm) (((t).mem (i)).ml) (((t).mem (i)).cm)), (56, .int .i64 ((((t).mem (i)).ml : Int))), (57, .int .i64 ((k : Int))), (58, .bool r11)] := hS
              have HH31 : Held w7 w31 [] := hH
              clear hS hH HSq2 HHq2
              refine then_ ?_
              refine wp_seq ?_
              cases r11
              · skip
                have hendk : k = ((t).mem (i)).ml := by have := of_decide_eq_false hr11; omega
                have hqk := hpk
                rw [hendk] at hqk
                refine wp_cond_false (HS31.get 17 rfl) ?_
                refine wp_exit ?_
                refine zV ?_
                refine zV ?_
                refine inBlock_exit ?_
                refine zT ?_
                refine then_ ?_
                have hLo : LOk [(0, 77, .val (.int .i64 (((i + 1 : Nat) : Int)))), (1, 15, .val (.int .i64 (((i + 1 : Nat) : Int))))] := lok (by rfl) (by rfl)
                refine zK (wE := w7) (sz := 78) (n := 2) [0, 1] [(19, .val (.slice (some ⟨gn, 0, none⟩) (7) (7))), (0, .val (.agg (FR () 6 ((t).sc)))), (1, .val (.pointer (some ((⟨g1_0, 0, none⟩ : Addr))))), (11, .val (.bool false)), (13, .val (.slice ((t).xm) ((t).ml) ((t).cm))), (14, .val (.int .i64 (((t).ml : Int)))), (16, .val (.bool true)), (4, .val (.pointer (some ((⟨g6_2, 0, none⟩ : Addr))))), (20, .val (.int .i64 (7))), (21, .val (.int .i64 ((n : Int)))), (22, .val (.bool false)), (48, .val (.bool true)), (52, .val (.bool false)), (55, .val (.slice (((t).mem (i)).xm) (((t).mem (i)).ml) (((t).mem (i)).cm))), (56, .val (.int .i64 ((((t).mem (i)).ml : Int)))), (57, .val (.int .i64 ((k : Int)))), (58, .val (.bool false)), (15, .val (.int .i64 (((i + 1 : Nat) : Int))))] [(0, 77, .val (.int .i64 (((i + 1 : Nat) : Int)))), (1, 15, .val (.int .i64 (((i + 1 : Nat) : Int))))] [] rfl (by rfl) HH31 rfl rfl hLo rfl HS31 (slS 0 rfl rfl (slS 1 rfl rfl (slS 2 rfl rfl (slS 3 rfl rfl (slS 4 rfl rfl (slS 5 rfl rfl (slS 7 rfl rfl (slS 8 rfl rfl (slS 9 rfl rfl (slS 10 rfl rfl (slS 11 rfl rfl (slS 12 rfl rfl (slS 13 rfl rfl (slS 14 rfl rfl (slS 15 rfl rfl (slS 16 rfl rfl (slS 17 rfl rfl (slL 1 (d := 1) rfl (trivial))))))))))))))))))) ?_ ?_
                · show ∀ i ∈ [0, 1], _
                  refine zA (zC 0 _ rfl rfl hLo rfl rfl (fun _ _ _ _ => rfl) (fun b G w hb ho => zJ rfl (ev_pre hLo 1 rfl (ho 1 (by rfl)) (HS31.get 6 rfl)) (rfl) (rb_add (w_nat (by omega) (by omega)) _ _ _))) ?_
                  refine zA (zC 1 _ rfl rfl hLo rfl rfl (fun _ _ _ _ => rfl) (fun b G w hb ho => zD (.inl rfl) (zB hLo 0 rfl HS31.1 rfl (hb 0 (by rfl))))) ?_
                  exact zF
                clear hLo
                intro G a32 w32 hS hH
                have HS32 : Sl a32 78 [(19, .slice (some ⟨gn, 0, none⟩) (7) (7)), (0, .agg (FR () 6 ((t).sc))), (1, .pointer (some ((⟨g1_0, 0, none⟩ : Addr)))), (11, .bool false), (13, .slice ((t).xm) ((t).ml) ((t).cm)), (14, .int .i64 (((t).ml : Int))), (16, .bool true), (4, .pointer (some ((⟨g6_2, 0, none⟩ : Addr)))), (20, .int .i64 (7)), (21, .int .i64 ((n : Int))), (22, .bool false), (48, .bool true), (52, .bool false), (55, .slice (((t).mem (i)).xm) (((t).mem (i)).ml) (((t).mem (i)).cm)), (56, .int .i64 ((((t).mem (i)).ml : Int))), (57, .int .i64 ((k : Int))), (58, .bool false), (15, .int .i64 (((i + 1 : Nat) : Int)))] := hS
                have HH32 : Held w7 w32 [] := hH
                clear hS hH HS31 HH31
                refine then_ ?_
                have HH33 := Held.back HH8 HH32
                have hSq0' : Sl _ 78 [(0, .agg (FR () 6 ((t).sc))), (1, .pointer (some ⟨g1_0, 0, none⟩)), (11, .bool false), (13, .slice ((t).xm) ((t).ml) ((t).cm)), (14, .int .i64 (((t).ml : Int))), (15, .int .i64 (((i + 1 : Nat) : Int)))] := sl_keep HS32 [1, 2, 3, 4, 5, 17] (by rfl)
                have hHq0' : Held w _ [⟨g1_0, (), 6, (t).sc, 25⟩] := held_keep HH33 1 rfl
                exact ⟨⟨i + 1, by omega, allB_step hpi (memR_y hqn (by
                    have hit : isTab ((t).key (i)) = true := by unfold isTab; simp only [hr4, hr5]; try rfl
                    show (!isTab ((t).key (i)) || (!((((t).mem (i)).kind) != 5) && allB (memV zY ((t).key (i)) ((t).mem (i))) ((t).mem (i)).ml)) = _
                    rw [hit]; rw [hr10, hqk]; rfl)), hSq0', hHq0'⟩, by rw [(hSq0'.get 5 rfl)]; show t.ml - (((i + 1 : Nat) : Int)).toNat < t.ml - i; omega⟩
              · skip
                have hltk : k < ((t).mem (i)).ml := by have := of_decide_eq_true hr11; omega
                refine wp_cond_true (HS31.get 17 rfl) ?_
                refine wp_skip ?_
                refine then_ ?_
                refine wp_seq ?_
                refine wp_block ?_
                obtain ⟨⟨a3, hx3, hk3, hv3⟩, _, hn3⟩ := ((hIn_9.mem hlti)).mems (i := k) (by omega)
                refine wp_seq ?_
                have hLo : LOk [(0, 59, .val (.pointer (some (a3.add ((k) * 7))))), (1, 60, .val (.agg (FR () 7 (msc (((t).mem (i)).key (k)) (((t).mem (i)).mem (k)))))), (2, 8, .new 2 (fun g => .pointer (some ⟨g, 0, none⟩)))] := lok (by rfl) (by rfl)
                refine zK (wE := w7) (sz := 78) (n := 4) [0, 1, 3, 7] [(19, .val (.slice (some ⟨gn, 0, none⟩) (7) (7))), (0, .val (.agg (FR () 6 ((t).sc)))), (1, .val (.pointer (some ((⟨g1_0, 0, none⟩ : Addr))))), (11, .val (.bool false)), (13, .val (.slice ((t).xm) ((t).ml) ((t).cm))), (14, .val (.int .i64 (((t).ml : Int)))), (15, .val (.int .i64 ((i : Int)))), (16, .val (.bool true)), (4, .val (.pointer (some ((⟨g6_2, 0, none⟩ : Addr))))), (20, .val (.int .i64 (7))), (21, .val (.int .i64 ((n : Int)))), (22, .val (.bool false)), (48, .val (.bool true)), (52, .val (.bool false)), (55, .val (.slice (((t).mem (i)).xm) (((t).mem (i)).ml) (((t).mem (i)).cm))), (56, .val (.int .i64 ((((t).mem (i)).ml : Int)))), (57, .val (.int .i64 ((k : Int)))), (58, .val (.bool true)), (8, .new 2 (fun g => .pointer (some ⟨g, 0, none⟩)))] [(0, 59, .val (.pointer (some (a3.add ((k) * 7))))), (1, 60, .val (.agg (FR () 7 (msc (((t).mem (i)).key (k)) (((t).mem (i)).mem (k)))))), (2, 8, .new 2 (fun g => .pointer (some ⟨g, 0, none⟩)))] [⟨0, some 2, some 3, (), 7, lsc [.s (ByteArray.empty), .i .i64 (0), .b (false), .i .i64 (0), .s (ByteArray.empty), .sl (none) (0) (0), .sl (none) (0) (0)], msc (((t).mem (i)).key (k)) (((t).mem (i)).mem (k)), 36⟩] rfl (by rfl) HH31 rfl rfl hLo rfl HS31 (slS 0 rfl rfl (slS 1 rfl rfl (slS 2 rfl rfl (slS 3 rfl rfl (slS 4 rfl rfl (slS 5 rfl rfl (slS 6 rfl rfl (slS 7 rfl rfl (slS 8 rfl rfl (slS 9 rfl rfl (slS 10 rfl rfl (slS 11 rfl rfl (slS 12 rfl rfl (slS 13 rfl rfl (slS 14 rfl rfl (slS 15 rfl rfl (slS 16 rfl rfl (slS 17 rfl rfl (slL 2 (d := 2) rfl (trivial)))))))))))))))))))) ?_ ?_
                · show ∀ i ∈ [0, 1, 2, 3], _
                  refine zA (zC 0 _ rfl rfl hLo rfl rfl (fun _ _ _ _ => rfl) (fun b G w hb ho => zU rfl (zG rfl (HS31.get 14 rfl)) (zG rfl (HS31.get 16 rfl)) (index_sl Tryd.underlying23 (by kernel_rfl) hx3 (by omega) _))) ?_
                  refine zA (st_at 1 (a3.add ((k) * 7)) rfl rfl rfl (fun _ _ _ _ => rfl) hLo rfl rfl Tryd.underlying36 (by kernel_rfl) rfl (at7 hk3 hv3) (fun b G hb ho => zB hLo 0 rfl HS31.1 rfl (hb 0 (by rfl)))) ?_
                  refine zA (st_alloc 2 0 () 7 36 (some 3) _ _ rfl rfl (fun _ _ _ _ => rfl) rfl hLo rfl rfl rfl rfl (by rfl) (fun b G w _ _ => by kernel_rfl)) ?_
                  refine zA (st_store 0 _ rfl rfl rfl rfl rfl (fun _ _ _ _ => rfl) rfl rfl rfl (by rfl) (by kernel_rfl) (fun b G hb ho => zB hLo 2 rfl HS31.1 rfl (hb 2 (by rfl))) (fun b G hb ho => zB hLo 1 rfl HS31.1 rfl (hb 1 (by rfl)))) ?_
                  exact zF
                clear hLo
                intro G a34 w34 hS hH
                have HS34 : Sl a34 78 [(19, .slice (some ⟨gn, 0, none⟩) (7) (7)), (0, .agg (FR () 6 ((t).sc))), (1, .pointer (some ((⟨g1_0, 0, none⟩ : Addr)))), (11, .bool false), (13, .slice ((t).xm) ((t).ml) ((t).cm)), (14, .int .i64 (((t).ml : Int))), (15, .int .i64 ((i : Int))), (16, .bool true), (4, .pointer (some ((⟨g6_2, 0, none⟩ : Addr)))), (20, .int .i64 (7)), (21, .int .i64 ((n : Int))), (22, .bool false), (48, .bool true), (52, .bool false), (55, .slice (((t).mem (i)).xm) (((t).mem (i)).ml) (((t).mem (i)).cm)), (56, .int .i64 ((((t).mem (i)).ml : Int))), (57, .int .i64 ((k : Int))), (58, .bool true), (8, .pointer (some ⟨(G 2), 0, none⟩))] := hS
                have HH34 : Held w7 w34 [⟨(G 2), (), 7, msc (((t).mem (i)).key (k)) (((t).mem (i)).mem (k)), 36⟩] := hH
                clear hS hH HS31 HH31
                generalize G 2 = g34_2 at HS34 HH34
                refine then_ ?_
                obtain ⟨r12, hr12⟩ : ∃ r : Bool, ((((((t).mem (i)).mem (k)).kind : Int) != 2)) = r := ⟨_, rfl⟩
                cases r12
                · skip
                  refine wp_seq ?_
                  have hLo : LOk [(0, 61, .val (.pointer (some ⟨g34_2, 1, none⟩))), (1, 62, .val (.pointer (some ⟨g34_2, 1, none⟩))), (2, 63, .val (.int .i64 ((((t).mem (i)).mem (k)).kind))), (3, 64, .val (.bool false)), (4, 65, .val (.bool false)), (5, 66, .val (.pointer (some ((⟨g6_2, 0, none⟩ : Addr))))), (6, 67, .val (.string ((t).key (i)))), (7, 68, .val (.bool false)), (8, 69, .val (.bool false)), (9, 70, .val (undef)), (10, 71, .val (undef)), (11, 72, .val (undef)), (12, 73, .val (undef)), (13, 74, .val (.bool false)), (14, 75, .val (.bool false))] := lok (by rfl) (by rfl)
                  refine zK (wE := w7) (sz := 78) (n := 15) [0, 1, 3, 7, 15, 31, 63, 127, 255, 511, 1023, 2047, 4095, 8191, 16383] [(19, .val (.slice (some ⟨gn, 0, none⟩) (7) (7))), (0, .val (.agg (FR () 6 ((t).sc)))), (1, .val (.pointer (some ((⟨g1_0, 0, none⟩ : Addr))))), (11, .val (.bool false)), (13, .val (.slice ((t).xm) ((t).ml) ((t).cm))), (14, .val (.int .i64 (((t).ml : Int)))), (15, .val (.int .i64 ((i : Int)))), (16, .val (.bool true)), (4, .val (.pointer (some ((⟨g6_2, 0, none⟩ : Addr))))), (20, .val (.int .i64 (7))), (21, .val (.int .i64 ((n : Int)))), (22, .val (.bool false)), (48, .val (.bool true)), (52, .val (.bool false)), (55, .val (.slice (((t).mem (i)).xm) (((t).mem (i)).ml) (((t).mem (i)).cm))), (56, .val (.int .i64 ((((t).mem (i)).ml : Int)))), (57, .val (.int .i64 ((k : Int)))), (58, .val (.bool true)), (8, .val (.pointer (some ⟨g34_2, 0, none⟩))), (75, .val (.bool false))] [(0, 61, .val (.pointer (some ⟨g34_2, 1, none⟩))), (1, 62, .val (.pointer (some ⟨g34_2, 1, none⟩))), (2, 63, .val (.int .i64 ((((t).mem (i)).mem (k)).kind))), (3, 64, .val (.bool false)), (4, 65, .val (.bool false)), (5, 66, .val (.pointer (some ((⟨g6_2, 0, none⟩ : Addr))))), (6, 67, .val (.string ((t).key (i)))), (7, 68, .val (.bool false)), (8, 69, .val (.bool false)), (9, 70, .val (undef)), (10, 71, .val (undef)), (11, 72, .val (undef)), (12, 73, .val (undef)), (13, 74, .val (.bool false)), (14, 75, .val (.bool false))] [⟨g34_2, none, none, (), 7, msc (((t).mem (i)).key (k)) (((t).mem (i)).mem (k)), msc (((t).mem (i)).key (k)) (((t).mem (i)).mem (k)), 36⟩] rfl (by rfl) HH34 rfl rfl hLo rfl HS34 (slS 0 rfl rfl (slS 1 rfl rfl (slS 2 rfl rfl (slS 3 rfl rfl (slS 4 rfl rfl (slS 5 rfl rfl (slS 6 rfl rfl (slS 7 rfl rfl (slS 8 rfl rfl (slS 9 rfl rfl (slS 10 rfl rfl (slS 11 rfl rfl (slS 12 rfl rfl (slS 13 rfl rfl (slS 14 rfl rfl (slS 15 rfl rfl (slS 16 rfl rfl (slS 17 rfl rfl (slS 18 rfl rfl (slL 14 (d := 14) rfl (trivial))))))))))))))))))))) ?_ ?_
                  · show ∀ i ∈ [0, 1, 2, 3, 4, 5, 6, 7, 8, 9, 10, 11, 12, 13, 14], _
                    refine zA (zC 0 _ rfl rfl hLo rfl rfl (fun _ _ _ _ => rfl) (fun b G w hb ho => zH rfl (zG rfl (HS34.get 18 rfl)) (by kernel_rfl))) ?_
                    refine zA (zC 1 _ rfl rfl hLo rfl rfl (fun _ _ _ _ => rfl) (fun b G w hb ho => zH rfl (zB hLo 0 rfl HS34.1 rfl (hb 0 (by rfl))) (by kernel_rfl))) ?_
                    refine zA (zW 2 0 _ _ rfl rfl rfl hLo rfl rfl (fun _ _ _ _ => rfl) (by rfl) (by rfl) (fun b G w hb ho hr => zP hr (Nat.le_of_ble_eq_true rfl) Tryd.underlying3 rfl rfl (zB hLo 1 rfl HS34.1 rfl (hb 1 (by rfl))))) ?_
                    refine zA (zC 3 _ rfl rfl hLo rfl rfl (fun _ _ _ _ => rfl) (fun b G w hb ho => zJ rfl (zB hLo 2 rfl HS34.1 rfl (hb 2 (by rfl))) (rfl) (rb_neq hr12 _ _ _))) ?_
                    refine zA (zC 4 _ rfl rfl hLo rfl rfl (fun _ _ _ _ => rfl) (fun b G w hb ho => zD (.inl rfl) (zB hLo 3 rfl HS34.1 rfl (hb 3 (by rfl))))) ?_
                    refine zA (zC 5 _ rfl rfl hLo rfl rfl (fun b G hb ho => zE rfl rfl rfl HS34.1 rfl (zB hLo 4 rfl HS34.1 rfl (hb 4 (by rfl))) rfl) (fun b G w hb ho => zH rfl (zG rfl (HS34.get 8 rfl)) (by kernel_rfl))) ?_
                    refine zA (st_at1 6 ((⟨g6_2, 0, none⟩ : Addr)) _ rfl rfl rfl (fun b G hb ho => zE rfl rfl rfl HS34.1 rfl (zB hLo 4 rfl HS34.1 rfl (hb 4 (by rfl))) rfl) hLo rfl rfl Tryd.underlying9 rfl (row_at hRow9_1 0 (Nat.le_of_ble_eq_true rfl)) (fun b G hb ho => zB hLo 5 rfl HS34.1 rfl (hb 5 (by rfl)))) ?_
                    refine zA (zC 7 _ rfl rfl hLo rfl rfl (fun b G hb ho => zE rfl rfl rfl HS34.1 rfl (zB hLo 4 rfl HS34.1 rfl (hb 4 (by rfl))) rfl) (fun b G w hb ho => zJ rfl (zB hLo 6 rfl HS34.1 rfl (hb 6 (by rfl))) (rfl) (rb_seql hr4 _ _ _))) ?_
                    refine zA (zC 8 _ rfl rfl hLo rfl rfl (fun b G hb ho => zE rfl rfl rfl HS34.1 rfl (zB hLo 4 rfl HS34.1 rfl (hb 4 (by rfl))) rfl) (fun b G w hb ho => zD (.inl rfl) (zB hLo 7 rfl HS34.1 rfl (hb 7 (by rfl))))) ?_
                    refine zA (zL 9 rfl rfl hLo rfl rfl (fun b G hb ho => zE rfl rfl rfl HS34.1 rfl (zB hLo 8 rfl HS34.1 rfl (hb 8 (by rfl))) rfl)) ?_
                    refine zA (zL 10 rfl rfl hLo rfl rfl (fun b G hb ho => zE rfl rfl rfl HS34.1 rfl (zB hLo 8 rfl HS34.1 rfl (hb 8 (by rfl))) rfl)) ?_
                    refine zA (zL 11 rfl rfl hLo rfl rfl (fun b G hb ho => zE rfl rfl rfl HS34.1 rfl (zB hLo 8 rfl HS34.1 rfl (hb 8 (by rfl))) rfl)) ?_
                    refine zA (zL 12 rfl rfl hLo rfl rfl (fun b G hb ho => zE rfl rfl rfl HS34.1 rfl (zB hLo 8 rfl HS34.1 rfl (hb 8 (by rfl))) rfl)) ?_
                    refine zA (zC 13 _ rfl rfl hLo rfl rfl (fun b G hb ho => zE rfl rfl rfl HS34.1 rfl (zB hLo 4 rfl HS34.1 rfl (hb 4 (by rfl))) rfl) (fun b G w hb ho => zO rfl (zB hLo 8 rfl HS34.1 rfl (hb 8 (by rfl))) (rfl))) ?_
                    refine zA (zC 14 _ rfl rfl hLo rfl rfl (fun _ _ _ _ => rfl) (fun b G w hb ho => zO rfl (zB hLo 4 rfl HS34.1 rfl (hb 4 (by rfl))) (zB hLo 13 rfl HS34.1 rfl (hb 13 (by rfl))))) ?_
                    exact zF
                  clear hLo
                  intro G a35 w35 hS hH
                  have HS35 : Sl a35 78 [(19, .slice (some ⟨gn, 0, none⟩) (7) (7)), (0, .agg (FR () 6 ((t).sc))), (1, .pointer (some ((⟨g1_0, 0, none⟩ : Addr)))), (11, .bool false), (13, .slice ((t).xm) ((t).ml) ((t).cm)), (14, .int .i64 (((t).ml : Int))), (15, .int .i64 ((i : Int))), (16, .bool true), (4, .pointer (some ((⟨g6_2, 0, none⟩ : Addr)))), (20, .int .i64 (7)), (21, .int .i64 ((n : Int))), (22, .bool false), (48, .bool true), (52, .bool false), (55, .slice (((t).mem (i)).xm) (((t).mem (i)).ml) (((t).mem (i)).cm)), (56, .int .i64 ((((t).mem (i)).ml : Int))), (57, .int .i64 ((k : Int))), (58, .bool true), (8, .pointer (some ⟨g34_2, 0, none⟩)), (75, .bool false)] := hS
                  have HH35 : Held w7 w35 [⟨g34_2, (), 7, msc (((t).mem (i)).key (k)) (((t).mem (i)).mem (k)), 36⟩] := hH
                  clear hS hH HS34 HH34
                  refine then_ ?_
                  refine wp_cond_false (HS35.get 19 rfl) ?_
                  refine wp_skip ?_
                  refine zT ?_
                  refine then_ ?_
                  have hLo : LOk [(0, 76, .val (.int .i64 (((k + 1 : Nat) : Int)))), (1, 57, .val (.int .i64 (((k + 1 : Nat) : Int))))] := lok (by rfl) (by rfl)
                  refine zK (wE := w7) (sz := 78) (n := 2) [0, 1] [(19, .val (.slice (some ⟨gn, 0, none⟩) (7) (7))), (0, .val (.agg (FR () 6 ((t).sc)))), (1, .val (.pointer (some ((⟨g1_0, 0, none⟩ : Addr))))), (11, .val (.bool false)), (13, .val (.slice ((t).xm) ((t).ml) ((t).cm))), (14, .val (.int .i64 (((t).ml : Int)))), (15, .val (.int .i64 ((i : Int)))), (16, .val (.bool true)), (4, .val (.pointer (some ((⟨g6_2, 0, none⟩ : Addr))))), (20, .val (.int .i64 (7))), (21, .val (.int .i64 ((n : Int)))), (22, .val (.bool false)), (48, .val (.bool true)), (52, .val (.bool false)), (55, .val (.slice (((t).mem (i)).xm) (((t).mem (i)).ml) (((t).mem (i)).cm))), (56, .val (.int .i64 ((((t).mem (i)).ml : Int)))), (58, .val (.bool true)), (8, .val (.pointer (some ⟨g34_2, 0, none⟩))), (75, .val (.bool false)), (57, .val (.int .i64 (((k + 1 : Nat) : Int))))] [(0, 76, .val (.int .i64 (((k + 1 : Nat) : Int)))), (1, 57, .val (.int .i64 (((k + 1 : Nat) : Int))))] [⟨g34_2, none, none, (), 7, msc (((t).mem (i)).key (k)) (((t).mem (i)).mem (k)), msc (((t).mem (i)).key (k)) (((t).mem (i)).mem (k)), 36⟩] rfl (by rfl) HH35 rfl rfl hLo rfl HS35 (slS 0 rfl rfl (slS 1 rfl rfl (slS 2 rfl rfl (slS 3 rfl rfl (slS 4 rfl rfl (slS 5 rfl rfl (slS 6 rfl rfl (slS 7 rfl rfl (slS 8 rfl rfl (slS 9 rfl rfl (slS 10 rfl rfl (slS 11 rfl rfl (slS 12 rfl rfl (slS 13 rfl rfl (slS 14 rfl rfl (slS 15 rfl rfl (slS 17 rfl rfl (slS 18 rfl rfl (slS 19 rfl rfl (slL 1 (d := 1) rfl (trivial))))))))))))))))))))) ?_ ?_
                  · show ∀ i ∈ [0, 1], _
                    refine zA (zC 0 _ rfl rfl hLo rfl rfl (fun _ _ _ _ => rfl) (fun b G w hb ho => zJ rfl (ev_pre hLo 1 rfl (ho 1 (by rfl)) (HS35.get 16 rfl)) (rfl) (rb_add (w_nat (by omega) (by omega)) _ _ _))) ?_
                    refine zA (zC 1 _ rfl rfl hLo rfl rfl (fun _ _ _ _ => rfl) (fun b G w hb ho => zD (.inl rfl) (zB hLo 0 rfl HS35.1 rfl (hb 0 (by rfl))))) ?_
                    exact zF
                  clear hLo
                  intro G a36 w36 hS hH
                  have HS36 : Sl a36 78 [(19, .slice (some ⟨gn, 0, none⟩) (7) (7)), (0, .agg (FR () 6 ((t).sc))), (1, .pointer (some ((⟨g1_0, 0, none⟩ : Addr)))), (11, .bool false), (13, .slice ((t).xm) ((t).ml) ((t).cm)), (14, .int .i64 (((t).ml : Int))), (15, .int .i64 ((i : Int))), (16, .bool true), (4, .pointer (some ((⟨g6_2, 0, none⟩ : Addr)))), (20, .int .i64 (7)), (21, .int .i64 ((n : Int))), (22, .bool false), (48, .bool true), (52, .bool false), (55, .slice (((t).mem (i)).xm) (((t).mem (i)).ml) (((t).mem (i)).cm)), (56, .int .i64 ((((t).mem (i)).ml : Int))), (58, .bool true), (8, .pointer (some ⟨g34_2, 0, none⟩)), (75, .bool false), (57, .int .i64 (((k + 1 : Nat) : Int)))] := hS
                  have HH36 : Held w7 w36 [⟨g34_2, (), 7, msc (((t).mem (i)).key (k)) (((t).mem (i)).mem (k)), 36⟩] := hH
                  clear hS hH HS35 HH35
                  refine then_ ?_
                  have hSq2' : Sl _ 78 [(19, .slice (some ⟨gn, 0, none⟩) (7) (7)), (0, .agg (FR () 6 ((t).sc))), (1, .pointer (some ((⟨g1_0, 0, none⟩ : Addr)))), (11, .bool false), (13, .slice ((t).xm) ((t).ml) ((t).cm)), (14, .int .i64 (((t).ml : Int))), (15, .int .i64 ((i : Int))), (16, .bool true), (4, .pointer (some ((⟨g6_2, 0, none⟩ : Addr)))), (20, .int .i64 (7)), (21, .int .i64 ((n : Int))), (22, .bool false), (48, .bool true), (52, .bool false), (55, .slice (((t).mem (i)).xm) (((t).mem (i)).ml) (((t).mem (i)).cm)), (56, .int .i64 ((((t).mem (i)).ml : Int))), (57, .int .i64 (((k + 1 : Nat) : Int)))] := sl_keep HS36 [0, 1, 2, 3, 4, 5, 6, 7, 8, 9, 10, 11, 12, 13, 14, 15, 19] (by rfl)
                  have hHq2' : Held w7 _ [] := held_keep HH36 0 rfl
                  exact ⟨⟨k + 1, by omega, allB_step hpk ((by show (!(((((t).mem (i)).mem (k)).kind != 2) || (decide ((t).key (i) = k_users) && !zY (((t).mem (i)).key (k))))) = _; simp only [hr12, hr4]; try rfl)), hSq2', hHq2'⟩, by rw [(hSq2'.get 16 rfl)]; show ((t).mem (i)).ml - (((k + 1 : Nat) : Int)).toNat < ((t).mem (i)).ml - k; omega⟩
                · skip
                  refine wp_seq ?_
                  have hLo : LOk [(0, 61, .val (.pointer (some ⟨g34_2, 1, none⟩))), (1, 62, .val (.pointer (some ⟨g34_2, 1, none⟩))), (2, 63, .val (.int .i64 ((((t).mem (i)).mem (k)).kind))), (3, 64, .val (.bool true)), (4, 65, .val (.bool true)), (5, 66, .val (undef)), (6, 67, .val (undef)), (7, 68, .val (undef)), (8, 69, .val (undef)), (9, 70, .val (undef)), (10, 71, .val (undef)), (11, 72, .val (undef)), (12, 73, .val (undef)), (13, 74, .val (undef)), (14, 75, .val (.bool true))] := lok (by rfl) (by rfl)
                  refine zK (wE := w7) (sz := 78) (n := 15) [0, 1, 3, 7, 15, 31, 63, 127, 255, 511, 1023, 2047, 4095, 8191, 16383] [(19, .val (.slice (some ⟨gn, 0, none⟩) (7) (7))), (0, .val (.agg (FR () 6 ((t).sc)))), (1, .val (.pointer (some ((⟨g1_0, 0, none⟩ : Addr))))), (11, .val (.bool false)), (13, .val (.slice ((t).xm) ((t).ml) ((t).cm))), (14, .val (.int .i64 (((t).ml : Int)))), (15, .val (.int .i64 ((i : Int)))), (16, .val (.bool true)), (4, .val (.pointer (some ((⟨g6_2, 0, none⟩ : Addr))))), (20, .val (.int .i64 (7))), (21, .val (.int .i64 ((n : Int)))), (22, .val (.bool false)), (48, .val (.bool true)), (52, .val (.bool false)), (55, .val (.slice (((t).mem (i)).xm) (((t).mem (i)).ml) (((t).mem (i)).cm))), (56, .val (.int .i64 ((((t).mem (i)).ml : Int)))), (57, .val (.int .i64 ((k : Int)))), (58, .val (.bool true)), (8, .val (.pointer (some ⟨g34_2, 0, none⟩))), (75, .val (.bool true))] [(0, 61, .val (.pointer (some ⟨g34_2, 1, none⟩))), (1, 62, .val (.pointer (some ⟨g34_2, 1, none⟩))), (2, 63, .val (.int .i64 ((((t).mem (i)).mem (k)).kind))), (3, 64, .val (.bool true)), (4, 65, .val (.bool true)), (5, 66, .val (undef)), (6, 67, .val (undef)), (7, 68, .val (undef)), (8, 69, .val (undef)), (9, 70, .val (undef)), (10, 71, .val (undef)), (11, 72, .val (undef)), (12, 73, .val (undef)), (13, 74, .val (undef)), (14, 75, .val (.bool true))] [⟨g34_2, none, none, (), 7, msc (((t).mem (i)).key (k)) (((t).mem (i)).mem (k)), msc (((t).mem (i)).key (k)) (((t).mem (i)).mem (k)), 36⟩] rfl (by rfl) HH34 rfl rfl hLo rfl HS34 (slS 0 rfl rfl (slS 1 rfl rfl (slS 2 rfl rfl (slS 3 rfl rfl (slS 4 rfl rfl (slS 5 rfl rfl (slS 6 rfl rfl (slS 7 rfl rfl (slS 8 rfl rfl (slS 9 rfl rfl (slS 10 rfl rfl (slS 11 rfl rfl (slS 12 rfl rfl (slS 13 rfl rfl (slS 14 rfl rfl (slS 15 rfl rfl (slS 16 rfl rfl (slS 17 rfl rfl (slS 18 rfl rfl (slL 14 (d := 14) rfl (trivial))))))))))))))))))))) ?_ ?_
                  · show ∀ i ∈ [0, 1, 2, 3, 4, 5, 6, 7, 8, 9, 10, 11, 12, 13, 14], _
                    refine zA (zC 0 _ rfl rfl hLo rfl rfl (fun _ _ _ _ => rfl) (fun b G w hb ho => zH rfl (zG rfl (HS34.get 18 rfl)) (by kernel_rfl))) ?_
                    refine zA (zC 1 _ rfl rfl hLo rfl rfl (fun _ _ _ _ => rfl) (fun b G w hb ho => zH rfl (zB hLo 0 rfl HS34.1 rfl (hb 0 (by rfl))) (by kernel_rfl))) ?_
                    refine zA (zW 2 0 _ _ rfl rfl rfl hLo rfl rfl (fun _ _ _ _ => rfl) (by rfl) (by rfl) (fun b G w hb ho hr => zP hr (Nat.le_of_ble_eq_true rfl) Tryd.underlying3 rfl rfl (zB hLo 1 rfl HS34.1 rfl (hb 1 (by rfl))))) ?_
                    refine zA (zC 3 _ rfl rfl hLo rfl rfl (fun _ _ _ _ => rfl) (fun b G w hb ho => zJ rfl (zB hLo 2 rfl HS34.1 rfl (hb 2 (by rfl))) (rfl) (rb_neq hr12 _ _ _))) ?_
                    refine zA (zC 4 _ rfl rfl hLo rfl rfl (fun _ _ _ _ => rfl) (fun b G w hb ho => zD (.inl rfl) (zB hLo 3 rfl HS34.1 rfl (hb 3 (by rfl))))) ?_
                    refine zA (zL 5 rfl rfl hLo rfl rfl (fun b G hb ho => zE rfl rfl rfl HS34.1 rfl (zB hLo 4 rfl HS34.1 rfl (hb 4 (by rfl))) rfl)) ?_
                    refine zA (zL 6 rfl rfl hLo rfl rfl (fun b G hb ho => zE rfl rfl rfl HS34.1 rfl (zB hLo 4 rfl HS34.1 rfl (hb 4 (by rfl))) rfl)) ?_
                    refine zA (zL 7 rfl rfl hLo rfl rfl (fun b G hb ho => zE rfl rfl rfl HS34.1 rfl (zB hLo 4 rfl HS34.1 rfl (hb 4 (by rfl))) rfl)) ?_
                    refine zA (zL 8 rfl rfl hLo rfl rfl (fun b G hb ho => zE rfl rfl rfl HS34.1 rfl (zB hLo 4 rfl HS34.1 rfl (hb 4 (by rfl))) rfl)) ?_
                    refine zA (zL 9 rfl rfl hLo rfl rfl (fun b G hb ho => wanted_un rfl rfl rfl HS34.1 rfl (zB hLo 8 rfl HS34.1 rfl (hb 8 (by rfl))))) ?_
                    refine zA (zL 10 rfl rfl hLo rfl rfl (fun b G hb ho => wanted_un rfl rfl rfl HS34.1 rfl (zB hLo 8 rfl HS34.1 rfl (hb 8 (by rfl))))) ?_
                    refine zA (zL 11 rfl rfl hLo rfl rfl (fun b G hb ho => wanted_un rfl rfl rfl HS34.1 rfl (zB hLo 8 rfl HS34.1 rfl (hb 8 (by rfl))))) ?_
                    refine zA (zL 12 rfl rfl hLo rfl rfl (fun b G hb ho => wanted_un rfl rfl rfl HS34.1 rfl (zB hLo 8 rfl HS34.1 rfl (hb 8 (by rfl))))) ?_
                    refine zA (zL 13 rfl rfl hLo rfl rfl (fun b G hb ho => zE rfl rfl rfl HS34.1 rfl (zB hLo 4 rfl HS34.1 rfl (hb 4 (by rfl))) rfl)) ?_
                    refine zA (zC 14 _ rfl rfl hLo rfl rfl (fun _ _ _ _ => rfl) (fun b G w hb ho => zO rfl (zB hLo 4 rfl HS34.1 rfl (hb 4 (by rfl))) (rfl))) ?_
                    exact zF
                  clear hLo
                  intro G a37 w37 hS hH
                  have HS37 : Sl a37 78 [(19, .slice (some ⟨gn, 0, none⟩) (7) (7)), (0, .agg (FR () 6 ((t).sc))), (1, .pointer (some ((⟨g1_0, 0, none⟩ : Addr)))), (11, .bool false), (13, .slice ((t).xm) ((t).ml) ((t).cm)), (14, .int .i64 (((t).ml : Int))), (15, .int .i64 ((i : Int))), (16, .bool true), (4, .pointer (some ((⟨g6_2, 0, none⟩ : Addr)))), (20, .int .i64 (7)), (21, .int .i64 ((n : Int))), (22, .bool false), (48, .bool true), (52, .bool false), (55, .slice (((t).mem (i)).xm) (((t).mem (i)).ml) (((t).mem (i)).cm)), (56, .int .i64 ((((t).mem (i)).ml : Int))), (57, .int .i64 ((k : Int))), (58, .bool true), (8, .pointer (some ⟨g34_2, 0, none⟩)), (75, .bool true)] := hS
                  have HH37 : Held w7 w37 [⟨g34_2, (), 7, msc (((t).mem (i)).key (k)) (((t).mem (i)).mem (k)), 36⟩] := hH
                  clear hS hH HS34 HH34
                  refine then_ ?_
                  refine wp_cond_true (HS37.get 19 rfl) ?_
                  refine wp_seq ?_
                  have hLo : LOk [(0, 2, .val (.bool false))] := lok (by rfl) (by rfl)
                  refine zK (wE := w7) (sz := 78) (n := 1) [0] [(19, .val (.slice (some ⟨gn, 0, none⟩) (7) (7))), (0, .val (.agg (FR () 6 ((t).sc)))), (1, .val (.pointer (some ((⟨g1_0, 0, none⟩ : Addr))))), (11, .val (.bool false)), (13, .val (.slice ((t).xm) ((t).ml) ((t).cm))), (14, .val (.int .i64 (((t).ml : Int)))), (15, .val (.int .i64 ((i : Int)))), (16, .val (.bool true)), (4, .val (.pointer (some ((⟨g6_2, 0, none⟩ : Addr))))), (20, .val (.int .i64 (7))), (21, .val (.int .i64 ((n : Int)))), (22, .val (.bool false)), (48, .val (.bool true)), (52, .val (.bool false)), (55, .val (.slice (((t).mem (i)).xm) (((t).mem (i)).ml) (((t).mem (i)).cm))), (56, .val (.int .i64 ((((t).mem (i)).ml : Int)))), (57, .val (.int .i64 ((k : Int)))), (58, .val (.bool true)), (8, .val (.pointer (some ⟨g34_2, 0, none⟩))), (75, .val (.bool true)), (2, .val (.bool false))] [(0, 2, .val (.bool false))] [⟨g34_2, none, none, (), 7, msc (((t).mem (i)).key (k)) (((t).mem (i)).mem (k)), msc (((t).mem (i)).key (k)) (((t).mem (i)).mem (k)), 36⟩] rfl (by rfl) HH37 rfl rfl hLo rfl HS37 (slS 0 rfl rfl (slS 1 rfl rfl (slS 2 rfl rfl (slS 3 rfl rfl (slS 4 rfl rfl (slS 5 rfl rfl (slS 6 rfl rfl (slS 7 rfl rfl (slS 8 rfl rfl (slS 9 rfl rfl (slS 10 rfl rfl (slS 11 rfl rfl (slS 12 rfl rfl (slS 13 rfl rfl (slS 14 rfl rfl (slS 15 rfl rfl (slS 16 rfl rfl (slS 17 rfl rfl (slS 18 rfl rfl (slS 19 rfl rfl (slL 0 (d := 0) rfl (trivial)))))))))))))))))))))) ?_ ?_
                  · show ∀ i ∈ [0], _
                    refine zA (zC 0 _ rfl rfl hLo rfl rfl (fun _ _ _ _ => rfl) (fun b G w hb ho => zD (.inr rfl) (rfl))) ?_
                    exact zF
                  clear hLo
                  intro G a38 w38 hS hH
                  have HS38 : Sl a38 78 [(19, .slice (some ⟨gn, 0, none⟩) (7) (7)), (0, .agg (FR () 6 ((t).sc))), (1, .pointer (some ((⟨g1_0, 0, none⟩ : Addr)))), (11, .bool false), (13, .slice ((t).xm) ((t).ml) ((t).cm)), (14, .int .i64 (((t).ml : Int))), (15, .int .i64 ((i : Int))), (16, .bool true), (4, .pointer (some ((⟨g6_2, 0, none⟩ : Addr)))), (20, .int .i64 (7)), (21, .int .i64 ((n : Int))), (22, .bool false), (48, .bool true), (52, .bool false), (55, .slice (((t).mem (i)).xm) (((t).mem (i)).ml) (((t).mem (i)).cm)), (56, .int .i64 ((((t).mem (i)).ml : Int))), (57, .int .i64 ((k : Int))), (58, .bool true), (8, .pointer (some ⟨g34_2, 0, none⟩)), (75, .bool true), (2, .bool false)] := hS
                  have HH38 : Held w7 w38 [⟨g34_2, (), 7, msc (((t).mem (i)).key (k)) (((t).mem (i)).mem (k)), 36⟩] := hH
                  clear hS hH HS37 HH37
                  refine then_ ?_
                  refine wp_ret ?_
                  repeat (first | refine zS ?_ | refine zM ?_)
                  have HH39 := Held.back HH8 HH38
                  exact b_tmp rfl HS38.2.1 (HS38.get 20 rfl) ⟨bool_ret (rvalid_m hlti (memR_t (by
                      have hit : isTab ((t).key (i)) = true := by unfold isTab; simp only [hr4, hr5]; try rfl
                      show (!isTab ((t).key (i)) || (!((((t).mem (i)).kind) != 5) && allB (memV zY ((t).key (i)) ((t).mem (i))) ((t).mem (i)).ml)) = _
                      rw [hit]; rw [hr10, allB_no hltk (by show (!(((((t).mem (i)).mem (k)).kind != 2) || (decide ((t).key (i) = k_users) && !zY (((t).mem (i)).key (k))))) = _; simp only [hr12, hr4]; try rfl)]; rfl))), HH39.1⟩
            · skip
              refine wp_cond_true (HS29.get 13 rfl) ?_
              refine wp_seq ?_
              have hLo : LOk [(0, 2, .val (.bool false))] := lok (by rfl) (by rfl)
              refine zK (wE := w7) (sz := 78) (n := 1) [0] [(19, .val (.slice (some ⟨gn, 0, none⟩) (7) (7))), (0, .val (.agg (FR () 6 ((t).sc)))), (1, .val (.pointer (some ((⟨g1_0, 0, none⟩ : Addr))))), (11, .val (.bool false)), (13, .val (.slice ((t).xm) ((t).ml) ((t).cm))), (14, .val (.int .i64 (((t).ml : Int)))), (15, .val (.int .i64 ((i : Int)))), (16, .val (.bool true)), (4, .val (.pointer (some ((⟨g6_2, 0, none⟩ : Addr))))), (20, .val (.int .i64 (7))), (21, .val (.int .i64 ((n : Int)))), (22, .val (.bool false)), (48, .val (.bool true)), (52, .val (.bool true)), (2, .val (.bool false))] [(0, 2, .val (.bool false))] [] rfl (by rfl) HH29 rfl rfl hLo rfl HS29 (slS 0 rfl rfl (slS 1 rfl rfl (slS 2 rfl rfl (slS 3 rfl rfl (slS 4 rfl rfl (slS 5 rfl rfl (slS 6 rfl rfl (slS 7 rfl rfl (slS 8 rfl rfl (slS 9 rfl rfl (slS 10 rfl rfl (slS 11 rfl rfl (slS 12 rfl rfl (slS 13 rfl rfl (slL 0 (d := 0) rfl (trivial)))))))))))))))) ?_ ?_
              · show ∀ i ∈ [0], _
                refine zA (zC 0 _ rfl rfl hLo rfl rfl (fun _ _ _ _ => rfl) (fun b G w hb ho => zD (.inr rfl) (rfl))) ?_
                exact zF
              clear hLo
              intro G a40 w40 hS hH
              have HS40 : Sl a40 78 [(19, .slice (some ⟨gn, 0, none⟩) (7) (7)), (0, .agg (FR () 6 ((t).sc))), (1, .pointer (some ((⟨g1_0, 0, none⟩ : Addr)))), (11, .bool false), (13, .slice ((t).xm) ((t).ml) ((t).cm)), (14, .int .i64 (((t).ml : Int))), (15, .int .i64 ((i : Int))), (16, .bool true), (4, .pointer (some ((⟨g6_2, 0, none⟩ : Addr)))), (20, .int .i64 (7)), (21, .int .i64 ((n : Int))), (22, .bool false), (48, .bool true), (52, .bool true), (2, .bool false)] := hS
              have HH40 : Held w7 w40 [] := hH
              clear hS hH HS29 HH29
              refine then_ ?_
              refine wp_ret ?_
              repeat (first | refine zS ?_ | refine zM ?_)
              have HH41 := Held.back HH8 HH40
              exact b_tmp rfl HS40.2.1 (HS40.get 14 rfl) ⟨bool_ret (rvalid_m hlti (memR_t (by
                  have hit : isTab ((t).key (i)) = true := by unfold isTab; simp only [hr4, hr5]; try rfl
                  show (!isTab ((t).key (i)) || (!((((t).mem (i)).kind) != 5) && allB (memV zY ((t).key (i)) ((t).mem (i))) ((t).mem (i)).ml)) = _
                  rw [hit]; rw [hr10]; rfl))), HH41.1⟩
        · skip
          refine wp_seq ?_
          have hLo : LOk [(0, 36, .val (.pointer (some ((⟨g6_2, 0, none⟩ : Addr))))), (1, 37, .val (.string ((t).key (i)))), (2, 38, .val (.bool true)), (3, 39, .val (.bool true)), (4, 40, .val (undef)), (5, 41, .val (undef)), (6, 42, .val (undef)), (7, 43, .val (.bool true)), (8, 44, .val (.bool true)), (9, 45, .val (undef)), (10, 46, .val (undef)), (11, 47, .val (undef)), (12, 48, .val (.bool true))] := lok (by rfl) (by rfl)
          refine zK (wE := w7) (sz := 78) (n := 13) [0, 1, 3, 7, 15, 31, 63, 127, 255, 511, 1023, 2047, 4095] [(19, .val (.slice (some ⟨gn, 0, none⟩) (7) (7))), (0, .val (.agg (FR () 6 ((t).sc)))), (1, .val (.pointer (some ((⟨g1_0, 0, none⟩ : Addr))))), (11, .val (.bool false)), (13, .val (.slice ((t).xm) ((t).ml) ((t).cm))), (14, .val (.int .i64 (((t).ml : Int)))), (15, .val (.int .i64 ((i : Int)))), (16, .val (.bool true)), (4, .val (.pointer (some ((⟨g6_2, 0, none⟩ : Addr))))), (20, .val (.int .i64 (7))), (21, .val (.int .i64 ((n : Int)))), (22, .val (.bool false)), (48, .val (.bool true))] [(0, 36, .val (.pointer (some ((⟨g6_2, 0, none⟩ : Addr))))), (1, 37, .val (.string ((t).key (i)))), (2, 38, .val (.bool true)), (3, 39, .val (.bool true)), (4, 40, .val (undef)), (5, 41, .val (undef)), (6, 42, .val (undef)), (7, 43, .val (.bool true)), (8, 44, .val (.bool true)), (9, 45, .val (undef)), (10, 46, .val (undef)), (11, 47, .val (undef)), (12, 48, .val (.bool true))] [] rfl (by rfl) HH11 rfl rfl hLo rfl HS11 (slS 0 rfl rfl (slS 1 rfl rfl (slS 2 rfl rfl (slS 3 rfl rfl (slS 4 rfl rfl (slS 5 rfl rfl (slS 6 rfl rfl (slS 7 rfl rfl (slS 8 rfl rfl (slS 9 rfl rfl (slS 10 rfl rfl (slS 11 rfl rfl (slL 12 (d := 12) rfl (trivial)))))))))))))) ?_ ?_
          · show ∀ i ∈ [0, 1, 2, 3, 4, 5, 6, 7, 8, 9, 10, 11, 12], _
            refine zA (zC 0 _ rfl rfl hLo rfl rfl (fun _ _ _ _ => rfl) (fun b G w hb ho => zH rfl (zG rfl (HS11.get 8 rfl)) (by kernel_rfl))) ?_
            refine zA (st_at1 1 ((⟨g6_2, 0, none⟩ : Addr)) _ rfl rfl rfl (fun _ _ _ _ => rfl) hLo rfl rfl Tryd.underlying9 rfl (row_at hRow9_1 0 (Nat.le_of_ble_eq_true rfl)) (fun b G hb ho => zB hLo 0 rfl HS11.1 rfl (hb 0 (by rfl)))) ?_
            refine zA (zC 2 _ rfl rfl hLo rfl rfl (fun _ _ _ _ => rfl) (fun b G w hb ho => zJ rfl (zB hLo 1 rfl HS11.1 rfl (hb 1 (by rfl))) (rfl) (rb_seql hr4 _ _ _))) ?_
            refine zA (zC 3 _ rfl rfl hLo rfl rfl (fun _ _ _ _ => rfl) (fun b G w hb ho => zD (.inl rfl) (zB hLo 2 rfl HS11.1 rfl (hb 2 (by rfl))))) ?_
            refine zA (zL 4 rfl rfl hLo rfl rfl (fun b G hb ho => zE rfl rfl rfl HS11.1 rfl (zB hLo 3 rfl HS11.1 rfl (hb 3 (by rfl))) rfl)) ?_
            refine zA (zL 5 rfl rfl hLo rfl rfl (fun b G hb ho => zE rfl rfl rfl HS11.1 rfl (zB hLo 3 rfl HS11.1 rfl (hb 3 (by rfl))) rfl)) ?_
            refine zA (zL 6 rfl rfl hLo rfl rfl (fun b G hb ho => zE rfl rfl rfl HS11.1 rfl (zB hLo 3 rfl HS11.1 rfl (hb 3 (by rfl))) rfl)) ?_
            refine zA (zC 7 _ rfl rfl hLo rfl rfl (fun _ _ _ _ => rfl) (fun b G w hb ho => zO rfl (zB hLo 3 rfl HS11.1 rfl (hb 3 (by rfl))) (rfl))) ?_
            refine zA (zC 8 _ rfl rfl hLo rfl rfl (fun _ _ _ _ => rfl) (fun b G w hb ho => zD (.inl rfl) (zB hLo 7 rfl HS11.1 rfl (hb 7 (by rfl))))) ?_
            refine zA (zL 9 rfl rfl hLo rfl rfl (fun b G hb ho => zE rfl rfl rfl HS11.1 rfl (zB hLo 8 rfl HS11.1 rfl (hb 8 (by rfl))) rfl)) ?_
            refine zA (zL 10 rfl rfl hLo rfl rfl (fun b G hb ho => zE rfl rfl rfl HS11.1 rfl (zB hLo 8 rfl HS11.1 rfl (hb 8 (by rfl))) rfl)) ?_
            refine zA (zL 11 rfl rfl hLo rfl rfl (fun b G hb ho => zE rfl rfl rfl HS11.1 rfl (zB hLo 8 rfl HS11.1 rfl (hb 8 (by rfl))) rfl)) ?_
            refine zA (zC 12 _ rfl rfl hLo rfl rfl (fun _ _ _ _ => rfl) (fun b G w hb ho => zO rfl (zB hLo 8 rfl HS11.1 rfl (hb 8 (by rfl))) (rfl))) ?_
            exact zF
          clear hLo
          intro G a42 w42 hS hH
          have HS42 : Sl a42 78 [(19, .slice (some ⟨gn, 0, none⟩) (7) (7)), (0, .agg (FR () 6 ((t).sc))), (1, .pointer (some ((⟨g1_0, 0, none⟩ : Addr)))), (11, .bool false), (13, .slice ((t).xm) ((t).ml) ((t).cm)), (14, .int .i64 (((t).ml : Int))), (15, .int .i64 ((i : Int))), (16, .bool true), (4, .pointer (some ((⟨g6_2, 0, none⟩ : Addr)))), (20, .int .i64 (7)), (21, .int .i64 ((n : Int))), (22, .bool false), (48, .bool true)] := hS
          have HH42 : Held w7 w42 [] := hH
          clear hS hH HS11 HH11
          refine then_ ?_
          refine wp_cond_true (HS42.get 12 rfl) ?_
          refine wp_seq ?_
          obtain ⟨r13, hr13⟩ : ∃ r : Bool, (((((t).mem (i)).kind : Int) != 5)) = r := ⟨_, rfl⟩
          refine wp_seq ?_
          have hLo : LOk [(0, 49, .val (.pointer (some (((⟨g6_2, 0, none⟩ : Addr)).add 1)))), (1, 50, .val (.pointer (some (((⟨g6_2, 0, none⟩ : Addr)).add 1)))), (2, 51, .val (.int .i64 (((t).mem (i)).kind))), (3, 52, .val (.bool r13))] := lok (by rfl) (by rfl)
          refine zK (wE := w7) (sz := 78) (n := 4) [0, 1, 3, 7] [(19, .val (.slice (some ⟨gn, 0, none⟩) (7) (7))), (0, .val (.agg (FR () 6 ((t).sc)))), (1, .val (.pointer (some ((⟨g1_0, 0, none⟩ : Addr))))), (11, .val (.bool false)), (13, .val (.slice ((t).xm) ((t).ml) ((t).cm))), (14, .val (.int .i64 (((t).ml : Int)))), (15, .val (.int .i64 ((i : Int)))), (16, .val (.bool true)), (4, .val (.pointer (some ((⟨g6_2, 0, none⟩ : Addr))))), (20, .val (.int .i64 (7))), (21, .val (.int .i64 ((n : Int)))), (22, .val (.bool false)), (48, .val (.bool true)), (52, .val (.bool r13))] [(0, 49, .val (.pointer (some (((⟨g6_2, 0, none⟩ : Addr)).add 1)))), (1, 50, .val (.pointer (some (((⟨g6_2, 0, none⟩ : Addr)).add 1)))), (2, 51, .val (.int .i64 (((t).mem (i)).kind))), (3, 52, .val (.bool r13))] [] rfl (by rfl) HH42 rfl rfl hLo rfl HS42 (slS 0 rfl rfl (slS 1 rfl rfl (slS 2 rfl rfl (slS 3 rfl rfl (slS 4 rfl rfl (slS 5 rfl rfl (slS 6 rfl rfl (slS 7 rfl rfl (slS 8 rfl rfl (slS 9 rfl rfl (slS 10 rfl rfl (slS 11 rfl rfl (slS 12 rfl rfl (slL 3 (d := 3) rfl (trivial))))))))))))))) ?_ ?_
          · show ∀ i ∈ [0, 1, 2, 3], _
            refine zA (zC 0 _ rfl rfl hLo rfl rfl (fun _ _ _ _ => rfl) (fun b G w hb ho => zH rfl (zG rfl (HS42.get 8 rfl)) (by kernel_rfl))) ?_
            refine zA (zC 1 _ rfl rfl hLo rfl rfl (fun _ _ _ _ => rfl) (fun b G w hb ho => zH rfl (zB hLo 0 rfl HS42.1 rfl (hb 0 (by rfl))) (by kernel_rfl))) ?_
            refine zA (st_at1 2 (((⟨g6_2, 0, none⟩ : Addr)).add 1) _ rfl rfl rfl (fun _ _ _ _ => rfl) hLo rfl rfl Tryd.underlying3 rfl (row_at hRow9_1 1 (Nat.le_of_ble_eq_true rfl)) (fun b G hb ho => zB hLo 1 rfl HS42.1 rfl (hb 1 (by rfl)))) ?_
            refine zA (zC 3 _ rfl rfl hLo rfl rfl (fun _ _ _ _ => rfl) (fun b G w hb ho => zJ rfl (zB hLo 2 rfl HS42.1 rfl (hb 2 (by rfl))) (rfl) (rb_neq hr13 _ _ _))) ?_
            exact zF
          clear hLo
          intro G a43 w43 hS hH
          have HS43 : Sl a43 78 [(19, .slice (some ⟨gn, 0, none⟩) (7) (7)), (0, .agg (FR () 6 ((t).sc))), (1, .pointer (some ((⟨g1_0, 0, none⟩ : Addr)))), (11, .bool false), (13, .slice ((t).xm) ((t).ml) ((t).cm)), (14, .int .i64 (((t).ml : Int))), (15, .int .i64 ((i : Int))), (16, .bool true), (4, .pointer (some ((⟨g6_2, 0, none⟩ : Addr)))), (20, .int .i64 (7)), (21, .int .i64 ((n : Int))), (22, .bool false), (48, .bool true), (52, .bool r13)] := hS
          have HH43 : Held w7 w43 [] := hH
          clear hS hH HS42 HH42
          refine then_ ?_
          cases r13
          · skip
            refine wp_cond_false (HS43.get 13 rfl) ?_
            refine wp_skip ?_
            refine then_ ?_
            refine wp_seq ?_
            have hLo : LOk [(0, 53, .val (.pointer (some (((⟨g6_2, 0, none⟩ : Addr)).add 1)))), (1, 54, .val (.pointer (some ((((⟨g6_2, 0, none⟩ : Addr)).add 1).add 5)))), (2, 55, .val (.slice (((t).mem (i)).xm) (((t).mem (i)).ml) (((t).mem (i)).cm))), (3, 56, .val (.int .i64 ((((t).mem (i)).ml : Int)))), (4, 57, .val (.int .i64 (0)))] := lok (by rfl) (by rfl)
            refine zK (wE := w7) (sz := 78) (n := 5) [0, 1, 3, 7, 15] [(19, .val (.slice (some ⟨gn, 0, none⟩) (7) (7))), (0, .val (.agg (FR () 6 ((t).sc)))), (1, .val (.pointer (some ((⟨g1_0, 0, none⟩ : Addr))))), (11, .val (.bool false)), (13, .val (.slice ((t).xm) ((t).ml) ((t).cm))), (14, .val (.int .i64 (((t).ml : Int)))), (15, .val (.int .i64 ((i : Int)))), (16, .val (.bool true)), (4, .val (.pointer (some ((⟨g6_2, 0, none⟩ : Addr))))), (20, .val (.int .i64 (7))), (21, .val (.int .i64 ((n : Int)))), (22, .val (.bool false)), (48, .val (.bool true)), (52, .val (.bool false)), (55, .val (.slice (((t).mem (i)).xm) (((t).mem (i)).ml) (((t).mem (i)).cm))), (56, .val (.int .i64 ((((t).mem (i)).ml : Int)))), (57, .val (.int .i64 (0)))] [(0, 53, .val (.pointer (some (((⟨g6_2, 0, none⟩ : Addr)).add 1)))), (1, 54, .val (.pointer (some ((((⟨g6_2, 0, none⟩ : Addr)).add 1).add 5)))), (2, 55, .val (.slice (((t).mem (i)).xm) (((t).mem (i)).ml) (((t).mem (i)).cm))), (3, 56, .val (.int .i64 ((((t).mem (i)).ml : Int)))), (4, 57, .val (.int .i64 (0)))] [] rfl (by rfl) HH43 rfl rfl hLo rfl HS43 (slS 0 rfl rfl (slS 1 rfl rfl (slS 2 rfl rfl (slS 3 rfl rfl (slS 4 rfl rfl (slS 5 rfl rfl (slS 6 rfl rfl (slS 7 rfl rfl (slS 8 rfl rfl (slS 9 rfl rfl (slS 10 rfl rfl (slS 11 rfl rfl (slS 12 rfl rfl (slS 13 rfl rfl (slL 2 (d := 2) rfl (slL 3 (d := 3) rfl (slL 4 (d := 4) rfl (trivial)))))))))))))))))) ?_ ?_
            · show ∀ i ∈ [0, 1, 2, 3, 4], _
              refine zA (zC 0 _ rfl rfl hLo rfl rfl (fun _ _ _ _ => rfl) (fun b G w hb ho => zH rfl (zG rfl (HS43.get 8 rfl)) (by kernel_rfl))) ?_
              refine zA (zC 1 _ rfl rfl hLo rfl rfl (fun _ _ _ _ => rfl) (fun b G w hb ho => zH rfl (zB hLo 0 rfl HS43.1 rfl (hb 0 (by rfl))) (by kernel_rfl))) ?_
              refine zA (st_at1 2 ((((⟨g6_2, 0, none⟩ : Addr)).add 1).add 5) _ rfl rfl rfl (fun _ _ _ _ => rfl) hLo rfl rfl Tryd.underlying23 rfl (row_at hRow9_1 6 (Nat.le_of_ble_eq_true rfl)) (fun b G hb ho => zB hLo 1 rfl HS43.1 rfl (hb 1 (by rfl)))) ?_
              refine zA (zC 3 _ rfl rfl hLo rfl rfl (fun _ _ _ _ => rfl) (fun b G w hb ho => exec_lenL Tryd.underlying23 rfl (zB hLo 2 rfl HS43.1 rfl (hb 2 (by rfl))))) ?_
              refine zA (zC 4 _ rfl rfl hLo rfl rfl (fun _ _ _ _ => rfl) (fun b G w hb ho => zD (.inl rfl) (rfl))) ?_
              exact zF
            clear hLo
            intro G a44 w44 hS hH
            have HS44 : Sl a44 78 [(19, .slice (some ⟨gn, 0, none⟩) (7) (7)), (0, .agg (FR () 6 ((t).sc))), (1, .pointer (some ((⟨g1_0, 0, none⟩ : Addr)))), (11, .bool false), (13, .slice ((t).xm) ((t).ml) ((t).cm)), (14, .int .i64 (((t).ml : Int))), (15, .int .i64 ((i : Int))), (16, .bool true), (4, .pointer (some ((⟨g6_2, 0, none⟩ : Addr)))), (20, .int .i64 (7)), (21, .int .i64 ((n : Int))), (22, .bool false), (48, .bool true), (52, .bool false), (55, .slice (((t).mem (i)).xm) (((t).mem (i)).ml) (((t).mem (i)).cm)), (56, .int .i64 ((((t).mem (i)).ml : Int))), (57, .int .i64 (0))] := hS
            have HH44 : Held w7 w44 [] := hH
            clear hS hH HS43 HH43
            refine then_ ?_
            refine wp_block ?_
            have hSq2 : Sl _ 78 [(19, .slice (some ⟨gn, 0, none⟩) (7) (7)), (0, .agg (FR () 6 ((t).sc))), (1, .pointer (some ((⟨g1_0, 0, none⟩ : Addr)))), (11, .bool false), (13, .slice ((t).xm) ((t).ml) ((t).cm)), (14, .int .i64 (((t).ml : Int))), (15, .int .i64 ((i : Int))), (16, .bool true), (4, .pointer (some ((⟨g6_2, 0, none⟩ : Addr)))), (20, .int .i64 (7)), (21, .int .i64 ((n : Int))), (22, .bool false), (48, .bool true), (52, .bool false), (55, .slice (((t).mem (i)).xm) (((t).mem (i)).ml) (((t).mem (i)).cm)), (56, .int .i64 ((((t).mem (i)).ml : Int))), (57, .int .i64 (0))] := sl_keep HS44 [0, 1, 2, 3, 4, 5, 6, 7, 8, 9, 10, 11, 12, 13, 14, 15, 16] (by rfl)
            refine wp_loop (fun a w' => ∃ k : Nat, k ≤ ((t).mem (i)).ml ∧ allB (memV zY ((t).key (i)) ((t).mem (i))) k = true ∧ Sl a 78 [(19, .slice (some ⟨gn, 0, none⟩) (7) (7)), (0, .agg (FR () 6 ((t).sc))), (1, .pointer (some ((⟨g1_0, 0, none⟩ : Addr)))), (11, .bool false), (13, .slice ((t).xm) ((t).ml) ((t).cm)), (14, .int .i64 (((t).ml : Int))), (15, .int .i64 ((i : Int))), (16, .bool true), (4, .pointer (some ((⟨g6_2, 0, none⟩ : Addr)))), (20, .int .i64 (7)), (21, .int .i64 ((n : Int))), (22, .bool false), (48, .bool true), (52, .bool false), (55, .slice (((t).mem (i)).xm) (((t).mem (i)).ml) (((t).mem (i)).cm)), (56, .int .i64 ((((t).mem (i)).ml : Int))), (57, .int .i64 ((k : Int)))] ∧ Held w7 w' []) (fun a w' => ((t).mem (i)).ml - (intOf (a.eval (.tmp 57))).toNat) ⟨0, Nat.zero_le _, rfl, hSq2, HH44⟩ ?_
            clear hSq2 HS44 HH44
            rintro aq2 wq2 ⟨k, hlek, hpk, HSq2, HHq2⟩
            have hm' : (intOf (aq2.eval (.tmp 57))).toNat = k := by rw [(HSq2.get 16 rfl)]; rfl
            rw [hm']
            clear hm'
            have hby := (hIn_9.mem hlti).own.2.2.2.2.1
            unfold reach47 at hby
            obtain ⟨r14, hr14⟩ : ∃ r : Bool, (decide (((k : Int) : Int) < (((t).mem (i)).ml : Int))) = r := ⟨_, rfl⟩
            refine wp_seq ?_
            have hLo : LOk [(0, 58, .val (.bool r14))] := lok (by rfl) (by rfl)
            refine zK (wE := w7) (sz := 78) (n := 1) [0] [(19, .val (.slice (some ⟨gn, 0, none⟩) (7) (7))), (0, .val (.agg (FR () 6 ((t).sc)))), (1, .val (.pointer (some ((⟨g1_0, 0, none⟩ : Addr))))), (11, .val (.bool false)), (13, .val (.slice ((t).xm) ((t).ml) ((t).cm))), (14, .val (.int .i64 (((t).ml : Int)))), (15, .val (.int .i64 ((i : Int)))), (16, .val (.bool true)), (4, .val (.pointer (some ((⟨g6_2, 0, none⟩ : Addr))))), (20, .val (.int .i64 (7))), (21, .val (.int .i64 ((n : Int)))), (22, .val (.bool false)), (48, .val (.bool true)), (52, .val (.bool false)), (55, .val (.slice (((t).mem (i)).xm) (((t).mem (i)).ml) (((t).mem (i)).cm))), (56, .val (.int .i64 ((((t).mem (i)).ml : Int)))), (57, .val (.int .i64 ((k : Int)))), (58, .val (.bool r14))] [(0, 58, .val (.bool r14))] [] rfl (by rfl) HHq2 rfl rfl hLo rfl HSq2 (slS 0 rfl rfl (slS 1 rfl rfl (slS 2 rfl rfl (slS 3 rfl rfl (slS 4 rfl rfl (slS 5 rfl rfl (slS 6 rfl rfl (slS 7 rfl rfl (slS 8 rfl rfl (slS 9 rfl rfl (slS 10 rfl rfl (slS 11 rfl rfl (slS 12 rfl rfl (slS 13 rfl rfl (slS 14 rfl rfl (slS 15 rfl rfl (slS 16 rfl rfl (slL 0 (d := 0) rfl (trivial))))))))))))))))))) ?_ ?_
            · show ∀ i ∈ [0], _
              refine zA (zC 0 _ rfl rfl hLo rfl rfl (fun _ _ _ _ => rfl) (fun b G w hb ho => zJ rfl (zG rfl (HSq2.get 16 rfl)) (zG rfl (HSq2.get 15 rfl)) (rb_lss hr14 _ _ _))) ?_
              exact zF
            clear hLo
            intro G a45 w45 hS hH
            have HS45 : Sl a45 78 [(19, .slice (some ⟨gn, 0, none⟩) (7) (7)), (0, .agg (FR () 6 ((t).sc))), (1, .pointer (some ((⟨g1_0, 0, none⟩ : Addr)))), (11, .bool false), (13, .slice ((t).xm) ((t).ml) ((t).cm)), (14, .int .i64 (((t).ml : Int))), (15, .int .i64 ((i : Int))), (16, .bool true), (4, .pointer (some ((⟨g6_2, 0, none⟩ : Addr)))), (20, .int .i64 (7)), (21, .int .i64 ((n : Int))), (22, .bool false), (48, .bool true), (52, .bool false), (55, .slice (((t).mem (i)).xm) (((t).mem (i)).ml) (((t).mem (i)).cm)), (56, .int .i64 ((((t).mem (i)).ml : Int))), (57, .int .i64 ((k : Int))), (58, .bool r14)] := hS
            have HH45 : Held w7 w45 [] := hH
            clear hS hH HSq2 HHq2
            refine then_ ?_
            refine wp_seq ?_
            cases r14
            · skip
              have hendk : k = ((t).mem (i)).ml := by have := of_decide_eq_false hr14; omega
              have hqk := hpk
              rw [hendk] at hqk
              refine wp_cond_false (HS45.get 17 rfl) ?_
              refine wp_exit ?_
              refine zV ?_
              refine zV ?_
              refine inBlock_exit ?_
              refine zT ?_
              refine then_ ?_
              have hLo : LOk [(0, 77, .val (.int .i64 (((i + 1 : Nat) : Int)))), (1, 15, .val (.int .i64 (((i + 1 : Nat) : Int))))] := lok (by rfl) (by rfl)
              refine zK (wE := w7) (sz := 78) (n := 2) [0, 1] [(19, .val (.slice (some ⟨gn, 0, none⟩) (7) (7))), (0, .val (.agg (FR () 6 ((t).sc)))), (1, .val (.pointer (some ((⟨g1_0, 0, none⟩ : Addr))))), (11, .val (.bool false)), (13, .val (.slice ((t).xm) ((t).ml) ((t).cm))), (14, .val (.int .i64 (((t).ml : Int)))), (16, .val (.bool true)), (4, .val (.pointer (some ((⟨g6_2, 0, none⟩ : Addr))))), (20, .val (.int .i64 (7))), (21, .val (.int .i64 ((n : Int)))), (22, .val (.bool false)), (48, .val (.bool true)), (52, .val (.bool false)), (55, .val (.slice (((t).mem (i)).xm) (((t).mem (i)).ml) (((t).mem (i)).cm))), (56, .val (.int .i64 ((((t).mem (i)).ml : Int)))), (57, .val (.int .i64 ((k : Int)))), (58, .val (.bool false)), (15, .val (.int .i64 (((i + 1 : Nat) : Int))))] [(0, 77, .val (.int .i64 (((i + 1 : Nat) : Int)))), (1, 15, .val (.int .i64 (((i + 1 : Nat) : Int))))] [] rfl (by rfl) HH45 rfl rfl hLo rfl HS45 (slS 0 rfl rfl (slS 1 rfl rfl (slS 2 rfl rfl (slS 3 rfl rfl (slS 4 rfl rfl (slS 5 rfl rfl (slS 7 rfl rfl (slS 8 rfl rfl (slS 9 rfl rfl (slS 10 rfl rfl (slS 11 rfl rfl (slS 12 rfl rfl (slS 13 rfl rfl (slS 14 rfl rfl (slS 15 rfl rfl (slS 16 rfl rfl (slS 17 rfl rfl (slL 1 (d := 1) rfl (trivial))))))))))))))))))) ?_ ?_
              · show ∀ i ∈ [0, 1], _
                refine zA (zC 0 _ rfl rfl hLo rfl rfl (fun _ _ _ _ => rfl) (fun b G w hb ho => zJ rfl (ev_pre hLo 1 rfl (ho 1 (by rfl)) (HS45.get 6 rfl)) (rfl) (rb_add (w_nat (by omega) (by omega)) _ _ _))) ?_
                refine zA (zC 1 _ rfl rfl hLo rfl rfl (fun _ _ _ _ => rfl) (fun b G w hb ho => zD (.inl rfl) (zB hLo 0 rfl HS45.1 rfl (hb 0 (by rfl))))) ?_
                exact zF
              clear hLo
              intro G a46 w46 hS hH
              have HS46 : Sl a46 78 [(19, .slice (some ⟨gn, 0, none⟩) (7) (7)), (0, .agg (FR () 6 ((t).sc))), (1, .pointer (some ((⟨g1_0, 0, none⟩ : Addr)))), (11, .bool false), (13, .slice ((t).xm) ((t).ml) ((t).cm)), (14, .int .i64 (((t).ml : Int))), (16, .bool true), (4, .pointer (some ((⟨g6_2, 0, none⟩ : Addr)))), (20, .int .i64 (7)), (21, .int .i64 ((n : Int))), (22, .bool false), (48, .bool true), (52, .bool false), (55, .slice (((t).mem (i)).xm) (((t).mem (i)).ml) (((t).mem (i)).cm)), (56, .int .i64 ((((t).mem (i)).ml : Int))), (57, .int .i64 ((k : Int))), (58, .bool false), (15, .int .i64 (((i + 1 : Nat) : Int)))] := hS
              have HH46 : Held w7 w46 [] := hH
              clear hS hH HS45 HH45
              refine then_ ?_
              have HH47 := Held.back HH8 HH46
              have hSq0' : Sl _ 78 [(0, .agg (FR () 6 ((t).sc))), (1, .pointer (some ⟨g1_0, 0, none⟩)), (11, .bool false), (13, .slice ((t).xm) ((t).ml) ((t).cm)), (14, .int .i64 (((t).ml : Int))), (15, .int .i64 (((i + 1 : Nat) : Int)))] := sl_keep HS46 [1, 2, 3, 4, 5, 17] (by rfl)
              have hHq0' : Held w _ [⟨g1_0, (), 6, (t).sc, 25⟩] := held_keep HH47 1 rfl
              exact ⟨⟨i + 1, by omega, allB_step hpi (memR_y hqn (by
                  have hit : isTab ((t).key (i)) = true := by unfold isTab; simp only [hr4]; try rfl
                  show (!isTab ((t).key (i)) || (!((((t).mem (i)).kind) != 5) && allB (memV zY ((t).key (i)) ((t).mem (i))) ((t).mem (i)).ml)) = _
                  rw [hit]; rw [hr13, hqk]; rfl)), hSq0', hHq0'⟩, by rw [(hSq0'.get 5 rfl)]; show t.ml - (((i + 1 : Nat) : Int)).toNat < t.ml - i; omega⟩
            · skip
              have hltk : k < ((t).mem (i)).ml := by have := of_decide_eq_true hr14; omega
              refine wp_cond_true (HS45.get 17 rfl) ?_
              refine wp_skip ?_
              refine then_ ?_
              refine wp_seq ?_
              refine wp_block ?_
              obtain ⟨⟨a4, hx4, hk4, hv4⟩, _, hn4⟩ := ((hIn_9.mem hlti)).mems (i := k) (by omega)
              refine wp_seq ?_
              have hLo : LOk [(0, 59, .val (.pointer (some (a4.add ((k) * 7))))), (1, 60, .val (.agg (FR () 7 (msc (((t).mem (i)).key (k)) (((t).mem (i)).mem (k)))))), (2, 8, .new 2 (fun g => .pointer (some ⟨g, 0, none⟩)))] := lok (by rfl) (by rfl)
              refine zK (wE := w7) (sz := 78) (n := 4) [0, 1, 3, 7] [(19, .val (.slice (some ⟨gn, 0, none⟩) (7) (7))), (0, .val (.agg (FR () 6 ((t).sc)))), (1, .val (.pointer (some ((⟨g1_0, 0, none⟩ : Addr))))), (11, .val (.bool false)), (13, .val (.slice ((t).xm) ((t).ml) ((t).cm))), (14, .val (.int .i64 (((t).ml : Int)))), (15, .val (.int .i64 ((i : Int)))), (16, .val (.bool true)), (4, .val (.pointer (some ((⟨g6_2, 0, none⟩ : Addr))))), (20, .val (.int .i64 (7))), (21, .val (.int .i64 ((n : Int)))), (22, .val (.bool false)), (48, .val (.bool true)), (52, .val (.bool false)), (55, .val (.slice (((t).mem (i)).xm) (((t).mem (i)).ml) (((t).mem (i)).cm))), (56, .val (.int .i64 ((((t).mem (i)).ml : Int)))), (57, .val (.int .i64 ((k : Int)))), (58, .val (.bool true)), (8, .new 2 (fun g => .pointer (some ⟨g, 0, none⟩)))] [(0, 59, .val (.pointer (some (a4.add ((k) * 7))))), (1, 60, .val (.agg (FR () 7 (msc (((t).mem (i)).key (k)) (((t).mem (i)).mem (k)))))), (2, 8, .new 2 (fun g => .pointer (some ⟨g, 0, none⟩)))] [⟨0, some 2, some 3, (), 7, lsc [.s (ByteArray.empty), .i .i64 (0), .b (false), .i .i64 (0), .s (ByteArray.empty), .sl (none) (0) (0), .sl (none) (0) (0)], msc (((t).mem (i)).key (k)) (((t).mem (i)).mem (k)), 36⟩] rfl (by rfl) HH45 rfl rfl hLo rfl HS45 (slS 0 rfl rfl (slS 1 rfl rfl (slS 2 rfl rfl (slS 3 rfl rfl (slS 4 rfl rfl (slS 5 rfl rfl (slS 6 rfl rfl (slS 7 rfl rfl (slS 8 rfl rfl (slS 9 rfl rfl (slS 10 rfl rfl (slS 11 rfl rfl (slS 12 rfl rfl (slS 13 rfl rfl (slS 14 rfl rfl (slS 15 rfl rfl (slS 16 rfl rfl (slS 17 rfl rfl (slL 2 (d := 2) rfl (trivial)))))))))))))))))))) ?_ ?_
              · show ∀ i ∈ [0, 1, 2, 3], _
                refine zA (zC 0 _ rfl rfl hLo rfl rfl (fun _ _ _ _ => rfl) (fun b G w hb ho => zU rfl (zG rfl (HS45.get 14 rfl)) (zG rfl (HS45.get 16 rfl)) (index_sl Tryd.underlying23 (by kernel_rfl) hx4 (by omega) _))) ?_
                refine zA (st_at 1 (a4.add ((k) * 7)) rfl rfl rfl (fun _ _ _ _ => rfl) hLo rfl rfl Tryd.underlying36 (by kernel_rfl) rfl (at7 hk4 hv4) (fun b G hb ho => zB hLo 0 rfl HS45.1 rfl (hb 0 (by rfl)))) ?_
                refine zA (st_alloc 2 0 () 7 36 (some 3) _ _ rfl rfl (fun _ _ _ _ => rfl) rfl hLo rfl rfl rfl rfl (by rfl) (fun b G w _ _ => by kernel_rfl)) ?_
                refine zA (st_store 0 _ rfl rfl rfl rfl rfl (fun _ _ _ _ => rfl) rfl rfl rfl (by rfl) (by kernel_rfl) (fun b G hb ho => zB hLo 2 rfl HS45.1 rfl (hb 2 (by rfl))) (fun b G hb ho => zB hLo 1 rfl HS45.1 rfl (hb 1 (by rfl)))) ?_
                exact zF
              clear hLo
              intro G a48 w48 hS hH
              have HS48 : Sl a48 78 [(19, .slice (some ⟨gn, 0, none⟩) (7) (7)), (0, .agg (FR () 6 ((t).sc))), (1, .pointer (some ((⟨g1_0, 0, none⟩ : Addr)))), (11, .bool false), (13, .slice ((t).xm) ((t).ml) ((t).cm)), (14, .int .i64 (((t).ml : Int))), (15, .int .i64 ((i : Int))), (16, .bool true), (4, .pointer (some ((⟨g6_2, 0, none⟩ : Addr)))), (20, .int .i64 (7)), (21, .int .i64 ((n : Int))), (22, .bool false), (48, .bool true), (52, .bool false), (55, .slice (((t).mem (i)).xm) (((t).mem (i)).ml) (((t).mem (i)).cm)), (56, .int .i64 ((((t).mem (i)).ml : Int))), (57, .int .i64 ((k : Int))), (58, .bool true), (8, .pointer (some ⟨(G 2), 0, none⟩))] := hS
              have HH48 : Held w7 w48 [⟨(G 2), (), 7, msc (((t).mem (i)).key (k)) (((t).mem (i)).mem (k)), 36⟩] := hH
              clear hS hH HS45 HH45
              generalize G 2 = g48_2 at HS48 HH48
              refine then_ ?_
              obtain ⟨r15, hr15⟩ : ∃ r : Bool, ((((((t).mem (i)).mem (k)).kind : Int) != 2)) = r := ⟨_, rfl⟩
              cases r15
              · skip
                obtain ⟨r16, hr16⟩ : ∃ r : Bool, (zY (((t).mem (i)).key (k))) = r := ⟨_, rfl⟩
                have hks := ((hIn_9.mem hlti).mems hltk).2.1
                refine wp_seq ?_
                have hLo : LOk [(0, 61, .val (.pointer (some ⟨g48_2, 1, none⟩))), (1, 62, .val (.pointer (some ⟨g48_2, 1, none⟩))), (2, 63, .val (.int .i64 ((((t).mem (i)).mem (k)).kind))), (3, 64, .val (.bool false)), (4, 65, .val (.bool false)), (5, 66, .val (.pointer (some ((⟨g6_2, 0, none⟩ : Addr))))), (6, 67, .val (.string ((t).key (i)))), (7, 68, .val (.bool true)), (8, 69, .val (.bool true)), (9, 70, .val (.pointer (some ⟨g48_2, 0, none⟩))), (10, 71, .val (.string (((t).mem (i)).key (k)))), (11, 72, .val (.bool r16)), (12, 73, .val (.bool (!r16))), (13, 74, .val (.bool (!r16))), (14, 75, .val (.bool (!r16)))] := lok (by rfl) (by rfl)
                refine zK (wE := w7) (sz := 78) (n := 15) [0, 1, 3, 7, 15, 31, 63, 127, 255, 511, 1023, 2047, 4095, 8191, 16383] [(19, .val (.slice (some ⟨gn, 0, none⟩) (7) (7))), (0, .val (.agg (FR () 6 ((t).sc)))), (1, .val (.pointer (some ((⟨g1_0, 0, none⟩ : Addr))))), (11, .val (.bool false)), (13, .val (.slice ((t).xm) ((t).ml) ((t).cm))), (14, .val (.int .i64 (((t).ml : Int)))), (15, .val (.int .i64 ((i : Int)))), (16, .val (.bool true)), (4, .val (.pointer (some ((⟨g6_2, 0, none⟩ : Addr))))), (20, .val (.int .i64 (7))), (21, .val (.int .i64 ((n : Int)))), (22, .val (.bool false)), (48, .val (.bool true)), (52, .val (.bool false)), (55, .val (.slice (((t).mem (i)).xm) (((t).mem (i)).ml) (((t).mem (i)).cm))), (56, .val (.int .i64 ((((t).mem (i)).ml : Int)))), (57, .val (.int .i64 ((k : Int)))), (58, .val (.bool true)), (8, .val (.pointer (some ⟨g48_2, 0, none⟩))), (75, .val (.bool (!r16)))] [(0, 61, .val (.pointer (some ⟨g48_2, 1, none⟩))), (1, 62, .val (.pointer (some ⟨g48_2, 1, none⟩))), (2, 63, .val (.int .i64 ((((t).mem (i)).mem (k)).kind))), (3, 64, .val (.bool false)), (4, 65, .val (.bool false)), (5, 66, .val (.pointer (some ((⟨g6_2, 0, none⟩ : Addr))))), (6, 67, .val (.string ((t).key (i)))), (7, 68, .val (.bool true)), (8, 69, .val (.bool true)), (9, 70, .val (.pointer (some ⟨g48_2, 0, none⟩))), (10, 71, .val (.string (((t).mem (i)).key (k)))), (11, 72, .val (.bool r16)), (12, 73, .val (.bool (!r16))), (13, 74, .val (.bool (!r16))), (14, 75, .val (.bool (!r16)))] [⟨g48_2, none, none, (), 7, msc (((t).mem (i)).key (k)) (((t).mem (i)).mem (k)), msc (((t).mem (i)).key (k)) (((t).mem (i)).mem (k)), 36⟩] rfl (by rfl) HH48 rfl rfl hLo rfl HS48 (slS 0 rfl rfl (slS 1 rfl rfl (slS 2 rfl rfl (slS 3 rfl rfl (slS 4 rfl rfl (slS 5 rfl rfl (slS 6 rfl rfl (slS 7 rfl rfl (slS 8 rfl rfl (slS 9 rfl rfl (slS 10 rfl rfl (slS 11 rfl rfl (slS 12 rfl rfl (slS 13 rfl rfl (slS 14 rfl rfl (slS 15 rfl rfl (slS 16 rfl rfl (slS 17 rfl rfl (slS 18 rfl rfl (slL 14 (d := 14) rfl (trivial))))))))))))))))))))) ?_ ?_
                · show ∀ i ∈ [0, 1, 2, 3, 4, 5, 6, 7, 8, 9, 10, 11, 12, 13, 14], _
                  refine zA (zC 0 _ rfl rfl hLo rfl rfl (fun _ _ _ _ => rfl) (fun b G w hb ho => zH rfl (zG rfl (HS48.get 18 rfl)) (by kernel_rfl))) ?_
                  refine zA (zC 1 _ rfl rfl hLo rfl rfl (fun _ _ _ _ => rfl) (fun b G w hb ho => zH rfl (zB hLo 0 rfl HS48.1 rfl (hb 0 (by rfl))) (by kernel_rfl))) ?_
                  refine zA (zW 2 0 _ _ rfl rfl rfl hLo rfl rfl (fun _ _ _ _ => rfl) (by rfl) (by rfl) (fun b G w hb ho hr => zP hr (Nat.le_of_ble_eq_true rfl) Tryd.underlying3 rfl rfl (zB hLo 1 rfl HS48.1 rfl (hb 1 (by rfl))))) ?_
                  refine zA (zC 3 _ rfl rfl hLo rfl rfl (fun _ _ _ _ => rfl) (fun b G w hb ho => zJ rfl (zB hLo 2 rfl HS48.1 rfl (hb 2 (by rfl))) (rfl) (rb_neq hr15 _ _ _))) ?_
                  refine zA (zC 4 _ rfl rfl hLo rfl rfl (fun _ _ _ _ => rfl) (fun b G w hb ho => zD (.inl rfl) (zB hLo 3 rfl HS48.1 rfl (hb 3 (by rfl))))) ?_
                  refine zA (zC 5 _ rfl rfl hLo rfl rfl (fun b G hb ho => zE rfl rfl rfl HS48.1 rfl (zB hLo 4 rfl HS48.1 rfl (hb 4 (by rfl))) rfl) (fun b G w hb ho => zH rfl (zG rfl (HS48.get 8 rfl)) (by kernel_rfl))) ?_
                  refine zA (st_at1 6 ((⟨g6_2, 0, none⟩ : Addr)) _ rfl rfl rfl (fun b G hb ho => zE rfl rfl rfl HS48.1 rfl (zB hLo 4 rfl HS48.1 rfl (hb 4 (by rfl))) rfl) hLo rfl rfl Tryd.underlying9 rfl (row_at hRow9_1 0 (Nat.le_of_ble_eq_true rfl)) (fun b G hb ho => zB hLo 5 rfl HS48.1 rfl (hb 5 (by rfl)))) ?_
                  refine zA (zC 7 _ rfl rfl hLo rfl rfl (fun b G hb ho => zE rfl rfl rfl HS48.1 rfl (zB hLo 4 rfl HS48.1 rfl (hb 4 (by rfl))) rfl) (fun b G w hb ho => zJ rfl (zB hLo 6 rfl HS48.1 rfl (hb 6 (by rfl))) (rfl) (rb_seql hr4 _ _ _))) ?_
                  refine zA (zC 8 _ rfl rfl hLo rfl rfl (fun b G hb ho => zE rfl rfl rfl HS48.1 rfl (zB hLo 4 rfl HS48.1 rfl (hb 4 (by rfl))) rfl) (fun b G w hb ho => zD (.inl rfl) (zB hLo 7 rfl HS48.1 rfl (hb 7 (by rfl))))) ?_
                  refine zA (zC 9 _ rfl rfl hLo rfl rfl (fun b G hb ho => zE rfl rfl rfl HS48.1 rfl (zB hLo 8 rfl HS48.1 rfl (hb 8 (by rfl))) rfl) (fun b G w hb ho => zH rfl (zG rfl (HS48.get 18 rfl)) (by kernel_rfl))) ?_
                  refine zA (zW 10 0 _ _ rfl rfl rfl hLo rfl rfl (fun b G hb ho => zE rfl rfl rfl HS48.1 rfl (zB hLo 8 rfl HS48.1 rfl (hb 8 (by rfl))) rfl) (by rfl) (by rfl) (fun b G w hb ho hr => zP hr (Nat.le_of_ble_eq_true rfl) Tryd.underlying9 rfl rfl (zB hLo 9 rfl HS48.1 rfl (hb 9 (by rfl))))) ?_
                  refine zA (st_call 11 _ #[.string (((t).mem (i)).key (k))] rfl rfl rfl (fun b G hb ho => zE rfl rfl rfl HS48.1 rfl (zB hLo 8 rfl HS48.1 rfl (hb 8 (by rfl))) rfl) hLo rfl rfl Tryd.func16 rfl rfl (fun b G hb ho => args1 (zB hLo 10 rfl HS48.1 rfl (hb 10 (by rfl)))) (fun w hw => (by have hq := risuser_calls (((t).mem (i)).key (k)) w hks; rw [hr16] at hq; exact hq))) ?_
                  refine zA (zC 12 _ rfl rfl hLo rfl rfl (fun b G hb ho => zE rfl rfl rfl HS48.1 rfl (zB hLo 8 rfl HS48.1 rfl (hb 8 (by rfl))) rfl) (fun b G w hb ho => exec_un rfl (zB hLo 11 rfl HS48.1 rfl (hb 11 (by rfl))) (ru_not _))) ?_
                  refine zA (zC 13 _ rfl rfl hLo rfl rfl (fun b G hb ho => zE rfl rfl rfl HS48.1 rfl (zB hLo 4 rfl HS48.1 rfl (hb 4 (by rfl))) rfl) (fun b G w hb ho => zO rfl (zB hLo 8 rfl HS48.1 rfl (hb 8 (by rfl))) (zB hLo 12 rfl HS48.1 rfl (hb 12 (by rfl))))) ?_
                  refine zA (zC 14 _ rfl rfl hLo rfl rfl (fun _ _ _ _ => rfl) (fun b G w hb ho => zO rfl (zB hLo 4 rfl HS48.1 rfl (hb 4 (by rfl))) (zB hLo 13 rfl HS48.1 rfl (hb 13 (by rfl))))) ?_
                  exact zF
                clear hLo
                intro G a49 w49 hS hH
                have HS49 : Sl a49 78 [(19, .slice (some ⟨gn, 0, none⟩) (7) (7)), (0, .agg (FR () 6 ((t).sc))), (1, .pointer (some ((⟨g1_0, 0, none⟩ : Addr)))), (11, .bool false), (13, .slice ((t).xm) ((t).ml) ((t).cm)), (14, .int .i64 (((t).ml : Int))), (15, .int .i64 ((i : Int))), (16, .bool true), (4, .pointer (some ((⟨g6_2, 0, none⟩ : Addr)))), (20, .int .i64 (7)), (21, .int .i64 ((n : Int))), (22, .bool false), (48, .bool true), (52, .bool false), (55, .slice (((t).mem (i)).xm) (((t).mem (i)).ml) (((t).mem (i)).cm)), (56, .int .i64 ((((t).mem (i)).ml : Int))), (57, .int .i64 ((k : Int))), (58, .bool true), (8, .pointer (some ⟨g48_2, 0, none⟩)), (75, .bool (!r16))] := hS
                have HH49 : Held w7 w49 [⟨g48_2, (), 7, msc (((t).mem (i)).key (k)) (((t).mem (i)).mem (k)), 36⟩] := hH
                clear hS hH HS48 HH48
                refine then_ ?_
                cases r16
                · skip
                  refine wp_cond_true (HS49.get 19 rfl) ?_
                  refine wp_seq ?_
                  have hLo : LOk [(0, 2, .val (.bool false))] := lok (by rfl) (by rfl)
                  refine zK (wE := w7) (sz := 78) (n := 1) [0] [(19, .val (.slice (some ⟨gn, 0, none⟩) (7) (7))), (0, .val (.agg (FR () 6 ((t).sc)))), (1, .val (.pointer (some ((⟨g1_0, 0, none⟩ : Addr))))), (11, .val (.bool false)), (13, .val (.slice ((t).xm) ((t).ml) ((t).cm))), (14, .val (.int .i64 (((t).ml : Int)))), (15, .val (.int .i64 ((i : Int)))), (16, .val (.bool true)), (4, .val (.pointer (some ((⟨g6_2, 0, none⟩ : Addr))))), (20, .val (.int .i64 (7))), (21, .val (.int .i64 ((n : Int)))), (22, .val (.bool false)), (48, .val (.bool true)), (52, .val (.bool false)), (55, .val (.slice (((t).mem (i)).xm) (((t).mem (i)).ml) (((t).mem (i)).cm))), (56, .val (.int .i64 ((((t).mem (i)).ml : Int)))), (57, .val (.int .i64 ((k : Int)))), (58, .val (.bool true)), (8, .val (.pointer (some ⟨g48_2, 0, none⟩))), (75, .val (.bool true)), (2, .val (.bool false))] [(0, 2, .val (.bool false))] [⟨g48_2, none, none, (), 7, msc (((t).mem (i)).key (k)) (((t).mem (i)).mem (k)), msc (((t).mem (i)).key (k)) (((t).mem (i)).mem (k)), 36⟩] rfl (by rfl) HH49 rfl rfl hLo rfl HS49 (slS 0 rfl rfl (slS 1 rfl rfl (slS 2 rfl rfl (slS 3 rfl rfl (slS 4 rfl rfl (slS 5 rfl rfl (slS 6 rfl rfl (slS 7 rfl rfl (slS 8 rfl rfl (slS 9 rfl rfl (slS 10 rfl rfl (slS 11 rfl rfl (slS 12 rfl rfl (slS 13 rfl rfl (slS 14 rfl rfl (slS 15 rfl rfl (slS 16 rfl rfl (slS 17 rfl rfl (slS 18 rfl rfl (slS 19 rfl rfl (slL 0 (d := 0) rfl (trivial)))))))))))))))))))))) ?_ ?_
                  · show ∀ i ∈ [0], _
                    refine zA (zC 0 _ rfl rfl hLo rfl rfl (fun _ _ _ _ => rfl) (fun b G w hb ho => zD (.inr rfl) (rfl))) ?_
                    exact zF
                  clear hLo
                  intro G a50 w50 hS hH
                  have HS50 : Sl a50 78 [(19, .slice (some ⟨gn, 0, none⟩) (7) (7)), (0, .agg (FR () 6 ((t).sc))), (1, .pointer (some ((⟨g1_0, 0, none⟩ : Addr)))), (11, .bool false), (13, .slice ((t).xm) ((t).ml) ((t).cm)), (14, .int .i64 (((t).ml : Int))), (15, .int .i64 ((i : Int))), (16, .bool true), (4, .pointer (some ((⟨g6_2, 0, none⟩ : Addr)))), (20, .int .i64 (7)), (21, .int .i64 ((n : Int))), (22, .bool false), (48, .bool true), (52, .bool false), (55, .slice (((t).mem (i)).xm) (((t).mem (i)).ml) (((t).mem (i)).cm)), (56, .int .i64 ((((t).mem (i)).ml : Int))), (57, .int .i64 ((k : Int))), (58, .bool true), (8, .pointer (some ⟨g48_2, 0, none⟩)), (75, .bool true), (2, .bool false)] := hS
                  have HH50 : Held w7 w50 [⟨g48_2, (), 7, msc (((t).mem (i)).key (k)) (((t).mem (i)).mem (k)), 36⟩] := hH
                  clear hS hH HS49 HH49
                  refine then_ ?_
                  refine wp_ret ?_
                  repeat (first | refine zS ?_ | refine zM ?_)
                  have HH51 := Held.back HH8 HH50
                  exact b_tmp rfl HS50.2.1 (HS50.get 20 rfl) ⟨bool_ret (rvalid_m hlti (memR_t (by
                      have hit : isTab ((t).key (i)) = true := by unfold isTab; simp only [hr4]; try rfl
                      show (!isTab ((t).key (i)) || (!((((t).mem (i)).kind) != 5) && allB (memV zY ((t).key (i)) ((t).mem (i))) ((t).mem (i)).ml)) = _
                      rw [hit]; rw [hr13, allB_no hltk (by show (!(((((t).mem (i)).mem (k)).kind != 2) || (decide ((t).key (i) = k_users) && !zY (((t).mem (i)).key (k))))) = _; simp only [hr15, hr4, hr16]; try rfl)]; rfl))), HH51.1⟩
                · skip
                  refine wp_cond_false (HS49.get 19 rfl) ?_
                  refine wp_skip ?_
                  refine zT ?_
                  refine then_ ?_
                  have hLo : LOk [(0, 76, .val (.int .i64 (((k + 1 : Nat) : Int)))), (1, 57, .val (.int .i64 (((k + 1 : Nat) : Int))))] := lok (by rfl) (by rfl)
                  refine zK (wE := w7) (sz := 78) (n := 2) [0, 1] [(19, .val (.slice (some ⟨gn, 0, none⟩) (7) (7))), (0, .val (.agg (FR () 6 ((t).sc)))), (1, .val (.pointer (some ((⟨g1_0, 0, none⟩ : Addr))))), (11, .val (.bool false)), (13, .val (.slice ((t).xm) ((t).ml) ((t).cm))), (14, .val (.int .i64 (((t).ml : Int)))), (15, .val (.int .i64 ((i : Int)))), (16, .val (.bool true)), (4, .val (.pointer (some ((⟨g6_2, 0, none⟩ : Addr))))), (20, .val (.int .i64 (7))), (21, .val (.int .i64 ((n : Int)))), (22, .val (.bool false)), (48, .val (.bool true)), (52, .val (.bool false)), (55, .val (.slice (((t).mem (i)).xm) (((t).mem (i)).ml) (((t).mem (i)).cm))), (56, .val (.int .i64 ((((t).mem (i)).ml : Int)))), (58, .val (.bool true)), (8, .val (.pointer (some ⟨g48_2, 0, none⟩))), (75, .val (.bool false)), (57, .val (.int .i64 (((k + 1 : Nat) : Int))))] [(0, 76, .val (.int .i64 (((k + 1 : Nat) : Int)))), (1, 57, .val (.int .i64 (((k + 1 : Nat) : Int))))] [⟨g48_2, none, none, (), 7, msc (((t).mem (i)).key (k)) (((t).mem (i)).mem (k)), msc (((t).mem (i)).key (k)) (((t).mem (i)).mem (k)), 36⟩] rfl (by rfl) HH49 rfl rfl hLo rfl HS49 (slS 0 rfl rfl (slS 1 rfl rfl (slS 2 rfl rfl (slS 3 rfl rfl (slS 4 rfl rfl (slS 5 rfl rfl (slS 6 rfl rfl (slS 7 rfl rfl (slS 8 rfl rfl (slS 9 rfl rfl (slS 10 rfl rfl (slS 11 rfl rfl (slS 12 rfl rfl (slS 13 rfl rfl (slS 14 rfl rfl (slS 15 rfl rfl (slS 17 rfl rfl (slS 18 rfl rfl (slS 19 rfl rfl (slL 1 (d := 1) rfl (trivial))))))))))))))))))))) ?_ ?_
                  · show ∀ i ∈ [0, 1], _
                    refine zA (zC 0 _ rfl rfl hLo rfl rfl (fun _ _ _ _ => rfl) (fun b G w hb ho => zJ rfl (ev_pre hLo 1 rfl (ho 1 (by rfl)) (HS49.get 16 rfl)) (rfl) (rb_add (w_nat (by omega) (by omega)) _ _ _))) ?_
                    refine zA (zC 1 _ rfl rfl hLo rfl rfl (fun _ _ _ _ => rfl) (fun b G w hb ho => zD (.inl rfl) (zB hLo 0 rfl HS49.1 rfl (hb 0 (by rfl))))) ?_
                    exact zF
                  clear hLo
                  intro G a52 w52 hS hH
                  have HS52 : Sl a52 78 [(19, .slice (some ⟨gn, 0, none⟩) (7) (7)), (0, .agg (FR () 6 ((t).sc))), (1, .pointer (some ((⟨g1_0, 0, none⟩ : Addr)))), (11, .bool false), (13, .slice ((t).xm) ((t).ml) ((t).cm)), (14, .int .i64 (((t).ml : Int))), (15, .int .i64 ((i : Int))), (16, .bool true), (4, .pointer (some ((⟨g6_2, 0, none⟩ : Addr)))), (20, .int .i64 (7)), (21, .int .i64 ((n : Int))), (22, .bool false), (48, .bool true), (52, .bool false), (55, .slice (((t).mem (i)).xm) (((t).mem (i)).ml) (((t).mem (i)).cm)), (56, .int .i64 ((((t).mem (i)).ml : Int))), (58, .bool true), (8, .pointer (some ⟨g48_2, 0, none⟩)), (75, .bool false), (57, .int .i64 (((k + 1 : Nat) : Int)))] := hS
                  have HH52 : Held w7 w52 [⟨g48_2, (), 7, msc (((t).mem (i)).key (k)) (((t).mem (i)).mem (k)), 36⟩] := hH
                  clear hS hH HS49 HH49
                  refine then_ ?_
                  have hSq2' : Sl _ 78 [(19, .slice (some ⟨gn, 0, none⟩) (7) (7)), (0, .agg (FR () 6 ((t).sc))), (1, .pointer (some ((⟨g1_0, 0, none⟩ : Addr)))), (11, .bool false), (13, .slice ((t).xm) ((t).ml) ((t).cm)), (14, .int .i64 (((t).ml : Int))), (15, .int .i64 ((i : Int))), (16, .bool true), (4, .pointer (some ((⟨g6_2, 0, none⟩ : Addr)))), (20, .int .i64 (7)), (21, .int .i64 ((n : Int))), (22, .bool false), (48, .bool true), (52, .bool false), (55, .slice (((t).mem (i)).xm) (((t).mem (i)).ml) (((t).mem (i)).cm)), (56, .int .i64 ((((t).mem (i)).ml : Int))), (57, .int .i64 (((k + 1 : Nat) : Int)))] := sl_keep HS52 [0, 1, 2, 3, 4, 5, 6, 7, 8, 9, 10, 11, 12, 13, 14, 15, 19] (by rfl)
                  have hHq2' : Held w7 _ [] := held_keep HH52 0 rfl
                  exact ⟨⟨k + 1, by omega, allB_step hpk ((by show (!(((((t).mem (i)).mem (k)).kind != 2) || (decide ((t).key (i) = k_users) && !zY (((t).mem (i)).key (k))))) = _; simp only [hr15, hr4, hr16]; try rfl)), hSq2', hHq2'⟩, by rw [(hSq2'.get 16 rfl)]; show ((t).mem (i)).ml - (((k + 1 : Nat) : Int)).toNat < ((t).mem (i)).ml - k; omega⟩
              · skip
                refine wp_seq ?_
                have hLo : LOk [(0, 61, .val (.pointer (some ⟨g48_2, 1, none⟩))), (1, 62, .val (.pointer (some ⟨g48_2, 1, none⟩))), (2, 63, .val (.int .i64 ((((t).mem (i)).mem (k)).kind))), (3, 64, .val (.bool true)), (4, 65, .val (.bool true)), (5, 66, .val (undef)), (6, 67, .val (undef)), (7, 68, .val (undef)), (8, 69, .val (undef)), (9, 70, .val (undef)), (10, 71, .val (undef)), (11, 72, .val (undef)), (12, 73, .val (undef)), (13, 74, .val (undef)), (14, 75, .val (.bool true))] := lok (by rfl) (by rfl)
                refine zK (wE := w7) (sz := 78) (n := 15) [0, 1, 3, 7, 15, 31, 63, 127, 255, 511, 1023, 2047, 4095, 8191, 16383] [(19, .val (.slice (some ⟨gn, 0, none⟩) (7) (7))), (0, .val (.agg (FR () 6 ((t).sc)))), (1, .val (.pointer (some ((⟨g1_0, 0, none⟩ : Addr))))), (11, .val (.bool false)), (13, .val (.slice ((t).xm) ((t).ml) ((t).cm))), (14, .val (.int .i64 (((t).ml : Int)))), (15, .val (.int .i64 ((i : Int)))), (16, .val (.bool true)), (4, .val (.pointer (some ((⟨g6_2, 0, none⟩ : Addr))))), (20, .val (.int .i64 (7))), (21, .val (.int .i64 ((n : Int)))), (22, .val (.bool false)), (48, .val (.bool true)), (52, .val (.bool false)), (55, .val (.slice (((t).mem (i)).xm) (((t).mem (i)).ml) (((t).mem (i)).cm))), (56, .val (.int .i64 ((((t).mem (i)).ml : Int)))), (57, .val (.int .i64 ((k : Int)))), (58, .val (.bool true)), (8, .val (.pointer (some ⟨g48_2, 0, none⟩))), (75, .val (.bool true))] [(0, 61, .val (.pointer (some ⟨g48_2, 1, none⟩))), (1, 62, .val (.pointer (some ⟨g48_2, 1, none⟩))), (2, 63, .val (.int .i64 ((((t).mem (i)).mem (k)).kind))), (3, 64, .val (.bool true)), (4, 65, .val (.bool true)), (5, 66, .val (undef)), (6, 67, .val (undef)), (7, 68, .val (undef)), (8, 69, .val (undef)), (9, 70, .val (undef)), (10, 71, .val (undef)), (11, 72, .val (undef)), (12, 73, .val (undef)), (13, 74, .val (undef)), (14, 75, .val (.bool true))] [⟨g48_2, none, none, (), 7, msc (((t).mem (i)).key (k)) (((t).mem (i)).mem (k)), msc (((t).mem (i)).key (k)) (((t).mem (i)).mem (k)), 36⟩] rfl (by rfl) HH48 rfl rfl hLo rfl HS48 (slS 0 rfl rfl (slS 1 rfl rfl (slS 2 rfl rfl (slS 3 rfl rfl (slS 4 rfl rfl (slS 5 rfl rfl (slS 6 rfl rfl (slS 7 rfl rfl (slS 8 rfl rfl (slS 9 rfl rfl (slS 10 rfl rfl (slS 11 rfl rfl (slS 12 rfl rfl (slS 13 rfl rfl (slS 14 rfl rfl (slS 15 rfl rfl (slS 16 rfl rfl (slS 17 rfl rfl (slS 18 rfl rfl (slL 14 (d := 14) rfl (trivial))))))))))))))))))))) ?_ ?_
                · show ∀ i ∈ [0, 1, 2, 3, 4, 5, 6, 7, 8, 9, 10, 11, 12, 13, 14], _
                  refine zA (zC 0 _ rfl rfl hLo rfl rfl (fun _ _ _ _ => rfl) (fun b G w hb ho => zH rfl (zG rfl (HS48.get 18 rfl)) (by kernel_rfl))) ?_
                  refine zA (zC 1 _ rfl rfl hLo rfl rfl (fun _ _ _ _ => rfl) (fun b G w hb ho => zH rfl (zB hLo 0 rfl HS48.1 rfl (hb 0 (by rfl))) (by kernel_rfl))) ?_
                  refine zA (zW 2 0 _ _ rfl rfl rfl hLo rfl rfl (fun _ _ _ _ => rfl) (by rfl) (by rfl) (fun b G w hb ho hr => zP hr (Nat.le_of_ble_eq_true rfl) Tryd.underlying3 rfl rfl (zB hLo 1 rfl HS48.1 rfl (hb 1 (by rfl))))) ?_
                  refine zA (zC 3 _ rfl rfl hLo rfl rfl (fun _ _ _ _ => rfl) (fun b G w hb ho => zJ rfl (zB hLo 2 rfl HS48.1 rfl (hb 2 (by rfl))) (rfl) (rb_neq hr15 _ _ _))) ?_
                  refine zA (zC 4 _ rfl rfl hLo rfl rfl (fun _ _ _ _ => rfl) (fun b G w hb ho => zD (.inl rfl) (zB hLo 3 rfl HS48.1 rfl (hb 3 (by rfl))))) ?_
                  refine zA (zL 5 rfl rfl hLo rfl rfl (fun b G hb ho => zE rfl rfl rfl HS48.1 rfl (zB hLo 4 rfl HS48.1 rfl (hb 4 (by rfl))) rfl)) ?_
                  refine zA (zL 6 rfl rfl hLo rfl rfl (fun b G hb ho => zE rfl rfl rfl HS48.1 rfl (zB hLo 4 rfl HS48.1 rfl (hb 4 (by rfl))) rfl)) ?_
                  refine zA (zL 7 rfl rfl hLo rfl rfl (fun b G hb ho => zE rfl rfl rfl HS48.1 rfl (zB hLo 4 rfl HS48.1 rfl (hb 4 (by rfl))) rfl)) ?_
                  refine zA (zL 8 rfl rfl hLo rfl rfl (fun b G hb ho => zE rfl rfl rfl HS48.1 rfl (zB hLo 4 rfl HS48.1 rfl (hb 4 (by rfl))) rfl)) ?_
                  refine zA (zL 9 rfl rfl hLo rfl rfl (fun b G hb ho => wanted_un rfl rfl rfl HS48.1 rfl (zB hLo 8 rfl HS48.1 rfl (hb 8 (by rfl))))) ?_
                  refine zA (zL 10 rfl rfl hLo rfl rfl (fun b G hb ho => wanted_un rfl rfl rfl HS48.1 rfl (zB hLo 8 rfl HS48.1 rfl (hb 8 (by rfl))))) ?_
                  refine zA (zL 11 rfl rfl hLo rfl rfl (fun b G hb ho => wanted_un rfl rfl rfl HS48.1 rfl (zB hLo 8 rfl HS48.1 rfl (hb 8 (by rfl))))) ?_
                  refine zA (zL 12 rfl rfl hLo rfl rfl (fun b G hb ho => wanted_un rfl rfl rfl HS48.1 rfl (zB hLo 8 rfl HS48.1 rfl (hb 8 (by rfl))))) ?_
                  refine zA (zL 13 rfl rfl hLo rfl rfl (fun b G hb ho => zE rfl rfl rfl HS48.1 rfl (zB hLo 4 rfl HS48.1 rfl (hb 4 (by rfl))) rfl)) ?_
                  refine zA (zC 14 _ rfl rfl hLo rfl rfl (fun _ _ _ _ => rfl) (fun b G w hb ho => zO rfl (zB hLo 4 rfl HS48.1 rfl (hb 4 (by rfl))) (rfl))) ?_
                  exact zF
                clear hLo
                intro G a53 w53 hS hH
                have HS53 : Sl a53 78 [(19, .slice (some ⟨gn, 0, none⟩) (7) (7)), (0, .agg (FR () 6 ((t).sc))), (1, .pointer (some ((⟨g1_0, 0, none⟩ : Addr)))), (11, .bool false), (13, .slice ((t).xm) ((t).ml) ((t).cm)), (14, .int .i64 (((t).ml : Int))), (15, .int .i64 ((i : Int))), (16, .bool true), (4, .pointer (some ((⟨g6_2, 0, none⟩ : Addr)))), (20, .int .i64 (7)), (21, .int .i64 ((n : Int))), (22, .bool false), (48, .bool true), (52, .bool false), (55, .slice (((t).mem (i)).xm) (((t).mem (i)).ml) (((t).mem (i)).cm)), (56, .int .i64 ((((t).mem (i)).ml : Int))), (57, .int .i64 ((k : Int))), (58, .bool true), (8, .pointer (some ⟨g48_2, 0, none⟩)), (75, .bool true)] := hS
                have HH53 : Held w7 w53 [⟨g48_2, (), 7, msc (((t).mem (i)).key (k)) (((t).mem (i)).mem (k)), 36⟩] := hH
                clear hS hH HS48 HH48
                refine then_ ?_
                refine wp_cond_true (HS53.get 19 rfl) ?_
                refine wp_seq ?_
                have hLo : LOk [(0, 2, .val (.bool false))] := lok (by rfl) (by rfl)
                refine zK (wE := w7) (sz := 78) (n := 1) [0] [(19, .val (.slice (some ⟨gn, 0, none⟩) (7) (7))), (0, .val (.agg (FR () 6 ((t).sc)))), (1, .val (.pointer (some ((⟨g1_0, 0, none⟩ : Addr))))), (11, .val (.bool false)), (13, .val (.slice ((t).xm) ((t).ml) ((t).cm))), (14, .val (.int .i64 (((t).ml : Int)))), (15, .val (.int .i64 ((i : Int)))), (16, .val (.bool true)), (4, .val (.pointer (some ((⟨g6_2, 0, none⟩ : Addr))))), (20, .val (.int .i64 (7))), (21, .val (.int .i64 ((n : Int)))), (22, .val (.bool false)), (48, .val (.bool true)), (52, .val (.bool false)), (55, .val (.slice (((t).mem (i)).xm) (((t).mem (i)).ml) (((t).mem (i)).cm))), (56, .val (.int .i64 ((((t).mem (i)).ml : Int)))), (57, .val (.int .i64 ((k : Int)))), (58, .val (.bool true)), (8, .val (.pointer (some ⟨g48_2, 0, none⟩))), (75, .val (.bool true)), (2, .val (.bool false))] [(0, 2, .val (.bool false))] [⟨g48_2, none, none, (), 7, msc (((t).mem (i)).key (k)) (((t).mem (i)).mem (k)), msc (((t).mem (i)).key (k)) (((t).mem (i)).mem (k)), 36⟩] rfl (by rfl) HH53 rfl rfl hLo rfl HS53 (slS 0 rfl rfl (slS 1 rfl rfl (slS 2 rfl rfl (slS 3 rfl rfl (slS 4 rfl rfl (slS 5 rfl rfl (slS 6 rfl rfl (slS 7 rfl rfl (slS 8 rfl rfl (slS 9 rfl rfl (slS 10 rfl rfl (slS 11 rfl rfl (slS 12 rfl rfl (slS 13 rfl rfl (slS 14 rfl rfl (slS 15 rfl rfl (slS 16 rfl rfl (slS 17 rfl rfl (slS 18 rfl rfl (slS 19 rfl rfl (slL 0 (d := 0) rfl (trivial)))))))))))))))))))))) ?_ ?_
                · show ∀ i ∈ [0], _
                  refine zA (zC 0 _ rfl rfl hLo rfl rfl (fun _ _ _ _ => rfl) (fun b G w hb ho => zD (.inr rfl) (rfl))) ?_
                  exact zF
                clear hLo
                intro G a54 w54 hS hH
                have HS54 : Sl a54 78 [(19, .slice (some ⟨gn, 0, none⟩) (7) (7)), (0, .agg (FR () 6 ((t).sc))), (1, .pointer (some ((⟨g1_0, 0, none⟩ : Addr)))), (11, .bool false), (13, .slice ((t).xm) ((t).ml) ((t).cm)), (14, .int .i64 (((t).ml : Int))), (15, .int .i64 ((i : Int))), (16, .bool true), (4, .pointer (some ((⟨g6_2, 0, none⟩ : Addr)))), (20, .int .i64 (7)), (21, .int .i64 ((n : Int))), (22, .bool false), (48, .bool true), (52, .bool false), (55, .slice (((t).mem (i)).xm) (((t).mem (i)).ml) (((t).mem (i)).cm)), (56, .int .i64 ((((t).mem (i)).ml : Int))), (57, .int .i64 ((k : Int))), (58, .bool true), (8, .pointer (some ⟨g48_2, 0, none⟩)), (75, .bool true), (2, .bool false)] := hS
                have HH54 : Held w7 w54 [⟨g48_2, (), 7, msc (((t).mem (i)).key (k)) (((t).mem (i)).mem (k)), 36⟩] := hH
                clear hS hH HS53 HH53
                refine then_ ?_
                refine wp_ret ?_
                repeat (first | refine zS ?_ | refine zM ?_)
                have HH55 := Held.back HH8 HH54
                exact b_tmp rfl HS54.2.1 (HS54.get 20 rfl) ⟨bool_ret (rvalid_m hlti (memR_t (by
                    have hit : isTab ((t).key (i)) = true := by unfold isTab; simp only [hr4]; try rfl
                    show (!isTab ((t).key (i)) || (!((((t).mem (i)).kind) != 5) && allB (memV zY ((t).key (i)) ((t).mem (i))) ((t).mem (i)).ml)) = _
                    rw [hit]; rw [hr13, allB_no hltk (by show (!(((((t).mem (i)).mem (k)).kind != 2) || (decide ((t).key (i) = k_users) && !zY (((t).mem (i)).key (k))))) = _; simp only [hr15, hr4]; try rfl)]; rfl))), HH55.1⟩
          · skip
            refine wp_cond_true (HS43.get 13 rfl) ?_
            refine wp_seq ?_
            have hLo : LOk [(0, 2, .val (.bool false))] := lok (by rfl) (by rfl)
            refine zK (wE := w7) (sz := 78) (n := 1) [0] [(19, .val (.slice (some ⟨gn, 0, none⟩) (7) (7))), (0, .val (.agg (FR () 6 ((t).sc)))), (1, .val (.pointer (some ((⟨g1_0, 0, none⟩ : Addr))))), (11, .val (.bool false)), (13, .val (.slice ((t).xm) ((t).ml) ((t).cm))), (14, .val (.int .i64 (((t).ml : Int)))), (15, .val (.int .i64 ((i : Int)))), (16, .val (.bool true)), (4, .val (.pointer (some ((⟨g6_2, 0, none⟩ : Addr))))), (20, .val (.int .i64 (7))), (21, .val (.int .i64 ((n : Int)))), (22, .val (.bool false)), (48, .val (.bool true)), (52, .val (.bool true)), (2, .val (.bool false))] [(0, 2, .val (.bool false))] [] rfl (by rfl) HH43 rfl rfl hLo rfl HS43 (slS 0 rfl rfl (slS 1 rfl rfl (slS 2 rfl rfl (slS 3 rfl rfl (slS 4 rfl rfl (slS 5 rfl rfl (slS 6 rfl rfl (slS 7 rfl rfl (slS 8 rfl rfl (slS 9 rfl rfl (slS 10 rfl rfl (slS 11 rfl rfl (slS 12 rfl rfl (slS 13 rfl rfl (slL 0 (d := 0) rfl (trivial)))))))))))))))) ?_ ?_
            · show ∀ i ∈ [0], _
              refine zA (zC 0 _ rfl rfl hLo rfl rfl (fun _ _ _ _ => rfl) (fun b G w hb ho => zD (.inr rfl) (rfl))) ?_
              exact zF
            clear hLo
            intro G a56 w56 hS hH
            have HS56 : Sl a56 78 [(19, .slice (some ⟨gn, 0, none⟩) (7) (7)), (0, .agg (FR () 6 ((t).sc))), (1, .pointer (some ((⟨g1_0, 0, none⟩ : Addr)))), (11, .bool false), (13, .slice ((t).xm) ((t).ml) ((t).cm)), (14, .int .i64 (((t).ml : Int))), (15, .int .i64 ((i : Int))), (16, .bool true), (4, .pointer (some ((⟨g6_2, 0, none⟩ : Addr)))), (20, .int .i64 (7)), (21, .int .i64 ((n : Int))), (22, .bool false), (48, .bool true), (52, .bool true), (2, .bool false)] := hS
            have HH56 : Held w7 w56 [] := hH
            clear hS hH HS43 HH43
            refine then_ ?_
            refine wp_ret ?_
            repeat (first | refine zS ?_ | refine zM ?_)
            have HH57 := Held.back HH8 HH56
            exact b_tmp rfl HS56.2.1 (HS56.get 14 rfl) ⟨bool_ret (rvalid_m hlti (memR_t (by
                have hit : isTab ((t).key (i)) = true := by unfold isTab; simp only [hr4]; try rfl
                show (!isTab ((t).key (i)) || (!((((t).mem (i)).kind) != 5) && allB (memV zY ((t).key (i)) ((t).mem (i))) ((t).mem (i)).ml)) = _
                rw [hit]; rw [hr13]; rfl))), HH57.1⟩
      · skip
        have hltn : n < 7 := by have := of_decide_eq_true hr3; omega
        refine wp_cond_true (HS11.get 11 rfl) ?_
        refine wp_skip ?_
        refine then_ ?_
        refine wp_seq ?_
        refine wp_block ?_
        obtain ⟨xn, hxn, hcn⟩ := hNM n hltn
        refine wp_seq ?_
        have hLo : LOk [(0, 23, .val (.pointer (some (xn.add ((n) * 1))))), (1, 24, .val (.string (NM (n)))), (2, 6, .val (.string (NM (n))))] := lok (by rfl) (by rfl)
        refine zK (wE := w7) (sz := 78) (n := 3) [0, 1, 3] [(19, .val (.slice (some ⟨gn, 0, none⟩) (7) (7))), (0, .val (.agg (FR () 6 ((t).sc)))), (1, .val (.pointer (some ((⟨g1_0, 0, none⟩ : Addr))))), (11, .val (.bool false)), (13, .val (.slice ((t).xm) ((t).ml) ((t).cm))), (14, .val (.int .i64 (((t).ml : Int)))), (15, .val (.int .i64 ((i : Int)))), (16, .val (.bool true)), (4, .val (.pointer (some ((⟨g6_2, 0, none⟩ : Addr))))), (20, .val (.int .i64 (7))), (21, .val (.int .i64 ((n : Int)))), (22, .val (.bool true)), (6, .val (.string (NM (n))))] [(0, 23, .val (.pointer (some (xn.add ((n) * 1))))), (1, 24, .val (.string (NM (n)))), (2, 6, .val (.string (NM (n))))] [] rfl (by rfl) HH11 rfl rfl hLo rfl HS11 (slS 0 rfl rfl (slS 1 rfl rfl (slS 2 rfl rfl (slS 3 rfl rfl (slS 4 rfl rfl (slS 5 rfl rfl (slS 6 rfl rfl (slS 7 rfl rfl (slS 8 rfl rfl (slS 9 rfl rfl (slS 10 rfl rfl (slS 11 rfl rfl (slL 2 (d := 2) rfl (trivial)))))))))))))) ?_ ?_
        · show ∀ i ∈ [0, 1, 2], _
          refine zA (zC 0 _ rfl rfl hLo rfl rfl (fun _ _ _ _ => rfl) (fun b G w hb ho => zU rfl (zG rfl (HS11.get 0 rfl)) (zG rfl (HS11.get 10 rfl)) (index_sl Tryd.underlying32 (by kernel_rfl) hxn hltn _))) ?_
          refine zA (st_at1 1 (xn.add ((n) * 1)) _ rfl rfl rfl (fun _ _ _ _ => rfl) hLo rfl rfl Tryd.underlying9 rfl (hcn) (fun b G hb ho => zB hLo 0 rfl HS11.1 rfl (hb 0 (by rfl)))) ?_
          refine zA (zC 2 _ rfl rfl hLo rfl rfl (fun _ _ _ _ => rfl) (fun b G w hb ho => zD (.inr rfl) (zB hLo 1 rfl HS11.1 rfl (hb 1 (by rfl))))) ?_
          exact zF
        clear hLo
        intro G a58 w58 hS hH
        have HS58 : Sl a58 78 [(19, .slice (some ⟨gn, 0, none⟩) (7) (7)), (0, .agg (FR () 6 ((t).sc))), (1, .pointer (some ((⟨g1_0, 0, none⟩ : Addr)))), (11, .bool false), (13, .slice ((t).xm) ((t).ml) ((t).cm)), (14, .int .i64 (((t).ml : Int))), (15, .int .i64 ((i : Int))), (16, .bool true), (4, .pointer (some ((⟨g6_2, 0, none⟩ : Addr)))), (20, .int .i64 (7)), (21, .int .i64 ((n : Int))), (22, .bool true), (6, .string (NM (n)))] := hS
        have HH58 : Held w7 w58 [] := hH
        clear hS hH HS11 HH11
        refine then_ ?_
        obtain ⟨r17, hr17⟩ : ∃ r : Bool, (decide (((t).key (i) : ByteArray) = NM (n))) = r := ⟨_, rfl⟩
        cases r17
        · skip
          refine wp_seq ?_
          have hLo : LOk [(0, 25, .val (.pointer (some ((⟨g6_2, 0, none⟩ : Addr))))), (1, 26, .val (.string ((t).key (i)))), (2, 27, .val (.string (NM (n)))), (3, 28, .val (.bool false)), (4, 29, .val (.bool false)), (5, 30, .val (undef)), (6, 31, .val (undef)), (7, 32, .val (undef)), (8, 33, .val (undef)), (9, 34, .val (.bool false))] := lok (by rfl) (by rfl)
          refine zK (wE := w7) (sz := 78) (n := 10) [0, 1, 3, 7, 15, 31, 63, 127, 255, 511] [(19, .val (.slice (some ⟨gn, 0, none⟩) (7) (7))), (0, .val (.agg (FR () 6 ((t).sc)))), (1, .val (.pointer (some ((⟨g1_0, 0, none⟩ : Addr))))), (11, .val (.bool false)), (13, .val (.slice ((t).xm) ((t).ml) ((t).cm))), (14, .val (.int .i64 (((t).ml : Int)))), (15, .val (.int .i64 ((i : Int)))), (16, .val (.bool true)), (4, .val (.pointer (some ((⟨g6_2, 0, none⟩ : Addr))))), (20, .val (.int .i64 (7))), (21, .val (.int .i64 ((n : Int)))), (22, .val (.bool true)), (6, .val (.string (NM (n)))), (34, .val (.bool false))] [(0, 25, .val (.pointer (some ((⟨g6_2, 0, none⟩ : Addr))))), (1, 26, .val (.string ((t).key (i)))), (2, 27, .val (.string (NM (n)))), (3, 28, .val (.bool false)), (4, 29, .val (.bool false)), (5, 30, .val (undef)), (6, 31, .val (undef)), (7, 32, .val (undef)), (8, 33, .val (undef)), (9, 34, .val (.bool false))] [] rfl (by rfl) HH58 rfl rfl hLo rfl HS58 (slS 0 rfl rfl (slS 1 rfl rfl (slS 2 rfl rfl (slS 3 rfl rfl (slS 4 rfl rfl (slS 5 rfl rfl (slS 6 rfl rfl (slS 7 rfl rfl (slS 8 rfl rfl (slS 9 rfl rfl (slS 10 rfl rfl (slS 11 rfl rfl (slS 12 rfl rfl (slL 9 (d := 9) rfl (trivial))))))))))))))) ?_ ?_
          · show ∀ i ∈ [0, 1, 2, 3, 4, 5, 6, 7, 8, 9], _
            refine zA (zC 0 _ rfl rfl hLo rfl rfl (fun _ _ _ _ => rfl) (fun b G w hb ho => zH rfl (zG rfl (HS58.get 8 rfl)) (by kernel_rfl))) ?_
            refine zA (st_at1 1 ((⟨g6_2, 0, none⟩ : Addr)) _ rfl rfl rfl (fun _ _ _ _ => rfl) hLo rfl rfl Tryd.underlying9 rfl (row_at hRow9_1 0 (Nat.le_of_ble_eq_true rfl)) (fun b G hb ho => zB hLo 0 rfl HS58.1 rfl (hb 0 (by rfl)))) ?_
            refine zA (zC 2 _ rfl rfl hLo rfl rfl (fun _ _ _ _ => rfl) (fun b G w hb ho => zD (.inl rfl) (zG rfl (HS58.get 12 rfl)))) ?_
            refine zA (zC 3 _ rfl rfl hLo rfl rfl (fun _ _ _ _ => rfl) (fun b G w hb ho => zJ rfl (zB hLo 1 rfl HS58.1 rfl (hb 1 (by rfl))) (zB hLo 2 rfl HS58.1 rfl (hb 2 (by rfl))) (rb_seql hr17 _ _ _))) ?_
            refine zA (zC 4 _ rfl rfl hLo rfl rfl (fun _ _ _ _ => rfl) (fun b G w hb ho => zD (.inl rfl) (zB hLo 3 rfl HS58.1 rfl (hb 3 (by rfl))))) ?_
            refine zA (zL 5 rfl rfl hLo rfl rfl (fun b G hb ho => zE rfl rfl rfl HS58.1 rfl (zB hLo 4 rfl HS58.1 rfl (hb 4 (by rfl))) rfl)) ?_
            refine zA (zL 6 rfl rfl hLo rfl rfl (fun b G hb ho => zE rfl rfl rfl HS58.1 rfl (zB hLo 4 rfl HS58.1 rfl (hb 4 (by rfl))) rfl)) ?_
            refine zA (zL 7 rfl rfl hLo rfl rfl (fun b G hb ho => zE rfl rfl rfl HS58.1 rfl (zB hLo 4 rfl HS58.1 rfl (hb 4 (by rfl))) rfl)) ?_
            refine zA (zL 8 rfl rfl hLo rfl rfl (fun b G hb ho => zE rfl rfl rfl HS58.1 rfl (zB hLo 4 rfl HS58.1 rfl (hb 4 (by rfl))) rfl)) ?_
            refine zA (zC 9 _ rfl rfl hLo rfl rfl (fun _ _ _ _ => rfl) (fun b G w hb ho => zO rfl (zB hLo 4 rfl HS58.1 rfl (hb 4 (by rfl))) (rfl))) ?_
            exact zF
          clear hLo
          intro G a59 w59 hS hH
          have HS59 : Sl a59 78 [(19, .slice (some ⟨gn, 0, none⟩) (7) (7)), (0, .agg (FR () 6 ((t).sc))), (1, .pointer (some ((⟨g1_0, 0, none⟩ : Addr)))), (11, .bool false), (13, .slice ((t).xm) ((t).ml) ((t).cm)), (14, .int .i64 (((t).ml : Int))), (15, .int .i64 ((i : Int))), (16, .bool true), (4, .pointer (some ((⟨g6_2, 0, none⟩ : Addr)))), (20, .int .i64 (7)), (21, .int .i64 ((n : Int))), (22, .bool true), (6, .string (NM (n))), (34, .bool false)] := hS
          have HH59 : Held w7 w59 [] := hH
          clear hS hH HS58 HH58
          refine then_ ?_
          refine wp_cond_false (HS59.get 13 rfl) ?_
          refine wp_skip ?_
          refine zT ?_
          refine then_ ?_
          have hLo : LOk [(0, 35, .val (.int .i64 (((n + 1 : Nat) : Int)))), (1, 21, .val (.int .i64 (((n + 1 : Nat) : Int))))] := lok (by rfl) (by rfl)
          refine zK (wE := w7) (sz := 78) (n := 2) [0, 1] [(19, .val (.slice (some ⟨gn, 0, none⟩) (7) (7))), (0, .val (.agg (FR () 6 ((t).sc)))), (1, .val (.pointer (some ((⟨g1_0, 0, none⟩ : Addr))))), (11, .val (.bool false)), (13, .val (.slice ((t).xm) ((t).ml) ((t).cm))), (14, .val (.int .i64 (((t).ml : Int)))), (15, .val (.int .i64 ((i : Int)))), (16, .val (.bool true)), (4, .val (.pointer (some ((⟨g6_2, 0, none⟩ : Addr))))), (20, .val (.int .i64 (7))), (22, .val (.bool true)), (6, .val (.string (NM (n)))), (34, .val (.bool false)), (21, .val (.int .i64 (((n + 1 : Nat) : Int))))] [(0, 35, .val (.int .i64 (((n + 1 : Nat) : Int)))), (1, 21, .val (.int .i64 (((n + 1 : Nat) : Int))))] [] rfl (by rfl) HH59 rfl rfl hLo rfl HS59 (slS 0 rfl rfl (slS 1 rfl rfl (slS 2 rfl rfl (slS 3 rfl rfl (slS 4 rfl rfl (slS 5 rfl rfl (slS 6 rfl rfl (slS 7 rfl rfl (slS 8 rfl rfl (slS 9 rfl rfl (slS 11 rfl rfl (slS 12 rfl rfl (slS 13 rfl rfl (slL 1 (d := 1) rfl (trivial))))))))))))))) ?_ ?_
          · show ∀ i ∈ [0, 1], _
            refine zA (zC 0 _ rfl rfl hLo rfl rfl (fun _ _ _ _ => rfl) (fun b G w hb ho => zJ rfl (ev_pre hLo 1 rfl (ho 1 (by rfl)) (HS59.get 10 rfl)) (rfl) (rb_add (w_nat (by omega) (by omega)) _ _ _))) ?_
            refine zA (zC 1 _ rfl rfl hLo rfl rfl (fun _ _ _ _ => rfl) (fun b G w hb ho => zD (.inl rfl) (zB hLo 0 rfl HS59.1 rfl (hb 0 (by rfl))))) ?_
            exact zF
          clear hLo
          intro G a60 w60 hS hH
          have HS60 : Sl a60 78 [(19, .slice (some ⟨gn, 0, none⟩) (7) (7)), (0, .agg (FR () 6 ((t).sc))), (1, .pointer (some ((⟨g1_0, 0, none⟩ : Addr)))), (11, .bool false), (13, .slice ((t).xm) ((t).ml) ((t).cm)), (14, .int .i64 (((t).ml : Int))), (15, .int .i64 ((i : Int))), (16, .bool true), (4, .pointer (some ((⟨g6_2, 0, none⟩ : Addr)))), (20, .int .i64 (7)), (22, .bool true), (6, .string (NM (n))), (34, .bool false), (21, .int .i64 (((n + 1 : Nat) : Int)))] := hS
          have HH60 : Held w7 w60 [] := hH
          clear hS hH HS59 HH59
          refine then_ ?_
          have hSq1' : Sl _ 78 [(19, .slice (some ⟨gn, 0, none⟩) (7) (7)), (0, .agg (FR () 6 ((t).sc))), (1, .pointer (some ((⟨g1_0, 0, none⟩ : Addr)))), (11, .bool false), (13, .slice ((t).xm) ((t).ml) ((t).cm)), (14, .int .i64 (((t).ml : Int))), (15, .int .i64 ((i : Int))), (16, .bool true), (4, .pointer (some ((⟨g6_2, 0, none⟩ : Addr)))), (20, .int .i64 (7)), (21, .int .i64 (((n + 1 : Nat) : Int)))] := sl_keep HS60 [0, 1, 2, 3, 4, 5, 6, 7, 8, 9, 13] (by rfl)
          have hHq1' : Held w7 _ [] := held_keep HH60 0 rfl
          exact ⟨⟨n + 1, by omega, allB_step hpn ((by show (!(decide ((t).key (i) = NM n) && (((t).mem (i)).kind != 2))) = _; rw [hr17]; rfl)), hSq1', hHq1'⟩, by rw [(hSq1'.get 10 rfl)]; show 7 - (((n + 1 : Nat) : Int)).toNat < 7 - n; omega⟩
        · skip
          obtain ⟨r18, hr18⟩ : ∃ r : Bool, (((((t).mem (i)).kind : Int) != 2)) = r := ⟨_, rfl⟩
          refine wp_seq ?_
          have hLo : LOk [(0, 25, .val (.pointer (some ((⟨g6_2, 0, none⟩ : Addr))))), (1, 26, .val (.string ((t).key (i)))), (2, 27, .val (.string (NM (n)))), (3, 28, .val (.bool true)), (4, 29, .val (.bool true)), (5, 30, .val (.pointer (some (((⟨g6_2, 0, none⟩ : Addr)).add 1)))), (6, 31, .val (.pointer (some (((⟨g6_2, 0, none⟩ : Addr)).add 1)))), (7, 32, .val (.int .i64 (((t).mem (i)).kind))), (8, 33, .val (.bool r18)), (9, 34, .val (.bool r18))] := lok (by rfl) (by rfl)
          refine zK (wE := w7) (sz := 78) (n := 10) [0, 1, 3, 7, 15, 31, 63, 127, 255, 511] [(19, .val (.slice (some ⟨gn, 0, none⟩) (7) (7))), (0, .val (.agg (FR () 6 ((t).sc)))), (1, .val (.pointer (some ((⟨g1_0, 0, none⟩ : Addr))))), (11, .val (.bool false)), (13, .val (.slice ((t).xm) ((t).ml) ((t).cm))), (14, .val (.int .i64 (((t).ml : Int)))), (15, .val (.int .i64 ((i : Int)))), (16, .val (.bool true)), (4, .val (.pointer (some ((⟨g6_2, 0, none⟩ : Addr))))), (20, .val (.int .i64 (7))), (21, .val (.int .i64 ((n : Int)))), (22, .val (.bool true)), (6, .val (.string (NM (n)))), (34, .val (.bool r18))] [(0, 25, .val (.pointer (some ((⟨g6_2, 0, none⟩ : Addr))))), (1, 26, .val (.string ((t).key (i)))), (2, 27, .val (.string (NM (n)))), (3, 28, .val (.bool true)), (4, 29, .val (.bool true)), (5, 30, .val (.pointer (some (((⟨g6_2, 0, none⟩ : Addr)).add 1)))), (6, 31, .val (.pointer (some (((⟨g6_2, 0, none⟩ : Addr)).add 1)))), (7, 32, .val (.int .i64 (((t).mem (i)).kind))), (8, 33, .val (.bool r18)), (9, 34, .val (.bool r18))] [] rfl (by rfl) HH58 rfl rfl hLo rfl HS58 (slS 0 rfl rfl (slS 1 rfl rfl (slS 2 rfl rfl (slS 3 rfl rfl (slS 4 rfl rfl (slS 5 rfl rfl (slS 6 rfl rfl (slS 7 rfl rfl (slS 8 rfl rfl (slS 9 rfl rfl (slS 10 rfl rfl (slS 11 rfl rfl (slS 12 rfl rfl (slL 9 (d := 9) rfl (trivial))))))))))))))) ?_ ?_
          · show ∀ i ∈ [0, 1, 2, 3, 4, 5, 6, 7, 8, 9], _
            refine zA (zC 0 _ rfl rfl hLo rfl rfl (fun _ _ _ _ => rfl) (fun b G w hb ho => zH rfl (zG rfl (HS58.get 8 rfl)) (by kernel_rfl))) ?_
            refine zA (st_at1 1 ((⟨g6_2, 0, none⟩ : Addr)) _ rfl rfl rfl (fun _ _ _ _ => rfl) hLo rfl rfl Tryd.underlying9 rfl (row_at hRow9_1 0 (Nat.le_of_ble_eq_true rfl)) (fun b G hb ho => zB hLo 0 rfl HS58.1 rfl (hb 0 (by rfl)))) ?_
            refine zA (zC 2 _ rfl rfl hLo rfl rfl (fun _ _ _ _ => rfl) (fun b G w hb ho => zD (.inl rfl) (zG rfl (HS58.get 12 rfl)))) ?_
            refine zA (zC 3 _ rfl rfl hLo rfl rfl (fun _ _ _ _ => rfl) (fun b G w hb ho => zJ rfl (zB hLo 1 rfl HS58.1 rfl (hb 1 (by rfl))) (zB hLo 2 rfl HS58.1 rfl (hb 2 (by rfl))) (rb_seql hr17 _ _ _))) ?_
            refine zA (zC 4 _ rfl rfl hLo rfl rfl (fun _ _ _ _ => rfl) (fun b G w hb ho => zD (.inl rfl) (zB hLo 3 rfl HS58.1 rfl (hb 3 (by rfl))))) ?_
            refine zA (zC 5 _ rfl rfl hLo rfl rfl (fun b G hb ho => zE rfl rfl rfl HS58.1 rfl (zB hLo 4 rfl HS58.1 rfl (hb 4 (by rfl))) rfl) (fun b G w hb ho => zH rfl (zG rfl (HS58.get 8 rfl)) (by kernel_rfl))) ?_
            refine zA (zC 6 _ rfl rfl hLo rfl rfl (fun b G hb ho => zE rfl rfl rfl HS58.1 rfl (zB hLo 4 rfl HS58.1 rfl (hb 4 (by rfl))) rfl) (fun b G w hb ho => zH rfl (zB hLo 5 rfl HS58.1 rfl (hb 5 (by rfl))) (by kernel_rfl))) ?_
            refine zA (st_at1 7 (((⟨g6_2, 0, none⟩ : Addr)).add 1) _ rfl rfl rfl (fun b G hb ho => zE rfl rfl rfl HS58.1 rfl (zB hLo 4 rfl HS58.1 rfl (hb 4 (by rfl))) rfl) hLo rfl rfl Tryd.underlying3 rfl (row_at hRow9_1 1 (Nat.le_of_ble_eq_true rfl)) (fun b G hb ho => zB hLo 6 rfl HS58.1 rfl (hb 6 (by rfl)))) ?_
            refine zA (zC 8 _ rfl rfl hLo rfl rfl (fun b G hb ho => zE rfl rfl rfl HS58.1 rfl (zB hLo 4 rfl HS58.1 rfl (hb 4 (by rfl))) rfl) (fun b G w hb ho => zJ rfl (zB hLo 7 rfl HS58.1 rfl (hb 7 (by rfl))) (rfl) (rb_neq hr18 _ _ _))) ?_
            refine zA (zC 9 _ rfl rfl hLo rfl rfl (fun _ _ _ _ => rfl) (fun b G w hb ho => zO rfl (zB hLo 4 rfl HS58.1 rfl (hb 4 (by rfl))) (zB hLo 8 rfl HS58.1 rfl (hb 8 (by rfl))))) ?_
            exact zF
          clear hLo
          intro G a61 w61 hS hH
          have HS61 : Sl a61 78 [(19, .slice (some ⟨gn, 0, none⟩) (7) (7)), (0, .agg (FR () 6 ((t).sc))), (1, .pointer (some ((⟨g1_0, 0, none⟩ : Addr)))), (11, .bool false), (13, .slice ((t).xm) ((t).ml) ((t).cm)), (14, .int .i64 (((t).ml : Int))), (15, .int .i64 ((i : Int))), (16, .bool true), (4, .pointer (some ((⟨g6_2, 0, none⟩ : Addr)))), (20, .int .i64 (7)), (21, .int .i64 ((n : Int))), (22, .bool true), (6, .string (NM (n))), (34, .bool r18)] := hS
          have HH61 : Held w7 w61 [] := hH
          clear hS hH HS58 HH58
          refine then_ ?_
          cases r18
          · skip
            refine wp_cond_false (HS61.get 13 rfl) ?_
            refine wp_skip ?_
            refine zT ?_
            refine then_ ?_
            have hLo : LOk [(0, 35, .val (.int .i64 (((n + 1 : Nat) : Int)))), (1, 21, .val (.int .i64 (((n + 1 : Nat) : Int))))] := lok (by rfl) (by rfl)
            refine zK (wE := w7) (sz := 78) (n := 2) [0, 1] [(19, .val (.slice (some ⟨gn, 0, none⟩) (7) (7))), (0, .val (.agg (FR () 6 ((t).sc)))), (1, .val (.pointer (some ((⟨g1_0, 0, none⟩ : Addr))))), (11, .val (.bool false)), (13, .val (.slice ((t).xm) ((t).ml) ((t).cm))), (14, .val (.int .i64 (((t).ml : Int)))), (15, .val (.int .i64 ((i : Int)))), (16, .val (.bool true)), (4, .val (.pointer (some ((⟨g6_2, 0, none⟩ : Addr))))), (20, .val (.int .i64 (7))), (22, .val (.bool true)), (6, .val (.string (NM (n)))), (34, .val (.bool false)), (21, .val (.int .i64 (((n + 1 : Nat) : Int))))] [(0, 35, .val (.int .i64 (((n + 1 : Nat) : Int)))), (1, 21, .val (.int .i64 (((n + 1 : Nat) : Int))))] [] rfl (by rfl) HH61 rfl rfl hLo rfl HS61 (slS 0 rfl rfl (slS 1 rfl rfl (slS 2 rfl rfl (slS 3 rfl rfl (slS 4 rfl rfl (slS 5 rfl rfl (slS 6 rfl rfl (slS 7 rfl rfl (slS 8 rfl rfl (slS 9 rfl rfl (slS 11 rfl rfl (slS 12 rfl rfl (slS 13 rfl rfl (slL 1 (d := 1) rfl (trivial))))))))))))))) ?_ ?_
            · show ∀ i ∈ [0, 1], _
              refine zA (zC 0 _ rfl rfl hLo rfl rfl (fun _ _ _ _ => rfl) (fun b G w hb ho => zJ rfl (ev_pre hLo 1 rfl (ho 1 (by rfl)) (HS61.get 10 rfl)) (rfl) (rb_add (w_nat (by omega) (by omega)) _ _ _))) ?_
              refine zA (zC 1 _ rfl rfl hLo rfl rfl (fun _ _ _ _ => rfl) (fun b G w hb ho => zD (.inl rfl) (zB hLo 0 rfl HS61.1 rfl (hb 0 (by rfl))))) ?_
              exact zF
            clear hLo
            intro G a62 w62 hS hH
            have HS62 : Sl a62 78 [(19, .slice (some ⟨gn, 0, none⟩) (7) (7)), (0, .agg (FR () 6 ((t).sc))), (1, .pointer (some ((⟨g1_0, 0, none⟩ : Addr)))), (11, .bool false), (13, .slice ((t).xm) ((t).ml) ((t).cm)), (14, .int .i64 (((t).ml : Int))), (15, .int .i64 ((i : Int))), (16, .bool true), (4, .pointer (some ((⟨g6_2, 0, none⟩ : Addr)))), (20, .int .i64 (7)), (22, .bool true), (6, .string (NM (n))), (34, .bool false), (21, .int .i64 (((n + 1 : Nat) : Int)))] := hS
            have HH62 : Held w7 w62 [] := hH
            clear hS hH HS61 HH61
            refine then_ ?_
            have hSq1' : Sl _ 78 [(19, .slice (some ⟨gn, 0, none⟩) (7) (7)), (0, .agg (FR () 6 ((t).sc))), (1, .pointer (some ((⟨g1_0, 0, none⟩ : Addr)))), (11, .bool false), (13, .slice ((t).xm) ((t).ml) ((t).cm)), (14, .int .i64 (((t).ml : Int))), (15, .int .i64 ((i : Int))), (16, .bool true), (4, .pointer (some ((⟨g6_2, 0, none⟩ : Addr)))), (20, .int .i64 (7)), (21, .int .i64 (((n + 1 : Nat) : Int)))] := sl_keep HS62 [0, 1, 2, 3, 4, 5, 6, 7, 8, 9, 13] (by rfl)
            have hHq1' : Held w7 _ [] := held_keep HH62 0 rfl
            exact ⟨⟨n + 1, by omega, allB_step hpn ((by show (!(decide ((t).key (i) = NM n) && (((t).mem (i)).kind != 2))) = _; rw [hr17, hr18]; rfl)), hSq1', hHq1'⟩, by rw [(hSq1'.get 10 rfl)]; show 7 - (((n + 1 : Nat) : Int)).toNat < 7 - n; omega⟩
          · skip
            refine wp_cond_true (HS61.get 13 rfl) ?_
            refine wp_seq ?_
            have hLo : LOk [(0, 2, .val (.bool false))] := lok (by rfl) (by rfl)
            refine zK (wE := w7) (sz := 78) (n := 1) [0] [(19, .val (.slice (some ⟨gn, 0, none⟩) (7) (7))), (0, .val (.agg (FR () 6 ((t).sc)))), (1, .val (.pointer (some ((⟨g1_0, 0, none⟩ : Addr))))), (11, .val (.bool false)), (13, .val (.slice ((t).xm) ((t).ml) ((t).cm))), (14, .val (.int .i64 (((t).ml : Int)))), (15, .val (.int .i64 ((i : Int)))), (16, .val (.bool true)), (4, .val (.pointer (some ((⟨g6_2, 0, none⟩ : Addr))))), (20, .val (.int .i64 (7))), (21, .val (.int .i64 ((n : Int)))), (22, .val (.bool true)), (6, .val (.string (NM (n)))), (34, .val (.bool true)), (2, .val (.bool false))] [(0, 2, .val (.bool false))] [] rfl (by rfl) HH61 rfl rfl hLo rfl HS61 (slS 0 rfl rfl (slS 1 rfl rfl (slS 2 rfl rfl (slS 3 rfl rfl (slS 4 rfl rfl (slS 5 rfl rfl (slS 6 rfl rfl (slS 7 rfl rfl (slS 8 rfl rfl (slS 9 rfl rfl (slS 10 rfl rfl (slS 11 rfl rfl (slS 12 rfl rfl (slS 13 rfl rfl (slL 0 (d := 0) rfl (trivial)))))))))))))))) ?_ ?_
            · show ∀ i ∈ [0], _
              refine zA (zC 0 _ rfl rfl hLo rfl rfl (fun _ _ _ _ => rfl) (fun b G w hb ho => zD (.inr rfl) (rfl))) ?_
              exact zF
            clear hLo
            intro G a63 w63 hS hH
            have HS63 : Sl a63 78 [(19, .slice (some ⟨gn, 0, none⟩) (7) (7)), (0, .agg (FR () 6 ((t).sc))), (1, .pointer (some ((⟨g1_0, 0, none⟩ : Addr)))), (11, .bool false), (13, .slice ((t).xm) ((t).ml) ((t).cm)), (14, .int .i64 (((t).ml : Int))), (15, .int .i64 ((i : Int))), (16, .bool true), (4, .pointer (some ((⟨g6_2, 0, none⟩ : Addr)))), (20, .int .i64 (7)), (21, .int .i64 ((n : Int))), (22, .bool true), (6, .string (NM (n))), (34, .bool true), (2, .bool false)] := hS
            have HH63 : Held w7 w63 [] := hH
            clear hS hH HS61 HH61
            refine then_ ?_
            refine wp_ret ?_
            repeat (first | refine zS ?_ | refine zM ?_)
            have HH64 := Held.back HH8 HH63
            exact b_tmp rfl HS63.2.1 (HS63.get 14 rfl) ⟨bool_ret (rvalid_m hlti (memR_n hltn (by show (!(decide ((t).key (i) = NM n) && (((t).mem (i)).kind != 2))) = _; rw [hr17, hr18]; rfl))), HH64.1⟩
  · skip
    refine wp_cond_true (HS2.get 3 rfl) ?_
    refine wp_seq ?_
    have hLo : LOk [(0, 2, .val (.bool false))] := lok (by rfl) (by rfl)
    refine zK (wE := w) (sz := 78) (n := 1) [0] [(0, .val (.agg (FR () 6 ((t).sc)))), (1, .val (.pointer (some ⟨g1_0, 0, none⟩))), (11, .val (.bool true)), (2, .val (.bool false))] [(0, 2, .val (.bool false))] [⟨g1_0, none, none, (), 6, (t).sc, (t).sc, 25⟩] rfl (by rfl) HH2 rfl rfl hLo rfl HS2 (slS 0 rfl rfl (slS 1 rfl rfl (slS 3 rfl rfl (slL 0 (d := 0) rfl (trivial))))) ?_ ?_
    · show ∀ i ∈ [0], _
      refine zA (zC 0 _ rfl rfl hLo rfl rfl (fun _ _ _ _ => rfl) (fun b G w hb ho => zD (.inr rfl) (rfl))) ?_
      exact zF
    clear hLo
    intro G a65 w65 hS hH
    have HS65 : Sl a65 78 [(0, .agg (FR () 6 ((t).sc))), (1, .pointer (some ⟨g1_0, 0, none⟩)), (11, .bool true), (2, .bool false)] := hS
    have HH65 : Held w w65 [⟨g1_0, (), 6, (t).sc, 25⟩] := hH
    clear hS hH HS2 HH2
    refine then_ ?_
    refine wp_ret ?_
    repeat (first | refine zS ?_ | refine zM ?_)
    exact b_tmp rfl HS65.2.1 (HS65.get 3 rfl) ⟨bool_ret (rvalid_k hr1), HH65.1⟩
end Go.Proofs.YtlfplmlehbomlaaDoor.P
end
