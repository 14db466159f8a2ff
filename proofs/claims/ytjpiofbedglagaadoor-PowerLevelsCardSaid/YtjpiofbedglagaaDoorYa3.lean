/- Merged of the texts: Pq, Pr, WSized (trim.py). -/
import Derived.SizedLaws
import Derived.ChangeSlices
import Derived.Test.YtjpiofbedglagaaDoorYa2
section
namespace Go.Proofs.YtjpiofbedglagaaDoor.P
set_option linter.unusedVariables false
set_option linter.unusedSimpArgs false
open Go.RowKit Go.ChangeShapes Go.WideShapes Go.Proofs.YtjpiofbedglagaaDoorW.PrintWords Go.Proofs.YtjpiofbedglagaaDoorW.PrintLast Go.Proofs.YtjpiofbedglagaaDoorW.PrintMore
theorem look_hit2 {K : Nat → ByteArray} {key : ByteArray} {n i : Nat} (hi : i < n) (hl : look K key i = none) (he : decide (K i = key) = true) : look K key n = some i := look_is hi (of_decide_eq_true he) (look_none.1 hl)
theorem look_miss2 {K : Nat → ByteArray} {key : ByteArray} {i : Nat} (hl : look K key i = none) (he : decide (K i = key) = false) : look K key (i + 1) = none := by
  unfold look; rw [hl]; simp only [if_neg (of_decide_eq_false he)]
def nmIx (key : ByteArray) : Int := match look NM key 7 with
  | some k => (k : Int)
  | none => -1
theorem nmIx_some {key : ByteArray} {k : Nat} (h : look NM key 7 = some k) : nmIx key = (k : Int) := by unfold nmIx; rw [h]
theorem nmIx_none {key : ByteArray} (h : look NM key 7 = none) : nmIx key = -1 := by unfold nmIx; rw [h]
theorem els_none {key : ByteArray} (h : look NM key 7 = none) : els key = 0 := by
  have h1 := look_none.1 h
  unfold els
  rw [if_neg fun e => h1 0 (by decide) e.symm, if_neg fun e => h1 3 (by decide) e.symm, if_neg fun e => h1 4 (by decide) e.symm, if_neg fun e => h1 5 (by decide) e.symm]
theorem els_some {key : ByteArray} {k : Nat} (h : look NM key 7 = some k) : els key = LV k := by
  obtain ⟨h1, h2, _⟩ := look_some h
  subst h2
  have : k = 0 ∨ k = 1 ∨ k = 2 ∨ k = 3 ∨ k = 4 ∨ k = 5 ∨ k = 6 := by omega
  rcases this with rfl | rfl | rfl | rfl | rfl | rfl | rfl <;> decide
theorem els_no {key : ByteArray} (h : decide (nmIx key < 0) = true) : els key = 0 := by
  cases e : look NM key 7 with
  | none => exact els_none e
  | some k => rw [nmIx_some e] at h; have := of_decide_eq_true h; omega
theorem els_yes {key : ByteArray} (h : decide (nmIx key < 0) = false) : ∃ k : Nat, k < 7 ∧ nmIx key = (k : Int) ∧ els key = LV k := by
  cases e : look NM key 7 with
  | none => rw [nmIx_none e] at h; have := of_decide_eq_false h; omega
  | some k => exact ⟨k, (look_some e).1, nmIx_some e, els_some e⟩
def ent (i : Nat) : List SC := [.s (NM i), .i .i64 (LV i)]
theorem Tab.at {W : World} {a : Addr} (h : ∀ i, i < 7 → W.cell? (a.add (i * 2)) = some (.string (NM i)) ∧ W.cell? (a.add (i * 2 + 1)) = some (.int .i64 (LV i))) {i : Nat} (hi : i < 7) : ∀ j, j < 2 → W.cell? ((a.add (i * 2)).add j) = some (mkc () (lsc (ent i) j)) := by
  intro j hj
  rw [Go.Deep.add_add]
  match j, hj with
  | 0, _ => exact (h i hi).1
  | 1, _ => exact (h i hi).2
theorem Tab.below {W W' : World} (h : Tab W) (hb : Below W.heap.size W W') : Tab W' := by
  obtain ⟨a, c, h1, h2⟩ := h
  exact ⟨a, c, bel_kept hb _ _ h1, fun i hi => ⟨bel_kept hb _ _ (h2 i hi).1, bel_kept hb _ _ (h2 i hi).2⟩⟩
theorem lev_ret {t : T} {key : ByteArray} {z : Int} (h : (t.tell key).2 = false) (hz : els key = z) : Ending.returned (.int .i64 z) = .returned (.int .i64 ((t.told key).getD (els key))) := by
  rw [T.told_tell, h, ← hz]; rfl
theorem lev_ret2 {t : T} {key : ByteArray} (h : (t.tell key).2 = true) : Ending.returned (.int .i64 (t.tell key).1) = .returned (.int .i64 ((t.told key).getD (els key))) := by
  rw [T.told_tell, h]; rfl
theorem row_str {w : World} {g : Nat} {s : ByteArray} {t : TypeId} (h : Row w g () 1 (lsc [.s s]) t) : w.cell? ⟨g, 0, none⟩ = some (.string s) := h.cell 0 (by decide)
theorem lev1_calls {w : World} {ad : Addr} (a key : ByteArray) (z : Int) (hc : w.cell? ad = some (.string key)) : Calls Tryd.prog 27 #[.agg (FR () 2 (lsc [.s (a), .i .i64 (z)])), .pointer (some (ad))] w fun e w' => e = .returned (.bool (decide (a = key))) ∧ Below w.heap.size w w' := by
  refine enter_ 8 Tryd.func27 rfl rfl (fun a0 hS => ?_)
  have HS0 : Sl a0 8 [(0, .agg (FR () 2 (lsc [.s (a), .i .i64 (z)]))), (1, .pointer (some (ad)))] := hS
  have HH0 : Held w w [] := Held.first w
  clear hS
  refine wp_seq ?_
  have hLo : LOk [(0, 2, .new 0 (fun g => .pointer (some ⟨g, 0, none⟩))), (1, 3, .val (.bool false))] := lok (by rfl) (by rfl)
  refine plain_ (wE := w) (sz := 8) (n := 2) [0, 1] [(0, .val (.agg (FR () 2 (lsc [.s (a), .i .i64 (z)])))), (1, .val (.pointer (some (ad)))), (2, .new 0 (fun g => .pointer (some ⟨g, 0, none⟩))), (3, .val (.bool false))] [(0, 2, .new 0 (fun g => .pointer (some ⟨g, 0, none⟩))), (1, 3, .val (.bool false))] [⟨0, some 0, none, (), 2, lsc [.s (a), .i .i64 (z)], lsc [.s (a), .i .i64 (z)], 48⟩] rfl (by rfl) HH0 rfl rfl hLo rfl HS0 (slS 0 rfl rfl (slS 1 rfl rfl (slL 0 (d := 0) rfl (slL 1 (d := 1) rfl (trivial))))) ?_ ?_
  · show ∀ i ∈ [0, 1], _
    refine steps_cons (st_alloc 0 0 () 2 48 none _ _ rfl rfl (fun _ _ _ _ => rfl) rfl hLo rfl rfl rfl rfl (by rfl) (fun b G w hb ho => exec_box rfl (ev_off rfl (HS0.get 0 rfl)) (by kernel_rfl))) ?_
    refine steps_cons (st_run 1 _ rfl rfl hLo rfl rfl (fun _ _ _ _ => rfl) (fun b G w hb ho => exec_move (.inr rfl) (rfl))) ?_
    exact steps_nil
  clear hLo
  intro G a1 w1 hS hH
  have HS1 : Sl a1 8 [(0, .agg (FR () 2 (lsc [.s (a), .i .i64 (z)]))), (1, .pointer (some (ad))), (2, .pointer (some ⟨(G 0), 0, none⟩)), (3, .bool false)] := hS
  have HH1 : Held w w1 [⟨(G 0), (), 2, lsc [.s (a), .i .i64 (z)], 48⟩] := hH
  clear hS hH HS0 HH0
  generalize G 0 = g1_0 at HS1 HH1
  refine then_ ?_
  obtain ⟨r1, hr1⟩ : ∃ r : Bool, (decide ((a : ByteArray) = key)) = r := ⟨_, rfl⟩
  refine wp_seq ?_
  have hLo : LOk [(0, 4, .val (.pointer (some ⟨g1_0, 0, none⟩))), (1, 5, .val (.string (a))), (2, 6, .val (.string (key))), (3, 7, .val (.bool r1)), (4, 3, .val (.bool r1))] := lok (by rfl) (by rfl)
  refine plain_ (wE := w) (sz := 8) (n := 5) [0, 1, 3, 7, 15] [(0, .val (.agg (FR () 2 (lsc [.s (a), .i .i64 (z)])))), (1, .val (.pointer (some (ad)))), (2, .val (.pointer (some ⟨g1_0, 0, none⟩))), (3, .val (.bool r1))] [(0, 4, .val (.pointer (some ⟨g1_0, 0, none⟩))), (1, 5, .val (.string (a))), (2, 6, .val (.string (key))), (3, 7, .val (.bool r1)), (4, 3, .val (.bool r1))] [⟨g1_0, none, none, (), 2, lsc [.s (a), .i .i64 (z)], lsc [.s (a), .i .i64 (z)], 48⟩] rfl (by rfl) HH1 rfl rfl hLo rfl HS1 (slS 0 rfl rfl (slS 1 rfl rfl (slS 2 rfl rfl (slL 4 (d := 4) rfl (trivial))))) ?_ ?_
  · show ∀ i ∈ [0, 1, 2, 3, 4], _
    refine steps_cons (st_run 0 _ rfl rfl hLo rfl rfl (fun _ _ _ _ => rfl) (fun b G w hb ho => exec_field rfl (ev_off rfl (HS1.get 2 rfl)) (by kernel_rfl))) ?_
    refine steps_cons (st_read 1 0 _ _ rfl rfl rfl hLo rfl rfl (fun _ _ _ _ => rfl) (by rfl) (by rfl) (fun b G w hb ho hr => exec_cell hr (Nat.le_of_ble_eq_true rfl) Tryd.underlying9 rfl rfl (ev_on hLo 0 rfl HS1.1 rfl (hb 0 (by rfl))))) ?_
    refine steps_cons (st_at1 2 (ad) _ rfl rfl rfl (fun _ _ _ _ => rfl) hLo rfl rfl Tryd.underlying9 rfl (hc) (fun b G hb ho => ev_off rfl (HS1.get 1 rfl))) ?_
    refine steps_cons (st_run 3 _ rfl rfl hLo rfl rfl (fun _ _ _ _ => rfl) (fun b G w hb ho => exec_bin rfl (ev_on hLo 1 rfl HS1.1 rfl (hb 1 (by rfl))) (ev_on hLo 2 rfl HS1.1 rfl (hb 2 (by rfl))) (rb_seql hr1 _ _ _))) ?_
    refine steps_cons (st_run 4 _ rfl rfl hLo rfl rfl (fun _ _ _ _ => rfl) (fun b G w hb ho => exec_move (.inr rfl) (ev_on hLo 3 rfl HS1.1 rfl (hb 3 (by rfl))))) ?_
    exact steps_nil
  clear hLo
  intro G a2 w2 hS hH
  have HS2 : Sl a2 8 [(0, .agg (FR () 2 (lsc [.s (a), .i .i64 (z)]))), (1, .pointer (some (ad))), (2, .pointer (some ⟨g1_0, 0, none⟩)), (3, .bool r1)] := hS
  have HH2 : Held w w2 [⟨g1_0, (), 2, lsc [.s (a), .i .i64 (z)], 48⟩] := hH
  clear hS hH HS1 HH1
  refine then_ ?_
  refine wp_ret ?_
  repeat (first | refine then_ret ?_ | refine inBlock_ret' ?_)
  exact b_tmp rfl HS2.2.1 (HS2.get 3 rfl) ⟨by rw [hr1], HH2.1⟩
theorem ixf_calls {w : World} {ba ad : Addr} {c : Nat} (key : ByteArray) (hT : ∀ i, i < 7 → w.cell? (ba.add (i * 2)) = some (.string (NM i)) ∧ w.cell? (ba.add (i * 2 + 1)) = some (.int .i64 (LV i))) (hc : w.cell? ad = some (.string key)) : Calls Tryd.prog 26 #[.slice (some ba) (7) (c), .func (.func 27) #[] #[.pointer (some (ad))]] w fun e w' => e = .returned (.int .i64 (nmIx key)) ∧ Below w.heap.size w w' := by
  refine enter_ 19 Tryd.func26 rfl rfl (fun a0 hS => ?_)
  have HS0 : Sl a0 19 [(0, .slice (some ba) (7) (c)), (1, .func (.func 27) #[] #[.pointer (some (ad))])] := hS
  have HH0 : Held w w [] := Held.first w
  clear hS
  refine wp_seq ?_
  have hLo : LOk [(0, 4, .val (.int .i64 (0)))] := lok (by rfl) (by rfl)
  refine plain_ (wE := w) (sz := 19) (n := 1) [0] [(0, .val (.slice (some ba) (7) (c))), (1, .val (.func (.func 27) #[] #[.pointer (some (ad))])), (4, .val (.int .i64 (0)))] [(0, 4, .val (.int .i64 (0)))] [] rfl (by rfl) HH0 rfl rfl hLo rfl HS0 (slS 0 rfl rfl (slS 1 rfl rfl (slL 0 (d := 0) rfl (trivial)))) ?_ ?_
  · show ∀ i ∈ [0], _
    refine steps_cons (st_run 0 _ rfl rfl hLo rfl rfl (fun _ _ _ _ => rfl) (fun b G w hb ho => exec_move (.inr rfl) (rfl))) ?_
    exact steps_nil
  clear hLo
  intro G a1 w1 hS hH
  have HS1 : Sl a1 19 [(0, .slice (some ba) (7) (c)), (1, .func (.func 27) #[] #[.pointer (some (ad))]), (4, .int .i64 (0))] := hS
  have HH1 : Held w w1 [] := hH
  clear hS hH HS0 HH0
  refine then_ ?_
  refine wp_seq ?_
  refine wp_seq ?_
  have hLo : LOk [(0, 6, .val (.slice (some ba) (7) (c))), (1, 7, .val (.int .i64 (7))), (2, 8, .val (.int .i64 (0)))] := lok (by rfl) (by rfl)
  refine plain_ (wE := w) (sz := 19) (n := 3) [0, 1, 3] [(0, .val (.slice (some ba) (7) (c))), (1, .val (.func (.func 27) #[] #[.pointer (some (ad))])), (4, .val (.int .i64 (0))), (7, .val (.int .i64 (7))), (8, .val (.int .i64 (0)))] [(0, 6, .val (.slice (some ba) (7) (c))), (1, 7, .val (.int .i64 (7))), (2, 8, .val (.int .i64 (0)))] [] rfl (by rfl) HH1 rfl rfl hLo rfl HS1 (slS 0 rfl rfl (slS 1 rfl rfl (slS 2 rfl rfl (slL 1 (d := 1) rfl (slL 2 (d := 2) rfl (trivial)))))) ?_ ?_
  · show ∀ i ∈ [0, 1, 2], _
    refine steps_cons (st_run 0 _ rfl rfl hLo rfl rfl (fun _ _ _ _ => rfl) (fun b G w hb ho => exec_move (.inl rfl) (ev_off rfl (HS1.get 0 rfl)))) ?_
    refine steps_cons (st_run 1 _ rfl rfl hLo rfl rfl (fun _ _ _ _ => rfl) (fun b G w hb ho => exec_lenL Tryd.underlying47 rfl (ev_on hLo 0 rfl HS1.1 rfl (hb 0 (by rfl))))) ?_
    refine steps_cons (st_run 2 _ rfl rfl hLo rfl rfl (fun _ _ _ _ => rfl) (fun b G w hb ho => exec_move (.inl rfl) (rfl))) ?_
    exact steps_nil
  clear hLo
  intro G a2 w2 hS hH
  have HS2 : Sl a2 19 [(0, .slice (some ba) (7) (c)), (1, .func (.func 27) #[] #[.pointer (some (ad))]), (4, .int .i64 (0)), (7, .int .i64 (7)), (8, .int .i64 (0))] := hS
  have HH2 : Held w w2 [] := hH
  clear hS hH HS1 HH1
  refine then_ ?_
  refine wp_block ?_
  have hSq0 : Sl _ 19 [(0, .slice (some ba) (7) (c)), (1, .func (.func 27) #[] #[.pointer (some (ad))]), (7, .int .i64 (7)), (8, .int .i64 (0))] := sl_keep HS2 [0, 1, 3, 4] (by rfl)
  refine wp_loop (fun a w' => ∃ i : Nat, i ≤ 7 ∧ look NM key i = none ∧ Sl a 19 [(0, .slice (some ba) (7) (c)), (1, .func (.func 27) #[] #[.pointer (some (ad))]), (7, .int .i64 (7)), (8, .int .i64 ((i : Int)))] ∧ Held w w' []) (fun a w' => 7 - (intOf (a.eval (.tmp 8))).toNat) ⟨0, Nat.zero_le _, rfl, hSq0, HH2⟩ ?_
  clear hSq0 HS2 HH2
  rintro aq0 wq0 ⟨i, hi, hL, HSq0, HHq0⟩
  have hm : (intOf (aq0.eval (.tmp 8))).toNat = i := by rw [(HSq0.get 3 rfl)]; rfl
  rw [hm]
  clear hm
  obtain ⟨r1, hr1⟩ : ∃ r : Bool, (decide (((i : Int) : Int) < 7)) = r := ⟨_, rfl⟩
  refine wp_seq ?_
  have hLo : LOk [(0, 9, .val (.bool r1))] := lok (by rfl) (by rfl)
  refine plain_ (wE := w) (sz := 19) (n := 1) [0] [(0, .val (.slice (some ba) (7) (c))), (1, .val (.func (.func 27) #[] #[.pointer (some (ad))])), (7, .val (.int .i64 (7))), (8, .val (.int .i64 ((i : Int)))), (9, .val (.bool r1))] [(0, 9, .val (.bool r1))] [] rfl (by rfl) HHq0 rfl rfl hLo rfl HSq0 (slS 0 rfl rfl (slS 1 rfl rfl (slS 2 rfl rfl (slS 3 rfl rfl (slL 0 (d := 0) rfl (trivial)))))) ?_ ?_
  · show ∀ i ∈ [0], _
    refine steps_cons (st_run 0 _ rfl rfl hLo rfl rfl (fun _ _ _ _ => rfl) (fun b G w hb ho => exec_bin rfl (ev_off rfl (HSq0.get 3 rfl)) (ev_off rfl (HSq0.get 2 rfl)) (rb_lss hr1 _ _ _))) ?_
    exact steps_nil
  clear hLo
  intro G a3 w3 hS hH
  have HS3 : Sl a3 19 [(0, .slice (some ba) (7) (c)), (1, .func (.func 27) #[] #[.pointer (some (ad))]), (7, .int .i64 (7)), (8, .int .i64 ((i : Int))), (9, .bool r1)] := hS
  have HH3 : Held w w3 [] := hH
  clear hS hH HSq0 HHq0
  refine then_ ?_
  refine wp_seq ?_
  cases r1
  · skip
    have hend : i = 7 := by have := of_decide_eq_false hr1; omega
    rw [hend] at hL
    refine wp_cond_false (HS3.get 4 rfl) ?_
    refine wp_exit ?_
    refine then_exit ?_
    refine then_exit ?_
    refine inBlock_exit ?_
    refine then_ ?_
    refine wp_seq ?_
    have hLo : LOk [(0, 4, .val (.int .i64 (-1)))] := lok (by rfl) (by rfl)
    refine plain_ (wE := w) (sz := 19) (n := 1) [0] [(0, .val (.slice (some ba) (7) (c))), (1, .val (.func (.func 27) #[] #[.pointer (some (ad))])), (7, .val (.int .i64 (7))), (8, .val (.int .i64 ((i : Int)))), (9, .val (.bool false)), (4, .val (.int .i64 (-1)))] [(0, 4, .val (.int .i64 (-1)))] [] rfl (by rfl) HH3 rfl rfl hLo rfl HS3 (slS 0 rfl rfl (slS 1 rfl rfl (slS 2 rfl rfl (slS 3 rfl rfl (slS 4 rfl rfl (slL 0 (d := 0) rfl (trivial))))))) ?_ ?_
    · show ∀ i ∈ [0], _
      refine steps_cons (st_run 0 _ rfl rfl hLo rfl rfl (fun _ _ _ _ => rfl) (fun b G w hb ho => exec_move (.inr rfl) (rfl))) ?_
      exact steps_nil
    clear hLo
    intro G a4 w4 hS hH
    have HS4 : Sl a4 19 [(0, .slice (some ba) (7) (c)), (1, .func (.func 27) #[] #[.pointer (some (ad))]), (7, .int .i64 (7)), (8, .int .i64 ((i : Int))), (9, .bool false), (4, .int .i64 (-1))] := hS
    have HH4 : Held w w4 [] := hH
    clear hS hH HS3 HH3
    refine then_ ?_
    refine wp_ret ?_
    repeat (first | refine then_ret ?_ | refine inBlock_ret' ?_)
    exact b_tmp rfl HS4.2.1 (HS4.get 5 rfl) ⟨by rw [nmIx_none hL], HH4.1⟩
  · skip
    have hlt : i < 7 := by have := of_decide_eq_true hr1; omega
    refine wp_cond_true (HS3.get 4 rfl) ?_
    refine wp_skip ?_
    refine then_ ?_
    refine wp_seq ?_
    refine wp_block ?_
    refine wp_seq ?_
    have hLo : LOk [(0, 10, .val (.int .i64 ((i : Int)))), (1, 5, .val (.int .i64 ((i : Int))))] := lok (by rfl) (by rfl)
    refine plain_ (wE := w) (sz := 19) (n := 2) [0, 1] [(0, .val (.slice (some ba) (7) (c))), (1, .val (.func (.func 27) #[] #[.pointer (some (ad))])), (7, .val (.int .i64 (7))), (8, .val (.int .i64 ((i : Int)))), (9, .val (.bool true)), (5, .val (.int .i64 ((i : Int))))] [(0, 10, .val (.int .i64 ((i : Int)))), (1, 5, .val (.int .i64 ((i : Int))))] [] rfl (by rfl) HH3 rfl rfl hLo rfl HS3 (slS 0 rfl rfl (slS 1 rfl rfl (slS 2 rfl rfl (slS 3 rfl rfl (slS 4 rfl rfl (slL 1 (d := 1) rfl (trivial))))))) ?_ ?_
    · show ∀ i ∈ [0, 1], _
      refine steps_cons (st_run 0 _ rfl rfl hLo rfl rfl (fun _ _ _ _ => rfl) (fun b G w hb ho => exec_move (.inl rfl) (ev_off rfl (HS3.get 3 rfl)))) ?_
      refine steps_cons (st_run 1 _ rfl rfl hLo rfl rfl (fun _ _ _ _ => rfl) (fun b G w hb ho => exec_move (.inr rfl) (ev_on hLo 0 rfl HS3.1 rfl (hb 0 (by rfl))))) ?_
      exact steps_nil
    clear hLo
    intro G a5 w5 hS hH
    have HS5 : Sl a5 19 [(0, .slice (some ba) (7) (c)), (1, .func (.func 27) #[] #[.pointer (some (ad))]), (7, .int .i64 (7)), (8, .int .i64 ((i : Int))), (9, .bool true), (5, .int .i64 ((i : Int)))] := hS
    have HH5 : Held w w5 [] := hH
    clear hS hH HS3 HH3
    refine then_ ?_
    obtain ⟨r2, hr2⟩ : ∃ r : Bool, (decide (NM (i) = key)) = r := ⟨_, rfl⟩
    refine wp_seq ?_
    have hLo : LOk [(0, 11, .val (.func (.func 27) #[] #[.pointer (some (ad))])), (1, 12, .val (.slice (some ba) (7) (c))), (2, 13, .val (.int .i64 ((i : Int)))), (3, 14, .val (.pointer (some (ba.add ((i) * 2))))), (4, 15, .val (.agg (FR () 2 (lsc (ent (i)))))), (5, 16, .val (.bool r2))] := lok (by rfl) (by rfl)
    refine plain_ (wE := w) (sz := 19) (n := 6) [0, 1, 3, 7, 15, 31] [(0, .val (.slice (some ba) (7) (c))), (1, .val (.func (.func 27) #[] #[.pointer (some (ad))])), (7, .val (.int .i64 (7))), (8, .val (.int .i64 ((i : Int)))), (9, .val (.bool true)), (5, .val (.int .i64 ((i : Int)))), (16, .val (.bool r2))] [(0, 11, .val (.func (.func 27) #[] #[.pointer (some (ad))])), (1, 12, .val (.slice (some ba) (7) (c))), (2, 13, .val (.int .i64 ((i : Int)))), (3, 14, .val (.pointer (some (ba.add ((i) * 2))))), (4, 15, .val (.agg (FR () 2 (lsc (ent (i)))))), (5, 16, .val (.bool r2))] [] rfl (by rfl) HH5 rfl rfl hLo rfl HS5 (slS 0 rfl rfl (slS 1 rfl rfl (slS 2 rfl rfl (slS 3 rfl rfl (slS 4 rfl rfl (slS 5 rfl rfl (slL 5 (d := 5) rfl (trivial)))))))) ?_ ?_
    · show ∀ i ∈ [0, 1, 2, 3, 4, 5], _
      refine steps_cons (st_run 0 _ rfl rfl hLo rfl rfl (fun _ _ _ _ => rfl) (fun b G w hb ho => exec_move (.inl rfl) (ev_off rfl (HS5.get 1 rfl)))) ?_
      refine steps_cons (st_run 1 _ rfl rfl hLo rfl rfl (fun _ _ _ _ => rfl) (fun b G w hb ho => exec_move (.inl rfl) (ev_off rfl (HS5.get 0 rfl)))) ?_
      refine steps_cons (st_run 2 _ rfl rfl hLo rfl rfl (fun _ _ _ _ => rfl) (fun b G w hb ho => exec_move (.inl rfl) (ev_off rfl (HS5.get 5 rfl)))) ?_
      refine steps_cons (st_run 3 _ rfl rfl hLo rfl rfl (fun _ _ _ _ => rfl) (fun b G w hb ho => exec_indexAddr rfl (ev_on hLo 1 rfl HS5.1 rfl (hb 1 (by rfl))) (ev_on hLo 2 rfl HS5.1 rfl (hb 2 (by rfl))) (index_sl Tryd.underlying47 (by kernel_rfl) rfl hlt _))) ?_
      refine steps_cons (st_at 4 (ba.add ((i) * 2)) rfl rfl rfl (fun _ _ _ _ => rfl) hLo rfl rfl Tryd.underlying48 (by kernel_rfl) rfl (Tab.at hT hlt) (fun b G hb ho => ev_on hLo 3 rfl HS5.1 rfl (hb 3 (by rfl)))) ?_
      refine steps_cons (st_callV 5 _ #[.agg (FR () 2 (lsc (ent (i))))] #[.pointer (some (ad))] rfl rfl rfl (fun _ _ _ _ => rfl) hLo rfl rfl Tryd.func27 rfl rfl (fun b G hb ho => ev_on hLo 0 rfl HS5.1 rfl (hb 0 (by rfl))) (fun b G hb ho => args1 (ev_on hLo 4 rfl HS5.1 rfl (hb 4 (by rfl)))) (fun w hw => (by have hq := lev1_calls (NM (i)) key (LV (i)) (bel_kept hw _ _ hc); rw [hr2] at hq; exact hq))) ?_
      exact steps_nil
    clear hLo
    intro G a6 w6 hS hH
    have HS6 : Sl a6 19 [(0, .slice (some ba) (7) (c)), (1, .func (.func 27) #[] #[.pointer (some (ad))]), (7, .int .i64 (7)), (8, .int .i64 ((i : Int))), (9, .bool true), (5, .int .i64 ((i : Int))), (16, .bool r2)] := hS
    have HH6 : Held w w6 [] := hH
    clear hS hH HS5 HH5
    refine then_ ?_
    cases r2
    · skip
      refine wp_cond_false (HS6.get 6 rfl) ?_
      refine wp_skip ?_
      refine inBlock_normal ?_
      refine then_ ?_
      have hLo : LOk [(0, 18, .val (.int .i64 (((i + 1 : Nat) : Int)))), (1, 8, .val (.int .i64 (((i + 1 : Nat) : Int))))] := lok (by rfl) (by rfl)
      refine plain_ (wE := w) (sz := 19) (n := 2) [0, 1] [(0, .val (.slice (some ba) (7) (c))), (1, .val (.func (.func 27) #[] #[.pointer (some (ad))])), (7, .val (.int .i64 (7))), (9, .val (.bool true)), (5, .val (.int .i64 ((i : Int)))), (16, .val (.bool false)), (8, .val (.int .i64 (((i + 1 : Nat) : Int))))] [(0, 18, .val (.int .i64 (((i + 1 : Nat) : Int)))), (1, 8, .val (.int .i64 (((i + 1 : Nat) : Int))))] [] rfl (by rfl) HH6 rfl rfl hLo rfl HS6 (slS 0 rfl rfl (slS 1 rfl rfl (slS 2 rfl rfl (slS 4 rfl rfl (slS 5 rfl rfl (slS 6 rfl rfl (slL 1 (d := 1) rfl (trivial)))))))) ?_ ?_
      · show ∀ i ∈ [0, 1], _
        refine steps_cons (st_run 0 _ rfl rfl hLo rfl rfl (fun _ _ _ _ => rfl) (fun b G w hb ho => exec_bin rfl (ev_pre hLo 1 rfl (ho 1 (by rfl)) (HS6.get 3 rfl)) (rfl) (rb_add (w_nat (by omega) (by omega)) _ _ _))) ?_
        refine steps_cons (st_run 1 _ rfl rfl hLo rfl rfl (fun _ _ _ _ => rfl) (fun b G w hb ho => exec_move (.inl rfl) (ev_on hLo 0 rfl HS6.1 rfl (hb 0 (by rfl))))) ?_
        exact steps_nil
      clear hLo
      intro G a7 w7 hS hH
      have HS7 : Sl a7 19 [(0, .slice (some ba) (7) (c)), (1, .func (.func 27) #[] #[.pointer (some (ad))]), (7, .int .i64 (7)), (9, .bool true), (5, .int .i64 ((i : Int))), (16, .bool false), (8, .int .i64 (((i + 1 : Nat) : Int)))] := hS
      have HH7 : Held w w7 [] := hH
      clear hS hH HS6 HH6
      refine then_ ?_
      have hSq0' : Sl _ 19 [(0, .slice (some ba) (7) (c)), (1, .func (.func 27) #[] #[.pointer (some (ad))]), (7, .int .i64 (7)), (8, .int .i64 (((i + 1 : Nat) : Int)))] := sl_keep HS7 [0, 1, 2, 6] (by rfl)
      have hHq0' : Held w _ [] := held_keep HH7 0 rfl
      exact ⟨⟨i + 1, by omega, look_miss2 hL hr2, hSq0', hHq0'⟩, by rw [(hSq0'.get 3 rfl)]; show 7 - (((i + 1 : Nat) : Int)).toNat < 7 - i; omega⟩
    · skip
      refine wp_cond_true (HS6.get 6 rfl) ?_
      refine wp_seq ?_
      have hLo : LOk [(0, 17, .val (.int .i64 ((i : Int)))), (1, 4, .val (.int .i64 ((i : Int))))] := lok (by rfl) (by rfl)
      refine plain_ (wE := w) (sz := 19) (n := 2) [0, 1] [(0, .val (.slice (some ba) (7) (c))), (1, .val (.func (.func 27) #[] #[.pointer (some (ad))])), (7, .val (.int .i64 (7))), (8, .val (.int .i64 ((i : Int)))), (9, .val (.bool true)), (5, .val (.int .i64 ((i : Int)))), (16, .val (.bool true)), (4, .val (.int .i64 ((i : Int))))] [(0, 17, .val (.int .i64 ((i : Int)))), (1, 4, .val (.int .i64 ((i : Int))))] [] rfl (by rfl) HH6 rfl rfl hLo rfl HS6 (slS 0 rfl rfl (slS 1 rfl rfl (slS 2 rfl rfl (slS 3 rfl rfl (slS 4 rfl rfl (slS 5 rfl rfl (slS 6 rfl rfl (slL 1 (d := 1) rfl (trivial))))))))) ?_ ?_
      · show ∀ i ∈ [0, 1], _
        refine steps_cons (st_run 0 _ rfl rfl hLo rfl rfl (fun _ _ _ _ => rfl) (fun b G w hb ho => exec_move (.inl rfl) (ev_off rfl (HS6.get 5 rfl)))) ?_
        refine steps_cons (st_run 1 _ rfl rfl hLo rfl rfl (fun _ _ _ _ => rfl) (fun b G w hb ho => exec_move (.inr rfl) (ev_on hLo 0 rfl HS6.1 rfl (hb 0 (by rfl))))) ?_
        exact steps_nil
      clear hLo
      intro G a8 w8 hS hH
      have HS8 : Sl a8 19 [(0, .slice (some ba) (7) (c)), (1, .func (.func 27) #[] #[.pointer (some (ad))]), (7, .int .i64 (7)), (8, .int .i64 ((i : Int))), (9, .bool true), (5, .int .i64 ((i : Int))), (16, .bool true), (4, .int .i64 ((i : Int)))] := hS
      have HH8 : Held w w8 [] := hH
      clear hS hH HS6 HH6
      refine then_ ?_
      refine wp_ret ?_
      repeat (first | refine then_ret ?_ | refine inBlock_ret' ?_)
      exact b_tmp rfl HS8.2.1 (HS8.get 7 rfl) ⟨by rw [nmIx_some (look_hit2 hlt hL hr2)], HH8.1⟩
theorem level_calls {w : World} {t : T} (key : ByteArray) (hIn : In w t) (hR : Rise t.ml fun k => bl (t.key k)) (hTab : Tab w) : Calls Tryd.prog 10 #[.agg (FR () 6 ((t).sc)), .string (key)] w fun e w' => e = .returned (.int .i64 ((t.told key).getD (els key))) ∧ Below w.heap.size w w' := by
  obtain ⟨ba, c, hG, hT⟩ := hTab
  refine enter_ 26 Tryd.func10 rfl rfl (fun a0 hS => ?_)
  have HS0 : Sl a0 26 [(0, .agg (FR () 6 ((t).sc))), (1, .string (key))] := hS
  have HH0 : Held w w [] := Held.first w
  clear hS
  refine wp_seq ?_
  have hLo : LOk [(0, 2, .new 0 (fun g => .pointer (some ⟨g, 0, none⟩))), (1, 3, .new 1 (fun g => .pointer (some ⟨g, 0, none⟩))), (2, 4, .val (.int .i64 (0)))] := lok (by rfl) (by rfl)
  refine plain_ (wE := w) (sz := 26) (n := 3) [0, 1, 3] [(0, .val (.agg (FR () 6 ((t).sc)))), (1, .val (.string (key))), (2, .new 0 (fun g => .pointer (some ⟨g, 0, none⟩))), (3, .new 1 (fun g => .pointer (some ⟨g, 0, none⟩))), (4, .val (.int .i64 (0)))] [(0, 2, .new 0 (fun g => .pointer (some ⟨g, 0, none⟩))), (1, 3, .new 1 (fun g => .pointer (some ⟨g, 0, none⟩))), (2, 4, .val (.int .i64 (0)))] [⟨0, some 0, none, (), 6, (t).sc, (t).sc, 25⟩, ⟨0, some 1, none, (), 1, lsc [.s (key)], lsc [.s (key)], 9⟩] rfl (by rfl) HH0 rfl rfl hLo rfl HS0 (slS 0 rfl rfl (slS 1 rfl rfl (slL 0 (d := 0) rfl (slL 1 (d := 1) rfl (slL 2 (d := 2) rfl (trivial)))))) ?_ ?_
  · show ∀ i ∈ [0, 1, 2], _
    refine steps_cons (st_alloc 0 0 () 6 25 none _ _ rfl rfl (fun _ _ _ _ => rfl) rfl hLo rfl rfl rfl rfl (by rfl) (fun b G w hb ho => exec_box rfl (ev_off rfl (HS0.get 0 rfl)) (by kernel_rfl))) ?_
    refine steps_cons (st_alloc 1 1 () 1 9 none _ _ rfl rfl (fun _ _ _ _ => rfl) rfl hLo rfl rfl rfl rfl (by rfl) (fun b G w hb ho => exec_box rfl (ev_off rfl (HS0.get 1 rfl)) (by kernel_rfl))) ?_
    refine steps_cons (st_run 2 _ rfl rfl hLo rfl rfl (fun _ _ _ _ => rfl) (fun b G w hb ho => exec_move (.inr rfl) (rfl))) ?_
    exact steps_nil
  clear hLo
  intro G a1 w1 hS hH
  have HS1 : Sl a1 26 [(0, .agg (FR () 6 ((t).sc))), (1, .string (key)), (2, .pointer (some ⟨(G 0), 0, none⟩)), (3, .pointer (some ⟨(G 1), 0, none⟩)), (4, .int .i64 (0))] := hS
  have HH1 : Held w w1 [⟨(G 0), (), 6, (t).sc, 25⟩, ⟨(G 1), (), 1, lsc [.s (key)], 9⟩] := hH
  clear hS hH HS0 HH0
  generalize G 0 = g1_0 at HS1 HH1
  generalize G 1 = g1_1 at HS1 HH1
  refine then_ ?_
  refine wp_seq ?_
  obtain ⟨r1, hr1⟩ : ∃ r : Bool, ((t.tell key).2) = r := ⟨_, rfl⟩
  refine wp_seq ?_
  have hLo : LOk [(0, 9, .val (.agg (FR () 6 ((t).sc)))), (1, 10, .val (.string (key))), (2, 11, .val (.tuple #[.int .i64 ((t.tell key).1), .bool r1])), (3, 8, .val (.tuple #[.int .i64 ((t.tell key).1), .bool r1])), (4, 12, .val (.int .i64 ((t.tell key).1))), (5, 13, .val (.bool r1)), (6, 5, .val (.int .i64 ((t.tell key).1))), (7, 6, .val (.bool r1))] := lok (by rfl) (by rfl)
  refine plain_ (wE := w) (sz := 26) (n := 8) [0, 1, 3, 7, 15, 31, 63, 127] [(0, .val (.agg (FR () 6 ((t).sc)))), (1, .val (.string (key))), (2, .val (.pointer (some ⟨g1_0, 0, none⟩))), (3, .val (.pointer (some ⟨g1_1, 0, none⟩))), (4, .val (.int .i64 (0))), (5, .val (.int .i64 ((t.tell key).1))), (6, .val (.bool r1))] [(0, 9, .val (.agg (FR () 6 ((t).sc)))), (1, 10, .val (.string (key))), (2, 11, .val (.tuple #[.int .i64 ((t.tell key).1), .bool r1])), (3, 8, .val (.tuple #[.int .i64 ((t.tell key).1), .bool r1])), (4, 12, .val (.int .i64 ((t.tell key).1))), (5, 13, .val (.bool r1)), (6, 5, .val (.int .i64 ((t.tell key).1))), (7, 6, .val (.bool r1))] [⟨g1_0, none, none, (), 6, (t).sc, (t).sc, 25⟩, ⟨g1_1, none, none, (), 1, lsc [.s (key)], lsc [.s (key)], 9⟩] rfl (by rfl) HH1 rfl rfl hLo rfl HS1 (slS 0 rfl rfl (slS 1 rfl rfl (slS 2 rfl rfl (slS 3 rfl rfl (slS 4 rfl rfl (slL 6 (d := 6) rfl (slL 7 (d := 7) rfl (trivial)))))))) ?_ ?_
  · show ∀ i ∈ [0, 1, 2, 3, 4, 5, 6, 7], _
    refine steps_cons (st_row0 0 0 _ rfl rfl rfl rfl (fun _ _ _ _ => rfl) hLo rfl rfl rfl (by rfl) Tryd.underlying25 (by kernel_rfl) rfl (fun b G hb ho => ev_off rfl (HS1.get 2 rfl))) ?_
    refine steps_cons (st_read 1 1 _ _ rfl rfl rfl hLo rfl rfl (fun _ _ _ _ => rfl) (by rfl) (by rfl) (fun b G w hb ho hr => exec_cell hr (Nat.le_of_ble_eq_true rfl) Tryd.underlying9 rfl rfl (ev_off rfl (HS1.get 3 rfl)))) ?_
    refine steps_cons (st_call 2 _ #[.agg (FR () 6 ((t).sc)), .string (key)] rfl rfl rfl (fun _ _ _ _ => rfl) hLo rfl rfl Tryd.func25 rfl rfl (fun b G hb ho => args2 (ev_on hLo 0 rfl HS1.1 rfl (hb 0 (by rfl))) (ev_on hLo 1 rfl HS1.1 rfl (hb 1 (by rfl)))) (fun w hw => (by have hq := num_calls key (hIn.below hw) hR; rw [hr1] at hq; exact hq))) ?_
    refine steps_cons (st_run 3 _ rfl rfl hLo rfl rfl (fun _ _ _ _ => rfl) (fun b G w hb ho => exec_move (.inl rfl) (ev_on hLo 2 rfl HS1.1 rfl (hb 2 (by rfl))))) ?_
    refine steps_cons (st_run 4 _ rfl rfl hLo rfl rfl (fun _ _ _ _ => rfl) (fun b G w hb ho => exec_extract rfl (ev_on hLo 3 rfl HS1.1 rfl (hb 3 (by rfl))) (by rfl))) ?_
    refine steps_cons (st_run 5 _ rfl rfl hLo rfl rfl (fun _ _ _ _ => rfl) (fun b G w hb ho => exec_extract rfl (ev_on hLo 3 rfl HS1.1 rfl (hb 3 (by rfl))) (by rfl))) ?_
    refine steps_cons (st_run 6 _ rfl rfl hLo rfl rfl (fun _ _ _ _ => rfl) (fun b G w hb ho => exec_move (.inr rfl) (ev_on hLo 4 rfl HS1.1 rfl (hb 4 (by rfl))))) ?_
    refine steps_cons (st_run 7 _ rfl rfl hLo rfl rfl (fun _ _ _ _ => rfl) (fun b G w hb ho => exec_move (.inr rfl) (ev_on hLo 5 rfl HS1.1 rfl (hb 5 (by rfl))))) ?_
    exact steps_nil
  clear hLo
  intro G a2 w2 hS hH
  have HS2 : Sl a2 26 [(0, .agg (FR () 6 ((t).sc))), (1, .string (key)), (2, .pointer (some ⟨g1_0, 0, none⟩)), (3, .pointer (some ⟨g1_1, 0, none⟩)), (4, .int .i64 (0)), (5, .int .i64 ((t.tell key).1)), (6, .bool r1)] := hS
  have HH2 : Held w w2 [⟨g1_0, (), 6, (t).sc, 25⟩, ⟨g1_1, (), 1, lsc [.s (key)], 9⟩] := hH
  clear hS hH HS1 HH1
  refine then_ ?_
  refine wp_seq ?_
  have hLo : LOk [(0, 14, .val (.bool r1))] := lok (by rfl) (by rfl)
  refine plain_ (wE := w) (sz := 26) (n := 1) [0] [(0, .val (.agg (FR () 6 ((t).sc)))), (1, .val (.string (key))), (2, .val (.pointer (some ⟨g1_0, 0, none⟩))), (3, .val (.pointer (some ⟨g1_1, 0, none⟩))), (4, .val (.int .i64 (0))), (5, .val (.int .i64 ((t.tell key).1))), (6, .val (.bool r1)), (14, .val (.bool r1))] [(0, 14, .val (.bool r1))] [⟨g1_0, none, none, (), 6, (t).sc, (t).sc, 25⟩, ⟨g1_1, none, none, (), 1, lsc [.s (key)], lsc [.s (key)], 9⟩] rfl (by rfl) HH2 rfl rfl hLo rfl HS2 (slS 0 rfl rfl (slS 1 rfl rfl (slS 2 rfl rfl (slS 3 rfl rfl (slS 4 rfl rfl (slS 5 rfl rfl (slS 6 rfl rfl (slL 0 (d := 0) rfl (trivial))))))))) ?_ ?_
  · show ∀ i ∈ [0], _
    refine steps_cons (st_run 0 _ rfl rfl hLo rfl rfl (fun _ _ _ _ => rfl) (fun b G w hb ho => exec_move (.inl rfl) (ev_off rfl (HS2.get 6 rfl)))) ?_
    exact steps_nil
  clear hLo
  intro G a3 w3 hS hH
  have HS3 : Sl a3 26 [(0, .agg (FR () 6 ((t).sc))), (1, .string (key)), (2, .pointer (some ⟨g1_0, 0, none⟩)), (3, .pointer (some ⟨g1_1, 0, none⟩)), (4, .int .i64 (0)), (5, .int .i64 ((t.tell key).1)), (6, .bool r1), (14, .bool r1)] := hS
  have HH3 : Held w w3 [⟨g1_0, (), 6, (t).sc, 25⟩, ⟨g1_1, (), 1, lsc [.s (key)], 9⟩] := hH
  clear hS hH HS2 HH2
  refine then_ ?_
  cases r1
  · skip
    refine wp_cond_false (HS3.get 7 rfl) ?_
    refine wp_skip ?_
    refine then_ ?_
    refine wp_seq ?_
    have hLo : LOk [(0, 16, .val (.slice (some ba) (7) (c))), (1, 17, .val (.func (.func 27) #[] #[.pointer (some ⟨g1_1, 0, none⟩)])), (2, 18, .val (.int .i64 (nmIx key))), (3, 7, .val (.int .i64 (nmIx key)))] := lok (by rfl) (by rfl)
    refine plain_ (wE := w) (sz := 26) (n := 4) [0, 1, 3, 7] [(0, .val (.agg (FR () 6 ((t).sc)))), (1, .val (.string (key))), (2, .val (.pointer (some ⟨g1_0, 0, none⟩))), (3, .val (.pointer (some ⟨g1_1, 0, none⟩))), (4, .val (.int .i64 (0))), (5, .val (.int .i64 ((t.tell key).1))), (6, .val (.bool false)), (14, .val (.bool false)), (7, .val (.int .i64 (nmIx key)))] [(0, 16, .val (.slice (some ba) (7) (c))), (1, 17, .val (.func (.func 27) #[] #[.pointer (some ⟨g1_1, 0, none⟩)])), (2, 18, .val (.int .i64 (nmIx key))), (3, 7, .val (.int .i64 (nmIx key)))] [⟨g1_0, none, none, (), 6, (t).sc, (t).sc, 25⟩, ⟨g1_1, none, none, (), 1, lsc [.s (key)], lsc [.s (key)], 9⟩] rfl (by rfl) HH3 rfl rfl hLo rfl HS3 (slS 0 rfl rfl (slS 1 rfl rfl (slS 2 rfl rfl (slS 3 rfl rfl (slS 4 rfl rfl (slS 5 rfl rfl (slS 6 rfl rfl (slS 7 rfl rfl (slL 3 (d := 3) rfl (trivial)))))))))) ?_ ?_
    · show ∀ i ∈ [0, 1, 2, 3], _
      refine steps_cons (st_at1 0 (⟨0, 0, none⟩) _ rfl rfl rfl (fun _ _ _ _ => rfl) hLo rfl rfl Tryd.underlying47 rfl (hG) (fun b G hb ho => rfl)) ?_
      refine steps_cons (st_run 1 _ rfl rfl hLo rfl rfl (fun _ _ _ _ => rfl) (fun b G w hb ho => exec_makeFunc rfl (ev_off rfl (HS3.get 3 rfl)) (by kernel_rfl))) ?_
      refine steps_cons (st_callRB 2 1 _ _ (fun G => #[.slice (some ba) (7) (c), .func (.func 27) #[] #[.pointer (some ⟨g1_1, 0, none⟩)]]) rfl rfl rfl rfl (fun _ _ _ _ => rfl) hLo rfl rfl (by rfl) (by rfl) Tryd.func26 rfl rfl (fun b G hb ho => args2 (ev_on hLo 0 rfl HS3.1 rfl (hb 0 (by rfl))) (ev_on hLo 1 rfl HS3.1 rfl (hb 1 (by rfl)))) (fun G w hw hr => ixf_calls key (fun i hi => ⟨bel_kept hw _ _ (hT i hi).1, bel_kept hw _ _ (hT i hi).2⟩) (row_str hr))) ?_
      refine steps_cons (st_run 3 _ rfl rfl hLo rfl rfl (fun _ _ _ _ => rfl) (fun b G w hb ho => exec_move (.inr rfl) (ev_on hLo 2 rfl HS3.1 rfl (hb 2 (by rfl))))) ?_
      exact steps_nil
    clear hLo
    intro G a4 w4 hS hH
    have HS4 : Sl a4 26 [(0, .agg (FR () 6 ((t).sc))), (1, .string (key)), (2, .pointer (some ⟨g1_0, 0, none⟩)), (3, .pointer (some ⟨g1_1, 0, none⟩)), (4, .int .i64 (0)), (5, .int .i64 ((t.tell key).1)), (6, .bool false), (14, .bool false), (7, .int .i64 (nmIx key))] := hS
    have HH4 : Held w w4 [⟨g1_0, (), 6, (t).sc, 25⟩, ⟨g1_1, (), 1, lsc [.s (key)], 9⟩] := hH
    clear hS hH HS3 HH3
    refine then_ ?_
    refine wp_seq ?_
    obtain ⟨r2, hr2⟩ : ∃ r : Bool, (decide ((nmIx key : Int) < 0)) = r := ⟨_, rfl⟩
    refine wp_seq ?_
    have hLo : LOk [(0, 19, .val (.int .i64 (nmIx key))), (1, 20, .val (.bool r2))] := lok (by rfl) (by rfl)
    refine plain_ (wE := w) (sz := 26) (n := 2) [0, 1] [(0, .val (.agg (FR () 6 ((t).sc)))), (1, .val (.string (key))), (2, .val (.pointer (some ⟨g1_0, 0, none⟩))), (3, .val (.pointer (some ⟨g1_1, 0, none⟩))), (4, .val (.int .i64 (0))), (5, .val (.int .i64 ((t.tell key).1))), (6, .val (.bool false)), (14, .val (.bool false)), (7, .val (.int .i64 (nmIx key))), (20, .val (.bool r2))] [(0, 19, .val (.int .i64 (nmIx key))), (1, 20, .val (.bool r2))] [⟨g1_0, none, none, (), 6, (t).sc, (t).sc, 25⟩, ⟨g1_1, none, none, (), 1, lsc [.s (key)], lsc [.s (key)], 9⟩] rfl (by rfl) HH4 rfl rfl hLo rfl HS4 (slS 0 rfl rfl (slS 1 rfl rfl (slS 2 rfl rfl (slS 3 rfl rfl (slS 4 rfl rfl (slS 5 rfl rfl (slS 6 rfl rfl (slS 7 rfl rfl (slS 8 rfl rfl (slL 1 (d := 1) rfl (trivial))))))))))) ?_ ?_
    · show ∀ i ∈ [0, 1], _
      refine steps_cons (st_run 0 _ rfl rfl hLo rfl rfl (fun _ _ _ _ => rfl) (fun b G w hb ho => exec_move (.inl rfl) (ev_off rfl (HS4.get 8 rfl)))) ?_
      refine steps_cons (st_run 1 _ rfl rfl hLo rfl rfl (fun _ _ _ _ => rfl) (fun b G w hb ho => exec_bin rfl (ev_on hLo 0 rfl HS4.1 rfl (hb 0 (by rfl))) (rfl) (rb_lss hr2 _ _ _))) ?_
      exact steps_nil
    clear hLo
    intro G a5 w5 hS hH
    have HS5 : Sl a5 26 [(0, .agg (FR () 6 ((t).sc))), (1, .string (key)), (2, .pointer (some ⟨g1_0, 0, none⟩)), (3, .pointer (some ⟨g1_1, 0, none⟩)), (4, .int .i64 (0)), (5, .int .i64 ((t.tell key).1)), (6, .bool false), (14, .bool false), (7, .int .i64 (nmIx key)), (20, .bool r2)] := hS
    have HH5 : Held w w5 [⟨g1_0, (), 6, (t).sc, 25⟩, ⟨g1_1, (), 1, lsc [.s (key)], 9⟩] := hH
    clear hS hH HS4 HH4
    refine then_ ?_
    cases r2
    · skip
      refine wp_cond_false (HS5.get 9 rfl) ?_
      refine wp_skip ?_
      refine then_ ?_
      obtain ⟨k, hk, hke, hel⟩ := els_yes hr2
      refine wp_seq ?_
      have hLo : LOk [(0, 21, .val (.slice (some ba) (7) (c))), (1, 22, .val (.int .i64 (nmIx key))), (2, 23, .val (.pointer (some (ba.add ((k) * 2))))), (3, 24, .val (.pointer (some ((ba.add ((k) * 2)).add 1)))), (4, 25, .val (.int .i64 (LV (k)))), (5, 4, .val (.int .i64 (LV (k))))] := lok (by rfl) (by rfl)
      refine plain_ (wE := w) (sz := 26) (n := 6) [0, 1, 3, 7, 15, 31] [(0, .val (.agg (FR () 6 ((t).sc)))), (1, .val (.string (key))), (2, .val (.pointer (some ⟨g1_0, 0, none⟩))), (3, .val (.pointer (some ⟨g1_1, 0, none⟩))), (5, .val (.int .i64 ((t.tell key).1))), (6, .val (.bool false)), (14, .val (.bool false)), (7, .val (.int .i64 (nmIx key))), (20, .val (.bool false)), (4, .val (.int .i64 (LV (k))))] [(0, 21, .val (.slice (some ba) (7) (c))), (1, 22, .val (.int .i64 (nmIx key))), (2, 23, .val (.pointer (some (ba.add ((k) * 2))))), (3, 24, .val (.pointer (some ((ba.add ((k) * 2)).add 1)))), (4, 25, .val (.int .i64 (LV (k)))), (5, 4, .val (.int .i64 (LV (k))))] [⟨g1_0, none, none, (), 6, (t).sc, (t).sc, 25⟩, ⟨g1_1, none, none, (), 1, lsc [.s (key)], lsc [.s (key)], 9⟩] rfl (by rfl) HH5 rfl rfl hLo rfl HS5 (slS 0 rfl rfl (slS 1 rfl rfl (slS 2 rfl rfl (slS 3 rfl rfl (slS 5 rfl rfl (slS 6 rfl rfl (slS 7 rfl rfl (slS 8 rfl rfl (slS 9 rfl rfl (slL 5 (d := 5) rfl (trivial))))))))))) ?_ ?_
      · show ∀ i ∈ [0, 1, 2, 3, 4, 5], _
        refine steps_cons (st_at1 0 (⟨0, 0, none⟩) _ rfl rfl rfl (fun _ _ _ _ => rfl) hLo rfl rfl Tryd.underlying47 rfl (hG) (fun b G hb ho => rfl)) ?_
        refine steps_cons (st_run 1 _ rfl rfl hLo rfl rfl (fun _ _ _ _ => rfl) (fun b G w hb ho => exec_move (.inl rfl) (ev_off rfl (HS5.get 8 rfl)))) ?_
        refine steps_cons (st_run 2 _ rfl rfl hLo rfl rfl (fun _ _ _ _ => rfl) (fun b G w hb ho => exec_indexAddr rfl (ev_on hLo 0 rfl HS5.1 rfl (hb 0 (by rfl))) (ev_on hLo 1 rfl HS5.1 rfl (hb 1 (by rfl))) ((by rw [hke]; exact index_sl Tryd.underlying47 (by kernel_rfl) rfl hk _)))) ?_
        refine steps_cons (st_run 3 _ rfl rfl hLo rfl rfl (fun _ _ _ _ => rfl) (fun b G w hb ho => exec_field rfl (ev_on hLo 2 rfl HS5.1 rfl (hb 2 (by rfl))) (by kernel_rfl))) ?_
        refine steps_cons (st_at1 4 ((ba.add ((k) * 2)).add 1) _ rfl rfl rfl (fun _ _ _ _ => rfl) hLo rfl rfl Tryd.underlying3 rfl ((Tab.at hT hk 1 (by decide))) (fun b G hb ho => ev_on hLo 3 rfl HS5.1 rfl (hb 3 (by rfl)))) ?_
        refine steps_cons (st_run 5 _ rfl rfl hLo rfl rfl (fun _ _ _ _ => rfl) (fun b G w hb ho => exec_move (.inr rfl) (ev_on hLo 4 rfl HS5.1 rfl (hb 4 (by rfl))))) ?_
        exact steps_nil
      clear hLo
      intro G a6 w6 hS hH
      have HS6 : Sl a6 26 [(0, .agg (FR () 6 ((t).sc))), (1, .string (key)), (2, .pointer (some ⟨g1_0, 0, none⟩)), (3, .pointer (some ⟨g1_1, 0, none⟩)), (5, .int .i64 ((t.tell key).1)), (6, .bool false), (14, .bool false), (7, .int .i64 (nmIx key)), (20, .bool false), (4, .int .i64 (LV (k)))] := hS
      have HH6 : Held w w6 [⟨g1_0, (), 6, (t).sc, 25⟩, ⟨g1_1, (), 1, lsc [.s (key)], 9⟩] := hH
      clear hS hH HS5 HH5
      refine then_ ?_
      refine wp_ret ?_
      repeat (first | refine then_ret ?_ | refine inBlock_ret' ?_)
      exact b_tmp rfl HS6.2.1 (HS6.get 9 rfl) ⟨lev_ret hr1 hel, HH6.1⟩
    · skip
      refine wp_cond_true (HS5.get 9 rfl) ?_
      refine wp_seq ?_
      have hLo : LOk [(0, 4, .val (.int .i64 (0)))] := lok (by rfl) (by rfl)
      refine plain_ (wE := w) (sz := 26) (n := 1) [0] [(0, .val (.agg (FR () 6 ((t).sc)))), (1, .val (.string (key))), (2, .val (.pointer (some ⟨g1_0, 0, none⟩))), (3, .val (.pointer (some ⟨g1_1, 0, none⟩))), (5, .val (.int .i64 ((t.tell key).1))), (6, .val (.bool false)), (14, .val (.bool false)), (7, .val (.int .i64 (nmIx key))), (20, .val (.bool true)), (4, .val (.int .i64 (0)))] [(0, 4, .val (.int .i64 (0)))] [⟨g1_0, none, none, (), 6, (t).sc, (t).sc, 25⟩, ⟨g1_1, none, none, (), 1, lsc [.s (key)], lsc [.s (key)], 9⟩] rfl (by rfl) HH5 rfl rfl hLo rfl HS5 (slS 0 rfl rfl (slS 1 rfl rfl (slS 2 rfl rfl (slS 3 rfl rfl (slS 5 rfl rfl (slS 6 rfl rfl (slS 7 rfl rfl (slS 8 rfl rfl (slS 9 rfl rfl (slL 0 (d := 0) rfl (trivial))))))))))) ?_ ?_
      · show ∀ i ∈ [0], _
        refine steps_cons (st_run 0 _ rfl rfl hLo rfl rfl (fun _ _ _ _ => rfl) (fun b G w hb ho => exec_move (.inr rfl) (rfl))) ?_
        exact steps_nil
      clear hLo
      intro G a7 w7 hS hH
      have HS7 : Sl a7 26 [(0, .agg (FR () 6 ((t).sc))), (1, .string (key)), (2, .pointer (some ⟨g1_0, 0, none⟩)), (3, .pointer (some ⟨g1_1, 0, none⟩)), (5, .int .i64 ((t.tell key).1)), (6, .bool false), (14, .bool false), (7, .int .i64 (nmIx key)), (20, .bool true), (4, .int .i64 (0))] := hS
      have HH7 : Held w w7 [⟨g1_0, (), 6, (t).sc, 25⟩, ⟨g1_1, (), 1, lsc [.s (key)], 9⟩] := hH
      clear hS hH HS5 HH5
      refine then_ ?_
      refine wp_ret ?_
      repeat (first | refine then_ret ?_ | refine inBlock_ret' ?_)
      exact b_tmp rfl HS7.2.1 (HS7.get 9 rfl) ⟨lev_ret hr1 (els_no hr2), HH7.1⟩
  · skip
    refine wp_cond_true (HS3.get 7 rfl) ?_
    refine wp_seq ?_
    have hLo : LOk [(0, 15, .val (.int .i64 ((t.tell key).1))), (1, 4, .val (.int .i64 ((t.tell key).1)))] := lok (by rfl) (by rfl)
    refine plain_ (wE := w) (sz := 26) (n := 2) [0, 1] [(0, .val (.agg (FR () 6 ((t).sc)))), (1, .val (.string (key))), (2, .val (.pointer (some ⟨g1_0, 0, none⟩))), (3, .val (.pointer (some ⟨g1_1, 0, none⟩))), (5, .val (.int .i64 ((t.tell key).1))), (6, .val (.bool true)), (14, .val (.bool true)), (4, .val (.int .i64 ((t.tell key).1)))] [(0, 15, .val (.int .i64 ((t.tell key).1))), (1, 4, .val (.int .i64 ((t.tell key).1)))] [⟨g1_0, none, none, (), 6, (t).sc, (t).sc, 25⟩, ⟨g1_1, none, none, (), 1, lsc [.s (key)], lsc [.s (key)], 9⟩] rfl (by rfl) HH3 rfl rfl hLo rfl HS3 (slS 0 rfl rfl (slS 1 rfl rfl (slS 2 rfl rfl (slS 3 rfl rfl (slS 5 rfl rfl (slS 6 rfl rfl (slS 7 rfl rfl (slL 1 (d := 1) rfl (trivial))))))))) ?_ ?_
    · show ∀ i ∈ [0, 1], _
      refine steps_cons (st_run 0 _ rfl rfl hLo rfl rfl (fun _ _ _ _ => rfl) (fun b G w hb ho => exec_move (.inl rfl) (ev_off rfl (HS3.get 5 rfl)))) ?_
      refine steps_cons (st_run 1 _ rfl rfl hLo rfl rfl (fun _ _ _ _ => rfl) (fun b G w hb ho => exec_move (.inr rfl) (ev_on hLo 0 rfl HS3.1 rfl (hb 0 (by rfl))))) ?_
      exact steps_nil
    clear hLo
    intro G a8 w8 hS hH
    have HS8 : Sl a8 26 [(0, .agg (FR () 6 ((t).sc))), (1, .string (key)), (2, .pointer (some ⟨g1_0, 0, none⟩)), (3, .pointer (some ⟨g1_1, 0, none⟩)), (5, .int .i64 ((t.tell key).1)), (6, .bool true), (14, .bool true), (4, .int .i64 ((t.tell key).1))] := hS
    have HH8 : Held w w8 [⟨g1_0, (), 6, (t).sc, 25⟩, ⟨g1_1, (), 1, lsc [.s (key)], 9⟩] := hH
    clear hS hH HS3 HH3
    refine then_ ?_
    refine wp_ret ?_
    repeat (first | refine then_ret ?_ | refine inBlock_ret' ?_)
    exact b_tmp rfl HS8.2.1 (HS8.get 7 rfl) ⟨lev_ret2 hr1, HH8.1⟩
theorem lev_zero : (((T.zero.told k_ban).getD (els k_ban) : Int) != 50) = false := by decide
theorem law_ret {b : Bool} (h : b = true) : Ending.returned (.bool b) = .returned (.bool true) := by rw [h]
theorem tabwlv_3 : rtab .any (opsOf Tryd.f3 3) = (true, [([], []), ([0], [0]), ([1, 1], [1]), ([2], [2]), ([3, 2], [2, 3]), ([4, 2], [2, 4]), ([2, 5], [2, 5]), ([6, 2], [6]), ([7], [7]), ([7], [7]), ([8, 9, 7, 7], [7, 8, 9]), ([7], [7]), ([7], [7]), ([11, 12, 10, 7], [7, 11, 12]), ([10, 13, 7], [7, 10, 13]), ([7, 14], [7, 14]), ([15, 13, 0, 1, 2, 3, 4, 5, 6, 7, 8, 9, 10, 11, 12, 13, 14, 15], [15])]) := by kernel_rfl
theorem bitswlv_3 : waitsOk [([], []), ([0], [0]), ([1, 1], [1]), ([2], [2]), ([3, 2], [2, 3]), ([4, 2], [2, 4]), ([2, 5], [2, 5]), ([6, 2], [6]), ([7], [7]), ([7], [7]), ([8, 9, 7, 7], [7, 8, 9]), ([7], [7]), ([7], [7]), ([11, 12, 10, 7], [7, 11, 12]), ([10, 13, 7], [7, 10, 13]), ([7, 14], [7, 14]), ([15, 13, 0, 1, 2, 3, 4, 5, 6, 7, 8, 9, 10, 11, 12, 13, 14, 15], [15])] [0, 1, 3, 7, 15, 31, 63, 127, 255, 255, 1023, 255, 255, 8191, 16383, 32767, 65535] = true := by kernel_rfl
theorem PowerLevels_walk (t : T) (key : ByteArray) (w : World) (hTab : Tab w) (hIn : In w t) (hk : key.size ≤ 140737488351232) : Calls Tryd.prog 3 #[.agg (FR () 6 ((t).sc)), .string (key)] w fun e w' => e = .returned (.bool true) ∧ Below w.heap.size w w' := by
  refine enter_ 24 Tryd.func3 rfl rfl (fun a0 hS => ?_)
  have HS0 : Sl a0 24 [(0, .agg (FR () 6 ((t).sc))), (1, .string (key))] := hS
  have HH0 : Held w w [] := Held.first w
  clear hS
  refine wp_seq ?_
  have hLo : LOk [(0, 2, .new 0 (fun g => .pointer (some ⟨g, 0, none⟩))), (1, 4, .val (.bool false))] := lok (by rfl) (by rfl)
  refine plain_ (wE := w) (sz := 24) (n := 2) [0, 1] [(0, .val (.agg (FR () 6 ((t).sc)))), (1, .val (.string (key))), (2, .new 0 (fun g => .pointer (some ⟨g, 0, none⟩))), (4, .val (.bool false))] [(0, 2, .new 0 (fun g => .pointer (some ⟨g, 0, none⟩))), (1, 4, .val (.bool false))] [⟨0, some 0, none, (), 6, (t).sc, (t).sc, 25⟩] rfl (by rfl) HH0 rfl rfl hLo rfl HS0 (slS 0 rfl rfl (slS 1 rfl rfl (slL 0 (d := 0) rfl (slL 1 (d := 1) rfl (trivial))))) ?_ ?_
  · show ∀ i ∈ [0, 1], _
    refine steps_cons (st_alloc 0 0 () 6 25 none _ _ rfl rfl (fun _ _ _ _ => rfl) rfl hLo rfl rfl rfl rfl (by rfl) (fun b G w hb ho => exec_box rfl (ev_off rfl (HS0.get 0 rfl)) (by kernel_rfl))) ?_
    refine steps_cons (st_run 1 _ rfl rfl hLo rfl rfl (fun _ _ _ _ => rfl) (fun b G w hb ho => exec_move (.inr rfl) (rfl))) ?_
    exact steps_nil
  clear hLo
  intro G a1 w1 hS hH
  have HS1 : Sl a1 24 [(0, .agg (FR () 6 ((t).sc))), (1, .string (key)), (2, .pointer (some ⟨(G 0), 0, none⟩)), (4, .bool false)] := hS
  have HH1 : Held w w1 [⟨(G 0), (), 6, (t).sc, 25⟩] := hH
  clear hS hH HS0 HH0
  generalize G 0 = g1_0 at HS1 HH1
  refine then_ ?_
  refine wp_seq ?_
  refine wp_seq ?_
  have hLo : LOk [(0, 5, .val (.agg (FR () 6 ((T.zero).sc)))), (1, 6, .val (.int .i64 ((T.zero.told k_ban).getD (els k_ban)))), (2, 7, .val (.bool false))] := lok (by rfl) (by rfl)
  refine plain_ (wE := w) (sz := 24) (n := 3) [0, 1, 3] [(0, .val (.agg (FR () 6 ((t).sc)))), (1, .val (.string (key))), (2, .val (.pointer (some ⟨g1_0, 0, none⟩))), (4, .val (.bool false)), (7, .val (.bool false))] [(0, 5, .val (.agg (FR () 6 ((T.zero).sc)))), (1, 6, .val (.int .i64 ((T.zero.told k_ban).getD (els k_ban)))), (2, 7, .val (.bool false))] [⟨g1_0, none, none, (), 6, (t).sc, (t).sc, 25⟩] rfl (by rfl) HH1 rfl rfl hLo rfl HS1 (slS 0 rfl rfl (slS 1 rfl rfl (slS 2 rfl rfl (slS 3 rfl rfl (slL 2 (d := 2) rfl (trivial)))))) ?_ ?_
  · show ∀ i ∈ [0, 1, 2], _
    refine steps_cons (st_run 0 _ rfl rfl hLo rfl rfl (fun _ _ _ _ => rfl) (fun b G w hb ho => exec_build rfl (parts0 ) (by kernel_rfl))) ?_
    refine steps_cons (st_call 1 _ #[.agg (FR () 6 ((T.zero).sc)), .string (k_ban)] rfl rfl rfl (fun _ _ _ _ => rfl) hLo rfl rfl Tryd.func10 rfl rfl (fun b G hb ho => args2 (ev_on hLo 0 rfl HS1.1 rfl (hb 0 (by rfl))) (rfl)) (fun w hw => level_calls _ (In.zero _) Rises.zero.rise (hTab.below hw))) ?_
    refine steps_cons (st_run 2 _ rfl rfl hLo rfl rfl (fun _ _ _ _ => rfl) (fun b G w hb ho => exec_bin rfl (ev_on hLo 1 rfl HS1.1 rfl (hb 1 (by rfl))) (rfl) (rb_neq (lev_zero) _ _ _))) ?_
    exact steps_nil
  clear hLo
  intro G a2 w2 hS hH
  have HS2 : Sl a2 24 [(0, .agg (FR () 6 ((t).sc))), (1, .string (key)), (2, .pointer (some ⟨g1_0, 0, none⟩)), (4, .bool false), (7, .bool false)] := hS
  have HH2 : Held w w2 [⟨g1_0, (), 6, (t).sc, 25⟩] := hH
  clear hS hH HS1 HH1
  refine then_ ?_
  refine wp_cond_false (HS2.get 4 rfl) ?_
  refine wp_skip ?_
  refine then_ ?_
  obtain ⟨r1, hr1⟩ : ∃ r : Bool, (greatB t) = r := ⟨_, rfl⟩
  cases r1
  · skip
    have hG_t := hr1
    have hR_t := (greatB_not hr1)
    obtain ⟨r2, hr2⟩ : ∃ r : Bool, (decide ((1024 : Int) < ((key).size : Int))) = r := ⟨_, rfl⟩
    cases r2
    · skip
      refine wp_seq ?_
      have hLo : LOk [(0, 8, .val (.agg (FR () 6 ((t).sc)))), (1, 9, .val (.bool false)), (2, 10, .val (.bool false)), (3, 11, .val (.string (key))), (4, 12, .val (.int .i64 (((key).size : Int)))), (5, 13, .val (.bool false)), (6, 14, .val (.bool false)), (7, 15, .val (.bool false)), (8, 16, .val (.agg (FR () 6 ((t).sc)))), (9, 17, .val (.string (key))), (10, 18, .val (.int .i64 ((t.told key).getD (els key)))), (11, 19, .val (.agg (FR () 6 ((t).sc)))), (12, 20, .val (.string (key))), (13, 21, .val (.int .i64 ((t.told key).getD (els key)))), (14, 22, .val (.bool true)), (15, 23, .val (.bool true)), (16, 4, .val (.bool true))] := lok (by rfl) (by rfl)
      refine region_ (wE := w) (sz := 24) (n := 17) (B := [0, 1, 3, 7, 15, 31, 63, 127, 255, 255, 1023, 255, 255, 8191, 16383, 32767, 65535]) [0, 1, 2, 3, 4, 5, 6, 7, 8, 9, 10, 11, 12, 13, 14, 15, 16] [(0, .val (.agg (FR () 6 ((t).sc)))), (1, .val (.string (key))), (2, .val (.pointer (some ⟨g1_0, 0, none⟩))), (7, .val (.bool false)), (4, .val (.bool true))] [(0, 8, .val (.agg (FR () 6 ((t).sc)))), (1, 9, .val (.bool false)), (2, 10, .val (.bool false)), (3, 11, .val (.string (key))), (4, 12, .val (.int .i64 (((key).size : Int)))), (5, 13, .val (.bool false)), (6, 14, .val (.bool false)), (7, 15, .val (.bool false)), (8, 16, .val (.agg (FR () 6 ((t).sc)))), (9, 17, .val (.string (key))), (10, 18, .val (.int .i64 ((t.told key).getD (els key)))), (11, 19, .val (.agg (FR () 6 ((t).sc)))), (12, 20, .val (.string (key))), (13, 21, .val (.int .i64 ((t.told key).getD (els key)))), (14, 22, .val (.bool true)), (15, 23, .val (.bool true)), (16, 4, .val (.bool true))] [⟨g1_0, none, none, (), 6, (t).sc, (t).sc, 25⟩] (by rfl) rfl tabwlv_3 bitswlv_3 (by kernel_rfl) (by kernel_rfl) HH2 rfl rfl hLo rfl HS2 (slS 0 rfl rfl (slS 1 rfl rfl (slS 2 rfl rfl (slS 4 rfl rfl (slL 16 (d := 16) rfl (trivial)))))) ?_ ?_
      · show ∀ i ∈ [0, 1, 2, 3, 4, 5, 6, 7, 8, 9, 10, 11, 12, 13, 14, 15, 16], _
        refine steps_cons (st_row0 0 0 _ rfl rfl rfl rfl (fun _ _ _ _ => rfl) hLo rfl rfl rfl (by rfl) Tryd.underlying25 (by kernel_rfl) rfl (fun b G hb ho => ev_off rfl (HS2.get 2 rfl))) ?_
        refine steps_cons (st_call 1 _ #[.agg (FR () 6 ((t).sc))] rfl rfl rfl (fun _ _ _ _ => rfl) hLo rfl rfl Tryd.func11 rfl rfl (fun b G hb ho => args1 (ev_on hLo 0 rfl HS2.1 rfl (hb 0 (by rfl)))) (fun w hw => (by have hq := great_calls (hIn.below hw); rw [hr1] at hq; exact hq))) ?_
        refine steps_cons (st_run 2 _ rfl rfl hLo rfl rfl (fun _ _ _ _ => rfl) (fun b G w hb ho => exec_move (.inl rfl) (ev_on hLo 1 rfl HS2.1 rfl (hb 1 (by rfl))))) ?_
        refine steps_cons (st_run 3 _ rfl rfl hLo rfl rfl (fun b G hb ho => wanted_is rfl rfl rfl HS2.1 rfl (ev_on hLo 2 rfl HS2.1 rfl (hb 2 (by rfl))) rfl) (fun b G w hb ho => exec_move (.inl rfl) (ev_off rfl (HS2.get 1 rfl)))) ?_
        refine steps_cons (st_run 4 _ rfl rfl hLo rfl rfl (fun b G hb ho => wanted_is rfl rfl rfl HS2.1 rfl (ev_on hLo 2 rfl HS2.1 rfl (hb 2 (by rfl))) rfl) (fun b G w hb ho => exec_lenS Tryd.underlying9 rfl (ev_on hLo 3 rfl HS2.1 rfl (hb 3 (by rfl))))) ?_
        refine steps_cons (st_run 5 _ rfl rfl hLo rfl rfl (fun b G hb ho => wanted_is rfl rfl rfl HS2.1 rfl (ev_on hLo 2 rfl HS2.1 rfl (hb 2 (by rfl))) rfl) (fun b G w hb ho => exec_bin rfl (ev_on hLo 4 rfl HS2.1 rfl (hb 4 (by rfl))) (rfl) (rb_gtr hr2 _ _ _))) ?_
        refine steps_cons (st_run 6 _ rfl rfl hLo rfl rfl (fun _ _ _ _ => rfl) (fun b G w hb ho => exec_pick rfl (ev_on hLo 2 rfl HS2.1 rfl (hb 2 (by rfl))) (ev_on hLo 5 rfl HS2.1 rfl (hb 5 (by rfl))))) ?_
        refine steps_cons (st_run 7 _ rfl rfl hLo rfl rfl (fun _ _ _ _ => rfl) (fun b G w hb ho => exec_move (.inl rfl) (ev_on hLo 6 rfl HS2.1 rfl (hb 6 (by rfl))))) ?_
        refine steps_cons (st_row0 8 0 _ rfl rfl rfl rfl (fun b G hb ho => wanted_is rfl rfl rfl HS2.1 rfl (ev_on hLo 7 rfl HS2.1 rfl (hb 7 (by rfl))) rfl) hLo rfl rfl rfl (by rfl) Tryd.underlying25 (by kernel_rfl) rfl (fun b G hb ho => ev_off rfl (HS2.get 2 rfl))) ?_
        refine steps_cons (st_run 9 _ rfl rfl hLo rfl rfl (fun b G hb ho => wanted_is rfl rfl rfl HS2.1 rfl (ev_on hLo 7 rfl HS2.1 rfl (hb 7 (by rfl))) rfl) (fun b G w hb ho => exec_move (.inl rfl) (ev_off rfl (HS2.get 1 rfl)))) ?_
        refine steps_cons (st_call 10 _ #[.agg (FR () 6 ((t).sc)), .string (key)] rfl rfl rfl (fun b G hb ho => wanted_is rfl rfl rfl HS2.1 rfl (ev_on hLo 7 rfl HS2.1 rfl (hb 7 (by rfl))) rfl) hLo rfl rfl Tryd.func10 rfl rfl (fun b G hb ho => args2 (ev_on hLo 8 rfl HS2.1 rfl (hb 8 (by rfl))) (ev_on hLo 9 rfl HS2.1 rfl (hb 9 (by rfl)))) (fun w hw => level_calls key (hIn.below hw) hR_t.rise (hTab.below hw))) ?_
        refine steps_cons (st_row0 11 0 _ rfl rfl rfl rfl (fun b G hb ho => wanted_is rfl rfl rfl HS2.1 rfl (ev_on hLo 7 rfl HS2.1 rfl (hb 7 (by rfl))) rfl) hLo rfl rfl rfl (by rfl) Tryd.underlying25 (by kernel_rfl) rfl (fun b G hb ho => ev_off rfl (HS2.get 2 rfl))) ?_
        refine steps_cons (st_run 12 _ rfl rfl hLo rfl rfl (fun b G hb ho => wanted_is rfl rfl rfl HS2.1 rfl (ev_on hLo 7 rfl HS2.1 rfl (hb 7 (by rfl))) rfl) (fun b G w hb ho => exec_move (.inl rfl) (ev_off rfl (HS2.get 1 rfl)))) ?_
        refine steps_cons (st_call 13 _ #[.agg (FR () 6 ((t).sc)), .string (key)] rfl rfl rfl (fun b G hb ho => wanted_is rfl rfl rfl HS2.1 rfl (ev_on hLo 7 rfl HS2.1 rfl (hb 7 (by rfl))) rfl) hLo rfl rfl Tryd.func12 rfl rfl (fun b G hb ho => args2 (ev_on hLo 11 rfl HS2.1 rfl (hb 11 (by rfl))) (ev_on hLo 12 rfl HS2.1 rfl (hb 12 (by rfl)))) (fun w hw => rlevel_calls key (hIn.below hw))) ?_
        refine steps_cons (st_run 14 _ rfl rfl hLo rfl rfl (fun b G hb ho => wanted_is rfl rfl rfl HS2.1 rfl (ev_on hLo 7 rfl HS2.1 rfl (hb 7 (by rfl))) rfl) (fun b G w hb ho => exec_bin rfl (ev_on hLo 10 rfl HS2.1 rfl (hb 10 (by rfl))) (ev_on hLo 13 rfl HS2.1 rfl (hb 13 (by rfl))) (rb_eql (beq_self_eq_true _) _ _ _))) ?_
        refine steps_cons (st_run 15 _ rfl rfl hLo rfl rfl (fun _ _ _ _ => rfl) (fun b G w hb ho => exec_pick rfl (ev_on hLo 7 rfl HS2.1 rfl (hb 7 (by rfl))) (ev_on hLo 14 rfl HS2.1 rfl (hb 14 (by rfl))))) ?_
        refine steps_cons (st_run 16 _ rfl rfl hLo rfl rfl (fun _ _ _ _ => rfl) (fun b G w hb ho => exec_move (.inr rfl) (ev_on hLo 15 rfl HS2.1 rfl (hb 15 (by rfl))))) ?_
        exact steps_nil
      clear hLo
      intro G a3 w3 hS hH
      have HS3 : Sl a3 24 [(0, .agg (FR () 6 ((t).sc))), (1, .string (key)), (2, .pointer (some ⟨g1_0, 0, none⟩)), (7, .bool false), (4, .bool true)] := hS
      have HH3 : Held w w3 [⟨g1_0, (), 6, (t).sc, 25⟩] := hH
      clear hS hH HS2 HH2
      refine then_ ?_
      refine wp_ret ?_
      repeat (first | refine then_ret ?_ | refine inBlock_ret' ?_)
      exact b_tmp rfl HS3.2.1 (HS3.get 4 rfl) ⟨law_ret rfl, HH3.1⟩
    · skip
      refine wp_seq ?_
      have hLo : LOk [(0, 8, .val (.agg (FR () 6 ((t).sc)))), (1, 9, .val (.bool false)), (2, 10, .val (.bool false)), (3, 11, .val (.string (key))), (4, 12, .val (.int .i64 (((key).size : Int)))), (5, 13, .val (.bool true)), (6, 14, .val (.bool true)), (7, 15, .val (.bool true)), (8, 16, .val (undef)), (9, 17, .val (undef)), (10, 18, .val (undef)), (11, 19, .val (undef)), (12, 20, .val (undef)), (13, 21, .val (undef)), (14, 22, .val (undef)), (15, 23, .val (.bool true)), (16, 4, .val (.bool true))] := lok (by rfl) (by rfl)
      refine region_ (wE := w) (sz := 24) (n := 17) (B := [0, 1, 3, 7, 15, 31, 63, 127, 255, 255, 1023, 255, 255, 8191, 16383, 32767, 65535]) [0, 1, 2, 3, 4, 5, 6, 7, 8, 9, 10, 11, 12, 13, 14, 15, 16] [(0, .val (.agg (FR () 6 ((t).sc)))), (1, .val (.string (key))), (2, .val (.pointer (some ⟨g1_0, 0, none⟩))), (7, .val (.bool false)), (4, .val (.bool true))] [(0, 8, .val (.agg (FR () 6 ((t).sc)))), (1, 9, .val (.bool false)), (2, 10, .val (.bool false)), (3, 11, .val (.string (key))), (4, 12, .val (.int .i64 (((key).size : Int)))), (5, 13, .val (.bool true)), (6, 14, .val (.bool true)), (7, 15, .val (.bool true)), (8, 16, .val (undef)), (9, 17, .val (undef)), (10, 18, .val (undef)), (11, 19, .val (undef)), (12, 20, .val (undef)), (13, 21, .val (undef)), (14, 22, .val (undef)), (15, 23, .val (.bool true)), (16, 4, .val (.bool true))] [⟨g1_0, none, none, (), 6, (t).sc, (t).sc, 25⟩] (by rfl) rfl tabwlv_3 bitswlv_3 (by kernel_rfl) (by kernel_rfl) HH2 rfl rfl hLo rfl HS2 (slS 0 rfl rfl (slS 1 rfl rfl (slS 2 rfl rfl (slS 4 rfl rfl (slL 16 (d := 16) rfl (trivial)))))) ?_ ?_
      · show ∀ i ∈ [0, 1, 2, 3, 4, 5, 6, 7, 8, 9, 10, 11, 12, 13, 14, 15, 16], _
        refine steps_cons (st_row0 0 0 _ rfl rfl rfl rfl (fun _ _ _ _ => rfl) hLo rfl rfl rfl (by rfl) Tryd.underlying25 (by kernel_rfl) rfl (fun b G hb ho => ev_off rfl (HS2.get 2 rfl))) ?_
        refine steps_cons (st_call 1 _ #[.agg (FR () 6 ((t).sc))] rfl rfl rfl (fun _ _ _ _ => rfl) hLo rfl rfl Tryd.func11 rfl rfl (fun b G hb ho => args1 (ev_on hLo 0 rfl HS2.1 rfl (hb 0 (by rfl)))) (fun w hw => (by have hq := great_calls (hIn.below hw); rw [hr1] at hq; exact hq))) ?_
        refine steps_cons (st_run 2 _ rfl rfl hLo rfl rfl (fun _ _ _ _ => rfl) (fun b G w hb ho => exec_move (.inl rfl) (ev_on hLo 1 rfl HS2.1 rfl (hb 1 (by rfl))))) ?_
        refine steps_cons (st_run 3 _ rfl rfl hLo rfl rfl (fun b G hb ho => wanted_is rfl rfl rfl HS2.1 rfl (ev_on hLo 2 rfl HS2.1 rfl (hb 2 (by rfl))) rfl) (fun b G w hb ho => exec_move (.inl rfl) (ev_off rfl (HS2.get 1 rfl)))) ?_
        refine steps_cons (st_run 4 _ rfl rfl hLo rfl rfl (fun b G hb ho => wanted_is rfl rfl rfl HS2.1 rfl (ev_on hLo 2 rfl HS2.1 rfl (hb 2 (by rfl))) rfl) (fun b G w hb ho => exec_lenS Tryd.underlying9 rfl (ev_on hLo 3 rfl HS2.1 rfl (hb 3 (by rfl))))) ?_
        refine steps_cons (st_run 5 _ rfl rfl hLo rfl rfl (fun b G hb ho => wanted_is rfl rfl rfl HS2.1 rfl (ev_on hLo 2 rfl HS2.1 rfl (hb 2 (by rfl))) rfl) (fun b G w hb ho => exec_bin rfl (ev_on hLo 4 rfl HS2.1 rfl (hb 4 (by rfl))) (rfl) (rb_gtr hr2 _ _ _))) ?_
        refine steps_cons (st_run 6 _ rfl rfl hLo rfl rfl (fun _ _ _ _ => rfl) (fun b G w hb ho => exec_pick rfl (ev_on hLo 2 rfl HS2.1 rfl (hb 2 (by rfl))) (ev_on hLo 5 rfl HS2.1 rfl (hb 5 (by rfl))))) ?_
        refine steps_cons (st_run 7 _ rfl rfl hLo rfl rfl (fun _ _ _ _ => rfl) (fun b G w hb ho => exec_move (.inl rfl) (ev_on hLo 6 rfl HS2.1 rfl (hb 6 (by rfl))))) ?_
        refine steps_cons (st_skip 8 rfl rfl hLo rfl rfl (fun b G hb ho => wanted_is rfl rfl rfl HS2.1 rfl (ev_on hLo 7 rfl HS2.1 rfl (hb 7 (by rfl))) rfl)) ?_
        refine steps_cons (st_skip 9 rfl rfl hLo rfl rfl (fun b G hb ho => wanted_is rfl rfl rfl HS2.1 rfl (ev_on hLo 7 rfl HS2.1 rfl (hb 7 (by rfl))) rfl)) ?_
        refine steps_cons (st_skip 10 rfl rfl hLo rfl rfl (fun b G hb ho => wanted_is rfl rfl rfl HS2.1 rfl (ev_on hLo 7 rfl HS2.1 rfl (hb 7 (by rfl))) rfl)) ?_
        refine steps_cons (st_skip 11 rfl rfl hLo rfl rfl (fun b G hb ho => wanted_is rfl rfl rfl HS2.1 rfl (ev_on hLo 7 rfl HS2.1 rfl (hb 7 (by rfl))) rfl)) ?_
        refine steps_cons (st_skip 12 rfl rfl hLo rfl rfl (fun b G hb ho => wanted_is rfl rfl rfl HS2.1 rfl (ev_on hLo 7 rfl HS2.1 rfl (hb 7 (by rfl))) rfl)) ?_
        refine steps_cons (st_skip 13 rfl rfl hLo rfl rfl (fun b G hb ho => wanted_is rfl rfl rfl HS2.1 rfl (ev_on hLo 7 rfl HS2.1 rfl (hb 7 (by rfl))) rfl)) ?_
        refine steps_cons (st_skip 14 rfl rfl hLo rfl rfl (fun b G hb ho => wanted_is rfl rfl rfl HS2.1 rfl (ev_on hLo 7 rfl HS2.1 rfl (hb 7 (by rfl))) rfl)) ?_
        refine steps_cons (st_run 15 _ rfl rfl hLo rfl rfl (fun _ _ _ _ => rfl) (fun b G w hb ho => exec_pick rfl (ev_on hLo 7 rfl HS2.1 rfl (hb 7 (by rfl))) (rfl))) ?_
        refine steps_cons (st_run 16 _ rfl rfl hLo rfl rfl (fun _ _ _ _ => rfl) (fun b G w hb ho => exec_move (.inr rfl) (ev_on hLo 15 rfl HS2.1 rfl (hb 15 (by rfl))))) ?_
        exact steps_nil
      clear hLo
      intro G a4 w4 hS hH
      have HS4 : Sl a4 24 [(0, .agg (FR () 6 ((t).sc))), (1, .string (key)), (2, .pointer (some ⟨g1_0, 0, none⟩)), (7, .bool false), (4, .bool true)] := hS
      have HH4 : Held w w4 [⟨g1_0, (), 6, (t).sc, 25⟩] := hH
      clear hS hH HS2 HH2
      refine then_ ?_
      refine wp_ret ?_
      repeat (first | refine then_ret ?_ | refine inBlock_ret' ?_)
      exact b_tmp rfl HS4.2.1 (HS4.get 4 rfl) ⟨law_ret rfl, HH4.1⟩
  · skip
    refine wp_seq ?_
    have hLo : LOk [(0, 8, .val (.agg (FR () 6 ((t).sc)))), (1, 9, .val (.bool true)), (2, 10, .val (.bool true)), (3, 11, .val (undef)), (4, 12, .val (undef)), (5, 13, .val (undef)), (6, 14, .val (.bool true)), (7, 15, .val (.bool true)), (8, 16, .val (undef)), (9, 17, .val (undef)), (10, 18, .val (undef)), (11, 19, .val (undef)), (12, 20, .val (undef)), (13, 21, .val (undef)), (14, 22, .val (undef)), (15, 23, .val (.bool true)), (16, 4, .val (.bool true))] := lok (by rfl) (by rfl)
    refine region_ (wE := w) (sz := 24) (n := 17) (B := [0, 1, 3, 7, 15, 31, 63, 127, 255, 255, 1023, 255, 255, 8191, 16383, 32767, 65535]) [0, 1, 2, 3, 4, 5, 6, 7, 8, 9, 10, 11, 12, 13, 14, 15, 16] [(0, .val (.agg (FR () 6 ((t).sc)))), (1, .val (.string (key))), (2, .val (.pointer (some ⟨g1_0, 0, none⟩))), (7, .val (.bool false)), (4, .val (.bool true))] [(0, 8, .val (.agg (FR () 6 ((t).sc)))), (1, 9, .val (.bool true)), (2, 10, .val (.bool true)), (3, 11, .val (undef)), (4, 12, .val (undef)), (5, 13, .val (undef)), (6, 14, .val (.bool true)), (7, 15, .val (.bool true)), (8, 16, .val (undef)), (9, 17, .val (undef)), (10, 18, .val (undef)), (11, 19, .val (undef)), (12, 20, .val (undef)), (13, 21, .val (undef)), (14, 22, .val (undef)), (15, 23, .val (.bool true)), (16, 4, .val (.bool true))] [⟨g1_0, none, none, (), 6, (t).sc, (t).sc, 25⟩] (by rfl) rfl tabwlv_3 bitswlv_3 (by kernel_rfl) (by kernel_rfl) HH2 rfl rfl hLo rfl HS2 (slS 0 rfl rfl (slS 1 rfl rfl (slS 2 rfl rfl (slS 4 rfl rfl (slL 16 (d := 16) rfl (trivial)))))) ?_ ?_
    · show ∀ i ∈ [0, 1, 2, 3, 4, 5, 6, 7, 8, 9, 10, 11, 12, 13, 14, 15, 16], _
      refine steps_cons (st_row0 0 0 _ rfl rfl rfl rfl (fun _ _ _ _ => rfl) hLo rfl rfl rfl (by rfl) Tryd.underlying25 (by kernel_rfl) rfl (fun b G hb ho => ev_off rfl (HS2.get 2 rfl))) ?_
      refine steps_cons (st_call 1 _ #[.agg (FR () 6 ((t).sc))] rfl rfl rfl (fun _ _ _ _ => rfl) hLo rfl rfl Tryd.func11 rfl rfl (fun b G hb ho => args1 (ev_on hLo 0 rfl HS2.1 rfl (hb 0 (by rfl)))) (fun w hw => (by have hq := great_calls (hIn.below hw); rw [hr1] at hq; exact hq))) ?_
      refine steps_cons (st_run 2 _ rfl rfl hLo rfl rfl (fun _ _ _ _ => rfl) (fun b G w hb ho => exec_move (.inl rfl) (ev_on hLo 1 rfl HS2.1 rfl (hb 1 (by rfl))))) ?_
      refine steps_cons (st_skip 3 rfl rfl hLo rfl rfl (fun b G hb ho => wanted_is rfl rfl rfl HS2.1 rfl (ev_on hLo 2 rfl HS2.1 rfl (hb 2 (by rfl))) rfl)) ?_
      refine steps_cons (st_skip 4 rfl rfl hLo rfl rfl (fun b G hb ho => wanted_is rfl rfl rfl HS2.1 rfl (ev_on hLo 2 rfl HS2.1 rfl (hb 2 (by rfl))) rfl)) ?_
      refine steps_cons (st_skip 5 rfl rfl hLo rfl rfl (fun b G hb ho => wanted_is rfl rfl rfl HS2.1 rfl (ev_on hLo 2 rfl HS2.1 rfl (hb 2 (by rfl))) rfl)) ?_
      refine steps_cons (st_run 6 _ rfl rfl hLo rfl rfl (fun _ _ _ _ => rfl) (fun b G w hb ho => exec_pick rfl (ev_on hLo 2 rfl HS2.1 rfl (hb 2 (by rfl))) (rfl))) ?_
      refine steps_cons (st_run 7 _ rfl rfl hLo rfl rfl (fun _ _ _ _ => rfl) (fun b G w hb ho => exec_move (.inl rfl) (ev_on hLo 6 rfl HS2.1 rfl (hb 6 (by rfl))))) ?_
      refine steps_cons (st_skip 8 rfl rfl hLo rfl rfl (fun b G hb ho => wanted_is rfl rfl rfl HS2.1 rfl (ev_on hLo 7 rfl HS2.1 rfl (hb 7 (by rfl))) rfl)) ?_
      refine steps_cons (st_skip 9 rfl rfl hLo rfl rfl (fun b G hb ho => wanted_is rfl rfl rfl HS2.1 rfl (ev_on hLo 7 rfl HS2.1 rfl (hb 7 (by rfl))) rfl)) ?_
      refine steps_cons (st_skip 10 rfl rfl hLo rfl rfl (fun b G hb ho => wanted_is rfl rfl rfl HS2.1 rfl (ev_on hLo 7 rfl HS2.1 rfl (hb 7 (by rfl))) rfl)) ?_
      refine steps_cons (st_skip 11 rfl rfl hLo rfl rfl (fun b G hb ho => wanted_is rfl rfl rfl HS2.1 rfl (ev_on hLo 7 rfl HS2.1 rfl (hb 7 (by rfl))) rfl)) ?_
      refine steps_cons (st_skip 12 rfl rfl hLo rfl rfl (fun b G hb ho => wanted_is rfl rfl rfl HS2.1 rfl (ev_on hLo 7 rfl HS2.1 rfl (hb 7 (by rfl))) rfl)) ?_
      refine steps_cons (st_skip 13 rfl rfl hLo rfl rfl (fun b G hb ho => wanted_is rfl rfl rfl HS2.1 rfl (ev_on hLo 7 rfl HS2.1 rfl (hb 7 (by rfl))) rfl)) ?_
      refine steps_cons (st_skip 14 rfl rfl hLo rfl rfl (fun b G hb ho => wanted_is rfl rfl rfl HS2.1 rfl (ev_on hLo 7 rfl HS2.1 rfl (hb 7 (by rfl))) rfl)) ?_
      refine steps_cons (st_run 15 _ rfl rfl hLo rfl rfl (fun _ _ _ _ => rfl) (fun b G w hb ho => exec_pick rfl (ev_on hLo 7 rfl HS2.1 rfl (hb 7 (by rfl))) (rfl))) ?_
      refine steps_cons (st_run 16 _ rfl rfl hLo rfl rfl (fun _ _ _ _ => rfl) (fun b G w hb ho => exec_move (.inr rfl) (ev_on hLo 15 rfl HS2.1 rfl (hb 15 (by rfl))))) ?_
      exact steps_nil
    clear hLo
    intro G a5 w5 hS hH
    have HS5 : Sl a5 24 [(0, .agg (FR () 6 ((t).sc))), (1, .string (key)), (2, .pointer (some ⟨g1_0, 0, none⟩)), (7, .bool false), (4, .bool true)] := hS
    have HH5 : Held w w5 [⟨g1_0, (), 6, (t).sc, 25⟩] := hH
    clear hS hH HS2 HH2
    refine then_ ?_
    refine wp_ret ?_
    repeat (first | refine then_ret ?_ | refine inBlock_ret' ?_)
    exact b_tmp rfl HS5.2.1 (HS5.get 4 rfl) ⟨law_ret rfl, HH5.1⟩
end Go.Proofs.YtjpiofbedglagaaDoor.P
end
