/- Merged of the texts: Pq, Pr, Ps, Vc, Pt, Pu, WSized (trim.py). -/
import Derived.Laws.OwnMore
import Derived.Deep.AppendSrc
import Derived.SizedLaws
import Derived.ChangeSlices
import Derived.Test.YtjpiofbedglagaaDoorYb2
section
namespace Go.Proofs.YtjpiofbedglagaaDoor.P
set_option linter.unusedVariables false
set_option linter.unusedSimpArgs false
open Go.RowKit Go.ChangeShapes Go.WideShapes Go.Proofs.YtjpiofbedglagaaDoorW.PrintWords Go.Proofs.YtjpiofbedglagaaDoorW.PrintLast Go.Proofs.YtjpiofbedglagaaDoorW.PrintMore
theorem look_hit2 {K : Nat → ByteArray} {key : ByteArray} {n i : Nat} (hi : i < n) (hl : look K key i = none) (he : decide (K i = key) = true) : look K key n = some i := look_is hi (of_decide_eq_true he) (look_none.1 hl)
theorem look_miss2 {K : Nat → ByteArray} {key : ByteArray} {i : Nat} (hl : look K key i = none) (he : decide (K i = key) = false) : look K key (i + 1) = none := by
  unfold look; rw [hl]; simp only [if_neg (of_decide_eq_false he)]
def nmIx (key : ByteArray) : Int := match look NM key 7 with
  | some k => (k : Int)
  | none => -1
theorem nmIx_some {key : ByteArray} {k : Nat} (h : look NM key 7 = some k) : nmIx key = (k : Int) := by unfold nmIx; rw [h]
theorem nmIx_none {key : ByteArray} (h : look NM key 7 = none) : nmIx key = -1 := by unfold nmIx; rw [h]
theorem els_none {key : ByteArray} (h : look NM key 7 = none) : els key = 0 := by
  have h1 := look_none.1 h
  unfold els
  rw [if_neg fun e => h1 0 (by decide) e.symm, if_neg fun e => h1 3 (by decide) e.symm, if_neg fun e => h1 4 (by decide) e.symm, if_neg fun e => h1 5 (by decide) e.symm]
theorem els_some {key : ByteArray} {k : Nat} (h : look NM key 7 = some k) : els key = LV k := by
  obtain ⟨h1, h2, _⟩ := look_some h
  subst h2
  have : k = 0 ∨ k = 1 ∨ k = 2 ∨ k = 3 ∨ k = 4 ∨ k = 5 ∨ k = 6 := by omega
  rcases this with rfl | rfl | rfl | rfl | rfl | rfl | rfl <;> decide
theorem els_no {key : ByteArray} (h : decide (nmIx key < 0) = true) : els key = 0 := by
  cases e : look NM key 7 with
  | none => exact els_none e
  | some k => rw [nmIx_some e] at h; have := of_decide_eq_true h; omega
theorem els_yes {key : ByteArray} (h : decide (nmIx key < 0) = false) : ∃ k : Nat, k < 7 ∧ nmIx key = (k : Int) ∧ els key = LV k := by
  cases e : look NM key 7 with
  | none => rw [nmIx_none e] at h; have := of_decide_eq_false h; omega
  | some k => exact ⟨k, (look_some e).1, nmIx_some e, els_some e⟩
def ent (i : Nat) : List SC := [.s (NM i), .i .i64 (LV i)]
theorem Tab.at {W : World} {a : Addr} (h : ∀ i, i < 7 → W.cell? (a.add (i * 2)) = some (.string (NM i)) ∧ W.cell? (a.add (i * 2 + 1)) = some (.int .i64 (LV i))) {i : Nat} (hi : i < 7) : ∀ j, j < 2 → W.cell? ((a.add (i * 2)).add j) = some (mkc () (lsc (ent i) j)) := by
  intro j hj
  rw [Go.Deep.add_add]
  match j, hj with
  | 0, _ => exact (h i hi).1
  | 1, _ => exact (h i hi).2
theorem Tab.below {W W' : World} (h : Tab W) (hb : Below W.heap.size W W') : Tab W' := by
  obtain ⟨a, c, h1, h2⟩ := h
  exact ⟨a, c, bel_kept hb _ _ h1, fun i hi => ⟨bel_kept hb _ _ (h2 i hi).1, bel_kept hb _ _ (h2 i hi).2⟩⟩
theorem lev_ret {t : T} {key : ByteArray} {z : Int} (h : (t.tell key).2 = false) (hz : els key = z) : Ending.returned (.int .i64 z) = .returned (.int .i64 ((t.told key).getD (els key))) := by
  rw [T.told_tell, h, ← hz]; rfl
theorem lev_ret2 {t : T} {key : ByteArray} (h : (t.tell key).2 = true) : Ending.returned (.int .i64 (t.tell key).1) = .returned (.int .i64 ((t.told key).getD (els key))) := by
  rw [T.told_tell, h]; rfl
theorem row_str {w : World} {g : Nat} {s : ByteArray} {t : TypeId} (h : Row w g () 1 (lsc [.s s]) t) : w.cell? ⟨g, 0, none⟩ = some (.string s) := h.cell 0 (by decide)
theorem lev1_calls {w : World} {ad : Addr} (a key : ByteArray) (z : Int) (hc : w.cell? ad = some (.string key)) : Calls Tryd.prog 27 #[.agg (FR () 2 (lsc [.s (a), .i .i64 (z)])), .pointer (some (ad))] w fun e w' => e = .returned (.bool (decide (a = key))) ∧ Below w.heap.size w w' := by
  refine enter_ 8 Tryd.func27 rfl rfl (fun a0 hS => ?_)
  have HS0 : Sl a0 8 [(0, .agg (FR () 2 (lsc [.s (a), .i .i64 (z)]))), (1, .pointer (some (ad)))] := hS
  have HH0 : Held w w [] := Held.first w
  clear hS
  refine wp_seq ?_
  have hLo : LOk [(0, 2, .new 0 (fun g => .pointer (some ⟨g, 0, none⟩))), (1, 3, .val (.bool false))] := lok (by rfl) (by rfl)
  refine plain_ (wE := w) (sz := 8) (n := 2) [0, 1] [(0, .val (.agg (FR () 2 (lsc [.s (a), .i .i64 (z)])))), (1, .val (.pointer (some (ad)))), (2, .new 0 (fun g => .pointer (some ⟨g, 0, none⟩))), (3, .val (.bool false))] [(0, 2, .new 0 (fun g => .pointer (some ⟨g, 0, none⟩))), (1, 3, .val (.bool false))] [⟨0, some 0, none, (), 2, lsc [.s (a), .i .i64 (z)], lsc [.s (a), .i .i64 (z)], 48⟩] rfl (by rfl) HH0 rfl rfl hLo rfl HS0 (slS 0 rfl rfl (slS 1 rfl rfl (slL 0 (d := 0) rfl (slL 1 (d := 1) rfl (trivial))))) ?_ ?_
  · show ∀ i ∈ [0, 1], _
    refine steps_cons (st_alloc 0 0 () 2 48 none _ _ rfl rfl (fun _ _ _ _ => rfl) rfl hLo rfl rfl rfl rfl (by rfl) (fun b G w hb ho => exec_box rfl (ev_off rfl (HS0.get 0 rfl)) (by kernel_rfl))) ?_
    refine steps_cons (st_run 1 _ rfl rfl hLo rfl rfl (fun _ _ _ _ => rfl) (fun b G w hb ho => exec_move (.inr rfl) (rfl))) ?_
    exact steps_nil
  clear hLo
  intro G a1 w1 hS hH
  have HS1 : Sl a1 8 [(0, .agg (FR () 2 (lsc [.s (a), .i .i64 (z)]))), (1, .pointer (some (ad))), (2, .pointer (some ⟨(G 0), 0, none⟩)), (3, .bool false)] := hS
  have HH1 : Held w w1 [⟨(G 0), (), 2, lsc [.s (a), .i .i64 (z)], 48⟩] := hH
  clear hS hH HS0 HH0
  generalize G 0 = g1_0 at HS1 HH1
  refine then_ ?_
  obtain ⟨r1, hr1⟩ : ∃ r : Bool, (decide ((a : ByteArray) = key)) = r := ⟨_, rfl⟩
  refine wp_seq ?_
  have hLo : LOk [(0, 4, .val (.pointer (some ⟨g1_0, 0, none⟩))), (1, 5, .val (.string (a))), (2, 6, .val (.string (key))), (3, 7, .val (.bool r1)), (4, 3, .val (.bool r1))] := lok (by rfl) (by rfl)
  refine plain_ (wE := w) (sz := 8) (n := 5) [0, 1, 3, 7, 15] [(0, .val (.agg (FR () 2 (lsc [.s (a), .i .i64 (z)])))), (1, .val (.pointer (some (ad)))), (2, .val (.pointer (some ⟨g1_0, 0, none⟩))), (3, .val (.bool r1))] [(0, 4, .val (.pointer (some ⟨g1_0, 0, none⟩))), (1, 5, .val (.string (a))), (2, 6, .val (.string (key))), (3, 7, .val (.bool r1)), (4, 3, .val (.bool r1))] [⟨g1_0, none, none, (), 2, lsc [.s (a), .i .i64 (z)], lsc [.s (a), .i .i64 (z)], 48⟩] rfl (by rfl) HH1 rfl rfl hLo rfl HS1 (slS 0 rfl rfl (slS 1 rfl rfl (slS 2 rfl rfl (slL 4 (d := 4) rfl (trivial))))) ?_ ?_
  · show ∀ i ∈ [0, 1, 2, 3, 4], _
    refine steps_cons (st_run 0 _ rfl rfl hLo rfl rfl (fun _ _ _ _ => rfl) (fun b G w hb ho => exec_field rfl (ev_off rfl (HS1.get 2 rfl)) (by kernel_rfl))) ?_
    refine steps_cons (st_read 1 0 _ _ rfl rfl rfl hLo rfl rfl (fun _ _ _ _ => rfl) (by rfl) (by rfl) (fun b G w hb ho hr => exec_cell hr (Nat.le_of_ble_eq_true rfl) Tryd.underlying9 rfl rfl (ev_on hLo 0 rfl HS1.1 rfl (hb 0 (by rfl))))) ?_
    refine steps_cons (st_at1 2 (ad) _ rfl rfl rfl (fun _ _ _ _ => rfl) hLo rfl rfl Tryd.underlying9 rfl (hc) (fun b G hb ho => ev_off rfl (HS1.get 1 rfl))) ?_
    refine steps_cons (st_run 3 _ rfl rfl hLo rfl rfl (fun _ _ _ _ => rfl) (fun b G w hb ho => exec_bin rfl (ev_on hLo 1 rfl HS1.1 rfl (hb 1 (by rfl))) (ev_on hLo 2 rfl HS1.1 rfl (hb 2 (by rfl))) (rb_seql hr1 _ _ _))) ?_
    refine steps_cons (st_run 4 _ rfl rfl hLo rfl rfl (fun _ _ _ _ => rfl) (fun b G w hb ho => exec_move (.inr rfl) (ev_on hLo 3 rfl HS1.1 rfl (hb 3 (by rfl))))) ?_
    exact steps_nil
  clear hLo
  intro G a2 w2 hS hH
  have HS2 : Sl a2 8 [(0, .agg (FR () 2 (lsc [.s (a), .i .i64 (z)]))), (1, .pointer (some (ad))), (2, .pointer (some ⟨g1_0, 0, none⟩)), (3, .bool r1)] := hS
  have HH2 : Held w w2 [⟨g1_0, (), 2, lsc [.s (a), .i .i64 (z)], 48⟩] := hH
  clear hS hH HS1 HH1
  refine then_ ?_
  refine wp_ret ?_
  repeat (first | refine then_ret ?_ | refine inBlock_ret' ?_)
  exact b_tmp rfl HS2.2.1 (HS2.get 3 rfl) ⟨by rw [hr1], HH2.1⟩
theorem ixf_calls {w : World} {ba ad : Addr} {c : Nat} (key : ByteArray) (hT : ∀ i, i < 7 → w.cell? (ba.add (i * 2)) = some (.string (NM i)) ∧ w.cell? (ba.add (i * 2 + 1)) = some (.int .i64 (LV i))) (hc : w.cell? ad = some (.string key)) : Calls Tryd.prog 26 #[.slice (some ba) (7) (c), .func (.func 27) #[] #[.pointer (some (ad))]] w fun e w' => e = .returned (.int .i64 (nmIx key)) ∧ Below w.heap.size w w' := by
  refine enter_ 19 Tryd.func26 rfl rfl (fun a0 hS => ?_)
  have HS0 : Sl a0 19 [(0, .slice (some ba) (7) (c)), (1, .func (.func 27) #[] #[.pointer (some (ad))])] := hS
  have HH0 : Held w w [] := Held.first w
  clear hS
  refine wp_seq ?_
  have hLo : LOk [(0, 4, .val (.int .i64 (0)))] := lok (by rfl) (by rfl)
  refine plain_ (wE := w) (sz := 19) (n := 1) [0] [(0, .val (.slice (some ba) (7) (c))), (1, .val (.func (.func 27) #[] #[.pointer (some (ad))])), (4, .val (.int .i64 (0)))] [(0, 4, .val (.int .i64 (0)))] [] rfl (by rfl) HH0 rfl rfl hLo rfl HS0 (slS 0 rfl rfl (slS 1 rfl rfl (slL 0 (d := 0) rfl (trivial)))) ?_ ?_
  · show ∀ i ∈ [0], _
    refine steps_cons (st_run 0 _ rfl rfl hLo rfl rfl (fun _ _ _ _ => rfl) (fun b G w hb ho => exec_move (.inr rfl) (rfl))) ?_
    exact steps_nil
  clear hLo
  intro G a1 w1 hS hH
  have HS1 : Sl a1 19 [(0, .slice (some ba) (7) (c)), (1, .func (.func 27) #[] #[.pointer (some (ad))]), (4, .int .i64 (0))] := hS
  have HH1 : Held w w1 [] := hH
  clear hS hH HS0 HH0
  refine then_ ?_
  refine wp_seq ?_
  refine wp_seq ?_
  have hLo : LOk [(0, 6, .val (.slice (some ba) (7) (c))), (1, 7, .val (.int .i64 (7))), (2, 8, .val (.int .i64 (0)))] := lok (by rfl) (by rfl)
  refine plain_ (wE := w) (sz := 19) (n := 3) [0, 1, 3] [(0, .val (.slice (some ba) (7) (c))), (1, .val (.func (.func 27) #[] #[.pointer (some (ad))])), (4, .val (.int .i64 (0))), (7, .val (.int .i64 (7))), (8, .val (.int .i64 (0)))] [(0, 6, .val (.slice (some ba) (7) (c))), (1, 7, .val (.int .i64 (7))), (2, 8, .val (.int .i64 (0)))] [] rfl (by rfl) HH1 rfl rfl hLo rfl HS1 (slS 0 rfl rfl (slS 1 rfl rfl (slS 2 rfl rfl (slL 1 (d := 1) rfl (slL 2 (d := 2) rfl (trivial)))))) ?_ ?_
  · show ∀ i ∈ [0, 1, 2], _
    refine steps_cons (st_run 0 _ rfl rfl hLo rfl rfl (fun _ _ _ _ => rfl) (fun b G w hb ho => exec_move (.inl rfl) (ev_off rfl (HS1.get 0 rfl)))) ?_
    refine steps_cons (st_run 1 _ rfl rfl hLo rfl rfl (fun _ _ _ _ => rfl) (fun b G w hb ho => exec_lenL Tryd.underlying47 rfl (ev_on hLo 0 rfl HS1.1 rfl (hb 0 (by rfl))))) ?_
    refine steps_cons (st_run 2 _ rfl rfl hLo rfl rfl (fun _ _ _ _ => rfl) (fun b G w hb ho => exec_move (.inl rfl) (rfl))) ?_
    exact steps_nil
  clear hLo
  intro G a2 w2 hS hH
  have HS2 : Sl a2 19 [(0, .slice (some ba) (7) (c)), (1, .func (.func 27) #[] #[.pointer (some (ad))]), (4, .int .i64 (0)), (7, .int .i64 (7)), (8, .int .i64 (0))] := hS
  have HH2 : Held w w2 [] := hH
  clear hS hH HS1 HH1
  refine then_ ?_
  refine wp_block ?_
  have hSq0 : Sl _ 19 [(0, .slice (some ba) (7) (c)), (1, .func (.func 27) #[] #[.pointer (some (ad))]), (7, .int .i64 (7)), (8, .int .i64 (0))] := sl_keep HS2 [0, 1, 3, 4] (by rfl)
  refine wp_loop (fun a w' => ∃ i : Nat, i ≤ 7 ∧ look NM key i = none ∧ Sl a 19 [(0, .slice (some ba) (7) (c)), (1, .func (.func 27) #[] #[.pointer (some (ad))]), (7, .int .i64 (7)), (8, .int .i64 ((i : Int)))] ∧ Held w w' []) (fun a w' => 7 - (intOf (a.eval (.tmp 8))).toNat) ⟨0, Nat.zero_le _, rfl, hSq0, HH2⟩ ?_
  clear hSq0 HS2 HH2
  rintro aq0 wq0 ⟨i, hi, hL, HSq0, HHq0⟩
  have hm : (intOf (aq0.eval (.tmp 8))).toNat = i := by rw [(HSq0.get 3 rfl)]; rfl
  rw [hm]
  clear hm
  obtain ⟨r1, hr1⟩ : ∃ r : Bool, (decide (((i : Int) : Int) < 7)) = r := ⟨_, rfl⟩
  refine wp_seq ?_
  have hLo : LOk [(0, 9, .val (.bool r1))] := lok (by rfl) (by rfl)
  refine plain_ (wE := w) (sz := 19) (n := 1) [0] [(0, .val (.slice (some ba) (7) (c))), (1, .val (.func (.func 27) #[] #[.pointer (some (ad))])), (7, .val (.int .i64 (7))), (8, .val (.int .i64 ((i : Int)))), (9, .val (.bool r1))] [(0, 9, .val (.bool r1))] [] rfl (by rfl) HHq0 rfl rfl hLo rfl HSq0 (slS 0 rfl rfl (slS 1 rfl rfl (slS 2 rfl rfl (slS 3 rfl rfl (slL 0 (d := 0) rfl (trivial)))))) ?_ ?_
  · show ∀ i ∈ [0], _
    refine steps_cons (st_run 0 _ rfl rfl hLo rfl rfl (fun _ _ _ _ => rfl) (fun b G w hb ho => exec_bin rfl (ev_off rfl (HSq0.get 3 rfl)) (ev_off rfl (HSq0.get 2 rfl)) (rb_lss hr1 _ _ _))) ?_
    exact steps_nil
  clear hLo
  intro G a3 w3 hS hH
  have HS3 : Sl a3 19 [(0, .slice (some ba) (7) (c)), (1, .func (.func 27) #[] #[.pointer (some (ad))]), (7, .int .i64 (7)), (8, .int .i64 ((i : Int))), (9, .bool r1)] := hS
  have HH3 : Held w w3 [] := hH
  clear hS hH HSq0 HHq0
  refine then_ ?_
  refine wp_seq ?_
  cases r1
  · skip
    have hend : i = 7 := by have := of_decide_eq_false hr1; omega
    rw [hend] at hL
    refine wp_cond_false (HS3.get 4 rfl) ?_
    refine wp_exit ?_
    refine then_exit ?_
    refine then_exit ?_
    refine inBlock_exit ?_
    refine then_ ?_
    refine wp_seq ?_
    have hLo : LOk [(0, 4, .val (.int .i64 (-1)))] := lok (by rfl) (by rfl)
    refine plain_ (wE := w) (sz := 19) (n := 1) [0] [(0, .val (.slice (some ba) (7) (c))), (1, .val (.func (.func 27) #[] #[.pointer (some (ad))])), (7, .val (.int .i64 (7))), (8, .val (.int .i64 ((i : Int)))), (9, .val (.bool false)), (4, .val (.int .i64 (-1)))] [(0, 4, .val (.int .i64 (-1)))] [] rfl (by rfl) HH3 rfl rfl hLo rfl HS3 (slS 0 rfl rfl (slS 1 rfl rfl (slS 2 rfl rfl (slS 3 rfl rfl (slS 4 rfl rfl (slL 0 (d := 0) rfl (trivial))))))) ?_ ?_
    · show ∀ i ∈ [0], _
      refine steps_cons (st_run 0 _ rfl rfl hLo rfl rfl (fun _ _ _ _ => rfl) (fun b G w hb ho => exec_move (.inr rfl) (rfl))) ?_
      exact steps_nil
    clear hLo
    intro G a4 w4 hS hH
    have HS4 : Sl a4 19 [(0, .slice (some ba) (7) (c)), (1, .func (.func 27) #[] #[.pointer (some (ad))]), (7, .int .i64 (7)), (8, .int .i64 ((i : Int))), (9, .bool false), (4, .int .i64 (-1))] := hS
    have HH4 : Held w w4 [] := hH
    clear hS hH HS3 HH3
    refine then_ ?_
    refine wp_ret ?_
    repeat (first | refine then_ret ?_ | refine inBlock_ret' ?_)
    exact b_tmp rfl HS4.2.1 (HS4.get 5 rfl) ⟨by rw [nmIx_none hL], HH4.1⟩
  · skip
    have hlt : i < 7 := by have := of_decide_eq_true hr1; omega
    refine wp_cond_true (HS3.get 4 rfl) ?_
    refine wp_skip ?_
    refine then_ ?_
    refine wp_seq ?_
    refine wp_block ?_
    refine wp_seq ?_
    have hLo : LOk [(0, 10, .val (.int .i64 ((i : Int)))), (1, 5, .val (.int .i64 ((i : Int))))] := lok (by rfl) (by rfl)
    refine plain_ (wE := w) (sz := 19) (n := 2) [0, 1] [(0, .val (.slice (some ba) (7) (c))), (1, .val (.func (.func 27) #[] #[.pointer (some (ad))])), (7, .val (.int .i64 (7))), (8, .val (.int .i64 ((i : Int)))), (9, .val (.bool true)), (5, .val (.int .i64 ((i : Int))))] [(0, 10, .val (.int .i64 ((i : Int)))), (1, 5, .val (.int .i64 ((i : Int))))] [] rfl (by rfl) HH3 rfl rfl hLo rfl HS3 (slS 0 rfl rfl (slS 1 rfl rfl (slS 2 rfl rfl (slS 3 rfl rfl (slS 4 rfl rfl (slL 1 (d := 1) rfl (trivial))))))) ?_ ?_
    · show ∀ i ∈ [0, 1], _
      refine steps_cons (st_run 0 _ rfl rfl hLo rfl rfl (fun _ _ _ _ => rfl) (fun b G w hb ho => exec_move (.inl rfl) (ev_off rfl (HS3.get 3 rfl)))) ?_
      refine steps_cons (st_run 1 _ rfl rfl hLo rfl rfl (fun _ _ _ _ => rfl) (fun b G w hb ho => exec_move (.inr rfl) (ev_on hLo 0 rfl HS3.1 rfl (hb 0 (by rfl))))) ?_
      exact steps_nil
    clear hLo
    intro G a5 w5 hS hH
    have HS5 : Sl a5 19 [(0, .slice (some ba) (7) (c)), (1, .func (.func 27) #[] #[.pointer (some (ad))]), (7, .int .i64 (7)), (8, .int .i64 ((i : Int))), (9, .bool true), (5, .int .i64 ((i : Int)))] := hS
    have HH5 : Held w w5 [] := hH
    clear hS hH HS3 HH3
    refine then_ ?_
    obtain ⟨r2, hr2⟩ : ∃ r : Bool, (decide (NM (i) = key)) = r := ⟨_, rfl⟩
    refine wp_seq ?_
    have hLo : LOk [(0, 11, .val (.func (.func 27) #[] #[.pointer (some (ad))])), (1, 12, .val (.slice (some ba) (7) (c))), (2, 13, .val (.int .i64 ((i : Int)))), (3, 14, .val (.pointer (some (ba.add ((i) * 2))))), (4, 15, .val (.agg (FR () 2 (lsc (ent (i)))))), (5, 16, .val (.bool r2))] := lok (by rfl) (by rfl)
    refine plain_ (wE := w) (sz := 19) (n := 6) [0, 1, 3, 7, 15, 31] [(0, .val (.slice (some ba) (7) (c))), (1, .val (.func (.func 27) #[] #[.pointer (some (ad))])), (7, .val (.int .i64 (7))), (8, .val (.int .i64 ((i : Int)))), (9, .val (.bool true)), (5, .val (.int .i64 ((i : Int)))), (16, .val (.bool r2))] [(0, 11, .val (.func (.func 27) #[] #[.pointer (some (ad))])), (1, 12, .val (.slice (some ba) (7) (c))), (2, 13, .val (.int .i64 ((i : Int)))), (3, 14, .val (.pointer (some (ba.add ((i) * 2))))), (4, 15, .val (.agg (FR () 2 (lsc (ent (i)))))), (5, 16, .val (.bool r2))] [] rfl (by rfl) HH5 rfl rfl hLo rfl HS5 (slS 0 rfl rfl (slS 1 rfl rfl (slS 2 rfl rfl (slS 3 rfl rfl (slS 4 rfl rfl (slS 5 rfl rfl (slL 5 (d := 5) rfl (trivial)))))))) ?_ ?_
    · show ∀ i ∈ [0, 1, 2, 3, 4, 5], _
      refine steps_cons (st_run 0 _ rfl rfl hLo rfl rfl (fun _ _ _ _ => rfl) (fun b G w hb ho => exec_move (.inl rfl) (ev_off rfl (HS5.get 1 rfl)))) ?_
      refine steps_cons (st_run 1 _ rfl rfl hLo rfl rfl (fun _ _ _ _ => rfl) (fun b G w hb ho => exec_move (.inl rfl) (ev_off rfl (HS5.get 0 rfl)))) ?_
      refine steps_cons (st_run 2 _ rfl rfl hLo rfl rfl (fun _ _ _ _ => rfl) (fun b G w hb ho => exec_move (.inl rfl) (ev_off rfl (HS5.get 5 rfl)))) ?_
      refine steps_cons (st_run 3 _ rfl rfl hLo rfl rfl (fun _ _ _ _ => rfl) (fun b G w hb ho => exec_indexAddr rfl (ev_on hLo 1 rfl HS5.1 rfl (hb 1 (by rfl))) (ev_on hLo 2 rfl HS5.1 rfl (hb 2 (by rfl))) (index_sl Tryd.underlying47 (by kernel_rfl) rfl hlt _))) ?_
      refine steps_cons (st_at 4 (ba.add ((i) * 2)) rfl rfl rfl (fun _ _ _ _ => rfl) hLo rfl rfl Tryd.underlying48 (by kernel_rfl) rfl (Tab.at hT hlt) (fun b G hb ho => ev_on hLo 3 rfl HS5.1 rfl (hb 3 (by rfl)))) ?_
      refine steps_cons (st_callV 5 _ #[.agg (FR () 2 (lsc (ent (i))))] #[.pointer (some (ad))] rfl rfl rfl (fun _ _ _ _ => rfl) hLo rfl rfl Tryd.func27 rfl rfl (fun b G hb ho => ev_on hLo 0 rfl HS5.1 rfl (hb 0 (by rfl))) (fun b G hb ho => args1 (ev_on hLo 4 rfl HS5.1 rfl (hb 4 (by rfl)))) (fun w hw => (by have hq := lev1_calls (NM (i)) key (LV (i)) (bel_kept hw _ _ hc); rw [hr2] at hq; exact hq))) ?_
      exact steps_nil
    clear hLo
    intro G a6 w6 hS hH
    have HS6 : Sl a6 19 [(0, .slice (some ba) (7) (c)), (1, .func (.func 27) #[] #[.pointer (some (ad))]), (7, .int .i64 (7)), (8, .int .i64 ((i : Int))), (9, .bool true), (5, .int .i64 ((i : Int))), (16, .bool r2)] := hS
    have HH6 : Held w w6 [] := hH
    clear hS hH HS5 HH5
    refine then_ ?_
    cases r2
    · skip
      refine wp_cond_false (HS6.get 6 rfl) ?_
      refine wp_skip ?_
      refine inBlock_normal ?_
      refine then_ ?_
      have hLo : LOk [(0, 18, .val (.int .i64 (((i + 1 : Nat) : Int)))), (1, 8, .val (.int .i64 (((i + 1 : Nat) : Int))))] := lok (by rfl) (by rfl)
      refine plain_ (wE := w) (sz := 19) (n := 2) [0, 1] [(0, .val (.slice (some ba) (7) (c))), (1, .val (.func (.func 27) #[] #[.pointer (some (ad))])), (7, .val (.int .i64 (7))), (9, .val (.bool true)), (5, .val (.int .i64 ((i : Int)))), (16, .val (.bool false)), (8, .val (.int .i64 (((i + 1 : Nat) : Int))))] [(0, 18, .val (.int .i64 (((i + 1 : Nat) : Int)))), (1, 8, .val (.int .i64 (((i + 1 : Nat) : Int))))] [] rfl (by rfl) HH6 rfl rfl hLo rfl HS6 (slS 0 rfl rfl (slS 1 rfl rfl (slS 2 rfl rfl (slS 4 rfl rfl (slS 5 rfl rfl (slS 6 rfl rfl (slL 1 (d := 1) rfl (trivial)))))))) ?_ ?_
      · show ∀ i ∈ [0, 1], _
        refine steps_cons (st_run 0 _ rfl rfl hLo rfl rfl (fun _ _ _ _ => rfl) (fun b G w hb ho => exec_bin rfl (ev_pre hLo 1 rfl (ho 1 (by rfl)) (HS6.get 3 rfl)) (rfl) (rb_add (w_nat (by omega) (by omega)) _ _ _))) ?_
        refine steps_cons (st_run 1 _ rfl rfl hLo rfl rfl (fun _ _ _ _ => rfl) (fun b G w hb ho => exec_move (.inl rfl) (ev_on hLo 0 rfl HS6.1 rfl (hb 0 (by rfl))))) ?_
        exact steps_nil
      clear hLo
      intro G a7 w7 hS hH
      have HS7 : Sl a7 19 [(0, .slice (some ba) (7) (c)), (1, .func (.func 27) #[] #[.pointer (some (ad))]), (7, .int .i64 (7)), (9, .bool true), (5, .int .i64 ((i : Int))), (16, .bool false), (8, .int .i64 (((i + 1 : Nat) : Int)))] := hS
      have HH7 : Held w w7 [] := hH
      clear hS hH HS6 HH6
      refine then_ ?_
      have hSq0' : Sl _ 19 [(0, .slice (some ba) (7) (c)), (1, .func (.func 27) #[] #[.pointer (some (ad))]), (7, .int .i64 (7)), (8, .int .i64 (((i + 1 : Nat) : Int)))] := sl_keep HS7 [0, 1, 2, 6] (by rfl)
      have hHq0' : Held w _ [] := held_keep HH7 0 rfl
      exact ⟨⟨i + 1, by omega, look_miss2 hL hr2, hSq0', hHq0'⟩, by rw [(hSq0'.get 3 rfl)]; show 7 - (((i + 1 : Nat) : Int)).toNat < 7 - i; omega⟩
    · skip
      refine wp_cond_true (HS6.get 6 rfl) ?_
      refine wp_seq ?_
      have hLo : LOk [(0, 17, .val (.int .i64 ((i : Int)))), (1, 4, .val (.int .i64 ((i : Int))))] := lok (by rfl) (by rfl)
      refine plain_ (wE := w) (sz := 19) (n := 2) [0, 1] [(0, .val (.slice (some ba) (7) (c))), (1, .val (.func (.func 27) #[] #[.pointer (some (ad))])), (7, .val (.int .i64 (7))), (8, .val (.int .i64 ((i : Int)))), (9, .val (.bool true)), (5, .val (.int .i64 ((i : Int)))), (16, .val (.bool true)), (4, .val (.int .i64 ((i : Int))))] [(0, 17, .val (.int .i64 ((i : Int)))), (1, 4, .val (.int .i64 ((i : Int))))] [] rfl (by rfl) HH6 rfl rfl hLo rfl HS6 (slS 0 rfl rfl (slS 1 rfl rfl (slS 2 rfl rfl (slS 3 rfl rfl (slS 4 rfl rfl (slS 5 rfl rfl (slS 6 rfl rfl (slL 1 (d := 1) rfl (trivial))))))))) ?_ ?_
      · show ∀ i ∈ [0, 1], _
        refine steps_cons (st_run 0 _ rfl rfl hLo rfl rfl (fun _ _ _ _ => rfl) (fun b G w hb ho => exec_move (.inl rfl) (ev_off rfl (HS6.get 5 rfl)))) ?_
        refine steps_cons (st_run 1 _ rfl rfl hLo rfl rfl (fun _ _ _ _ => rfl) (fun b G w hb ho => exec_move (.inr rfl) (ev_on hLo 0 rfl HS6.1 rfl (hb 0 (by rfl))))) ?_
        exact steps_nil
      clear hLo
      intro G a8 w8 hS hH
      have HS8 : Sl a8 19 [(0, .slice (some ba) (7) (c)), (1, .func (.func 27) #[] #[.pointer (some (ad))]), (7, .int .i64 (7)), (8, .int .i64 ((i : Int))), (9, .bool true), (5, .int .i64 ((i : Int))), (16, .bool true), (4, .int .i64 ((i : Int)))] := hS
      have HH8 : Held w w8 [] := hH
      clear hS hH HS6 HH6
      refine then_ ?_
      refine wp_ret ?_
      repeat (first | refine then_ret ?_ | refine inBlock_ret' ?_)
      exact b_tmp rfl HS8.2.1 (HS8.get 7 rfl) ⟨by rw [nmIx_some (look_hit2 hlt hL hr2)], HH8.1⟩
theorem level_calls {w : World} {t : T} (key : ByteArray) (hIn : In w t) (hR : Rise t.ml fun k => bl (t.key k)) (hTab : Tab w) : Calls Tryd.prog 10 #[.agg (FR () 6 ((t).sc)), .string (key)] w fun e w' => e = .returned (.int .i64 ((t.told key).getD (els key))) ∧ Below w.heap.size w w' := by
  obtain ⟨ba, c, hG, hT⟩ := hTab
  refine enter_ 26 Tryd.func10 rfl rfl (fun a0 hS => ?_)
  have HS0 : Sl a0 26 [(0, .agg (FR () 6 ((t).sc))), (1, .string (key))] := hS
  have HH0 : Held w w [] := Held.first w
  clear hS
  refine wp_seq ?_
  have hLo : LOk [(0, 2, .new 0 (fun g => .pointer (some ⟨g, 0, none⟩))), (1, 3, .new 1 (fun g => .pointer (some ⟨g, 0, none⟩))), (2, 4, .val (.int .i64 (0)))] := lok (by rfl) (by rfl)
  refine plain_ (wE := w) (sz := 26) (n := 3) [0, 1, 3] [(0, .val (.agg (FR () 6 ((t).sc)))), (1, .val (.string (key))), (2, .new 0 (fun g => .pointer (some ⟨g, 0, none⟩))), (3, .new 1 (fun g => .pointer (some ⟨g, 0, none⟩))), (4, .val (.int .i64 (0)))] [(0, 2, .new 0 (fun g => .pointer (some ⟨g, 0, none⟩))), (1, 3, .new 1 (fun g => .pointer (some ⟨g, 0, none⟩))), (2, 4, .val (.int .i64 (0)))] [⟨0, some 0, none, (), 6, (t).sc, (t).sc, 25⟩, ⟨0, some 1, none, (), 1, lsc [.s (key)], lsc [.s (key)], 9⟩] rfl (by rfl) HH0 rfl rfl hLo rfl HS0 (slS 0 rfl rfl (slS 1 rfl rfl (slL 0 (d := 0) rfl (slL 1 (d := 1) rfl (slL 2 (d := 2) rfl (trivial)))))) ?_ ?_
  · show ∀ i ∈ [0, 1, 2], _
    refine steps_cons (st_alloc 0 0 () 6 25 none _ _ rfl rfl (fun _ _ _ _ => rfl) rfl hLo rfl rfl rfl rfl (by rfl) (fun b G w hb ho => exec_box rfl (ev_off rfl (HS0.get 0 rfl)) (by kernel_rfl))) ?_
    refine steps_cons (st_alloc 1 1 () 1 9 none _ _ rfl rfl (fun _ _ _ _ => rfl) rfl hLo rfl rfl rfl rfl (by rfl) (fun b G w hb ho => exec_box rfl (ev_off rfl (HS0.get 1 rfl)) (by kernel_rfl))) ?_
    refine steps_cons (st_run 2 _ rfl rfl hLo rfl rfl (fun _ _ _ _ => rfl) (fun b G w hb ho => exec_move (.inr rfl) (rfl))) ?_
    exact steps_nil
  clear hLo
  intro G a1 w1 hS hH
  have HS1 : Sl a1 26 [(0, .agg (FR () 6 ((t).sc))), (1, .string (key)), (2, .pointer (some ⟨(G 0), 0, none⟩)), (3, .pointer (some ⟨(G 1), 0, none⟩)), (4, .int .i64 (0))] := hS
  have HH1 : Held w w1 [⟨(G 0), (), 6, (t).sc, 25⟩, ⟨(G 1), (), 1, lsc [.s (key)], 9⟩] := hH
  clear hS hH HS0 HH0
  generalize G 0 = g1_0 at HS1 HH1
  generalize G 1 = g1_1 at HS1 HH1
  refine then_ ?_
  refine wp_seq ?_
  obtain ⟨r1, hr1⟩ : ∃ r : Bool, ((t.tell key).2) = r := ⟨_, rfl⟩
  refine wp_seq ?_
  have hLo : LOk [(0, 9, .val (.agg (FR () 6 ((t).sc)))), (1, 10, .val (.string (key))), (2, 11, .val (.tuple #[.int .i64 ((t.tell key).1), .bool r1])), (3, 8, .val (.tuple #[.int .i64 ((t.tell key).1), .bool r1])), (4, 12, .val (.int .i64 ((t.tell key).1))), (5, 13, .val (.bool r1)), (6, 5, .val (.int .i64 ((t.tell key).1))), (7, 6, .val (.bool r1))] := lok (by rfl) (by rfl)
  refine plain_ (wE := w) (sz := 26) (n := 8) [0, 1, 3, 7, 15, 31, 63, 127] [(0, .val (.agg (FR () 6 ((t).sc)))), (1, .val (.string (key))), (2, .val (.pointer (some ⟨g1_0, 0, none⟩))), (3, .val (.pointer (some ⟨g1_1, 0, none⟩))), (4, .val (.int .i64 (0))), (5, .val (.int .i64 ((t.tell key).1))), (6, .val (.bool r1))] [(0, 9, .val (.agg (FR () 6 ((t).sc)))), (1, 10, .val (.string (key))), (2, 11, .val (.tuple #[.int .i64 ((t.tell key).1), .bool r1])), (3, 8, .val (.tuple #[.int .i64 ((t.tell key).1), .bool r1])), (4, 12, .val (.int .i64 ((t.tell key).1))), (5, 13, .val (.bool r1)), (6, 5, .val (.int .i64 ((t.tell key).1))), (7, 6, .val (.bool r1))] [⟨g1_0, none, none, (), 6, (t).sc, (t).sc, 25⟩, ⟨g1_1, none, none, (), 1, lsc [.s (key)], lsc [.s (key)], 9⟩] rfl (by rfl) HH1 rfl rfl hLo rfl HS1 (slS 0 rfl rfl (slS 1 rfl rfl (slS 2 rfl rfl (slS 3 rfl rfl (slS 4 rfl rfl (slL 6 (d := 6) rfl (slL 7 (d := 7) rfl (trivial)))))))) ?_ ?_
  · show ∀ i ∈ [0, 1, 2, 3, 4, 5, 6, 7], _
    refine steps_cons (st_row0 0 0 _ rfl rfl rfl rfl (fun _ _ _ _ => rfl) hLo rfl rfl rfl (by rfl) Tryd.underlying25 (by kernel_rfl) rfl (fun b G hb ho => ev_off rfl (HS1.get 2 rfl))) ?_
    refine steps_cons (st_read 1 1 _ _ rfl rfl rfl hLo rfl rfl (fun _ _ _ _ => rfl) (by rfl) (by rfl) (fun b G w hb ho hr => exec_cell hr (Nat.le_of_ble_eq_true rfl) Tryd.underlying9 rfl rfl (ev_off rfl (HS1.get 3 rfl)))) ?_
    refine steps_cons (st_call 2 _ #[.agg (FR () 6 ((t).sc)), .string (key)] rfl rfl rfl (fun _ _ _ _ => rfl) hLo rfl rfl Tryd.func25 rfl rfl (fun b G hb ho => args2 (ev_on hLo 0 rfl HS1.1 rfl (hb 0 (by rfl))) (ev_on hLo 1 rfl HS1.1 rfl (hb 1 (by rfl)))) (fun w hw => (by have hq := num_calls key (hIn.below hw) hR; rw [hr1] at hq; exact hq))) ?_
    refine steps_cons (st_run 3 _ rfl rfl hLo rfl rfl (fun _ _ _ _ => rfl) (fun b G w hb ho => exec_move (.inl rfl) (ev_on hLo 2 rfl HS1.1 rfl (hb 2 (by rfl))))) ?_
    refine steps_cons (st_run 4 _ rfl rfl hLo rfl rfl (fun _ _ _ _ => rfl) (fun b G w hb ho => exec_extract rfl (ev_on hLo 3 rfl HS1.1 rfl (hb 3 (by rfl))) (by rfl))) ?_
    refine steps_cons (st_run 5 _ rfl rfl hLo rfl rfl (fun _ _ _ _ => rfl) (fun b G w hb ho => exec_extract rfl (ev_on hLo 3 rfl HS1.1 rfl (hb 3 (by rfl))) (by rfl))) ?_
    refine steps_cons (st_run 6 _ rfl rfl hLo rfl rfl (fun _ _ _ _ => rfl) (fun b G w hb ho => exec_move (.inr rfl) (ev_on hLo 4 rfl HS1.1 rfl (hb 4 (by rfl))))) ?_
    refine steps_cons (st_run 7 _ rfl rfl hLo rfl rfl (fun _ _ _ _ => rfl) (fun b G w hb ho => exec_move (.inr rfl) (ev_on hLo 5 rfl HS1.1 rfl (hb 5 (by rfl))))) ?_
    exact steps_nil
  clear hLo
  intro G a2 w2 hS hH
  have HS2 : Sl a2 26 [(0, .agg (FR () 6 ((t).sc))), (1, .string (key)), (2, .pointer (some ⟨g1_0, 0, none⟩)), (3, .pointer (some ⟨g1_1, 0, none⟩)), (4, .int .i64 (0)), (5, .int .i64 ((t.tell key).1)), (6, .bool r1)] := hS
  have HH2 : Held w w2 [⟨g1_0, (), 6, (t).sc, 25⟩, ⟨g1_1, (), 1, lsc [.s (key)], 9⟩] := hH
  clear hS hH HS1 HH1
  refine then_ ?_
  refine wp_seq ?_
  have hLo : LOk [(0, 14, .val (.bool r1))] := lok (by rfl) (by rfl)
  refine plain_ (wE := w) (sz := 26) (n := 1) [0] [(0, .val (.agg (FR () 6 ((t).sc)))), (1, .val (.string (key))), (2, .val (.pointer (some ⟨g1_0, 0, none⟩))), (3, .val (.pointer (some ⟨g1_1, 0, none⟩))), (4, .val (.int .i64 (0))), (5, .val (.int .i64 ((t.tell key).1))), (6, .val (.bool r1)), (14, .val (.bool r1))] [(0, 14, .val (.bool r1))] [⟨g1_0, none, none, (), 6, (t).sc, (t).sc, 25⟩, ⟨g1_1, none, none, (), 1, lsc [.s (key)], lsc [.s (key)], 9⟩] rfl (by rfl) HH2 rfl rfl hLo rfl HS2 (slS 0 rfl rfl (slS 1 rfl rfl (slS 2 rfl rfl (slS 3 rfl rfl (slS 4 rfl rfl (slS 5 rfl rfl (slS 6 rfl rfl (slL 0 (d := 0) rfl (trivial))))))))) ?_ ?_
  · show ∀ i ∈ [0], _
    refine steps_cons (st_run 0 _ rfl rfl hLo rfl rfl (fun _ _ _ _ => rfl) (fun b G w hb ho => exec_move (.inl rfl) (ev_off rfl (HS2.get 6 rfl)))) ?_
    exact steps_nil
  clear hLo
  intro G a3 w3 hS hH
  have HS3 : Sl a3 26 [(0, .agg (FR () 6 ((t).sc))), (1, .string (key)), (2, .pointer (some ⟨g1_0, 0, none⟩)), (3, .pointer (some ⟨g1_1, 0, none⟩)), (4, .int .i64 (0)), (5, .int .i64 ((t.tell key).1)), (6, .bool r1), (14, .bool r1)] := hS
  have HH3 : Held w w3 [⟨g1_0, (), 6, (t).sc, 25⟩, ⟨g1_1, (), 1, lsc [.s (key)], 9⟩] := hH
  clear hS hH HS2 HH2
  refine then_ ?_
  cases r1
  · skip
    refine wp_cond_false (HS3.get 7 rfl) ?_
    refine wp_skip ?_
    refine then_ ?_
    refine wp_seq ?_
    have hLo : LOk [(0, 16, .val (.slice (some ba) (7) (c))), (1, 17, .val (.func (.func 27) #[] #[.pointer (some ⟨g1_1, 0, none⟩)])), (2, 18, .val (.int .i64 (nmIx key))), (3, 7, .val (.int .i64 (nmIx key)))] := lok (by rfl) (by rfl)
    refine plain_ (wE := w) (sz := 26) (n := 4) [0, 1, 3, 7] [(0, .val (.agg (FR () 6 ((t).sc)))), (1, .val (.string (key))), (2, .val (.pointer (some ⟨g1_0, 0, none⟩))), (3, .val (.pointer (some ⟨g1_1, 0, none⟩))), (4, .val (.int .i64 (0))), (5, .val (.int .i64 ((t.tell key).1))), (6, .val (.bool false)), (14, .val (.bool false)), (7, .val (.int .i64 (nmIx key)))] [(0, 16, .val (.slice (some ba) (7) (c))), (1, 17, .val (.func (.func 27) #[] #[.pointer (some ⟨g1_1, 0, none⟩)])), (2, 18, .val (.int .i64 (nmIx key))), (3, 7, .val (.int .i64 (nmIx key)))] [⟨g1_0, none, none, (), 6, (t).sc, (t).sc, 25⟩, ⟨g1_1, none, none, (), 1, lsc [.s (key)], lsc [.s (key)], 9⟩] rfl (by rfl) HH3 rfl rfl hLo rfl HS3 (slS 0 rfl rfl (slS 1 rfl rfl (slS 2 rfl rfl (slS 3 rfl rfl (slS 4 rfl rfl (slS 5 rfl rfl (slS 6 rfl rfl (slS 7 rfl rfl (slL 3 (d := 3) rfl (trivial)))))))))) ?_ ?_
    · show ∀ i ∈ [0, 1, 2, 3], _
      refine steps_cons (st_at1 0 (⟨0, 0, none⟩) _ rfl rfl rfl (fun _ _ _ _ => rfl) hLo rfl rfl Tryd.underlying47 rfl (hG) (fun b G hb ho => rfl)) ?_
      refine steps_cons (st_run 1 _ rfl rfl hLo rfl rfl (fun _ _ _ _ => rfl) (fun b G w hb ho => exec_makeFunc rfl (ev_off rfl (HS3.get 3 rfl)) (by kernel_rfl))) ?_
      refine steps_cons (st_callRB 2 1 _ _ (fun G => #[.slice (some ba) (7) (c), .func (.func 27) #[] #[.pointer (some ⟨g1_1, 0, none⟩)]]) rfl rfl rfl rfl (fun _ _ _ _ => rfl) hLo rfl rfl (by rfl) (by rfl) Tryd.func26 rfl rfl (fun b G hb ho => args2 (ev_on hLo 0 rfl HS3.1 rfl (hb 0 (by rfl))) (ev_on hLo 1 rfl HS3.1 rfl (hb 1 (by rfl)))) (fun G w hw hr => ixf_calls key (fun i hi => ⟨bel_kept hw _ _ (hT i hi).1, bel_kept hw _ _ (hT i hi).2⟩) (row_str hr))) ?_
      refine steps_cons (st_run 3 _ rfl rfl hLo rfl rfl (fun _ _ _ _ => rfl) (fun b G w hb ho => exec_move (.inr rfl) (ev_on hLo 2 rfl HS3.1 rfl (hb 2 (by rfl))))) ?_
      exact steps_nil
    clear hLo
    intro G a4 w4 hS hH
    have HS4 : Sl a4 26 [(0, .agg (FR () 6 ((t).sc))), (1, .string (key)), (2, .pointer (some ⟨g1_0, 0, none⟩)), (3, .pointer (some ⟨g1_1, 0, none⟩)), (4, .int .i64 (0)), (5, .int .i64 ((t.tell key).1)), (6, .bool false), (14, .bool false), (7, .int .i64 (nmIx key))] := hS
    have HH4 : Held w w4 [⟨g1_0, (), 6, (t).sc, 25⟩, ⟨g1_1, (), 1, lsc [.s (key)], 9⟩] := hH
    clear hS hH HS3 HH3
    refine then_ ?_
    refine wp_seq ?_
    obtain ⟨r2, hr2⟩ : ∃ r : Bool, (decide ((nmIx key : Int) < 0)) = r := ⟨_, rfl⟩
    refine wp_seq ?_
    have hLo : LOk [(0, 19, .val (.int .i64 (nmIx key))), (1, 20, .val (.bool r2))] := lok (by rfl) (by rfl)
    refine plain_ (wE := w) (sz := 26) (n := 2) [0, 1] [(0, .val (.agg (FR () 6 ((t).sc)))), (1, .val (.string (key))), (2, .val (.pointer (some ⟨g1_0, 0, none⟩))), (3, .val (.pointer (some ⟨g1_1, 0, none⟩))), (4, .val (.int .i64 (0))), (5, .val (.int .i64 ((t.tell key).1))), (6, .val (.bool false)), (14, .val (.bool false)), (7, .val (.int .i64 (nmIx key))), (20, .val (.bool r2))] [(0, 19, .val (.int .i64 (nmIx key))), (1, 20, .val (.bool r2))] [⟨g1_0, none, none, (), 6, (t).sc, (t).sc, 25⟩, ⟨g1_1, none, none, (), 1, lsc [.s (key)], lsc [.s (key)], 9⟩] rfl (by rfl) HH4 rfl rfl hLo rfl HS4 (slS 0 rfl rfl (slS 1 rfl rfl (slS 2 rfl rfl (slS 3 rfl rfl (slS 4 rfl rfl (slS 5 rfl rfl (slS 6 rfl rfl (slS 7 rfl rfl (slS 8 rfl rfl (slL 1 (d := 1) rfl (trivial))))))))))) ?_ ?_
    · show ∀ i ∈ [0, 1], _
      refine steps_cons (st_run 0 _ rfl rfl hLo rfl rfl (fun _ _ _ _ => rfl) (fun b G w hb ho => exec_move (.inl rfl) (ev_off rfl (HS4.get 8 rfl)))) ?_
      refine steps_cons (st_run 1 _ rfl rfl hLo rfl rfl (fun _ _ _ _ => rfl) (fun b G w hb ho => exec_bin rfl (ev_on hLo 0 rfl HS4.1 rfl (hb 0 (by rfl))) (rfl) (rb_lss hr2 _ _ _))) ?_
      exact steps_nil
    clear hLo
    intro G a5 w5 hS hH
    have HS5 : Sl a5 26 [(0, .agg (FR () 6 ((t).sc))), (1, .string (key)), (2, .pointer (some ⟨g1_0, 0, none⟩)), (3, .pointer (some ⟨g1_1, 0, none⟩)), (4, .int .i64 (0)), (5, .int .i64 ((t.tell key).1)), (6, .bool false), (14, .bool false), (7, .int .i64 (nmIx key)), (20, .bool r2)] := hS
    have HH5 : Held w w5 [⟨g1_0, (), 6, (t).sc, 25⟩, ⟨g1_1, (), 1, lsc [.s (key)], 9⟩] := hH
    clear hS hH HS4 HH4
    refine then_ ?_
    cases r2
    · skip
      refine wp_cond_false (HS5.get 9 rfl) ?_
      refine wp_skip ?_
      refine then_ ?_
      obtain ⟨k, hk, hke, hel⟩ := els_yes hr2
      refine wp_seq ?_
      have hLo : LOk [(0, 21, .val (.slice (some ba) (7) (c))), (1, 22, .val (.int .i64 (nmIx key))), (2, 23, .val (.pointer (some (ba.add ((k) * 2))))), (3, 24, .val (.pointer (some ((ba.add ((k) * 2)).add 1)))), (4, 25, .val (.int .i64 (LV (k)))), (5, 4, .val (.int .i64 (LV (k))))] := lok (by rfl) (by rfl)
      refine plain_ (wE := w) (sz := 26) (n := 6) [0, 1, 3, 7, 15, 31] [(0, .val (.agg (FR () 6 ((t).sc)))), (1, .val (.string (key))), (2, .val (.pointer (some ⟨g1_0, 0, none⟩))), (3, .val (.pointer (some ⟨g1_1, 0, none⟩))), (5, .val (.int .i64 ((t.tell key).1))), (6, .val (.bool false)), (14, .val (.bool false)), (7, .val (.int .i64 (nmIx key))), (20, .val (.bool false)), (4, .val (.int .i64 (LV (k))))] [(0, 21, .val (.slice (some ba) (7) (c))), (1, 22, .val (.int .i64 (nmIx key))), (2, 23, .val (.pointer (some (ba.add ((k) * 2))))), (3, 24, .val (.pointer (some ((ba.add ((k) * 2)).add 1)))), (4, 25, .val (.int .i64 (LV (k)))), (5, 4, .val (.int .i64 (LV (k))))] [⟨g1_0, none, none, (), 6, (t).sc, (t).sc, 25⟩, ⟨g1_1, none, none, (), 1, lsc [.s (key)], lsc [.s (key)], 9⟩] rfl (by rfl) HH5 rfl rfl hLo rfl HS5 (slS 0 rfl rfl (slS 1 rfl rfl (slS 2 rfl rfl (slS 3 rfl rfl (slS 5 rfl rfl (slS 6 rfl rfl (slS 7 rfl rfl (slS 8 rfl rfl (slS 9 rfl rfl (slL 5 (d := 5) rfl (trivial))))))))))) ?_ ?_
      · show ∀ i ∈ [0, 1, 2, 3, 4, 5], _
        refine steps_cons (st_at1 0 (⟨0, 0, none⟩) _ rfl rfl rfl (fun _ _ _ _ => rfl) hLo rfl rfl Tryd.underlying47 rfl (hG) (fun b G hb ho => rfl)) ?_
        refine steps_cons (st_run 1 _ rfl rfl hLo rfl rfl (fun _ _ _ _ => rfl) (fun b G w hb ho => exec_move (.inl rfl) (ev_off rfl (HS5.get 8 rfl)))) ?_
        refine steps_cons (st_run 2 _ rfl rfl hLo rfl rfl (fun _ _ _ _ => rfl) (fun b G w hb ho => exec_indexAddr rfl (ev_on hLo 0 rfl HS5.1 rfl (hb 0 (by rfl))) (ev_on hLo 1 rfl HS5.1 rfl (hb 1 (by rfl))) ((by rw [hke]; exact index_sl Tryd.underlying47 (by kernel_rfl) rfl hk _)))) ?_
        refine steps_cons (st_run 3 _ rfl rfl hLo rfl rfl (fun _ _ _ _ => rfl) (fun b G w hb ho => exec_field rfl (ev_on hLo 2 rfl HS5.1 rfl (hb 2 (by rfl))) (by kernel_rfl))) ?_
        refine steps_cons (st_at1 4 ((ba.add ((k) * 2)).add 1) _ rfl rfl rfl (fun _ _ _ _ => rfl) hLo rfl rfl Tryd.underlying3 rfl ((Tab.at hT hk 1 (by decide))) (fun b G hb ho => ev_on hLo 3 rfl HS5.1 rfl (hb 3 (by rfl)))) ?_
        refine steps_cons (st_run 5 _ rfl rfl hLo rfl rfl (fun _ _ _ _ => rfl) (fun b G w hb ho => exec_move (.inr rfl) (ev_on hLo 4 rfl HS5.1 rfl (hb 4 (by rfl))))) ?_
        exact steps_nil
      clear hLo
      intro G a6 w6 hS hH
      have HS6 : Sl a6 26 [(0, .agg (FR () 6 ((t).sc))), (1, .string (key)), (2, .pointer (some ⟨g1_0, 0, none⟩)), (3, .pointer (some ⟨g1_1, 0, none⟩)), (5, .int .i64 ((t.tell key).1)), (6, .bool false), (14, .bool false), (7, .int .i64 (nmIx key)), (20, .bool false), (4, .int .i64 (LV (k)))] := hS
      have HH6 : Held w w6 [⟨g1_0, (), 6, (t).sc, 25⟩, ⟨g1_1, (), 1, lsc [.s (key)], 9⟩] := hH
      clear hS hH HS5 HH5
      refine then_ ?_
      refine wp_ret ?_
      repeat (first | refine then_ret ?_ | refine inBlock_ret' ?_)
      exact b_tmp rfl HS6.2.1 (HS6.get 9 rfl) ⟨lev_ret hr1 hel, HH6.1⟩
    · skip
      refine wp_cond_true (HS5.get 9 rfl) ?_
      refine wp_seq ?_
      have hLo : LOk [(0, 4, .val (.int .i64 (0)))] := lok (by rfl) (by rfl)
      refine plain_ (wE := w) (sz := 26) (n := 1) [0] [(0, .val (.agg (FR () 6 ((t).sc)))), (1, .val (.string (key))), (2, .val (.pointer (some ⟨g1_0, 0, none⟩))), (3, .val (.pointer (some ⟨g1_1, 0, none⟩))), (5, .val (.int .i64 ((t.tell key).1))), (6, .val (.bool false)), (14, .val (.bool false)), (7, .val (.int .i64 (nmIx key))), (20, .val (.bool true)), (4, .val (.int .i64 (0)))] [(0, 4, .val (.int .i64 (0)))] [⟨g1_0, none, none, (), 6, (t).sc, (t).sc, 25⟩, ⟨g1_1, none, none, (), 1, lsc [.s (key)], lsc [.s (key)], 9⟩] rfl (by rfl) HH5 rfl rfl hLo rfl HS5 (slS 0 rfl rfl (slS 1 rfl rfl (slS 2 rfl rfl (slS 3 rfl rfl (slS 5 rfl rfl (slS 6 rfl rfl (slS 7 rfl rfl (slS 8 rfl rfl (slS 9 rfl rfl (slL 0 (d := 0) rfl (trivial))))))))))) ?_ ?_
      · show ∀ i ∈ [0], _
        refine steps_cons (st_run 0 _ rfl rfl hLo rfl rfl (fun _ _ _ _ => rfl) (fun b G w hb ho => exec_move (.inr rfl) (rfl))) ?_
        exact steps_nil
      clear hLo
      intro G a7 w7 hS hH
      have HS7 : Sl a7 26 [(0, .agg (FR () 6 ((t).sc))), (1, .string (key)), (2, .pointer (some ⟨g1_0, 0, none⟩)), (3, .pointer (some ⟨g1_1, 0, none⟩)), (5, .int .i64 ((t.tell key).1)), (6, .bool false), (14, .bool false), (7, .int .i64 (nmIx key)), (20, .bool true), (4, .int .i64 (0))] := hS
      have HH7 : Held w w7 [⟨g1_0, (), 6, (t).sc, 25⟩, ⟨g1_1, (), 1, lsc [.s (key)], 9⟩] := hH
      clear hS hH HS5 HH5
      refine then_ ?_
      refine wp_ret ?_
      repeat (first | refine then_ret ?_ | refine inBlock_ret' ?_)
      exact b_tmp rfl HS7.2.1 (HS7.get 9 rfl) ⟨lev_ret hr1 (els_no hr2), HH7.1⟩
  · skip
    refine wp_cond_true (HS3.get 7 rfl) ?_
    refine wp_seq ?_
    have hLo : LOk [(0, 15, .val (.int .i64 ((t.tell key).1))), (1, 4, .val (.int .i64 ((t.tell key).1)))] := lok (by rfl) (by rfl)
    refine plain_ (wE := w) (sz := 26) (n := 2) [0, 1] [(0, .val (.agg (FR () 6 ((t).sc)))), (1, .val (.string (key))), (2, .val (.pointer (some ⟨g1_0, 0, none⟩))), (3, .val (.pointer (some ⟨g1_1, 0, none⟩))), (5, .val (.int .i64 ((t.tell key).1))), (6, .val (.bool true)), (14, .val (.bool true)), (4, .val (.int .i64 ((t.tell key).1)))] [(0, 15, .val (.int .i64 ((t.tell key).1))), (1, 4, .val (.int .i64 ((t.tell key).1)))] [⟨g1_0, none, none, (), 6, (t).sc, (t).sc, 25⟩, ⟨g1_1, none, none, (), 1, lsc [.s (key)], lsc [.s (key)], 9⟩] rfl (by rfl) HH3 rfl rfl hLo rfl HS3 (slS 0 rfl rfl (slS 1 rfl rfl (slS 2 rfl rfl (slS 3 rfl rfl (slS 5 rfl rfl (slS 6 rfl rfl (slS 7 rfl rfl (slL 1 (d := 1) rfl (trivial))))))))) ?_ ?_
    · show ∀ i ∈ [0, 1], _
      refine steps_cons (st_run 0 _ rfl rfl hLo rfl rfl (fun _ _ _ _ => rfl) (fun b G w hb ho => exec_move (.inl rfl) (ev_off rfl (HS3.get 5 rfl)))) ?_
      refine steps_cons (st_run 1 _ rfl rfl hLo rfl rfl (fun _ _ _ _ => rfl) (fun b G w hb ho => exec_move (.inr rfl) (ev_on hLo 0 rfl HS3.1 rfl (hb 0 (by rfl))))) ?_
      exact steps_nil
    clear hLo
    intro G a8 w8 hS hH
    have HS8 : Sl a8 26 [(0, .agg (FR () 6 ((t).sc))), (1, .string (key)), (2, .pointer (some ⟨g1_0, 0, none⟩)), (3, .pointer (some ⟨g1_1, 0, none⟩)), (5, .int .i64 ((t.tell key).1)), (6, .bool true), (14, .bool true), (4, .int .i64 ((t.tell key).1))] := hS
    have HH8 : Held w w8 [⟨g1_0, (), 6, (t).sc, 25⟩, ⟨g1_1, (), 1, lsc [.s (key)], 9⟩] := hH
    clear hS hH HS3 HH3
    refine then_ ?_
    refine wp_ret ?_
    repeat (first | refine then_ret ?_ | refine inBlock_ret' ?_)
    exact b_tmp rfl HS8.2.1 (HS8.get 7 rfl) ⟨lev_ret2 hr1, HH8.1⟩
theorem law_ret {b : Bool} (h : b = true) : Ending.returned (.bool b) = .returned (.bool true) := by rw [h]
def levV (t : T) (k : ByteArray) : Int := (t.told k).getD (els k)
def userV (t : T) (creator user : ByteArray) : Int :=
  if t.kind = 5 then ((t.tbl k_users).told user).getD (levV t k_users_default) else if user = creator then 100 else 0
def sendV (t : T) (kind : ByteArray) (st : Bool) : Int :=
  ((t.tbl k_events).told kind).getD (if st = false then levV t k_events_default else if t.kind = 5 then levV t k_state_default else 0)
theorem told_of_tell {t : T} {key : ByteArray} {d : Int} (h : (t.tell key).2 = true) : (t.told key).getD d = (t.tell key).1 := by rw [T.told_tell, h]; rfl
theorem told_of_no {t : T} {key : ByteArray} {d : Int} (h : (t.tell key).2 = false) : (t.told key).getD d = d := by rw [T.told_tell, h]; rfl
theorem told_of_tell0 {t : T} {key : ByteArray} {d : Int} (h : (t.tell0 key).2 = true) : (t.told key).getD d = (t.tell0 key).1 := by
  rw [T.tell0_2] at h
  rw [T.told_tell, h, T.tell0_1, h]; rfl
theorem told_of_no0 {t : T} {key : ByteArray} {d : Int} (h : (t.tell0 key).2 = false) : (t.told key).getD d = d := by
  rw [T.tell0_2] at h; exact told_of_no h
theorem kind_no {t : T} (h : ((t.kind : Int) != 5) = true) : ¬ t.kind = 5 := by simpa using h
theorem kind_is {t : T} (h : ((t.kind : Int) != 5) = false) : t.kind = 5 := by simpa using h
theorem T.tab_cases (t : T) (k : ByteArray) : t.tab k = t.tbl k ∨ t.tab k = T.empty := by
  unfold T.tab T.tbl
  cases t.get k with
  | none => exact .inr rfl
  | some x =>
    by_cases h : x.kind = 5
    · left; show (if x.kind = 5 then x else T.empty) = x; rw [if_pos h]
    · right; show (if x.kind = 5 then x else T.empty) = T.empty; rw [if_neg h]
theorem In.empty (w : World) : In w T.empty := by
  refine ⟨⟨by decide, by decide, by decide, by decide, by decide, by decide, by decide, by decide, by decide⟩, fun i h => ?_, fun i h => ?_⟩
  · exact absurd h (Nat.not_lt_zero _)
  · exact absurd h (Nat.not_lt_zero _)
theorem In.tab {w : World} {t : T} {k : ByteArray} (h : In w t) : In w (t.tab k) := by
  rcases t.tab_cases k with e | e
  · rw [e]; exact h.tbl
  · rw [e]; exact In.empty w
theorem user_calls {w : World} {t : T} (cr us : ByteArray) (hIn : In w t) (hR : Rises t) (hTab : Tab w) : Calls Tryd.prog 13 #[.agg (FR () 6 ((t).sc)), .string (cr), .string (us)] w fun e w' => e = .returned (.int .i64 (userV t cr us)) ∧ Below w.heap.size w w' := by
  refine enter_ 32 Tryd.func13 rfl rfl (fun a0 hS => ?_)
  have HS0 : Sl a0 32 [(0, .agg (FR () 6 ((t).sc))), (1, .string (cr)), (2, .string (us))] := hS
  have HH0 : Held w w [] := Held.first w
  clear hS
  refine wp_seq ?_
  have hLo : LOk [(0, 3, .new 0 (fun g => .pointer (some ⟨g, 0, none⟩))), (1, 6, .val (.int .i64 (0)))] := lok (by rfl) (by rfl)
  refine plain_ (wE := w) (sz := 32) (n := 2) [0, 1] [(0, .val (.agg (FR () 6 ((t).sc)))), (1, .val (.string (cr))), (2, .val (.string (us))), (3, .new 0 (fun g => .pointer (some ⟨g, 0, none⟩))), (6, .val (.int .i64 (0)))] [(0, 3, .new 0 (fun g => .pointer (some ⟨g, 0, none⟩))), (1, 6, .val (.int .i64 (0)))] [⟨0, some 0, none, (), 6, (t).sc, (t).sc, 25⟩] rfl (by rfl) HH0 rfl rfl hLo rfl HS0 (slS 0 rfl rfl (slS 1 rfl rfl (slS 2 rfl rfl (slL 0 (d := 0) rfl (slL 1 (d := 1) rfl (trivial)))))) ?_ ?_
  · show ∀ i ∈ [0, 1], _
    refine steps_cons (st_alloc 0 0 () 6 25 none _ _ rfl rfl (fun _ _ _ _ => rfl) rfl hLo rfl rfl rfl rfl (by rfl) (fun b G w hb ho => exec_box rfl (ev_off rfl (HS0.get 0 rfl)) (by kernel_rfl))) ?_
    refine steps_cons (st_run 1 _ rfl rfl hLo rfl rfl (fun _ _ _ _ => rfl) (fun b G w hb ho => exec_move (.inr rfl) (rfl))) ?_
    exact steps_nil
  clear hLo
  intro G a1 w1 hS hH
  have HS1 : Sl a1 32 [(0, .agg (FR () 6 ((t).sc))), (1, .string (cr)), (2, .string (us)), (3, .pointer (some ⟨(G 0), 0, none⟩)), (6, .int .i64 (0))] := hS
  have HH1 : Held w w1 [⟨(G 0), (), 6, (t).sc, 25⟩] := hH
  clear hS hH HS0 HH0
  generalize G 0 = g1_0 at HS1 HH1
  refine then_ ?_
  refine wp_seq ?_
  obtain ⟨r1, hr1⟩ : ∃ r : Bool, ((((t).kind : Int) != 5)) = r := ⟨_, rfl⟩
  refine wp_seq ?_
  have hLo : LOk [(0, 11, .val (.pointer (some ⟨g1_0, 0, none⟩))), (1, 12, .val (.int .i64 ((t).kind))), (2, 13, .val (.bool r1))] := lok (by rfl) (by rfl)
  refine plain_ (wE := w) (sz := 32) (n := 3) [0, 1, 3] [(0, .val (.agg (FR () 6 ((t).sc)))), (1, .val (.string (cr))), (2, .val (.string (us))), (3, .val (.pointer (some ⟨g1_0, 0, none⟩))), (6, .val (.int .i64 (0))), (13, .val (.bool r1))] [(0, 11, .val (.pointer (some ⟨g1_0, 0, none⟩))), (1, 12, .val (.int .i64 ((t).kind))), (2, 13, .val (.bool r1))] [⟨g1_0, none, none, (), 6, (t).sc, (t).sc, 25⟩] rfl (by rfl) HH1 rfl rfl hLo rfl HS1 (slS 0 rfl rfl (slS 1 rfl rfl (slS 2 rfl rfl (slS 3 rfl rfl (slS 4 rfl rfl (slL 2 (d := 2) rfl (trivial))))))) ?_ ?_
  · show ∀ i ∈ [0, 1, 2], _
    refine steps_cons (st_run 0 _ rfl rfl hLo rfl rfl (fun _ _ _ _ => rfl) (fun b G w hb ho => exec_field rfl (ev_off rfl (HS1.get 3 rfl)) (by kernel_rfl))) ?_
    refine steps_cons (st_read 1 0 _ _ rfl rfl rfl hLo rfl rfl (fun _ _ _ _ => rfl) (by rfl) (by rfl) (fun b G w hb ho hr => exec_cell hr (Nat.le_of_ble_eq_true rfl) Tryd.underlying3 rfl rfl (ev_on hLo 0 rfl HS1.1 rfl (hb 0 (by rfl))))) ?_
    refine steps_cons (st_run 2 _ rfl rfl hLo rfl rfl (fun _ _ _ _ => rfl) (fun b G w hb ho => exec_bin rfl (ev_on hLo 1 rfl HS1.1 rfl (hb 1 (by rfl))) (rfl) (rb_neq hr1 _ _ _))) ?_
    exact steps_nil
  clear hLo
  intro G a2 w2 hS hH
  have HS2 : Sl a2 32 [(0, .agg (FR () 6 ((t).sc))), (1, .string (cr)), (2, .string (us)), (3, .pointer (some ⟨g1_0, 0, none⟩)), (6, .int .i64 (0)), (13, .bool r1)] := hS
  have HH2 : Held w w2 [⟨g1_0, (), 6, (t).sc, 25⟩] := hH
  clear hS hH HS1 HH1
  refine then_ ?_
  cases r1
  · skip
    refine wp_cond_false (HS2.get 5 rfl) ?_
    refine wp_skip ?_
    refine then_ ?_
    refine wp_seq ?_
    have hLo : LOk [(0, 18, .val (.agg (FR () 6 ((t).sc)))), (1, 19, .val (.tuple #[.agg (FR () 6 ((t.tbl k_users).sc)), .bool ((t.get k_users).isSome)])), (2, 17, .val (.tuple #[.agg (FR () 6 ((t.tbl k_users).sc)), .bool ((t.get k_users).isSome)])), (3, 20, .val (.agg (FR () 6 ((t.tbl k_users).sc)))), (4, 21, .val (.bool ((t.get k_users).isSome))), (5, 7, .new 5 (fun g => .pointer (some ⟨g, 0, none⟩))), (7, 8, .val (.bool ((t.get k_users).isSome)))] := lok (by rfl) (by rfl)
    refine plain_ (wE := w) (sz := 32) (n := 8) [0, 1, 3, 7, 15, 31, 63, 127] [(0, .val (.agg (FR () 6 ((t).sc)))), (1, .val (.string (cr))), (2, .val (.string (us))), (3, .val (.pointer (some ⟨g1_0, 0, none⟩))), (6, .val (.int .i64 (0))), (13, .val (.bool false)), (7, .new 5 (fun g => .pointer (some ⟨g, 0, none⟩)))] [(0, 18, .val (.agg (FR () 6 ((t).sc)))), (1, 19, .val (.tuple #[.agg (FR () 6 ((t.tbl k_users).sc)), .bool ((t.get k_users).isSome)])), (2, 17, .val (.tuple #[.agg (FR () 6 ((t.tbl k_users).sc)), .bool ((t.get k_users).isSome)])), (3, 20, .val (.agg (FR () 6 ((t.tbl k_users).sc)))), (4, 21, .val (.bool ((t.get k_users).isSome))), (5, 7, .new 5 (fun g => .pointer (some ⟨g, 0, none⟩))), (7, 8, .val (.bool ((t.get k_users).isSome)))] [⟨g1_0, none, none, (), 6, (t).sc, (t).sc, 25⟩, ⟨0, some 5, some 6, (), 6, lsc [.i .i64 (0), .b (false), .i .i64 (0), .s (ByteArray.empty), .sl (none) (0) (0), .sl (none) (0) (0)], (t.tbl k_users).sc, 25⟩] rfl (by rfl) HH2 rfl rfl hLo rfl HS2 (slS 0 rfl rfl (slS 1 rfl rfl (slS 2 rfl rfl (slS 3 rfl rfl (slS 4 rfl rfl (slS 5 rfl rfl (slL 5 (d := 5) rfl (trivial)))))))) ?_ ?_
    · show ∀ i ∈ [0, 1, 2, 3, 4, 5, 6, 7], _
      refine steps_cons (st_row0 0 0 _ rfl rfl rfl rfl (fun _ _ _ _ => rfl) hLo rfl rfl rfl (by rfl) Tryd.underlying25 (by kernel_rfl) rfl (fun b G hb ho => ev_off rfl (HS2.get 3 rfl))) ?_
      refine steps_cons (st_call 1 _ #[.agg (FR () 6 ((t).sc)), .string (k_users)] rfl rfl rfl (fun _ _ _ _ => rfl) hLo rfl rfl Tryd.func31 rfl rfl (fun b G hb ho => args2 (ev_on hLo 0 rfl HS2.1 rfl (hb 0 (by rfl))) (rfl)) (fun w hw => get_calls k_users (hIn.below hw) hR.rise)) ?_
      refine steps_cons (st_run 2 _ rfl rfl hLo rfl rfl (fun _ _ _ _ => rfl) (fun b G w hb ho => exec_move (.inl rfl) (ev_on hLo 1 rfl HS2.1 rfl (hb 1 (by rfl))))) ?_
      refine steps_cons (st_run 3 _ rfl rfl hLo rfl rfl (fun _ _ _ _ => rfl) (fun b G w hb ho => exec_extract rfl (ev_on hLo 2 rfl HS2.1 rfl (hb 2 (by rfl))) (by rfl))) ?_
      refine steps_cons (st_run 4 _ rfl rfl hLo rfl rfl (fun _ _ _ _ => rfl) (fun b G w hb ho => exec_extract rfl (ev_on hLo 2 rfl HS2.1 rfl (hb 2 (by rfl))) (by rfl))) ?_
      refine steps_cons (st_alloc 5 1 () 6 25 (some 6) _ _ rfl rfl (fun _ _ _ _ => rfl) rfl hLo rfl rfl rfl rfl (by rfl) (fun b G w _ _ => by kernel_rfl)) ?_
      refine steps_cons (st_store 1 _ rfl rfl rfl rfl rfl (fun _ _ _ _ => rfl) rfl rfl rfl (by rfl) (by kernel_rfl) (fun b G hb ho => ev_on hLo 5 rfl HS2.1 rfl (hb 5 (by rfl))) (fun b G hb ho => ev_on hLo 3 rfl HS2.1 rfl (hb 3 (by rfl)))) ?_
      refine steps_cons (st_run 6 _ rfl rfl hLo rfl rfl (fun _ _ _ _ => rfl) (fun b G w hb ho => exec_move (.inr rfl) (ev_on hLo 4 rfl HS2.1 rfl (hb 4 (by rfl))))) ?_
      exact steps_nil
    clear hLo
    intro G a3 w3 hS hH
    have HS3 : Sl a3 32 [(0, .agg (FR () 6 ((t).sc))), (1, .string (cr)), (2, .string (us)), (3, .pointer (some ⟨g1_0, 0, none⟩)), (6, .int .i64 (0)), (13, .bool false), (7, .pointer (some ⟨(G 5), 0, none⟩))] := hS
    have HH3 : Held w w3 [⟨g1_0, (), 6, (t).sc, 25⟩, ⟨(G 5), (), 6, (t.tbl k_users).sc, 25⟩] := hH
    clear hS hH HS2 HH2
    generalize G 5 = g3_5 at HS3 HH3
    refine then_ ?_
    refine wp_seq ?_
    obtain ⟨r2, hr2⟩ : ∃ r : Bool, (((t.tbl k_users).tell us).2) = r := ⟨_, rfl⟩
    refine wp_seq ?_
    have hLo : LOk [(0, 23, .val (.agg (FR () 6 ((t.tbl k_users).sc)))), (1, 24, .val (.string (us))), (2, 25, .val (.tuple #[.int .i64 (((t.tbl k_users).tell us).1), .bool r2])), (3, 22, .val (.tuple #[.int .i64 (((t.tbl k_users).tell us).1), .bool r2])), (4, 26, .val (.int .i64 (((t.tbl k_users).tell us).1))), (5, 27, .val (.bool r2)), (6, 9, .val (.int .i64 (((t.tbl k_users).tell us).1))), (7, 10, .val (.bool r2))] := lok (by rfl) (by rfl)
    refine plain_ (wE := w) (sz := 32) (n := 8) [0, 1, 3, 7, 15, 31, 63, 127] [(0, .val (.agg (FR () 6 ((t).sc)))), (1, .val (.string (cr))), (2, .val (.string (us))), (3, .val (.pointer (some ⟨g1_0, 0, none⟩))), (6, .val (.int .i64 (0))), (13, .val (.bool false)), (7, .val (.pointer (some ⟨g3_5, 0, none⟩))), (9, .val (.int .i64 (((t.tbl k_users).tell us).1))), (10, .val (.bool r2))] [(0, 23, .val (.agg (FR () 6 ((t.tbl k_users).sc)))), (1, 24, .val (.string (us))), (2, 25, .val (.tuple #[.int .i64 (((t.tbl k_users).tell us).1), .bool r2])), (3, 22, .val (.tuple #[.int .i64 (((t.tbl k_users).tell us).1), .bool r2])), (4, 26, .val (.int .i64 (((t.tbl k_users).tell us).1))), (5, 27, .val (.bool r2)), (6, 9, .val (.int .i64 (((t.tbl k_users).tell us).1))), (7, 10, .val (.bool r2))] [⟨g1_0, none, none, (), 6, (t).sc, (t).sc, 25⟩, ⟨g3_5, none, none, (), 6, (t.tbl k_users).sc, (t.tbl k_users).sc, 25⟩] rfl (by rfl) HH3 rfl rfl hLo rfl HS3 (slS 0 rfl rfl (slS 1 rfl rfl (slS 2 rfl rfl (slS 3 rfl rfl (slS 4 rfl rfl (slS 5 rfl rfl (slS 6 rfl rfl (slL 6 (d := 6) rfl (slL 7 (d := 7) rfl (trivial)))))))))) ?_ ?_
    · show ∀ i ∈ [0, 1, 2, 3, 4, 5, 6, 7], _
      refine steps_cons (st_row0 0 1 _ rfl rfl rfl rfl (fun _ _ _ _ => rfl) hLo rfl rfl rfl (by rfl) Tryd.underlying25 (by kernel_rfl) rfl (fun b G hb ho => ev_off rfl (HS3.get 6 rfl))) ?_
      refine steps_cons (st_run 1 _ rfl rfl hLo rfl rfl (fun _ _ _ _ => rfl) (fun b G w hb ho => exec_move (.inl rfl) (ev_off rfl (HS3.get 2 rfl)))) ?_
      refine steps_cons (st_call 2 _ #[.agg (FR () 6 ((t.tbl k_users).sc)), .string (us)] rfl rfl rfl (fun _ _ _ _ => rfl) hLo rfl rfl Tryd.func25 rfl rfl (fun b G hb ho => args2 (ev_on hLo 0 rfl HS3.1 rfl (hb 0 (by rfl))) (ev_on hLo 1 rfl HS3.1 rfl (hb 1 (by rfl)))) (fun w hw => (by have hq := num_calls (t := t.tbl k_users) us (hIn.tbl.below hw) hR.tbl.rise; rw [hr2] at hq; exact hq))) ?_
      refine steps_cons (st_run 3 _ rfl rfl hLo rfl rfl (fun _ _ _ _ => rfl) (fun b G w hb ho => exec_move (.inl rfl) (ev_on hLo 2 rfl HS3.1 rfl (hb 2 (by rfl))))) ?_
      refine steps_cons (st_run 4 _ rfl rfl hLo rfl rfl (fun _ _ _ _ => rfl) (fun b G w hb ho => exec_extract rfl (ev_on hLo 3 rfl HS3.1 rfl (hb 3 (by rfl))) (by rfl))) ?_
      refine steps_cons (st_run 5 _ rfl rfl hLo rfl rfl (fun _ _ _ _ => rfl) (fun b G w hb ho => exec_extract rfl (ev_on hLo 3 rfl HS3.1 rfl (hb 3 (by rfl))) (by rfl))) ?_
      refine steps_cons (st_run 6 _ rfl rfl hLo rfl rfl (fun _ _ _ _ => rfl) (fun b G w hb ho => exec_move (.inr rfl) (ev_on hLo 4 rfl HS3.1 rfl (hb 4 (by rfl))))) ?_
      refine steps_cons (st_run 7 _ rfl rfl hLo rfl rfl (fun _ _ _ _ => rfl) (fun b G w hb ho => exec_move (.inr rfl) (ev_on hLo 5 rfl HS3.1 rfl (hb 5 (by rfl))))) ?_
      exact steps_nil
    clear hLo
    intro G a4 w4 hS hH
    have HS4 : Sl a4 32 [(0, .agg (FR () 6 ((t).sc))), (1, .string (cr)), (2, .string (us)), (3, .pointer (some ⟨g1_0, 0, none⟩)), (6, .int .i64 (0)), (13, .bool false), (7, .pointer (some ⟨g3_5, 0, none⟩)), (9, .int .i64 (((t.tbl k_users).tell us).1)), (10, .bool r2)] := hS
    have HH4 : Held w w4 [⟨g1_0, (), 6, (t).sc, 25⟩, ⟨g3_5, (), 6, (t.tbl k_users).sc, 25⟩] := hH
    clear hS hH HS3 HH3
    refine then_ ?_
    refine wp_seq ?_
    have hLo : LOk [(0, 28, .val (.bool r2))] := lok (by rfl) (by rfl)
    refine plain_ (wE := w) (sz := 32) (n := 1) [0] [(0, .val (.agg (FR () 6 ((t).sc)))), (1, .val (.string (cr))), (2, .val (.string (us))), (3, .val (.pointer (some ⟨g1_0, 0, none⟩))), (6, .val (.int .i64 (0))), (13, .val (.bool false)), (7, .val (.pointer (some ⟨g3_5, 0, none⟩))), (9, .val (.int .i64 (((t.tbl k_users).tell us).1))), (10, .val (.bool r2)), (28, .val (.bool r2))] [(0, 28, .val (.bool r2))] [⟨g1_0, none, none, (), 6, (t).sc, (t).sc, 25⟩, ⟨g3_5, none, none, (), 6, (t.tbl k_users).sc, (t.tbl k_users).sc, 25⟩] rfl (by rfl) HH4 rfl rfl hLo rfl HS4 (slS 0 rfl rfl (slS 1 rfl rfl (slS 2 rfl rfl (slS 3 rfl rfl (slS 4 rfl rfl (slS 5 rfl rfl (slS 6 rfl rfl (slS 7 rfl rfl (slS 8 rfl rfl (slL 0 (d := 0) rfl (trivial))))))))))) ?_ ?_
    · show ∀ i ∈ [0], _
      refine steps_cons (st_run 0 _ rfl rfl hLo rfl rfl (fun _ _ _ _ => rfl) (fun b G w hb ho => exec_move (.inl rfl) (ev_off rfl (HS4.get 8 rfl)))) ?_
      exact steps_nil
    clear hLo
    intro G a5 w5 hS hH
    have HS5 : Sl a5 32 [(0, .agg (FR () 6 ((t).sc))), (1, .string (cr)), (2, .string (us)), (3, .pointer (some ⟨g1_0, 0, none⟩)), (6, .int .i64 (0)), (13, .bool false), (7, .pointer (some ⟨g3_5, 0, none⟩)), (9, .int .i64 (((t.tbl k_users).tell us).1)), (10, .bool r2), (28, .bool r2)] := hS
    have HH5 : Held w w5 [⟨g1_0, (), 6, (t).sc, 25⟩, ⟨g3_5, (), 6, (t.tbl k_users).sc, 25⟩] := hH
    clear hS hH HS4 HH4
    refine then_ ?_
    cases r2
    · skip
      refine wp_cond_false (HS5.get 9 rfl) ?_
      refine wp_skip ?_
      refine then_ ?_
      refine wp_seq ?_
      have hLo : LOk [(0, 30, .val (.agg (FR () 6 ((t).sc)))), (1, 31, .val (.int .i64 (levV t k_users_default))), (2, 6, .val (.int .i64 (levV t k_users_default)))] := lok (by rfl) (by rfl)
      refine plain_ (wE := w) (sz := 32) (n := 3) [0, 1, 3] [(0, .val (.agg (FR () 6 ((t).sc)))), (1, .val (.string (cr))), (2, .val (.string (us))), (3, .val (.pointer (some ⟨g1_0, 0, none⟩))), (13, .val (.bool false)), (7, .val (.pointer (some ⟨g3_5, 0, none⟩))), (9, .val (.int .i64 (((t.tbl k_users).tell us).1))), (10, .val (.bool false)), (28, .val (.bool false)), (6, .val (.int .i64 (levV t k_users_default)))] [(0, 30, .val (.agg (FR () 6 ((t).sc)))), (1, 31, .val (.int .i64 (levV t k_users_default))), (2, 6, .val (.int .i64 (levV t k_users_default)))] [⟨g1_0, none, none, (), 6, (t).sc, (t).sc, 25⟩, ⟨g3_5, none, none, (), 6, (t.tbl k_users).sc, (t.tbl k_users).sc, 25⟩] rfl (by rfl) HH5 rfl rfl hLo rfl HS5 (slS 0 rfl rfl (slS 1 rfl rfl (slS 2 rfl rfl (slS 3 rfl rfl (slS 5 rfl rfl (slS 6 rfl rfl (slS 7 rfl rfl (slS 8 rfl rfl (slS 9 rfl rfl (slL 2 (d := 2) rfl (trivial))))))))))) ?_ ?_
      · show ∀ i ∈ [0, 1, 2], _
        refine steps_cons (st_row0 0 0 _ rfl rfl rfl rfl (fun _ _ _ _ => rfl) hLo rfl rfl rfl (by rfl) Tryd.underlying25 (by kernel_rfl) rfl (fun b G hb ho => ev_off rfl (HS5.get 3 rfl))) ?_
        refine steps_cons (st_call 1 _ #[.agg (FR () 6 ((t).sc)), .string (k_users_default)] rfl rfl rfl (fun _ _ _ _ => rfl) hLo rfl rfl Tryd.func10 rfl rfl (fun b G hb ho => args2 (ev_on hLo 0 rfl HS5.1 rfl (hb 0 (by rfl))) (rfl)) (fun w hw => level_calls k_users_default (hIn.below hw) hR.rise (hTab.below hw))) ?_
        refine steps_cons (st_run 2 _ rfl rfl hLo rfl rfl (fun _ _ _ _ => rfl) (fun b G w hb ho => exec_move (.inr rfl) (ev_on hLo 1 rfl HS5.1 rfl (hb 1 (by rfl))))) ?_
        exact steps_nil
      clear hLo
      intro G a6 w6 hS hH
      have HS6 : Sl a6 32 [(0, .agg (FR () 6 ((t).sc))), (1, .string (cr)), (2, .string (us)), (3, .pointer (some ⟨g1_0, 0, none⟩)), (13, .bool false), (7, .pointer (some ⟨g3_5, 0, none⟩)), (9, .int .i64 (((t.tbl k_users).tell us).1)), (10, .bool false), (28, .bool false), (6, .int .i64 (levV t k_users_default))] := hS
      have HH6 : Held w w6 [⟨g1_0, (), 6, (t).sc, 25⟩, ⟨g3_5, (), 6, (t.tbl k_users).sc, 25⟩] := hH
      clear hS hH HS5 HH5
      refine then_ ?_
      refine wp_ret ?_
      repeat (first | refine then_ret ?_ | refine inBlock_ret' ?_)
      exact b_tmp rfl HS6.2.1 (HS6.get 9 rfl) ⟨int_ret (by unfold userV; rw [if_pos (kind_is hr1), told_of_no hr2]), HH6.1⟩
    · skip
      refine wp_cond_true (HS5.get 9 rfl) ?_
      refine wp_seq ?_
      have hLo : LOk [(0, 29, .val (.int .i64 (((t.tbl k_users).tell us).1))), (1, 6, .val (.int .i64 (((t.tbl k_users).tell us).1)))] := lok (by rfl) (by rfl)
      refine plain_ (wE := w) (sz := 32) (n := 2) [0, 1] [(0, .val (.agg (FR () 6 ((t).sc)))), (1, .val (.string (cr))), (2, .val (.string (us))), (3, .val (.pointer (some ⟨g1_0, 0, none⟩))), (13, .val (.bool false)), (7, .val (.pointer (some ⟨g3_5, 0, none⟩))), (9, .val (.int .i64 (((t.tbl k_users).tell us).1))), (10, .val (.bool true)), (28, .val (.bool true)), (6, .val (.int .i64 (((t.tbl k_users).tell us).1)))] [(0, 29, .val (.int .i64 (((t.tbl k_users).tell us).1))), (1, 6, .val (.int .i64 (((t.tbl k_users).tell us).1)))] [⟨g1_0, none, none, (), 6, (t).sc, (t).sc, 25⟩, ⟨g3_5, none, none, (), 6, (t.tbl k_users).sc, (t.tbl k_users).sc, 25⟩] rfl (by rfl) HH5 rfl rfl hLo rfl HS5 (slS 0 rfl rfl (slS 1 rfl rfl (slS 2 rfl rfl (slS 3 rfl rfl (slS 5 rfl rfl (slS 6 rfl rfl (slS 7 rfl rfl (slS 8 rfl rfl (slS 9 rfl rfl (slL 1 (d := 1) rfl (trivial))))))))))) ?_ ?_
      · show ∀ i ∈ [0, 1], _
        refine steps_cons (st_run 0 _ rfl rfl hLo rfl rfl (fun _ _ _ _ => rfl) (fun b G w hb ho => exec_move (.inl rfl) (ev_off rfl (HS5.get 7 rfl)))) ?_
        refine steps_cons (st_run 1 _ rfl rfl hLo rfl rfl (fun _ _ _ _ => rfl) (fun b G w hb ho => exec_move (.inr rfl) (ev_on hLo 0 rfl HS5.1 rfl (hb 0 (by rfl))))) ?_
        exact steps_nil
      clear hLo
      intro G a7 w7 hS hH
      have HS7 : Sl a7 32 [(0, .agg (FR () 6 ((t).sc))), (1, .string (cr)), (2, .string (us)), (3, .pointer (some ⟨g1_0, 0, none⟩)), (13, .bool false), (7, .pointer (some ⟨g3_5, 0, none⟩)), (9, .int .i64 (((t.tbl k_users).tell us).1)), (10, .bool true), (28, .bool true), (6, .int .i64 (((t.tbl k_users).tell us).1))] := hS
      have HH7 : Held w w7 [⟨g1_0, (), 6, (t).sc, 25⟩, ⟨g3_5, (), 6, (t.tbl k_users).sc, 25⟩] := hH
      clear hS hH HS5 HH5
      refine then_ ?_
      refine wp_ret ?_
      repeat (first | refine then_ret ?_ | refine inBlock_ret' ?_)
      exact b_tmp rfl HS7.2.1 (HS7.get 9 rfl) ⟨int_ret (by unfold userV; rw [if_pos (kind_is hr1), told_of_tell hr2]), HH7.1⟩
  · skip
    refine wp_cond_true (HS2.get 5 rfl) ?_
    refine wp_seq ?_
    obtain ⟨r3, hr3⟩ : ∃ r : Bool, (decide ((us : ByteArray) = cr)) = r := ⟨_, rfl⟩
    refine wp_seq ?_
    have hLo : LOk [(0, 14, .val (.string (us))), (1, 15, .val (.string (cr))), (2, 16, .val (.bool r3))] := lok (by rfl) (by rfl)
    refine plain_ (wE := w) (sz := 32) (n := 3) [0, 1, 3] [(0, .val (.agg (FR () 6 ((t).sc)))), (1, .val (.string (cr))), (2, .val (.string (us))), (3, .val (.pointer (some ⟨g1_0, 0, none⟩))), (6, .val (.int .i64 (0))), (13, .val (.bool true)), (16, .val (.bool r3))] [(0, 14, .val (.string (us))), (1, 15, .val (.string (cr))), (2, 16, .val (.bool r3))] [⟨g1_0, none, none, (), 6, (t).sc, (t).sc, 25⟩] rfl (by rfl) HH2 rfl rfl hLo rfl HS2 (slS 0 rfl rfl (slS 1 rfl rfl (slS 2 rfl rfl (slS 3 rfl rfl (slS 4 rfl rfl (slS 5 rfl rfl (slL 2 (d := 2) rfl (trivial)))))))) ?_ ?_
    · show ∀ i ∈ [0, 1, 2], _
      refine steps_cons (st_run 0 _ rfl rfl hLo rfl rfl (fun _ _ _ _ => rfl) (fun b G w hb ho => exec_move (.inl rfl) (ev_off rfl (HS2.get 2 rfl)))) ?_
      refine steps_cons (st_run 1 _ rfl rfl hLo rfl rfl (fun _ _ _ _ => rfl) (fun b G w hb ho => exec_move (.inl rfl) (ev_off rfl (HS2.get 1 rfl)))) ?_
      refine steps_cons (st_run 2 _ rfl rfl hLo rfl rfl (fun _ _ _ _ => rfl) (fun b G w hb ho => exec_bin rfl (ev_on hLo 0 rfl HS2.1 rfl (hb 0 (by rfl))) (ev_on hLo 1 rfl HS2.1 rfl (hb 1 (by rfl))) (rb_seql hr3 _ _ _))) ?_
      exact steps_nil
    clear hLo
    intro G a8 w8 hS hH
    have HS8 : Sl a8 32 [(0, .agg (FR () 6 ((t).sc))), (1, .string (cr)), (2, .string (us)), (3, .pointer (some ⟨g1_0, 0, none⟩)), (6, .int .i64 (0)), (13, .bool true), (16, .bool r3)] := hS
    have HH8 : Held w w8 [⟨g1_0, (), 6, (t).sc, 25⟩] := hH
    clear hS hH HS2 HH2
    refine then_ ?_
    cases r3
    · skip
      refine wp_cond_false (HS8.get 6 rfl) ?_
      refine wp_skip ?_
      refine then_ ?_
      refine wp_seq ?_
      have hLo : LOk [(0, 6, .val (.int .i64 (0)))] := lok (by rfl) (by rfl)
      refine plain_ (wE := w) (sz := 32) (n := 1) [0] [(0, .val (.agg (FR () 6 ((t).sc)))), (1, .val (.string (cr))), (2, .val (.string (us))), (3, .val (.pointer (some ⟨g1_0, 0, none⟩))), (13, .val (.bool true)), (16, .val (.bool false)), (6, .val (.int .i64 (0)))] [(0, 6, .val (.int .i64 (0)))] [⟨g1_0, none, none, (), 6, (t).sc, (t).sc, 25⟩] rfl (by rfl) HH8 rfl rfl hLo rfl HS8 (slS 0 rfl rfl (slS 1 rfl rfl (slS 2 rfl rfl (slS 3 rfl rfl (slS 5 rfl rfl (slS 6 rfl rfl (slL 0 (d := 0) rfl (trivial)))))))) ?_ ?_
      · show ∀ i ∈ [0], _
        refine steps_cons (st_run 0 _ rfl rfl hLo rfl rfl (fun _ _ _ _ => rfl) (fun b G w hb ho => exec_move (.inr rfl) (rfl))) ?_
        exact steps_nil
      clear hLo
      intro G a9 w9 hS hH
      have HS9 : Sl a9 32 [(0, .agg (FR () 6 ((t).sc))), (1, .string (cr)), (2, .string (us)), (3, .pointer (some ⟨g1_0, 0, none⟩)), (13, .bool true), (16, .bool false), (6, .int .i64 (0))] := hS
      have HH9 : Held w w9 [⟨g1_0, (), 6, (t).sc, 25⟩] := hH
      clear hS hH HS8 HH8
      refine then_ ?_
      refine wp_ret ?_
      repeat (first | refine then_ret ?_ | refine inBlock_ret' ?_)
      exact b_tmp rfl HS9.2.1 (HS9.get 6 rfl) ⟨int_ret (by unfold userV; rw [if_neg (kind_no hr1), if_neg (of_decide_eq_false hr3)]), HH9.1⟩
    · skip
      refine wp_cond_true (HS8.get 6 rfl) ?_
      refine wp_seq ?_
      have hLo : LOk [(0, 6, .val (.int .i64 (100)))] := lok (by rfl) (by rfl)
      refine plain_ (wE := w) (sz := 32) (n := 1) [0] [(0, .val (.agg (FR () 6 ((t).sc)))), (1, .val (.string (cr))), (2, .val (.string (us))), (3, .val (.pointer (some ⟨g1_0, 0, none⟩))), (13, .val (.bool true)), (16, .val (.bool true)), (6, .val (.int .i64 (100)))] [(0, 6, .val (.int .i64 (100)))] [⟨g1_0, none, none, (), 6, (t).sc, (t).sc, 25⟩] rfl (by rfl) HH8 rfl rfl hLo rfl HS8 (slS 0 rfl rfl (slS 1 rfl rfl (slS 2 rfl rfl (slS 3 rfl rfl (slS 5 rfl rfl (slS 6 rfl rfl (slL 0 (d := 0) rfl (trivial)))))))) ?_ ?_
      · show ∀ i ∈ [0], _
        refine steps_cons (st_run 0 _ rfl rfl hLo rfl rfl (fun _ _ _ _ => rfl) (fun b G w hb ho => exec_move (.inr rfl) (rfl))) ?_
        exact steps_nil
      clear hLo
      intro G a10 w10 hS hH
      have HS10 : Sl a10 32 [(0, .agg (FR () 6 ((t).sc))), (1, .string (cr)), (2, .string (us)), (3, .pointer (some ⟨g1_0, 0, none⟩)), (13, .bool true), (16, .bool true), (6, .int .i64 (100))] := hS
      have HH10 : Held w w10 [⟨g1_0, (), 6, (t).sc, 25⟩] := hH
      clear hS hH HS8 HH8
      refine then_ ?_
      refine wp_ret ?_
      repeat (first | refine then_ret ?_ | refine inBlock_ret' ?_)
      exact b_tmp rfl HS10.2.1 (HS10.get 6 rfl) ⟨int_ret (by unfold userV; rw [if_neg (kind_no hr1), if_pos (of_decide_eq_true hr3)]), HH10.1⟩
theorem ruser_calls {w : World} {t : T} (cr us : ByteArray) (hIn : In w t) : Calls Tryd.prog 15 #[.agg (FR () 6 ((t).sc)), .string (cr), .string (us)] w fun e w' => e = .returned (.int .i64 (userV t cr us)) ∧ Below w.heap.size w w' := by
  refine enter_ 26 Tryd.func15 rfl rfl (fun a0 hS => ?_)
  have HS0 : Sl a0 26 [(0, .agg (FR () 6 ((t).sc))), (1, .string (cr)), (2, .string (us))] := hS
  have HH0 : Held w w [] := Held.first w
  clear hS
  refine wp_seq ?_
  have hLo : LOk [(0, 3, .new 0 (fun g => .pointer (some ⟨g, 0, none⟩))), (1, 6, .val (.int .i64 (0)))] := lok (by rfl) (by rfl)
  refine plain_ (wE := w) (sz := 26) (n := 2) [0, 1] [(0, .val (.agg (FR () 6 ((t).sc)))), (1, .val (.string (cr))), (2, .val (.string (us))), (3, .new 0 (fun g => .pointer (some ⟨g, 0, none⟩))), (6, .val (.int .i64 (0)))] [(0, 3, .new 0 (fun g => .pointer (some ⟨g, 0, none⟩))), (1, 6, .val (.int .i64 (0)))] [⟨0, some 0, none, (), 6, (t).sc, (t).sc, 25⟩] rfl (by rfl) HH0 rfl rfl hLo rfl HS0 (slS 0 rfl rfl (slS 1 rfl rfl (slS 2 rfl rfl (slL 0 (d := 0) rfl (slL 1 (d := 1) rfl (trivial)))))) ?_ ?_
  · show ∀ i ∈ [0, 1], _
    refine steps_cons (st_alloc 0 0 () 6 25 none _ _ rfl rfl (fun _ _ _ _ => rfl) rfl hLo rfl rfl rfl rfl (by rfl) (fun b G w hb ho => exec_box rfl (ev_off rfl (HS0.get 0 rfl)) (by kernel_rfl))) ?_
    refine steps_cons (st_run 1 _ rfl rfl hLo rfl rfl (fun _ _ _ _ => rfl) (fun b G w hb ho => exec_move (.inr rfl) (rfl))) ?_
    exact steps_nil
  clear hLo
  intro G a1 w1 hS hH
  have HS1 : Sl a1 26 [(0, .agg (FR () 6 ((t).sc))), (1, .string (cr)), (2, .string (us)), (3, .pointer (some ⟨(G 0), 0, none⟩)), (6, .int .i64 (0))] := hS
  have HH1 : Held w w1 [⟨(G 0), (), 6, (t).sc, 25⟩] := hH
  clear hS hH HS0 HH0
  generalize G 0 = g1_0 at HS1 HH1
  refine then_ ?_
  refine wp_seq ?_
  obtain ⟨r1, hr1⟩ : ∃ r : Bool, ((((t).kind : Int) != 5)) = r := ⟨_, rfl⟩
  refine wp_seq ?_
  have hLo : LOk [(0, 9, .val (.pointer (some ⟨g1_0, 0, none⟩))), (1, 10, .val (.int .i64 ((t).kind))), (2, 11, .val (.bool r1))] := lok (by rfl) (by rfl)
  refine plain_ (wE := w) (sz := 26) (n := 3) [0, 1, 3] [(0, .val (.agg (FR () 6 ((t).sc)))), (1, .val (.string (cr))), (2, .val (.string (us))), (3, .val (.pointer (some ⟨g1_0, 0, none⟩))), (6, .val (.int .i64 (0))), (11, .val (.bool r1))] [(0, 9, .val (.pointer (some ⟨g1_0, 0, none⟩))), (1, 10, .val (.int .i64 ((t).kind))), (2, 11, .val (.bool r1))] [⟨g1_0, none, none, (), 6, (t).sc, (t).sc, 25⟩] rfl (by rfl) HH1 rfl rfl hLo rfl HS1 (slS 0 rfl rfl (slS 1 rfl rfl (slS 2 rfl rfl (slS 3 rfl rfl (slS 4 rfl rfl (slL 2 (d := 2) rfl (trivial))))))) ?_ ?_
  · show ∀ i ∈ [0, 1, 2], _
    refine steps_cons (st_run 0 _ rfl rfl hLo rfl rfl (fun _ _ _ _ => rfl) (fun b G w hb ho => exec_field rfl (ev_off rfl (HS1.get 3 rfl)) (by kernel_rfl))) ?_
    refine steps_cons (st_read 1 0 _ _ rfl rfl rfl hLo rfl rfl (fun _ _ _ _ => rfl) (by rfl) (by rfl) (fun b G w hb ho hr => exec_cell hr (Nat.le_of_ble_eq_true rfl) Tryd.underlying3 rfl rfl (ev_on hLo 0 rfl HS1.1 rfl (hb 0 (by rfl))))) ?_
    refine steps_cons (st_run 2 _ rfl rfl hLo rfl rfl (fun _ _ _ _ => rfl) (fun b G w hb ho => exec_bin rfl (ev_on hLo 1 rfl HS1.1 rfl (hb 1 (by rfl))) (rfl) (rb_neq hr1 _ _ _))) ?_
    exact steps_nil
  clear hLo
  intro G a2 w2 hS hH
  have HS2 : Sl a2 26 [(0, .agg (FR () 6 ((t).sc))), (1, .string (cr)), (2, .string (us)), (3, .pointer (some ⟨g1_0, 0, none⟩)), (6, .int .i64 (0)), (11, .bool r1)] := hS
  have HH2 : Held w w2 [⟨g1_0, (), 6, (t).sc, 25⟩] := hH
  clear hS hH HS1 HH1
  refine then_ ?_
  cases r1
  · skip
    refine wp_cond_false (HS2.get 5 rfl) ?_
    refine wp_skip ?_
    refine then_ ?_
    obtain ⟨r2, hr2⟩ : ∃ r : Bool, (((t.tab k_users).tell0 us).2) = r := ⟨_, rfl⟩
    refine wp_seq ?_
    have hLo : LOk [(0, 16, .val (.agg (FR () 6 ((t).sc)))), (1, 17, .val (.agg (FR () 6 ((t.tab k_users).sc)))), (2, 18, .val (.string (us))), (3, 19, .val (.tuple #[.int .i64 (((t.tab k_users).tell0 us).1), .bool r2])), (4, 15, .val (.tuple #[.int .i64 (((t.tab k_users).tell0 us).1), .bool r2])), (5, 20, .val (.int .i64 (((t.tab k_users).tell0 us).1))), (6, 21, .val (.bool r2)), (7, 7, .val (.int .i64 (((t.tab k_users).tell0 us).1))), (8, 8, .val (.bool r2))] := lok (by rfl) (by rfl)
    refine plain_ (wE := w) (sz := 26) (n := 9) [0, 1, 3, 7, 15, 31, 63, 127, 255] [(0, .val (.agg (FR () 6 ((t).sc)))), (1, .val (.string (cr))), (2, .val (.string (us))), (3, .val (.pointer (some ⟨g1_0, 0, none⟩))), (6, .val (.int .i64 (0))), (11, .val (.bool false)), (7, .val (.int .i64 (((t.tab k_users).tell0 us).1))), (8, .val (.bool r2))] [(0, 16, .val (.agg (FR () 6 ((t).sc)))), (1, 17, .val (.agg (FR () 6 ((t.tab k_users).sc)))), (2, 18, .val (.string (us))), (3, 19, .val (.tuple #[.int .i64 (((t.tab k_users).tell0 us).1), .bool r2])), (4, 15, .val (.tuple #[.int .i64 (((t.tab k_users).tell0 us).1), .bool r2])), (5, 20, .val (.int .i64 (((t.tab k_users).tell0 us).1))), (6, 21, .val (.bool r2)), (7, 7, .val (.int .i64 (((t.tab k_users).tell0 us).1))), (8, 8, .val (.bool r2))] [⟨g1_0, none, none, (), 6, (t).sc, (t).sc, 25⟩] rfl (by rfl) HH2 rfl rfl hLo rfl HS2 (slS 0 rfl rfl (slS 1 rfl rfl (slS 2 rfl rfl (slS 3 rfl rfl (slS 4 rfl rfl (slS 5 rfl rfl (slL 7 (d := 7) rfl (slL 8 (d := 8) rfl (trivial))))))))) ?_ ?_
    · show ∀ i ∈ [0, 1, 2, 3, 4, 5, 6, 7, 8], _
      refine steps_cons (st_row0 0 0 _ rfl rfl rfl rfl (fun _ _ _ _ => rfl) hLo rfl rfl rfl (by rfl) Tryd.underlying25 (by kernel_rfl) rfl (fun b G hb ho => ev_off rfl (HS2.get 3 rfl))) ?_
      refine steps_cons (st_call 1 _ #[.agg (FR () 6 ((t).sc)), .string (k_users)] rfl rfl rfl (fun _ _ _ _ => rfl) hLo rfl rfl Tryd.func22 rfl rfl (fun b G hb ho => args2 (ev_on hLo 0 rfl HS2.1 rfl (hb 0 (by rfl))) (rfl)) (fun w hw => table_calls k_users (hIn.below hw))) ?_
      refine steps_cons (st_run 2 _ rfl rfl hLo rfl rfl (fun _ _ _ _ => rfl) (fun b G w hb ho => exec_move (.inl rfl) (ev_off rfl (HS2.get 2 rfl)))) ?_
      refine steps_cons (st_call 3 _ #[.agg (FR () 6 ((t.tab k_users).sc)), .string (us)] rfl rfl rfl (fun _ _ _ _ => rfl) hLo rfl rfl Tryd.func21 rfl rfl (fun b G hb ho => args2 (ev_on hLo 1 rfl HS2.1 rfl (hb 1 (by rfl))) (ev_on hLo 2 rfl HS2.1 rfl (hb 2 (by rfl)))) (fun w hw => (by have hq := told_calls (t := t.tab k_users) us (hIn.tab.below hw); rw [hr2] at hq; exact hq))) ?_
      refine steps_cons (st_run 4 _ rfl rfl hLo rfl rfl (fun _ _ _ _ => rfl) (fun b G w hb ho => exec_move (.inl rfl) (ev_on hLo 3 rfl HS2.1 rfl (hb 3 (by rfl))))) ?_
      refine steps_cons (st_run 5 _ rfl rfl hLo rfl rfl (fun _ _ _ _ => rfl) (fun b G w hb ho => exec_extract rfl (ev_on hLo 4 rfl HS2.1 rfl (hb 4 (by rfl))) (by rfl))) ?_
      refine steps_cons (st_run 6 _ rfl rfl hLo rfl rfl (fun _ _ _ _ => rfl) (fun b G w hb ho => exec_extract rfl (ev_on hLo 4 rfl HS2.1 rfl (hb 4 (by rfl))) (by rfl))) ?_
      refine steps_cons (st_run 7 _ rfl rfl hLo rfl rfl (fun _ _ _ _ => rfl) (fun b G w hb ho => exec_move (.inr rfl) (ev_on hLo 5 rfl HS2.1 rfl (hb 5 (by rfl))))) ?_
      refine steps_cons (st_run 8 _ rfl rfl hLo rfl rfl (fun _ _ _ _ => rfl) (fun b G w hb ho => exec_move (.inr rfl) (ev_on hLo 6 rfl HS2.1 rfl (hb 6 (by rfl))))) ?_
      exact steps_nil
    clear hLo
    intro G a3 w3 hS hH
    have HS3 : Sl a3 26 [(0, .agg (FR () 6 ((t).sc))), (1, .string (cr)), (2, .string (us)), (3, .pointer (some ⟨g1_0, 0, none⟩)), (6, .int .i64 (0)), (11, .bool false), (7, .int .i64 (((t.tab k_users).tell0 us).1)), (8, .bool r2)] := hS
    have HH3 : Held w w3 [⟨g1_0, (), 6, (t).sc, 25⟩] := hH
    clear hS hH HS2 HH2
    refine then_ ?_
    refine wp_seq ?_
    refine wp_seq ?_
    have hLo : LOk [(0, 22, .val (.bool r2))] := lok (by rfl) (by rfl)
    refine plain_ (wE := w) (sz := 26) (n := 1) [0] [(0, .val (.agg (FR () 6 ((t).sc)))), (1, .val (.string (cr))), (2, .val (.string (us))), (3, .val (.pointer (some ⟨g1_0, 0, none⟩))), (6, .val (.int .i64 (0))), (11, .val (.bool false)), (7, .val (.int .i64 (((t.tab k_users).tell0 us).1))), (8, .val (.bool r2)), (22, .val (.bool r2))] [(0, 22, .val (.bool r2))] [⟨g1_0, none, none, (), 6, (t).sc, (t).sc, 25⟩] rfl (by rfl) HH3 rfl rfl hLo rfl HS3 (slS 0 rfl rfl (slS 1 rfl rfl (slS 2 rfl rfl (slS 3 rfl rfl (slS 4 rfl rfl (slS 5 rfl rfl (slS 6 rfl rfl (slS 7 rfl rfl (slL 0 (d := 0) rfl (trivial)))))))))) ?_ ?_
    · show ∀ i ∈ [0], _
      refine steps_cons (st_run 0 _ rfl rfl hLo rfl rfl (fun _ _ _ _ => rfl) (fun b G w hb ho => exec_move (.inl rfl) (ev_off rfl (HS3.get 7 rfl)))) ?_
      exact steps_nil
    clear hLo
    intro G a4 w4 hS hH
    have HS4 : Sl a4 26 [(0, .agg (FR () 6 ((t).sc))), (1, .string (cr)), (2, .string (us)), (3, .pointer (some ⟨g1_0, 0, none⟩)), (6, .int .i64 (0)), (11, .bool false), (7, .int .i64 (((t.tab k_users).tell0 us).1)), (8, .bool r2), (22, .bool r2)] := hS
    have HH4 : Held w w4 [⟨g1_0, (), 6, (t).sc, 25⟩] := hH
    clear hS hH HS3 HH3
    refine then_ ?_
    cases r2
    · skip
      refine wp_cond_false (HS4.get 8 rfl) ?_
      refine wp_skip ?_
      refine then_ ?_
      refine wp_seq ?_
      have hLo : LOk [(0, 24, .val (.agg (FR () 6 ((t).sc)))), (1, 25, .val (.int .i64 (levV t k_users_default))), (2, 6, .val (.int .i64 (levV t k_users_default)))] := lok (by rfl) (by rfl)
      refine plain_ (wE := w) (sz := 26) (n := 3) [0, 1, 3] [(0, .val (.agg (FR () 6 ((t).sc)))), (1, .val (.string (cr))), (2, .val (.string (us))), (3, .val (.pointer (some ⟨g1_0, 0, none⟩))), (11, .val (.bool false)), (7, .val (.int .i64 (((t.tab k_users).tell0 us).1))), (8, .val (.bool false)), (22, .val (.bool false)), (6, .val (.int .i64 (levV t k_users_default)))] [(0, 24, .val (.agg (FR () 6 ((t).sc)))), (1, 25, .val (.int .i64 (levV t k_users_default))), (2, 6, .val (.int .i64 (levV t k_users_default)))] [⟨g1_0, none, none, (), 6, (t).sc, (t).sc, 25⟩] rfl (by rfl) HH4 rfl rfl hLo rfl HS4 (slS 0 rfl rfl (slS 1 rfl rfl (slS 2 rfl rfl (slS 3 rfl rfl (slS 5 rfl rfl (slS 6 rfl rfl (slS 7 rfl rfl (slS 8 rfl rfl (slL 2 (d := 2) rfl (trivial)))))))))) ?_ ?_
      · show ∀ i ∈ [0, 1, 2], _
        refine steps_cons (st_row0 0 0 _ rfl rfl rfl rfl (fun _ _ _ _ => rfl) hLo rfl rfl rfl (by rfl) Tryd.underlying25 (by kernel_rfl) rfl (fun b G hb ho => ev_off rfl (HS4.get 3 rfl))) ?_
        refine steps_cons (st_call 1 _ #[.agg (FR () 6 ((t).sc)), .string (k_users_default)] rfl rfl rfl (fun _ _ _ _ => rfl) hLo rfl rfl Tryd.func12 rfl rfl (fun b G hb ho => args2 (ev_on hLo 0 rfl HS4.1 rfl (hb 0 (by rfl))) (rfl)) (fun w hw => rlevel_calls k_users_default (hIn.below hw))) ?_
        refine steps_cons (st_run 2 _ rfl rfl hLo rfl rfl (fun _ _ _ _ => rfl) (fun b G w hb ho => exec_move (.inr rfl) (ev_on hLo 1 rfl HS4.1 rfl (hb 1 (by rfl))))) ?_
        exact steps_nil
      clear hLo
      intro G a5 w5 hS hH
      have HS5 : Sl a5 26 [(0, .agg (FR () 6 ((t).sc))), (1, .string (cr)), (2, .string (us)), (3, .pointer (some ⟨g1_0, 0, none⟩)), (11, .bool false), (7, .int .i64 (((t.tab k_users).tell0 us).1)), (8, .bool false), (22, .bool false), (6, .int .i64 (levV t k_users_default))] := hS
      have HH5 : Held w w5 [⟨g1_0, (), 6, (t).sc, 25⟩] := hH
      clear hS hH HS4 HH4
      refine then_ ?_
      refine wp_ret ?_
      repeat (first | refine then_ret ?_ | refine inBlock_ret' ?_)
      exact b_tmp rfl HS5.2.1 (HS5.get 8 rfl) ⟨int_ret (by unfold userV; rw [if_pos (kind_is hr1), ← T.told_tab, told_of_no0 hr2]), HH5.1⟩
    · skip
      refine wp_cond_true (HS4.get 8 rfl) ?_
      refine wp_seq ?_
      have hLo : LOk [(0, 23, .val (.int .i64 (((t.tab k_users).tell0 us).1))), (1, 6, .val (.int .i64 (((t.tab k_users).tell0 us).1)))] := lok (by rfl) (by rfl)
      refine plain_ (wE := w) (sz := 26) (n := 2) [0, 1] [(0, .val (.agg (FR () 6 ((t).sc)))), (1, .val (.string (cr))), (2, .val (.string (us))), (3, .val (.pointer (some ⟨g1_0, 0, none⟩))), (11, .val (.bool false)), (7, .val (.int .i64 (((t.tab k_users).tell0 us).1))), (8, .val (.bool true)), (22, .val (.bool true)), (6, .val (.int .i64 (((t.tab k_users).tell0 us).1)))] [(0, 23, .val (.int .i64 (((t.tab k_users).tell0 us).1))), (1, 6, .val (.int .i64 (((t.tab k_users).tell0 us).1)))] [⟨g1_0, none, none, (), 6, (t).sc, (t).sc, 25⟩] rfl (by rfl) HH4 rfl rfl hLo rfl HS4 (slS 0 rfl rfl (slS 1 rfl rfl (slS 2 rfl rfl (slS 3 rfl rfl (slS 5 rfl rfl (slS 6 rfl rfl (slS 7 rfl rfl (slS 8 rfl rfl (slL 1 (d := 1) rfl (trivial)))))))))) ?_ ?_
      · show ∀ i ∈ [0, 1], _
        refine steps_cons (st_run 0 _ rfl rfl hLo rfl rfl (fun _ _ _ _ => rfl) (fun b G w hb ho => exec_move (.inl rfl) (ev_off rfl (HS4.get 6 rfl)))) ?_
        refine steps_cons (st_run 1 _ rfl rfl hLo rfl rfl (fun _ _ _ _ => rfl) (fun b G w hb ho => exec_move (.inr rfl) (ev_on hLo 0 rfl HS4.1 rfl (hb 0 (by rfl))))) ?_
        exact steps_nil
      clear hLo
      intro G a6 w6 hS hH
      have HS6 : Sl a6 26 [(0, .agg (FR () 6 ((t).sc))), (1, .string (cr)), (2, .string (us)), (3, .pointer (some ⟨g1_0, 0, none⟩)), (11, .bool false), (7, .int .i64 (((t.tab k_users).tell0 us).1)), (8, .bool true), (22, .bool true), (6, .int .i64 (((t.tab k_users).tell0 us).1))] := hS
      have HH6 : Held w w6 [⟨g1_0, (), 6, (t).sc, 25⟩] := hH
      clear hS hH HS4 HH4
      refine then_ ?_
      refine wp_ret ?_
      repeat (first | refine then_ret ?_ | refine inBlock_ret' ?_)
      exact b_tmp rfl HS6.2.1 (HS6.get 8 rfl) ⟨int_ret (by unfold userV; rw [if_pos (kind_is hr1), ← T.told_tab, told_of_tell0 hr2]), HH6.1⟩
  · skip
    refine wp_cond_true (HS2.get 5 rfl) ?_
    refine wp_seq ?_
    obtain ⟨r3, hr3⟩ : ∃ r : Bool, (decide ((us : ByteArray) = cr)) = r := ⟨_, rfl⟩
    refine wp_seq ?_
    have hLo : LOk [(0, 12, .val (.string (us))), (1, 13, .val (.string (cr))), (2, 14, .val (.bool r3))] := lok (by rfl) (by rfl)
    refine plain_ (wE := w) (sz := 26) (n := 3) [0, 1, 3] [(0, .val (.agg (FR () 6 ((t).sc)))), (1, .val (.string (cr))), (2, .val (.string (us))), (3, .val (.pointer (some ⟨g1_0, 0, none⟩))), (6, .val (.int .i64 (0))), (11, .val (.bool true)), (14, .val (.bool r3))] [(0, 12, .val (.string (us))), (1, 13, .val (.string (cr))), (2, 14, .val (.bool r3))] [⟨g1_0, none, none, (), 6, (t).sc, (t).sc, 25⟩] rfl (by rfl) HH2 rfl rfl hLo rfl HS2 (slS 0 rfl rfl (slS 1 rfl rfl (slS 2 rfl rfl (slS 3 rfl rfl (slS 4 rfl rfl (slS 5 rfl rfl (slL 2 (d := 2) rfl (trivial)))))))) ?_ ?_
    · show ∀ i ∈ [0, 1, 2], _
      refine steps_cons (st_run 0 _ rfl rfl hLo rfl rfl (fun _ _ _ _ => rfl) (fun b G w hb ho => exec_move (.inl rfl) (ev_off rfl (HS2.get 2 rfl)))) ?_
      refine steps_cons (st_run 1 _ rfl rfl hLo rfl rfl (fun _ _ _ _ => rfl) (fun b G w hb ho => exec_move (.inl rfl) (ev_off rfl (HS2.get 1 rfl)))) ?_
      refine steps_cons (st_run 2 _ rfl rfl hLo rfl rfl (fun _ _ _ _ => rfl) (fun b G w hb ho => exec_bin rfl (ev_on hLo 0 rfl HS2.1 rfl (hb 0 (by rfl))) (ev_on hLo 1 rfl HS2.1 rfl (hb 1 (by rfl))) (rb_seql hr3 _ _ _))) ?_
      exact steps_nil
    clear hLo
    intro G a7 w7 hS hH
    have HS7 : Sl a7 26 [(0, .agg (FR () 6 ((t).sc))), (1, .string (cr)), (2, .string (us)), (3, .pointer (some ⟨g1_0, 0, none⟩)), (6, .int .i64 (0)), (11, .bool true), (14, .bool r3)] := hS
    have HH7 : Held w w7 [⟨g1_0, (), 6, (t).sc, 25⟩] := hH
    clear hS hH HS2 HH2
    refine then_ ?_
    cases r3
    · skip
      refine wp_cond_false (HS7.get 6 rfl) ?_
      refine wp_skip ?_
      refine then_ ?_
      refine wp_seq ?_
      have hLo : LOk [(0, 6, .val (.int .i64 (0)))] := lok (by rfl) (by rfl)
      refine plain_ (wE := w) (sz := 26) (n := 1) [0] [(0, .val (.agg (FR () 6 ((t).sc)))), (1, .val (.string (cr))), (2, .val (.string (us))), (3, .val (.pointer (some ⟨g1_0, 0, none⟩))), (11, .val (.bool true)), (14, .val (.bool false)), (6, .val (.int .i64 (0)))] [(0, 6, .val (.int .i64 (0)))] [⟨g1_0, none, none, (), 6, (t).sc, (t).sc, 25⟩] rfl (by rfl) HH7 rfl rfl hLo rfl HS7 (slS 0 rfl rfl (slS 1 rfl rfl (slS 2 rfl rfl (slS 3 rfl rfl (slS 5 rfl rfl (slS 6 rfl rfl (slL 0 (d := 0) rfl (trivial)))))))) ?_ ?_
      · show ∀ i ∈ [0], _
        refine steps_cons (st_run 0 _ rfl rfl hLo rfl rfl (fun _ _ _ _ => rfl) (fun b G w hb ho => exec_move (.inr rfl) (rfl))) ?_
        exact steps_nil
      clear hLo
      intro G a8 w8 hS hH
      have HS8 : Sl a8 26 [(0, .agg (FR () 6 ((t).sc))), (1, .string (cr)), (2, .string (us)), (3, .pointer (some ⟨g1_0, 0, none⟩)), (11, .bool true), (14, .bool false), (6, .int .i64 (0))] := hS
      have HH8 : Held w w8 [⟨g1_0, (), 6, (t).sc, 25⟩] := hH
      clear hS hH HS7 HH7
      refine then_ ?_
      refine wp_ret ?_
      repeat (first | refine then_ret ?_ | refine inBlock_ret' ?_)
      exact b_tmp rfl HS8.2.1 (HS8.get 6 rfl) ⟨int_ret (by unfold userV; rw [if_neg (kind_no hr1), if_neg (of_decide_eq_false hr3)]), HH8.1⟩
    · skip
      refine wp_cond_true (HS7.get 6 rfl) ?_
      refine wp_seq ?_
      have hLo : LOk [(0, 6, .val (.int .i64 (100)))] := lok (by rfl) (by rfl)
      refine plain_ (wE := w) (sz := 26) (n := 1) [0] [(0, .val (.agg (FR () 6 ((t).sc)))), (1, .val (.string (cr))), (2, .val (.string (us))), (3, .val (.pointer (some ⟨g1_0, 0, none⟩))), (11, .val (.bool true)), (14, .val (.bool true)), (6, .val (.int .i64 (100)))] [(0, 6, .val (.int .i64 (100)))] [⟨g1_0, none, none, (), 6, (t).sc, (t).sc, 25⟩] rfl (by rfl) HH7 rfl rfl hLo rfl HS7 (slS 0 rfl rfl (slS 1 rfl rfl (slS 2 rfl rfl (slS 3 rfl rfl (slS 5 rfl rfl (slS 6 rfl rfl (slL 0 (d := 0) rfl (trivial)))))))) ?_ ?_
      · show ∀ i ∈ [0], _
        refine steps_cons (st_run 0 _ rfl rfl hLo rfl rfl (fun _ _ _ _ => rfl) (fun b G w hb ho => exec_move (.inr rfl) (rfl))) ?_
        exact steps_nil
      clear hLo
      intro G a9 w9 hS hH
      have HS9 : Sl a9 26 [(0, .agg (FR () 6 ((t).sc))), (1, .string (cr)), (2, .string (us)), (3, .pointer (some ⟨g1_0, 0, none⟩)), (11, .bool true), (14, .bool true), (6, .int .i64 (100))] := hS
      have HH9 : Held w w9 [⟨g1_0, (), 6, (t).sc, 25⟩] := hH
      clear hS hH HS7 HH7
      refine then_ ?_
      refine wp_ret ?_
      repeat (first | refine then_ret ?_ | refine inBlock_ret' ?_)
      exact b_tmp rfl HS9.2.1 (HS9.get 6 rfl) ⟨int_ret (by unfold userV; rw [if_neg (kind_no hr1), if_pos (of_decide_eq_true hr3)]), HH9.1⟩
theorem send_calls {w : World} {t : T} (kd : ByteArray) (st : Bool) (hIn : In w t) (hR : Rises t) (hTab : Tab w) : Calls Tryd.prog 16 #[.agg (FR () 6 ((t).sc)), .string (kd), .bool st] w fun e w' => e = .returned (.int .i64 (sendV t kd st)) ∧ Below w.heap.size w w' := by
  refine enter_ 35 Tryd.func16 rfl rfl (fun a0 hS => ?_)
  have HS0 : Sl a0 35 [(0, .agg (FR () 6 ((t).sc))), (1, .string (kd)), (2, .bool st)] := hS
  have HH0 : Held w w [] := Held.first w
  clear hS
  refine wp_seq ?_
  have hLo : LOk [(0, 3, .new 0 (fun g => .pointer (some ⟨g, 0, none⟩))), (1, 6, .val (.int .i64 (0)))] := lok (by rfl) (by rfl)
  refine plain_ (wE := w) (sz := 35) (n := 2) [0, 1] [(0, .val (.agg (FR () 6 ((t).sc)))), (1, .val (.string (kd))), (2, .val (.bool st)), (3, .new 0 (fun g => .pointer (some ⟨g, 0, none⟩))), (6, .val (.int .i64 (0)))] [(0, 3, .new 0 (fun g => .pointer (some ⟨g, 0, none⟩))), (1, 6, .val (.int .i64 (0)))] [⟨0, some 0, none, (), 6, (t).sc, (t).sc, 25⟩] rfl (by rfl) HH0 rfl rfl hLo rfl HS0 (slS 0 rfl rfl (slS 1 rfl rfl (slS 2 rfl rfl (slL 0 (d := 0) rfl (slL 1 (d := 1) rfl (trivial)))))) ?_ ?_
  · show ∀ i ∈ [0, 1], _
    refine steps_cons (st_alloc 0 0 () 6 25 none _ _ rfl rfl (fun _ _ _ _ => rfl) rfl hLo rfl rfl rfl rfl (by rfl) (fun b G w hb ho => exec_box rfl (ev_off rfl (HS0.get 0 rfl)) (by kernel_rfl))) ?_
    refine steps_cons (st_run 1 _ rfl rfl hLo rfl rfl (fun _ _ _ _ => rfl) (fun b G w hb ho => exec_move (.inr rfl) (rfl))) ?_
    exact steps_nil
  clear hLo
  intro G a1 w1 hS hH
  have HS1 : Sl a1 35 [(0, .agg (FR () 6 ((t).sc))), (1, .string (kd)), (2, .bool st), (3, .pointer (some ⟨(G 0), 0, none⟩)), (6, .int .i64 (0))] := hS
  have HH1 : Held w w1 [⟨(G 0), (), 6, (t).sc, 25⟩] := hH
  clear hS hH HS0 HH0
  generalize G 0 = g1_0 at HS1 HH1
  refine then_ ?_
  refine wp_seq ?_
  have hLo : LOk [(0, 12, .val (.agg (FR () 6 ((t).sc)))), (1, 13, .val (.tuple #[.agg (FR () 6 ((t.tbl k_events).sc)), .bool ((t.get k_events).isSome)])), (2, 11, .val (.tuple #[.agg (FR () 6 ((t.tbl k_events).sc)), .bool ((t.get k_events).isSome)])), (3, 14, .val (.agg (FR () 6 ((t.tbl k_events).sc)))), (4, 15, .val (.bool ((t.get k_events).isSome))), (5, 7, .new 5 (fun g => .pointer (some ⟨g, 0, none⟩))), (7, 8, .val (.bool ((t.get k_events).isSome)))] := lok (by rfl) (by rfl)
  refine plain_ (wE := w) (sz := 35) (n := 8) [0, 1, 3, 7, 15, 31, 63, 127] [(0, .val (.agg (FR () 6 ((t).sc)))), (1, .val (.string (kd))), (2, .val (.bool st)), (3, .val (.pointer (some ⟨g1_0, 0, none⟩))), (6, .val (.int .i64 (0))), (7, .new 5 (fun g => .pointer (some ⟨g, 0, none⟩)))] [(0, 12, .val (.agg (FR () 6 ((t).sc)))), (1, 13, .val (.tuple #[.agg (FR () 6 ((t.tbl k_events).sc)), .bool ((t.get k_events).isSome)])), (2, 11, .val (.tuple #[.agg (FR () 6 ((t.tbl k_events).sc)), .bool ((t.get k_events).isSome)])), (3, 14, .val (.agg (FR () 6 ((t.tbl k_events).sc)))), (4, 15, .val (.bool ((t.get k_events).isSome))), (5, 7, .new 5 (fun g => .pointer (some ⟨g, 0, none⟩))), (7, 8, .val (.bool ((t.get k_events).isSome)))] [⟨g1_0, none, none, (), 6, (t).sc, (t).sc, 25⟩, ⟨0, some 5, some 6, (), 6, lsc [.i .i64 (0), .b (false), .i .i64 (0), .s (ByteArray.empty), .sl (none) (0) (0), .sl (none) (0) (0)], (t.tbl k_events).sc, 25⟩] rfl (by rfl) HH1 rfl rfl hLo rfl HS1 (slS 0 rfl rfl (slS 1 rfl rfl (slS 2 rfl rfl (slS 3 rfl rfl (slS 4 rfl rfl (slL 5 (d := 5) rfl (trivial))))))) ?_ ?_
  · show ∀ i ∈ [0, 1, 2, 3, 4, 5, 6, 7], _
    refine steps_cons (st_row0 0 0 _ rfl rfl rfl rfl (fun _ _ _ _ => rfl) hLo rfl rfl rfl (by rfl) Tryd.underlying25 (by kernel_rfl) rfl (fun b G hb ho => ev_off rfl (HS1.get 3 rfl))) ?_
    refine steps_cons (st_call 1 _ #[.agg (FR () 6 ((t).sc)), .string (k_events)] rfl rfl rfl (fun _ _ _ _ => rfl) hLo rfl rfl Tryd.func31 rfl rfl (fun b G hb ho => args2 (ev_on hLo 0 rfl HS1.1 rfl (hb 0 (by rfl))) (rfl)) (fun w hw => get_calls k_events (hIn.below hw) hR.rise)) ?_
    refine steps_cons (st_run 2 _ rfl rfl hLo rfl rfl (fun _ _ _ _ => rfl) (fun b G w hb ho => exec_move (.inl rfl) (ev_on hLo 1 rfl HS1.1 rfl (hb 1 (by rfl))))) ?_
    refine steps_cons (st_run 3 _ rfl rfl hLo rfl rfl (fun _ _ _ _ => rfl) (fun b G w hb ho => exec_extract rfl (ev_on hLo 2 rfl HS1.1 rfl (hb 2 (by rfl))) (by rfl))) ?_
    refine steps_cons (st_run 4 _ rfl rfl hLo rfl rfl (fun _ _ _ _ => rfl) (fun b G w hb ho => exec_extract rfl (ev_on hLo 2 rfl HS1.1 rfl (hb 2 (by rfl))) (by rfl))) ?_
    refine steps_cons (st_alloc 5 1 () 6 25 (some 6) _ _ rfl rfl (fun _ _ _ _ => rfl) rfl hLo rfl rfl rfl rfl (by rfl) (fun b G w _ _ => by kernel_rfl)) ?_
    refine steps_cons (st_store 1 _ rfl rfl rfl rfl rfl (fun _ _ _ _ => rfl) rfl rfl rfl (by rfl) (by kernel_rfl) (fun b G hb ho => ev_on hLo 5 rfl HS1.1 rfl (hb 5 (by rfl))) (fun b G hb ho => ev_on hLo 3 rfl HS1.1 rfl (hb 3 (by rfl)))) ?_
    refine steps_cons (st_run 6 _ rfl rfl hLo rfl rfl (fun _ _ _ _ => rfl) (fun b G w hb ho => exec_move (.inr rfl) (ev_on hLo 4 rfl HS1.1 rfl (hb 4 (by rfl))))) ?_
    exact steps_nil
  clear hLo
  intro G a2 w2 hS hH
  have HS2 : Sl a2 35 [(0, .agg (FR () 6 ((t).sc))), (1, .string (kd)), (2, .bool st), (3, .pointer (some ⟨g1_0, 0, none⟩)), (6, .int .i64 (0)), (7, .pointer (some ⟨(G 5), 0, none⟩))] := hS
  have HH2 : Held w w2 [⟨g1_0, (), 6, (t).sc, 25⟩, ⟨(G 5), (), 6, (t.tbl k_events).sc, 25⟩] := hH
  clear hS hH HS1 HH1
  generalize G 5 = g2_5 at HS2 HH2
  refine then_ ?_
  refine wp_seq ?_
  obtain ⟨r1, hr1⟩ : ∃ r : Bool, (((t.tbl k_events).tell kd).2) = r := ⟨_, rfl⟩
  refine wp_seq ?_
  have hLo : LOk [(0, 17, .val (.agg (FR () 6 ((t.tbl k_events).sc)))), (1, 18, .val (.string (kd))), (2, 19, .val (.tuple #[.int .i64 (((t.tbl k_events).tell kd).1), .bool r1])), (3, 16, .val (.tuple #[.int .i64 (((t.tbl k_events).tell kd).1), .bool r1])), (4, 20, .val (.int .i64 (((t.tbl k_events).tell kd).1))), (5, 21, .val (.bool r1)), (6, 9, .val (.int .i64 (((t.tbl k_events).tell kd).1))), (7, 10, .val (.bool r1))] := lok (by rfl) (by rfl)
  refine plain_ (wE := w) (sz := 35) (n := 8) [0, 1, 3, 7, 15, 31, 63, 127] [(0, .val (.agg (FR () 6 ((t).sc)))), (1, .val (.string (kd))), (2, .val (.bool st)), (3, .val (.pointer (some ⟨g1_0, 0, none⟩))), (6, .val (.int .i64 (0))), (7, .val (.pointer (some ⟨g2_5, 0, none⟩))), (9, .val (.int .i64 (((t.tbl k_events).tell kd).1))), (10, .val (.bool r1))] [(0, 17, .val (.agg (FR () 6 ((t.tbl k_events).sc)))), (1, 18, .val (.string (kd))), (2, 19, .val (.tuple #[.int .i64 (((t.tbl k_events).tell kd).1), .bool r1])), (3, 16, .val (.tuple #[.int .i64 (((t.tbl k_events).tell kd).1), .bool r1])), (4, 20, .val (.int .i64 (((t.tbl k_events).tell kd).1))), (5, 21, .val (.bool r1)), (6, 9, .val (.int .i64 (((t.tbl k_events).tell kd).1))), (7, 10, .val (.bool r1))] [⟨g1_0, none, none, (), 6, (t).sc, (t).sc, 25⟩, ⟨g2_5, none, none, (), 6, (t.tbl k_events).sc, (t.tbl k_events).sc, 25⟩] rfl (by rfl) HH2 rfl rfl hLo rfl HS2 (slS 0 rfl rfl (slS 1 rfl rfl (slS 2 rfl rfl (slS 3 rfl rfl (slS 4 rfl rfl (slS 5 rfl rfl (slL 6 (d := 6) rfl (slL 7 (d := 7) rfl (trivial))))))))) ?_ ?_
  · show ∀ i ∈ [0, 1, 2, 3, 4, 5, 6, 7], _
    refine steps_cons (st_row0 0 1 _ rfl rfl rfl rfl (fun _ _ _ _ => rfl) hLo rfl rfl rfl (by rfl) Tryd.underlying25 (by kernel_rfl) rfl (fun b G hb ho => ev_off rfl (HS2.get 5 rfl))) ?_
    refine steps_cons (st_run 1 _ rfl rfl hLo rfl rfl (fun _ _ _ _ => rfl) (fun b G w hb ho => exec_move (.inl rfl) (ev_off rfl (HS2.get 1 rfl)))) ?_
    refine steps_cons (st_call 2 _ #[.agg (FR () 6 ((t.tbl k_events).sc)), .string (kd)] rfl rfl rfl (fun _ _ _ _ => rfl) hLo rfl rfl Tryd.func25 rfl rfl (fun b G hb ho => args2 (ev_on hLo 0 rfl HS2.1 rfl (hb 0 (by rfl))) (ev_on hLo 1 rfl HS2.1 rfl (hb 1 (by rfl)))) (fun w hw => (by have hq := num_calls (t := t.tbl k_events) kd (hIn.tbl.below hw) hR.tbl.rise; rw [hr1] at hq; exact hq))) ?_
    refine steps_cons (st_run 3 _ rfl rfl hLo rfl rfl (fun _ _ _ _ => rfl) (fun b G w hb ho => exec_move (.inl rfl) (ev_on hLo 2 rfl HS2.1 rfl (hb 2 (by rfl))))) ?_
    refine steps_cons (st_run 4 _ rfl rfl hLo rfl rfl (fun _ _ _ _ => rfl) (fun b G w hb ho => exec_extract rfl (ev_on hLo 3 rfl HS2.1 rfl (hb 3 (by rfl))) (by rfl))) ?_
    refine steps_cons (st_run 5 _ rfl rfl hLo rfl rfl (fun _ _ _ _ => rfl) (fun b G w hb ho => exec_extract rfl (ev_on hLo 3 rfl HS2.1 rfl (hb 3 (by rfl))) (by rfl))) ?_
    refine steps_cons (st_run 6 _ rfl rfl hLo rfl rfl (fun _ _ _ _ => rfl) (fun b G w hb ho => exec_move (.inr rfl) (ev_on hLo 4 rfl HS2.1 rfl (hb 4 (by rfl))))) ?_
    refine steps_cons (st_run 7 _ rfl rfl hLo rfl rfl (fun _ _ _ _ => rfl) (fun b G w hb ho => exec_move (.inr rfl) (ev_on hLo 5 rfl HS2.1 rfl (hb 5 (by rfl))))) ?_
    exact steps_nil
  clear hLo
  intro G a3 w3 hS hH
  have HS3 : Sl a3 35 [(0, .agg (FR () 6 ((t).sc))), (1, .string (kd)), (2, .bool st), (3, .pointer (some ⟨g1_0, 0, none⟩)), (6, .int .i64 (0)), (7, .pointer (some ⟨g2_5, 0, none⟩)), (9, .int .i64 (((t.tbl k_events).tell kd).1)), (10, .bool r1)] := hS
  have HH3 : Held w w3 [⟨g1_0, (), 6, (t).sc, 25⟩, ⟨g2_5, (), 6, (t.tbl k_events).sc, 25⟩] := hH
  clear hS hH HS2 HH2
  refine then_ ?_
  refine wp_seq ?_
  have hLo : LOk [(0, 22, .val (.bool r1))] := lok (by rfl) (by rfl)
  refine plain_ (wE := w) (sz := 35) (n := 1) [0] [(0, .val (.agg (FR () 6 ((t).sc)))), (1, .val (.string (kd))), (2, .val (.bool st)), (3, .val (.pointer (some ⟨g1_0, 0, none⟩))), (6, .val (.int .i64 (0))), (7, .val (.pointer (some ⟨g2_5, 0, none⟩))), (9, .val (.int .i64 (((t.tbl k_events).tell kd).1))), (10, .val (.bool r1)), (22, .val (.bool r1))] [(0, 22, .val (.bool r1))] [⟨g1_0, none, none, (), 6, (t).sc, (t).sc, 25⟩, ⟨g2_5, none, none, (), 6, (t.tbl k_events).sc, (t.tbl k_events).sc, 25⟩] rfl (by rfl) HH3 rfl rfl hLo rfl HS3 (slS 0 rfl rfl (slS 1 rfl rfl (slS 2 rfl rfl (slS 3 rfl rfl (slS 4 rfl rfl (slS 5 rfl rfl (slS 6 rfl rfl (slS 7 rfl rfl (slL 0 (d := 0) rfl (trivial)))))))))) ?_ ?_
  · show ∀ i ∈ [0], _
    refine steps_cons (st_run 0 _ rfl rfl hLo rfl rfl (fun _ _ _ _ => rfl) (fun b G w hb ho => exec_move (.inl rfl) (ev_off rfl (HS3.get 7 rfl)))) ?_
    exact steps_nil
  clear hLo
  intro G a4 w4 hS hH
  have HS4 : Sl a4 35 [(0, .agg (FR () 6 ((t).sc))), (1, .string (kd)), (2, .bool st), (3, .pointer (some ⟨g1_0, 0, none⟩)), (6, .int .i64 (0)), (7, .pointer (some ⟨g2_5, 0, none⟩)), (9, .int .i64 (((t.tbl k_events).tell kd).1)), (10, .bool r1), (22, .bool r1)] := hS
  have HH4 : Held w w4 [⟨g1_0, (), 6, (t).sc, 25⟩, ⟨g2_5, (), 6, (t.tbl k_events).sc, 25⟩] := hH
  clear hS hH HS3 HH3
  refine then_ ?_
  cases r1
  · skip
    refine wp_cond_false (HS4.get 8 rfl) ?_
    refine wp_skip ?_
    refine then_ ?_
    refine wp_seq ?_
    refine wp_block ?_
    refine wp_seq ?_
    have hLo : LOk [(0, 25, .val (.bool st)), (1, 26, .val (.bool (!st))), (2, 24, .val (.bool (!st)))] := lok (by rfl) (by rfl)
    refine plain_ (wE := w) (sz := 35) (n := 3) [0, 1, 3] [(0, .val (.agg (FR () 6 ((t).sc)))), (1, .val (.string (kd))), (2, .val (.bool st)), (3, .val (.pointer (some ⟨g1_0, 0, none⟩))), (6, .val (.int .i64 (0))), (7, .val (.pointer (some ⟨g2_5, 0, none⟩))), (9, .val (.int .i64 (((t.tbl k_events).tell kd).1))), (10, .val (.bool false)), (22, .val (.bool false)), (24, .val (.bool (!st)))] [(0, 25, .val (.bool st)), (1, 26, .val (.bool (!st))), (2, 24, .val (.bool (!st)))] [⟨g1_0, none, none, (), 6, (t).sc, (t).sc, 25⟩, ⟨g2_5, none, none, (), 6, (t.tbl k_events).sc, (t.tbl k_events).sc, 25⟩] rfl (by rfl) HH4 rfl rfl hLo rfl HS4 (slS 0 rfl rfl (slS 1 rfl rfl (slS 2 rfl rfl (slS 3 rfl rfl (slS 4 rfl rfl (slS 5 rfl rfl (slS 6 rfl rfl (slS 7 rfl rfl (slS 8 rfl rfl (slL 2 (d := 2) rfl (trivial))))))))))) ?_ ?_
    · show ∀ i ∈ [0, 1, 2], _
      refine steps_cons (st_run 0 _ rfl rfl hLo rfl rfl (fun _ _ _ _ => rfl) (fun b G w hb ho => exec_move (.inl rfl) (ev_off rfl (HS4.get 2 rfl)))) ?_
      refine steps_cons (st_run 1 _ rfl rfl hLo rfl rfl (fun _ _ _ _ => rfl) (fun b G w hb ho => exec_un rfl (ev_on hLo 0 rfl HS4.1 rfl (hb 0 (by rfl))) (ru_not _))) ?_
      refine steps_cons (st_run 2 _ rfl rfl hLo rfl rfl (fun _ _ _ _ => rfl) (fun b G w hb ho => exec_move (.inr rfl) (ev_on hLo 1 rfl HS4.1 rfl (hb 1 (by rfl))))) ?_
      exact steps_nil
    clear hLo
    intro G a5 w5 hS hH
    have HS5 : Sl a5 35 [(0, .agg (FR () 6 ((t).sc))), (1, .string (kd)), (2, .bool st), (3, .pointer (some ⟨g1_0, 0, none⟩)), (6, .int .i64 (0)), (7, .pointer (some ⟨g2_5, 0, none⟩)), (9, .int .i64 (((t.tbl k_events).tell kd).1)), (10, .bool false), (22, .bool false), (24, .bool (!st))] := hS
    have HH5 : Held w w5 [⟨g1_0, (), 6, (t).sc, 25⟩, ⟨g2_5, (), 6, (t.tbl k_events).sc, 25⟩] := hH
    clear hS hH HS4 HH4
    refine then_ ?_
    cases st
    · skip
      refine wp_cond_true (HS5.get 9 rfl) ?_
      refine wp_seq ?_
      have hLo : LOk [(0, 27, .val (.agg (FR () 6 ((t).sc)))), (1, 28, .val (.int .i64 (levV t k_events_default))), (2, 6, .val (.int .i64 (levV t k_events_default)))] := lok (by rfl) (by rfl)
      refine plain_ (wE := w) (sz := 35) (n := 3) [0, 1, 3] [(0, .val (.agg (FR () 6 ((t).sc)))), (1, .val (.string (kd))), (2, .val (.bool false)), (3, .val (.pointer (some ⟨g1_0, 0, none⟩))), (7, .val (.pointer (some ⟨g2_5, 0, none⟩))), (9, .val (.int .i64 (((t.tbl k_events).tell kd).1))), (10, .val (.bool false)), (22, .val (.bool false)), (24, .val (.bool true)), (6, .val (.int .i64 (levV t k_events_default)))] [(0, 27, .val (.agg (FR () 6 ((t).sc)))), (1, 28, .val (.int .i64 (levV t k_events_default))), (2, 6, .val (.int .i64 (levV t k_events_default)))] [⟨g1_0, none, none, (), 6, (t).sc, (t).sc, 25⟩, ⟨g2_5, none, none, (), 6, (t.tbl k_events).sc, (t.tbl k_events).sc, 25⟩] rfl (by rfl) HH5 rfl rfl hLo rfl HS5 (slS 0 rfl rfl (slS 1 rfl rfl (slS 2 rfl rfl (slS 3 rfl rfl (slS 5 rfl rfl (slS 6 rfl rfl (slS 7 rfl rfl (slS 8 rfl rfl (slS 9 rfl rfl (slL 2 (d := 2) rfl (trivial))))))))))) ?_ ?_
      · show ∀ i ∈ [0, 1, 2], _
        refine steps_cons (st_row0 0 0 _ rfl rfl rfl rfl (fun _ _ _ _ => rfl) hLo rfl rfl rfl (by rfl) Tryd.underlying25 (by kernel_rfl) rfl (fun b G hb ho => ev_off rfl (HS5.get 3 rfl))) ?_
        refine steps_cons (st_call 1 _ #[.agg (FR () 6 ((t).sc)), .string (k_events_default)] rfl rfl rfl (fun _ _ _ _ => rfl) hLo rfl rfl Tryd.func10 rfl rfl (fun b G hb ho => args2 (ev_on hLo 0 rfl HS5.1 rfl (hb 0 (by rfl))) (rfl)) (fun w hw => level_calls k_events_default (hIn.below hw) hR.rise (hTab.below hw))) ?_
        refine steps_cons (st_run 2 _ rfl rfl hLo rfl rfl (fun _ _ _ _ => rfl) (fun b G w hb ho => exec_move (.inr rfl) (ev_on hLo 1 rfl HS5.1 rfl (hb 1 (by rfl))))) ?_
        exact steps_nil
      clear hLo
      intro G a6 w6 hS hH
      have HS6 : Sl a6 35 [(0, .agg (FR () 6 ((t).sc))), (1, .string (kd)), (2, .bool false), (3, .pointer (some ⟨g1_0, 0, none⟩)), (7, .pointer (some ⟨g2_5, 0, none⟩)), (9, .int .i64 (((t.tbl k_events).tell kd).1)), (10, .bool false), (22, .bool false), (24, .bool true), (6, .int .i64 (levV t k_events_default))] := hS
      have HH6 : Held w w6 [⟨g1_0, (), 6, (t).sc, 25⟩, ⟨g2_5, (), 6, (t.tbl k_events).sc, 25⟩] := hH
      clear hS hH HS5 HH5
      refine then_ ?_
      refine wp_ret ?_
      repeat (first | refine then_ret ?_ | refine inBlock_ret' ?_)
      exact b_tmp rfl HS6.2.1 (HS6.get 9 rfl) ⟨int_ret (by unfold sendV; rw [told_of_no hr1, if_pos rfl]), HH6.1⟩
    · skip
      refine wp_cond_false (HS5.get 9 rfl) ?_
      obtain ⟨r2, hr2⟩ : ∃ r : Bool, ((((t).kind : Int) != 5)) = r := ⟨_, rfl⟩
      refine wp_seq ?_
      have hLo : LOk [(0, 30, .val (.pointer (some ⟨g1_0, 0, none⟩))), (1, 31, .val (.int .i64 ((t).kind))), (2, 32, .val (.bool r2)), (3, 29, .val (.bool r2))] := lok (by rfl) (by rfl)
      refine plain_ (wE := w) (sz := 35) (n := 4) [0, 1, 3, 7] [(0, .val (.agg (FR () 6 ((t).sc)))), (1, .val (.string (kd))), (2, .val (.bool true)), (3, .val (.pointer (some ⟨g1_0, 0, none⟩))), (6, .val (.int .i64 (0))), (7, .val (.pointer (some ⟨g2_5, 0, none⟩))), (9, .val (.int .i64 (((t.tbl k_events).tell kd).1))), (10, .val (.bool false)), (22, .val (.bool false)), (24, .val (.bool false)), (29, .val (.bool r2))] [(0, 30, .val (.pointer (some ⟨g1_0, 0, none⟩))), (1, 31, .val (.int .i64 ((t).kind))), (2, 32, .val (.bool r2)), (3, 29, .val (.bool r2))] [⟨g1_0, none, none, (), 6, (t).sc, (t).sc, 25⟩, ⟨g2_5, none, none, (), 6, (t.tbl k_events).sc, (t.tbl k_events).sc, 25⟩] rfl (by rfl) HH5 rfl rfl hLo rfl HS5 (slS 0 rfl rfl (slS 1 rfl rfl (slS 2 rfl rfl (slS 3 rfl rfl (slS 4 rfl rfl (slS 5 rfl rfl (slS 6 rfl rfl (slS 7 rfl rfl (slS 8 rfl rfl (slS 9 rfl rfl (slL 3 (d := 3) rfl (trivial)))))))))))) ?_ ?_
      · show ∀ i ∈ [0, 1, 2, 3], _
        refine steps_cons (st_run 0 _ rfl rfl hLo rfl rfl (fun _ _ _ _ => rfl) (fun b G w hb ho => exec_field rfl (ev_off rfl (HS5.get 3 rfl)) (by kernel_rfl))) ?_
        refine steps_cons (st_read 1 0 _ _ rfl rfl rfl hLo rfl rfl (fun _ _ _ _ => rfl) (by rfl) (by rfl) (fun b G w hb ho hr => exec_cell hr (Nat.le_of_ble_eq_true rfl) Tryd.underlying3 rfl rfl (ev_on hLo 0 rfl HS5.1 rfl (hb 0 (by rfl))))) ?_
        refine steps_cons (st_run 2 _ rfl rfl hLo rfl rfl (fun _ _ _ _ => rfl) (fun b G w hb ho => exec_bin rfl (ev_on hLo 1 rfl HS5.1 rfl (hb 1 (by rfl))) (rfl) (rb_neq hr2 _ _ _))) ?_
        refine steps_cons (st_run 3 _ rfl rfl hLo rfl rfl (fun _ _ _ _ => rfl) (fun b G w hb ho => exec_move (.inr rfl) (ev_on hLo 2 rfl HS5.1 rfl (hb 2 (by rfl))))) ?_
        exact steps_nil
      clear hLo
      intro G a7 w7 hS hH
      have HS7 : Sl a7 35 [(0, .agg (FR () 6 ((t).sc))), (1, .string (kd)), (2, .bool true), (3, .pointer (some ⟨g1_0, 0, none⟩)), (6, .int .i64 (0)), (7, .pointer (some ⟨g2_5, 0, none⟩)), (9, .int .i64 (((t.tbl k_events).tell kd).1)), (10, .bool false), (22, .bool false), (24, .bool false), (29, .bool r2)] := hS
      have HH7 : Held w w7 [⟨g1_0, (), 6, (t).sc, 25⟩, ⟨g2_5, (), 6, (t.tbl k_events).sc, 25⟩] := hH
      clear hS hH HS5 HH5
      refine then_ ?_
      cases r2
      · skip
        refine wp_cond_false (HS7.get 10 rfl) ?_
        refine wp_skip ?_
        refine inBlock_normal ?_
        refine then_ ?_
        refine wp_seq ?_
        have hLo : LOk [(0, 33, .val (.agg (FR () 6 ((t).sc)))), (1, 34, .val (.int .i64 (levV t k_state_default))), (2, 6, .val (.int .i64 (levV t k_state_default)))] := lok (by rfl) (by rfl)
        refine plain_ (wE := w) (sz := 35) (n := 3) [0, 1, 3] [(0, .val (.agg (FR () 6 ((t).sc)))), (1, .val (.string (kd))), (2, .val (.bool true)), (3, .val (.pointer (some ⟨g1_0, 0, none⟩))), (7, .val (.pointer (some ⟨g2_5, 0, none⟩))), (9, .val (.int .i64 (((t.tbl k_events).tell kd).1))), (10, .val (.bool false)), (22, .val (.bool false)), (24, .val (.bool false)), (29, .val (.bool false)), (6, .val (.int .i64 (levV t k_state_default)))] [(0, 33, .val (.agg (FR () 6 ((t).sc)))), (1, 34, .val (.int .i64 (levV t k_state_default))), (2, 6, .val (.int .i64 (levV t k_state_default)))] [⟨g1_0, none, none, (), 6, (t).sc, (t).sc, 25⟩, ⟨g2_5, none, none, (), 6, (t.tbl k_events).sc, (t.tbl k_events).sc, 25⟩] rfl (by rfl) HH7 rfl rfl hLo rfl HS7 (slS 0 rfl rfl (slS 1 rfl rfl (slS 2 rfl rfl (slS 3 rfl rfl (slS 5 rfl rfl (slS 6 rfl rfl (slS 7 rfl rfl (slS 8 rfl rfl (slS 9 rfl rfl (slS 10 rfl rfl (slL 2 (d := 2) rfl (trivial)))))))))))) ?_ ?_
        · show ∀ i ∈ [0, 1, 2], _
          refine steps_cons (st_row0 0 0 _ rfl rfl rfl rfl (fun _ _ _ _ => rfl) hLo rfl rfl rfl (by rfl) Tryd.underlying25 (by kernel_rfl) rfl (fun b G hb ho => ev_off rfl (HS7.get 3 rfl))) ?_
          refine steps_cons (st_call 1 _ #[.agg (FR () 6 ((t).sc)), .string (k_state_default)] rfl rfl rfl (fun _ _ _ _ => rfl) hLo rfl rfl Tryd.func10 rfl rfl (fun b G hb ho => args2 (ev_on hLo 0 rfl HS7.1 rfl (hb 0 (by rfl))) (rfl)) (fun w hw => level_calls k_state_default (hIn.below hw) hR.rise (hTab.below hw))) ?_
          refine steps_cons (st_run 2 _ rfl rfl hLo rfl rfl (fun _ _ _ _ => rfl) (fun b G w hb ho => exec_move (.inr rfl) (ev_on hLo 1 rfl HS7.1 rfl (hb 1 (by rfl))))) ?_
          exact steps_nil
        clear hLo
        intro G a8 w8 hS hH
        have HS8 : Sl a8 35 [(0, .agg (FR () 6 ((t).sc))), (1, .string (kd)), (2, .bool true), (3, .pointer (some ⟨g1_0, 0, none⟩)), (7, .pointer (some ⟨g2_5, 0, none⟩)), (9, .int .i64 (((t.tbl k_events).tell kd).1)), (10, .bool false), (22, .bool false), (24, .bool false), (29, .bool false), (6, .int .i64 (levV t k_state_default))] := hS
        have HH8 : Held w w8 [⟨g1_0, (), 6, (t).sc, 25⟩, ⟨g2_5, (), 6, (t.tbl k_events).sc, 25⟩] := hH
        clear hS hH HS7 HH7
        refine then_ ?_
        refine wp_ret ?_
        repeat (first | refine then_ret ?_ | refine inBlock_ret' ?_)
        exact b_tmp rfl HS8.2.1 (HS8.get 10 rfl) ⟨int_ret (by unfold sendV; rw [told_of_no hr1, if_neg (by decide), if_pos (kind_is hr2)]), HH8.1⟩
      · skip
        refine wp_cond_true (HS7.get 10 rfl) ?_
        refine wp_seq ?_
        have hLo : LOk [(0, 6, .val (.int .i64 (0)))] := lok (by rfl) (by rfl)
        refine plain_ (wE := w) (sz := 35) (n := 1) [0] [(0, .val (.agg (FR () 6 ((t).sc)))), (1, .val (.string (kd))), (2, .val (.bool true)), (3, .val (.pointer (some ⟨g1_0, 0, none⟩))), (7, .val (.pointer (some ⟨g2_5, 0, none⟩))), (9, .val (.int .i64 (((t.tbl k_events).tell kd).1))), (10, .val (.bool false)), (22, .val (.bool false)), (24, .val (.bool false)), (29, .val (.bool true)), (6, .val (.int .i64 (0)))] [(0, 6, .val (.int .i64 (0)))] [⟨g1_0, none, none, (), 6, (t).sc, (t).sc, 25⟩, ⟨g2_5, none, none, (), 6, (t.tbl k_events).sc, (t.tbl k_events).sc, 25⟩] rfl (by rfl) HH7 rfl rfl hLo rfl HS7 (slS 0 rfl rfl (slS 1 rfl rfl (slS 2 rfl rfl (slS 3 rfl rfl (slS 5 rfl rfl (slS 6 rfl rfl (slS 7 rfl rfl (slS 8 rfl rfl (slS 9 rfl rfl (slS 10 rfl rfl (slL 0 (d := 0) rfl (trivial)))))))))))) ?_ ?_
        · show ∀ i ∈ [0], _
          refine steps_cons (st_run 0 _ rfl rfl hLo rfl rfl (fun _ _ _ _ => rfl) (fun b G w hb ho => exec_move (.inr rfl) (rfl))) ?_
          exact steps_nil
        clear hLo
        intro G a9 w9 hS hH
        have HS9 : Sl a9 35 [(0, .agg (FR () 6 ((t).sc))), (1, .string (kd)), (2, .bool true), (3, .pointer (some ⟨g1_0, 0, none⟩)), (7, .pointer (some ⟨g2_5, 0, none⟩)), (9, .int .i64 (((t.tbl k_events).tell kd).1)), (10, .bool false), (22, .bool false), (24, .bool false), (29, .bool true), (6, .int .i64 (0))] := hS
        have HH9 : Held w w9 [⟨g1_0, (), 6, (t).sc, 25⟩, ⟨g2_5, (), 6, (t.tbl k_events).sc, 25⟩] := hH
        clear hS hH HS7 HH7
        refine then_ ?_
        refine wp_ret ?_
        repeat (first | refine then_ret ?_ | refine inBlock_ret' ?_)
        exact b_tmp rfl HS9.2.1 (HS9.get 10 rfl) ⟨int_ret (by unfold sendV; rw [told_of_no hr1, if_neg (by decide), if_neg (kind_no hr2)]), HH9.1⟩
  · skip
    refine wp_cond_true (HS4.get 8 rfl) ?_
    refine wp_seq ?_
    have hLo : LOk [(0, 23, .val (.int .i64 (((t.tbl k_events).tell kd).1))), (1, 6, .val (.int .i64 (((t.tbl k_events).tell kd).1)))] := lok (by rfl) (by rfl)
    refine plain_ (wE := w) (sz := 35) (n := 2) [0, 1] [(0, .val (.agg (FR () 6 ((t).sc)))), (1, .val (.string (kd))), (2, .val (.bool st)), (3, .val (.pointer (some ⟨g1_0, 0, none⟩))), (7, .val (.pointer (some ⟨g2_5, 0, none⟩))), (9, .val (.int .i64 (((t.tbl k_events).tell kd).1))), (10, .val (.bool true)), (22, .val (.bool true)), (6, .val (.int .i64 (((t.tbl k_events).tell kd).1)))] [(0, 23, .val (.int .i64 (((t.tbl k_events).tell kd).1))), (1, 6, .val (.int .i64 (((t.tbl k_events).tell kd).1)))] [⟨g1_0, none, none, (), 6, (t).sc, (t).sc, 25⟩, ⟨g2_5, none, none, (), 6, (t.tbl k_events).sc, (t.tbl k_events).sc, 25⟩] rfl (by rfl) HH4 rfl rfl hLo rfl HS4 (slS 0 rfl rfl (slS 1 rfl rfl (slS 2 rfl rfl (slS 3 rfl rfl (slS 5 rfl rfl (slS 6 rfl rfl (slS 7 rfl rfl (slS 8 rfl rfl (slL 1 (d := 1) rfl (trivial)))))))))) ?_ ?_
    · show ∀ i ∈ [0, 1], _
      refine steps_cons (st_run 0 _ rfl rfl hLo rfl rfl (fun _ _ _ _ => rfl) (fun b G w hb ho => exec_move (.inl rfl) (ev_off rfl (HS4.get 6 rfl)))) ?_
      refine steps_cons (st_run 1 _ rfl rfl hLo rfl rfl (fun _ _ _ _ => rfl) (fun b G w hb ho => exec_move (.inr rfl) (ev_on hLo 0 rfl HS4.1 rfl (hb 0 (by rfl))))) ?_
      exact steps_nil
    clear hLo
    intro G a10 w10 hS hH
    have HS10 : Sl a10 35 [(0, .agg (FR () 6 ((t).sc))), (1, .string (kd)), (2, .bool st), (3, .pointer (some ⟨g1_0, 0, none⟩)), (7, .pointer (some ⟨g2_5, 0, none⟩)), (9, .int .i64 (((t.tbl k_events).tell kd).1)), (10, .bool true), (22, .bool true), (6, .int .i64 (((t.tbl k_events).tell kd).1))] := hS
    have HH10 : Held w w10 [⟨g1_0, (), 6, (t).sc, 25⟩, ⟨g2_5, (), 6, (t.tbl k_events).sc, 25⟩] := hH
    clear hS hH HS4 HH4
    refine then_ ?_
    refine wp_ret ?_
    repeat (first | refine then_ret ?_ | refine inBlock_ret' ?_)
    exact b_tmp rfl HS10.2.1 (HS10.get 8 rfl) ⟨int_ret (by unfold sendV; rw [told_of_tell hr1]), HH10.1⟩
theorem rsend_calls {w : World} {t : T} (kd : ByteArray) (st : Bool) (hIn : In w t) : Calls Tryd.prog 17 #[.agg (FR () 6 ((t).sc)), .string (kd), .bool st] w fun e w' => e = .returned (.int .i64 (sendV t kd st)) ∧ Below w.heap.size w w' := by
  refine enter_ 27 Tryd.func17 rfl rfl (fun a0 hS => ?_)
  have HS0 : Sl a0 27 [(0, .agg (FR () 6 ((t).sc))), (1, .string (kd)), (2, .bool st)] := hS
  have HH0 : Held w w [] := Held.first w
  clear hS
  refine wp_seq ?_
  have hLo : LOk [(0, 3, .new 0 (fun g => .pointer (some ⟨g, 0, none⟩))), (1, 6, .val (.int .i64 (0)))] := lok (by rfl) (by rfl)
  refine plain_ (wE := w) (sz := 27) (n := 2) [0, 1] [(0, .val (.agg (FR () 6 ((t).sc)))), (1, .val (.string (kd))), (2, .val (.bool st)), (3, .new 0 (fun g => .pointer (some ⟨g, 0, none⟩))), (6, .val (.int .i64 (0)))] [(0, 3, .new 0 (fun g => .pointer (some ⟨g, 0, none⟩))), (1, 6, .val (.int .i64 (0)))] [⟨0, some 0, none, (), 6, (t).sc, (t).sc, 25⟩] rfl (by rfl) HH0 rfl rfl hLo rfl HS0 (slS 0 rfl rfl (slS 1 rfl rfl (slS 2 rfl rfl (slL 0 (d := 0) rfl (slL 1 (d := 1) rfl (trivial)))))) ?_ ?_
  · show ∀ i ∈ [0, 1], _
    refine steps_cons (st_alloc 0 0 () 6 25 none _ _ rfl rfl (fun _ _ _ _ => rfl) rfl hLo rfl rfl rfl rfl (by rfl) (fun b G w hb ho => exec_box rfl (ev_off rfl (HS0.get 0 rfl)) (by kernel_rfl))) ?_
    refine steps_cons (st_run 1 _ rfl rfl hLo rfl rfl (fun _ _ _ _ => rfl) (fun b G w hb ho => exec_move (.inr rfl) (rfl))) ?_
    exact steps_nil
  clear hLo
  intro G a1 w1 hS hH
  have HS1 : Sl a1 27 [(0, .agg (FR () 6 ((t).sc))), (1, .string (kd)), (2, .bool st), (3, .pointer (some ⟨(G 0), 0, none⟩)), (6, .int .i64 (0))] := hS
  have HH1 : Held w w1 [⟨(G 0), (), 6, (t).sc, 25⟩] := hH
  clear hS hH HS0 HH0
  generalize G 0 = g1_0 at HS1 HH1
  refine then_ ?_
  obtain ⟨r1, hr1⟩ : ∃ r : Bool, (((t.tab k_events).tell0 kd).2) = r := ⟨_, rfl⟩
  refine wp_seq ?_
  have hLo : LOk [(0, 10, .val (.agg (FR () 6 ((t).sc)))), (1, 11, .val (.agg (FR () 6 ((t.tab k_events).sc)))), (2, 12, .val (.string (kd))), (3, 13, .val (.tuple #[.int .i64 (((t.tab k_events).tell0 kd).1), .bool r1])), (4, 9, .val (.tuple #[.int .i64 (((t.tab k_events).tell0 kd).1), .bool r1])), (5, 14, .val (.int .i64 (((t.tab k_events).tell0 kd).1))), (6, 15, .val (.bool r1)), (7, 7, .val (.int .i64 (((t.tab k_events).tell0 kd).1))), (8, 8, .val (.bool r1))] := lok (by rfl) (by rfl)
  refine plain_ (wE := w) (sz := 27) (n := 9) [0, 1, 3, 7, 15, 31, 63, 127, 255] [(0, .val (.agg (FR () 6 ((t).sc)))), (1, .val (.string (kd))), (2, .val (.bool st)), (3, .val (.pointer (some ⟨g1_0, 0, none⟩))), (6, .val (.int .i64 (0))), (7, .val (.int .i64 (((t.tab k_events).tell0 kd).1))), (8, .val (.bool r1))] [(0, 10, .val (.agg (FR () 6 ((t).sc)))), (1, 11, .val (.agg (FR () 6 ((t.tab k_events).sc)))), (2, 12, .val (.string (kd))), (3, 13, .val (.tuple #[.int .i64 (((t.tab k_events).tell0 kd).1), .bool r1])), (4, 9, .val (.tuple #[.int .i64 (((t.tab k_events).tell0 kd).1), .bool r1])), (5, 14, .val (.int .i64 (((t.tab k_events).tell0 kd).1))), (6, 15, .val (.bool r1)), (7, 7, .val (.int .i64 (((t.tab k_events).tell0 kd).1))), (8, 8, .val (.bool r1))] [⟨g1_0, none, none, (), 6, (t).sc, (t).sc, 25⟩] rfl (by rfl) HH1 rfl rfl hLo rfl HS1 (slS 0 rfl rfl (slS 1 rfl rfl (slS 2 rfl rfl (slS 3 rfl rfl (slS 4 rfl rfl (slL 7 (d := 7) rfl (slL 8 (d := 8) rfl (trivial)))))))) ?_ ?_
  · show ∀ i ∈ [0, 1, 2, 3, 4, 5, 6, 7, 8], _
    refine steps_cons (st_row0 0 0 _ rfl rfl rfl rfl (fun _ _ _ _ => rfl) hLo rfl rfl rfl (by rfl) Tryd.underlying25 (by kernel_rfl) rfl (fun b G hb ho => ev_off rfl (HS1.get 3 rfl))) ?_
    refine steps_cons (st_call 1 _ #[.agg (FR () 6 ((t).sc)), .string (k_events)] rfl rfl rfl (fun _ _ _ _ => rfl) hLo rfl rfl Tryd.func22 rfl rfl (fun b G hb ho => args2 (ev_on hLo 0 rfl HS1.1 rfl (hb 0 (by rfl))) (rfl)) (fun w hw => table_calls k_events (hIn.below hw))) ?_
    refine steps_cons (st_run 2 _ rfl rfl hLo rfl rfl (fun _ _ _ _ => rfl) (fun b G w hb ho => exec_move (.inl rfl) (ev_off rfl (HS1.get 1 rfl)))) ?_
    refine steps_cons (st_call 3 _ #[.agg (FR () 6 ((t.tab k_events).sc)), .string (kd)] rfl rfl rfl (fun _ _ _ _ => rfl) hLo rfl rfl Tryd.func21 rfl rfl (fun b G hb ho => args2 (ev_on hLo 1 rfl HS1.1 rfl (hb 1 (by rfl))) (ev_on hLo 2 rfl HS1.1 rfl (hb 2 (by rfl)))) (fun w hw => (by have hq := told_calls (t := t.tab k_events) kd (hIn.tab.below hw); rw [hr1] at hq; exact hq))) ?_
    refine steps_cons (st_run 4 _ rfl rfl hLo rfl rfl (fun _ _ _ _ => rfl) (fun b G w hb ho => exec_move (.inl rfl) (ev_on hLo 3 rfl HS1.1 rfl (hb 3 (by rfl))))) ?_
    refine steps_cons (st_run 5 _ rfl rfl hLo rfl rfl (fun _ _ _ _ => rfl) (fun b G w hb ho => exec_extract rfl (ev_on hLo 4 rfl HS1.1 rfl (hb 4 (by rfl))) (by rfl))) ?_
    refine steps_cons (st_run 6 _ rfl rfl hLo rfl rfl (fun _ _ _ _ => rfl) (fun b G w hb ho => exec_extract rfl (ev_on hLo 4 rfl HS1.1 rfl (hb 4 (by rfl))) (by rfl))) ?_
    refine steps_cons (st_run 7 _ rfl rfl hLo rfl rfl (fun _ _ _ _ => rfl) (fun b G w hb ho => exec_move (.inr rfl) (ev_on hLo 5 rfl HS1.1 rfl (hb 5 (by rfl))))) ?_
    refine steps_cons (st_run 8 _ rfl rfl hLo rfl rfl (fun _ _ _ _ => rfl) (fun b G w hb ho => exec_move (.inr rfl) (ev_on hLo 6 rfl HS1.1 rfl (hb 6 (by rfl))))) ?_
    exact steps_nil
  clear hLo
  intro G a2 w2 hS hH
  have HS2 : Sl a2 27 [(0, .agg (FR () 6 ((t).sc))), (1, .string (kd)), (2, .bool st), (3, .pointer (some ⟨g1_0, 0, none⟩)), (6, .int .i64 (0)), (7, .int .i64 (((t.tab k_events).tell0 kd).1)), (8, .bool r1)] := hS
  have HH2 : Held w w2 [⟨g1_0, (), 6, (t).sc, 25⟩] := hH
  clear hS hH HS1 HH1
  refine then_ ?_
  refine wp_seq ?_
  refine wp_seq ?_
  have hLo : LOk [(0, 16, .val (.bool r1))] := lok (by rfl) (by rfl)
  refine plain_ (wE := w) (sz := 27) (n := 1) [0] [(0, .val (.agg (FR () 6 ((t).sc)))), (1, .val (.string (kd))), (2, .val (.bool st)), (3, .val (.pointer (some ⟨g1_0, 0, none⟩))), (6, .val (.int .i64 (0))), (7, .val (.int .i64 (((t.tab k_events).tell0 kd).1))), (8, .val (.bool r1)), (16, .val (.bool r1))] [(0, 16, .val (.bool r1))] [⟨g1_0, none, none, (), 6, (t).sc, (t).sc, 25⟩] rfl (by rfl) HH2 rfl rfl hLo rfl HS2 (slS 0 rfl rfl (slS 1 rfl rfl (slS 2 rfl rfl (slS 3 rfl rfl (slS 4 rfl rfl (slS 5 rfl rfl (slS 6 rfl rfl (slL 0 (d := 0) rfl (trivial))))))))) ?_ ?_
  · show ∀ i ∈ [0], _
    refine steps_cons (st_run 0 _ rfl rfl hLo rfl rfl (fun _ _ _ _ => rfl) (fun b G w hb ho => exec_move (.inl rfl) (ev_off rfl (HS2.get 6 rfl)))) ?_
    exact steps_nil
  clear hLo
  intro G a3 w3 hS hH
  have HS3 : Sl a3 27 [(0, .agg (FR () 6 ((t).sc))), (1, .string (kd)), (2, .bool st), (3, .pointer (some ⟨g1_0, 0, none⟩)), (6, .int .i64 (0)), (7, .int .i64 (((t.tab k_events).tell0 kd).1)), (8, .bool r1), (16, .bool r1)] := hS
  have HH3 : Held w w3 [⟨g1_0, (), 6, (t).sc, 25⟩] := hH
  clear hS hH HS2 HH2
  refine then_ ?_
  cases r1
  · skip
    refine wp_cond_false (HS3.get 7 rfl) ?_
    refine wp_skip ?_
    refine then_ ?_
    refine wp_seq ?_
    refine wp_seq ?_
    have hLo : LOk [(0, 18, .val (.bool st)), (1, 19, .val (.bool (!st)))] := lok (by rfl) (by rfl)
    refine plain_ (wE := w) (sz := 27) (n := 2) [0, 1] [(0, .val (.agg (FR () 6 ((t).sc)))), (1, .val (.string (kd))), (2, .val (.bool st)), (3, .val (.pointer (some ⟨g1_0, 0, none⟩))), (6, .val (.int .i64 (0))), (7, .val (.int .i64 (((t.tab k_events).tell0 kd).1))), (8, .val (.bool false)), (16, .val (.bool false)), (19, .val (.bool (!st)))] [(0, 18, .val (.bool st)), (1, 19, .val (.bool (!st)))] [⟨g1_0, none, none, (), 6, (t).sc, (t).sc, 25⟩] rfl (by rfl) HH3 rfl rfl hLo rfl HS3 (slS 0 rfl rfl (slS 1 rfl rfl (slS 2 rfl rfl (slS 3 rfl rfl (slS 4 rfl rfl (slS 5 rfl rfl (slS 6 rfl rfl (slS 7 rfl rfl (slL 1 (d := 1) rfl (trivial)))))))))) ?_ ?_
    · show ∀ i ∈ [0, 1], _
      refine steps_cons (st_run 0 _ rfl rfl hLo rfl rfl (fun _ _ _ _ => rfl) (fun b G w hb ho => exec_move (.inl rfl) (ev_off rfl (HS3.get 2 rfl)))) ?_
      refine steps_cons (st_run 1 _ rfl rfl hLo rfl rfl (fun _ _ _ _ => rfl) (fun b G w hb ho => exec_un rfl (ev_on hLo 0 rfl HS3.1 rfl (hb 0 (by rfl))) (ru_not _))) ?_
      exact steps_nil
    clear hLo
    intro G a4 w4 hS hH
    have HS4 : Sl a4 27 [(0, .agg (FR () 6 ((t).sc))), (1, .string (kd)), (2, .bool st), (3, .pointer (some ⟨g1_0, 0, none⟩)), (6, .int .i64 (0)), (7, .int .i64 (((t.tab k_events).tell0 kd).1)), (8, .bool false), (16, .bool false), (19, .bool (!st))] := hS
    have HH4 : Held w w4 [⟨g1_0, (), 6, (t).sc, 25⟩] := hH
    clear hS hH HS3 HH3
    refine then_ ?_
    cases st
    · skip
      refine wp_cond_true (HS4.get 8 rfl) ?_
      refine wp_seq ?_
      have hLo : LOk [(0, 20, .val (.agg (FR () 6 ((t).sc)))), (1, 21, .val (.int .i64 (levV t k_events_default))), (2, 6, .val (.int .i64 (levV t k_events_default)))] := lok (by rfl) (by rfl)
      refine plain_ (wE := w) (sz := 27) (n := 3) [0, 1, 3] [(0, .val (.agg (FR () 6 ((t).sc)))), (1, .val (.string (kd))), (2, .val (.bool false)), (3, .val (.pointer (some ⟨g1_0, 0, none⟩))), (7, .val (.int .i64 (((t.tab k_events).tell0 kd).1))), (8, .val (.bool false)), (16, .val (.bool false)), (19, .val (.bool true)), (6, .val (.int .i64 (levV t k_events_default)))] [(0, 20, .val (.agg (FR () 6 ((t).sc)))), (1, 21, .val (.int .i64 (levV t k_events_default))), (2, 6, .val (.int .i64 (levV t k_events_default)))] [⟨g1_0, none, none, (), 6, (t).sc, (t).sc, 25⟩] rfl (by rfl) HH4 rfl rfl hLo rfl HS4 (slS 0 rfl rfl (slS 1 rfl rfl (slS 2 rfl rfl (slS 3 rfl rfl (slS 5 rfl rfl (slS 6 rfl rfl (slS 7 rfl rfl (slS 8 rfl rfl (slL 2 (d := 2) rfl (trivial)))))))))) ?_ ?_
      · show ∀ i ∈ [0, 1, 2], _
        refine steps_cons (st_row0 0 0 _ rfl rfl rfl rfl (fun _ _ _ _ => rfl) hLo rfl rfl rfl (by rfl) Tryd.underlying25 (by kernel_rfl) rfl (fun b G hb ho => ev_off rfl (HS4.get 3 rfl))) ?_
        refine steps_cons (st_call 1 _ #[.agg (FR () 6 ((t).sc)), .string (k_events_default)] rfl rfl rfl (fun _ _ _ _ => rfl) hLo rfl rfl Tryd.func12 rfl rfl (fun b G hb ho => args2 (ev_on hLo 0 rfl HS4.1 rfl (hb 0 (by rfl))) (rfl)) (fun w hw => rlevel_calls k_events_default (hIn.below hw))) ?_
        refine steps_cons (st_run 2 _ rfl rfl hLo rfl rfl (fun _ _ _ _ => rfl) (fun b G w hb ho => exec_move (.inr rfl) (ev_on hLo 1 rfl HS4.1 rfl (hb 1 (by rfl))))) ?_
        exact steps_nil
      clear hLo
      intro G a5 w5 hS hH
      have HS5 : Sl a5 27 [(0, .agg (FR () 6 ((t).sc))), (1, .string (kd)), (2, .bool false), (3, .pointer (some ⟨g1_0, 0, none⟩)), (7, .int .i64 (((t.tab k_events).tell0 kd).1)), (8, .bool false), (16, .bool false), (19, .bool true), (6, .int .i64 (levV t k_events_default))] := hS
      have HH5 : Held w w5 [⟨g1_0, (), 6, (t).sc, 25⟩] := hH
      clear hS hH HS4 HH4
      refine then_ ?_
      refine wp_ret ?_
      repeat (first | refine then_ret ?_ | refine inBlock_ret' ?_)
      exact b_tmp rfl HS5.2.1 (HS5.get 8 rfl) ⟨int_ret (by unfold sendV; rw [← T.told_tab, told_of_no0 hr1, if_pos rfl]), HH5.1⟩
    · skip
      refine wp_cond_false (HS4.get 8 rfl) ?_
      refine wp_skip ?_
      refine then_ ?_
      refine wp_seq ?_
      obtain ⟨r2, hr2⟩ : ∃ r : Bool, ((((t).kind : Int) != 5)) = r := ⟨_, rfl⟩
      refine wp_seq ?_
      have hLo : LOk [(0, 22, .val (.pointer (some ⟨g1_0, 0, none⟩))), (1, 23, .val (.int .i64 ((t).kind))), (2, 24, .val (.bool r2))] := lok (by rfl) (by rfl)
      refine plain_ (wE := w) (sz := 27) (n := 3) [0, 1, 3] [(0, .val (.agg (FR () 6 ((t).sc)))), (1, .val (.string (kd))), (2, .val (.bool true)), (3, .val (.pointer (some ⟨g1_0, 0, none⟩))), (6, .val (.int .i64 (0))), (7, .val (.int .i64 (((t.tab k_events).tell0 kd).1))), (8, .val (.bool false)), (16, .val (.bool false)), (19, .val (.bool false)), (24, .val (.bool r2))] [(0, 22, .val (.pointer (some ⟨g1_0, 0, none⟩))), (1, 23, .val (.int .i64 ((t).kind))), (2, 24, .val (.bool r2))] [⟨g1_0, none, none, (), 6, (t).sc, (t).sc, 25⟩] rfl (by rfl) HH4 rfl rfl hLo rfl HS4 (slS 0 rfl rfl (slS 1 rfl rfl (slS 2 rfl rfl (slS 3 rfl rfl (slS 4 rfl rfl (slS 5 rfl rfl (slS 6 rfl rfl (slS 7 rfl rfl (slS 8 rfl rfl (slL 2 (d := 2) rfl (trivial))))))))))) ?_ ?_
      · show ∀ i ∈ [0, 1, 2], _
        refine steps_cons (st_run 0 _ rfl rfl hLo rfl rfl (fun _ _ _ _ => rfl) (fun b G w hb ho => exec_field rfl (ev_off rfl (HS4.get 3 rfl)) (by kernel_rfl))) ?_
        refine steps_cons (st_read 1 0 _ _ rfl rfl rfl hLo rfl rfl (fun _ _ _ _ => rfl) (by rfl) (by rfl) (fun b G w hb ho hr => exec_cell hr (Nat.le_of_ble_eq_true rfl) Tryd.underlying3 rfl rfl (ev_on hLo 0 rfl HS4.1 rfl (hb 0 (by rfl))))) ?_
        refine steps_cons (st_run 2 _ rfl rfl hLo rfl rfl (fun _ _ _ _ => rfl) (fun b G w hb ho => exec_bin rfl (ev_on hLo 1 rfl HS4.1 rfl (hb 1 (by rfl))) (rfl) (rb_neq hr2 _ _ _))) ?_
        exact steps_nil
      clear hLo
      intro G a6 w6 hS hH
      have HS6 : Sl a6 27 [(0, .agg (FR () 6 ((t).sc))), (1, .string (kd)), (2, .bool true), (3, .pointer (some ⟨g1_0, 0, none⟩)), (6, .int .i64 (0)), (7, .int .i64 (((t.tab k_events).tell0 kd).1)), (8, .bool false), (16, .bool false), (19, .bool false), (24, .bool r2)] := hS
      have HH6 : Held w w6 [⟨g1_0, (), 6, (t).sc, 25⟩] := hH
      clear hS hH HS4 HH4
      refine then_ ?_
      cases r2
      · skip
        refine wp_cond_false (HS6.get 9 rfl) ?_
        refine wp_skip ?_
        refine then_ ?_
        refine wp_seq ?_
        have hLo : LOk [(0, 25, .val (.agg (FR () 6 ((t).sc)))), (1, 26, .val (.int .i64 (levV t k_state_default))), (2, 6, .val (.int .i64 (levV t k_state_default)))] := lok (by rfl) (by rfl)
        refine plain_ (wE := w) (sz := 27) (n := 3) [0, 1, 3] [(0, .val (.agg (FR () 6 ((t).sc)))), (1, .val (.string (kd))), (2, .val (.bool true)), (3, .val (.pointer (some ⟨g1_0, 0, none⟩))), (7, .val (.int .i64 (((t.tab k_events).tell0 kd).1))), (8, .val (.bool false)), (16, .val (.bool false)), (19, .val (.bool false)), (24, .val (.bool false)), (6, .val (.int .i64 (levV t k_state_default)))] [(0, 25, .val (.agg (FR () 6 ((t).sc)))), (1, 26, .val (.int .i64 (levV t k_state_default))), (2, 6, .val (.int .i64 (levV t k_state_default)))] [⟨g1_0, none, none, (), 6, (t).sc, (t).sc, 25⟩] rfl (by rfl) HH6 rfl rfl hLo rfl HS6 (slS 0 rfl rfl (slS 1 rfl rfl (slS 2 rfl rfl (slS 3 rfl rfl (slS 5 rfl rfl (slS 6 rfl rfl (slS 7 rfl rfl (slS 8 rfl rfl (slS 9 rfl rfl (slL 2 (d := 2) rfl (trivial))))))))))) ?_ ?_
        · show ∀ i ∈ [0, 1, 2], _
          refine steps_cons (st_row0 0 0 _ rfl rfl rfl rfl (fun _ _ _ _ => rfl) hLo rfl rfl rfl (by rfl) Tryd.underlying25 (by kernel_rfl) rfl (fun b G hb ho => ev_off rfl (HS6.get 3 rfl))) ?_
          refine steps_cons (st_call 1 _ #[.agg (FR () 6 ((t).sc)), .string (k_state_default)] rfl rfl rfl (fun _ _ _ _ => rfl) hLo rfl rfl Tryd.func12 rfl rfl (fun b G hb ho => args2 (ev_on hLo 0 rfl HS6.1 rfl (hb 0 (by rfl))) (rfl)) (fun w hw => rlevel_calls k_state_default (hIn.below hw))) ?_
          refine steps_cons (st_run 2 _ rfl rfl hLo rfl rfl (fun _ _ _ _ => rfl) (fun b G w hb ho => exec_move (.inr rfl) (ev_on hLo 1 rfl HS6.1 rfl (hb 1 (by rfl))))) ?_
          exact steps_nil
        clear hLo
        intro G a7 w7 hS hH
        have HS7 : Sl a7 27 [(0, .agg (FR () 6 ((t).sc))), (1, .string (kd)), (2, .bool true), (3, .pointer (some ⟨g1_0, 0, none⟩)), (7, .int .i64 (((t.tab k_events).tell0 kd).1)), (8, .bool false), (16, .bool false), (19, .bool false), (24, .bool false), (6, .int .i64 (levV t k_state_default))] := hS
        have HH7 : Held w w7 [⟨g1_0, (), 6, (t).sc, 25⟩] := hH
        clear hS hH HS6 HH6
        refine then_ ?_
        refine wp_ret ?_
        repeat (first | refine then_ret ?_ | refine inBlock_ret' ?_)
        exact b_tmp rfl HS7.2.1 (HS7.get 9 rfl) ⟨int_ret (by unfold sendV; rw [← T.told_tab, told_of_no0 hr1, if_neg (by decide), if_pos (kind_is hr2)]), HH7.1⟩
      · skip
        refine wp_cond_true (HS6.get 9 rfl) ?_
        refine wp_seq ?_
        have hLo : LOk [(0, 6, .val (.int .i64 (0)))] := lok (by rfl) (by rfl)
        refine plain_ (wE := w) (sz := 27) (n := 1) [0] [(0, .val (.agg (FR () 6 ((t).sc)))), (1, .val (.string (kd))), (2, .val (.bool true)), (3, .val (.pointer (some ⟨g1_0, 0, none⟩))), (7, .val (.int .i64 (((t.tab k_events).tell0 kd).1))), (8, .val (.bool false)), (16, .val (.bool false)), (19, .val (.bool false)), (24, .val (.bool true)), (6, .val (.int .i64 (0)))] [(0, 6, .val (.int .i64 (0)))] [⟨g1_0, none, none, (), 6, (t).sc, (t).sc, 25⟩] rfl (by rfl) HH6 rfl rfl hLo rfl HS6 (slS 0 rfl rfl (slS 1 rfl rfl (slS 2 rfl rfl (slS 3 rfl rfl (slS 5 rfl rfl (slS 6 rfl rfl (slS 7 rfl rfl (slS 8 rfl rfl (slS 9 rfl rfl (slL 0 (d := 0) rfl (trivial))))))))))) ?_ ?_
        · show ∀ i ∈ [0], _
          refine steps_cons (st_run 0 _ rfl rfl hLo rfl rfl (fun _ _ _ _ => rfl) (fun b G w hb ho => exec_move (.inr rfl) (rfl))) ?_
          exact steps_nil
        clear hLo
        intro G a8 w8 hS hH
        have HS8 : Sl a8 27 [(0, .agg (FR () 6 ((t).sc))), (1, .string (kd)), (2, .bool true), (3, .pointer (some ⟨g1_0, 0, none⟩)), (7, .int .i64 (((t.tab k_events).tell0 kd).1)), (8, .bool false), (16, .bool false), (19, .bool false), (24, .bool true), (6, .int .i64 (0))] := hS
        have HH8 : Held w w8 [⟨g1_0, (), 6, (t).sc, 25⟩] := hH
        clear hS hH HS6 HH6
        refine then_ ?_
        refine wp_ret ?_
        repeat (first | refine then_ret ?_ | refine inBlock_ret' ?_)
        exact b_tmp rfl HS8.2.1 (HS8.get 9 rfl) ⟨int_ret (by unfold sendV; rw [← T.told_tab, told_of_no0 hr1, if_neg (by decide), if_neg (kind_no hr2)]), HH8.1⟩
  · skip
    refine wp_cond_true (HS3.get 7 rfl) ?_
    refine wp_seq ?_
    have hLo : LOk [(0, 17, .val (.int .i64 (((t.tab k_events).tell0 kd).1))), (1, 6, .val (.int .i64 (((t.tab k_events).tell0 kd).1)))] := lok (by rfl) (by rfl)
    refine plain_ (wE := w) (sz := 27) (n := 2) [0, 1] [(0, .val (.agg (FR () 6 ((t).sc)))), (1, .val (.string (kd))), (2, .val (.bool st)), (3, .val (.pointer (some ⟨g1_0, 0, none⟩))), (7, .val (.int .i64 (((t.tab k_events).tell0 kd).1))), (8, .val (.bool true)), (16, .val (.bool true)), (6, .val (.int .i64 (((t.tab k_events).tell0 kd).1)))] [(0, 17, .val (.int .i64 (((t.tab k_events).tell0 kd).1))), (1, 6, .val (.int .i64 (((t.tab k_events).tell0 kd).1)))] [⟨g1_0, none, none, (), 6, (t).sc, (t).sc, 25⟩] rfl (by rfl) HH3 rfl rfl hLo rfl HS3 (slS 0 rfl rfl (slS 1 rfl rfl (slS 2 rfl rfl (slS 3 rfl rfl (slS 5 rfl rfl (slS 6 rfl rfl (slS 7 rfl rfl (slL 1 (d := 1) rfl (trivial))))))))) ?_ ?_
    · show ∀ i ∈ [0, 1], _
      refine steps_cons (st_run 0 _ rfl rfl hLo rfl rfl (fun _ _ _ _ => rfl) (fun b G w hb ho => exec_move (.inl rfl) (ev_off rfl (HS3.get 5 rfl)))) ?_
      refine steps_cons (st_run 1 _ rfl rfl hLo rfl rfl (fun _ _ _ _ => rfl) (fun b G w hb ho => exec_move (.inr rfl) (ev_on hLo 0 rfl HS3.1 rfl (hb 0 (by rfl))))) ?_
      exact steps_nil
    clear hLo
    intro G a9 w9 hS hH
    have HS9 : Sl a9 27 [(0, .agg (FR () 6 ((t).sc))), (1, .string (kd)), (2, .bool st), (3, .pointer (some ⟨g1_0, 0, none⟩)), (7, .int .i64 (((t.tab k_events).tell0 kd).1)), (8, .bool true), (16, .bool true), (6, .int .i64 (((t.tab k_events).tell0 kd).1))] := hS
    have HH9 : Held w w9 [⟨g1_0, (), 6, (t).sc, 25⟩] := hH
    clear hS hH HS3 HH3
    refine then_ ?_
    refine wp_ret ?_
    repeat (first | refine then_ret ?_ | refine inBlock_ret' ?_)
    exact b_tmp rfl HS9.2.1 (HS9.get 7 rfl) ⟨int_ret (by unfold sendV; rw [← T.told_tab, told_of_tell0 hr1]), HH9.1⟩
section
variable {P : Program} {ops : Array Oper} {Q : Exit → Act → World → Prop} {B : List Nat} {wE : World} {a0 : Act} {L : List (Nat × Tmp × SV)} {A : List Ent} {i : Nat}
def partI (p k : Nat) : Nat → Bool := fun j => decide (p ≤ j) && decide (j < k)
theorem part_list (B : List Nat) (I : (Nat → Bool) → Act → World → Prop) (p q : Nat) (hs : ∀ i ∈ List.range' p (q - p), StepAt P ops Q B (List.range' p (q - p)) I i)
    (hB : ∀ i j, (B.getD i 0).testBit j = true → j < i) (hend : ∀ a w, I (partI p q) a w → wpList P ops Q (ops.toList.drop q) a w) :
    ∀ (m k : Nat) (a : Act) (w : World), k + m = q → p ≤ k → q ≤ ops.size → I (partI p k) a w → wpList P ops Q (ops.toList.drop k) a w
  | 0, k, a, w, hk, _, _, hI => by
    have e2 : k = q := by omega
    subst e2
    exact hend a w hI
  | m + 1, k, a, w, hk, hp, hq, hI => by
    have hlt : k < ops.toList.length := by simp; omega
    rw [List.drop_eq_getElem_cons hlt]
    obtain ⟨oi, hoi, h⟩ := hs k (List.mem_range'_1.2 ⟨hp, by omega⟩) _ a w hI (by simp [partI]) (fun j hj => by
      rw [Bool.and_eq_true] at hj
      have h1 := hB k j hj.2
      have h2 := List.mem_range'_1.1 (by simpa using hj.1)
      simp [partI]; omega) (fun d hd => by
      rw [Bool.and_eq_true] at hd
      have := hB d k hd.2
      simp [partI]; omega)
    have e : ops.toList[k] = oi := by
      have h1 := List.getElem?_eq_getElem hlt
      rw [Array.getElem?_toList, hoi] at h1
      exact (Option.some.inj h1).symm
    rw [e]
    refine wpList_step (fun K hK => h K (fun a' w' hI' => hK a' w' (part_list B I p q hs hB hend m (k + 1) a' w' (by omega) (by omega) hq ?_)))
    have e2 : partI p (k + 1) = up (partI p k) k := by
      funext j
      unfold up partI
      split
      · subst j; simp [hp]
      · rename_i hne
        have : (j < k + 1) = (j < k) := by apply propext; omega
        simp only [this]
    rw [e2]
    exact hI'
theorem part_ {w : World} {R : List RowD} {n sz : Nat} {S : List (Tmp × Value)} (p q : Nat) (B : List Nat) (S' : List (Tmp × SV)) (L : List (Nat × Tmp × SV)) (A : List Ent) (hn : ops.size = n) (hpq : (Nat.ble p q && Nat.ble q n) = true) (hB : lowB B n = true)
    (hH : Held wE w R) (hR : (A.filter fun x => x.born == none).map Ent.row0 = R) (hA : (A.all fun x => (match x.born with | none => true | some j => (List.range' p (q - p)).contains j) && (match x.stored with | none => true | some j => (List.range' p (q - p)).contains j)) = true) (hLo : LOk L) (hL : (L.all fun e => (List.range' p (q - p)).contains e.1 && Nat.ble (e.2.1 + 1) sz) = true) (hS : Sl a0 sz S) (hS' : SlOk L S S')
    (hs : ∀ i ∈ List.range' p (q - p), StepAt P ops Q B (List.range' p (q - p)) (RI wE a0 L A) i) (hend : ∀ G a' w', Sl a' sz (S'.map fun e => (e.1, e.2.at G)) → Held wE w' (A.map fun x => x.row G) → wpList P ops Q (ops.toList.drop q) a' w') : wpList P ops Q (ops.toList.drop p) a0 w := by
  subst hn
  rw [Bool.and_eq_true, Nat.ble_eq, Nat.ble_eq] at hpq
  refine part_list (P := P) (Q := Q) (ops := ops) B (RI wE a0 L A) p q hs (fun i j hj => lowB_is hB i j hj) (fun a w hI => by
    obtain ⟨G, h1, h2⟩ := hI.fin (O := List.range' p (q - p)) (fun j hj => by
      have := List.mem_range'_1.1 (by simpa using hj)
      simp [partI]; omega) hA hLo hL hS hS'
    exact hend G a w h1 h2) (q - p) p a0 w (by omega) (Nat.le_refl _) hpq.2 (by
      have e : partI p p = fun _ => false := by
        funext j
        unfold partI
        by_cases h : p ≤ j
        · simp; try (intro _; exact h)
        · simp; try (intro q; exact absurd q h)
      rw [e]
      exact RI.start hH hR)
theorem whole_ {id : Nat} {a : Act} {w : World} (h : wpList P ops Q (ops.toList.drop 0) a w) : (Code.region id ops false).wp P Q a w := wp_region_list h
theorem end_ {n : Nat} {a : Act} {w : World} (hn : ops.size = n) (h : Q .normal a w) : wpList P ops Q (ops.toList.drop n) a w := by
  subst hn
  rw [List.drop_eq_nil_iff.2 (by simp)]
  exact h
theorem Sl.put {a : Act} {sz : Nat} {S S' : List (Tmp × Value)} {N : Tmp} {v : Value} (h : Sl a sz S) (hN : Nat.ble (N + 1) sz = true) (he : S' = (N, v) :: S.filter fun e => !(e.1 == N)) : Sl (a.put (some N) v) sz S' := by
  subst he
  have hN := Nat.le_of_ble_eq_true hN
  have hx : N < a.tmps.size := Nat.lt_of_lt_of_le (Nat.lt_succ_self N) (Nat.le_trans hN (Nat.le_of_eq h.1.symm))
  refine ⟨by show (a.tmps.setIfInBounds N v).size = sz; rw [Array.size_setIfInBounds]; exact h.1, h.2.1, fun e he => ?_⟩
  rcases List.mem_cons.1 he with rfl | he
  · show (a.tmps.setIfInBounds N v).getD N undef = v
    rw [Array.getD_eq_getD_getElem?, Array.getElem?_setIfInBounds_self_of_lt hx]; rfl
  · obtain ⟨h1, h2⟩ := List.mem_filter.1 he
    have hne : e.1 ≠ N := by simpa using h2
    have h3 := h.2.2 e h1
    show (a.tmps.setIfInBounds N v).getD e.1 undef = e.2
    rw [Array.getD_eq_getD_getElem?, Array.getElem?_setIfInBounds_ne (fun q => hne q.symm), ← Array.getD_eq_getD_getElem?]
    exact h3
theorem drop_at {i : Nat} {oi : Oper} (h : ops[i]? = some oi) : ops.toList.drop i = oi :: ops.toList.drop (i + 1) := by
  have hlt : i < ops.toList.length := by
    rw [Array.length_toList]; exact (Array.getElem?_eq_some_iff.1 h).1
  rw [List.drop_eq_getElem_cons hlt]
  congr 1
  have h1 := List.getElem?_eq_getElem hlt
  rw [Array.getElem?_toList, h] at h1
  exact (Option.some.inj h1).symm
theorem cut_call {N : Tmp} {sz : Nat} {S : List (Tmp × Value)} {a : Act} {w : World} {oi : Oper} {f : FuncId} {fn : Func} {asx : Array Operand} {ts : Array TypeId} {args : Array Value} (R0 : Ending → World → Prop) (hoi : ops[i]? = some oi) (hN : oi.dst = some N) (hop : oi.op = .call { callee := .value (.func f), args := asx, argTypes := ts })
    (hw : Region.wanted oi (yielded ops a.tmps) = true) (hf : P.funcs[f]? = some fn) (hname : (fn.name == "runtime.NumGoroutine") = false) (hbd : fn.body.isSome = true) (hargs : asx.map a.eval = args) (hc : Calls P f args w R0) (hS : Sl a sz S) (hNs : Nat.ble (N + 1) sz = true)
    (h : ∀ e w', R0 e w' → ∃ v, e = .returned v ∧ ∀ a', Sl a' sz ((N, v) :: S.filter fun e => !(e.1 == N)) → wpList P ops Q (ops.toList.drop (i + 1)) a' w') : wpList P ops Q (ops.toList.drop i) a w := by
  rw [drop_at hoi]
  refine wpList_step (fun K hK => ?_)
  rw [hN]
  refine goes_ hf hname hbd args hw hN hop hargs (hc.mono fun e w' he => ?_)
  obtain ⟨v, h1, h2⟩ := h e w' he
  exact ⟨v, h1, hK _ _ (h2 _ (hS.put hNs rfl))⟩
end
theorem Held.call {wE w w' : World} {R : List RowD} (h : Held wE w R) (hb : Below w.heap.size w w') : Held wE w' R :=
  ⟨h.1.trans (hb.mono h.1.size), fun r hr => ⟨(h.2.1 r hr).1, (h.2.1 r hr).2.below hb (h.2.1 r hr).2.lt⟩, h.2.2⟩
theorem Held.back {wE w1 w2 : World} {R R2 : List RowD} (h : Held wE w1 R) (h2 : Held w1 w2 R2) : Held wE w2 R := h.call h2.1
theorem row_at {w : World} {g n : Nat} {f : Nat → SC} {t : TypeId} (h : Row w g () n f t) : ∀ j, j < n → w.cell? ((⟨g, 0, none⟩ : Addr).add j) = some (mkc () (f j)) := fun j hj => by
  rw [add_at, Nat.zero_add]; exact h.cell j hj
def k_ax : ByteArray := ⟨#[64, 97, 58, 120]⟩
def k_m : ByteArray := ⟨#[109]⟩
def lvN : T := .mk 2 false 100 ByteArray.empty none 0 0 (fun _ => .no) none 0 0 (fun _ => ByteArray.empty) (fun _ => .no)
def one (g : Nat) (k : ByteArray) (t : T) : T := .mk 5 false 0 ByteArray.empty none 0 0 (fun _ => .no) (some ⟨g, 0, none⟩) 1 1 (fun _ => k) (fun _ => t)
def lvT (g h : Nat) : T := one h k_users (one g k_ax lvN)
theorem In.lvN (w : World) : In w lvN := by
  refine ⟨⟨by decide, by decide, by decide, by decide, by decide, by decide, by decide, by decide, by decide⟩, fun i h => ?_, fun i h => ?_⟩
  · exact absurd h (Nat.not_lt_zero _)
  · exact absurd h (Nat.not_lt_zero _)
theorem In.one {w : World} {g : Nat} {k : ByteArray} {t : T} {ty : TypeId} (hr : Row w g () 7 (msc k t) ty) (hk : k.size ≤ reach47) (ht : In w t) : In w (one g k t) := by
  refine ⟨⟨by decide, by decide, by decide, by decide, by decide, by decide, by decide, by decide, by decide⟩, fun i h => absurd h (Nat.not_lt_zero _), fun i h => ?_⟩
  obtain rfl : i = 0 := by omega
  refine ⟨⟨⟨g, 0, none⟩, rfl, row_at hr 0 (by decide), fun j hj => ?_⟩, hk, ht⟩
  have := row_at hr (j + 1) (by omega)
  rw [show 0 * 7 + 1 + j = j + 1 by omega]
  exact this
theorem Rises.lvN : Rises lvN := ⟨fun i h => absurd h (Nat.not_lt_zero _), fun i h => absurd h (Nat.not_lt_zero _), fun i h => absurd h (Nat.not_lt_zero _)⟩
theorem Rises.one {g : Nat} {k : ByteArray} {t : T} (h : Rises t) : Rises (one g k t) :=
  ⟨fun i h => by omega, fun i h => absurd h (Nat.not_lt_zero _), fun _ _ => h⟩
theorem Rises.lvT (g h : Nat) : Rises (lvT g h) := Rises.one (Rises.one Rises.lvN)
theorem ret_in {w : World} {g h : Nat} {t1 t2 : TypeId} (h1 : Row w g () 7 (msc k_ax lvN) t1) (h2 : Row w h () 7 (msc k_users (one g k_ax lvN)) t2) : In w (lvT g h) := In.one h2 (by decide) (In.one h1 (by decide) (In.lvN w))
theorem one_get (g : Nat) (k key : ByteArray) (t : T) : (one g k t).get key = if k = key then some t else none := by
  show (look (fun _ => k) key 1).map (fun _ => t) = _
  unfold look look
  by_cases h : k = key
  · rw [if_pos h]; simp [h]
  · rw [if_neg h]; simp [h]
theorem one_told (g : Nat) (k key : ByteArray) (t : T) : (one g k t).told key = if k = key then (if t.kind = 2 then some t.num else none) else none := by
  unfold T.told
  rw [one_get]
  by_cases h : k = key
  · rw [if_pos h, if_pos h]
  · rw [if_neg h, if_neg h]
theorem one_tbl (g : Nat) (k key : ByteArray) (t : T) : (one g k t).tbl key = if k = key then t else T.zero := by
  unfold T.tbl
  rw [one_get]
  by_cases h : k = key
  · rw [if_pos h, if_pos h]; rfl
  · rw [if_neg h, if_neg h]; rfl
theorem zero_told (key : ByteArray) : T.zero.told key = none := by
  unfold T.told T.get
  rw [if_neg (by decide)]
theorem lv_user1 (g h : Nat) : userV (lvT g h) ByteArray.empty k_ax = 100 := by
  unfold userV
  rw [if_pos (show (lvT g h).kind = 5 from rfl)]
  unfold lvT
  rw [one_tbl, if_pos rfl, one_told, if_pos rfl]; rfl
theorem lv_send1 (g h : Nat) : sendV (lvT g h) k_m true = 50 := by
  unfold sendV
  rw [show (lvT g h).tbl k_events = T.zero by unfold lvT; rw [one_tbl, if_neg (by decide)], zero_told]
  rw [Option.getD_none]
  rw [if_neg (by decide), if_pos (show (lvT g h).kind = 5 from rfl)]
  unfold levV lvT
  rw [one_told, if_neg (by decide)]; decide
theorem levels_calls (w : World) : Calls Tryd.prog 14 #[] w fun e w' => (∃ g h, e = .returned (lvT g h).val ∧ In w' (lvT g h)) ∧ Below w.heap.size w w' := by
  refine enter_ 10 Tryd.func14 rfl rfl (fun a0 hS => ?_)
  have HS0 : Sl a0 10 [] := hS
  have HH0 : Held w w [] := Held.first w
  clear hS
  refine wp_seq ?_
  have hLo : LOk [(0, 0, .new 0 (fun g => .pointer (some ⟨g, 0, none⟩)))] := lok (by rfl) (by rfl)
  refine plain_ (wE := w) (sz := 10) (n := 1) [0] [(0, .new 0 (fun g => .pointer (some ⟨g, 0, none⟩)))] [(0, 0, .new 0 (fun g => .pointer (some ⟨g, 0, none⟩)))] [⟨0, some 0, none, (), 6, lsc [.i .i64 (0), .b (false), .i .i64 (0), .s (ByteArray.empty), .sl (none) (0) (0), .sl (none) (0) (0)], lsc [.i .i64 (0), .b (false), .i .i64 (0), .s (ByteArray.empty), .sl (none) (0) (0), .sl (none) (0) (0)], 25⟩] rfl (by rfl) HH0 rfl rfl hLo rfl HS0 (slL 0 (d := 0) rfl (trivial)) ?_ ?_
  · show ∀ i ∈ [0], _
    refine steps_cons (st_alloc 0 0 () 6 25 none _ _ rfl rfl (fun _ _ _ _ => rfl) rfl hLo rfl rfl rfl rfl (by rfl) (fun b G w _ _ => by kernel_rfl)) ?_
    exact steps_nil
  clear hLo
  intro G a1 w1 hS hH
  have HS1 : Sl a1 10 [(0, .pointer (some ⟨(G 0), 0, none⟩))] := hS
  have HH1 : Held w w1 [⟨(G 0), (), 6, lsc [.i .i64 (0), .b (false), .i .i64 (0), .s (ByteArray.empty), .sl (none) (0) (0), .sl (none) (0) (0)], 25⟩] := hH
  clear hS hH HS0 HH0
  generalize G 0 = g1_0 at HS1 HH1
  refine then_ ?_
  refine wp_seq ?_
  refine whole_ ?_
  have hLo : LOk [(0, 2, .val (.agg (FR () 6 ((lvN).sc)))), (1, 3, .val (.agg (FR () 7 (msc (k_ax) (lvN))))), (2, 4, .new 2 (fun g => .slice (some ⟨g, 0, none⟩) (1) (1)))] := lok (by rfl) (by rfl)
  refine part_ (wE := w) (sz := 10) (n := 6) 0 3 [0, 1, 3, 7, 15, 31] [(0, .val (.pointer (some ⟨g1_0, 0, none⟩))), (4, .new 2 (fun g => .slice (some ⟨g, 0, none⟩) (1) (1)))] [(0, 2, .val (.agg (FR () 6 ((lvN).sc)))), (1, 3, .val (.agg (FR () 7 (msc (k_ax) (lvN))))), (2, 4, .new 2 (fun g => .slice (some ⟨g, 0, none⟩) (1) (1)))] [⟨g1_0, none, none, (), 6, lsc [.i .i64 (0), .b (false), .i .i64 (0), .s (ByteArray.empty), .sl (none) (0) (0), .sl (none) (0) (0)], lsc [.i .i64 (0), .b (false), .i .i64 (0), .s (ByteArray.empty), .sl (none) (0) (0), .sl (none) (0) (0)], 25⟩, ⟨0, some 2, none, (), 7, msc (k_ax) (lvN), msc (k_ax) (lvN), 44⟩] rfl rfl (by rfl) HH1 rfl rfl hLo rfl HS1 (slS 0 rfl rfl (slL 2 (d := 2) rfl (trivial))) ?_ ?_
  · show ∀ i ∈ [0, 1, 2], _
    refine steps_cons (st_run 0 _ rfl rfl hLo rfl rfl (fun _ _ _ _ => rfl) (fun b G w hb ho => exec_build rfl (parts2 (rfl) (rfl)) (by kernel_rfl))) ?_
    refine steps_cons (st_run 1 _ rfl rfl hLo rfl rfl (fun _ _ _ _ => rfl) (fun b G w hb ho => exec_build rfl (parts2 (rfl) (ev_on hLo 0 rfl HS1.1 rfl (hb 0 (by rfl)))) (by kernel_rfl))) ?_
    refine steps_cons (st_alloc 2 1 () 7 44 none _ _ rfl rfl (fun _ _ _ _ => rfl) rfl hLo rfl rfl rfl rfl (by rfl) (fun b G w hb ho => exec_buildSlice rfl (parts1 (ev_on hLo 1 rfl HS1.1 rfl (hb 1 (by rfl)))) (by kernel_rfl))) ?_
    exact steps_nil
  clear hLo
  intro G a2 w2 hS hH
  have HS2 : Sl a2 10 [(0, .pointer (some ⟨g1_0, 0, none⟩)), (4, .slice (some ⟨(G 2), 0, none⟩) (1) (1))] := hS
  have HH2 : Held w w2 [⟨g1_0, (), 6, lsc [.i .i64 (0), .b (false), .i .i64 (0), .s (ByteArray.empty), .sl (none) (0) (0), .sl (none) (0) (0)], 25⟩, ⟨(G 2), (), 7, msc (k_ax) (lvN), 44⟩] := hH
  clear hS hH HS1 HH1
  generalize G 2 = g2_2 at HS2 HH2
  have hLo : LOk [(3, 5, .val (.agg (FR () 6 ((one g2_2 k_ax lvN).sc)))), (4, 1, .new 4 (fun g => .pointer (some ⟨g, 0, none⟩)))] := lok (by rfl) (by rfl)
  refine part_ (wE := w) (sz := 10) (n := 6) 3 6 [0, 1, 3, 7, 15, 31] [(0, .val (.pointer (some ⟨g1_0, 0, none⟩))), (1, .new 4 (fun g => .pointer (some ⟨g, 0, none⟩)))] [(3, 5, .val (.agg (FR () 6 ((one g2_2 k_ax lvN).sc)))), (4, 1, .new 4 (fun g => .pointer (some ⟨g, 0, none⟩)))] [⟨g1_0, none, none, (), 6, lsc [.i .i64 (0), .b (false), .i .i64 (0), .s (ByteArray.empty), .sl (none) (0) (0), .sl (none) (0) (0)], lsc [.i .i64 (0), .b (false), .i .i64 (0), .s (ByteArray.empty), .sl (none) (0) (0), .sl (none) (0) (0)], 25⟩, ⟨g2_2, none, none, (), 7, msc (k_ax) (lvN), msc (k_ax) (lvN), 44⟩, ⟨0, some 4, some 5, (), 6, lsc [.i .i64 (0), .b (false), .i .i64 (0), .s (ByteArray.empty), .sl (none) (0) (0), .sl (none) (0) (0)], (one g2_2 k_ax lvN).sc, 25⟩] rfl rfl (by rfl) HH2 rfl rfl hLo rfl HS2 (slS 0 rfl rfl (slL 1 (d := 4) rfl (trivial))) ?_ ?_
  · show ∀ i ∈ [3, 4, 5], _
    refine steps_cons (st_run 0 _ rfl rfl hLo rfl rfl (fun _ _ _ _ => rfl) (fun b G w hb ho => exec_build rfl (parts2 (rfl) (ev_off rfl (HS2.get 1 rfl))) (by kernel_rfl))) ?_
    refine steps_cons (st_alloc 1 2 () 6 25 (some 5) _ _ rfl rfl (fun _ _ _ _ => rfl) rfl hLo rfl rfl rfl rfl (by rfl) (fun b G w _ _ => by kernel_rfl)) ?_
    refine steps_cons (st_store 2 _ rfl rfl rfl rfl rfl (fun _ _ _ _ => rfl) rfl rfl rfl (by rfl) (by kernel_rfl) (fun b G hb ho => ev_on hLo 1 rfl HS2.1 rfl (hb 4 (by rfl))) (fun b G hb ho => ev_on hLo 0 rfl HS2.1 rfl (hb 3 (by rfl)))) ?_
    exact steps_nil
  clear hLo
  intro G a3 w3 hS hH
  have HS3 : Sl a3 10 [(0, .pointer (some ⟨g1_0, 0, none⟩)), (1, .pointer (some ⟨(G 4), 0, none⟩))] := hS
  have HH3 : Held w w3 [⟨g1_0, (), 6, lsc [.i .i64 (0), .b (false), .i .i64 (0), .s (ByteArray.empty), .sl (none) (0) (0), .sl (none) (0) (0)], 25⟩, ⟨g2_2, (), 7, msc (k_ax) (lvN), 44⟩, ⟨(G 4), (), 6, (one g2_2 k_ax lvN).sc, 25⟩] := hH
  clear hS hH HS2 HH2
  generalize G 4 = g3_4 at HS3 HH3
  refine end_ rfl ?_
  refine then_ ?_
  refine wp_seq ?_
  refine whole_ ?_
  have hLo : LOk [(0, 6, .val (.agg (FR () 6 ((one g2_2 k_ax lvN).sc)))), (1, 7, .val (.agg (FR () 7 (msc (k_users) (one g2_2 k_ax lvN))))), (2, 8, .new 2 (fun g => .slice (some ⟨g, 0, none⟩) (1) (1)))] := lok (by rfl) (by rfl)
  refine part_ (wE := w) (sz := 10) (n := 5) 0 3 [0, 1, 3, 7, 15] [(0, .val (.pointer (some ⟨g1_0, 0, none⟩))), (1, .val (.pointer (some ⟨g3_4, 0, none⟩))), (8, .new 2 (fun g => .slice (some ⟨g, 0, none⟩) (1) (1)))] [(0, 6, .val (.agg (FR () 6 ((one g2_2 k_ax lvN).sc)))), (1, 7, .val (.agg (FR () 7 (msc (k_users) (one g2_2 k_ax lvN))))), (2, 8, .new 2 (fun g => .slice (some ⟨g, 0, none⟩) (1) (1)))] [⟨g1_0, none, none, (), 6, lsc [.i .i64 (0), .b (false), .i .i64 (0), .s (ByteArray.empty), .sl (none) (0) (0), .sl (none) (0) (0)], lsc [.i .i64 (0), .b (false), .i .i64 (0), .s (ByteArray.empty), .sl (none) (0) (0), .sl (none) (0) (0)], 25⟩, ⟨g2_2, none, none, (), 7, msc (k_ax) (lvN), msc (k_ax) (lvN), 44⟩, ⟨g3_4, none, none, (), 6, (one g2_2 k_ax lvN).sc, (one g2_2 k_ax lvN).sc, 25⟩, ⟨0, some 2, none, (), 7, msc (k_users) (one g2_2 k_ax lvN), msc (k_users) (one g2_2 k_ax lvN), 44⟩] rfl rfl (by rfl) HH3 rfl rfl hLo rfl HS3 (slS 0 rfl rfl (slS 1 rfl rfl (slL 2 (d := 2) rfl (trivial)))) ?_ ?_
  · show ∀ i ∈ [0, 1, 2], _
    refine steps_cons (st_row0 0 2 _ rfl rfl rfl rfl (fun _ _ _ _ => rfl) hLo rfl rfl rfl (by rfl) Tryd.underlying25 (by kernel_rfl) rfl (fun b G hb ho => ev_off rfl (HS3.get 1 rfl))) ?_
    refine steps_cons (st_run 1 _ rfl rfl hLo rfl rfl (fun _ _ _ _ => rfl) (fun b G w hb ho => exec_build rfl (parts2 (rfl) (ev_on hLo 0 rfl HS3.1 rfl (hb 0 (by rfl)))) (by kernel_rfl))) ?_
    refine steps_cons (st_alloc 2 3 () 7 44 none _ _ rfl rfl (fun _ _ _ _ => rfl) rfl hLo rfl rfl rfl rfl (by rfl) (fun b G w hb ho => exec_buildSlice rfl (parts1 (ev_on hLo 1 rfl HS3.1 rfl (hb 1 (by rfl)))) (by kernel_rfl))) ?_
    exact steps_nil
  clear hLo
  intro G a4 w4 hS hH
  have HS4 : Sl a4 10 [(0, .pointer (some ⟨g1_0, 0, none⟩)), (1, .pointer (some ⟨g3_4, 0, none⟩)), (8, .slice (some ⟨(G 2), 0, none⟩) (1) (1))] := hS
  have HH4 : Held w w4 [⟨g1_0, (), 6, lsc [.i .i64 (0), .b (false), .i .i64 (0), .s (ByteArray.empty), .sl (none) (0) (0), .sl (none) (0) (0)], 25⟩, ⟨g2_2, (), 7, msc (k_ax) (lvN), 44⟩, ⟨g3_4, (), 6, (one g2_2 k_ax lvN).sc, 25⟩, ⟨(G 2), (), 7, msc (k_users) (one g2_2 k_ax lvN), 44⟩] := hH
  clear hS hH HS3 HH3
  generalize G 2 = g4_2 at HS4 HH4
  have hLo : LOk [(3, 9, .val (.agg (FR () 6 ((lvT g2_2 g4_2).sc))))] := lok (by rfl) (by rfl)
  refine part_ (wE := w) (sz := 10) (n := 5) 3 5 [0, 1, 3, 7, 15] [(0, .val (.pointer (some ⟨g1_0, 0, none⟩))), (1, .val (.pointer (some ⟨g3_4, 0, none⟩)))] [(3, 9, .val (.agg (FR () 6 ((lvT g2_2 g4_2).sc))))] [⟨g1_0, none, some 4, (), 6, lsc [.i .i64 (0), .b (false), .i .i64 (0), .s (ByteArray.empty), .sl (none) (0) (0), .sl (none) (0) (0)], (lvT g2_2 g4_2).sc, 25⟩, ⟨g2_2, none, none, (), 7, msc (k_ax) (lvN), msc (k_ax) (lvN), 44⟩, ⟨g3_4, none, none, (), 6, (one g2_2 k_ax lvN).sc, (one g2_2 k_ax lvN).sc, 25⟩, ⟨g4_2, none, none, (), 7, msc (k_users) (one g2_2 k_ax lvN), msc (k_users) (one g2_2 k_ax lvN), 44⟩] rfl rfl (by rfl) HH4 rfl rfl hLo rfl HS4 (slS 0 rfl rfl (slS 1 rfl rfl (trivial))) ?_ ?_
  · show ∀ i ∈ [3, 4], _
    refine steps_cons (st_run 0 _ rfl rfl hLo rfl rfl (fun _ _ _ _ => rfl) (fun b G w hb ho => exec_build rfl (parts2 (rfl) (ev_off rfl (HS4.get 2 rfl))) (by kernel_rfl))) ?_
    refine steps_cons (st_store 0 _ rfl rfl rfl rfl rfl (fun _ _ _ _ => rfl) rfl rfl rfl (by rfl) (by kernel_rfl) (fun b G hb ho => ev_off rfl (HS4.get 0 rfl)) (fun b G hb ho => ev_on hLo 0 rfl HS4.1 rfl (hb 3 (by rfl)))) ?_
    exact steps_nil
  clear hLo
  intro G a5 w5 hS hH
  have HS5 : Sl a5 10 [(0, .pointer (some ⟨g1_0, 0, none⟩)), (1, .pointer (some ⟨g3_4, 0, none⟩))] := hS
  have HH5 : Held w w5 [⟨g1_0, (), 6, (lvT g2_2 g4_2).sc, 25⟩, ⟨g2_2, (), 7, msc (k_ax) (lvN), 44⟩, ⟨g3_4, (), 6, (one g2_2 k_ax lvN).sc, 25⟩, ⟨g4_2, (), 7, msc (k_users) (one g2_2 k_ax lvN), 44⟩] := hH
  clear hS hH HS4 HH4
  refine end_ rfl ?_
  refine then_ ?_
  refine wp_ret ?_
  repeat (first | refine then_ret ?_ | refine inBlock_ret' ?_)
  exact b_row rfl HS5.2.1 (HS5.get 0 rfl) (HH5.row 0 rfl) Tryd.underlying25 rfl (by kernel_rfl) ⟨⟨g2_2, g4_2, rfl, ret_in (HH5.row 1 rfl) (HH5.row 3 rfl)⟩, HH5.1⟩
theorem tabwus_3 : rtab .any (opsOf Tryd.f4 3) = (true, [([], []), ([0], [0]), ([1, 1], [1]), ([2], [2]), ([3, 2], [2, 3]), ([4, 2], [2, 4]), ([2, 5], [2, 5]), ([6, 2], [6]), ([7], [7]), ([8, 7], [7, 8]), ([9, 7], [7, 9]), ([7, 10], [7, 10]), ([11, 7], [11]), ([12], [12]), ([12], [12]), ([12], [12]), ([13, 14, 15, 12, 12], [12, 13, 14, 15]), ([12], [12]), ([12], [12]), ([12], [12]), ([17, 18, 19, 16, 12], [12, 17, 18, 19]), ([16, 20, 12], [12, 16, 20]), ([12, 21], [12, 21]), ([22, 20, 0, 1, 2, 3, 4, 5, 6, 7, 8, 9, 10, 11, 12, 13, 14, 15, 16, 17, 18, 19, 20, 21, 22], [22])]) := by kernel_rfl
theorem bitswus_3 : waitsOk [([], []), ([0], [0]), ([1, 1], [1]), ([2], [2]), ([3, 2], [2, 3]), ([4, 2], [2, 4]), ([2, 5], [2, 5]), ([6, 2], [6]), ([7], [7]), ([8, 7], [7, 8]), ([9, 7], [7, 9]), ([7, 10], [7, 10]), ([11, 7], [11]), ([12], [12]), ([12], [12]), ([12], [12]), ([13, 14, 15, 12, 12], [12, 13, 14, 15]), ([12], [12]), ([12], [12]), ([12], [12]), ([17, 18, 19, 16, 12], [12, 17, 18, 19]), ([16, 20, 12], [12, 16, 20]), ([12, 21], [12, 21]), ([22, 20, 0, 1, 2, 3, 4, 5, 6, 7, 8, 9, 10, 11, 12, 13, 14, 15, 16, 17, 18, 19, 20, 21, 22], [22])] [0, 1, 3, 7, 15, 31, 63, 127, 255, 511, 1023, 2047, 4095, 8191, 8191, 8191, 65535, 8191, 8191, 8191, 1048575, 2097151, 4194303, 8388607] = true := by kernel_rfl
theorem tabwsn_3 : rtab .any (opsOf Tryd.f5 3) = (true, [([], []), ([0], [0]), ([1, 1], [1]), ([2], [2]), ([3, 2], [2, 3]), ([4, 2], [2, 4]), ([2, 5], [2, 5]), ([6, 2], [6]), ([7], [7]), ([7], [7]), ([7], [7]), ([8, 9, 10, 7, 7], [7, 8, 9, 10]), ([7], [7]), ([7], [7]), ([7], [7]), ([12, 13, 14, 11, 7], [7, 12, 13, 14]), ([11, 15, 7], [7, 11, 15]), ([7, 16], [7, 16]), ([17, 15, 0, 1, 2, 3, 4, 5, 6, 7, 8, 9, 10, 11, 12, 13, 14, 15, 16, 17], [17])]) := by kernel_rfl
theorem bitswsn_3 : waitsOk [([], []), ([0], [0]), ([1, 1], [1]), ([2], [2]), ([3, 2], [2, 3]), ([4, 2], [2, 4]), ([2, 5], [2, 5]), ([6, 2], [6]), ([7], [7]), ([7], [7]), ([7], [7]), ([8, 9, 10, 7, 7], [7, 8, 9, 10]), ([7], [7]), ([7], [7]), ([7], [7]), ([12, 13, 14, 11, 7], [7, 12, 13, 14]), ([11, 15, 7], [7, 11, 15]), ([7, 16], [7, 16]), ([17, 15, 0, 1, 2, 3, 4, 5, 6, 7, 8, 9, 10, 11, 12, 13, 14, 15, 16, 17], [17])] [0, 1, 3, 7, 15, 31, 63, 127, 255, 255, 255, 2047, 255, 255, 255, 32767, 65535, 131071, 262143] = true := by kernel_rfl
theorem PowerUsers_walk (t : T) (cr us : ByteArray) (w : World) (hTab : Tab w) (hIn : In w t) (hc : cr.size ≤ 140737488351232) (hu : us.size ≤ 140737488351232) : Calls Tryd.prog 4 #[.agg (FR () 6 ((t).sc)), .string (cr), .string (us)] w fun e w' => e = .returned (.bool true) ∧ Below w.heap.size w w' := by
  refine enter_ 33 Tryd.func4 rfl rfl (fun a0 hS => ?_)
  have HS0 : Sl a0 33 [(0, .agg (FR () 6 ((t).sc))), (1, .string (cr)), (2, .string (us))] := hS
  have HH0 : Held w w [] := Held.first w
  clear hS
  refine wp_seq ?_
  have hLo : LOk [(0, 3, .new 0 (fun g => .pointer (some ⟨g, 0, none⟩))), (1, 6, .val (.bool false))] := lok (by rfl) (by rfl)
  refine plain_ (wE := w) (sz := 33) (n := 2) [0, 1] [(0, .val (.agg (FR () 6 ((t).sc)))), (1, .val (.string (cr))), (2, .val (.string (us))), (3, .new 0 (fun g => .pointer (some ⟨g, 0, none⟩))), (6, .val (.bool false))] [(0, 3, .new 0 (fun g => .pointer (some ⟨g, 0, none⟩))), (1, 6, .val (.bool false))] [⟨0, some 0, none, (), 6, (t).sc, (t).sc, 25⟩] rfl (by rfl) HH0 rfl rfl hLo rfl HS0 (slS 0 rfl rfl (slS 1 rfl rfl (slS 2 rfl rfl (slL 0 (d := 0) rfl (slL 1 (d := 1) rfl (trivial)))))) ?_ ?_
  · show ∀ i ∈ [0, 1], _
    refine steps_cons (st_alloc 0 0 () 6 25 none _ _ rfl rfl (fun _ _ _ _ => rfl) rfl hLo rfl rfl rfl rfl (by rfl) (fun b G w hb ho => exec_box rfl (ev_off rfl (HS0.get 0 rfl)) (by kernel_rfl))) ?_
    refine steps_cons (st_run 1 _ rfl rfl hLo rfl rfl (fun _ _ _ _ => rfl) (fun b G w hb ho => exec_move (.inr rfl) (rfl))) ?_
    exact steps_nil
  clear hLo
  intro G a1 w1 hS hH
  have HS1 : Sl a1 33 [(0, .agg (FR () 6 ((t).sc))), (1, .string (cr)), (2, .string (us)), (3, .pointer (some ⟨(G 0), 0, none⟩)), (6, .bool false)] := hS
  have HH1 : Held w w1 [⟨(G 0), (), 6, (t).sc, 25⟩] := hH
  clear hS hH HS0 HH0
  generalize G 0 = g1_0 at HS1 HH1
  refine then_ ?_
  refine wp_seq ?_
  refine wp_seq ?_
  refine whole_ ?_
  refine cut_call _ rfl rfl rfl rfl Tryd.func14 rfl rfl (args0 ) (levels_calls _) HS1 rfl ?_
  rintro e2 w2 ⟨⟨gl1, hl1, rfl, hin1⟩, hb1⟩
  refine ⟨_, rfl, fun a2 hS => ?_⟩
  have HS3 : Sl a2 33 [(7, .agg (FR () 6 ((lvT gl1 hl1).sc))), (0, .agg (FR () 6 ((t).sc))), (1, .string (cr)), (2, .string (us)), (3, .pointer (some ⟨g1_0, 0, none⟩)), (6, .bool false)] := hS
  have HH3 : Held w w2 [⟨g1_0, (), 6, (t).sc, 25⟩] := HH1.call hb1
  clear hS
  have hin1 : In w2 (lvT gl1 hl1) := hin1
  have hRow4_0 := HH3.row 0 rfl
  have hTab_4 := hTab.below HH3.1
  have hInt_4 := hIn.below HH3.1
  have HH4 : Held w2 w2 [] := Held.first w2
  have HS4 : Sl a2 33 [(7, .agg (FR () 6 ((lvT gl1 hl1).sc))), (0, .agg (FR () 6 ((t).sc))), (1, .string (cr)), (2, .string (us)), (3, .pointer (some (⟨g1_0, 0, none⟩))), (6, .bool false)] := HS3
  have hLo : LOk [(1, 8, .val (.int .i64 (100))), (2, 9, .val (.bool false))] := lok (by rfl) (by rfl)
  refine part_ (wE := w2) (sz := 33) (n := 3) 1 3 [0, 1, 3] [(0, .val (.agg (FR () 6 ((t).sc)))), (1, .val (.string (cr))), (2, .val (.string (us))), (3, .val (.pointer (some (⟨g1_0, 0, none⟩)))), (6, .val (.bool false)), (9, .val (.bool false))] [(1, 8, .val (.int .i64 (100))), (2, 9, .val (.bool false))] [] rfl rfl (by rfl) HH4 rfl rfl hLo rfl HS4 (slS 1 rfl rfl (slS 2 rfl rfl (slS 3 rfl rfl (slS 4 rfl rfl (slS 5 rfl rfl (slL 1 (d := 2) rfl (trivial))))))) ?_ ?_
  · show ∀ i ∈ [1, 2], _
    refine steps_cons (st_call 0 _ #[.agg (FR () 6 ((lvT gl1 hl1).sc)), .string (ByteArray.empty), .string (k_ax)] rfl rfl rfl (fun _ _ _ _ => rfl) hLo rfl rfl Tryd.func13 rfl rfl (fun b G hb ho => args3 (ev_off rfl (HS4.get 0 rfl)) (rfl) (rfl)) (fun w hw => (by have hq := user_calls ByteArray.empty k_ax (hin1.below hw) (Rises.lvT _ _) (hTab_4.below hw); rw [lv_user1 gl1 hl1] at hq; exact hq))) ?_
    refine steps_cons (st_run 1 _ rfl rfl hLo rfl rfl (fun _ _ _ _ => rfl) (fun b G w hb ho => exec_bin rfl (ev_on hLo 0 rfl HS4.1 rfl (hb 1 (by rfl))) (rfl) (rb_neq (by decide) _ _ _))) ?_
    exact steps_nil
  clear hLo
  intro G a5 w5 hS hH
  have HS5 : Sl a5 33 [(0, .agg (FR () 6 ((t).sc))), (1, .string (cr)), (2, .string (us)), (3, .pointer (some (⟨g1_0, 0, none⟩))), (6, .bool false), (9, .bool false)] := hS
  have HH5 : Held w2 w5 [] := hH
  clear hS hH HS4 HH4
  refine end_ rfl ?_
  refine then_ ?_
  refine wp_cond_false (HS5.get 5 rfl) ?_
  refine wp_skip ?_
  refine then_ ?_
  obtain ⟨r1, hr1⟩ : ∃ r : Bool, (greatB t) = r := ⟨_, rfl⟩
  cases r1
  · skip
    have hG_t := hr1
    have hR_t := (greatB_not hr1)
    obtain ⟨r2, hr2⟩ : ∃ r : Bool, (decide ((1024 : Int) < ((cr).size : Int))) = r := ⟨_, rfl⟩
    cases r2
    · skip
      obtain ⟨r3, hr3⟩ : ∃ r : Bool, (decide ((1024 : Int) < ((us).size : Int))) = r := ⟨_, rfl⟩
      cases r3
      · skip
        refine wp_seq ?_
        have hLo : LOk [(0, 10, .val (.agg (FR () 6 ((t).sc)))), (1, 11, .val (.bool false)), (2, 12, .val (.bool false)), (3, 13, .val (.string (cr))), (4, 14, .val (.int .i64 (((cr).size : Int)))), (5, 15, .val (.bool false)), (6, 16, .val (.bool false)), (7, 17, .val (.bool false)), (8, 18, .val (.string (us))), (9, 19, .val (.int .i64 (((us).size : Int)))), (10, 20, .val (.bool false)), (11, 21, .val (.bool false)), (12, 22, .val (.bool false)), (13, 23, .val (.agg (FR () 6 ((t).sc)))), (14, 24, .val (.string (cr))), (15, 25, .val (.string (us))), (16, 26, .val (.int .i64 (userV t cr us))), (17, 27, .val (.agg (FR () 6 ((t).sc)))), (18, 28, .val (.string (cr))), (19, 29, .val (.string (us))), (20, 30, .val (.int .i64 (userV t cr us))), (21, 31, .val (.bool true)), (22, 32, .val (.bool true)), (23, 6, .val (.bool true))] := lok (by rfl) (by rfl)
        refine region_ (wE := w2) (sz := 33) (n := 24) (B := [0, 1, 3, 7, 15, 31, 63, 127, 255, 511, 1023, 2047, 4095, 8191, 8191, 8191, 65535, 8191, 8191, 8191, 1048575, 2097151, 4194303, 8388607]) [0, 1, 2, 3, 4, 5, 6, 7, 8, 9, 10, 11, 12, 13, 14, 15, 16, 17, 18, 19, 20, 21, 22, 23] [(0, .val (.agg (FR () 6 ((t).sc)))), (1, .val (.string (cr))), (2, .val (.string (us))), (3, .val (.pointer (some (⟨g1_0, 0, none⟩)))), (9, .val (.bool false)), (6, .val (.bool true))] [(0, 10, .val (.agg (FR () 6 ((t).sc)))), (1, 11, .val (.bool false)), (2, 12, .val (.bool false)), (3, 13, .val (.string (cr))), (4, 14, .val (.int .i64 (((cr).size : Int)))), (5, 15, .val (.bool false)), (6, 16, .val (.bool false)), (7, 17, .val (.bool false)), (8, 18, .val (.string (us))), (9, 19, .val (.int .i64 (((us).size : Int)))), (10, 20, .val (.bool false)), (11, 21, .val (.bool false)), (12, 22, .val (.bool false)), (13, 23, .val (.agg (FR () 6 ((t).sc)))), (14, 24, .val (.string (cr))), (15, 25, .val (.string (us))), (16, 26, .val (.int .i64 (userV t cr us))), (17, 27, .val (.agg (FR () 6 ((t).sc)))), (18, 28, .val (.string (cr))), (19, 29, .val (.string (us))), (20, 30, .val (.int .i64 (userV t cr us))), (21, 31, .val (.bool true)), (22, 32, .val (.bool true)), (23, 6, .val (.bool true))] [] (by rfl) rfl tabwus_3 bitswus_3 (by kernel_rfl) (by kernel_rfl) HH5 rfl rfl hLo rfl HS5 (slS 0 rfl rfl (slS 1 rfl rfl (slS 2 rfl rfl (slS 3 rfl rfl (slS 5 rfl rfl (slL 23 (d := 23) rfl (trivial))))))) ?_ ?_
        · show ∀ i ∈ [0, 1, 2, 3, 4, 5, 6, 7, 8, 9, 10, 11, 12, 13, 14, 15, 16, 17, 18, 19, 20, 21, 22, 23], _
          refine steps_cons (st_at 0 (⟨g1_0, 0, none⟩) rfl rfl rfl (fun _ _ _ _ => rfl) hLo rfl rfl Tryd.underlying25 (by kernel_rfl) rfl (row_at hRow4_0) (fun b G hb ho => ev_off rfl (HS5.get 3 rfl))) ?_
          refine steps_cons (st_call 1 _ #[.agg (FR () 6 ((t).sc))] rfl rfl rfl (fun _ _ _ _ => rfl) hLo rfl rfl Tryd.func11 rfl rfl (fun b G hb ho => args1 (ev_on hLo 0 rfl HS5.1 rfl (hb 0 (by rfl)))) (fun w hw => (by have hq := great_calls (hInt_4.below hw); rw [hr1] at hq; exact hq))) ?_
          refine steps_cons (st_run 2 _ rfl rfl hLo rfl rfl (fun _ _ _ _ => rfl) (fun b G w hb ho => exec_move (.inl rfl) (ev_on hLo 1 rfl HS5.1 rfl (hb 1 (by rfl))))) ?_
          refine steps_cons (st_run 3 _ rfl rfl hLo rfl rfl (fun b G hb ho => wanted_is rfl rfl rfl HS5.1 rfl (ev_on hLo 2 rfl HS5.1 rfl (hb 2 (by rfl))) rfl) (fun b G w hb ho => exec_move (.inl rfl) (ev_off rfl (HS5.get 1 rfl)))) ?_
          refine steps_cons (st_run 4 _ rfl rfl hLo rfl rfl (fun b G hb ho => wanted_is rfl rfl rfl HS5.1 rfl (ev_on hLo 2 rfl HS5.1 rfl (hb 2 (by rfl))) rfl) (fun b G w hb ho => exec_lenS Tryd.underlying9 rfl (ev_on hLo 3 rfl HS5.1 rfl (hb 3 (by rfl))))) ?_
          refine steps_cons (st_run 5 _ rfl rfl hLo rfl rfl (fun b G hb ho => wanted_is rfl rfl rfl HS5.1 rfl (ev_on hLo 2 rfl HS5.1 rfl (hb 2 (by rfl))) rfl) (fun b G w hb ho => exec_bin rfl (ev_on hLo 4 rfl HS5.1 rfl (hb 4 (by rfl))) (rfl) (rb_gtr hr2 _ _ _))) ?_
          refine steps_cons (st_run 6 _ rfl rfl hLo rfl rfl (fun _ _ _ _ => rfl) (fun b G w hb ho => exec_pick rfl (ev_on hLo 2 rfl HS5.1 rfl (hb 2 (by rfl))) (ev_on hLo 5 rfl HS5.1 rfl (hb 5 (by rfl))))) ?_
          refine steps_cons (st_run 7 _ rfl rfl hLo rfl rfl (fun _ _ _ _ => rfl) (fun b G w hb ho => exec_move (.inl rfl) (ev_on hLo 6 rfl HS5.1 rfl (hb 6 (by rfl))))) ?_
          refine steps_cons (st_run 8 _ rfl rfl hLo rfl rfl (fun b G hb ho => wanted_is rfl rfl rfl HS5.1 rfl (ev_on hLo 7 rfl HS5.1 rfl (hb 7 (by rfl))) rfl) (fun b G w hb ho => exec_move (.inl rfl) (ev_off rfl (HS5.get 2 rfl)))) ?_
          refine steps_cons (st_run 9 _ rfl rfl hLo rfl rfl (fun b G hb ho => wanted_is rfl rfl rfl HS5.1 rfl (ev_on hLo 7 rfl HS5.1 rfl (hb 7 (by rfl))) rfl) (fun b G w hb ho => exec_lenS Tryd.underlying9 rfl (ev_on hLo 8 rfl HS5.1 rfl (hb 8 (by rfl))))) ?_
          refine steps_cons (st_run 10 _ rfl rfl hLo rfl rfl (fun b G hb ho => wanted_is rfl rfl rfl HS5.1 rfl (ev_on hLo 7 rfl HS5.1 rfl (hb 7 (by rfl))) rfl) (fun b G w hb ho => exec_bin rfl (ev_on hLo 9 rfl HS5.1 rfl (hb 9 (by rfl))) (rfl) (rb_gtr hr3 _ _ _))) ?_
          refine steps_cons (st_run 11 _ rfl rfl hLo rfl rfl (fun _ _ _ _ => rfl) (fun b G w hb ho => exec_pick rfl (ev_on hLo 7 rfl HS5.1 rfl (hb 7 (by rfl))) (ev_on hLo 10 rfl HS5.1 rfl (hb 10 (by rfl))))) ?_
          refine steps_cons (st_run 12 _ rfl rfl hLo rfl rfl (fun _ _ _ _ => rfl) (fun b G w hb ho => exec_move (.inl rfl) (ev_on hLo 11 rfl HS5.1 rfl (hb 11 (by rfl))))) ?_
          refine steps_cons (st_at 13 (⟨g1_0, 0, none⟩) rfl rfl rfl (fun b G hb ho => wanted_is rfl rfl rfl HS5.1 rfl (ev_on hLo 12 rfl HS5.1 rfl (hb 12 (by rfl))) rfl) hLo rfl rfl Tryd.underlying25 (by kernel_rfl) rfl (row_at hRow4_0) (fun b G hb ho => ev_off rfl (HS5.get 3 rfl))) ?_
          refine steps_cons (st_run 14 _ rfl rfl hLo rfl rfl (fun b G hb ho => wanted_is rfl rfl rfl HS5.1 rfl (ev_on hLo 12 rfl HS5.1 rfl (hb 12 (by rfl))) rfl) (fun b G w hb ho => exec_move (.inl rfl) (ev_off rfl (HS5.get 1 rfl)))) ?_
          refine steps_cons (st_run 15 _ rfl rfl hLo rfl rfl (fun b G hb ho => wanted_is rfl rfl rfl HS5.1 rfl (ev_on hLo 12 rfl HS5.1 rfl (hb 12 (by rfl))) rfl) (fun b G w hb ho => exec_move (.inl rfl) (ev_off rfl (HS5.get 2 rfl)))) ?_
          refine steps_cons (st_call 16 _ #[.agg (FR () 6 ((t).sc)), .string (cr), .string (us)] rfl rfl rfl (fun b G hb ho => wanted_is rfl rfl rfl HS5.1 rfl (ev_on hLo 12 rfl HS5.1 rfl (hb 12 (by rfl))) rfl) hLo rfl rfl Tryd.func13 rfl rfl (fun b G hb ho => args3 (ev_on hLo 13 rfl HS5.1 rfl (hb 13 (by rfl))) (ev_on hLo 14 rfl HS5.1 rfl (hb 14 (by rfl))) (ev_on hLo 15 rfl HS5.1 rfl (hb 15 (by rfl)))) (fun w hw => user_calls cr us (hInt_4.below hw) hR_t (hTab_4.below hw))) ?_
          refine steps_cons (st_at 17 (⟨g1_0, 0, none⟩) rfl rfl rfl (fun b G hb ho => wanted_is rfl rfl rfl HS5.1 rfl (ev_on hLo 12 rfl HS5.1 rfl (hb 12 (by rfl))) rfl) hLo rfl rfl Tryd.underlying25 (by kernel_rfl) rfl (row_at hRow4_0) (fun b G hb ho => ev_off rfl (HS5.get 3 rfl))) ?_
          refine steps_cons (st_run 18 _ rfl rfl hLo rfl rfl (fun b G hb ho => wanted_is rfl rfl rfl HS5.1 rfl (ev_on hLo 12 rfl HS5.1 rfl (hb 12 (by rfl))) rfl) (fun b G w hb ho => exec_move (.inl rfl) (ev_off rfl (HS5.get 1 rfl)))) ?_
          refine steps_cons (st_run 19 _ rfl rfl hLo rfl rfl (fun b G hb ho => wanted_is rfl rfl rfl HS5.1 rfl (ev_on hLo 12 rfl HS5.1 rfl (hb 12 (by rfl))) rfl) (fun b G w hb ho => exec_move (.inl rfl) (ev_off rfl (HS5.get 2 rfl)))) ?_
          refine steps_cons (st_call 20 _ #[.agg (FR () 6 ((t).sc)), .string (cr), .string (us)] rfl rfl rfl (fun b G hb ho => wanted_is rfl rfl rfl HS5.1 rfl (ev_on hLo 12 rfl HS5.1 rfl (hb 12 (by rfl))) rfl) hLo rfl rfl Tryd.func15 rfl rfl (fun b G hb ho => args3 (ev_on hLo 17 rfl HS5.1 rfl (hb 17 (by rfl))) (ev_on hLo 18 rfl HS5.1 rfl (hb 18 (by rfl))) (ev_on hLo 19 rfl HS5.1 rfl (hb 19 (by rfl)))) (fun w hw => ruser_calls cr us (hInt_4.below hw))) ?_
          refine steps_cons (st_run 21 _ rfl rfl hLo rfl rfl (fun b G hb ho => wanted_is rfl rfl rfl HS5.1 rfl (ev_on hLo 12 rfl HS5.1 rfl (hb 12 (by rfl))) rfl) (fun b G w hb ho => exec_bin rfl (ev_on hLo 16 rfl HS5.1 rfl (hb 16 (by rfl))) (ev_on hLo 20 rfl HS5.1 rfl (hb 20 (by rfl))) (rb_eql (beq_self_eq_true _) _ _ _))) ?_
          refine steps_cons (st_run 22 _ rfl rfl hLo rfl rfl (fun _ _ _ _ => rfl) (fun b G w hb ho => exec_pick rfl (ev_on hLo 12 rfl HS5.1 rfl (hb 12 (by rfl))) (ev_on hLo 21 rfl HS5.1 rfl (hb 21 (by rfl))))) ?_
          refine steps_cons (st_run 23 _ rfl rfl hLo rfl rfl (fun _ _ _ _ => rfl) (fun b G w hb ho => exec_move (.inr rfl) (ev_on hLo 22 rfl HS5.1 rfl (hb 22 (by rfl))))) ?_
          exact steps_nil
        clear hLo
        intro G a6 w6 hS hH
        have HS6 : Sl a6 33 [(0, .agg (FR () 6 ((t).sc))), (1, .string (cr)), (2, .string (us)), (3, .pointer (some (⟨g1_0, 0, none⟩))), (9, .bool false), (6, .bool true)] := hS
        have HH6 : Held w2 w6 [] := hH
        clear hS hH HS5 HH5
        refine then_ ?_
        refine wp_ret ?_
        repeat (first | refine then_ret ?_ | refine inBlock_ret' ?_)
        have HH7 := Held.back HH3 HH6
        exact b_tmp rfl HS6.2.1 (HS6.get 5 rfl) ⟨law_ret rfl, HH7.1⟩
      · skip
        refine wp_seq ?_
        have hLo : LOk [(0, 10, .val (.agg (FR () 6 ((t).sc)))), (1, 11, .val (.bool false)), (2, 12, .val (.bool false)), (3, 13, .val (.string (cr))), (4, 14, .val (.int .i64 (((cr).size : Int)))), (5, 15, .val (.bool false)), (6, 16, .val (.bool false)), (7, 17, .val (.bool false)), (8, 18, .val (.string (us))), (9, 19, .val (.int .i64 (((us).size : Int)))), (10, 20, .val (.bool true)), (11, 21, .val (.bool true)), (12, 22, .val (.bool true)), (13, 23, .val (undef)), (14, 24, .val (undef)), (15, 25, .val (undef)), (16, 26, .val (undef)), (17, 27, .val (undef)), (18, 28, .val (undef)), (19, 29, .val (undef)), (20, 30, .val (undef)), (21, 31, .val (undef)), (22, 32, .val (.bool true)), (23, 6, .val (.bool true))] := lok (by rfl) (by rfl)
        refine region_ (wE := w2) (sz := 33) (n := 24) (B := [0, 1, 3, 7, 15, 31, 63, 127, 255, 511, 1023, 2047, 4095, 8191, 8191, 8191, 65535, 8191, 8191, 8191, 1048575, 2097151, 4194303, 8388607]) [0, 1, 2, 3, 4, 5, 6, 7, 8, 9, 10, 11, 12, 13, 14, 15, 16, 17, 18, 19, 20, 21, 22, 23] [(0, .val (.agg (FR () 6 ((t).sc)))), (1, .val (.string (cr))), (2, .val (.string (us))), (3, .val (.pointer (some (⟨g1_0, 0, none⟩)))), (9, .val (.bool false)), (6, .val (.bool true))] [(0, 10, .val (.agg (FR () 6 ((t).sc)))), (1, 11, .val (.bool false)), (2, 12, .val (.bool false)), (3, 13, .val (.string (cr))), (4, 14, .val (.int .i64 (((cr).size : Int)))), (5, 15, .val (.bool false)), (6, 16, .val (.bool false)), (7, 17, .val (.bool false)), (8, 18, .val (.string (us))), (9, 19, .val (.int .i64 (((us).size : Int)))), (10, 20, .val (.bool true)), (11, 21, .val (.bool true)), (12, 22, .val (.bool true)), (13, 23, .val (undef)), (14, 24, .val (undef)), (15, 25, .val (undef)), (16, 26, .val (undef)), (17, 27, .val (undef)), (18, 28, .val (undef)), (19, 29, .val (undef)), (20, 30, .val (undef)), (21, 31, .val (undef)), (22, 32, .val (.bool true)), (23, 6, .val (.bool true))] [] (by rfl) rfl tabwus_3 bitswus_3 (by kernel_rfl) (by kernel_rfl) HH5 rfl rfl hLo rfl HS5 (slS 0 rfl rfl (slS 1 rfl rfl (slS 2 rfl rfl (slS 3 rfl rfl (slS 5 rfl rfl (slL 23 (d := 23) rfl (trivial))))))) ?_ ?_
        · show ∀ i ∈ [0, 1, 2, 3, 4, 5, 6, 7, 8, 9, 10, 11, 12, 13, 14, 15, 16, 17, 18, 19, 20, 21, 22, 23], _
          refine steps_cons (st_at 0 (⟨g1_0, 0, none⟩) rfl rfl rfl (fun _ _ _ _ => rfl) hLo rfl rfl Tryd.underlying25 (by kernel_rfl) rfl (row_at hRow4_0) (fun b G hb ho => ev_off rfl (HS5.get 3 rfl))) ?_
          refine steps_cons (st_call 1 _ #[.agg (FR () 6 ((t).sc))] rfl rfl rfl (fun _ _ _ _ => rfl) hLo rfl rfl Tryd.func11 rfl rfl (fun b G hb ho => args1 (ev_on hLo 0 rfl HS5.1 rfl (hb 0 (by rfl)))) (fun w hw => (by have hq := great_calls (hInt_4.below hw); rw [hr1] at hq; exact hq))) ?_
          refine steps_cons (st_run 2 _ rfl rfl hLo rfl rfl (fun _ _ _ _ => rfl) (fun b G w hb ho => exec_move (.inl rfl) (ev_on hLo 1 rfl HS5.1 rfl (hb 1 (by rfl))))) ?_
          refine steps_cons (st_run 3 _ rfl rfl hLo rfl rfl (fun b G hb ho => wanted_is rfl rfl rfl HS5.1 rfl (ev_on hLo 2 rfl HS5.1 rfl (hb 2 (by rfl))) rfl) (fun b G w hb ho => exec_move (.inl rfl) (ev_off rfl (HS5.get 1 rfl)))) ?_
          refine steps_cons (st_run 4 _ rfl rfl hLo rfl rfl (fun b G hb ho => wanted_is rfl rfl rfl HS5.1 rfl (ev_on hLo 2 rfl HS5.1 rfl (hb 2 (by rfl))) rfl) (fun b G w hb ho => exec_lenS Tryd.underlying9 rfl (ev_on hLo 3 rfl HS5.1 rfl (hb 3 (by rfl))))) ?_
          refine steps_cons (st_run 5 _ rfl rfl hLo rfl rfl (fun b G hb ho => wanted_is rfl rfl rfl HS5.1 rfl (ev_on hLo 2 rfl HS5.1 rfl (hb 2 (by rfl))) rfl) (fun b G w hb ho => exec_bin rfl (ev_on hLo 4 rfl HS5.1 rfl (hb 4 (by rfl))) (rfl) (rb_gtr hr2 _ _ _))) ?_
          refine steps_cons (st_run 6 _ rfl rfl hLo rfl rfl (fun _ _ _ _ => rfl) (fun b G w hb ho => exec_pick rfl (ev_on hLo 2 rfl HS5.1 rfl (hb 2 (by rfl))) (ev_on hLo 5 rfl HS5.1 rfl (hb 5 (by rfl))))) ?_
          refine steps_cons (st_run 7 _ rfl rfl hLo rfl rfl (fun _ _ _ _ => rfl) (fun b G w hb ho => exec_move (.inl rfl) (ev_on hLo 6 rfl HS5.1 rfl (hb 6 (by rfl))))) ?_
          refine steps_cons (st_run 8 _ rfl rfl hLo rfl rfl (fun b G hb ho => wanted_is rfl rfl rfl HS5.1 rfl (ev_on hLo 7 rfl HS5.1 rfl (hb 7 (by rfl))) rfl) (fun b G w hb ho => exec_move (.inl rfl) (ev_off rfl (HS5.get 2 rfl)))) ?_
          refine steps_cons (st_run 9 _ rfl rfl hLo rfl rfl (fun b G hb ho => wanted_is rfl rfl rfl HS5.1 rfl (ev_on hLo 7 rfl HS5.1 rfl (hb 7 (by rfl))) rfl) (fun b G w hb ho => exec_lenS Tryd.underlying9 rfl (ev_on hLo 8 rfl HS5.1 rfl (hb 8 (by rfl))))) ?_
          refine steps_cons (st_run 10 _ rfl rfl hLo rfl rfl (fun b G hb ho => wanted_is rfl rfl rfl HS5.1 rfl (ev_on hLo 7 rfl HS5.1 rfl (hb 7 (by rfl))) rfl) (fun b G w hb ho => exec_bin rfl (ev_on hLo 9 rfl HS5.1 rfl (hb 9 (by rfl))) (rfl) (rb_gtr hr3 _ _ _))) ?_
          refine steps_cons (st_run 11 _ rfl rfl hLo rfl rfl (fun _ _ _ _ => rfl) (fun b G w hb ho => exec_pick rfl (ev_on hLo 7 rfl HS5.1 rfl (hb 7 (by rfl))) (ev_on hLo 10 rfl HS5.1 rfl (hb 10 (by rfl))))) ?_
          refine steps_cons (st_run 12 _ rfl rfl hLo rfl rfl (fun _ _ _ _ => rfl) (fun b G w hb ho => exec_move (.inl rfl) (ev_on hLo 11 rfl HS5.1 rfl (hb 11 (by rfl))))) ?_
          refine steps_cons (st_skip 13 rfl rfl hLo rfl rfl (fun b G hb ho => wanted_is rfl rfl rfl HS5.1 rfl (ev_on hLo 12 rfl HS5.1 rfl (hb 12 (by rfl))) rfl)) ?_
          refine steps_cons (st_skip 14 rfl rfl hLo rfl rfl (fun b G hb ho => wanted_is rfl rfl rfl HS5.1 rfl (ev_on hLo 12 rfl HS5.1 rfl (hb 12 (by rfl))) rfl)) ?_
          refine steps_cons (st_skip 15 rfl rfl hLo rfl rfl (fun b G hb ho => wanted_is rfl rfl rfl HS5.1 rfl (ev_on hLo 12 rfl HS5.1 rfl (hb 12 (by rfl))) rfl)) ?_
          refine steps_cons (st_skip 16 rfl rfl hLo rfl rfl (fun b G hb ho => wanted_is rfl rfl rfl HS5.1 rfl (ev_on hLo 12 rfl HS5.1 rfl (hb 12 (by rfl))) rfl)) ?_
          refine steps_cons (st_skip 17 rfl rfl hLo rfl rfl (fun b G hb ho => wanted_is rfl rfl rfl HS5.1 rfl (ev_on hLo 12 rfl HS5.1 rfl (hb 12 (by rfl))) rfl)) ?_
          refine steps_cons (st_skip 18 rfl rfl hLo rfl rfl (fun b G hb ho => wanted_is rfl rfl rfl HS5.1 rfl (ev_on hLo 12 rfl HS5.1 rfl (hb 12 (by rfl))) rfl)) ?_
          refine steps_cons (st_skip 19 rfl rfl hLo rfl rfl (fun b G hb ho => wanted_is rfl rfl rfl HS5.1 rfl (ev_on hLo 12 rfl HS5.1 rfl (hb 12 (by rfl))) rfl)) ?_
          refine steps_cons (st_skip 20 rfl rfl hLo rfl rfl (fun b G hb ho => wanted_is rfl rfl rfl HS5.1 rfl (ev_on hLo 12 rfl HS5.1 rfl (hb 12 (by rfl))) rfl)) ?_
          refine steps_cons (st_skip 21 rfl rfl hLo rfl rfl (fun b G hb ho => wanted_is rfl rfl rfl HS5.1 rfl (ev_on hLo 12 rfl HS5.1 rfl (hb 12 (by rfl))) rfl)) ?_
          refine steps_cons (st_run 22 _ rfl rfl hLo rfl rfl (fun _ _ _ _ => rfl) (fun b G w hb ho => exec_pick rfl (ev_on hLo 12 rfl HS5.1 rfl (hb 12 (by rfl))) (rfl))) ?_
          refine steps_cons (st_run 23 _ rfl rfl hLo rfl rfl (fun _ _ _ _ => rfl) (fun b G w hb ho => exec_move (.inr rfl) (ev_on hLo 22 rfl HS5.1 rfl (hb 22 (by rfl))))) ?_
          exact steps_nil
        clear hLo
        intro G a8 w8 hS hH
        have HS8 : Sl a8 33 [(0, .agg (FR () 6 ((t).sc))), (1, .string (cr)), (2, .string (us)), (3, .pointer (some (⟨g1_0, 0, none⟩))), (9, .bool false), (6, .bool true)] := hS
        have HH8 : Held w2 w8 [] := hH
        clear hS hH HS5 HH5
        refine then_ ?_
        refine wp_ret ?_
        repeat (first | refine then_ret ?_ | refine inBlock_ret' ?_)
        have HH9 := Held.back HH3 HH8
        exact b_tmp rfl HS8.2.1 (HS8.get 5 rfl) ⟨law_ret rfl, HH9.1⟩
    · skip
      refine wp_seq ?_
      have hLo : LOk [(0, 10, .val (.agg (FR () 6 ((t).sc)))), (1, 11, .val (.bool false)), (2, 12, .val (.bool false)), (3, 13, .val (.string (cr))), (4, 14, .val (.int .i64 (((cr).size : Int)))), (5, 15, .val (.bool true)), (6, 16, .val (.bool true)), (7, 17, .val (.bool true)), (8, 18, .val (undef)), (9, 19, .val (undef)), (10, 20, .val (undef)), (11, 21, .val (.bool true)), (12, 22, .val (.bool true)), (13, 23, .val (undef)), (14, 24, .val (undef)), (15, 25, .val (undef)), (16, 26, .val (undef)), (17, 27, .val (undef)), (18, 28, .val (undef)), (19, 29, .val (undef)), (20, 30, .val (undef)), (21, 31, .val (undef)), (22, 32, .val (.bool true)), (23, 6, .val (.bool true))] := lok (by rfl) (by rfl)
      refine region_ (wE := w2) (sz := 33) (n := 24) (B := [0, 1, 3, 7, 15, 31, 63, 127, 255, 511, 1023, 2047, 4095, 8191, 8191, 8191, 65535, 8191, 8191, 8191, 1048575, 2097151, 4194303, 8388607]) [0, 1, 2, 3, 4, 5, 6, 7, 8, 9, 10, 11, 12, 13, 14, 15, 16, 17, 18, 19, 20, 21, 22, 23] [(0, .val (.agg (FR () 6 ((t).sc)))), (1, .val (.string (cr))), (2, .val (.string (us))), (3, .val (.pointer (some (⟨g1_0, 0, none⟩)))), (9, .val (.bool false)), (6, .val (.bool true))] [(0, 10, .val (.agg (FR () 6 ((t).sc)))), (1, 11, .val (.bool false)), (2, 12, .val (.bool false)), (3, 13, .val (.string (cr))), (4, 14, .val (.int .i64 (((cr).size : Int)))), (5, 15, .val (.bool true)), (6, 16, .val (.bool true)), (7, 17, .val (.bool true)), (8, 18, .val (undef)), (9, 19, .val (undef)), (10, 20, .val (undef)), (11, 21, .val (.bool true)), (12, 22, .val (.bool true)), (13, 23, .val (undef)), (14, 24, .val (undef)), (15, 25, .val (undef)), (16, 26, .val (undef)), (17, 27, .val (undef)), (18, 28, .val (undef)), (19, 29, .val (undef)), (20, 30, .val (undef)), (21, 31, .val (undef)), (22, 32, .val (.bool true)), (23, 6, .val (.bool true))] [] (by rfl) rfl tabwus_3 bitswus_3 (by kernel_rfl) (by kernel_rfl) HH5 rfl rfl hLo rfl HS5 (slS 0 rfl rfl (slS 1 rfl rfl (slS 2 rfl rfl (slS 3 rfl rfl (slS 5 rfl rfl (slL 23 (d := 23) rfl (trivial))))))) ?_ ?_
      · show ∀ i ∈ [0, 1, 2, 3, 4, 5, 6, 7, 8, 9, 10, 11, 12, 13, 14, 15, 16, 17, 18, 19, 20, 21, 22, 23], _
        refine steps_cons (st_at 0 (⟨g1_0, 0, none⟩) rfl rfl rfl (fun _ _ _ _ => rfl) hLo rfl rfl Tryd.underlying25 (by kernel_rfl) rfl (row_at hRow4_0) (fun b G hb ho => ev_off rfl (HS5.get 3 rfl))) ?_
        refine steps_cons (st_call 1 _ #[.agg (FR () 6 ((t).sc))] rfl rfl rfl (fun _ _ _ _ => rfl) hLo rfl rfl Tryd.func11 rfl rfl (fun b G hb ho => args1 (ev_on hLo 0 rfl HS5.1 rfl (hb 0 (by rfl)))) (fun w hw => (by have hq := great_calls (hInt_4.below hw); rw [hr1] at hq; exact hq))) ?_
        refine steps_cons (st_run 2 _ rfl rfl hLo rfl rfl (fun _ _ _ _ => rfl) (fun b G w hb ho => exec_move (.inl rfl) (ev_on hLo 1 rfl HS5.1 rfl (hb 1 (by rfl))))) ?_
        refine steps_cons (st_run 3 _ rfl rfl hLo rfl rfl (fun b G hb ho => wanted_is rfl rfl rfl HS5.1 rfl (ev_on hLo 2 rfl HS5.1 rfl (hb 2 (by rfl))) rfl) (fun b G w hb ho => exec_move (.inl rfl) (ev_off rfl (HS5.get 1 rfl)))) ?_
        refine steps_cons (st_run 4 _ rfl rfl hLo rfl rfl (fun b G hb ho => wanted_is rfl rfl rfl HS5.1 rfl (ev_on hLo 2 rfl HS5.1 rfl (hb 2 (by rfl))) rfl) (fun b G w hb ho => exec_lenS Tryd.underlying9 rfl (ev_on hLo 3 rfl HS5.1 rfl (hb 3 (by rfl))))) ?_
        refine steps_cons (st_run 5 _ rfl rfl hLo rfl rfl (fun b G hb ho => wanted_is rfl rfl rfl HS5.1 rfl (ev_on hLo 2 rfl HS5.1 rfl (hb 2 (by rfl))) rfl) (fun b G w hb ho => exec_bin rfl (ev_on hLo 4 rfl HS5.1 rfl (hb 4 (by rfl))) (rfl) (rb_gtr hr2 _ _ _))) ?_
        refine steps_cons (st_run 6 _ rfl rfl hLo rfl rfl (fun _ _ _ _ => rfl) (fun b G w hb ho => exec_pick rfl (ev_on hLo 2 rfl HS5.1 rfl (hb 2 (by rfl))) (ev_on hLo 5 rfl HS5.1 rfl (hb 5 (by rfl))))) ?_
        refine steps_cons (st_run 7 _ rfl rfl hLo rfl rfl (fun _ _ _ _ => rfl) (fun b G w hb ho => exec_move (.inl rfl) (ev_on hLo 6 rfl HS5.1 rfl (hb 6 (by rfl))))) ?_
        refine steps_cons (st_skip 8 rfl rfl hLo rfl rfl (fun b G hb ho => wanted_is rfl rfl rfl HS5.1 rfl (ev_on hLo 7 rfl HS5.1 rfl (hb 7 (by rfl))) rfl)) ?_
        refine steps_cons (st_skip 9 rfl rfl hLo rfl rfl (fun b G hb ho => wanted_is rfl rfl rfl HS5.1 rfl (ev_on hLo 7 rfl HS5.1 rfl (hb 7 (by rfl))) rfl)) ?_
        refine steps_cons (st_skip 10 rfl rfl hLo rfl rfl (fun b G hb ho => wanted_is rfl rfl rfl HS5.1 rfl (ev_on hLo 7 rfl HS5.1 rfl (hb 7 (by rfl))) rfl)) ?_
        refine steps_cons (st_run 11 _ rfl rfl hLo rfl rfl (fun _ _ _ _ => rfl) (fun b G w hb ho => exec_pick rfl (ev_on hLo 7 rfl HS5.1 rfl (hb 7 (by rfl))) (rfl))) ?_
        refine steps_cons (st_run 12 _ rfl rfl hLo rfl rfl (fun _ _ _ _ => rfl) (fun b G w hb ho => exec_move (.inl rfl) (ev_on hLo 11 rfl HS5.1 rfl (hb 11 (by rfl))))) ?_
        refine steps_cons (st_skip 13 rfl rfl hLo rfl rfl (fun b G hb ho => wanted_is rfl rfl rfl HS5.1 rfl (ev_on hLo 12 rfl HS5.1 rfl (hb 12 (by rfl))) rfl)) ?_
        refine steps_cons (st_skip 14 rfl rfl hLo rfl rfl (fun b G hb ho => wanted_is rfl rfl rfl HS5.1 rfl (ev_on hLo 12 rfl HS5.1 rfl (hb 12 (by rfl))) rfl)) ?_
        refine steps_cons (st_skip 15 rfl rfl hLo rfl rfl (fun b G hb ho => wanted_is rfl rfl rfl HS5.1 rfl (ev_on hLo 12 rfl HS5.1 rfl (hb 12 (by rfl))) rfl)) ?_
        refine steps_cons (st_skip 16 rfl rfl hLo rfl rfl (fun b G hb ho => wanted_is rfl rfl rfl HS5.1 rfl (ev_on hLo 12 rfl HS5.1 rfl (hb 12 (by rfl))) rfl)) ?_
        refine steps_cons (st_skip 17 rfl rfl hLo rfl rfl (fun b G hb ho => wanted_is rfl rfl rfl HS5.1 rfl (ev_on hLo 12 rfl HS5.1 rfl (hb 12 (by rfl))) rfl)) ?_
        refine steps_cons (st_skip 18 rfl rfl hLo rfl rfl (fun b G hb ho => wanted_is rfl rfl rfl HS5.1 rfl (ev_on hLo 12 rfl HS5.1 rfl (hb 12 (by rfl))) rfl)) ?_
        refine steps_cons (st_skip 19 rfl rfl hLo rfl rfl (fun b G hb ho => wanted_is rfl rfl rfl HS5.1 rfl (ev_on hLo 12 rfl HS5.1 rfl (hb 12 (by rfl))) rfl)) ?_
        refine steps_cons (st_skip 20 rfl rfl hLo rfl rfl (fun b G hb ho => wanted_is rfl rfl rfl HS5.1 rfl (ev_on hLo 12 rfl HS5.1 rfl (hb 12 (by rfl))) rfl)) ?_
        refine steps_cons (st_skip 21 rfl rfl hLo rfl rfl (fun b G hb ho => wanted_is rfl rfl rfl HS5.1 rfl (ev_on hLo 12 rfl HS5.1 rfl (hb 12 (by rfl))) rfl)) ?_
        refine steps_cons (st_run 22 _ rfl rfl hLo rfl rfl (fun _ _ _ _ => rfl) (fun b G w hb ho => exec_pick rfl (ev_on hLo 12 rfl HS5.1 rfl (hb 12 (by rfl))) (rfl))) ?_
        refine steps_cons (st_run 23 _ rfl rfl hLo rfl rfl (fun _ _ _ _ => rfl) (fun b G w hb ho => exec_move (.inr rfl) (ev_on hLo 22 rfl HS5.1 rfl (hb 22 (by rfl))))) ?_
        exact steps_nil
      clear hLo
      intro G a10 w10 hS hH
      have HS10 : Sl a10 33 [(0, .agg (FR () 6 ((t).sc))), (1, .string (cr)), (2, .string (us)), (3, .pointer (some (⟨g1_0, 0, none⟩))), (9, .bool false), (6, .bool true)] := hS
      have HH10 : Held w2 w10 [] := hH
      clear hS hH HS5 HH5
      refine then_ ?_
      refine wp_ret ?_
      repeat (first | refine then_ret ?_ | refine inBlock_ret' ?_)
      have HH11 := Held.back HH3 HH10
      exact b_tmp rfl HS10.2.1 (HS10.get 5 rfl) ⟨law_ret rfl, HH11.1⟩
  · skip
    refine wp_seq ?_
    have hLo : LOk [(0, 10, .val (.agg (FR () 6 ((t).sc)))), (1, 11, .val (.bool true)), (2, 12, .val (.bool true)), (3, 13, .val (undef)), (4, 14, .val (undef)), (5, 15, .val (undef)), (6, 16, .val (.bool true)), (7, 17, .val (.bool true)), (8, 18, .val (undef)), (9, 19, .val (undef)), (10, 20, .val (undef)), (11, 21, .val (.bool true)), (12, 22, .val (.bool true)), (13, 23, .val (undef)), (14, 24, .val (undef)), (15, 25, .val (undef)), (16, 26, .val (undef)), (17, 27, .val (undef)), (18, 28, .val (undef)), (19, 29, .val (undef)), (20, 30, .val (undef)), (21, 31, .val (undef)), (22, 32, .val (.bool true)), (23, 6, .val (.bool true))] := lok (by rfl) (by rfl)
    refine region_ (wE := w2) (sz := 33) (n := 24) (B := [0, 1, 3, 7, 15, 31, 63, 127, 255, 511, 1023, 2047, 4095, 8191, 8191, 8191, 65535, 8191, 8191, 8191, 1048575, 2097151, 4194303, 8388607]) [0, 1, 2, 3, 4, 5, 6, 7, 8, 9, 10, 11, 12, 13, 14, 15, 16, 17, 18, 19, 20, 21, 22, 23] [(0, .val (.agg (FR () 6 ((t).sc)))), (1, .val (.string (cr))), (2, .val (.string (us))), (3, .val (.pointer (some (⟨g1_0, 0, none⟩)))), (9, .val (.bool false)), (6, .val (.bool true))] [(0, 10, .val (.agg (FR () 6 ((t).sc)))), (1, 11, .val (.bool true)), (2, 12, .val (.bool true)), (3, 13, .val (undef)), (4, 14, .val (undef)), (5, 15, .val (undef)), (6, 16, .val (.bool true)), (7, 17, .val (.bool true)), (8, 18, .val (undef)), (9, 19, .val (undef)), (10, 20, .val (undef)), (11, 21, .val (.bool true)), (12, 22, .val (.bool true)), (13, 23, .val (undef)), (14, 24, .val (undef)), (15, 25, .val (undef)), (16, 26, .val (undef)), (17, 27, .val (undef)), (18, 28, .val (undef)), (19, 29, .val (undef)), (20, 30, .val (undef)), (21, 31, .val (undef)), (22, 32, .val (.bool true)), (23, 6, .val (.bool true))] [] (by rfl) rfl tabwus_3 bitswus_3 (by kernel_rfl) (by kernel_rfl) HH5 rfl rfl hLo rfl HS5 (slS 0 rfl rfl (slS 1 rfl rfl (slS 2 rfl rfl (slS 3 rfl rfl (slS 5 rfl rfl (slL 23 (d := 23) rfl (trivial))))))) ?_ ?_
    · show ∀ i ∈ [0, 1, 2, 3, 4, 5, 6, 7, 8, 9, 10, 11, 12, 13, 14, 15, 16, 17, 18, 19, 20, 21, 22, 23], _
      refine steps_cons (st_at 0 (⟨g1_0, 0, none⟩) rfl rfl rfl (fun _ _ _ _ => rfl) hLo rfl rfl Tryd.underlying25 (by kernel_rfl) rfl (row_at hRow4_0) (fun b G hb ho => ev_off rfl (HS5.get 3 rfl))) ?_
      refine steps_cons (st_call 1 _ #[.agg (FR () 6 ((t).sc))] rfl rfl rfl (fun _ _ _ _ => rfl) hLo rfl rfl Tryd.func11 rfl rfl (fun b G hb ho => args1 (ev_on hLo 0 rfl HS5.1 rfl (hb 0 (by rfl)))) (fun w hw => (by have hq := great_calls (hInt_4.below hw); rw [hr1] at hq; exact hq))) ?_
      refine steps_cons (st_run 2 _ rfl rfl hLo rfl rfl (fun _ _ _ _ => rfl) (fun b G w hb ho => exec_move (.inl rfl) (ev_on hLo 1 rfl HS5.1 rfl (hb 1 (by rfl))))) ?_
      refine steps_cons (st_skip 3 rfl rfl hLo rfl rfl (fun b G hb ho => wanted_is rfl rfl rfl HS5.1 rfl (ev_on hLo 2 rfl HS5.1 rfl (hb 2 (by rfl))) rfl)) ?_
      refine steps_cons (st_skip 4 rfl rfl hLo rfl rfl (fun b G hb ho => wanted_is rfl rfl rfl HS5.1 rfl (ev_on hLo 2 rfl HS5.1 rfl (hb 2 (by rfl))) rfl)) ?_
      refine steps_cons (st_skip 5 rfl rfl hLo rfl rfl (fun b G hb ho => wanted_is rfl rfl rfl HS5.1 rfl (ev_on hLo 2 rfl HS5.1 rfl (hb 2 (by rfl))) rfl)) ?_
      refine steps_cons (st_run 6 _ rfl rfl hLo rfl rfl (fun _ _ _ _ => rfl) (fun b G w hb ho => exec_pick rfl (ev_on hLo 2 rfl HS5.1 rfl (hb 2 (by rfl))) (rfl))) ?_
      refine steps_cons (st_run 7 _ rfl rfl hLo rfl rfl (fun _ _ _ _ => rfl) (fun b G w hb ho => exec_move (.inl rfl) (ev_on hLo 6 rfl HS5.1 rfl (hb 6 (by rfl))))) ?_
      refine steps_cons (st_skip 8 rfl rfl hLo rfl rfl (fun b G hb ho => wanted_is rfl rfl rfl HS5.1 rfl (ev_on hLo 7 rfl HS5.1 rfl (hb 7 (by rfl))) rfl)) ?_
      refine steps_cons (st_skip 9 rfl rfl hLo rfl rfl (fun b G hb ho => wanted_is rfl rfl rfl HS5.1 rfl (ev_on hLo 7 rfl HS5.1 rfl (hb 7 (by rfl))) rfl)) ?_
      refine steps_cons (st_skip 10 rfl rfl hLo rfl rfl (fun b G hb ho => wanted_is rfl rfl rfl HS5.1 rfl (ev_on hLo 7 rfl HS5.1 rfl (hb 7 (by rfl))) rfl)) ?_
      refine steps_cons (st_run 11 _ rfl rfl hLo rfl rfl (fun _ _ _ _ => rfl) (fun b G w hb ho => exec_pick rfl (ev_on hLo 7 rfl HS5.1 rfl (hb 7 (by rfl))) (rfl))) ?_
      refine steps_cons (st_run 12 _ rfl rfl hLo rfl rfl (fun _ _ _ _ => rfl) (fun b G w hb ho => exec_move (.inl rfl) (ev_on hLo 11 rfl HS5.1 rfl (hb 11 (by rfl))))) ?_
      refine steps_cons (st_skip 13 rfl rfl hLo rfl rfl (fun b G hb ho => wanted_is rfl rfl rfl HS5.1 rfl (ev_on hLo 12 rfl HS5.1 rfl (hb 12 (by rfl))) rfl)) ?_
      refine steps_cons (st_skip 14 rfl rfl hLo rfl rfl (fun b G hb ho => wanted_is rfl rfl rfl HS5.1 rfl (ev_on hLo 12 rfl HS5.1 rfl (hb 12 (by rfl))) rfl)) ?_
      refine steps_cons (st_skip 15 rfl rfl hLo rfl rfl (fun b G hb ho => wanted_is rfl rfl rfl HS5.1 rfl (ev_on hLo 12 rfl HS5.1 rfl (hb 12 (by rfl))) rfl)) ?_
      refine steps_cons (st_skip 16 rfl rfl hLo rfl rfl (fun b G hb ho => wanted_is rfl rfl rfl HS5.1 rfl (ev_on hLo 12 rfl HS5.1 rfl (hb 12 (by rfl))) rfl)) ?_
      refine steps_cons (st_skip 17 rfl rfl hLo rfl rfl (fun b G hb ho => wanted_is rfl rfl rfl HS5.1 rfl (ev_on hLo 12 rfl HS5.1 rfl (hb 12 (by rfl))) rfl)) ?_
      refine steps_cons (st_skip 18 rfl rfl hLo rfl rfl (fun b G hb ho => wanted_is rfl rfl rfl HS5.1 rfl (ev_on hLo 12 rfl HS5.1 rfl (hb 12 (by rfl))) rfl)) ?_
      refine steps_cons (st_skip 19 rfl rfl hLo rfl rfl (fun b G hb ho => wanted_is rfl rfl rfl HS5.1 rfl (ev_on hLo 12 rfl HS5.1 rfl (hb 12 (by rfl))) rfl)) ?_
      refine steps_cons (st_skip 20 rfl rfl hLo rfl rfl (fun b G hb ho => wanted_is rfl rfl rfl HS5.1 rfl (ev_on hLo 12 rfl HS5.1 rfl (hb 12 (by rfl))) rfl)) ?_
      refine steps_cons (st_skip 21 rfl rfl hLo rfl rfl (fun b G hb ho => wanted_is rfl rfl rfl HS5.1 rfl (ev_on hLo 12 rfl HS5.1 rfl (hb 12 (by rfl))) rfl)) ?_
      refine steps_cons (st_run 22 _ rfl rfl hLo rfl rfl (fun _ _ _ _ => rfl) (fun b G w hb ho => exec_pick rfl (ev_on hLo 12 rfl HS5.1 rfl (hb 12 (by rfl))) (rfl))) ?_
      refine steps_cons (st_run 23 _ rfl rfl hLo rfl rfl (fun _ _ _ _ => rfl) (fun b G w hb ho => exec_move (.inr rfl) (ev_on hLo 22 rfl HS5.1 rfl (hb 22 (by rfl))))) ?_
      exact steps_nil
    clear hLo
    intro G a12 w12 hS hH
    have HS12 : Sl a12 33 [(0, .agg (FR () 6 ((t).sc))), (1, .string (cr)), (2, .string (us)), (3, .pointer (some (⟨g1_0, 0, none⟩))), (9, .bool false), (6, .bool true)] := hS
    have HH12 : Held w2 w12 [] := hH
    clear hS hH HS5 HH5
    refine then_ ?_
    refine wp_ret ?_
    repeat (first | refine then_ret ?_ | refine inBlock_ret' ?_)
    have HH13 := Held.back HH3 HH12
    exact b_tmp rfl HS12.2.1 (HS12.get 5 rfl) ⟨law_ret rfl, HH13.1⟩
theorem PowerSends_walk (t : T) (kd : ByteArray) (st : Bool) (w : World) (hTab : Tab w) (hIn : In w t) (hk : kd.size ≤ 140737488351232) : Calls Tryd.prog 5 #[.agg (FR () 6 ((t).sc)), .string (kd), .bool st] w fun e w' => e = .returned (.bool true) ∧ Below w.heap.size w w' := by
  refine enter_ 28 Tryd.func5 rfl rfl (fun a0 hS => ?_)
  have HS0 : Sl a0 28 [(0, .agg (FR () 6 ((t).sc))), (1, .string (kd)), (2, .bool st)] := hS
  have HH0 : Held w w [] := Held.first w
  clear hS
  refine wp_seq ?_
  have hLo : LOk [(0, 3, .new 0 (fun g => .pointer (some ⟨g, 0, none⟩))), (1, 6, .val (.bool false))] := lok (by rfl) (by rfl)
  refine plain_ (wE := w) (sz := 28) (n := 2) [0, 1] [(0, .val (.agg (FR () 6 ((t).sc)))), (1, .val (.string (kd))), (2, .val (.bool st)), (3, .new 0 (fun g => .pointer (some ⟨g, 0, none⟩))), (6, .val (.bool false))] [(0, 3, .new 0 (fun g => .pointer (some ⟨g, 0, none⟩))), (1, 6, .val (.bool false))] [⟨0, some 0, none, (), 6, (t).sc, (t).sc, 25⟩] rfl (by rfl) HH0 rfl rfl hLo rfl HS0 (slS 0 rfl rfl (slS 1 rfl rfl (slS 2 rfl rfl (slL 0 (d := 0) rfl (slL 1 (d := 1) rfl (trivial)))))) ?_ ?_
  · show ∀ i ∈ [0, 1], _
    refine steps_cons (st_alloc 0 0 () 6 25 none _ _ rfl rfl (fun _ _ _ _ => rfl) rfl hLo rfl rfl rfl rfl (by rfl) (fun b G w hb ho => exec_box rfl (ev_off rfl (HS0.get 0 rfl)) (by kernel_rfl))) ?_
    refine steps_cons (st_run 1 _ rfl rfl hLo rfl rfl (fun _ _ _ _ => rfl) (fun b G w hb ho => exec_move (.inr rfl) (rfl))) ?_
    exact steps_nil
  clear hLo
  intro G a1 w1 hS hH
  have HS1 : Sl a1 28 [(0, .agg (FR () 6 ((t).sc))), (1, .string (kd)), (2, .bool st), (3, .pointer (some ⟨(G 0), 0, none⟩)), (6, .bool false)] := hS
  have HH1 : Held w w1 [⟨(G 0), (), 6, (t).sc, 25⟩] := hH
  clear hS hH HS0 HH0
  generalize G 0 = g1_0 at HS1 HH1
  refine then_ ?_
  refine wp_seq ?_
  refine wp_seq ?_
  refine whole_ ?_
  refine cut_call _ rfl rfl rfl rfl Tryd.func14 rfl rfl (args0 ) (levels_calls _) HS1 rfl ?_
  rintro e2 w2 ⟨⟨gl1, hl1, rfl, hin1⟩, hb1⟩
  refine ⟨_, rfl, fun a2 hS => ?_⟩
  have HS3 : Sl a2 28 [(7, .agg (FR () 6 ((lvT gl1 hl1).sc))), (0, .agg (FR () 6 ((t).sc))), (1, .string (kd)), (2, .bool st), (3, .pointer (some ⟨g1_0, 0, none⟩)), (6, .bool false)] := hS
  have HH3 : Held w w2 [⟨g1_0, (), 6, (t).sc, 25⟩] := HH1.call hb1
  clear hS
  have hin1 : In w2 (lvT gl1 hl1) := hin1
  have hRow4_0 := HH3.row 0 rfl
  have hTab_4 := hTab.below HH3.1
  have hInt_4 := hIn.below HH3.1
  have HH4 : Held w2 w2 [] := Held.first w2
  have HS4 : Sl a2 28 [(7, .agg (FR () 6 ((lvT gl1 hl1).sc))), (0, .agg (FR () 6 ((t).sc))), (1, .string (kd)), (2, .bool st), (3, .pointer (some (⟨g1_0, 0, none⟩))), (6, .bool false)] := HS3
  have hLo : LOk [(1, 8, .val (.int .i64 (50))), (2, 9, .val (.bool false))] := lok (by rfl) (by rfl)
  refine part_ (wE := w2) (sz := 28) (n := 3) 1 3 [0, 1, 3] [(0, .val (.agg (FR () 6 ((t).sc)))), (1, .val (.string (kd))), (2, .val (.bool st)), (3, .val (.pointer (some (⟨g1_0, 0, none⟩)))), (6, .val (.bool false)), (9, .val (.bool false))] [(1, 8, .val (.int .i64 (50))), (2, 9, .val (.bool false))] [] rfl rfl (by rfl) HH4 rfl rfl hLo rfl HS4 (slS 1 rfl rfl (slS 2 rfl rfl (slS 3 rfl rfl (slS 4 rfl rfl (slS 5 rfl rfl (slL 1 (d := 2) rfl (trivial))))))) ?_ ?_
  · show ∀ i ∈ [1, 2], _
    refine steps_cons (st_call 0 _ #[.agg (FR () 6 ((lvT gl1 hl1).sc)), .string (k_m), .bool true] rfl rfl rfl (fun _ _ _ _ => rfl) hLo rfl rfl Tryd.func16 rfl rfl (fun b G hb ho => args3 (ev_off rfl (HS4.get 0 rfl)) (rfl) (rfl)) (fun w hw => (by have hq := send_calls k_m true (hin1.below hw) (Rises.lvT _ _) (hTab_4.below hw); rw [lv_send1 gl1 hl1] at hq; exact hq))) ?_
    refine steps_cons (st_run 1 _ rfl rfl hLo rfl rfl (fun _ _ _ _ => rfl) (fun b G w hb ho => exec_bin rfl (ev_on hLo 0 rfl HS4.1 rfl (hb 1 (by rfl))) (rfl) (rb_neq (by decide) _ _ _))) ?_
    exact steps_nil
  clear hLo
  intro G a5 w5 hS hH
  have HS5 : Sl a5 28 [(0, .agg (FR () 6 ((t).sc))), (1, .string (kd)), (2, .bool st), (3, .pointer (some (⟨g1_0, 0, none⟩))), (6, .bool false), (9, .bool false)] := hS
  have HH5 : Held w2 w5 [] := hH
  clear hS hH HS4 HH4
  refine end_ rfl ?_
  refine then_ ?_
  refine wp_cond_false (HS5.get 5 rfl) ?_
  refine wp_skip ?_
  refine then_ ?_
  obtain ⟨r1, hr1⟩ : ∃ r : Bool, (greatB t) = r := ⟨_, rfl⟩
  cases r1
  · skip
    have hG_t := hr1
    have hR_t := (greatB_not hr1)
    obtain ⟨r2, hr2⟩ : ∃ r : Bool, (decide ((1024 : Int) < ((kd).size : Int))) = r := ⟨_, rfl⟩
    cases r2
    · skip
      refine wp_seq ?_
      have hLo : LOk [(0, 10, .val (.agg (FR () 6 ((t).sc)))), (1, 11, .val (.bool false)), (2, 12, .val (.bool false)), (3, 13, .val (.string (kd))), (4, 14, .val (.int .i64 (((kd).size : Int)))), (5, 15, .val (.bool false)), (6, 16, .val (.bool false)), (7, 17, .val (.bool false)), (8, 18, .val (.agg (FR () 6 ((t).sc)))), (9, 19, .val (.string (kd))), (10, 20, .val (.bool st)), (11, 21, .val (.int .i64 (sendV t kd st))), (12, 22, .val (.agg (FR () 6 ((t).sc)))), (13, 23, .val (.string (kd))), (14, 24, .val (.bool st)), (15, 25, .val (.int .i64 (sendV t kd st))), (16, 26, .val (.bool true)), (17, 27, .val (.bool true)), (18, 6, .val (.bool true))] := lok (by rfl) (by rfl)
      refine region_ (wE := w2) (sz := 28) (n := 19) (B := [0, 1, 3, 7, 15, 31, 63, 127, 255, 255, 255, 2047, 255, 255, 255, 32767, 65535, 131071, 262143]) [0, 1, 2, 3, 4, 5, 6, 7, 8, 9, 10, 11, 12, 13, 14, 15, 16, 17, 18] [(0, .val (.agg (FR () 6 ((t).sc)))), (1, .val (.string (kd))), (2, .val (.bool st)), (3, .val (.pointer (some (⟨g1_0, 0, none⟩)))), (9, .val (.bool false)), (6, .val (.bool true))] [(0, 10, .val (.agg (FR () 6 ((t).sc)))), (1, 11, .val (.bool false)), (2, 12, .val (.bool false)), (3, 13, .val (.string (kd))), (4, 14, .val (.int .i64 (((kd).size : Int)))), (5, 15, .val (.bool false)), (6, 16, .val (.bool false)), (7, 17, .val (.bool false)), (8, 18, .val (.agg (FR () 6 ((t).sc)))), (9, 19, .val (.string (kd))), (10, 20, .val (.bool st)), (11, 21, .val (.int .i64 (sendV t kd st))), (12, 22, .val (.agg (FR () 6 ((t).sc)))), (13, 23, .val (.string (kd))), (14, 24, .val (.bool st)), (15, 25, .val (.int .i64 (sendV t kd st))), (16, 26, .val (.bool true)), (17, 27, .val (.bool true)), (18, 6, .val (.bool true))] [] (by rfl) rfl tabwsn_3 bitswsn_3 (by kernel_rfl) (by kernel_rfl) HH5 rfl rfl hLo rfl HS5 (slS 0 rfl rfl (slS 1 rfl rfl (slS 2 rfl rfl (slS 3 rfl rfl (slS 5 rfl rfl (slL 18 (d := 18) rfl (trivial))))))) ?_ ?_
      · show ∀ i ∈ [0, 1, 2, 3, 4, 5, 6, 7, 8, 9, 10, 11, 12, 13, 14, 15, 16, 17, 18], _
        refine steps_cons (st_at 0 (⟨g1_0, 0, none⟩) rfl rfl rfl (fun _ _ _ _ => rfl) hLo rfl rfl Tryd.underlying25 (by kernel_rfl) rfl (row_at hRow4_0) (fun b G hb ho => ev_off rfl (HS5.get 3 rfl))) ?_
        refine steps_cons (st_call 1 _ #[.agg (FR () 6 ((t).sc))] rfl rfl rfl (fun _ _ _ _ => rfl) hLo rfl rfl Tryd.func11 rfl rfl (fun b G hb ho => args1 (ev_on hLo 0 rfl HS5.1 rfl (hb 0 (by rfl)))) (fun w hw => (by have hq := great_calls (hInt_4.below hw); rw [hr1] at hq; exact hq))) ?_
        refine steps_cons (st_run 2 _ rfl rfl hLo rfl rfl (fun _ _ _ _ => rfl) (fun b G w hb ho => exec_move (.inl rfl) (ev_on hLo 1 rfl HS5.1 rfl (hb 1 (by rfl))))) ?_
        refine steps_cons (st_run 3 _ rfl rfl hLo rfl rfl (fun b G hb ho => wanted_is rfl rfl rfl HS5.1 rfl (ev_on hLo 2 rfl HS5.1 rfl (hb 2 (by rfl))) rfl) (fun b G w hb ho => exec_move (.inl rfl) (ev_off rfl (HS5.get 1 rfl)))) ?_
        refine steps_cons (st_run 4 _ rfl rfl hLo rfl rfl (fun b G hb ho => wanted_is rfl rfl rfl HS5.1 rfl (ev_on hLo 2 rfl HS5.1 rfl (hb 2 (by rfl))) rfl) (fun b G w hb ho => exec_lenS Tryd.underlying9 rfl (ev_on hLo 3 rfl HS5.1 rfl (hb 3 (by rfl))))) ?_
        refine steps_cons (st_run 5 _ rfl rfl hLo rfl rfl (fun b G hb ho => wanted_is rfl rfl rfl HS5.1 rfl (ev_on hLo 2 rfl HS5.1 rfl (hb 2 (by rfl))) rfl) (fun b G w hb ho => exec_bin rfl (ev_on hLo 4 rfl HS5.1 rfl (hb 4 (by rfl))) (rfl) (rb_gtr hr2 _ _ _))) ?_
        refine steps_cons (st_run 6 _ rfl rfl hLo rfl rfl (fun _ _ _ _ => rfl) (fun b G w hb ho => exec_pick rfl (ev_on hLo 2 rfl HS5.1 rfl (hb 2 (by rfl))) (ev_on hLo 5 rfl HS5.1 rfl (hb 5 (by rfl))))) ?_
        refine steps_cons (st_run 7 _ rfl rfl hLo rfl rfl (fun _ _ _ _ => rfl) (fun b G w hb ho => exec_move (.inl rfl) (ev_on hLo 6 rfl HS5.1 rfl (hb 6 (by rfl))))) ?_
        refine steps_cons (st_at 8 (⟨g1_0, 0, none⟩) rfl rfl rfl (fun b G hb ho => wanted_is rfl rfl rfl HS5.1 rfl (ev_on hLo 7 rfl HS5.1 rfl (hb 7 (by rfl))) rfl) hLo rfl rfl Tryd.underlying25 (by kernel_rfl) rfl (row_at hRow4_0) (fun b G hb ho => ev_off rfl (HS5.get 3 rfl))) ?_
        refine steps_cons (st_run 9 _ rfl rfl hLo rfl rfl (fun b G hb ho => wanted_is rfl rfl rfl HS5.1 rfl (ev_on hLo 7 rfl HS5.1 rfl (hb 7 (by rfl))) rfl) (fun b G w hb ho => exec_move (.inl rfl) (ev_off rfl (HS5.get 1 rfl)))) ?_
        refine steps_cons (st_run 10 _ rfl rfl hLo rfl rfl (fun b G hb ho => wanted_is rfl rfl rfl HS5.1 rfl (ev_on hLo 7 rfl HS5.1 rfl (hb 7 (by rfl))) rfl) (fun b G w hb ho => exec_move (.inl rfl) (ev_off rfl (HS5.get 2 rfl)))) ?_
        refine steps_cons (st_call 11 _ #[.agg (FR () 6 ((t).sc)), .string (kd), .bool st] rfl rfl rfl (fun b G hb ho => wanted_is rfl rfl rfl HS5.1 rfl (ev_on hLo 7 rfl HS5.1 rfl (hb 7 (by rfl))) rfl) hLo rfl rfl Tryd.func16 rfl rfl (fun b G hb ho => args3 (ev_on hLo 8 rfl HS5.1 rfl (hb 8 (by rfl))) (ev_on hLo 9 rfl HS5.1 rfl (hb 9 (by rfl))) (ev_on hLo 10 rfl HS5.1 rfl (hb 10 (by rfl)))) (fun w hw => send_calls kd st (hInt_4.below hw) hR_t (hTab_4.below hw))) ?_
        refine steps_cons (st_at 12 (⟨g1_0, 0, none⟩) rfl rfl rfl (fun b G hb ho => wanted_is rfl rfl rfl HS5.1 rfl (ev_on hLo 7 rfl HS5.1 rfl (hb 7 (by rfl))) rfl) hLo rfl rfl Tryd.underlying25 (by kernel_rfl) rfl (row_at hRow4_0) (fun b G hb ho => ev_off rfl (HS5.get 3 rfl))) ?_
        refine steps_cons (st_run 13 _ rfl rfl hLo rfl rfl (fun b G hb ho => wanted_is rfl rfl rfl HS5.1 rfl (ev_on hLo 7 rfl HS5.1 rfl (hb 7 (by rfl))) rfl) (fun b G w hb ho => exec_move (.inl rfl) (ev_off rfl (HS5.get 1 rfl)))) ?_
        refine steps_cons (st_run 14 _ rfl rfl hLo rfl rfl (fun b G hb ho => wanted_is rfl rfl rfl HS5.1 rfl (ev_on hLo 7 rfl HS5.1 rfl (hb 7 (by rfl))) rfl) (fun b G w hb ho => exec_move (.inl rfl) (ev_off rfl (HS5.get 2 rfl)))) ?_
        refine steps_cons (st_call 15 _ #[.agg (FR () 6 ((t).sc)), .string (kd), .bool st] rfl rfl rfl (fun b G hb ho => wanted_is rfl rfl rfl HS5.1 rfl (ev_on hLo 7 rfl HS5.1 rfl (hb 7 (by rfl))) rfl) hLo rfl rfl Tryd.func17 rfl rfl (fun b G hb ho => args3 (ev_on hLo 12 rfl HS5.1 rfl (hb 12 (by rfl))) (ev_on hLo 13 rfl HS5.1 rfl (hb 13 (by rfl))) (ev_on hLo 14 rfl HS5.1 rfl (hb 14 (by rfl)))) (fun w hw => rsend_calls kd st (hInt_4.below hw))) ?_
        refine steps_cons (st_run 16 _ rfl rfl hLo rfl rfl (fun b G hb ho => wanted_is rfl rfl rfl HS5.1 rfl (ev_on hLo 7 rfl HS5.1 rfl (hb 7 (by rfl))) rfl) (fun b G w hb ho => exec_bin rfl (ev_on hLo 11 rfl HS5.1 rfl (hb 11 (by rfl))) (ev_on hLo 15 rfl HS5.1 rfl (hb 15 (by rfl))) (rb_eql (beq_self_eq_true _) _ _ _))) ?_
        refine steps_cons (st_run 17 _ rfl rfl hLo rfl rfl (fun _ _ _ _ => rfl) (fun b G w hb ho => exec_pick rfl (ev_on hLo 7 rfl HS5.1 rfl (hb 7 (by rfl))) (ev_on hLo 16 rfl HS5.1 rfl (hb 16 (by rfl))))) ?_
        refine steps_cons (st_run 18 _ rfl rfl hLo rfl rfl (fun _ _ _ _ => rfl) (fun b G w hb ho => exec_move (.inr rfl) (ev_on hLo 17 rfl HS5.1 rfl (hb 17 (by rfl))))) ?_
        exact steps_nil
      clear hLo
      intro G a6 w6 hS hH
      have HS6 : Sl a6 28 [(0, .agg (FR () 6 ((t).sc))), (1, .string (kd)), (2, .bool st), (3, .pointer (some (⟨g1_0, 0, none⟩))), (9, .bool false), (6, .bool true)] := hS
      have HH6 : Held w2 w6 [] := hH
      clear hS hH HS5 HH5
      refine then_ ?_
      refine wp_ret ?_
      repeat (first | refine then_ret ?_ | refine inBlock_ret' ?_)
      have HH7 := Held.back HH3 HH6
      exact b_tmp rfl HS6.2.1 (HS6.get 5 rfl) ⟨law_ret rfl, HH7.1⟩
    · skip
      refine wp_seq ?_
      have hLo : LOk [(0, 10, .val (.agg (FR () 6 ((t).sc)))), (1, 11, .val (.bool false)), (2, 12, .val (.bool false)), (3, 13, .val (.string (kd))), (4, 14, .val (.int .i64 (((kd).size : Int)))), (5, 15, .val (.bool true)), (6, 16, .val (.bool true)), (7, 17, .val (.bool true)), (8, 18, .val (undef)), (9, 19, .val (undef)), (10, 20, .val (undef)), (11, 21, .val (undef)), (12, 22, .val (undef)), (13, 23, .val (undef)), (14, 24, .val (undef)), (15, 25, .val (undef)), (16, 26, .val (undef)), (17, 27, .val (.bool true)), (18, 6, .val (.bool true))] := lok (by rfl) (by rfl)
      refine region_ (wE := w2) (sz := 28) (n := 19) (B := [0, 1, 3, 7, 15, 31, 63, 127, 255, 255, 255, 2047, 255, 255, 255, 32767, 65535, 131071, 262143]) [0, 1, 2, 3, 4, 5, 6, 7, 8, 9, 10, 11, 12, 13, 14, 15, 16, 17, 18] [(0, .val (.agg (FR () 6 ((t).sc)))), (1, .val (.string (kd))), (2, .val (.bool st)), (3, .val (.pointer (some (⟨g1_0, 0, none⟩)))), (9, .val (.bool false)), (6, .val (.bool true))] [(0, 10, .val (.agg (FR () 6 ((t).sc)))), (1, 11, .val (.bool false)), (2, 12, .val (.bool false)), (3, 13, .val (.string (kd))), (4, 14, .val (.int .i64 (((kd).size : Int)))), (5, 15, .val (.bool true)), (6, 16, .val (.bool true)), (7, 17, .val (.bool true)), (8, 18, .val (undef)), (9, 19, .val (undef)), (10, 20, .val (undef)), (11, 21, .val (undef)), (12, 22, .val (undef)), (13, 23, .val (undef)), (14, 24, .val (undef)), (15, 25, .val (undef)), (16, 26, .val (undef)), (17, 27, .val (.bool true)), (18, 6, .val (.bool true))] [] (by rfl) rfl tabwsn_3 bitswsn_3 (by kernel_rfl) (by kernel_rfl) HH5 rfl rfl hLo rfl HS5 (slS 0 rfl rfl (slS 1 rfl rfl (slS 2 rfl rfl (slS 3 rfl rfl (slS 5 rfl rfl (slL 18 (d := 18) rfl (trivial))))))) ?_ ?_
      · show ∀ i ∈ [0, 1, 2, 3, 4, 5, 6, 7, 8, 9, 10, 11, 12, 13, 14, 15, 16, 17, 18], _
        refine steps_cons (st_at 0 (⟨g1_0, 0, none⟩) rfl rfl rfl (fun _ _ _ _ => rfl) hLo rfl rfl Tryd.underlying25 (by kernel_rfl) rfl (row_at hRow4_0) (fun b G hb ho => ev_off rfl (HS5.get 3 rfl))) ?_
        refine steps_cons (st_call 1 _ #[.agg (FR () 6 ((t).sc))] rfl rfl rfl (fun _ _ _ _ => rfl) hLo rfl rfl Tryd.func11 rfl rfl (fun b G hb ho => args1 (ev_on hLo 0 rfl HS5.1 rfl (hb 0 (by rfl)))) (fun w hw => (by have hq := great_calls (hInt_4.below hw); rw [hr1] at hq; exact hq))) ?_
        refine steps_cons (st_run 2 _ rfl rfl hLo rfl rfl (fun _ _ _ _ => rfl) (fun b G w hb ho => exec_move (.inl rfl) (ev_on hLo 1 rfl HS5.1 rfl (hb 1 (by rfl))))) ?_
        refine steps_cons (st_run 3 _ rfl rfl hLo rfl rfl (fun b G hb ho => wanted_is rfl rfl rfl HS5.1 rfl (ev_on hLo 2 rfl HS5.1 rfl (hb 2 (by rfl))) rfl) (fun b G w hb ho => exec_move (.inl rfl) (ev_off rfl (HS5.get 1 rfl)))) ?_
        refine steps_cons (st_run 4 _ rfl rfl hLo rfl rfl (fun b G hb ho => wanted_is rfl rfl rfl HS5.1 rfl (ev_on hLo 2 rfl HS5.1 rfl (hb 2 (by rfl))) rfl) (fun b G w hb ho => exec_lenS Tryd.underlying9 rfl (ev_on hLo 3 rfl HS5.1 rfl (hb 3 (by rfl))))) ?_
        refine steps_cons (st_run 5 _ rfl rfl hLo rfl rfl (fun b G hb ho => wanted_is rfl rfl rfl HS5.1 rfl (ev_on hLo 2 rfl HS5.1 rfl (hb 2 (by rfl))) rfl) (fun b G w hb ho => exec_bin rfl (ev_on hLo 4 rfl HS5.1 rfl (hb 4 (by rfl))) (rfl) (rb_gtr hr2 _ _ _))) ?_
        refine steps_cons (st_run 6 _ rfl rfl hLo rfl rfl (fun _ _ _ _ => rfl) (fun b G w hb ho => exec_pick rfl (ev_on hLo 2 rfl HS5.1 rfl (hb 2 (by rfl))) (ev_on hLo 5 rfl HS5.1 rfl (hb 5 (by rfl))))) ?_
        refine steps_cons (st_run 7 _ rfl rfl hLo rfl rfl (fun _ _ _ _ => rfl) (fun b G w hb ho => exec_move (.inl rfl) (ev_on hLo 6 rfl HS5.1 rfl (hb 6 (by rfl))))) ?_
        refine steps_cons (st_skip 8 rfl rfl hLo rfl rfl (fun b G hb ho => wanted_is rfl rfl rfl HS5.1 rfl (ev_on hLo 7 rfl HS5.1 rfl (hb 7 (by rfl))) rfl)) ?_
        refine steps_cons (st_skip 9 rfl rfl hLo rfl rfl (fun b G hb ho => wanted_is rfl rfl rfl HS5.1 rfl (ev_on hLo 7 rfl HS5.1 rfl (hb 7 (by rfl))) rfl)) ?_
        refine steps_cons (st_skip 10 rfl rfl hLo rfl rfl (fun b G hb ho => wanted_is rfl rfl rfl HS5.1 rfl (ev_on hLo 7 rfl HS5.1 rfl (hb 7 (by rfl))) rfl)) ?_
        refine steps_cons (st_skip 11 rfl rfl hLo rfl rfl (fun b G hb ho => wanted_is rfl rfl rfl HS5.1 rfl (ev_on hLo 7 rfl HS5.1 rfl (hb 7 (by rfl))) rfl)) ?_
        refine steps_cons (st_skip 12 rfl rfl hLo rfl rfl (fun b G hb ho => wanted_is rfl rfl rfl HS5.1 rfl (ev_on hLo 7 rfl HS5.1 rfl (hb 7 (by rfl))) rfl)) ?_
        refine steps_cons (st_skip 13 rfl rfl hLo rfl rfl (fun b G hb ho => wanted_is rfl rfl rfl HS5.1 rfl (ev_on hLo 7 rfl HS5.1 rfl (hb 7 (by rfl))) rfl)) ?_
        refine steps_cons (st_skip 14 rfl rfl hLo rfl rfl (fun b G hb ho => wanted_is rfl rfl rfl HS5.1 rfl (ev_on hLo 7 rfl HS5.1 rfl (hb 7 (by rfl))) rfl)) ?_
        refine steps_cons (st_skip 15 rfl rfl hLo rfl rfl (fun b G hb ho => wanted_is rfl rfl rfl HS5.1 rfl (ev_on hLo 7 rfl HS5.1 rfl (hb 7 (by rfl))) rfl)) ?_
        refine steps_cons (st_skip 16 rfl rfl hLo rfl rfl (fun b G hb ho => wanted_is rfl rfl rfl HS5.1 rfl (ev_on hLo 7 rfl HS5.1 rfl (hb 7 (by rfl))) rfl)) ?_
        refine steps_cons (st_run 17 _ rfl rfl hLo rfl rfl (fun _ _ _ _ => rfl) (fun b G w hb ho => exec_pick rfl (ev_on hLo 7 rfl HS5.1 rfl (hb 7 (by rfl))) (rfl))) ?_
        refine steps_cons (st_run 18 _ rfl rfl hLo rfl rfl (fun _ _ _ _ => rfl) (fun b G w hb ho => exec_move (.inr rfl) (ev_on hLo 17 rfl HS5.1 rfl (hb 17 (by rfl))))) ?_
        exact steps_nil
      clear hLo
      intro G a8 w8 hS hH
      have HS8 : Sl a8 28 [(0, .agg (FR () 6 ((t).sc))), (1, .string (kd)), (2, .bool st), (3, .pointer (some (⟨g1_0, 0, none⟩))), (9, .bool false), (6, .bool true)] := hS
      have HH8 : Held w2 w8 [] := hH
      clear hS hH HS5 HH5
      refine then_ ?_
      refine wp_ret ?_
      repeat (first | refine then_ret ?_ | refine inBlock_ret' ?_)
      have HH9 := Held.back HH3 HH8
      exact b_tmp rfl HS8.2.1 (HS8.get 5 rfl) ⟨law_ret rfl, HH9.1⟩
  · skip
    refine wp_seq ?_
    have hLo : LOk [(0, 10, .val (.agg (FR () 6 ((t).sc)))), (1, 11, .val (.bool true)), (2, 12, .val (.bool true)), (3, 13, .val (undef)), (4, 14, .val (undef)), (5, 15, .val (undef)), (6, 16, .val (.bool true)), (7, 17, .val (.bool true)), (8, 18, .val (undef)), (9, 19, .val (undef)), (10, 20, .val (undef)), (11, 21, .val (undef)), (12, 22, .val (undef)), (13, 23, .val (undef)), (14, 24, .val (undef)), (15, 25, .val (undef)), (16, 26, .val (undef)), (17, 27, .val (.bool true)), (18, 6, .val (.bool true))] := lok (by rfl) (by rfl)
    refine region_ (wE := w2) (sz := 28) (n := 19) (B := [0, 1, 3, 7, 15, 31, 63, 127, 255, 255, 255, 2047, 255, 255, 255, 32767, 65535, 131071, 262143]) [0, 1, 2, 3, 4, 5, 6, 7, 8, 9, 10, 11, 12, 13, 14, 15, 16, 17, 18] [(0, .val (.agg (FR () 6 ((t).sc)))), (1, .val (.string (kd))), (2, .val (.bool st)), (3, .val (.pointer (some (⟨g1_0, 0, none⟩)))), (9, .val (.bool false)), (6, .val (.bool true))] [(0, 10, .val (.agg (FR () 6 ((t).sc)))), (1, 11, .val (.bool true)), (2, 12, .val (.bool true)), (3, 13, .val (undef)), (4, 14, .val (undef)), (5, 15, .val (undef)), (6, 16, .val (.bool true)), (7, 17, .val (.bool true)), (8, 18, .val (undef)), (9, 19, .val (undef)), (10, 20, .val (undef)), (11, 21, .val (undef)), (12, 22, .val (undef)), (13, 23, .val (undef)), (14, 24, .val (undef)), (15, 25, .val (undef)), (16, 26, .val (undef)), (17, 27, .val (.bool true)), (18, 6, .val (.bool true))] [] (by rfl) rfl tabwsn_3 bitswsn_3 (by kernel_rfl) (by kernel_rfl) HH5 rfl rfl hLo rfl HS5 (slS 0 rfl rfl (slS 1 rfl rfl (slS 2 rfl rfl (slS 3 rfl rfl (slS 5 rfl rfl (slL 18 (d := 18) rfl (trivial))))))) ?_ ?_
    · show ∀ i ∈ [0, 1, 2, 3, 4, 5, 6, 7, 8, 9, 10, 11, 12, 13, 14, 15, 16, 17, 18], _
      refine steps_cons (st_at 0 (⟨g1_0, 0, none⟩) rfl rfl rfl (fun _ _ _ _ => rfl) hLo rfl rfl Tryd.underlying25 (by kernel_rfl) rfl (row_at hRow4_0) (fun b G hb ho => ev_off rfl (HS5.get 3 rfl))) ?_
      refine steps_cons (st_call 1 _ #[.agg (FR () 6 ((t).sc))] rfl rfl rfl (fun _ _ _ _ => rfl) hLo rfl rfl Tryd.func11 rfl rfl (fun b G hb ho => args1 (ev_on hLo 0 rfl HS5.1 rfl (hb 0 (by rfl)))) (fun w hw => (by have hq := great_calls (hInt_4.below hw); rw [hr1] at hq; exact hq))) ?_
      refine steps_cons (st_run 2 _ rfl rfl hLo rfl rfl (fun _ _ _ _ => rfl) (fun b G w hb ho => exec_move (.inl rfl) (ev_on hLo 1 rfl HS5.1 rfl (hb 1 (by rfl))))) ?_
      refine steps_cons (st_skip 3 rfl rfl hLo rfl rfl (fun b G hb ho => wanted_is rfl rfl rfl HS5.1 rfl (ev_on hLo 2 rfl HS5.1 rfl (hb 2 (by rfl))) rfl)) ?_
      refine steps_cons (st_skip 4 rfl rfl hLo rfl rfl (fun b G hb ho => wanted_is rfl rfl rfl HS5.1 rfl (ev_on hLo 2 rfl HS5.1 rfl (hb 2 (by rfl))) rfl)) ?_
      refine steps_cons (st_skip 5 rfl rfl hLo rfl rfl (fun b G hb ho => wanted_is rfl rfl rfl HS5.1 rfl (ev_on hLo 2 rfl HS5.1 rfl (hb 2 (by rfl))) rfl)) ?_
      refine steps_cons (st_run 6 _ rfl rfl hLo rfl rfl (fun _ _ _ _ => rfl) (fun b G w hb ho => exec_pick rfl (ev_on hLo 2 rfl HS5.1 rfl (hb 2 (by rfl))) (rfl))) ?_
      refine steps_cons (st_run 7 _ rfl rfl hLo rfl rfl (fun _ _ _ _ => rfl) (fun b G w hb ho => exec_move (.inl rfl) (ev_on hLo 6 rfl HS5.1 rfl (hb 6 (by rfl))))) ?_
      refine steps_cons (st_skip 8 rfl rfl hLo rfl rfl (fun b G hb ho => wanted_is rfl rfl rfl HS5.1 rfl (ev_on hLo 7 rfl HS5.1 rfl (hb 7 (by rfl))) rfl)) ?_
      refine steps_cons (st_skip 9 rfl rfl hLo rfl rfl (fun b G hb ho => wanted_is rfl rfl rfl HS5.1 rfl (ev_on hLo 7 rfl HS5.1 rfl (hb 7 (by rfl))) rfl)) ?_
      refine steps_cons (st_skip 10 rfl rfl hLo rfl rfl (fun b G hb ho => wanted_is rfl rfl rfl HS5.1 rfl (ev_on hLo 7 rfl HS5.1 rfl (hb 7 (by rfl))) rfl)) ?_
      refine steps_cons (st_skip 11 rfl rfl hLo rfl rfl (fun b G hb ho => wanted_is rfl rfl rfl HS5.1 rfl (ev_on hLo 7 rfl HS5.1 rfl (hb 7 (by rfl))) rfl)) ?_
      refine steps_cons (st_skip 12 rfl rfl hLo rfl rfl (fun b G hb ho => wanted_is rfl rfl rfl HS5.1 rfl (ev_on hLo 7 rfl HS5.1 rfl (hb 7 (by rfl))) rfl)) ?_
      refine steps_cons (st_skip 13 rfl rfl hLo rfl rfl (fun b G hb ho => wanted_is rfl rfl rfl HS5.1 rfl (ev_on hLo 7 rfl HS5.1 rfl (hb 7 (by rfl))) rfl)) ?_
      refine steps_cons (st_skip 14 rfl rfl hLo rfl rfl (fun b G hb ho => wanted_is rfl rfl rfl HS5.1 rfl (ev_on hLo 7 rfl HS5.1 rfl (hb 7 (by rfl))) rfl)) ?_
      refine steps_cons (st_skip 15 rfl rfl hLo rfl rfl (fun b G hb ho => wanted_is rfl rfl rfl HS5.1 rfl (ev_on hLo 7 rfl HS5.1 rfl (hb 7 (by rfl))) rfl)) ?_
      refine steps_cons (st_skip 16 rfl rfl hLo rfl rfl (fun b G hb ho => wanted_is rfl rfl rfl HS5.1 rfl (ev_on hLo 7 rfl HS5.1 rfl (hb 7 (by rfl))) rfl)) ?_
      refine steps_cons (st_run 17 _ rfl rfl hLo rfl rfl (fun _ _ _ _ => rfl) (fun b G w hb ho => exec_pick rfl (ev_on hLo 7 rfl HS5.1 rfl (hb 7 (by rfl))) (rfl))) ?_
      refine steps_cons (st_run 18 _ rfl rfl hLo rfl rfl (fun _ _ _ _ => rfl) (fun b G w hb ho => exec_move (.inr rfl) (ev_on hLo 17 rfl HS5.1 rfl (hb 17 (by rfl))))) ?_
      exact steps_nil
    clear hLo
    intro G a10 w10 hS hH
    have HS10 : Sl a10 28 [(0, .agg (FR () 6 ((t).sc))), (1, .string (kd)), (2, .bool st), (3, .pointer (some (⟨g1_0, 0, none⟩))), (9, .bool false), (6, .bool true)] := hS
    have HH10 : Held w2 w10 [] := hH
    clear hS hH HS5 HH5
    refine then_ ?_
    refine wp_ret ?_
    repeat (first | refine then_ret ?_ | refine inBlock_ret' ?_)
    have HH11 := Held.back HH3 HH10
    exact b_tmp rfl HS10.2.1 (HS10.get 5 rfl) ⟨law_ret rfl, HH11.1⟩
end Go.Proofs.YtjpiofbedglagaaDoor.P
end
