/- Merged of the texts: Pw, Px, Py (trim.py). -/
import Derived.Test.YtjpiofbedglagaaDoorYd3
section
namespace Go.Proofs.YtjpiofbedglagaaDoor.P
set_option linter.unusedVariables false
set_option linter.unusedSimpArgs false
open Go.RowKit Go.ChangeShapes Go.WideShapes Go.Proofs.YtjpiofbedglagaaDoorW.PrintWords Go.Proofs.YtjpiofbedglagaaDoorW.PrintLast Go.Proofs.YtjpiofbedglagaaDoorW.PrintMore
def ixS (K : Nat → ByteArray) (key : ByteArray) (n : Nat) : Int := match look K key n with
  | some k => (k : Int)
  | none => -1
theorem ixS_some {K : Nat → ByteArray} {key : ByteArray} {n k : Nat} (h : look K key n = some k) : ixS K key n = (k : Int) := by unfold ixS; rw [h]
theorem ixS_none {K : Nat → ByteArray} {key : ByteArray} {n : Nat} (h : look K key n = none) : ixS K key n = -1 := by unfold ixS; rw [h]
theorem ixS_is {K : Nat → ByteArray} {key : ByteArray} {n : Nat} {r : Bool} (h : decide ((0 : Int) ≤ ixS K key n) = r) : r = (look K key n).isSome := by
  subst h
  cases e : look K key n with
  | some k => rw [ixS_some e]; simp
  | none => rw [ixS_none e]; rfl
theorem look_hit3 {K : Nat → ByteArray} {key : ByteArray} {n i : Nat} (hi : i < n) (hl : look K key i = none) (he : decide (key = K i) = true) : look K key n = some i := look_is hi (of_decide_eq_true he).symm (look_none.1 hl)
theorem look_miss3 {K : Nat → ByteArray} {key : ByteArray} {i : Nat} (hl : look K key i = none) (he : decide (key = K i) = false) : look K key (i + 1) = none := by
  unfold look; rw [hl]; simp only [if_neg (fun e => of_decide_eq_false he (Eq.symm e))]
theorem tn_row : ∀ i, i < 3 → lsc [.s zO, .s k_notifications, .s zS] i = .s (TN i) := by
  intro i hi
  have h : i = 0 ∨ i = 1 ∨ i = 2 := by omega
  rcases h with rfl | rfl | rfl <;> rfl
theorem nm_row : ∀ i, i < 7 → lsc [.s k_ban, .s yE, .s k_invite, .s k_kick, .s k_redact, .s yF, .s yG] i = .s (NM i) := by
  intro i hi
  have h : i = 0 ∨ i = 1 ∨ i = 2 ∨ i = 3 ∨ i = 4 ∨ i = 5 ∨ i = 6 := by omega
  rcases h with rfl | rfl | rfl | rfl | rfl | rfl | rfl <;> rfl
theorem may_ret {b : Bool} {a c : T} {key : ByteArray} {mine : Int} (h : mayB a c key mine = b) : Ending.returned (.bool b) = .returned (.bool (mayB a c key mine)) := by rw [h]
theorem turns_ret {b : Bool} {a c : T} {key : ByteArray} {mine : Int} {below : Bool} (h : turnsB a c key mine below = b) : Ending.returned (.bool b) = .returned (.bool (turnsB a c key mine below)) := by rw [h]
theorem ixs_calls {w : World} {oa : Option Addr} {n c : Nat} {K : Nat → ByteArray} (key : ByteArray) (hK : StrsAt w oa n K) (hn : n ≤ 1099511627776) : Calls Tryd.prog 44 #[.slice (oa) (n) (c), .string (key)] w fun e w' => e = .returned (.int .i64 (ixS K key n)) ∧ Below w.heap.size w w' := by
  refine enter_ 19 Tryd.func44 rfl rfl (fun a0 hS => ?_)
  have HS0 : Sl a0 19 [(0, .slice (oa) (n) (c)), (1, .string (key))] := hS
  have HH0 : Held w w [] := Held.first w
  clear hS
  refine wp_seq ?_
  have hLo : LOk [(0, 4, .val (.int .i64 (0)))] := lok (by rfl) (by rfl)
  refine zI (wE := w) (sz := 19) (n := 1) [0] [(0, .val (.slice (oa) (n) (c))), (1, .val (.string (key))), (4, .val (.int .i64 (0)))] [(0, 4, .val (.int .i64 (0)))] [] rfl (by rfl) HH0 rfl rfl hLo rfl HS0 (slS 0 rfl rfl (slS 1 rfl rfl (slL 0 (d := 0) rfl (trivial)))) ?_ ?_
  · show ∀ i ∈ [0], _
    refine zA (zC 0 _ rfl rfl hLo rfl rfl (fun _ _ _ _ => rfl) (fun b G w hb ho => zD (.inr rfl) (rfl))) ?_
    exact zF
  clear hLo
  intro G a1 w1 hS hH
  have HS1 : Sl a1 19 [(0, .slice (oa) (n) (c)), (1, .string (key)), (4, .int .i64 (0))] := hS
  have HH1 : Held w w1 [] := hH
  clear hS hH HS0 HH0
  refine then_ ?_
  refine wp_seq ?_
  refine wp_seq ?_
  have hLo : LOk [(0, 6, .val (.slice (oa) (n) (c))), (1, 7, .val (.int .i64 ((n : Int)))), (2, 8, .val (.int .i64 (0)))] := lok (by rfl) (by rfl)
  refine zI (wE := w) (sz := 19) (n := 3) [0, 1, 3] [(0, .val (.slice (oa) (n) (c))), (1, .val (.string (key))), (4, .val (.int .i64 (0))), (7, .val (.int .i64 ((n : Int)))), (8, .val (.int .i64 (0)))] [(0, 6, .val (.slice (oa) (n) (c))), (1, 7, .val (.int .i64 ((n : Int)))), (2, 8, .val (.int .i64 (0)))] [] rfl (by rfl) HH1 rfl rfl hLo rfl HS1 (slS 0 rfl rfl (slS 1 rfl rfl (slS 2 rfl rfl (slL 1 (d := 1) rfl (slL 2 (d := 2) rfl (trivial)))))) ?_ ?_
  · show ∀ i ∈ [0, 1, 2], _
    refine zA (zC 0 _ rfl rfl hLo rfl rfl (fun _ _ _ _ => rfl) (fun b G w hb ho => zD (.inl rfl) (zG rfl (HS1.get 0 rfl)))) ?_
    refine zA (zC 1 _ rfl rfl hLo rfl rfl (fun _ _ _ _ => rfl) (fun b G w hb ho => exec_lenL Tryd.underlying54 rfl (zB hLo 0 rfl HS1.1 rfl (hb 0 (by rfl))))) ?_
    refine zA (zC 2 _ rfl rfl hLo rfl rfl (fun _ _ _ _ => rfl) (fun b G w hb ho => zD (.inl rfl) (rfl))) ?_
    exact zF
  clear hLo
  intro G a2 w2 hS hH
  have HS2 : Sl a2 19 [(0, .slice (oa) (n) (c)), (1, .string (key)), (4, .int .i64 (0)), (7, .int .i64 ((n : Int))), (8, .int .i64 (0))] := hS
  have HH2 : Held w w2 [] := hH
  clear hS hH HS1 HH1
  refine then_ ?_
  refine wp_block ?_
  have hSq0 : Sl _ 19 [(0, .slice (oa) (n) (c)), (1, .string (key)), (7, .int .i64 ((n : Int))), (8, .int .i64 (0))] := yB HS2 [0, 1, 3, 4] (by rfl)
  refine wp_loop (fun a w' => ∃ i : Nat, i ≤ n ∧ look K key i = none ∧ Sl a 19 [(0, .slice (oa) (n) (c)), (1, .string (key)), (7, .int .i64 ((n : Int))), (8, .int .i64 ((i : Int)))] ∧ Held w w' []) (fun a w' => n - (intOf (a.eval (.tmp 8))).toNat) ⟨0, Nat.zero_le _, rfl, hSq0, HH2⟩ ?_
  clear hSq0 HS2 HH2
  rintro aq0 wq0 ⟨i, hi, hL, HSq0, HHq0⟩
  have hm : (intOf (aq0.eval (.tmp 8))).toNat = i := by rw [(HSq0.get 3 rfl)]; rfl
  rw [hm]
  clear hm
  obtain ⟨r1, hr1⟩ : ∃ r : Bool, (decide (((i : Int) : Int) < (n : Int))) = r := ⟨_, rfl⟩
  refine wp_seq ?_
  have hLo : LOk [(0, 9, .val (.bool r1))] := lok (by rfl) (by rfl)
  refine zI (wE := w) (sz := 19) (n := 1) [0] [(0, .val (.slice (oa) (n) (c))), (1, .val (.string (key))), (7, .val (.int .i64 ((n : Int)))), (8, .val (.int .i64 ((i : Int)))), (9, .val (.bool r1))] [(0, 9, .val (.bool r1))] [] rfl (by rfl) HHq0 rfl rfl hLo rfl HSq0 (slS 0 rfl rfl (slS 1 rfl rfl (slS 2 rfl rfl (slS 3 rfl rfl (slL 0 (d := 0) rfl (trivial)))))) ?_ ?_
  · show ∀ i ∈ [0], _
    refine zA (zC 0 _ rfl rfl hLo rfl rfl (fun _ _ _ _ => rfl) (fun b G w hb ho => zJ rfl (zG rfl (HSq0.get 3 rfl)) (zG rfl (HSq0.get 2 rfl)) (rb_lss hr1 _ _ _))) ?_
    exact zF
  clear hLo
  intro G a3 w3 hS hH
  have HS3 : Sl a3 19 [(0, .slice (oa) (n) (c)), (1, .string (key)), (7, .int .i64 ((n : Int))), (8, .int .i64 ((i : Int))), (9, .bool r1)] := hS
  have HH3 : Held w w3 [] := hH
  clear hS hH HSq0 HHq0
  refine then_ ?_
  refine wp_seq ?_
  cases r1
  · skip
    have hend : i = n := by have := of_decide_eq_false hr1; omega
    rw [hend] at hL
    refine wp_cond_false (HS3.get 4 rfl) ?_
    refine wp_exit ?_
    refine zZ ?_
    refine zZ ?_
    refine yH ?_
    refine then_ ?_
    refine wp_seq ?_
    have hLo : LOk [(0, 4, .val (.int .i64 (-1)))] := lok (by rfl) (by rfl)
    refine zI (wE := w) (sz := 19) (n := 1) [0] [(0, .val (.slice (oa) (n) (c))), (1, .val (.string (key))), (7, .val (.int .i64 ((n : Int)))), (8, .val (.int .i64 ((i : Int)))), (9, .val (.bool false)), (4, .val (.int .i64 (-1)))] [(0, 4, .val (.int .i64 (-1)))] [] rfl (by rfl) HH3 rfl rfl hLo rfl HS3 (slS 0 rfl rfl (slS 1 rfl rfl (slS 2 rfl rfl (slS 3 rfl rfl (slS 4 rfl rfl (slL 0 (d := 0) rfl (trivial))))))) ?_ ?_
    · show ∀ i ∈ [0], _
      refine zA (zC 0 _ rfl rfl hLo rfl rfl (fun _ _ _ _ => rfl) (fun b G w hb ho => zD (.inr rfl) (rfl))) ?_
      exact zF
    clear hLo
    intro G a4 w4 hS hH
    have HS4 : Sl a4 19 [(0, .slice (oa) (n) (c)), (1, .string (key)), (7, .int .i64 ((n : Int))), (8, .int .i64 ((i : Int))), (9, .bool false), (4, .int .i64 (-1))] := hS
    have HH4 : Held w w4 [] := hH
    clear hS hH HS3 HH3
    refine then_ ?_
    refine wp_ret ?_
    repeat (first | refine zP ?_ | refine zL ?_)
    exact yI rfl HS4.2.1 (HS4.get 5 rfl) ⟨by rw [ixS_none hL], HH4.1⟩
  · skip
    have hlt : i < n := by have := of_decide_eq_true hr1; omega
    refine wp_cond_true (HS3.get 4 rfl) ?_
    refine wp_skip ?_
    refine then_ ?_
    refine wp_seq ?_
    refine wp_block ?_
    refine wp_seq ?_
    have hLo : LOk [(0, 10, .val (.int .i64 ((i : Int)))), (1, 5, .val (.int .i64 ((i : Int))))] := lok (by rfl) (by rfl)
    refine zI (wE := w) (sz := 19) (n := 2) [0, 1] [(0, .val (.slice (oa) (n) (c))), (1, .val (.string (key))), (7, .val (.int .i64 ((n : Int)))), (8, .val (.int .i64 ((i : Int)))), (9, .val (.bool true)), (5, .val (.int .i64 ((i : Int))))] [(0, 10, .val (.int .i64 ((i : Int)))), (1, 5, .val (.int .i64 ((i : Int))))] [] rfl (by rfl) HH3 rfl rfl hLo rfl HS3 (slS 0 rfl rfl (slS 1 rfl rfl (slS 2 rfl rfl (slS 3 rfl rfl (slS 4 rfl rfl (slL 1 (d := 1) rfl (trivial))))))) ?_ ?_
    · show ∀ i ∈ [0, 1], _
      refine zA (zC 0 _ rfl rfl hLo rfl rfl (fun _ _ _ _ => rfl) (fun b G w hb ho => zD (.inl rfl) (zG rfl (HS3.get 3 rfl)))) ?_
      refine zA (zC 1 _ rfl rfl hLo rfl rfl (fun _ _ _ _ => rfl) (fun b G w hb ho => zD (.inr rfl) (zB hLo 0 rfl HS3.1 rfl (hb 0 (by rfl))))) ?_
      exact zF
    clear hLo
    intro G a5 w5 hS hH
    have HS5 : Sl a5 19 [(0, .slice (oa) (n) (c)), (1, .string (key)), (7, .int .i64 ((n : Int))), (8, .int .i64 ((i : Int))), (9, .bool true), (5, .int .i64 ((i : Int)))] := hS
    have HH5 : Held w w5 [] := hH
    clear hS hH HS3 HH3
    refine then_ ?_
    obtain ⟨x1, hx1, hc1⟩ := hK i hlt
    obtain ⟨r2, hr2⟩ : ∃ r : Bool, (decide ((key : ByteArray) = K (i))) = r := ⟨_, rfl⟩
    refine wp_seq ?_
    have hLo : LOk [(0, 11, .val (.string (key))), (1, 12, .val (.slice (oa) (n) (c))), (2, 13, .val (.int .i64 ((i : Int)))), (3, 14, .val (.pointer (some (x1.add ((i) * 1))))), (4, 15, .val (.string (K (i)))), (5, 16, .val (.bool r2))] := lok (by rfl) (by rfl)
    refine zI (wE := w) (sz := 19) (n := 6) [0, 1, 3, 7, 15, 31] [(0, .val (.slice (oa) (n) (c))), (1, .val (.string (key))), (7, .val (.int .i64 ((n : Int)))), (8, .val (.int .i64 ((i : Int)))), (9, .val (.bool true)), (5, .val (.int .i64 ((i : Int)))), (16, .val (.bool r2))] [(0, 11, .val (.string (key))), (1, 12, .val (.slice (oa) (n) (c))), (2, 13, .val (.int .i64 ((i : Int)))), (3, 14, .val (.pointer (some (x1.add ((i) * 1))))), (4, 15, .val (.string (K (i)))), (5, 16, .val (.bool r2))] [] rfl (by rfl) HH5 rfl rfl hLo rfl HS5 (slS 0 rfl rfl (slS 1 rfl rfl (slS 2 rfl rfl (slS 3 rfl rfl (slS 4 rfl rfl (slS 5 rfl rfl (slL 5 (d := 5) rfl (trivial)))))))) ?_ ?_
    · show ∀ i ∈ [0, 1, 2, 3, 4, 5], _
      refine zA (zC 0 _ rfl rfl hLo rfl rfl (fun _ _ _ _ => rfl) (fun b G w hb ho => zD (.inl rfl) (zG rfl (HS5.get 1 rfl)))) ?_
      refine zA (zC 1 _ rfl rfl hLo rfl rfl (fun _ _ _ _ => rfl) (fun b G w hb ho => zD (.inl rfl) (zG rfl (HS5.get 0 rfl)))) ?_
      refine zA (zC 2 _ rfl rfl hLo rfl rfl (fun _ _ _ _ => rfl) (fun b G w hb ho => zD (.inl rfl) (zG rfl (HS5.get 5 rfl)))) ?_
      refine zA (zC 3 _ rfl rfl hLo rfl rfl (fun _ _ _ _ => rfl) (fun b G w hb ho => zX rfl (zB hLo 1 rfl HS5.1 rfl (hb 1 (by rfl))) (zB hLo 2 rfl HS5.1 rfl (hb 2 (by rfl))) (index_sl Tryd.underlying54 (by kernel_rfl) hx1 hlt _))) ?_
      refine zA (st_at1 4 (x1.add ((i) * 1)) _ rfl rfl rfl (fun _ _ _ _ => rfl) hLo rfl rfl Tryd.underlying9 rfl (hc1) (fun b G hb ho => zB hLo 3 rfl HS5.1 rfl (hb 3 (by rfl)))) ?_
      refine zA (zC 5 _ rfl rfl hLo rfl rfl (fun _ _ _ _ => rfl) (fun b G w hb ho => zJ rfl (zB hLo 0 rfl HS5.1 rfl (hb 0 (by rfl))) (zB hLo 4 rfl HS5.1 rfl (hb 4 (by rfl))) (rb_seql hr2 _ _ _))) ?_
      exact zF
    clear hLo
    intro G a6 w6 hS hH
    have HS6 : Sl a6 19 [(0, .slice (oa) (n) (c)), (1, .string (key)), (7, .int .i64 ((n : Int))), (8, .int .i64 ((i : Int))), (9, .bool true), (5, .int .i64 ((i : Int))), (16, .bool r2)] := hS
    have HH6 : Held w w6 [] := hH
    clear hS hH HS5 HH5
    refine then_ ?_
    cases r2
    · skip
      refine wp_cond_false (HS6.get 6 rfl) ?_
      refine wp_skip ?_
      refine zQ ?_
      refine then_ ?_
      have hLo : LOk [(0, 18, .val (.int .i64 (((i + 1 : Nat) : Int)))), (1, 8, .val (.int .i64 (((i + 1 : Nat) : Int))))] := lok (by rfl) (by rfl)
      refine zI (wE := w) (sz := 19) (n := 2) [0, 1] [(0, .val (.slice (oa) (n) (c))), (1, .val (.string (key))), (7, .val (.int .i64 ((n : Int)))), (9, .val (.bool true)), (5, .val (.int .i64 ((i : Int)))), (16, .val (.bool false)), (8, .val (.int .i64 (((i + 1 : Nat) : Int))))] [(0, 18, .val (.int .i64 (((i + 1 : Nat) : Int)))), (1, 8, .val (.int .i64 (((i + 1 : Nat) : Int))))] [] rfl (by rfl) HH6 rfl rfl hLo rfl HS6 (slS 0 rfl rfl (slS 1 rfl rfl (slS 2 rfl rfl (slS 4 rfl rfl (slS 5 rfl rfl (slS 6 rfl rfl (slL 1 (d := 1) rfl (trivial)))))))) ?_ ?_
      · show ∀ i ∈ [0, 1], _
        refine zA (zC 0 _ rfl rfl hLo rfl rfl (fun _ _ _ _ => rfl) (fun b G w hb ho => zJ rfl (ev_pre hLo 1 rfl (ho 1 (by rfl)) (HS6.get 3 rfl)) (rfl) (rb_add (w_nat (by omega) (by omega)) _ _ _))) ?_
        refine zA (zC 1 _ rfl rfl hLo rfl rfl (fun _ _ _ _ => rfl) (fun b G w hb ho => zD (.inl rfl) (zB hLo 0 rfl HS6.1 rfl (hb 0 (by rfl))))) ?_
        exact zF
      clear hLo
      intro G a7 w7 hS hH
      have HS7 : Sl a7 19 [(0, .slice (oa) (n) (c)), (1, .string (key)), (7, .int .i64 ((n : Int))), (9, .bool true), (5, .int .i64 ((i : Int))), (16, .bool false), (8, .int .i64 (((i + 1 : Nat) : Int)))] := hS
      have HH7 : Held w w7 [] := hH
      clear hS hH HS6 HH6
      refine then_ ?_
      have hSq0' : Sl _ 19 [(0, .slice (oa) (n) (c)), (1, .string (key)), (7, .int .i64 ((n : Int))), (8, .int .i64 (((i + 1 : Nat) : Int)))] := yB HS7 [0, 1, 2, 6] (by rfl)
      have hHq0' : Held w _ [] := yC HH7 0 rfl
      exact ⟨⟨i + 1, by omega, look_miss3 hL hr2, hSq0', hHq0'⟩, by rw [(hSq0'.get 3 rfl)]; show n - (((i + 1 : Nat) : Int)).toNat < n - i; omega⟩
    · skip
      refine wp_cond_true (HS6.get 6 rfl) ?_
      refine wp_seq ?_
      have hLo : LOk [(0, 17, .val (.int .i64 ((i : Int)))), (1, 4, .val (.int .i64 ((i : Int))))] := lok (by rfl) (by rfl)
      refine zI (wE := w) (sz := 19) (n := 2) [0, 1] [(0, .val (.slice (oa) (n) (c))), (1, .val (.string (key))), (7, .val (.int .i64 ((n : Int)))), (8, .val (.int .i64 ((i : Int)))), (9, .val (.bool true)), (5, .val (.int .i64 ((i : Int)))), (16, .val (.bool true)), (4, .val (.int .i64 ((i : Int))))] [(0, 17, .val (.int .i64 ((i : Int)))), (1, 4, .val (.int .i64 ((i : Int))))] [] rfl (by rfl) HH6 rfl rfl hLo rfl HS6 (slS 0 rfl rfl (slS 1 rfl rfl (slS 2 rfl rfl (slS 3 rfl rfl (slS 4 rfl rfl (slS 5 rfl rfl (slS 6 rfl rfl (slL 1 (d := 1) rfl (trivial))))))))) ?_ ?_
      · show ∀ i ∈ [0, 1], _
        refine zA (zC 0 _ rfl rfl hLo rfl rfl (fun _ _ _ _ => rfl) (fun b G w hb ho => zD (.inl rfl) (zG rfl (HS6.get 5 rfl)))) ?_
        refine zA (zC 1 _ rfl rfl hLo rfl rfl (fun _ _ _ _ => rfl) (fun b G w hb ho => zD (.inr rfl) (zB hLo 0 rfl HS6.1 rfl (hb 0 (by rfl))))) ?_
        exact zF
      clear hLo
      intro G a8 w8 hS hH
      have HS8 : Sl a8 19 [(0, .slice (oa) (n) (c)), (1, .string (key)), (7, .int .i64 ((n : Int))), (8, .int .i64 ((i : Int))), (9, .bool true), (5, .int .i64 ((i : Int))), (16, .bool true), (4, .int .i64 ((i : Int)))] := hS
      have HH8 : Held w w8 [] := hH
      clear hS hH HS6 HH6
      refine then_ ?_
      refine wp_ret ?_
      repeat (first | refine zP ?_ | refine zL ?_)
      exact yI rfl HS8.2.1 (HS8.get 7 rfl) ⟨by rw [ixS_some (look_hit3 hlt hL hr2)], HH8.1⟩
theorem contains_calls {w : World} {oa : Option Addr} {n c : Nat} {K : Nat → ByteArray} (key : ByteArray) (hK : StrsAt w oa n K) (hn : n ≤ 1099511627776) : Calls Tryd.prog 40 #[.slice (oa) (n) (c), .string (key)] w fun e w' => e = .returned (.bool (look K key n).isSome) ∧ Below w.heap.size w w' := by
  refine enter_ 9 Tryd.func40 rfl rfl (fun a0 hS => ?_)
  have HS0 : Sl a0 9 [(0, .slice (oa) (n) (c)), (1, .string (key))] := hS
  have HH0 : Held w w [] := Held.first w
  clear hS
  refine wp_seq ?_
  have hLo : LOk [(0, 4, .val (.bool false))] := lok (by rfl) (by rfl)
  refine zI (wE := w) (sz := 9) (n := 1) [0] [(0, .val (.slice (oa) (n) (c))), (1, .val (.string (key))), (4, .val (.bool false))] [(0, 4, .val (.bool false))] [] rfl (by rfl) HH0 rfl rfl hLo rfl HS0 (slS 0 rfl rfl (slS 1 rfl rfl (slL 0 (d := 0) rfl (trivial)))) ?_ ?_
  · show ∀ i ∈ [0], _
    refine zA (zC 0 _ rfl rfl hLo rfl rfl (fun _ _ _ _ => rfl) (fun b G w hb ho => zD (.inr rfl) (rfl))) ?_
    exact zF
  clear hLo
  intro G a1 w1 hS hH
  have HS1 : Sl a1 9 [(0, .slice (oa) (n) (c)), (1, .string (key)), (4, .bool false)] := hS
  have HH1 : Held w w1 [] := hH
  clear hS hH HS0 HH0
  refine then_ ?_
  obtain ⟨r1, hr1⟩ : ∃ r : Bool, (decide ((0 : Int) ≤ ixS K key n)) = r := ⟨_, rfl⟩
  refine wp_seq ?_
  have hLo : LOk [(0, 5, .val (.slice (oa) (n) (c))), (1, 6, .val (.string (key))), (2, 7, .val (.int .i64 (ixS K key n))), (3, 8, .val (.bool r1)), (4, 4, .val (.bool r1))] := lok (by rfl) (by rfl)
  refine zI (wE := w) (sz := 9) (n := 5) [0, 1, 3, 7, 15] [(0, .val (.slice (oa) (n) (c))), (1, .val (.string (key))), (4, .val (.bool r1))] [(0, 5, .val (.slice (oa) (n) (c))), (1, 6, .val (.string (key))), (2, 7, .val (.int .i64 (ixS K key n))), (3, 8, .val (.bool r1)), (4, 4, .val (.bool r1))] [] rfl (by rfl) HH1 rfl rfl hLo rfl HS1 (slS 0 rfl rfl (slS 1 rfl rfl (slL 4 (d := 4) rfl (trivial)))) ?_ ?_
  · show ∀ i ∈ [0, 1, 2, 3, 4], _
    refine zA (zC 0 _ rfl rfl hLo rfl rfl (fun _ _ _ _ => rfl) (fun b G w hb ho => zD (.inl rfl) (zG rfl (HS1.get 0 rfl)))) ?_
    refine zA (zC 1 _ rfl rfl hLo rfl rfl (fun _ _ _ _ => rfl) (fun b G w hb ho => zD (.inl rfl) (zG rfl (HS1.get 1 rfl)))) ?_
    refine zA (zV 2 _ #[.slice (oa) (n) (c), .string (key)] rfl rfl rfl (fun _ _ _ _ => rfl) hLo rfl rfl Tryd.func44 rfl rfl (fun b G hb ho => args2 (zB hLo 0 rfl HS1.1 rfl (hb 0 (by rfl))) (zB hLo 1 rfl HS1.1 rfl (hb 1 (by rfl)))) (fun w hw => ixs_calls key (hK.below hw) hn)) ?_
    refine zA (zC 3 _ rfl rfl hLo rfl rfl (fun _ _ _ _ => rfl) (fun b G w hb ho => zJ rfl (zB hLo 2 rfl HS1.1 rfl (hb 2 (by rfl))) (rfl) (rb_geq hr1 _ _ _))) ?_
    refine zA (zC 4 _ rfl rfl hLo rfl rfl (fun _ _ _ _ => rfl) (fun b G w hb ho => zD (.inr rfl) (zB hLo 3 rfl HS1.1 rfl (hb 3 (by rfl))))) ?_
    exact zF
  clear hLo
  intro G a2 w2 hS hH
  have HS2 : Sl a2 9 [(0, .slice (oa) (n) (c)), (1, .string (key)), (4, .bool r1)] := hS
  have HH2 : Held w w2 [] := hH
  clear hS hH HS1 HH1
  refine then_ ?_
  refine wp_ret ?_
  repeat (first | refine zP ?_ | refine zL ?_)
  exact yI rfl HS2.2.1 (HS2.get 2 rfl) ⟨by rw [ixS_is hr1], HH2.1⟩
theorem may_calls {w : World} {a b : T} (key : ByteArray) (mine : Int) (hIna : In w a) (hInb : In w b) (hRa : Rises a) (hRb : Rises b) : Calls Tryd.prog 32 #[.agg (FR () 6 ((a).sc)), .agg (FR () 6 ((b).sc)), .string (key), .int .i64 (mine)] w fun e w' => e = .returned (.bool (mayB a b key mine)) ∧ Below w.heap.size w w' := by
  refine enter_ 41 Tryd.func32 rfl rfl (fun a0 hS => ?_)
  have HS0 : Sl a0 41 [(0, .agg (FR () 6 ((a).sc))), (1, .agg (FR () 6 ((b).sc))), (2, .string (key)), (3, .int .i64 (mine))] := hS
  have HH0 : Held w w [] := Held.first w
  clear hS
  refine wp_seq ?_
  have hLo : LOk [(0, 4, .new 0 (fun g => .pointer (some ⟨g, 0, none⟩))), (1, 5, .new 1 (fun g => .pointer (some ⟨g, 0, none⟩))), (2, 8, .val (.bool false))] := lok (by rfl) (by rfl)
  refine zI (wE := w) (sz := 41) (n := 3) [0, 1, 3] [(0, .val (.agg (FR () 6 ((a).sc)))), (1, .val (.agg (FR () 6 ((b).sc)))), (2, .val (.string (key))), (3, .val (.int .i64 (mine))), (4, .new 0 (fun g => .pointer (some ⟨g, 0, none⟩))), (5, .new 1 (fun g => .pointer (some ⟨g, 0, none⟩))), (8, .val (.bool false))] [(0, 4, .new 0 (fun g => .pointer (some ⟨g, 0, none⟩))), (1, 5, .new 1 (fun g => .pointer (some ⟨g, 0, none⟩))), (2, 8, .val (.bool false))] [⟨0, some 0, none, (), 6, (a).sc, (a).sc, 25⟩, ⟨0, some 1, none, (), 6, (b).sc, (b).sc, 25⟩] rfl (by rfl) HH0 rfl rfl hLo rfl HS0 (slS 0 rfl rfl (slS 1 rfl rfl (slS 2 rfl rfl (slS 3 rfl rfl (slL 0 (d := 0) rfl (slL 1 (d := 1) rfl (slL 2 (d := 2) rfl (trivial)))))))) ?_ ?_
  · show ∀ i ∈ [0, 1, 2], _
    refine zA (zW 0 0 () 6 25 none _ _ rfl rfl (fun _ _ _ _ => rfl) rfl hLo rfl rfl rfl rfl (by rfl) (fun b G w hb ho => exec_box rfl (zG rfl (HS0.get 0 rfl)) (by kernel_rfl))) ?_
    refine zA (zW 1 1 () 6 25 none _ _ rfl rfl (fun _ _ _ _ => rfl) rfl hLo rfl rfl rfl rfl (by rfl) (fun b G w hb ho => exec_box rfl (zG rfl (HS0.get 1 rfl)) (by kernel_rfl))) ?_
    refine zA (zC 2 _ rfl rfl hLo rfl rfl (fun _ _ _ _ => rfl) (fun b G w hb ho => zD (.inr rfl) (rfl))) ?_
    exact zF
  clear hLo
  intro G a1 w1 hS hH
  have HS1 : Sl a1 41 [(0, .agg (FR () 6 ((a).sc))), (1, .agg (FR () 6 ((b).sc))), (2, .string (key)), (3, .int .i64 (mine)), (4, .pointer (some ⟨(G 0), 0, none⟩)), (5, .pointer (some ⟨(G 1), 0, none⟩)), (8, .bool false)] := hS
  have HH1 : Held w w1 [⟨(G 0), (), 6, (a).sc, 25⟩, ⟨(G 1), (), 6, (b).sc, 25⟩] := hH
  clear hS hH HS0 HH0
  generalize G 0 = g1_0 at HS1 HH1
  generalize G 1 = g1_1 at HS1 HH1
  refine then_ ?_
  obtain ⟨r1, hr1⟩ : ∃ r : Bool, (((a).tell key).2) = r := ⟨_, rfl⟩
  refine wp_seq ?_
  have hLo : LOk [(0, 14, .val (.agg (FR () 6 ((a).sc)))), (1, 15, .val (.string (key))), (2, 16, .val (.tuple #[.int .i64 (((a).tell key).1), .bool r1])), (3, 13, .val (.tuple #[.int .i64 (((a).tell key).1), .bool r1])), (4, 17, .val (.int .i64 (((a).tell key).1))), (5, 18, .val (.bool r1)), (6, 9, .val (.int .i64 (((a).tell key).1))), (7, 10, .val (.bool r1))] := lok (by rfl) (by rfl)
  refine zI (wE := w) (sz := 41) (n := 8) [0, 1, 3, 7, 15, 31, 63, 127] [(0, .val (.agg (FR () 6 ((a).sc)))), (1, .val (.agg (FR () 6 ((b).sc)))), (2, .val (.string (key))), (3, .val (.int .i64 (mine))), (4, .val (.pointer (some ⟨g1_0, 0, none⟩))), (5, .val (.pointer (some ⟨g1_1, 0, none⟩))), (8, .val (.bool false)), (9, .val (.int .i64 (((a).tell key).1))), (10, .val (.bool r1))] [(0, 14, .val (.agg (FR () 6 ((a).sc)))), (1, 15, .val (.string (key))), (2, 16, .val (.tuple #[.int .i64 (((a).tell key).1), .bool r1])), (3, 13, .val (.tuple #[.int .i64 (((a).tell key).1), .bool r1])), (4, 17, .val (.int .i64 (((a).tell key).1))), (5, 18, .val (.bool r1)), (6, 9, .val (.int .i64 (((a).tell key).1))), (7, 10, .val (.bool r1))] [⟨g1_0, none, none, (), 6, (a).sc, (a).sc, 25⟩, ⟨g1_1, none, none, (), 6, (b).sc, (b).sc, 25⟩] rfl (by rfl) HH1 rfl rfl hLo rfl HS1 (slS 0 rfl rfl (slS 1 rfl rfl (slS 2 rfl rfl (slS 3 rfl rfl (slS 4 rfl rfl (slS 5 rfl rfl (slS 6 rfl rfl (slL 6 (d := 6) rfl (slL 7 (d := 7) rfl (trivial)))))))))) ?_ ?_
  · show ∀ i ∈ [0, 1, 2, 3, 4, 5, 6, 7], _
    refine zA (yD 0 0 _ rfl rfl rfl rfl (fun _ _ _ _ => rfl) hLo rfl rfl rfl (by rfl) Tryd.underlying25 (by kernel_rfl) rfl (fun b G hb ho => zG rfl (HS1.get 4 rfl))) ?_
    refine zA (zC 1 _ rfl rfl hLo rfl rfl (fun _ _ _ _ => rfl) (fun b G w hb ho => zD (.inl rfl) (zG rfl (HS1.get 2 rfl)))) ?_
    refine zA (zV 2 _ #[.agg (FR () 6 ((a).sc)), .string (key)] rfl rfl rfl (fun _ _ _ _ => rfl) hLo rfl rfl Tryd.func25 rfl rfl (fun b G hb ho => args2 (zB hLo 0 rfl HS1.1 rfl (hb 0 (by rfl))) (zB hLo 1 rfl HS1.1 rfl (hb 1 (by rfl)))) (fun w hw => (by have hq := num_calls (t := a) key (hIna.below hw) hRa.rise; rw [hr1] at hq; exact hq))) ?_
    refine zA (zC 3 _ rfl rfl hLo rfl rfl (fun _ _ _ _ => rfl) (fun b G w hb ho => zD (.inl rfl) (zB hLo 2 rfl HS1.1 rfl (hb 2 (by rfl))))) ?_
    refine zA (zC 4 _ rfl rfl hLo rfl rfl (fun _ _ _ _ => rfl) (fun b G w hb ho => zT rfl (zB hLo 3 rfl HS1.1 rfl (hb 3 (by rfl))) (by rfl))) ?_
    refine zA (zC 5 _ rfl rfl hLo rfl rfl (fun _ _ _ _ => rfl) (fun b G w hb ho => zT rfl (zB hLo 3 rfl HS1.1 rfl (hb 3 (by rfl))) (by rfl))) ?_
    refine zA (zC 6 _ rfl rfl hLo rfl rfl (fun _ _ _ _ => rfl) (fun b G w hb ho => zD (.inr rfl) (zB hLo 4 rfl HS1.1 rfl (hb 4 (by rfl))))) ?_
    refine zA (zC 7 _ rfl rfl hLo rfl rfl (fun _ _ _ _ => rfl) (fun b G w hb ho => zD (.inr rfl) (zB hLo 5 rfl HS1.1 rfl (hb 5 (by rfl))))) ?_
    exact zF
  clear hLo
  intro G a2 w2 hS hH
  have HS2 : Sl a2 41 [(0, .agg (FR () 6 ((a).sc))), (1, .agg (FR () 6 ((b).sc))), (2, .string (key)), (3, .int .i64 (mine)), (4, .pointer (some ⟨g1_0, 0, none⟩)), (5, .pointer (some ⟨g1_1, 0, none⟩)), (8, .bool false), (9, .int .i64 (((a).tell key).1)), (10, .bool r1)] := hS
  have HH2 : Held w w2 [⟨g1_0, (), 6, (a).sc, 25⟩, ⟨g1_1, (), 6, (b).sc, 25⟩] := hH
  clear hS hH HS1 HH1
  refine then_ ?_
  obtain ⟨r2, hr2⟩ : ∃ r : Bool, (((b).tell key).2) = r := ⟨_, rfl⟩
  refine wp_seq ?_
  have hLo : LOk [(0, 20, .val (.agg (FR () 6 ((b).sc)))), (1, 21, .val (.string (key))), (2, 22, .val (.tuple #[.int .i64 (((b).tell key).1), .bool r2])), (3, 19, .val (.tuple #[.int .i64 (((b).tell key).1), .bool r2])), (4, 23, .val (.int .i64 (((b).tell key).1))), (5, 24, .val (.bool r2)), (6, 11, .val (.int .i64 (((b).tell key).1))), (7, 12, .val (.bool r2))] := lok (by rfl) (by rfl)
  refine zI (wE := w) (sz := 41) (n := 8) [0, 1, 3, 7, 15, 31, 63, 127] [(0, .val (.agg (FR () 6 ((a).sc)))), (1, .val (.agg (FR () 6 ((b).sc)))), (2, .val (.string (key))), (3, .val (.int .i64 (mine))), (4, .val (.pointer (some ⟨g1_0, 0, none⟩))), (5, .val (.pointer (some ⟨g1_1, 0, none⟩))), (8, .val (.bool false)), (9, .val (.int .i64 (((a).tell key).1))), (10, .val (.bool r1)), (11, .val (.int .i64 (((b).tell key).1))), (12, .val (.bool r2))] [(0, 20, .val (.agg (FR () 6 ((b).sc)))), (1, 21, .val (.string (key))), (2, 22, .val (.tuple #[.int .i64 (((b).tell key).1), .bool r2])), (3, 19, .val (.tuple #[.int .i64 (((b).tell key).1), .bool r2])), (4, 23, .val (.int .i64 (((b).tell key).1))), (5, 24, .val (.bool r2)), (6, 11, .val (.int .i64 (((b).tell key).1))), (7, 12, .val (.bool r2))] [⟨g1_0, none, none, (), 6, (a).sc, (a).sc, 25⟩, ⟨g1_1, none, none, (), 6, (b).sc, (b).sc, 25⟩] rfl (by rfl) HH2 rfl rfl hLo rfl HS2 (slS 0 rfl rfl (slS 1 rfl rfl (slS 2 rfl rfl (slS 3 rfl rfl (slS 4 rfl rfl (slS 5 rfl rfl (slS 6 rfl rfl (slS 7 rfl rfl (slS 8 rfl rfl (slL 6 (d := 6) rfl (slL 7 (d := 7) rfl (trivial)))))))))))) ?_ ?_
  · show ∀ i ∈ [0, 1, 2, 3, 4, 5, 6, 7], _
    refine zA (yD 0 1 _ rfl rfl rfl rfl (fun _ _ _ _ => rfl) hLo rfl rfl rfl (by rfl) Tryd.underlying25 (by kernel_rfl) rfl (fun b G hb ho => zG rfl (HS2.get 5 rfl))) ?_
    refine zA (zC 1 _ rfl rfl hLo rfl rfl (fun _ _ _ _ => rfl) (fun b G w hb ho => zD (.inl rfl) (zG rfl (HS2.get 2 rfl)))) ?_
    refine zA (zV 2 _ #[.agg (FR () 6 ((b).sc)), .string (key)] rfl rfl rfl (fun _ _ _ _ => rfl) hLo rfl rfl Tryd.func25 rfl rfl (fun b G hb ho => args2 (zB hLo 0 rfl HS2.1 rfl (hb 0 (by rfl))) (zB hLo 1 rfl HS2.1 rfl (hb 1 (by rfl)))) (fun w hw => (by have hq := num_calls (t := b) key (hInb.below hw) hRb.rise; rw [hr2] at hq; exact hq))) ?_
    refine zA (zC 3 _ rfl rfl hLo rfl rfl (fun _ _ _ _ => rfl) (fun b G w hb ho => zD (.inl rfl) (zB hLo 2 rfl HS2.1 rfl (hb 2 (by rfl))))) ?_
    refine zA (zC 4 _ rfl rfl hLo rfl rfl (fun _ _ _ _ => rfl) (fun b G w hb ho => zT rfl (zB hLo 3 rfl HS2.1 rfl (hb 3 (by rfl))) (by rfl))) ?_
    refine zA (zC 5 _ rfl rfl hLo rfl rfl (fun _ _ _ _ => rfl) (fun b G w hb ho => zT rfl (zB hLo 3 rfl HS2.1 rfl (hb 3 (by rfl))) (by rfl))) ?_
    refine zA (zC 6 _ rfl rfl hLo rfl rfl (fun _ _ _ _ => rfl) (fun b G w hb ho => zD (.inr rfl) (zB hLo 4 rfl HS2.1 rfl (hb 4 (by rfl))))) ?_
    refine zA (zC 7 _ rfl rfl hLo rfl rfl (fun _ _ _ _ => rfl) (fun b G w hb ho => zD (.inr rfl) (zB hLo 5 rfl HS2.1 rfl (hb 5 (by rfl))))) ?_
    exact zF
  clear hLo
  intro G a3 w3 hS hH
  have HS3 : Sl a3 41 [(0, .agg (FR () 6 ((a).sc))), (1, .agg (FR () 6 ((b).sc))), (2, .string (key)), (3, .int .i64 (mine)), (4, .pointer (some ⟨g1_0, 0, none⟩)), (5, .pointer (some ⟨g1_1, 0, none⟩)), (8, .bool false), (9, .int .i64 (((a).tell key).1)), (10, .bool r1), (11, .int .i64 (((b).tell key).1)), (12, .bool r2)] := hS
  have HH3 : Held w w3 [⟨g1_0, (), 6, (a).sc, 25⟩, ⟨g1_1, (), 6, (b).sc, 25⟩] := hH
  clear hS hH HS2 HH2
  refine then_ ?_
  cases r1
  · skip
    cases r2
    · skip
      refine wp_seq ?_
      have hLo : LOk [(0, 25, .val (.bool false)), (1, 26, .val (.bool true)), (2, 27, .val (.bool true)), (3, 28, .val (undef)), (4, 29, .val (undef)), (5, 30, .val (undef)), (6, 31, .val (.bool true)), (7, 32, .val (.bool true)), (8, 33, .val (.bool false)), (9, 34, .val (.bool true)), (10, 35, .val (.bool true)), (11, 36, .val (undef)), (12, 37, .val (undef)), (13, 38, .val (undef)), (14, 39, .val (.bool true)), (15, 40, .val (.bool true)), (16, 8, .val (.bool true))] := lok (by rfl) (by rfl)
      refine zI (wE := w) (sz := 41) (n := 17) [0, 1, 3, 7, 15, 31, 63, 127, 255, 511, 1023, 2047, 4095, 8191, 16383, 32767, 65535] [(0, .val (.agg (FR () 6 ((a).sc)))), (1, .val (.agg (FR () 6 ((b).sc)))), (2, .val (.string (key))), (3, .val (.int .i64 (mine))), (4, .val (.pointer (some ⟨g1_0, 0, none⟩))), (5, .val (.pointer (some ⟨g1_1, 0, none⟩))), (9, .val (.int .i64 (((a).tell key).1))), (10, .val (.bool false)), (11, .val (.int .i64 (((b).tell key).1))), (12, .val (.bool false)), (8, .val (.bool true))] [(0, 25, .val (.bool false)), (1, 26, .val (.bool true)), (2, 27, .val (.bool true)), (3, 28, .val (undef)), (4, 29, .val (undef)), (5, 30, .val (undef)), (6, 31, .val (.bool true)), (7, 32, .val (.bool true)), (8, 33, .val (.bool false)), (9, 34, .val (.bool true)), (10, 35, .val (.bool true)), (11, 36, .val (undef)), (12, 37, .val (undef)), (13, 38, .val (undef)), (14, 39, .val (.bool true)), (15, 40, .val (.bool true)), (16, 8, .val (.bool true))] [⟨g1_0, none, none, (), 6, (a).sc, (a).sc, 25⟩, ⟨g1_1, none, none, (), 6, (b).sc, (b).sc, 25⟩] rfl (by rfl) HH3 rfl rfl hLo rfl HS3 (slS 0 rfl rfl (slS 1 rfl rfl (slS 2 rfl rfl (slS 3 rfl rfl (slS 4 rfl rfl (slS 5 rfl rfl (slS 7 rfl rfl (slS 8 rfl rfl (slS 9 rfl rfl (slS 10 rfl rfl (slL 16 (d := 16) rfl (trivial)))))))))))) ?_ ?_
      · show ∀ i ∈ [0, 1, 2, 3, 4, 5, 6, 7, 8, 9, 10, 11, 12, 13, 14, 15, 16], _
        refine zA (zC 0 _ rfl rfl hLo rfl rfl (fun _ _ _ _ => rfl) (fun b G w hb ho => zD (.inl rfl) (zG rfl (HS3.get 8 rfl)))) ?_
        refine zA (zC 1 _ rfl rfl hLo rfl rfl (fun _ _ _ _ => rfl) (fun b G w hb ho => yJ rfl (zB hLo 0 rfl HS3.1 rfl (hb 0 (by rfl))) (ru_not _))) ?_
        refine zA (zC 2 _ rfl rfl hLo rfl rfl (fun _ _ _ _ => rfl) (fun b G w hb ho => zD (.inl rfl) (zB hLo 1 rfl HS3.1 rfl (hb 1 (by rfl))))) ?_
        refine zA (zH 3 rfl rfl hLo rfl rfl (fun b G hb ho => zE rfl rfl rfl HS3.1 rfl (zB hLo 2 rfl HS3.1 rfl (hb 2 (by rfl))) rfl)) ?_
        refine zA (zH 4 rfl rfl hLo rfl rfl (fun b G hb ho => zE rfl rfl rfl HS3.1 rfl (zB hLo 2 rfl HS3.1 rfl (hb 2 (by rfl))) rfl)) ?_
        refine zA (zH 5 rfl rfl hLo rfl rfl (fun b G hb ho => zE rfl rfl rfl HS3.1 rfl (zB hLo 2 rfl HS3.1 rfl (hb 2 (by rfl))) rfl)) ?_
        refine zA (zC 6 _ rfl rfl hLo rfl rfl (fun _ _ _ _ => rfl) (fun b G w hb ho => zK rfl (zB hLo 2 rfl HS3.1 rfl (hb 2 (by rfl))) (rfl))) ?_
        refine zA (zC 7 _ rfl rfl hLo rfl rfl (fun _ _ _ _ => rfl) (fun b G w hb ho => zD (.inl rfl) (zB hLo 6 rfl HS3.1 rfl (hb 6 (by rfl))))) ?_
        refine zA (zC 8 _ rfl rfl hLo rfl rfl (fun b G hb ho => zE rfl rfl rfl HS3.1 rfl (zB hLo 7 rfl HS3.1 rfl (hb 7 (by rfl))) rfl) (fun b G w hb ho => zD (.inl rfl) (zG rfl (HS3.get 10 rfl)))) ?_
        refine zA (zC 9 _ rfl rfl hLo rfl rfl (fun b G hb ho => zE rfl rfl rfl HS3.1 rfl (zB hLo 7 rfl HS3.1 rfl (hb 7 (by rfl))) rfl) (fun b G w hb ho => yJ rfl (zB hLo 8 rfl HS3.1 rfl (hb 8 (by rfl))) (ru_not _))) ?_
        refine zA (zC 10 _ rfl rfl hLo rfl rfl (fun b G hb ho => zE rfl rfl rfl HS3.1 rfl (zB hLo 7 rfl HS3.1 rfl (hb 7 (by rfl))) rfl) (fun b G w hb ho => zD (.inl rfl) (zB hLo 9 rfl HS3.1 rfl (hb 9 (by rfl))))) ?_
        refine zA (zH 11 rfl rfl hLo rfl rfl (fun b G hb ho => zE rfl rfl rfl HS3.1 rfl (zB hLo 10 rfl HS3.1 rfl (hb 10 (by rfl))) rfl)) ?_
        refine zA (zH 12 rfl rfl hLo rfl rfl (fun b G hb ho => zE rfl rfl rfl HS3.1 rfl (zB hLo 10 rfl HS3.1 rfl (hb 10 (by rfl))) rfl)) ?_
        refine zA (zH 13 rfl rfl hLo rfl rfl (fun b G hb ho => zE rfl rfl rfl HS3.1 rfl (zB hLo 10 rfl HS3.1 rfl (hb 10 (by rfl))) rfl)) ?_
        refine zA (zC 14 _ rfl rfl hLo rfl rfl (fun b G hb ho => zE rfl rfl rfl HS3.1 rfl (zB hLo 7 rfl HS3.1 rfl (hb 7 (by rfl))) rfl) (fun b G w hb ho => zK rfl (zB hLo 10 rfl HS3.1 rfl (hb 10 (by rfl))) (rfl))) ?_
        refine zA (zC 15 _ rfl rfl hLo rfl rfl (fun _ _ _ _ => rfl) (fun b G w hb ho => zK rfl (zB hLo 7 rfl HS3.1 rfl (hb 7 (by rfl))) (zB hLo 14 rfl HS3.1 rfl (hb 14 (by rfl))))) ?_
        refine zA (zC 16 _ rfl rfl hLo rfl rfl (fun _ _ _ _ => rfl) (fun b G w hb ho => zD (.inr rfl) (zB hLo 15 rfl HS3.1 rfl (hb 15 (by rfl))))) ?_
        exact zF
      clear hLo
      intro G a4 w4 hS hH
      have HS4 : Sl a4 41 [(0, .agg (FR () 6 ((a).sc))), (1, .agg (FR () 6 ((b).sc))), (2, .string (key)), (3, .int .i64 (mine)), (4, .pointer (some ⟨g1_0, 0, none⟩)), (5, .pointer (some ⟨g1_1, 0, none⟩)), (9, .int .i64 (((a).tell key).1)), (10, .bool false), (11, .int .i64 (((b).tell key).1)), (12, .bool false), (8, .bool true)] := hS
      have HH4 : Held w w4 [⟨g1_0, (), 6, (a).sc, 25⟩, ⟨g1_1, (), 6, (b).sc, 25⟩] := hH
      clear hS hH HS3 HH3
      refine then_ ?_
      refine wp_ret ?_
      repeat (first | refine zP ?_ | refine zL ?_)
      exact yI rfl HS4.2.1 (HS4.get 10 rfl) ⟨may_ret (by unfold mayB; rw [hr1, hr2]; rfl), HH4.1⟩
    · skip
      obtain ⟨r3, hr3⟩ : ∃ r : Bool, (decide ((((b).tell key).1 : Int) ≤ mine)) = r := ⟨_, rfl⟩
      refine wp_seq ?_
      have hLo : LOk [(0, 25, .val (.bool false)), (1, 26, .val (.bool true)), (2, 27, .val (.bool true)), (3, 28, .val (undef)), (4, 29, .val (undef)), (5, 30, .val (undef)), (6, 31, .val (.bool true)), (7, 32, .val (.bool true)), (8, 33, .val (.bool true)), (9, 34, .val (.bool false)), (10, 35, .val (.bool false)), (11, 36, .val (.int .i64 (((b).tell key).1))), (12, 37, .val (.int .i64 (mine))), (13, 38, .val (.bool r3)), (14, 39, .val (.bool r3)), (15, 40, .val (.bool r3)), (16, 8, .val (.bool r3))] := lok (by rfl) (by rfl)
      refine zI (wE := w) (sz := 41) (n := 17) [0, 1, 3, 7, 15, 31, 63, 127, 255, 511, 1023, 2047, 4095, 8191, 16383, 32767, 65535] [(0, .val (.agg (FR () 6 ((a).sc)))), (1, .val (.agg (FR () 6 ((b).sc)))), (2, .val (.string (key))), (3, .val (.int .i64 (mine))), (4, .val (.pointer (some ⟨g1_0, 0, none⟩))), (5, .val (.pointer (some ⟨g1_1, 0, none⟩))), (9, .val (.int .i64 (((a).tell key).1))), (10, .val (.bool false)), (11, .val (.int .i64 (((b).tell key).1))), (12, .val (.bool true)), (8, .val (.bool r3))] [(0, 25, .val (.bool false)), (1, 26, .val (.bool true)), (2, 27, .val (.bool true)), (3, 28, .val (undef)), (4, 29, .val (undef)), (5, 30, .val (undef)), (6, 31, .val (.bool true)), (7, 32, .val (.bool true)), (8, 33, .val (.bool true)), (9, 34, .val (.bool false)), (10, 35, .val (.bool false)), (11, 36, .val (.int .i64 (((b).tell key).1))), (12, 37, .val (.int .i64 (mine))), (13, 38, .val (.bool r3)), (14, 39, .val (.bool r3)), (15, 40, .val (.bool r3)), (16, 8, .val (.bool r3))] [⟨g1_0, none, none, (), 6, (a).sc, (a).sc, 25⟩, ⟨g1_1, none, none, (), 6, (b).sc, (b).sc, 25⟩] rfl (by rfl) HH3 rfl rfl hLo rfl HS3 (slS 0 rfl rfl (slS 1 rfl rfl (slS 2 rfl rfl (slS 3 rfl rfl (slS 4 rfl rfl (slS 5 rfl rfl (slS 7 rfl rfl (slS 8 rfl rfl (slS 9 rfl rfl (slS 10 rfl rfl (slL 16 (d := 16) rfl (trivial)))))))))))) ?_ ?_
      · show ∀ i ∈ [0, 1, 2, 3, 4, 5, 6, 7, 8, 9, 10, 11, 12, 13, 14, 15, 16], _
        refine zA (zC 0 _ rfl rfl hLo rfl rfl (fun _ _ _ _ => rfl) (fun b G w hb ho => zD (.inl rfl) (zG rfl (HS3.get 8 rfl)))) ?_
        refine zA (zC 1 _ rfl rfl hLo rfl rfl (fun _ _ _ _ => rfl) (fun b G w hb ho => yJ rfl (zB hLo 0 rfl HS3.1 rfl (hb 0 (by rfl))) (ru_not _))) ?_
        refine zA (zC 2 _ rfl rfl hLo rfl rfl (fun _ _ _ _ => rfl) (fun b G w hb ho => zD (.inl rfl) (zB hLo 1 rfl HS3.1 rfl (hb 1 (by rfl))))) ?_
        refine zA (zH 3 rfl rfl hLo rfl rfl (fun b G hb ho => zE rfl rfl rfl HS3.1 rfl (zB hLo 2 rfl HS3.1 rfl (hb 2 (by rfl))) rfl)) ?_
        refine zA (zH 4 rfl rfl hLo rfl rfl (fun b G hb ho => zE rfl rfl rfl HS3.1 rfl (zB hLo 2 rfl HS3.1 rfl (hb 2 (by rfl))) rfl)) ?_
        refine zA (zH 5 rfl rfl hLo rfl rfl (fun b G hb ho => zE rfl rfl rfl HS3.1 rfl (zB hLo 2 rfl HS3.1 rfl (hb 2 (by rfl))) rfl)) ?_
        refine zA (zC 6 _ rfl rfl hLo rfl rfl (fun _ _ _ _ => rfl) (fun b G w hb ho => zK rfl (zB hLo 2 rfl HS3.1 rfl (hb 2 (by rfl))) (rfl))) ?_
        refine zA (zC 7 _ rfl rfl hLo rfl rfl (fun _ _ _ _ => rfl) (fun b G w hb ho => zD (.inl rfl) (zB hLo 6 rfl HS3.1 rfl (hb 6 (by rfl))))) ?_
        refine zA (zC 8 _ rfl rfl hLo rfl rfl (fun b G hb ho => zE rfl rfl rfl HS3.1 rfl (zB hLo 7 rfl HS3.1 rfl (hb 7 (by rfl))) rfl) (fun b G w hb ho => zD (.inl rfl) (zG rfl (HS3.get 10 rfl)))) ?_
        refine zA (zC 9 _ rfl rfl hLo rfl rfl (fun b G hb ho => zE rfl rfl rfl HS3.1 rfl (zB hLo 7 rfl HS3.1 rfl (hb 7 (by rfl))) rfl) (fun b G w hb ho => yJ rfl (zB hLo 8 rfl HS3.1 rfl (hb 8 (by rfl))) (ru_not _))) ?_
        refine zA (zC 10 _ rfl rfl hLo rfl rfl (fun b G hb ho => zE rfl rfl rfl HS3.1 rfl (zB hLo 7 rfl HS3.1 rfl (hb 7 (by rfl))) rfl) (fun b G w hb ho => zD (.inl rfl) (zB hLo 9 rfl HS3.1 rfl (hb 9 (by rfl))))) ?_
        refine zA (zC 11 _ rfl rfl hLo rfl rfl (fun b G hb ho => zE rfl rfl rfl HS3.1 rfl (zB hLo 10 rfl HS3.1 rfl (hb 10 (by rfl))) rfl) (fun b G w hb ho => zD (.inl rfl) (zG rfl (HS3.get 9 rfl)))) ?_
        refine zA (zC 12 _ rfl rfl hLo rfl rfl (fun b G hb ho => zE rfl rfl rfl HS3.1 rfl (zB hLo 10 rfl HS3.1 rfl (hb 10 (by rfl))) rfl) (fun b G w hb ho => zD (.inl rfl) (zG rfl (HS3.get 3 rfl)))) ?_
        refine zA (zC 13 _ rfl rfl hLo rfl rfl (fun b G hb ho => zE rfl rfl rfl HS3.1 rfl (zB hLo 10 rfl HS3.1 rfl (hb 10 (by rfl))) rfl) (fun b G w hb ho => zJ rfl (zB hLo 11 rfl HS3.1 rfl (hb 11 (by rfl))) (zB hLo 12 rfl HS3.1 rfl (hb 12 (by rfl))) (rb_leq hr3 _ _ _))) ?_
        refine zA (zC 14 _ rfl rfl hLo rfl rfl (fun b G hb ho => zE rfl rfl rfl HS3.1 rfl (zB hLo 7 rfl HS3.1 rfl (hb 7 (by rfl))) rfl) (fun b G w hb ho => zK rfl (zB hLo 10 rfl HS3.1 rfl (hb 10 (by rfl))) (zB hLo 13 rfl HS3.1 rfl (hb 13 (by rfl))))) ?_
        refine zA (zC 15 _ rfl rfl hLo rfl rfl (fun _ _ _ _ => rfl) (fun b G w hb ho => zK rfl (zB hLo 7 rfl HS3.1 rfl (hb 7 (by rfl))) (zB hLo 14 rfl HS3.1 rfl (hb 14 (by rfl))))) ?_
        refine zA (zC 16 _ rfl rfl hLo rfl rfl (fun _ _ _ _ => rfl) (fun b G w hb ho => zD (.inr rfl) (zB hLo 15 rfl HS3.1 rfl (hb 15 (by rfl))))) ?_
        exact zF
      clear hLo
      intro G a5 w5 hS hH
      have HS5 : Sl a5 41 [(0, .agg (FR () 6 ((a).sc))), (1, .agg (FR () 6 ((b).sc))), (2, .string (key)), (3, .int .i64 (mine)), (4, .pointer (some ⟨g1_0, 0, none⟩)), (5, .pointer (some ⟨g1_1, 0, none⟩)), (9, .int .i64 (((a).tell key).1)), (10, .bool false), (11, .int .i64 (((b).tell key).1)), (12, .bool true), (8, .bool r3)] := hS
      have HH5 : Held w w5 [⟨g1_0, (), 6, (a).sc, 25⟩, ⟨g1_1, (), 6, (b).sc, 25⟩] := hH
      clear hS hH HS3 HH3
      refine then_ ?_
      refine wp_ret ?_
      repeat (first | refine zP ?_ | refine zL ?_)
      exact yI rfl HS5.2.1 (HS5.get 10 rfl) ⟨may_ret (by unfold mayB; rw [hr1, hr2, hr3]; rfl), HH5.1⟩
  · skip
    obtain ⟨r4, hr4⟩ : ∃ r : Bool, (decide ((((a).tell key).1 : Int) ≤ mine)) = r := ⟨_, rfl⟩
    cases r4
    · skip
      refine wp_seq ?_
      have hLo : LOk [(0, 25, .val (.bool true)), (1, 26, .val (.bool false)), (2, 27, .val (.bool false)), (3, 28, .val (.int .i64 (((a).tell key).1))), (4, 29, .val (.int .i64 (mine))), (5, 30, .val (.bool false)), (6, 31, .val (.bool false)), (7, 32, .val (.bool false)), (8, 33, .val (undef)), (9, 34, .val (undef)), (10, 35, .val (undef)), (11, 36, .val (undef)), (12, 37, .val (undef)), (13, 38, .val (undef)), (14, 39, .val (undef)), (15, 40, .val (.bool false)), (16, 8, .val (.bool false))] := lok (by rfl) (by rfl)
      refine zI (wE := w) (sz := 41) (n := 17) [0, 1, 3, 7, 15, 31, 63, 127, 255, 511, 1023, 2047, 4095, 8191, 16383, 32767, 65535] [(0, .val (.agg (FR () 6 ((a).sc)))), (1, .val (.agg (FR () 6 ((b).sc)))), (2, .val (.string (key))), (3, .val (.int .i64 (mine))), (4, .val (.pointer (some ⟨g1_0, 0, none⟩))), (5, .val (.pointer (some ⟨g1_1, 0, none⟩))), (9, .val (.int .i64 (((a).tell key).1))), (10, .val (.bool true)), (11, .val (.int .i64 (((b).tell key).1))), (12, .val (.bool r2)), (8, .val (.bool false))] [(0, 25, .val (.bool true)), (1, 26, .val (.bool false)), (2, 27, .val (.bool false)), (3, 28, .val (.int .i64 (((a).tell key).1))), (4, 29, .val (.int .i64 (mine))), (5, 30, .val (.bool false)), (6, 31, .val (.bool false)), (7, 32, .val (.bool false)), (8, 33, .val (undef)), (9, 34, .val (undef)), (10, 35, .val (undef)), (11, 36, .val (undef)), (12, 37, .val (undef)), (13, 38, .val (undef)), (14, 39, .val (undef)), (15, 40, .val (.bool false)), (16, 8, .val (.bool false))] [⟨g1_0, none, none, (), 6, (a).sc, (a).sc, 25⟩, ⟨g1_1, none, none, (), 6, (b).sc, (b).sc, 25⟩] rfl (by rfl) HH3 rfl rfl hLo rfl HS3 (slS 0 rfl rfl (slS 1 rfl rfl (slS 2 rfl rfl (slS 3 rfl rfl (slS 4 rfl rfl (slS 5 rfl rfl (slS 7 rfl rfl (slS 8 rfl rfl (slS 9 rfl rfl (slS 10 rfl rfl (slL 16 (d := 16) rfl (trivial)))))))))))) ?_ ?_
      · show ∀ i ∈ [0, 1, 2, 3, 4, 5, 6, 7, 8, 9, 10, 11, 12, 13, 14, 15, 16], _
        refine zA (zC 0 _ rfl rfl hLo rfl rfl (fun _ _ _ _ => rfl) (fun b G w hb ho => zD (.inl rfl) (zG rfl (HS3.get 8 rfl)))) ?_
        refine zA (zC 1 _ rfl rfl hLo rfl rfl (fun _ _ _ _ => rfl) (fun b G w hb ho => yJ rfl (zB hLo 0 rfl HS3.1 rfl (hb 0 (by rfl))) (ru_not _))) ?_
        refine zA (zC 2 _ rfl rfl hLo rfl rfl (fun _ _ _ _ => rfl) (fun b G w hb ho => zD (.inl rfl) (zB hLo 1 rfl HS3.1 rfl (hb 1 (by rfl))))) ?_
        refine zA (zC 3 _ rfl rfl hLo rfl rfl (fun b G hb ho => zE rfl rfl rfl HS3.1 rfl (zB hLo 2 rfl HS3.1 rfl (hb 2 (by rfl))) rfl) (fun b G w hb ho => zD (.inl rfl) (zG rfl (HS3.get 7 rfl)))) ?_
        refine zA (zC 4 _ rfl rfl hLo rfl rfl (fun b G hb ho => zE rfl rfl rfl HS3.1 rfl (zB hLo 2 rfl HS3.1 rfl (hb 2 (by rfl))) rfl) (fun b G w hb ho => zD (.inl rfl) (zG rfl (HS3.get 3 rfl)))) ?_
        refine zA (zC 5 _ rfl rfl hLo rfl rfl (fun b G hb ho => zE rfl rfl rfl HS3.1 rfl (zB hLo 2 rfl HS3.1 rfl (hb 2 (by rfl))) rfl) (fun b G w hb ho => zJ rfl (zB hLo 3 rfl HS3.1 rfl (hb 3 (by rfl))) (zB hLo 4 rfl HS3.1 rfl (hb 4 (by rfl))) (rb_leq hr4 _ _ _))) ?_
        refine zA (zC 6 _ rfl rfl hLo rfl rfl (fun _ _ _ _ => rfl) (fun b G w hb ho => zK rfl (zB hLo 2 rfl HS3.1 rfl (hb 2 (by rfl))) (zB hLo 5 rfl HS3.1 rfl (hb 5 (by rfl))))) ?_
        refine zA (zC 7 _ rfl rfl hLo rfl rfl (fun _ _ _ _ => rfl) (fun b G w hb ho => zD (.inl rfl) (zB hLo 6 rfl HS3.1 rfl (hb 6 (by rfl))))) ?_
        refine zA (zH 8 rfl rfl hLo rfl rfl (fun b G hb ho => zE rfl rfl rfl HS3.1 rfl (zB hLo 7 rfl HS3.1 rfl (hb 7 (by rfl))) rfl)) ?_
        refine zA (zH 9 rfl rfl hLo rfl rfl (fun b G hb ho => zE rfl rfl rfl HS3.1 rfl (zB hLo 7 rfl HS3.1 rfl (hb 7 (by rfl))) rfl)) ?_
        refine zA (zH 10 rfl rfl hLo rfl rfl (fun b G hb ho => zE rfl rfl rfl HS3.1 rfl (zB hLo 7 rfl HS3.1 rfl (hb 7 (by rfl))) rfl)) ?_
        refine zA (zH 11 rfl rfl hLo rfl rfl (fun b G hb ho => yK rfl rfl rfl HS3.1 rfl (zB hLo 10 rfl HS3.1 rfl (hb 10 (by rfl))))) ?_
        refine zA (zH 12 rfl rfl hLo rfl rfl (fun b G hb ho => yK rfl rfl rfl HS3.1 rfl (zB hLo 10 rfl HS3.1 rfl (hb 10 (by rfl))))) ?_
        refine zA (zH 13 rfl rfl hLo rfl rfl (fun b G hb ho => yK rfl rfl rfl HS3.1 rfl (zB hLo 10 rfl HS3.1 rfl (hb 10 (by rfl))))) ?_
        refine zA (zH 14 rfl rfl hLo rfl rfl (fun b G hb ho => zE rfl rfl rfl HS3.1 rfl (zB hLo 7 rfl HS3.1 rfl (hb 7 (by rfl))) rfl)) ?_
        refine zA (zC 15 _ rfl rfl hLo rfl rfl (fun _ _ _ _ => rfl) (fun b G w hb ho => zK rfl (zB hLo 7 rfl HS3.1 rfl (hb 7 (by rfl))) (rfl))) ?_
        refine zA (zC 16 _ rfl rfl hLo rfl rfl (fun _ _ _ _ => rfl) (fun b G w hb ho => zD (.inr rfl) (zB hLo 15 rfl HS3.1 rfl (hb 15 (by rfl))))) ?_
        exact zF
      clear hLo
      intro G a6 w6 hS hH
      have HS6 : Sl a6 41 [(0, .agg (FR () 6 ((a).sc))), (1, .agg (FR () 6 ((b).sc))), (2, .string (key)), (3, .int .i64 (mine)), (4, .pointer (some ⟨g1_0, 0, none⟩)), (5, .pointer (some ⟨g1_1, 0, none⟩)), (9, .int .i64 (((a).tell key).1)), (10, .bool true), (11, .int .i64 (((b).tell key).1)), (12, .bool r2), (8, .bool false)] := hS
      have HH6 : Held w w6 [⟨g1_0, (), 6, (a).sc, 25⟩, ⟨g1_1, (), 6, (b).sc, 25⟩] := hH
      clear hS hH HS3 HH3
      refine then_ ?_
      refine wp_ret ?_
      repeat (first | refine zP ?_ | refine zL ?_)
      exact yI rfl HS6.2.1 (HS6.get 10 rfl) ⟨may_ret (by unfold mayB; rw [hr1, hr2, hr4]; rfl), HH6.1⟩
    · skip
      cases r2
      · skip
        refine wp_seq ?_
        have hLo : LOk [(0, 25, .val (.bool true)), (1, 26, .val (.bool false)), (2, 27, .val (.bool false)), (3, 28, .val (.int .i64 (((a).tell key).1))), (4, 29, .val (.int .i64 (mine))), (5, 30, .val (.bool true)), (6, 31, .val (.bool true)), (7, 32, .val (.bool true)), (8, 33, .val (.bool false)), (9, 34, .val (.bool true)), (10, 35, .val (.bool true)), (11, 36, .val (undef)), (12, 37, .val (undef)), (13, 38, .val (undef)), (14, 39, .val (.bool true)), (15, 40, .val (.bool true)), (16, 8, .val (.bool true))] := lok (by rfl) (by rfl)
        refine zI (wE := w) (sz := 41) (n := 17) [0, 1, 3, 7, 15, 31, 63, 127, 255, 511, 1023, 2047, 4095, 8191, 16383, 32767, 65535] [(0, .val (.agg (FR () 6 ((a).sc)))), (1, .val (.agg (FR () 6 ((b).sc)))), (2, .val (.string (key))), (3, .val (.int .i64 (mine))), (4, .val (.pointer (some ⟨g1_0, 0, none⟩))), (5, .val (.pointer (some ⟨g1_1, 0, none⟩))), (9, .val (.int .i64 (((a).tell key).1))), (10, .val (.bool true)), (11, .val (.int .i64 (((b).tell key).1))), (12, .val (.bool false)), (8, .val (.bool true))] [(0, 25, .val (.bool true)), (1, 26, .val (.bool false)), (2, 27, .val (.bool false)), (3, 28, .val (.int .i64 (((a).tell key).1))), (4, 29, .val (.int .i64 (mine))), (5, 30, .val (.bool true)), (6, 31, .val (.bool true)), (7, 32, .val (.bool true)), (8, 33, .val (.bool false)), (9, 34, .val (.bool true)), (10, 35, .val (.bool true)), (11, 36, .val (undef)), (12, 37, .val (undef)), (13, 38, .val (undef)), (14, 39, .val (.bool true)), (15, 40, .val (.bool true)), (16, 8, .val (.bool true))] [⟨g1_0, none, none, (), 6, (a).sc, (a).sc, 25⟩, ⟨g1_1, none, none, (), 6, (b).sc, (b).sc, 25⟩] rfl (by rfl) HH3 rfl rfl hLo rfl HS3 (slS 0 rfl rfl (slS 1 rfl rfl (slS 2 rfl rfl (slS 3 rfl rfl (slS 4 rfl rfl (slS 5 rfl rfl (slS 7 rfl rfl (slS 8 rfl rfl (slS 9 rfl rfl (slS 10 rfl rfl (slL 16 (d := 16) rfl (trivial)))))))))))) ?_ ?_
        · show ∀ i ∈ [0, 1, 2, 3, 4, 5, 6, 7, 8, 9, 10, 11, 12, 13, 14, 15, 16], _
          refine zA (zC 0 _ rfl rfl hLo rfl rfl (fun _ _ _ _ => rfl) (fun b G w hb ho => zD (.inl rfl) (zG rfl (HS3.get 8 rfl)))) ?_
          refine zA (zC 1 _ rfl rfl hLo rfl rfl (fun _ _ _ _ => rfl) (fun b G w hb ho => yJ rfl (zB hLo 0 rfl HS3.1 rfl (hb 0 (by rfl))) (ru_not _))) ?_
          refine zA (zC 2 _ rfl rfl hLo rfl rfl (fun _ _ _ _ => rfl) (fun b G w hb ho => zD (.inl rfl) (zB hLo 1 rfl HS3.1 rfl (hb 1 (by rfl))))) ?_
          refine zA (zC 3 _ rfl rfl hLo rfl rfl (fun b G hb ho => zE rfl rfl rfl HS3.1 rfl (zB hLo 2 rfl HS3.1 rfl (hb 2 (by rfl))) rfl) (fun b G w hb ho => zD (.inl rfl) (zG rfl (HS3.get 7 rfl)))) ?_
          refine zA (zC 4 _ rfl rfl hLo rfl rfl (fun b G hb ho => zE rfl rfl rfl HS3.1 rfl (zB hLo 2 rfl HS3.1 rfl (hb 2 (by rfl))) rfl) (fun b G w hb ho => zD (.inl rfl) (zG rfl (HS3.get 3 rfl)))) ?_
          refine zA (zC 5 _ rfl rfl hLo rfl rfl (fun b G hb ho => zE rfl rfl rfl HS3.1 rfl (zB hLo 2 rfl HS3.1 rfl (hb 2 (by rfl))) rfl) (fun b G w hb ho => zJ rfl (zB hLo 3 rfl HS3.1 rfl (hb 3 (by rfl))) (zB hLo 4 rfl HS3.1 rfl (hb 4 (by rfl))) (rb_leq hr4 _ _ _))) ?_
          refine zA (zC 6 _ rfl rfl hLo rfl rfl (fun _ _ _ _ => rfl) (fun b G w hb ho => zK rfl (zB hLo 2 rfl HS3.1 rfl (hb 2 (by rfl))) (zB hLo 5 rfl HS3.1 rfl (hb 5 (by rfl))))) ?_
          refine zA (zC 7 _ rfl rfl hLo rfl rfl (fun _ _ _ _ => rfl) (fun b G w hb ho => zD (.inl rfl) (zB hLo 6 rfl HS3.1 rfl (hb 6 (by rfl))))) ?_
          refine zA (zC 8 _ rfl rfl hLo rfl rfl (fun b G hb ho => zE rfl rfl rfl HS3.1 rfl (zB hLo 7 rfl HS3.1 rfl (hb 7 (by rfl))) rfl) (fun b G w hb ho => zD (.inl rfl) (zG rfl (HS3.get 10 rfl)))) ?_
          refine zA (zC 9 _ rfl rfl hLo rfl rfl (fun b G hb ho => zE rfl rfl rfl HS3.1 rfl (zB hLo 7 rfl HS3.1 rfl (hb 7 (by rfl))) rfl) (fun b G w hb ho => yJ rfl (zB hLo 8 rfl HS3.1 rfl (hb 8 (by rfl))) (ru_not _))) ?_
          refine zA (zC 10 _ rfl rfl hLo rfl rfl (fun b G hb ho => zE rfl rfl rfl HS3.1 rfl (zB hLo 7 rfl HS3.1 rfl (hb 7 (by rfl))) rfl) (fun b G w hb ho => zD (.inl rfl) (zB hLo 9 rfl HS3.1 rfl (hb 9 (by rfl))))) ?_
          refine zA (zH 11 rfl rfl hLo rfl rfl (fun b G hb ho => zE rfl rfl rfl HS3.1 rfl (zB hLo 10 rfl HS3.1 rfl (hb 10 (by rfl))) rfl)) ?_
          refine zA (zH 12 rfl rfl hLo rfl rfl (fun b G hb ho => zE rfl rfl rfl HS3.1 rfl (zB hLo 10 rfl HS3.1 rfl (hb 10 (by rfl))) rfl)) ?_
          refine zA (zH 13 rfl rfl hLo rfl rfl (fun b G hb ho => zE rfl rfl rfl HS3.1 rfl (zB hLo 10 rfl HS3.1 rfl (hb 10 (by rfl))) rfl)) ?_
          refine zA (zC 14 _ rfl rfl hLo rfl rfl (fun b G hb ho => zE rfl rfl rfl HS3.1 rfl (zB hLo 7 rfl HS3.1 rfl (hb 7 (by rfl))) rfl) (fun b G w hb ho => zK rfl (zB hLo 10 rfl HS3.1 rfl (hb 10 (by rfl))) (rfl))) ?_
          refine zA (zC 15 _ rfl rfl hLo rfl rfl (fun _ _ _ _ => rfl) (fun b G w hb ho => zK rfl (zB hLo 7 rfl HS3.1 rfl (hb 7 (by rfl))) (zB hLo 14 rfl HS3.1 rfl (hb 14 (by rfl))))) ?_
          refine zA (zC 16 _ rfl rfl hLo rfl rfl (fun _ _ _ _ => rfl) (fun b G w hb ho => zD (.inr rfl) (zB hLo 15 rfl HS3.1 rfl (hb 15 (by rfl))))) ?_
          exact zF
        clear hLo
        intro G a7 w7 hS hH
        have HS7 : Sl a7 41 [(0, .agg (FR () 6 ((a).sc))), (1, .agg (FR () 6 ((b).sc))), (2, .string (key)), (3, .int .i64 (mine)), (4, .pointer (some ⟨g1_0, 0, none⟩)), (5, .pointer (some ⟨g1_1, 0, none⟩)), (9, .int .i64 (((a).tell key).1)), (10, .bool true), (11, .int .i64 (((b).tell key).1)), (12, .bool false), (8, .bool true)] := hS
        have HH7 : Held w w7 [⟨g1_0, (), 6, (a).sc, 25⟩, ⟨g1_1, (), 6, (b).sc, 25⟩] := hH
        clear hS hH HS3 HH3
        refine then_ ?_
        refine wp_ret ?_
        repeat (first | refine zP ?_ | refine zL ?_)
        exact yI rfl HS7.2.1 (HS7.get 10 rfl) ⟨may_ret (by unfold mayB; rw [hr1, hr2, hr4]; rfl), HH7.1⟩
      · skip
        obtain ⟨r5, hr5⟩ : ∃ r : Bool, (decide ((((b).tell key).1 : Int) ≤ mine)) = r := ⟨_, rfl⟩
        refine wp_seq ?_
        have hLo : LOk [(0, 25, .val (.bool true)), (1, 26, .val (.bool false)), (2, 27, .val (.bool false)), (3, 28, .val (.int .i64 (((a).tell key).1))), (4, 29, .val (.int .i64 (mine))), (5, 30, .val (.bool true)), (6, 31, .val (.bool true)), (7, 32, .val (.bool true)), (8, 33, .val (.bool true)), (9, 34, .val (.bool false)), (10, 35, .val (.bool false)), (11, 36, .val (.int .i64 (((b).tell key).1))), (12, 37, .val (.int .i64 (mine))), (13, 38, .val (.bool r5)), (14, 39, .val (.bool r5)), (15, 40, .val (.bool r5)), (16, 8, .val (.bool r5))] := lok (by rfl) (by rfl)
        refine zI (wE := w) (sz := 41) (n := 17) [0, 1, 3, 7, 15, 31, 63, 127, 255, 511, 1023, 2047, 4095, 8191, 16383, 32767, 65535] [(0, .val (.agg (FR () 6 ((a).sc)))), (1, .val (.agg (FR () 6 ((b).sc)))), (2, .val (.string (key))), (3, .val (.int .i64 (mine))), (4, .val (.pointer (some ⟨g1_0, 0, none⟩))), (5, .val (.pointer (some ⟨g1_1, 0, none⟩))), (9, .val (.int .i64 (((a).tell key).1))), (10, .val (.bool true)), (11, .val (.int .i64 (((b).tell key).1))), (12, .val (.bool true)), (8, .val (.bool r5))] [(0, 25, .val (.bool true)), (1, 26, .val (.bool false)), (2, 27, .val (.bool false)), (3, 28, .val (.int .i64 (((a).tell key).1))), (4, 29, .val (.int .i64 (mine))), (5, 30, .val (.bool true)), (6, 31, .val (.bool true)), (7, 32, .val (.bool true)), (8, 33, .val (.bool true)), (9, 34, .val (.bool false)), (10, 35, .val (.bool false)), (11, 36, .val (.int .i64 (((b).tell key).1))), (12, 37, .val (.int .i64 (mine))), (13, 38, .val (.bool r5)), (14, 39, .val (.bool r5)), (15, 40, .val (.bool r5)), (16, 8, .val (.bool r5))] [⟨g1_0, none, none, (), 6, (a).sc, (a).sc, 25⟩, ⟨g1_1, none, none, (), 6, (b).sc, (b).sc, 25⟩] rfl (by rfl) HH3 rfl rfl hLo rfl HS3 (slS 0 rfl rfl (slS 1 rfl rfl (slS 2 rfl rfl (slS 3 rfl rfl (slS 4 rfl rfl (slS 5 rfl rfl (slS 7 rfl rfl (slS 8 rfl rfl (slS 9 rfl rfl (slS 10 rfl rfl (slL 16 (d := 16) rfl (trivial)))))))))))) ?_ ?_
        · show ∀ i ∈ [0, 1, 2, 3, 4, 5, 6, 7, 8, 9, 10, 11, 12, 13, 14, 15, 16], _
          refine zA (zC 0 _ rfl rfl hLo rfl rfl (fun _ _ _ _ => rfl) (fun b G w hb ho => zD (.inl rfl) (zG rfl (HS3.get 8 rfl)))) ?_
          refine zA (zC 1 _ rfl rfl hLo rfl rfl (fun _ _ _ _ => rfl) (fun b G w hb ho => yJ rfl (zB hLo 0 rfl HS3.1 rfl (hb 0 (by rfl))) (ru_not _))) ?_
          refine zA (zC 2 _ rfl rfl hLo rfl rfl (fun _ _ _ _ => rfl) (fun b G w hb ho => zD (.inl rfl) (zB hLo 1 rfl HS3.1 rfl (hb 1 (by rfl))))) ?_
          refine zA (zC 3 _ rfl rfl hLo rfl rfl (fun b G hb ho => zE rfl rfl rfl HS3.1 rfl (zB hLo 2 rfl HS3.1 rfl (hb 2 (by rfl))) rfl) (fun b G w hb ho => zD (.inl rfl) (zG rfl (HS3.get 7 rfl)))) ?_
          refine zA (zC 4 _ rfl rfl hLo rfl rfl (fun b G hb ho => zE rfl rfl rfl HS3.1 rfl (zB hLo 2 rfl HS3.1 rfl (hb 2 (by rfl))) rfl) (fun b G w hb ho => zD (.inl rfl) (zG rfl (HS3.get 3 rfl)))) ?_
          refine zA (zC 5 _ rfl rfl hLo rfl rfl (fun b G hb ho => zE rfl rfl rfl HS3.1 rfl (zB hLo 2 rfl HS3.1 rfl (hb 2 (by rfl))) rfl) (fun b G w hb ho => zJ rfl (zB hLo 3 rfl HS3.1 rfl (hb 3 (by rfl))) (zB hLo 4 rfl HS3.1 rfl (hb 4 (by rfl))) (rb_leq hr4 _ _ _))) ?_
          refine zA (zC 6 _ rfl rfl hLo rfl rfl (fun _ _ _ _ => rfl) (fun b G w hb ho => zK rfl (zB hLo 2 rfl HS3.1 rfl (hb 2 (by rfl))) (zB hLo 5 rfl HS3.1 rfl (hb 5 (by rfl))))) ?_
          refine zA (zC 7 _ rfl rfl hLo rfl rfl (fun _ _ _ _ => rfl) (fun b G w hb ho => zD (.inl rfl) (zB hLo 6 rfl HS3.1 rfl (hb 6 (by rfl))))) ?_
          refine zA (zC 8 _ rfl rfl hLo rfl rfl (fun b G hb ho => zE rfl rfl rfl HS3.1 rfl (zB hLo 7 rfl HS3.1 rfl (hb 7 (by rfl))) rfl) (fun b G w hb ho => zD (.inl rfl) (zG rfl (HS3.get 10 rfl)))) ?_
          refine zA (zC 9 _ rfl rfl hLo rfl rfl (fun b G hb ho => zE rfl rfl rfl HS3.1 rfl (zB hLo 7 rfl HS3.1 rfl (hb 7 (by rfl))) rfl) (fun b G w hb ho => yJ rfl (zB hLo 8 rfl HS3.1 rfl (hb 8 (by rfl))) (ru_not _))) ?_
          refine zA (zC 10 _ rfl rfl hLo rfl rfl (fun b G hb ho => zE rfl rfl rfl HS3.1 rfl (zB hLo 7 rfl HS3.1 rfl (hb 7 (by rfl))) rfl) (fun b G w hb ho => zD (.inl rfl) (zB hLo 9 rfl HS3.1 rfl (hb 9 (by rfl))))) ?_
          refine zA (zC 11 _ rfl rfl hLo rfl rfl (fun b G hb ho => zE rfl rfl rfl HS3.1 rfl (zB hLo 10 rfl HS3.1 rfl (hb 10 (by rfl))) rfl) (fun b G w hb ho => zD (.inl rfl) (zG rfl (HS3.get 9 rfl)))) ?_
          refine zA (zC 12 _ rfl rfl hLo rfl rfl (fun b G hb ho => zE rfl rfl rfl HS3.1 rfl (zB hLo 10 rfl HS3.1 rfl (hb 10 (by rfl))) rfl) (fun b G w hb ho => zD (.inl rfl) (zG rfl (HS3.get 3 rfl)))) ?_
          refine zA (zC 13 _ rfl rfl hLo rfl rfl (fun b G hb ho => zE rfl rfl rfl HS3.1 rfl (zB hLo 10 rfl HS3.1 rfl (hb 10 (by rfl))) rfl) (fun b G w hb ho => zJ rfl (zB hLo 11 rfl HS3.1 rfl (hb 11 (by rfl))) (zB hLo 12 rfl HS3.1 rfl (hb 12 (by rfl))) (rb_leq hr5 _ _ _))) ?_
          refine zA (zC 14 _ rfl rfl hLo rfl rfl (fun b G hb ho => zE rfl rfl rfl HS3.1 rfl (zB hLo 7 rfl HS3.1 rfl (hb 7 (by rfl))) rfl) (fun b G w hb ho => zK rfl (zB hLo 10 rfl HS3.1 rfl (hb 10 (by rfl))) (zB hLo 13 rfl HS3.1 rfl (hb 13 (by rfl))))) ?_
          refine zA (zC 15 _ rfl rfl hLo rfl rfl (fun _ _ _ _ => rfl) (fun b G w hb ho => zK rfl (zB hLo 7 rfl HS3.1 rfl (hb 7 (by rfl))) (zB hLo 14 rfl HS3.1 rfl (hb 14 (by rfl))))) ?_
          refine zA (zC 16 _ rfl rfl hLo rfl rfl (fun _ _ _ _ => rfl) (fun b G w hb ho => zD (.inr rfl) (zB hLo 15 rfl HS3.1 rfl (hb 15 (by rfl))))) ?_
          exact zF
        clear hLo
        intro G a8 w8 hS hH
        have HS8 : Sl a8 41 [(0, .agg (FR () 6 ((a).sc))), (1, .agg (FR () 6 ((b).sc))), (2, .string (key)), (3, .int .i64 (mine)), (4, .pointer (some ⟨g1_0, 0, none⟩)), (5, .pointer (some ⟨g1_1, 0, none⟩)), (9, .int .i64 (((a).tell key).1)), (10, .bool true), (11, .int .i64 (((b).tell key).1)), (12, .bool true), (8, .bool r5)] := hS
        have HH8 : Held w w8 [⟨g1_0, (), 6, (a).sc, 25⟩, ⟨g1_1, (), 6, (b).sc, 25⟩] := hH
        clear hS hH HS3 HH3
        refine then_ ?_
        refine wp_ret ?_
        repeat (first | refine zP ?_ | refine zL ?_)
        exact yI rfl HS8.2.1 (HS8.get 10 rfl) ⟨may_ret (by unfold mayB; rw [hr1, hr2, hr4, hr5]; rfl), HH8.1⟩
theorem turns_calls {w : World} {a b : T} (key : ByteArray) (mine : Int) (below : Bool) (hIna : In w a) (hInb : In w b) : Calls Tryd.prog 36 #[.agg (FR () 6 ((a).sc)), .agg (FR () 6 ((b).sc)), .string (key), .int .i64 (mine), .bool below] w fun e w' => e = .returned (.bool (turnsB a b key mine below)) ∧ Below w.heap.size w w' := by
  refine enter_ 56 Tryd.func36 rfl rfl (fun a0 hS => ?_)
  have HS0 : Sl a0 56 [(0, .agg (FR () 6 ((a).sc))), (1, .agg (FR () 6 ((b).sc))), (2, .string (key)), (3, .int .i64 (mine)), (4, .bool below)] := hS
  have HH0 : Held w w [] := Held.first w
  clear hS
  refine wp_seq ?_
  have hLo : LOk [(0, 5, .new 0 (fun g => .pointer (some ⟨g, 0, none⟩))), (1, 6, .new 1 (fun g => .pointer (some ⟨g, 0, none⟩))), (2, 10, .val (.bool false))] := lok (by rfl) (by rfl)
  refine zI (wE := w) (sz := 56) (n := 3) [0, 1, 3] [(0, .val (.agg (FR () 6 ((a).sc)))), (1, .val (.agg (FR () 6 ((b).sc)))), (2, .val (.string (key))), (3, .val (.int .i64 (mine))), (4, .val (.bool below)), (5, .new 0 (fun g => .pointer (some ⟨g, 0, none⟩))), (6, .new 1 (fun g => .pointer (some ⟨g, 0, none⟩))), (10, .val (.bool false))] [(0, 5, .new 0 (fun g => .pointer (some ⟨g, 0, none⟩))), (1, 6, .new 1 (fun g => .pointer (some ⟨g, 0, none⟩))), (2, 10, .val (.bool false))] [⟨0, some 0, none, (), 6, (a).sc, (a).sc, 25⟩, ⟨0, some 1, none, (), 6, (b).sc, (b).sc, 25⟩] rfl (by rfl) HH0 rfl rfl hLo rfl HS0 (slS 0 rfl rfl (slS 1 rfl rfl (slS 2 rfl rfl (slS 3 rfl rfl (slS 4 rfl rfl (slL 0 (d := 0) rfl (slL 1 (d := 1) rfl (slL 2 (d := 2) rfl (trivial))))))))) ?_ ?_
  · show ∀ i ∈ [0, 1, 2], _
    refine zA (zW 0 0 () 6 25 none _ _ rfl rfl (fun _ _ _ _ => rfl) rfl hLo rfl rfl rfl rfl (by rfl) (fun b G w hb ho => exec_box rfl (zG rfl (HS0.get 0 rfl)) (by kernel_rfl))) ?_
    refine zA (zW 1 1 () 6 25 none _ _ rfl rfl (fun _ _ _ _ => rfl) rfl hLo rfl rfl rfl rfl (by rfl) (fun b G w hb ho => exec_box rfl (zG rfl (HS0.get 1 rfl)) (by kernel_rfl))) ?_
    refine zA (zC 2 _ rfl rfl hLo rfl rfl (fun _ _ _ _ => rfl) (fun b G w hb ho => zD (.inr rfl) (rfl))) ?_
    exact zF
  clear hLo
  intro G a1 w1 hS hH
  have HS1 : Sl a1 56 [(0, .agg (FR () 6 ((a).sc))), (1, .agg (FR () 6 ((b).sc))), (2, .string (key)), (3, .int .i64 (mine)), (4, .bool below), (5, .pointer (some ⟨(G 0), 0, none⟩)), (6, .pointer (some ⟨(G 1), 0, none⟩)), (10, .bool false)] := hS
  have HH1 : Held w w1 [⟨(G 0), (), 6, (a).sc, 25⟩, ⟨(G 1), (), 6, (b).sc, 25⟩] := hH
  clear hS hH HS0 HH0
  generalize G 0 = g1_0 at HS1 HH1
  generalize G 1 = g1_1 at HS1 HH1
  refine then_ ?_
  obtain ⟨r1, hr1⟩ : ∃ r : Bool, (((a).tell0 key).2) = r := ⟨_, rfl⟩
  refine wp_seq ?_
  have hLo : LOk [(0, 16, .val (.agg (FR () 6 ((a).sc)))), (1, 17, .val (.string (key))), (2, 18, .val (.tuple #[.int .i64 (((a).tell0 key).1), .bool r1])), (3, 15, .val (.tuple #[.int .i64 (((a).tell0 key).1), .bool r1])), (4, 19, .val (.int .i64 (((a).tell0 key).1))), (5, 20, .val (.bool r1)), (6, 11, .val (.int .i64 (((a).tell0 key).1))), (7, 12, .val (.bool r1))] := lok (by rfl) (by rfl)
  refine zI (wE := w) (sz := 56) (n := 8) [0, 1, 3, 7, 15, 31, 63, 127] [(0, .val (.agg (FR () 6 ((a).sc)))), (1, .val (.agg (FR () 6 ((b).sc)))), (2, .val (.string (key))), (3, .val (.int .i64 (mine))), (4, .val (.bool below)), (5, .val (.pointer (some ⟨g1_0, 0, none⟩))), (6, .val (.pointer (some ⟨g1_1, 0, none⟩))), (10, .val (.bool false)), (11, .val (.int .i64 (((a).tell0 key).1))), (12, .val (.bool r1))] [(0, 16, .val (.agg (FR () 6 ((a).sc)))), (1, 17, .val (.string (key))), (2, 18, .val (.tuple #[.int .i64 (((a).tell0 key).1), .bool r1])), (3, 15, .val (.tuple #[.int .i64 (((a).tell0 key).1), .bool r1])), (4, 19, .val (.int .i64 (((a).tell0 key).1))), (5, 20, .val (.bool r1)), (6, 11, .val (.int .i64 (((a).tell0 key).1))), (7, 12, .val (.bool r1))] [⟨g1_0, none, none, (), 6, (a).sc, (a).sc, 25⟩, ⟨g1_1, none, none, (), 6, (b).sc, (b).sc, 25⟩] rfl (by rfl) HH1 rfl rfl hLo rfl HS1 (slS 0 rfl rfl (slS 1 rfl rfl (slS 2 rfl rfl (slS 3 rfl rfl (slS 4 rfl rfl (slS 5 rfl rfl (slS 6 rfl rfl (slS 7 rfl rfl (slL 6 (d := 6) rfl (slL 7 (d := 7) rfl (trivial))))))))))) ?_ ?_
  · show ∀ i ∈ [0, 1, 2, 3, 4, 5, 6, 7], _
    refine zA (yD 0 0 _ rfl rfl rfl rfl (fun _ _ _ _ => rfl) hLo rfl rfl rfl (by rfl) Tryd.underlying25 (by kernel_rfl) rfl (fun b G hb ho => zG rfl (HS1.get 5 rfl))) ?_
    refine zA (zC 1 _ rfl rfl hLo rfl rfl (fun _ _ _ _ => rfl) (fun b G w hb ho => zD (.inl rfl) (zG rfl (HS1.get 2 rfl)))) ?_
    refine zA (zV 2 _ #[.agg (FR () 6 ((a).sc)), .string (key)] rfl rfl rfl (fun _ _ _ _ => rfl) hLo rfl rfl Tryd.func21 rfl rfl (fun b G hb ho => args2 (zB hLo 0 rfl HS1.1 rfl (hb 0 (by rfl))) (zB hLo 1 rfl HS1.1 rfl (hb 1 (by rfl)))) (fun w hw => (by have hq := told_calls (t := a) key (hIna.below hw); rw [hr1] at hq; exact hq))) ?_
    refine zA (zC 3 _ rfl rfl hLo rfl rfl (fun _ _ _ _ => rfl) (fun b G w hb ho => zD (.inl rfl) (zB hLo 2 rfl HS1.1 rfl (hb 2 (by rfl))))) ?_
    refine zA (zC 4 _ rfl rfl hLo rfl rfl (fun _ _ _ _ => rfl) (fun b G w hb ho => zT rfl (zB hLo 3 rfl HS1.1 rfl (hb 3 (by rfl))) (by rfl))) ?_
    refine zA (zC 5 _ rfl rfl hLo rfl rfl (fun _ _ _ _ => rfl) (fun b G w hb ho => zT rfl (zB hLo 3 rfl HS1.1 rfl (hb 3 (by rfl))) (by rfl))) ?_
    refine zA (zC 6 _ rfl rfl hLo rfl rfl (fun _ _ _ _ => rfl) (fun b G w hb ho => zD (.inr rfl) (zB hLo 4 rfl HS1.1 rfl (hb 4 (by rfl))))) ?_
    refine zA (zC 7 _ rfl rfl hLo rfl rfl (fun _ _ _ _ => rfl) (fun b G w hb ho => zD (.inr rfl) (zB hLo 5 rfl HS1.1 rfl (hb 5 (by rfl))))) ?_
    exact zF
  clear hLo
  intro G a2 w2 hS hH
  have HS2 : Sl a2 56 [(0, .agg (FR () 6 ((a).sc))), (1, .agg (FR () 6 ((b).sc))), (2, .string (key)), (3, .int .i64 (mine)), (4, .bool below), (5, .pointer (some ⟨g1_0, 0, none⟩)), (6, .pointer (some ⟨g1_1, 0, none⟩)), (10, .bool false), (11, .int .i64 (((a).tell0 key).1)), (12, .bool r1)] := hS
  have HH2 : Held w w2 [⟨g1_0, (), 6, (a).sc, 25⟩, ⟨g1_1, (), 6, (b).sc, 25⟩] := hH
  clear hS hH HS1 HH1
  refine then_ ?_
  obtain ⟨r2, hr2⟩ : ∃ r : Bool, (((b).tell0 key).2) = r := ⟨_, rfl⟩
  refine wp_seq ?_
  have hLo : LOk [(0, 22, .val (.agg (FR () 6 ((b).sc)))), (1, 23, .val (.string (key))), (2, 24, .val (.tuple #[.int .i64 (((b).tell0 key).1), .bool r2])), (3, 21, .val (.tuple #[.int .i64 (((b).tell0 key).1), .bool r2])), (4, 25, .val (.int .i64 (((b).tell0 key).1))), (5, 26, .val (.bool r2)), (6, 13, .val (.int .i64 (((b).tell0 key).1))), (7, 14, .val (.bool r2))] := lok (by rfl) (by rfl)
  refine zI (wE := w) (sz := 56) (n := 8) [0, 1, 3, 7, 15, 31, 63, 127] [(0, .val (.agg (FR () 6 ((a).sc)))), (1, .val (.agg (FR () 6 ((b).sc)))), (2, .val (.string (key))), (3, .val (.int .i64 (mine))), (4, .val (.bool below)), (5, .val (.pointer (some ⟨g1_0, 0, none⟩))), (6, .val (.pointer (some ⟨g1_1, 0, none⟩))), (10, .val (.bool false)), (11, .val (.int .i64 (((a).tell0 key).1))), (12, .val (.bool r1)), (13, .val (.int .i64 (((b).tell0 key).1))), (14, .val (.bool r2))] [(0, 22, .val (.agg (FR () 6 ((b).sc)))), (1, 23, .val (.string (key))), (2, 24, .val (.tuple #[.int .i64 (((b).tell0 key).1), .bool r2])), (3, 21, .val (.tuple #[.int .i64 (((b).tell0 key).1), .bool r2])), (4, 25, .val (.int .i64 (((b).tell0 key).1))), (5, 26, .val (.bool r2)), (6, 13, .val (.int .i64 (((b).tell0 key).1))), (7, 14, .val (.bool r2))] [⟨g1_0, none, none, (), 6, (a).sc, (a).sc, 25⟩, ⟨g1_1, none, none, (), 6, (b).sc, (b).sc, 25⟩] rfl (by rfl) HH2 rfl rfl hLo rfl HS2 (slS 0 rfl rfl (slS 1 rfl rfl (slS 2 rfl rfl (slS 3 rfl rfl (slS 4 rfl rfl (slS 5 rfl rfl (slS 6 rfl rfl (slS 7 rfl rfl (slS 8 rfl rfl (slS 9 rfl rfl (slL 6 (d := 6) rfl (slL 7 (d := 7) rfl (trivial))))))))))))) ?_ ?_
  · show ∀ i ∈ [0, 1, 2, 3, 4, 5, 6, 7], _
    refine zA (yD 0 1 _ rfl rfl rfl rfl (fun _ _ _ _ => rfl) hLo rfl rfl rfl (by rfl) Tryd.underlying25 (by kernel_rfl) rfl (fun b G hb ho => zG rfl (HS2.get 6 rfl))) ?_
    refine zA (zC 1 _ rfl rfl hLo rfl rfl (fun _ _ _ _ => rfl) (fun b G w hb ho => zD (.inl rfl) (zG rfl (HS2.get 2 rfl)))) ?_
    refine zA (zV 2 _ #[.agg (FR () 6 ((b).sc)), .string (key)] rfl rfl rfl (fun _ _ _ _ => rfl) hLo rfl rfl Tryd.func21 rfl rfl (fun b G hb ho => args2 (zB hLo 0 rfl HS2.1 rfl (hb 0 (by rfl))) (zB hLo 1 rfl HS2.1 rfl (hb 1 (by rfl)))) (fun w hw => (by have hq := told_calls (t := b) key (hInb.below hw); rw [hr2] at hq; exact hq))) ?_
    refine zA (zC 3 _ rfl rfl hLo rfl rfl (fun _ _ _ _ => rfl) (fun b G w hb ho => zD (.inl rfl) (zB hLo 2 rfl HS2.1 rfl (hb 2 (by rfl))))) ?_
    refine zA (zC 4 _ rfl rfl hLo rfl rfl (fun _ _ _ _ => rfl) (fun b G w hb ho => zT rfl (zB hLo 3 rfl HS2.1 rfl (hb 3 (by rfl))) (by rfl))) ?_
    refine zA (zC 5 _ rfl rfl hLo rfl rfl (fun _ _ _ _ => rfl) (fun b G w hb ho => zT rfl (zB hLo 3 rfl HS2.1 rfl (hb 3 (by rfl))) (by rfl))) ?_
    refine zA (zC 6 _ rfl rfl hLo rfl rfl (fun _ _ _ _ => rfl) (fun b G w hb ho => zD (.inr rfl) (zB hLo 4 rfl HS2.1 rfl (hb 4 (by rfl))))) ?_
    refine zA (zC 7 _ rfl rfl hLo rfl rfl (fun _ _ _ _ => rfl) (fun b G w hb ho => zD (.inr rfl) (zB hLo 5 rfl HS2.1 rfl (hb 5 (by rfl))))) ?_
    exact zF
  clear hLo
  intro G a3 w3 hS hH
  have HS3 : Sl a3 56 [(0, .agg (FR () 6 ((a).sc))), (1, .agg (FR () 6 ((b).sc))), (2, .string (key)), (3, .int .i64 (mine)), (4, .bool below), (5, .pointer (some ⟨g1_0, 0, none⟩)), (6, .pointer (some ⟨g1_1, 0, none⟩)), (10, .bool false), (11, .int .i64 (((a).tell0 key).1)), (12, .bool r1), (13, .int .i64 (((b).tell0 key).1)), (14, .bool r2)] := hS
  have HH3 : Held w w3 [⟨g1_0, (), 6, (a).sc, 25⟩, ⟨g1_1, (), 6, (b).sc, 25⟩] := hH
  clear hS hH HS2 HH2
  refine then_ ?_
  refine wp_seq ?_
  cases r1
  · skip
    cases r2
    · skip
      obtain ⟨r3, hr3⟩ : ∃ r : Bool, (((((a).tell0 key).1 : Int) == ((b).tell0 key).1)) = r := ⟨_, rfl⟩
      refine wp_seq ?_
      have hLo : LOk [(0, 27, .val (.bool false)), (1, 28, .val (.bool false)), (2, 29, .val (.bool true)), (3, 30, .val (.bool true)), (4, 31, .val (.int .i64 (((a).tell0 key).1))), (5, 32, .val (.int .i64 (((b).tell0 key).1))), (6, 33, .val (.bool r3)), (7, 34, .val (.bool r3))] := lok (by rfl) (by rfl)
      refine zI (wE := w) (sz := 56) (n := 8) [0, 1, 3, 7, 15, 31, 63, 127] [(0, .val (.agg (FR () 6 ((a).sc)))), (1, .val (.agg (FR () 6 ((b).sc)))), (2, .val (.string (key))), (3, .val (.int .i64 (mine))), (4, .val (.bool below)), (5, .val (.pointer (some ⟨g1_0, 0, none⟩))), (6, .val (.pointer (some ⟨g1_1, 0, none⟩))), (10, .val (.bool false)), (11, .val (.int .i64 (((a).tell0 key).1))), (12, .val (.bool false)), (13, .val (.int .i64 (((b).tell0 key).1))), (14, .val (.bool false)), (34, .val (.bool r3))] [(0, 27, .val (.bool false)), (1, 28, .val (.bool false)), (2, 29, .val (.bool true)), (3, 30, .val (.bool true)), (4, 31, .val (.int .i64 (((a).tell0 key).1))), (5, 32, .val (.int .i64 (((b).tell0 key).1))), (6, 33, .val (.bool r3)), (7, 34, .val (.bool r3))] [⟨g1_0, none, none, (), 6, (a).sc, (a).sc, 25⟩, ⟨g1_1, none, none, (), 6, (b).sc, (b).sc, 25⟩] rfl (by rfl) HH3 rfl rfl hLo rfl HS3 (slS 0 rfl rfl (slS 1 rfl rfl (slS 2 rfl rfl (slS 3 rfl rfl (slS 4 rfl rfl (slS 5 rfl rfl (slS 6 rfl rfl (slS 7 rfl rfl (slS 8 rfl rfl (slS 9 rfl rfl (slS 10 rfl rfl (slS 11 rfl rfl (slL 7 (d := 7) rfl (trivial)))))))))))))) ?_ ?_
      · show ∀ i ∈ [0, 1, 2, 3, 4, 5, 6, 7], _
        refine zA (zC 0 _ rfl rfl hLo rfl rfl (fun _ _ _ _ => rfl) (fun b G w hb ho => zD (.inl rfl) (zG rfl (HS3.get 9 rfl)))) ?_
        refine zA (zC 1 _ rfl rfl hLo rfl rfl (fun _ _ _ _ => rfl) (fun b G w hb ho => zD (.inl rfl) (zG rfl (HS3.get 11 rfl)))) ?_
        refine zA (zC 2 _ rfl rfl hLo rfl rfl (fun _ _ _ _ => rfl) (fun b G w hb ho => zJ rfl (zB hLo 0 rfl HS3.1 rfl (hb 0 (by rfl))) (zB hLo 1 rfl HS3.1 rfl (hb 1 (by rfl))) (rb_beql Tryd.underlying4 (rfl) _ _ _))) ?_
        refine zA (zC 3 _ rfl rfl hLo rfl rfl (fun _ _ _ _ => rfl) (fun b G w hb ho => zD (.inl rfl) (zB hLo 2 rfl HS3.1 rfl (hb 2 (by rfl))))) ?_
        refine zA (zC 4 _ rfl rfl hLo rfl rfl (fun b G hb ho => zE rfl rfl rfl HS3.1 rfl (zB hLo 3 rfl HS3.1 rfl (hb 3 (by rfl))) rfl) (fun b G w hb ho => zD (.inl rfl) (zG rfl (HS3.get 8 rfl)))) ?_
        refine zA (zC 5 _ rfl rfl hLo rfl rfl (fun b G hb ho => zE rfl rfl rfl HS3.1 rfl (zB hLo 3 rfl HS3.1 rfl (hb 3 (by rfl))) rfl) (fun b G w hb ho => zD (.inl rfl) (zG rfl (HS3.get 10 rfl)))) ?_
        refine zA (zC 6 _ rfl rfl hLo rfl rfl (fun b G hb ho => zE rfl rfl rfl HS3.1 rfl (zB hLo 3 rfl HS3.1 rfl (hb 3 (by rfl))) rfl) (fun b G w hb ho => zJ rfl (zB hLo 4 rfl HS3.1 rfl (hb 4 (by rfl))) (zB hLo 5 rfl HS3.1 rfl (hb 5 (by rfl))) (rb_eql hr3 _ _ _))) ?_
        refine zA (zC 7 _ rfl rfl hLo rfl rfl (fun _ _ _ _ => rfl) (fun b G w hb ho => zK rfl (zB hLo 3 rfl HS3.1 rfl (hb 3 (by rfl))) (zB hLo 6 rfl HS3.1 rfl (hb 6 (by rfl))))) ?_
        exact zF
      clear hLo
      intro G a4 w4 hS hH
      have HS4 : Sl a4 56 [(0, .agg (FR () 6 ((a).sc))), (1, .agg (FR () 6 ((b).sc))), (2, .string (key)), (3, .int .i64 (mine)), (4, .bool below), (5, .pointer (some ⟨g1_0, 0, none⟩)), (6, .pointer (some ⟨g1_1, 0, none⟩)), (10, .bool false), (11, .int .i64 (((a).tell0 key).1)), (12, .bool false), (13, .int .i64 (((b).tell0 key).1)), (14, .bool false), (34, .bool r3)] := hS
      have HH4 : Held w w4 [⟨g1_0, (), 6, (a).sc, 25⟩, ⟨g1_1, (), 6, (b).sc, 25⟩] := hH
      clear hS hH HS3 HH3
      refine then_ ?_
      cases r3
      · skip
        refine wp_cond_false (HS4.get 12 rfl) ?_
        refine wp_skip ?_
        refine then_ ?_
        refine wp_seq ?_
        refine wp_seq ?_
        have hLo : LOk [(0, 35, .val (.bool false)), (1, 36, .val (.bool false)), (2, 37, .val (undef)), (3, 38, .val (undef)), (4, 39, .val (undef)), (5, 40, .val (undef)), (6, 41, .val (undef)), (7, 42, .val (undef)), (8, 43, .val (undef)), (9, 44, .val (undef)), (10, 45, .val (undef)), (11, 46, .val (undef)), (12, 47, .val (undef)), (13, 48, .val (.bool false))] := lok (by rfl) (by rfl)
        refine zI (wE := w) (sz := 56) (n := 14) [0, 1, 3, 7, 15, 31, 63, 127, 255, 511, 1023, 2047, 4095, 8191] [(0, .val (.agg (FR () 6 ((a).sc)))), (1, .val (.agg (FR () 6 ((b).sc)))), (2, .val (.string (key))), (3, .val (.int .i64 (mine))), (4, .val (.bool below)), (5, .val (.pointer (some ⟨g1_0, 0, none⟩))), (6, .val (.pointer (some ⟨g1_1, 0, none⟩))), (10, .val (.bool false)), (11, .val (.int .i64 (((a).tell0 key).1))), (12, .val (.bool false)), (13, .val (.int .i64 (((b).tell0 key).1))), (14, .val (.bool false)), (34, .val (.bool false)), (48, .val (.bool false))] [(0, 35, .val (.bool false)), (1, 36, .val (.bool false)), (2, 37, .val (undef)), (3, 38, .val (undef)), (4, 39, .val (undef)), (5, 40, .val (undef)), (6, 41, .val (undef)), (7, 42, .val (undef)), (8, 43, .val (undef)), (9, 44, .val (undef)), (10, 45, .val (undef)), (11, 46, .val (undef)), (12, 47, .val (undef)), (13, 48, .val (.bool false))] [⟨g1_0, none, none, (), 6, (a).sc, (a).sc, 25⟩, ⟨g1_1, none, none, (), 6, (b).sc, (b).sc, 25⟩] rfl (by rfl) HH4 rfl rfl hLo rfl HS4 (slS 0 rfl rfl (slS 1 rfl rfl (slS 2 rfl rfl (slS 3 rfl rfl (slS 4 rfl rfl (slS 5 rfl rfl (slS 6 rfl rfl (slS 7 rfl rfl (slS 8 rfl rfl (slS 9 rfl rfl (slS 10 rfl rfl (slS 11 rfl rfl (slS 12 rfl rfl (slL 13 (d := 13) rfl (trivial))))))))))))))) ?_ ?_
        · show ∀ i ∈ [0, 1, 2, 3, 4, 5, 6, 7, 8, 9, 10, 11, 12, 13], _
          refine zA (zC 0 _ rfl rfl hLo rfl rfl (fun _ _ _ _ => rfl) (fun b G w hb ho => zD (.inl rfl) (zG rfl (HS4.get 9 rfl)))) ?_
          refine zA (zC 1 _ rfl rfl hLo rfl rfl (fun _ _ _ _ => rfl) (fun b G w hb ho => zD (.inl rfl) (zB hLo 0 rfl HS4.1 rfl (hb 0 (by rfl))))) ?_
          refine zA (zH 2 rfl rfl hLo rfl rfl (fun b G hb ho => zE rfl rfl rfl HS4.1 rfl (zB hLo 1 rfl HS4.1 rfl (hb 1 (by rfl))) rfl)) ?_
          refine zA (zH 3 rfl rfl hLo rfl rfl (fun b G hb ho => zE rfl rfl rfl HS4.1 rfl (zB hLo 1 rfl HS4.1 rfl (hb 1 (by rfl))) rfl)) ?_
          refine zA (zH 4 rfl rfl hLo rfl rfl (fun b G hb ho => zE rfl rfl rfl HS4.1 rfl (zB hLo 1 rfl HS4.1 rfl (hb 1 (by rfl))) rfl)) ?_
          refine zA (zH 5 rfl rfl hLo rfl rfl (fun b G hb ho => zE rfl rfl rfl HS4.1 rfl (zB hLo 1 rfl HS4.1 rfl (hb 1 (by rfl))) rfl)) ?_
          refine zA (zH 6 rfl rfl hLo rfl rfl (fun b G hb ho => yK rfl rfl rfl HS4.1 rfl (zB hLo 5 rfl HS4.1 rfl (hb 5 (by rfl))))) ?_
          refine zA (zH 7 rfl rfl hLo rfl rfl (fun b G hb ho => yK rfl rfl rfl HS4.1 rfl (zB hLo 5 rfl HS4.1 rfl (hb 5 (by rfl))))) ?_
          refine zA (zH 8 rfl rfl hLo rfl rfl (fun b G hb ho => yK rfl rfl rfl HS4.1 rfl (zB hLo 7 rfl HS4.1 rfl (hb 7 (by rfl))))) ?_
          refine zA (zH 9 rfl rfl hLo rfl rfl (fun b G hb ho => yK rfl rfl rfl HS4.1 rfl (zB hLo 7 rfl HS4.1 rfl (hb 7 (by rfl))))) ?_
          refine zA (zH 10 rfl rfl hLo rfl rfl (fun b G hb ho => yK rfl rfl rfl HS4.1 rfl (zB hLo 7 rfl HS4.1 rfl (hb 7 (by rfl))))) ?_
          refine zA (zH 11 rfl rfl hLo rfl rfl (fun b G hb ho => yK rfl rfl rfl HS4.1 rfl (zB hLo 5 rfl HS4.1 rfl (hb 5 (by rfl))))) ?_
          refine zA (zH 12 rfl rfl hLo rfl rfl (fun b G hb ho => zE rfl rfl rfl HS4.1 rfl (zB hLo 1 rfl HS4.1 rfl (hb 1 (by rfl))) rfl)) ?_
          refine zA (zC 13 _ rfl rfl hLo rfl rfl (fun _ _ _ _ => rfl) (fun b G w hb ho => zK rfl (zB hLo 1 rfl HS4.1 rfl (hb 1 (by rfl))) (rfl))) ?_
          exact zF
        clear hLo
        intro G a5 w5 hS hH
        have HS5 : Sl a5 56 [(0, .agg (FR () 6 ((a).sc))), (1, .agg (FR () 6 ((b).sc))), (2, .string (key)), (3, .int .i64 (mine)), (4, .bool below), (5, .pointer (some ⟨g1_0, 0, none⟩)), (6, .pointer (some ⟨g1_1, 0, none⟩)), (10, .bool false), (11, .int .i64 (((a).tell0 key).1)), (12, .bool false), (13, .int .i64 (((b).tell0 key).1)), (14, .bool false), (34, .bool false), (48, .bool false)] := hS
        have HH5 : Held w w5 [⟨g1_0, (), 6, (a).sc, 25⟩, ⟨g1_1, (), 6, (b).sc, 25⟩] := hH
        clear hS hH HS4 HH4
        refine then_ ?_
        refine wp_cond_false (HS5.get 13 rfl) ?_
        refine wp_skip ?_
        refine then_ ?_
        refine wp_seq ?_
        have hLo : LOk [(0, 49, .val (.bool false)), (1, 50, .val (.bool true)), (2, 51, .val (.bool true)), (3, 52, .val (undef)), (4, 53, .val (undef)), (5, 54, .val (undef)), (6, 55, .val (.bool true)), (7, 10, .val (.bool true))] := lok (by rfl) (by rfl)
        refine zI (wE := w) (sz := 56) (n := 8) [0, 1, 3, 7, 15, 31, 63, 127] [(0, .val (.agg (FR () 6 ((a).sc)))), (1, .val (.agg (FR () 6 ((b).sc)))), (2, .val (.string (key))), (3, .val (.int .i64 (mine))), (4, .val (.bool below)), (5, .val (.pointer (some ⟨g1_0, 0, none⟩))), (6, .val (.pointer (some ⟨g1_1, 0, none⟩))), (11, .val (.int .i64 (((a).tell0 key).1))), (12, .val (.bool false)), (13, .val (.int .i64 (((b).tell0 key).1))), (14, .val (.bool false)), (34, .val (.bool false)), (48, .val (.bool false)), (10, .val (.bool true))] [(0, 49, .val (.bool false)), (1, 50, .val (.bool true)), (2, 51, .val (.bool true)), (3, 52, .val (undef)), (4, 53, .val (undef)), (5, 54, .val (undef)), (6, 55, .val (.bool true)), (7, 10, .val (.bool true))] [⟨g1_0, none, none, (), 6, (a).sc, (a).sc, 25⟩, ⟨g1_1, none, none, (), 6, (b).sc, (b).sc, 25⟩] rfl (by rfl) HH5 rfl rfl hLo rfl HS5 (slS 0 rfl rfl (slS 1 rfl rfl (slS 2 rfl rfl (slS 3 rfl rfl (slS 4 rfl rfl (slS 5 rfl rfl (slS 6 rfl rfl (slS 8 rfl rfl (slS 9 rfl rfl (slS 10 rfl rfl (slS 11 rfl rfl (slS 12 rfl rfl (slS 13 rfl rfl (slL 7 (d := 7) rfl (trivial))))))))))))))) ?_ ?_
        · show ∀ i ∈ [0, 1, 2, 3, 4, 5, 6, 7], _
          refine zA (zC 0 _ rfl rfl hLo rfl rfl (fun _ _ _ _ => rfl) (fun b G w hb ho => zD (.inl rfl) (zG rfl (HS5.get 11 rfl)))) ?_
          refine zA (zC 1 _ rfl rfl hLo rfl rfl (fun _ _ _ _ => rfl) (fun b G w hb ho => yJ rfl (zB hLo 0 rfl HS5.1 rfl (hb 0 (by rfl))) (ru_not _))) ?_
          refine zA (zC 2 _ rfl rfl hLo rfl rfl (fun _ _ _ _ => rfl) (fun b G w hb ho => zD (.inl rfl) (zB hLo 1 rfl HS5.1 rfl (hb 1 (by rfl))))) ?_
          refine zA (zH 3 rfl rfl hLo rfl rfl (fun b G hb ho => zE rfl rfl rfl HS5.1 rfl (zB hLo 2 rfl HS5.1 rfl (hb 2 (by rfl))) rfl)) ?_
          refine zA (zH 4 rfl rfl hLo rfl rfl (fun b G hb ho => zE rfl rfl rfl HS5.1 rfl (zB hLo 2 rfl HS5.1 rfl (hb 2 (by rfl))) rfl)) ?_
          refine zA (zH 5 rfl rfl hLo rfl rfl (fun b G hb ho => zE rfl rfl rfl HS5.1 rfl (zB hLo 2 rfl HS5.1 rfl (hb 2 (by rfl))) rfl)) ?_
          refine zA (zC 6 _ rfl rfl hLo rfl rfl (fun _ _ _ _ => rfl) (fun b G w hb ho => zK rfl (zB hLo 2 rfl HS5.1 rfl (hb 2 (by rfl))) (rfl))) ?_
          refine zA (zC 7 _ rfl rfl hLo rfl rfl (fun _ _ _ _ => rfl) (fun b G w hb ho => zD (.inr rfl) (zB hLo 6 rfl HS5.1 rfl (hb 6 (by rfl))))) ?_
          exact zF
        clear hLo
        intro G a6 w6 hS hH
        have HS6 : Sl a6 56 [(0, .agg (FR () 6 ((a).sc))), (1, .agg (FR () 6 ((b).sc))), (2, .string (key)), (3, .int .i64 (mine)), (4, .bool below), (5, .pointer (some ⟨g1_0, 0, none⟩)), (6, .pointer (some ⟨g1_1, 0, none⟩)), (11, .int .i64 (((a).tell0 key).1)), (12, .bool false), (13, .int .i64 (((b).tell0 key).1)), (14, .bool false), (34, .bool false), (48, .bool false), (10, .bool true)] := hS
        have HH6 : Held w w6 [⟨g1_0, (), 6, (a).sc, 25⟩, ⟨g1_1, (), 6, (b).sc, 25⟩] := hH
        clear hS hH HS5 HH5
        refine then_ ?_
        refine wp_ret ?_
        repeat (first | refine zP ?_ | refine zL ?_)
        exact yI rfl HS6.2.1 (HS6.get 13 rfl) ⟨turns_ret (by unfold turnsB; simp only [hr1, hr2, hr3]; try rfl), HH6.1⟩
      · skip
        refine wp_cond_true (HS4.get 12 rfl) ?_
        refine wp_seq ?_
        have hLo : LOk [(0, 10, .val (.bool true))] := lok (by rfl) (by rfl)
        refine zI (wE := w) (sz := 56) (n := 1) [0] [(0, .val (.agg (FR () 6 ((a).sc)))), (1, .val (.agg (FR () 6 ((b).sc)))), (2, .val (.string (key))), (3, .val (.int .i64 (mine))), (4, .val (.bool below)), (5, .val (.pointer (some ⟨g1_0, 0, none⟩))), (6, .val (.pointer (some ⟨g1_1, 0, none⟩))), (11, .val (.int .i64 (((a).tell0 key).1))), (12, .val (.bool false)), (13, .val (.int .i64 (((b).tell0 key).1))), (14, .val (.bool false)), (34, .val (.bool true)), (10, .val (.bool true))] [(0, 10, .val (.bool true))] [⟨g1_0, none, none, (), 6, (a).sc, (a).sc, 25⟩, ⟨g1_1, none, none, (), 6, (b).sc, (b).sc, 25⟩] rfl (by rfl) HH4 rfl rfl hLo rfl HS4 (slS 0 rfl rfl (slS 1 rfl rfl (slS 2 rfl rfl (slS 3 rfl rfl (slS 4 rfl rfl (slS 5 rfl rfl (slS 6 rfl rfl (slS 8 rfl rfl (slS 9 rfl rfl (slS 10 rfl rfl (slS 11 rfl rfl (slS 12 rfl rfl (slL 0 (d := 0) rfl (trivial)))))))))))))) ?_ ?_
        · show ∀ i ∈ [0], _
          refine zA (zC 0 _ rfl rfl hLo rfl rfl (fun _ _ _ _ => rfl) (fun b G w hb ho => zD (.inr rfl) (rfl))) ?_
          exact zF
        clear hLo
        intro G a7 w7 hS hH
        have HS7 : Sl a7 56 [(0, .agg (FR () 6 ((a).sc))), (1, .agg (FR () 6 ((b).sc))), (2, .string (key)), (3, .int .i64 (mine)), (4, .bool below), (5, .pointer (some ⟨g1_0, 0, none⟩)), (6, .pointer (some ⟨g1_1, 0, none⟩)), (11, .int .i64 (((a).tell0 key).1)), (12, .bool false), (13, .int .i64 (((b).tell0 key).1)), (14, .bool false), (34, .bool true), (10, .bool true)] := hS
        have HH7 : Held w w7 [⟨g1_0, (), 6, (a).sc, 25⟩, ⟨g1_1, (), 6, (b).sc, 25⟩] := hH
        clear hS hH HS4 HH4
        refine then_ ?_
        refine wp_ret ?_
        repeat (first | refine zP ?_ | refine zL ?_)
        exact yI rfl HS7.2.1 (HS7.get 12 rfl) ⟨turns_ret (by unfold turnsB; simp only [hr1, hr2, hr3]; try rfl), HH7.1⟩
    · skip
      refine wp_seq ?_
      have hLo : LOk [(0, 27, .val (.bool false)), (1, 28, .val (.bool true)), (2, 29, .val (.bool false)), (3, 30, .val (.bool false)), (4, 31, .val (undef)), (5, 32, .val (undef)), (6, 33, .val (undef)), (7, 34, .val (.bool false))] := lok (by rfl) (by rfl)
      refine zI (wE := w) (sz := 56) (n := 8) [0, 1, 3, 7, 15, 31, 63, 127] [(0, .val (.agg (FR () 6 ((a).sc)))), (1, .val (.agg (FR () 6 ((b).sc)))), (2, .val (.string (key))), (3, .val (.int .i64 (mine))), (4, .val (.bool below)), (5, .val (.pointer (some ⟨g1_0, 0, none⟩))), (6, .val (.pointer (some ⟨g1_1, 0, none⟩))), (10, .val (.bool false)), (11, .val (.int .i64 (((a).tell0 key).1))), (12, .val (.bool false)), (13, .val (.int .i64 (((b).tell0 key).1))), (14, .val (.bool true)), (34, .val (.bool false))] [(0, 27, .val (.bool false)), (1, 28, .val (.bool true)), (2, 29, .val (.bool false)), (3, 30, .val (.bool false)), (4, 31, .val (undef)), (5, 32, .val (undef)), (6, 33, .val (undef)), (7, 34, .val (.bool false))] [⟨g1_0, none, none, (), 6, (a).sc, (a).sc, 25⟩, ⟨g1_1, none, none, (), 6, (b).sc, (b).sc, 25⟩] rfl (by rfl) HH3 rfl rfl hLo rfl HS3 (slS 0 rfl rfl (slS 1 rfl rfl (slS 2 rfl rfl (slS 3 rfl rfl (slS 4 rfl rfl (slS 5 rfl rfl (slS 6 rfl rfl (slS 7 rfl rfl (slS 8 rfl rfl (slS 9 rfl rfl (slS 10 rfl rfl (slS 11 rfl rfl (slL 7 (d := 7) rfl (trivial)))))))))))))) ?_ ?_
      · show ∀ i ∈ [0, 1, 2, 3, 4, 5, 6, 7], _
        refine zA (zC 0 _ rfl rfl hLo rfl rfl (fun _ _ _ _ => rfl) (fun b G w hb ho => zD (.inl rfl) (zG rfl (HS3.get 9 rfl)))) ?_
        refine zA (zC 1 _ rfl rfl hLo rfl rfl (fun _ _ _ _ => rfl) (fun b G w hb ho => zD (.inl rfl) (zG rfl (HS3.get 11 rfl)))) ?_
        refine zA (zC 2 _ rfl rfl hLo rfl rfl (fun _ _ _ _ => rfl) (fun b G w hb ho => zJ rfl (zB hLo 0 rfl HS3.1 rfl (hb 0 (by rfl))) (zB hLo 1 rfl HS3.1 rfl (hb 1 (by rfl))) (rb_beql Tryd.underlying4 (rfl) _ _ _))) ?_
        refine zA (zC 3 _ rfl rfl hLo rfl rfl (fun _ _ _ _ => rfl) (fun b G w hb ho => zD (.inl rfl) (zB hLo 2 rfl HS3.1 rfl (hb 2 (by rfl))))) ?_
        refine zA (zH 4 rfl rfl hLo rfl rfl (fun b G hb ho => zE rfl rfl rfl HS3.1 rfl (zB hLo 3 rfl HS3.1 rfl (hb 3 (by rfl))) rfl)) ?_
        refine zA (zH 5 rfl rfl hLo rfl rfl (fun b G hb ho => zE rfl rfl rfl HS3.1 rfl (zB hLo 3 rfl HS3.1 rfl (hb 3 (by rfl))) rfl)) ?_
        refine zA (zH 6 rfl rfl hLo rfl rfl (fun b G hb ho => zE rfl rfl rfl HS3.1 rfl (zB hLo 3 rfl HS3.1 rfl (hb 3 (by rfl))) rfl)) ?_
        refine zA (zC 7 _ rfl rfl hLo rfl rfl (fun _ _ _ _ => rfl) (fun b G w hb ho => zK rfl (zB hLo 3 rfl HS3.1 rfl (hb 3 (by rfl))) (rfl))) ?_
        exact zF
      clear hLo
      intro G a8 w8 hS hH
      have HS8 : Sl a8 56 [(0, .agg (FR () 6 ((a).sc))), (1, .agg (FR () 6 ((b).sc))), (2, .string (key)), (3, .int .i64 (mine)), (4, .bool below), (5, .pointer (some ⟨g1_0, 0, none⟩)), (6, .pointer (some ⟨g1_1, 0, none⟩)), (10, .bool false), (11, .int .i64 (((a).tell0 key).1)), (12, .bool false), (13, .int .i64 (((b).tell0 key).1)), (14, .bool true), (34, .bool false)] := hS
      have HH8 : Held w w8 [⟨g1_0, (), 6, (a).sc, 25⟩, ⟨g1_1, (), 6, (b).sc, 25⟩] := hH
      clear hS hH HS3 HH3
      refine then_ ?_
      refine wp_cond_false (HS8.get 12 rfl) ?_
      refine wp_skip ?_
      refine then_ ?_
      refine wp_seq ?_
      refine wp_seq ?_
      have hLo : LOk [(0, 35, .val (.bool false)), (1, 36, .val (.bool false)), (2, 37, .val (undef)), (3, 38, .val (undef)), (4, 39, .val (undef)), (5, 40, .val (undef)), (6, 41, .val (undef)), (7, 42, .val (undef)), (8, 43, .val (undef)), (9, 44, .val (undef)), (10, 45, .val (undef)), (11, 46, .val (undef)), (12, 47, .val (undef)), (13, 48, .val (.bool false))] := lok (by rfl) (by rfl)
      refine zI (wE := w) (sz := 56) (n := 14) [0, 1, 3, 7, 15, 31, 63, 127, 255, 511, 1023, 2047, 4095, 8191] [(0, .val (.agg (FR () 6 ((a).sc)))), (1, .val (.agg (FR () 6 ((b).sc)))), (2, .val (.string (key))), (3, .val (.int .i64 (mine))), (4, .val (.bool below)), (5, .val (.pointer (some ⟨g1_0, 0, none⟩))), (6, .val (.pointer (some ⟨g1_1, 0, none⟩))), (10, .val (.bool false)), (11, .val (.int .i64 (((a).tell0 key).1))), (12, .val (.bool false)), (13, .val (.int .i64 (((b).tell0 key).1))), (14, .val (.bool true)), (34, .val (.bool false)), (48, .val (.bool false))] [(0, 35, .val (.bool false)), (1, 36, .val (.bool false)), (2, 37, .val (undef)), (3, 38, .val (undef)), (4, 39, .val (undef)), (5, 40, .val (undef)), (6, 41, .val (undef)), (7, 42, .val (undef)), (8, 43, .val (undef)), (9, 44, .val (undef)), (10, 45, .val (undef)), (11, 46, .val (undef)), (12, 47, .val (undef)), (13, 48, .val (.bool false))] [⟨g1_0, none, none, (), 6, (a).sc, (a).sc, 25⟩, ⟨g1_1, none, none, (), 6, (b).sc, (b).sc, 25⟩] rfl (by rfl) HH8 rfl rfl hLo rfl HS8 (slS 0 rfl rfl (slS 1 rfl rfl (slS 2 rfl rfl (slS 3 rfl rfl (slS 4 rfl rfl (slS 5 rfl rfl (slS 6 rfl rfl (slS 7 rfl rfl (slS 8 rfl rfl (slS 9 rfl rfl (slS 10 rfl rfl (slS 11 rfl rfl (slS 12 rfl rfl (slL 13 (d := 13) rfl (trivial))))))))))))))) ?_ ?_
      · show ∀ i ∈ [0, 1, 2, 3, 4, 5, 6, 7, 8, 9, 10, 11, 12, 13], _
        refine zA (zC 0 _ rfl rfl hLo rfl rfl (fun _ _ _ _ => rfl) (fun b G w hb ho => zD (.inl rfl) (zG rfl (HS8.get 9 rfl)))) ?_
        refine zA (zC 1 _ rfl rfl hLo rfl rfl (fun _ _ _ _ => rfl) (fun b G w hb ho => zD (.inl rfl) (zB hLo 0 rfl HS8.1 rfl (hb 0 (by rfl))))) ?_
        refine zA (zH 2 rfl rfl hLo rfl rfl (fun b G hb ho => zE rfl rfl rfl HS8.1 rfl (zB hLo 1 rfl HS8.1 rfl (hb 1 (by rfl))) rfl)) ?_
        refine zA (zH 3 rfl rfl hLo rfl rfl (fun b G hb ho => zE rfl rfl rfl HS8.1 rfl (zB hLo 1 rfl HS8.1 rfl (hb 1 (by rfl))) rfl)) ?_
        refine zA (zH 4 rfl rfl hLo rfl rfl (fun b G hb ho => zE rfl rfl rfl HS8.1 rfl (zB hLo 1 rfl HS8.1 rfl (hb 1 (by rfl))) rfl)) ?_
        refine zA (zH 5 rfl rfl hLo rfl rfl (fun b G hb ho => zE rfl rfl rfl HS8.1 rfl (zB hLo 1 rfl HS8.1 rfl (hb 1 (by rfl))) rfl)) ?_
        refine zA (zH 6 rfl rfl hLo rfl rfl (fun b G hb ho => yK rfl rfl rfl HS8.1 rfl (zB hLo 5 rfl HS8.1 rfl (hb 5 (by rfl))))) ?_
        refine zA (zH 7 rfl rfl hLo rfl rfl (fun b G hb ho => yK rfl rfl rfl HS8.1 rfl (zB hLo 5 rfl HS8.1 rfl (hb 5 (by rfl))))) ?_
        refine zA (zH 8 rfl rfl hLo rfl rfl (fun b G hb ho => yK rfl rfl rfl HS8.1 rfl (zB hLo 7 rfl HS8.1 rfl (hb 7 (by rfl))))) ?_
        refine zA (zH 9 rfl rfl hLo rfl rfl (fun b G hb ho => yK rfl rfl rfl HS8.1 rfl (zB hLo 7 rfl HS8.1 rfl (hb 7 (by rfl))))) ?_
        refine zA (zH 10 rfl rfl hLo rfl rfl (fun b G hb ho => yK rfl rfl rfl HS8.1 rfl (zB hLo 7 rfl HS8.1 rfl (hb 7 (by rfl))))) ?_
        refine zA (zH 11 rfl rfl hLo rfl rfl (fun b G hb ho => yK rfl rfl rfl HS8.1 rfl (zB hLo 5 rfl HS8.1 rfl (hb 5 (by rfl))))) ?_
        refine zA (zH 12 rfl rfl hLo rfl rfl (fun b G hb ho => zE rfl rfl rfl HS8.1 rfl (zB hLo 1 rfl HS8.1 rfl (hb 1 (by rfl))) rfl)) ?_
        refine zA (zC 13 _ rfl rfl hLo rfl rfl (fun _ _ _ _ => rfl) (fun b G w hb ho => zK rfl (zB hLo 1 rfl HS8.1 rfl (hb 1 (by rfl))) (rfl))) ?_
        exact zF
      clear hLo
      intro G a9 w9 hS hH
      have HS9 : Sl a9 56 [(0, .agg (FR () 6 ((a).sc))), (1, .agg (FR () 6 ((b).sc))), (2, .string (key)), (3, .int .i64 (mine)), (4, .bool below), (5, .pointer (some ⟨g1_0, 0, none⟩)), (6, .pointer (some ⟨g1_1, 0, none⟩)), (10, .bool false), (11, .int .i64 (((a).tell0 key).1)), (12, .bool false), (13, .int .i64 (((b).tell0 key).1)), (14, .bool true), (34, .bool false), (48, .bool false)] := hS
      have HH9 : Held w w9 [⟨g1_0, (), 6, (a).sc, 25⟩, ⟨g1_1, (), 6, (b).sc, 25⟩] := hH
      clear hS hH HS8 HH8
      refine then_ ?_
      refine wp_cond_false (HS9.get 13 rfl) ?_
      refine wp_skip ?_
      refine then_ ?_
      obtain ⟨r4, hr4⟩ : ∃ r : Bool, (decide ((((b).tell0 key).1 : Int) ≤ mine)) = r := ⟨_, rfl⟩
      refine wp_seq ?_
      have hLo : LOk [(0, 49, .val (.bool true)), (1, 50, .val (.bool false)), (2, 51, .val (.bool false)), (3, 52, .val (.int .i64 (((b).tell0 key).1))), (4, 53, .val (.int .i64 (mine))), (5, 54, .val (.bool r4)), (6, 55, .val (.bool r4)), (7, 10, .val (.bool r4))] := lok (by rfl) (by rfl)
      refine zI (wE := w) (sz := 56) (n := 8) [0, 1, 3, 7, 15, 31, 63, 127] [(0, .val (.agg (FR () 6 ((a).sc)))), (1, .val (.agg (FR () 6 ((b).sc)))), (2, .val (.string (key))), (3, .val (.int .i64 (mine))), (4, .val (.bool below)), (5, .val (.pointer (some ⟨g1_0, 0, none⟩))), (6, .val (.pointer (some ⟨g1_1, 0, none⟩))), (11, .val (.int .i64 (((a).tell0 key).1))), (12, .val (.bool false)), (13, .val (.int .i64 (((b).tell0 key).1))), (14, .val (.bool true)), (34, .val (.bool false)), (48, .val (.bool false)), (10, .val (.bool r4))] [(0, 49, .val (.bool true)), (1, 50, .val (.bool false)), (2, 51, .val (.bool false)), (3, 52, .val (.int .i64 (((b).tell0 key).1))), (4, 53, .val (.int .i64 (mine))), (5, 54, .val (.bool r4)), (6, 55, .val (.bool r4)), (7, 10, .val (.bool r4))] [⟨g1_0, none, none, (), 6, (a).sc, (a).sc, 25⟩, ⟨g1_1, none, none, (), 6, (b).sc, (b).sc, 25⟩] rfl (by rfl) HH9 rfl rfl hLo rfl HS9 (slS 0 rfl rfl (slS 1 rfl rfl (slS 2 rfl rfl (slS 3 rfl rfl (slS 4 rfl rfl (slS 5 rfl rfl (slS 6 rfl rfl (slS 8 rfl rfl (slS 9 rfl rfl (slS 10 rfl rfl (slS 11 rfl rfl (slS 12 rfl rfl (slS 13 rfl rfl (slL 7 (d := 7) rfl (trivial))))))))))))))) ?_ ?_
      · show ∀ i ∈ [0, 1, 2, 3, 4, 5, 6, 7], _
        refine zA (zC 0 _ rfl rfl hLo rfl rfl (fun _ _ _ _ => rfl) (fun b G w hb ho => zD (.inl rfl) (zG rfl (HS9.get 11 rfl)))) ?_
        refine zA (zC 1 _ rfl rfl hLo rfl rfl (fun _ _ _ _ => rfl) (fun b G w hb ho => yJ rfl (zB hLo 0 rfl HS9.1 rfl (hb 0 (by rfl))) (ru_not _))) ?_
        refine zA (zC 2 _ rfl rfl hLo rfl rfl (fun _ _ _ _ => rfl) (fun b G w hb ho => zD (.inl rfl) (zB hLo 1 rfl HS9.1 rfl (hb 1 (by rfl))))) ?_
        refine zA (zC 3 _ rfl rfl hLo rfl rfl (fun b G hb ho => zE rfl rfl rfl HS9.1 rfl (zB hLo 2 rfl HS9.1 rfl (hb 2 (by rfl))) rfl) (fun b G w hb ho => zD (.inl rfl) (zG rfl (HS9.get 10 rfl)))) ?_
        refine zA (zC 4 _ rfl rfl hLo rfl rfl (fun b G hb ho => zE rfl rfl rfl HS9.1 rfl (zB hLo 2 rfl HS9.1 rfl (hb 2 (by rfl))) rfl) (fun b G w hb ho => zD (.inl rfl) (zG rfl (HS9.get 3 rfl)))) ?_
        refine zA (zC 5 _ rfl rfl hLo rfl rfl (fun b G hb ho => zE rfl rfl rfl HS9.1 rfl (zB hLo 2 rfl HS9.1 rfl (hb 2 (by rfl))) rfl) (fun b G w hb ho => zJ rfl (zB hLo 3 rfl HS9.1 rfl (hb 3 (by rfl))) (zB hLo 4 rfl HS9.1 rfl (hb 4 (by rfl))) (rb_leq hr4 _ _ _))) ?_
        refine zA (zC 6 _ rfl rfl hLo rfl rfl (fun _ _ _ _ => rfl) (fun b G w hb ho => zK rfl (zB hLo 2 rfl HS9.1 rfl (hb 2 (by rfl))) (zB hLo 5 rfl HS9.1 rfl (hb 5 (by rfl))))) ?_
        refine zA (zC 7 _ rfl rfl hLo rfl rfl (fun _ _ _ _ => rfl) (fun b G w hb ho => zD (.inr rfl) (zB hLo 6 rfl HS9.1 rfl (hb 6 (by rfl))))) ?_
        exact zF
      clear hLo
      intro G a10 w10 hS hH
      have HS10 : Sl a10 56 [(0, .agg (FR () 6 ((a).sc))), (1, .agg (FR () 6 ((b).sc))), (2, .string (key)), (3, .int .i64 (mine)), (4, .bool below), (5, .pointer (some ⟨g1_0, 0, none⟩)), (6, .pointer (some ⟨g1_1, 0, none⟩)), (11, .int .i64 (((a).tell0 key).1)), (12, .bool false), (13, .int .i64 (((b).tell0 key).1)), (14, .bool true), (34, .bool false), (48, .bool false), (10, .bool r4)] := hS
      have HH10 : Held w w10 [⟨g1_0, (), 6, (a).sc, 25⟩, ⟨g1_1, (), 6, (b).sc, 25⟩] := hH
      clear hS hH HS9 HH9
      refine then_ ?_
      refine wp_ret ?_
      repeat (first | refine zP ?_ | refine zL ?_)
      exact yI rfl HS10.2.1 (HS10.get 13 rfl) ⟨turns_ret (by unfold turnsB; simp only [hr1, hr2, hr4]; try rfl), HH10.1⟩
  · skip
    cases r2
    · skip
      refine wp_seq ?_
      have hLo : LOk [(0, 27, .val (.bool true)), (1, 28, .val (.bool false)), (2, 29, .val (.bool false)), (3, 30, .val (.bool false)), (4, 31, .val (undef)), (5, 32, .val (undef)), (6, 33, .val (undef)), (7, 34, .val (.bool false))] := lok (by rfl) (by rfl)
      refine zI (wE := w) (sz := 56) (n := 8) [0, 1, 3, 7, 15, 31, 63, 127] [(0, .val (.agg (FR () 6 ((a).sc)))), (1, .val (.agg (FR () 6 ((b).sc)))), (2, .val (.string (key))), (3, .val (.int .i64 (mine))), (4, .val (.bool below)), (5, .val (.pointer (some ⟨g1_0, 0, none⟩))), (6, .val (.pointer (some ⟨g1_1, 0, none⟩))), (10, .val (.bool false)), (11, .val (.int .i64 (((a).tell0 key).1))), (12, .val (.bool true)), (13, .val (.int .i64 (((b).tell0 key).1))), (14, .val (.bool false)), (34, .val (.bool false))] [(0, 27, .val (.bool true)), (1, 28, .val (.bool false)), (2, 29, .val (.bool false)), (3, 30, .val (.bool false)), (4, 31, .val (undef)), (5, 32, .val (undef)), (6, 33, .val (undef)), (7, 34, .val (.bool false))] [⟨g1_0, none, none, (), 6, (a).sc, (a).sc, 25⟩, ⟨g1_1, none, none, (), 6, (b).sc, (b).sc, 25⟩] rfl (by rfl) HH3 rfl rfl hLo rfl HS3 (slS 0 rfl rfl (slS 1 rfl rfl (slS 2 rfl rfl (slS 3 rfl rfl (slS 4 rfl rfl (slS 5 rfl rfl (slS 6 rfl rfl (slS 7 rfl rfl (slS 8 rfl rfl (slS 9 rfl rfl (slS 10 rfl rfl (slS 11 rfl rfl (slL 7 (d := 7) rfl (trivial)))))))))))))) ?_ ?_
      · show ∀ i ∈ [0, 1, 2, 3, 4, 5, 6, 7], _
        refine zA (zC 0 _ rfl rfl hLo rfl rfl (fun _ _ _ _ => rfl) (fun b G w hb ho => zD (.inl rfl) (zG rfl (HS3.get 9 rfl)))) ?_
        refine zA (zC 1 _ rfl rfl hLo rfl rfl (fun _ _ _ _ => rfl) (fun b G w hb ho => zD (.inl rfl) (zG rfl (HS3.get 11 rfl)))) ?_
        refine zA (zC 2 _ rfl rfl hLo rfl rfl (fun _ _ _ _ => rfl) (fun b G w hb ho => zJ rfl (zB hLo 0 rfl HS3.1 rfl (hb 0 (by rfl))) (zB hLo 1 rfl HS3.1 rfl (hb 1 (by rfl))) (rb_beql Tryd.underlying4 (rfl) _ _ _))) ?_
        refine zA (zC 3 _ rfl rfl hLo rfl rfl (fun _ _ _ _ => rfl) (fun b G w hb ho => zD (.inl rfl) (zB hLo 2 rfl HS3.1 rfl (hb 2 (by rfl))))) ?_
        refine zA (zH 4 rfl rfl hLo rfl rfl (fun b G hb ho => zE rfl rfl rfl HS3.1 rfl (zB hLo 3 rfl HS3.1 rfl (hb 3 (by rfl))) rfl)) ?_
        refine zA (zH 5 rfl rfl hLo rfl rfl (fun b G hb ho => zE rfl rfl rfl HS3.1 rfl (zB hLo 3 rfl HS3.1 rfl (hb 3 (by rfl))) rfl)) ?_
        refine zA (zH 6 rfl rfl hLo rfl rfl (fun b G hb ho => zE rfl rfl rfl HS3.1 rfl (zB hLo 3 rfl HS3.1 rfl (hb 3 (by rfl))) rfl)) ?_
        refine zA (zC 7 _ rfl rfl hLo rfl rfl (fun _ _ _ _ => rfl) (fun b G w hb ho => zK rfl (zB hLo 3 rfl HS3.1 rfl (hb 3 (by rfl))) (rfl))) ?_
        exact zF
      clear hLo
      intro G a11 w11 hS hH
      have HS11 : Sl a11 56 [(0, .agg (FR () 6 ((a).sc))), (1, .agg (FR () 6 ((b).sc))), (2, .string (key)), (3, .int .i64 (mine)), (4, .bool below), (5, .pointer (some ⟨g1_0, 0, none⟩)), (6, .pointer (some ⟨g1_1, 0, none⟩)), (10, .bool false), (11, .int .i64 (((a).tell0 key).1)), (12, .bool true), (13, .int .i64 (((b).tell0 key).1)), (14, .bool false), (34, .bool false)] := hS
      have HH11 : Held w w11 [⟨g1_0, (), 6, (a).sc, 25⟩, ⟨g1_1, (), 6, (b).sc, 25⟩] := hH
      clear hS hH HS3 HH3
      refine then_ ?_
      refine wp_cond_false (HS11.get 12 rfl) ?_
      refine wp_skip ?_
      refine then_ ?_
      refine wp_seq ?_
      obtain ⟨r5, hr5⟩ : ∃ r : Bool, (decide ((mine : Int) < ((a).tell0 key).1)) = r := ⟨_, rfl⟩
      cases r5
      · skip
        cases below
        · skip
          refine wp_seq ?_
          have hLo : LOk [(0, 35, .val (.bool true)), (1, 36, .val (.bool true)), (2, 37, .val (.int .i64 (((a).tell0 key).1))), (3, 38, .val (.int .i64 (mine))), (4, 39, .val (.bool false)), (5, 40, .val (.bool false)), (6, 41, .val (.bool false)), (7, 42, .val (.bool false)), (8, 43, .val (undef)), (9, 44, .val (undef)), (10, 45, .val (undef)), (11, 46, .val (.bool false)), (12, 47, .val (.bool false)), (13, 48, .val (.bool false))] := lok (by rfl) (by rfl)
          refine zI (wE := w) (sz := 56) (n := 14) [0, 1, 3, 7, 15, 31, 63, 127, 255, 511, 1023, 2047, 4095, 8191] [(0, .val (.agg (FR () 6 ((a).sc)))), (1, .val (.agg (FR () 6 ((b).sc)))), (2, .val (.string (key))), (3, .val (.int .i64 (mine))), (4, .val (.bool false)), (5, .val (.pointer (some ⟨g1_0, 0, none⟩))), (6, .val (.pointer (some ⟨g1_1, 0, none⟩))), (10, .val (.bool false)), (11, .val (.int .i64 (((a).tell0 key).1))), (12, .val (.bool true)), (13, .val (.int .i64 (((b).tell0 key).1))), (14, .val (.bool false)), (34, .val (.bool false)), (48, .val (.bool false))] [(0, 35, .val (.bool true)), (1, 36, .val (.bool true)), (2, 37, .val (.int .i64 (((a).tell0 key).1))), (3, 38, .val (.int .i64 (mine))), (4, 39, .val (.bool false)), (5, 40, .val (.bool false)), (6, 41, .val (.bool false)), (7, 42, .val (.bool false)), (8, 43, .val (undef)), (9, 44, .val (undef)), (10, 45, .val (undef)), (11, 46, .val (.bool false)), (12, 47, .val (.bool false)), (13, 48, .val (.bool false))] [⟨g1_0, none, none, (), 6, (a).sc, (a).sc, 25⟩, ⟨g1_1, none, none, (), 6, (b).sc, (b).sc, 25⟩] rfl (by rfl) HH11 rfl rfl hLo rfl HS11 (slS 0 rfl rfl (slS 1 rfl rfl (slS 2 rfl rfl (slS 3 rfl rfl (slS 4 rfl rfl (slS 5 rfl rfl (slS 6 rfl rfl (slS 7 rfl rfl (slS 8 rfl rfl (slS 9 rfl rfl (slS 10 rfl rfl (slS 11 rfl rfl (slS 12 rfl rfl (slL 13 (d := 13) rfl (trivial))))))))))))))) ?_ ?_
          · show ∀ i ∈ [0, 1, 2, 3, 4, 5, 6, 7, 8, 9, 10, 11, 12, 13], _
            refine zA (zC 0 _ rfl rfl hLo rfl rfl (fun _ _ _ _ => rfl) (fun b G w hb ho => zD (.inl rfl) (zG rfl (HS11.get 9 rfl)))) ?_
            refine zA (zC 1 _ rfl rfl hLo rfl rfl (fun _ _ _ _ => rfl) (fun b G w hb ho => zD (.inl rfl) (zB hLo 0 rfl HS11.1 rfl (hb 0 (by rfl))))) ?_
            refine zA (zC 2 _ rfl rfl hLo rfl rfl (fun b G hb ho => zE rfl rfl rfl HS11.1 rfl (zB hLo 1 rfl HS11.1 rfl (hb 1 (by rfl))) rfl) (fun b G w hb ho => zD (.inl rfl) (zG rfl (HS11.get 8 rfl)))) ?_
            refine zA (zC 3 _ rfl rfl hLo rfl rfl (fun b G hb ho => zE rfl rfl rfl HS11.1 rfl (zB hLo 1 rfl HS11.1 rfl (hb 1 (by rfl))) rfl) (fun b G w hb ho => zD (.inl rfl) (zG rfl (HS11.get 3 rfl)))) ?_
            refine zA (zC 4 _ rfl rfl hLo rfl rfl (fun b G hb ho => zE rfl rfl rfl HS11.1 rfl (zB hLo 1 rfl HS11.1 rfl (hb 1 (by rfl))) rfl) (fun b G w hb ho => zJ rfl (zB hLo 2 rfl HS11.1 rfl (hb 2 (by rfl))) (zB hLo 3 rfl HS11.1 rfl (hb 3 (by rfl))) (rb_gtr hr5 _ _ _))) ?_
            refine zA (zC 5 _ rfl rfl hLo rfl rfl (fun b G hb ho => zE rfl rfl rfl HS11.1 rfl (zB hLo 1 rfl HS11.1 rfl (hb 1 (by rfl))) rfl) (fun b G w hb ho => zD (.inl rfl) (zB hLo 4 rfl HS11.1 rfl (hb 4 (by rfl))))) ?_
            refine zA (zC 6 _ rfl rfl hLo rfl rfl (fun b G hb ho => zE rfl rfl rfl HS11.1 rfl (zB hLo 5 rfl HS11.1 rfl (hb 5 (by rfl))) rfl) (fun b G w hb ho => zD (.inl rfl) (zG rfl (HS11.get 4 rfl)))) ?_
            refine zA (zC 7 _ rfl rfl hLo rfl rfl (fun b G hb ho => zE rfl rfl rfl HS11.1 rfl (zB hLo 5 rfl HS11.1 rfl (hb 5 (by rfl))) rfl) (fun b G w hb ho => zD (.inl rfl) (zB hLo 6 rfl HS11.1 rfl (hb 6 (by rfl))))) ?_
            refine zA (zH 8 rfl rfl hLo rfl rfl (fun b G hb ho => zE rfl rfl rfl HS11.1 rfl (zB hLo 7 rfl HS11.1 rfl (hb 7 (by rfl))) rfl)) ?_
            refine zA (zH 9 rfl rfl hLo rfl rfl (fun b G hb ho => zE rfl rfl rfl HS11.1 rfl (zB hLo 7 rfl HS11.1 rfl (hb 7 (by rfl))) rfl)) ?_
            refine zA (zH 10 rfl rfl hLo rfl rfl (fun b G hb ho => zE rfl rfl rfl HS11.1 rfl (zB hLo 7 rfl HS11.1 rfl (hb 7 (by rfl))) rfl)) ?_
            refine zA (zC 11 _ rfl rfl hLo rfl rfl (fun b G hb ho => zE rfl rfl rfl HS11.1 rfl (zB hLo 5 rfl HS11.1 rfl (hb 5 (by rfl))) rfl) (fun b G w hb ho => zK rfl (zB hLo 7 rfl HS11.1 rfl (hb 7 (by rfl))) (rfl))) ?_
            refine zA (zC 12 _ rfl rfl hLo rfl rfl (fun b G hb ho => zE rfl rfl rfl HS11.1 rfl (zB hLo 1 rfl HS11.1 rfl (hb 1 (by rfl))) rfl) (fun b G w hb ho => zK rfl (zB hLo 5 rfl HS11.1 rfl (hb 5 (by rfl))) (zB hLo 11 rfl HS11.1 rfl (hb 11 (by rfl))))) ?_
            refine zA (zC 13 _ rfl rfl hLo rfl rfl (fun _ _ _ _ => rfl) (fun b G w hb ho => zK rfl (zB hLo 1 rfl HS11.1 rfl (hb 1 (by rfl))) (zB hLo 12 rfl HS11.1 rfl (hb 12 (by rfl))))) ?_
            exact zF
          clear hLo
          intro G a12 w12 hS hH
          have HS12 : Sl a12 56 [(0, .agg (FR () 6 ((a).sc))), (1, .agg (FR () 6 ((b).sc))), (2, .string (key)), (3, .int .i64 (mine)), (4, .bool false), (5, .pointer (some ⟨g1_0, 0, none⟩)), (6, .pointer (some ⟨g1_1, 0, none⟩)), (10, .bool false), (11, .int .i64 (((a).tell0 key).1)), (12, .bool true), (13, .int .i64 (((b).tell0 key).1)), (14, .bool false), (34, .bool false), (48, .bool false)] := hS
          have HH12 : Held w w12 [⟨g1_0, (), 6, (a).sc, 25⟩, ⟨g1_1, (), 6, (b).sc, 25⟩] := hH
          clear hS hH HS11 HH11
          refine then_ ?_
          refine wp_cond_false (HS12.get 13 rfl) ?_
          refine wp_skip ?_
          refine then_ ?_
          refine wp_seq ?_
          have hLo : LOk [(0, 49, .val (.bool false)), (1, 50, .val (.bool true)), (2, 51, .val (.bool true)), (3, 52, .val (undef)), (4, 53, .val (undef)), (5, 54, .val (undef)), (6, 55, .val (.bool true)), (7, 10, .val (.bool true))] := lok (by rfl) (by rfl)
          refine zI (wE := w) (sz := 56) (n := 8) [0, 1, 3, 7, 15, 31, 63, 127] [(0, .val (.agg (FR () 6 ((a).sc)))), (1, .val (.agg (FR () 6 ((b).sc)))), (2, .val (.string (key))), (3, .val (.int .i64 (mine))), (4, .val (.bool false)), (5, .val (.pointer (some ⟨g1_0, 0, none⟩))), (6, .val (.pointer (some ⟨g1_1, 0, none⟩))), (11, .val (.int .i64 (((a).tell0 key).1))), (12, .val (.bool true)), (13, .val (.int .i64 (((b).tell0 key).1))), (14, .val (.bool false)), (34, .val (.bool false)), (48, .val (.bool false)), (10, .val (.bool true))] [(0, 49, .val (.bool false)), (1, 50, .val (.bool true)), (2, 51, .val (.bool true)), (3, 52, .val (undef)), (4, 53, .val (undef)), (5, 54, .val (undef)), (6, 55, .val (.bool true)), (7, 10, .val (.bool true))] [⟨g1_0, none, none, (), 6, (a).sc, (a).sc, 25⟩, ⟨g1_1, none, none, (), 6, (b).sc, (b).sc, 25⟩] rfl (by rfl) HH12 rfl rfl hLo rfl HS12 (slS 0 rfl rfl (slS 1 rfl rfl (slS 2 rfl rfl (slS 3 rfl rfl (slS 4 rfl rfl (slS 5 rfl rfl (slS 6 rfl rfl (slS 8 rfl rfl (slS 9 rfl rfl (slS 10 rfl rfl (slS 11 rfl rfl (slS 12 rfl rfl (slS 13 rfl rfl (slL 7 (d := 7) rfl (trivial))))))))))))))) ?_ ?_
          · show ∀ i ∈ [0, 1, 2, 3, 4, 5, 6, 7], _
            refine zA (zC 0 _ rfl rfl hLo rfl rfl (fun _ _ _ _ => rfl) (fun b G w hb ho => zD (.inl rfl) (zG rfl (HS12.get 11 rfl)))) ?_
            refine zA (zC 1 _ rfl rfl hLo rfl rfl (fun _ _ _ _ => rfl) (fun b G w hb ho => yJ rfl (zB hLo 0 rfl HS12.1 rfl (hb 0 (by rfl))) (ru_not _))) ?_
            refine zA (zC 2 _ rfl rfl hLo rfl rfl (fun _ _ _ _ => rfl) (fun b G w hb ho => zD (.inl rfl) (zB hLo 1 rfl HS12.1 rfl (hb 1 (by rfl))))) ?_
            refine zA (zH 3 rfl rfl hLo rfl rfl (fun b G hb ho => zE rfl rfl rfl HS12.1 rfl (zB hLo 2 rfl HS12.1 rfl (hb 2 (by rfl))) rfl)) ?_
            refine zA (zH 4 rfl rfl hLo rfl rfl (fun b G hb ho => zE rfl rfl rfl HS12.1 rfl (zB hLo 2 rfl HS12.1 rfl (hb 2 (by rfl))) rfl)) ?_
            refine zA (zH 5 rfl rfl hLo rfl rfl (fun b G hb ho => zE rfl rfl rfl HS12.1 rfl (zB hLo 2 rfl HS12.1 rfl (hb 2 (by rfl))) rfl)) ?_
            refine zA (zC 6 _ rfl rfl hLo rfl rfl (fun _ _ _ _ => rfl) (fun b G w hb ho => zK rfl (zB hLo 2 rfl HS12.1 rfl (hb 2 (by rfl))) (rfl))) ?_
            refine zA (zC 7 _ rfl rfl hLo rfl rfl (fun _ _ _ _ => rfl) (fun b G w hb ho => zD (.inr rfl) (zB hLo 6 rfl HS12.1 rfl (hb 6 (by rfl))))) ?_
            exact zF
          clear hLo
          intro G a13 w13 hS hH
          have HS13 : Sl a13 56 [(0, .agg (FR () 6 ((a).sc))), (1, .agg (FR () 6 ((b).sc))), (2, .string (key)), (3, .int .i64 (mine)), (4, .bool false), (5, .pointer (some ⟨g1_0, 0, none⟩)), (6, .pointer (some ⟨g1_1, 0, none⟩)), (11, .int .i64 (((a).tell0 key).1)), (12, .bool true), (13, .int .i64 (((b).tell0 key).1)), (14, .bool false), (34, .bool false), (48, .bool false), (10, .bool true)] := hS
          have HH13 : Held w w13 [⟨g1_0, (), 6, (a).sc, 25⟩, ⟨g1_1, (), 6, (b).sc, 25⟩] := hH
          clear hS hH HS12 HH12
          refine then_ ?_
          refine wp_ret ?_
          repeat (first | refine zP ?_ | refine zL ?_)
          exact yI rfl HS13.2.1 (HS13.get 13 rfl) ⟨turns_ret (by unfold turnsB; simp only [hr1, hr2, hr5]; try rfl), HH13.1⟩
        · skip
          obtain ⟨r6, hr6⟩ : ∃ r : Bool, (((((a).tell0 key).1 : Int) == mine)) = r := ⟨_, rfl⟩
          refine wp_seq ?_
          have hLo : LOk [(0, 35, .val (.bool true)), (1, 36, .val (.bool true)), (2, 37, .val (.int .i64 (((a).tell0 key).1))), (3, 38, .val (.int .i64 (mine))), (4, 39, .val (.bool false)), (5, 40, .val (.bool false)), (6, 41, .val (.bool true)), (7, 42, .val (.bool true)), (8, 43, .val (.int .i64 (((a).tell0 key).1))), (9, 44, .val (.int .i64 (mine))), (10, 45, .val (.bool r6)), (11, 46, .val (.bool r6)), (12, 47, .val (.bool r6)), (13, 48, .val (.bool r6))] := lok (by rfl) (by rfl)
          refine zI (wE := w) (sz := 56) (n := 14) [0, 1, 3, 7, 15, 31, 63, 127, 255, 511, 1023, 2047, 4095, 8191] [(0, .val (.agg (FR () 6 ((a).sc)))), (1, .val (.agg (FR () 6 ((b).sc)))), (2, .val (.string (key))), (3, .val (.int .i64 (mine))), (4, .val (.bool true)), (5, .val (.pointer (some ⟨g1_0, 0, none⟩))), (6, .val (.pointer (some ⟨g1_1, 0, none⟩))), (10, .val (.bool false)), (11, .val (.int .i64 (((a).tell0 key).1))), (12, .val (.bool true)), (13, .val (.int .i64 (((b).tell0 key).1))), (14, .val (.bool false)), (34, .val (.bool false)), (48, .val (.bool r6))] [(0, 35, .val (.bool true)), (1, 36, .val (.bool true)), (2, 37, .val (.int .i64 (((a).tell0 key).1))), (3, 38, .val (.int .i64 (mine))), (4, 39, .val (.bool false)), (5, 40, .val (.bool false)), (6, 41, .val (.bool true)), (7, 42, .val (.bool true)), (8, 43, .val (.int .i64 (((a).tell0 key).1))), (9, 44, .val (.int .i64 (mine))), (10, 45, .val (.bool r6)), (11, 46, .val (.bool r6)), (12, 47, .val (.bool r6)), (13, 48, .val (.bool r6))] [⟨g1_0, none, none, (), 6, (a).sc, (a).sc, 25⟩, ⟨g1_1, none, none, (), 6, (b).sc, (b).sc, 25⟩] rfl (by rfl) HH11 rfl rfl hLo rfl HS11 (slS 0 rfl rfl (slS 1 rfl rfl (slS 2 rfl rfl (slS 3 rfl rfl (slS 4 rfl rfl (slS 5 rfl rfl (slS 6 rfl rfl (slS 7 rfl rfl (slS 8 rfl rfl (slS 9 rfl rfl (slS 10 rfl rfl (slS 11 rfl rfl (slS 12 rfl rfl (slL 13 (d := 13) rfl (trivial))))))))))))))) ?_ ?_
          · show ∀ i ∈ [0, 1, 2, 3, 4, 5, 6, 7, 8, 9, 10, 11, 12, 13], _
            refine zA (zC 0 _ rfl rfl hLo rfl rfl (fun _ _ _ _ => rfl) (fun b G w hb ho => zD (.inl rfl) (zG rfl (HS11.get 9 rfl)))) ?_
            refine zA (zC 1 _ rfl rfl hLo rfl rfl (fun _ _ _ _ => rfl) (fun b G w hb ho => zD (.inl rfl) (zB hLo 0 rfl HS11.1 rfl (hb 0 (by rfl))))) ?_
            refine zA (zC 2 _ rfl rfl hLo rfl rfl (fun b G hb ho => zE rfl rfl rfl HS11.1 rfl (zB hLo 1 rfl HS11.1 rfl (hb 1 (by rfl))) rfl) (fun b G w hb ho => zD (.inl rfl) (zG rfl (HS11.get 8 rfl)))) ?_
            refine zA (zC 3 _ rfl rfl hLo rfl rfl (fun b G hb ho => zE rfl rfl rfl HS11.1 rfl (zB hLo 1 rfl HS11.1 rfl (hb 1 (by rfl))) rfl) (fun b G w hb ho => zD (.inl rfl) (zG rfl (HS11.get 3 rfl)))) ?_
            refine zA (zC 4 _ rfl rfl hLo rfl rfl (fun b G hb ho => zE rfl rfl rfl HS11.1 rfl (zB hLo 1 rfl HS11.1 rfl (hb 1 (by rfl))) rfl) (fun b G w hb ho => zJ rfl (zB hLo 2 rfl HS11.1 rfl (hb 2 (by rfl))) (zB hLo 3 rfl HS11.1 rfl (hb 3 (by rfl))) (rb_gtr hr5 _ _ _))) ?_
            refine zA (zC 5 _ rfl rfl hLo rfl rfl (fun b G hb ho => zE rfl rfl rfl HS11.1 rfl (zB hLo 1 rfl HS11.1 rfl (hb 1 (by rfl))) rfl) (fun b G w hb ho => zD (.inl rfl) (zB hLo 4 rfl HS11.1 rfl (hb 4 (by rfl))))) ?_
            refine zA (zC 6 _ rfl rfl hLo rfl rfl (fun b G hb ho => zE rfl rfl rfl HS11.1 rfl (zB hLo 5 rfl HS11.1 rfl (hb 5 (by rfl))) rfl) (fun b G w hb ho => zD (.inl rfl) (zG rfl (HS11.get 4 rfl)))) ?_
            refine zA (zC 7 _ rfl rfl hLo rfl rfl (fun b G hb ho => zE rfl rfl rfl HS11.1 rfl (zB hLo 5 rfl HS11.1 rfl (hb 5 (by rfl))) rfl) (fun b G w hb ho => zD (.inl rfl) (zB hLo 6 rfl HS11.1 rfl (hb 6 (by rfl))))) ?_
            refine zA (zC 8 _ rfl rfl hLo rfl rfl (fun b G hb ho => zE rfl rfl rfl HS11.1 rfl (zB hLo 7 rfl HS11.1 rfl (hb 7 (by rfl))) rfl) (fun b G w hb ho => zD (.inl rfl) (zG rfl (HS11.get 8 rfl)))) ?_
            refine zA (zC 9 _ rfl rfl hLo rfl rfl (fun b G hb ho => zE rfl rfl rfl HS11.1 rfl (zB hLo 7 rfl HS11.1 rfl (hb 7 (by rfl))) rfl) (fun b G w hb ho => zD (.inl rfl) (zG rfl (HS11.get 3 rfl)))) ?_
            refine zA (zC 10 _ rfl rfl hLo rfl rfl (fun b G hb ho => zE rfl rfl rfl HS11.1 rfl (zB hLo 7 rfl HS11.1 rfl (hb 7 (by rfl))) rfl) (fun b G w hb ho => zJ rfl (zB hLo 8 rfl HS11.1 rfl (hb 8 (by rfl))) (zB hLo 9 rfl HS11.1 rfl (hb 9 (by rfl))) (rb_eql hr6 _ _ _))) ?_
            refine zA (zC 11 _ rfl rfl hLo rfl rfl (fun b G hb ho => zE rfl rfl rfl HS11.1 rfl (zB hLo 5 rfl HS11.1 rfl (hb 5 (by rfl))) rfl) (fun b G w hb ho => zK rfl (zB hLo 7 rfl HS11.1 rfl (hb 7 (by rfl))) (zB hLo 10 rfl HS11.1 rfl (hb 10 (by rfl))))) ?_
            refine zA (zC 12 _ rfl rfl hLo rfl rfl (fun b G hb ho => zE rfl rfl rfl HS11.1 rfl (zB hLo 1 rfl HS11.1 rfl (hb 1 (by rfl))) rfl) (fun b G w hb ho => zK rfl (zB hLo 5 rfl HS11.1 rfl (hb 5 (by rfl))) (zB hLo 11 rfl HS11.1 rfl (hb 11 (by rfl))))) ?_
            refine zA (zC 13 _ rfl rfl hLo rfl rfl (fun _ _ _ _ => rfl) (fun b G w hb ho => zK rfl (zB hLo 1 rfl HS11.1 rfl (hb 1 (by rfl))) (zB hLo 12 rfl HS11.1 rfl (hb 12 (by rfl))))) ?_
            exact zF
          clear hLo
          intro G a14 w14 hS hH
          have HS14 : Sl a14 56 [(0, .agg (FR () 6 ((a).sc))), (1, .agg (FR () 6 ((b).sc))), (2, .string (key)), (3, .int .i64 (mine)), (4, .bool true), (5, .pointer (some ⟨g1_0, 0, none⟩)), (6, .pointer (some ⟨g1_1, 0, none⟩)), (10, .bool false), (11, .int .i64 (((a).tell0 key).1)), (12, .bool true), (13, .int .i64 (((b).tell0 key).1)), (14, .bool false), (34, .bool false), (48, .bool r6)] := hS
          have HH14 : Held w w14 [⟨g1_0, (), 6, (a).sc, 25⟩, ⟨g1_1, (), 6, (b).sc, 25⟩] := hH
          clear hS hH HS11 HH11
          refine then_ ?_
          cases r6
          · skip
            refine wp_cond_false (HS14.get 13 rfl) ?_
            refine wp_skip ?_
            refine then_ ?_
            refine wp_seq ?_
            have hLo : LOk [(0, 49, .val (.bool false)), (1, 50, .val (.bool true)), (2, 51, .val (.bool true)), (3, 52, .val (undef)), (4, 53, .val (undef)), (5, 54, .val (undef)), (6, 55, .val (.bool true)), (7, 10, .val (.bool true))] := lok (by rfl) (by rfl)
            refine zI (wE := w) (sz := 56) (n := 8) [0, 1, 3, 7, 15, 31, 63, 127] [(0, .val (.agg (FR () 6 ((a).sc)))), (1, .val (.agg (FR () 6 ((b).sc)))), (2, .val (.string (key))), (3, .val (.int .i64 (mine))), (4, .val (.bool true)), (5, .val (.pointer (some ⟨g1_0, 0, none⟩))), (6, .val (.pointer (some ⟨g1_1, 0, none⟩))), (11, .val (.int .i64 (((a).tell0 key).1))), (12, .val (.bool true)), (13, .val (.int .i64 (((b).tell0 key).1))), (14, .val (.bool false)), (34, .val (.bool false)), (48, .val (.bool false)), (10, .val (.bool true))] [(0, 49, .val (.bool false)), (1, 50, .val (.bool true)), (2, 51, .val (.bool true)), (3, 52, .val (undef)), (4, 53, .val (undef)), (5, 54, .val (undef)), (6, 55, .val (.bool true)), (7, 10, .val (.bool true))] [⟨g1_0, none, none, (), 6, (a).sc, (a).sc, 25⟩, ⟨g1_1, none, none, (), 6, (b).sc, (b).sc, 25⟩] rfl (by rfl) HH14 rfl rfl hLo rfl HS14 (slS 0 rfl rfl (slS 1 rfl rfl (slS 2 rfl rfl (slS 3 rfl rfl (slS 4 rfl rfl (slS 5 rfl rfl (slS 6 rfl rfl (slS 8 rfl rfl (slS 9 rfl rfl (slS 10 rfl rfl (slS 11 rfl rfl (slS 12 rfl rfl (slS 13 rfl rfl (slL 7 (d := 7) rfl (trivial))))))))))))))) ?_ ?_
            · show ∀ i ∈ [0, 1, 2, 3, 4, 5, 6, 7], _
              refine zA (zC 0 _ rfl rfl hLo rfl rfl (fun _ _ _ _ => rfl) (fun b G w hb ho => zD (.inl rfl) (zG rfl (HS14.get 11 rfl)))) ?_
              refine zA (zC 1 _ rfl rfl hLo rfl rfl (fun _ _ _ _ => rfl) (fun b G w hb ho => yJ rfl (zB hLo 0 rfl HS14.1 rfl (hb 0 (by rfl))) (ru_not _))) ?_
              refine zA (zC 2 _ rfl rfl hLo rfl rfl (fun _ _ _ _ => rfl) (fun b G w hb ho => zD (.inl rfl) (zB hLo 1 rfl HS14.1 rfl (hb 1 (by rfl))))) ?_
              refine zA (zH 3 rfl rfl hLo rfl rfl (fun b G hb ho => zE rfl rfl rfl HS14.1 rfl (zB hLo 2 rfl HS14.1 rfl (hb 2 (by rfl))) rfl)) ?_
              refine zA (zH 4 rfl rfl hLo rfl rfl (fun b G hb ho => zE rfl rfl rfl HS14.1 rfl (zB hLo 2 rfl HS14.1 rfl (hb 2 (by rfl))) rfl)) ?_
              refine zA (zH 5 rfl rfl hLo rfl rfl (fun b G hb ho => zE rfl rfl rfl HS14.1 rfl (zB hLo 2 rfl HS14.1 rfl (hb 2 (by rfl))) rfl)) ?_
              refine zA (zC 6 _ rfl rfl hLo rfl rfl (fun _ _ _ _ => rfl) (fun b G w hb ho => zK rfl (zB hLo 2 rfl HS14.1 rfl (hb 2 (by rfl))) (rfl))) ?_
              refine zA (zC 7 _ rfl rfl hLo rfl rfl (fun _ _ _ _ => rfl) (fun b G w hb ho => zD (.inr rfl) (zB hLo 6 rfl HS14.1 rfl (hb 6 (by rfl))))) ?_
              exact zF
            clear hLo
            intro G a15 w15 hS hH
            have HS15 : Sl a15 56 [(0, .agg (FR () 6 ((a).sc))), (1, .agg (FR () 6 ((b).sc))), (2, .string (key)), (3, .int .i64 (mine)), (4, .bool true), (5, .pointer (some ⟨g1_0, 0, none⟩)), (6, .pointer (some ⟨g1_1, 0, none⟩)), (11, .int .i64 (((a).tell0 key).1)), (12, .bool true), (13, .int .i64 (((b).tell0 key).1)), (14, .bool false), (34, .bool false), (48, .bool false), (10, .bool true)] := hS
            have HH15 : Held w w15 [⟨g1_0, (), 6, (a).sc, 25⟩, ⟨g1_1, (), 6, (b).sc, 25⟩] := hH
            clear hS hH HS14 HH14
            refine then_ ?_
            refine wp_ret ?_
            repeat (first | refine zP ?_ | refine zL ?_)
            exact yI rfl HS15.2.1 (HS15.get 13 rfl) ⟨turns_ret (by unfold turnsB; simp only [hr1, hr2, hr5, hr6]; try rfl), HH15.1⟩
          · skip
            refine wp_cond_true (HS14.get 13 rfl) ?_
            refine wp_seq ?_
            have hLo : LOk [(0, 10, .val (.bool false))] := lok (by rfl) (by rfl)
            refine zI (wE := w) (sz := 56) (n := 1) [0] [(0, .val (.agg (FR () 6 ((a).sc)))), (1, .val (.agg (FR () 6 ((b).sc)))), (2, .val (.string (key))), (3, .val (.int .i64 (mine))), (4, .val (.bool true)), (5, .val (.pointer (some ⟨g1_0, 0, none⟩))), (6, .val (.pointer (some ⟨g1_1, 0, none⟩))), (11, .val (.int .i64 (((a).tell0 key).1))), (12, .val (.bool true)), (13, .val (.int .i64 (((b).tell0 key).1))), (14, .val (.bool false)), (34, .val (.bool false)), (48, .val (.bool true)), (10, .val (.bool false))] [(0, 10, .val (.bool false))] [⟨g1_0, none, none, (), 6, (a).sc, (a).sc, 25⟩, ⟨g1_1, none, none, (), 6, (b).sc, (b).sc, 25⟩] rfl (by rfl) HH14 rfl rfl hLo rfl HS14 (slS 0 rfl rfl (slS 1 rfl rfl (slS 2 rfl rfl (slS 3 rfl rfl (slS 4 rfl rfl (slS 5 rfl rfl (slS 6 rfl rfl (slS 8 rfl rfl (slS 9 rfl rfl (slS 10 rfl rfl (slS 11 rfl rfl (slS 12 rfl rfl (slS 13 rfl rfl (slL 0 (d := 0) rfl (trivial))))))))))))))) ?_ ?_
            · show ∀ i ∈ [0], _
              refine zA (zC 0 _ rfl rfl hLo rfl rfl (fun _ _ _ _ => rfl) (fun b G w hb ho => zD (.inr rfl) (rfl))) ?_
              exact zF
            clear hLo
            intro G a16 w16 hS hH
            have HS16 : Sl a16 56 [(0, .agg (FR () 6 ((a).sc))), (1, .agg (FR () 6 ((b).sc))), (2, .string (key)), (3, .int .i64 (mine)), (4, .bool true), (5, .pointer (some ⟨g1_0, 0, none⟩)), (6, .pointer (some ⟨g1_1, 0, none⟩)), (11, .int .i64 (((a).tell0 key).1)), (12, .bool true), (13, .int .i64 (((b).tell0 key).1)), (14, .bool false), (34, .bool false), (48, .bool true), (10, .bool false)] := hS
            have HH16 : Held w w16 [⟨g1_0, (), 6, (a).sc, 25⟩, ⟨g1_1, (), 6, (b).sc, 25⟩] := hH
            clear hS hH HS14 HH14
            refine then_ ?_
            refine wp_ret ?_
            repeat (first | refine zP ?_ | refine zL ?_)
            exact yI rfl HS16.2.1 (HS16.get 13 rfl) ⟨turns_ret (by unfold turnsB; simp only [hr1, hr2, hr5, hr6]; try rfl), HH16.1⟩
      · skip
        refine wp_seq ?_
        have hLo : LOk [(0, 35, .val (.bool true)), (1, 36, .val (.bool true)), (2, 37, .val (.int .i64 (((a).tell0 key).1))), (3, 38, .val (.int .i64 (mine))), (4, 39, .val (.bool true)), (5, 40, .val (.bool true)), (6, 41, .val (undef)), (7, 42, .val (undef)), (8, 43, .val (undef)), (9, 44, .val (undef)), (10, 45, .val (undef)), (11, 46, .val (undef)), (12, 47, .val (.bool true)), (13, 48, .val (.bool true))] := lok (by rfl) (by rfl)
        refine zI (wE := w) (sz := 56) (n := 14) [0, 1, 3, 7, 15, 31, 63, 127, 255, 511, 1023, 2047, 4095, 8191] [(0, .val (.agg (FR () 6 ((a).sc)))), (1, .val (.agg (FR () 6 ((b).sc)))), (2, .val (.string (key))), (3, .val (.int .i64 (mine))), (4, .val (.bool below)), (5, .val (.pointer (some ⟨g1_0, 0, none⟩))), (6, .val (.pointer (some ⟨g1_1, 0, none⟩))), (10, .val (.bool false)), (11, .val (.int .i64 (((a).tell0 key).1))), (12, .val (.bool true)), (13, .val (.int .i64 (((b).tell0 key).1))), (14, .val (.bool false)), (34, .val (.bool false)), (48, .val (.bool true))] [(0, 35, .val (.bool true)), (1, 36, .val (.bool true)), (2, 37, .val (.int .i64 (((a).tell0 key).1))), (3, 38, .val (.int .i64 (mine))), (4, 39, .val (.bool true)), (5, 40, .val (.bool true)), (6, 41, .val (undef)), (7, 42, .val (undef)), (8, 43, .val (undef)), (9, 44, .val (undef)), (10, 45, .val (undef)), (11, 46, .val (undef)), (12, 47, .val (.bool true)), (13, 48, .val (.bool true))] [⟨g1_0, none, none, (), 6, (a).sc, (a).sc, 25⟩, ⟨g1_1, none, none, (), 6, (b).sc, (b).sc, 25⟩] rfl (by rfl) HH11 rfl rfl hLo rfl HS11 (slS 0 rfl rfl (slS 1 rfl rfl (slS 2 rfl rfl (slS 3 rfl rfl (slS 4 rfl rfl (slS 5 rfl rfl (slS 6 rfl rfl (slS 7 rfl rfl (slS 8 rfl rfl (slS 9 rfl rfl (slS 10 rfl rfl (slS 11 rfl rfl (slS 12 rfl rfl (slL 13 (d := 13) rfl (trivial))))))))))))))) ?_ ?_
        · show ∀ i ∈ [0, 1, 2, 3, 4, 5, 6, 7, 8, 9, 10, 11, 12, 13], _
          refine zA (zC 0 _ rfl rfl hLo rfl rfl (fun _ _ _ _ => rfl) (fun b G w hb ho => zD (.inl rfl) (zG rfl (HS11.get 9 rfl)))) ?_
          refine zA (zC 1 _ rfl rfl hLo rfl rfl (fun _ _ _ _ => rfl) (fun b G w hb ho => zD (.inl rfl) (zB hLo 0 rfl HS11.1 rfl (hb 0 (by rfl))))) ?_
          refine zA (zC 2 _ rfl rfl hLo rfl rfl (fun b G hb ho => zE rfl rfl rfl HS11.1 rfl (zB hLo 1 rfl HS11.1 rfl (hb 1 (by rfl))) rfl) (fun b G w hb ho => zD (.inl rfl) (zG rfl (HS11.get 8 rfl)))) ?_
          refine zA (zC 3 _ rfl rfl hLo rfl rfl (fun b G hb ho => zE rfl rfl rfl HS11.1 rfl (zB hLo 1 rfl HS11.1 rfl (hb 1 (by rfl))) rfl) (fun b G w hb ho => zD (.inl rfl) (zG rfl (HS11.get 3 rfl)))) ?_
          refine zA (zC 4 _ rfl rfl hLo rfl rfl (fun b G hb ho => zE rfl rfl rfl HS11.1 rfl (zB hLo 1 rfl HS11.1 rfl (hb 1 (by rfl))) rfl) (fun b G w hb ho => zJ rfl (zB hLo 2 rfl HS11.1 rfl (hb 2 (by rfl))) (zB hLo 3 rfl HS11.1 rfl (hb 3 (by rfl))) (rb_gtr hr5 _ _ _))) ?_
          refine zA (zC 5 _ rfl rfl hLo rfl rfl (fun b G hb ho => zE rfl rfl rfl HS11.1 rfl (zB hLo 1 rfl HS11.1 rfl (hb 1 (by rfl))) rfl) (fun b G w hb ho => zD (.inl rfl) (zB hLo 4 rfl HS11.1 rfl (hb 4 (by rfl))))) ?_
          refine zA (zH 6 rfl rfl hLo rfl rfl (fun b G hb ho => zE rfl rfl rfl HS11.1 rfl (zB hLo 5 rfl HS11.1 rfl (hb 5 (by rfl))) rfl)) ?_
          refine zA (zH 7 rfl rfl hLo rfl rfl (fun b G hb ho => zE rfl rfl rfl HS11.1 rfl (zB hLo 5 rfl HS11.1 rfl (hb 5 (by rfl))) rfl)) ?_
          refine zA (zH 8 rfl rfl hLo rfl rfl (fun b G hb ho => yK rfl rfl rfl HS11.1 rfl (zB hLo 7 rfl HS11.1 rfl (hb 7 (by rfl))))) ?_
          refine zA (zH 9 rfl rfl hLo rfl rfl (fun b G hb ho => yK rfl rfl rfl HS11.1 rfl (zB hLo 7 rfl HS11.1 rfl (hb 7 (by rfl))))) ?_
          refine zA (zH 10 rfl rfl hLo rfl rfl (fun b G hb ho => yK rfl rfl rfl HS11.1 rfl (zB hLo 7 rfl HS11.1 rfl (hb 7 (by rfl))))) ?_
          refine zA (zH 11 rfl rfl hLo rfl rfl (fun b G hb ho => zE rfl rfl rfl HS11.1 rfl (zB hLo 5 rfl HS11.1 rfl (hb 5 (by rfl))) rfl)) ?_
          refine zA (zC 12 _ rfl rfl hLo rfl rfl (fun b G hb ho => zE rfl rfl rfl HS11.1 rfl (zB hLo 1 rfl HS11.1 rfl (hb 1 (by rfl))) rfl) (fun b G w hb ho => zK rfl (zB hLo 5 rfl HS11.1 rfl (hb 5 (by rfl))) (rfl))) ?_
          refine zA (zC 13 _ rfl rfl hLo rfl rfl (fun _ _ _ _ => rfl) (fun b G w hb ho => zK rfl (zB hLo 1 rfl HS11.1 rfl (hb 1 (by rfl))) (zB hLo 12 rfl HS11.1 rfl (hb 12 (by rfl))))) ?_
          exact zF
        clear hLo
        intro G a17 w17 hS hH
        have HS17 : Sl a17 56 [(0, .agg (FR () 6 ((a).sc))), (1, .agg (FR () 6 ((b).sc))), (2, .string (key)), (3, .int .i64 (mine)), (4, .bool below), (5, .pointer (some ⟨g1_0, 0, none⟩)), (6, .pointer (some ⟨g1_1, 0, none⟩)), (10, .bool false), (11, .int .i64 (((a).tell0 key).1)), (12, .bool true), (13, .int .i64 (((b).tell0 key).1)), (14, .bool false), (34, .bool false), (48, .bool true)] := hS
        have HH17 : Held w w17 [⟨g1_0, (), 6, (a).sc, 25⟩, ⟨g1_1, (), 6, (b).sc, 25⟩] := hH
        clear hS hH HS11 HH11
        refine then_ ?_
        refine wp_cond_true (HS17.get 13 rfl) ?_
        refine wp_seq ?_
        have hLo : LOk [(0, 10, .val (.bool false))] := lok (by rfl) (by rfl)
        refine zI (wE := w) (sz := 56) (n := 1) [0] [(0, .val (.agg (FR () 6 ((a).sc)))), (1, .val (.agg (FR () 6 ((b).sc)))), (2, .val (.string (key))), (3, .val (.int .i64 (mine))), (4, .val (.bool below)), (5, .val (.pointer (some ⟨g1_0, 0, none⟩))), (6, .val (.pointer (some ⟨g1_1, 0, none⟩))), (11, .val (.int .i64 (((a).tell0 key).1))), (12, .val (.bool true)), (13, .val (.int .i64 (((b).tell0 key).1))), (14, .val (.bool false)), (34, .val (.bool false)), (48, .val (.bool true)), (10, .val (.bool false))] [(0, 10, .val (.bool false))] [⟨g1_0, none, none, (), 6, (a).sc, (a).sc, 25⟩, ⟨g1_1, none, none, (), 6, (b).sc, (b).sc, 25⟩] rfl (by rfl) HH17 rfl rfl hLo rfl HS17 (slS 0 rfl rfl (slS 1 rfl rfl (slS 2 rfl rfl (slS 3 rfl rfl (slS 4 rfl rfl (slS 5 rfl rfl (slS 6 rfl rfl (slS 8 rfl rfl (slS 9 rfl rfl (slS 10 rfl rfl (slS 11 rfl rfl (slS 12 rfl rfl (slS 13 rfl rfl (slL 0 (d := 0) rfl (trivial))))))))))))))) ?_ ?_
        · show ∀ i ∈ [0], _
          refine zA (zC 0 _ rfl rfl hLo rfl rfl (fun _ _ _ _ => rfl) (fun b G w hb ho => zD (.inr rfl) (rfl))) ?_
          exact zF
        clear hLo
        intro G a18 w18 hS hH
        have HS18 : Sl a18 56 [(0, .agg (FR () 6 ((a).sc))), (1, .agg (FR () 6 ((b).sc))), (2, .string (key)), (3, .int .i64 (mine)), (4, .bool below), (5, .pointer (some ⟨g1_0, 0, none⟩)), (6, .pointer (some ⟨g1_1, 0, none⟩)), (11, .int .i64 (((a).tell0 key).1)), (12, .bool true), (13, .int .i64 (((b).tell0 key).1)), (14, .bool false), (34, .bool false), (48, .bool true), (10, .bool false)] := hS
        have HH18 : Held w w18 [⟨g1_0, (), 6, (a).sc, 25⟩, ⟨g1_1, (), 6, (b).sc, 25⟩] := hH
        clear hS hH HS17 HH17
        refine then_ ?_
        refine wp_ret ?_
        repeat (first | refine zP ?_ | refine zL ?_)
        exact yI rfl HS18.2.1 (HS18.get 13 rfl) ⟨turns_ret (by unfold turnsB; simp only [hr1, hr2, hr5]; try rfl), HH18.1⟩
    · skip
      obtain ⟨r7, hr7⟩ : ∃ r : Bool, (((((a).tell0 key).1 : Int) == ((b).tell0 key).1)) = r := ⟨_, rfl⟩
      refine wp_seq ?_
      have hLo : LOk [(0, 27, .val (.bool true)), (1, 28, .val (.bool true)), (2, 29, .val (.bool true)), (3, 30, .val (.bool true)), (4, 31, .val (.int .i64 (((a).tell0 key).1))), (5, 32, .val (.int .i64 (((b).tell0 key).1))), (6, 33, .val (.bool r7)), (7, 34, .val (.bool r7))] := lok (by rfl) (by rfl)
      refine zI (wE := w) (sz := 56) (n := 8) [0, 1, 3, 7, 15, 31, 63, 127] [(0, .val (.agg (FR () 6 ((a).sc)))), (1, .val (.agg (FR () 6 ((b).sc)))), (2, .val (.string (key))), (3, .val (.int .i64 (mine))), (4, .val (.bool below)), (5, .val (.pointer (some ⟨g1_0, 0, none⟩))), (6, .val (.pointer (some ⟨g1_1, 0, none⟩))), (10, .val (.bool false)), (11, .val (.int .i64 (((a).tell0 key).1))), (12, .val (.bool true)), (13, .val (.int .i64 (((b).tell0 key).1))), (14, .val (.bool true)), (34, .val (.bool r7))] [(0, 27, .val (.bool true)), (1, 28, .val (.bool true)), (2, 29, .val (.bool true)), (3, 30, .val (.bool true)), (4, 31, .val (.int .i64 (((a).tell0 key).1))), (5, 32, .val (.int .i64 (((b).tell0 key).1))), (6, 33, .val (.bool r7)), (7, 34, .val (.bool r7))] [⟨g1_0, none, none, (), 6, (a).sc, (a).sc, 25⟩, ⟨g1_1, none, none, (), 6, (b).sc, (b).sc, 25⟩] rfl (by rfl) HH3 rfl rfl hLo rfl HS3 (slS 0 rfl rfl (slS 1 rfl rfl (slS 2 rfl rfl (slS 3 rfl rfl (slS 4 rfl rfl (slS 5 rfl rfl (slS 6 rfl rfl (slS 7 rfl rfl (slS 8 rfl rfl (slS 9 rfl rfl (slS 10 rfl rfl (slS 11 rfl rfl (slL 7 (d := 7) rfl (trivial)))))))))))))) ?_ ?_
      · show ∀ i ∈ [0, 1, 2, 3, 4, 5, 6, 7], _
        refine zA (zC 0 _ rfl rfl hLo rfl rfl (fun _ _ _ _ => rfl) (fun b G w hb ho => zD (.inl rfl) (zG rfl (HS3.get 9 rfl)))) ?_
        refine zA (zC 1 _ rfl rfl hLo rfl rfl (fun _ _ _ _ => rfl) (fun b G w hb ho => zD (.inl rfl) (zG rfl (HS3.get 11 rfl)))) ?_
        refine zA (zC 2 _ rfl rfl hLo rfl rfl (fun _ _ _ _ => rfl) (fun b G w hb ho => zJ rfl (zB hLo 0 rfl HS3.1 rfl (hb 0 (by rfl))) (zB hLo 1 rfl HS3.1 rfl (hb 1 (by rfl))) (rb_beql Tryd.underlying4 (rfl) _ _ _))) ?_
        refine zA (zC 3 _ rfl rfl hLo rfl rfl (fun _ _ _ _ => rfl) (fun b G w hb ho => zD (.inl rfl) (zB hLo 2 rfl HS3.1 rfl (hb 2 (by rfl))))) ?_
        refine zA (zC 4 _ rfl rfl hLo rfl rfl (fun b G hb ho => zE rfl rfl rfl HS3.1 rfl (zB hLo 3 rfl HS3.1 rfl (hb 3 (by rfl))) rfl) (fun b G w hb ho => zD (.inl rfl) (zG rfl (HS3.get 8 rfl)))) ?_
        refine zA (zC 5 _ rfl rfl hLo rfl rfl (fun b G hb ho => zE rfl rfl rfl HS3.1 rfl (zB hLo 3 rfl HS3.1 rfl (hb 3 (by rfl))) rfl) (fun b G w hb ho => zD (.inl rfl) (zG rfl (HS3.get 10 rfl)))) ?_
        refine zA (zC 6 _ rfl rfl hLo rfl rfl (fun b G hb ho => zE rfl rfl rfl HS3.1 rfl (zB hLo 3 rfl HS3.1 rfl (hb 3 (by rfl))) rfl) (fun b G w hb ho => zJ rfl (zB hLo 4 rfl HS3.1 rfl (hb 4 (by rfl))) (zB hLo 5 rfl HS3.1 rfl (hb 5 (by rfl))) (rb_eql hr7 _ _ _))) ?_
        refine zA (zC 7 _ rfl rfl hLo rfl rfl (fun _ _ _ _ => rfl) (fun b G w hb ho => zK rfl (zB hLo 3 rfl HS3.1 rfl (hb 3 (by rfl))) (zB hLo 6 rfl HS3.1 rfl (hb 6 (by rfl))))) ?_
        exact zF
      clear hLo
      intro G a19 w19 hS hH
      have HS19 : Sl a19 56 [(0, .agg (FR () 6 ((a).sc))), (1, .agg (FR () 6 ((b).sc))), (2, .string (key)), (3, .int .i64 (mine)), (4, .bool below), (5, .pointer (some ⟨g1_0, 0, none⟩)), (6, .pointer (some ⟨g1_1, 0, none⟩)), (10, .bool false), (11, .int .i64 (((a).tell0 key).1)), (12, .bool true), (13, .int .i64 (((b).tell0 key).1)), (14, .bool true), (34, .bool r7)] := hS
      have HH19 : Held w w19 [⟨g1_0, (), 6, (a).sc, 25⟩, ⟨g1_1, (), 6, (b).sc, 25⟩] := hH
      clear hS hH HS3 HH3
      refine then_ ?_
      cases r7
      · skip
        refine wp_cond_false (HS19.get 12 rfl) ?_
        refine wp_skip ?_
        refine then_ ?_
        refine wp_seq ?_
        obtain ⟨r8, hr8⟩ : ∃ r : Bool, (decide ((mine : Int) < ((a).tell0 key).1)) = r := ⟨_, rfl⟩
        cases r8
        · skip
          cases below
          · skip
            refine wp_seq ?_
            have hLo : LOk [(0, 35, .val (.bool true)), (1, 36, .val (.bool true)), (2, 37, .val (.int .i64 (((a).tell0 key).1))), (3, 38, .val (.int .i64 (mine))), (4, 39, .val (.bool false)), (5, 40, .val (.bool false)), (6, 41, .val (.bool false)), (7, 42, .val (.bool false)), (8, 43, .val (undef)), (9, 44, .val (undef)), (10, 45, .val (undef)), (11, 46, .val (.bool false)), (12, 47, .val (.bool false)), (13, 48, .val (.bool false))] := lok (by rfl) (by rfl)
            refine zI (wE := w) (sz := 56) (n := 14) [0, 1, 3, 7, 15, 31, 63, 127, 255, 511, 1023, 2047, 4095, 8191] [(0, .val (.agg (FR () 6 ((a).sc)))), (1, .val (.agg (FR () 6 ((b).sc)))), (2, .val (.string (key))), (3, .val (.int .i64 (mine))), (4, .val (.bool false)), (5, .val (.pointer (some ⟨g1_0, 0, none⟩))), (6, .val (.pointer (some ⟨g1_1, 0, none⟩))), (10, .val (.bool false)), (11, .val (.int .i64 (((a).tell0 key).1))), (12, .val (.bool true)), (13, .val (.int .i64 (((b).tell0 key).1))), (14, .val (.bool true)), (34, .val (.bool false)), (48, .val (.bool false))] [(0, 35, .val (.bool true)), (1, 36, .val (.bool true)), (2, 37, .val (.int .i64 (((a).tell0 key).1))), (3, 38, .val (.int .i64 (mine))), (4, 39, .val (.bool false)), (5, 40, .val (.bool false)), (6, 41, .val (.bool false)), (7, 42, .val (.bool false)), (8, 43, .val (undef)), (9, 44, .val (undef)), (10, 45, .val (undef)), (11, 46, .val (.bool false)), (12, 47, .val (.bool false)), (13, 48, .val (.bool false))] [⟨g1_0, none, none, (), 6, (a).sc, (a).sc, 25⟩, ⟨g1_1, none, none, (), 6, (b).sc, (b).sc, 25⟩] rfl (by rfl) HH19 rfl rfl hLo rfl HS19 (slS 0 rfl rfl (slS 1 rfl rfl (slS 2 rfl rfl (slS 3 rfl rfl (slS 4 rfl rfl (slS 5 rfl rfl (slS 6 rfl rfl (slS 7 rfl rfl (slS 8 rfl rfl (slS 9 rfl rfl (slS 10 rfl rfl (slS 11 rfl rfl (slS 12 rfl rfl (slL 13 (d := 13) rfl (trivial))))))))))))))) ?_ ?_
            · show ∀ i ∈ [0, 1, 2, 3, 4, 5, 6, 7, 8, 9, 10, 11, 12, 13], _
              refine zA (zC 0 _ rfl rfl hLo rfl rfl (fun _ _ _ _ => rfl) (fun b G w hb ho => zD (.inl rfl) (zG rfl (HS19.get 9 rfl)))) ?_
              refine zA (zC 1 _ rfl rfl hLo rfl rfl (fun _ _ _ _ => rfl) (fun b G w hb ho => zD (.inl rfl) (zB hLo 0 rfl HS19.1 rfl (hb 0 (by rfl))))) ?_
              refine zA (zC 2 _ rfl rfl hLo rfl rfl (fun b G hb ho => zE rfl rfl rfl HS19.1 rfl (zB hLo 1 rfl HS19.1 rfl (hb 1 (by rfl))) rfl) (fun b G w hb ho => zD (.inl rfl) (zG rfl (HS19.get 8 rfl)))) ?_
              refine zA (zC 3 _ rfl rfl hLo rfl rfl (fun b G hb ho => zE rfl rfl rfl HS19.1 rfl (zB hLo 1 rfl HS19.1 rfl (hb 1 (by rfl))) rfl) (fun b G w hb ho => zD (.inl rfl) (zG rfl (HS19.get 3 rfl)))) ?_
              refine zA (zC 4 _ rfl rfl hLo rfl rfl (fun b G hb ho => zE rfl rfl rfl HS19.1 rfl (zB hLo 1 rfl HS19.1 rfl (hb 1 (by rfl))) rfl) (fun b G w hb ho => zJ rfl (zB hLo 2 rfl HS19.1 rfl (hb 2 (by rfl))) (zB hLo 3 rfl HS19.1 rfl (hb 3 (by rfl))) (rb_gtr hr8 _ _ _))) ?_
              refine zA (zC 5 _ rfl rfl hLo rfl rfl (fun b G hb ho => zE rfl rfl rfl HS19.1 rfl (zB hLo 1 rfl HS19.1 rfl (hb 1 (by rfl))) rfl) (fun b G w hb ho => zD (.inl rfl) (zB hLo 4 rfl HS19.1 rfl (hb 4 (by rfl))))) ?_
              refine zA (zC 6 _ rfl rfl hLo rfl rfl (fun b G hb ho => zE rfl rfl rfl HS19.1 rfl (zB hLo 5 rfl HS19.1 rfl (hb 5 (by rfl))) rfl) (fun b G w hb ho => zD (.inl rfl) (zG rfl (HS19.get 4 rfl)))) ?_
              refine zA (zC 7 _ rfl rfl hLo rfl rfl (fun b G hb ho => zE rfl rfl rfl HS19.1 rfl (zB hLo 5 rfl HS19.1 rfl (hb 5 (by rfl))) rfl) (fun b G w hb ho => zD (.inl rfl) (zB hLo 6 rfl HS19.1 rfl (hb 6 (by rfl))))) ?_
              refine zA (zH 8 rfl rfl hLo rfl rfl (fun b G hb ho => zE rfl rfl rfl HS19.1 rfl (zB hLo 7 rfl HS19.1 rfl (hb 7 (by rfl))) rfl)) ?_
              refine zA (zH 9 rfl rfl hLo rfl rfl (fun b G hb ho => zE rfl rfl rfl HS19.1 rfl (zB hLo 7 rfl HS19.1 rfl (hb 7 (by rfl))) rfl)) ?_
              refine zA (zH 10 rfl rfl hLo rfl rfl (fun b G hb ho => zE rfl rfl rfl HS19.1 rfl (zB hLo 7 rfl HS19.1 rfl (hb 7 (by rfl))) rfl)) ?_
              refine zA (zC 11 _ rfl rfl hLo rfl rfl (fun b G hb ho => zE rfl rfl rfl HS19.1 rfl (zB hLo 5 rfl HS19.1 rfl (hb 5 (by rfl))) rfl) (fun b G w hb ho => zK rfl (zB hLo 7 rfl HS19.1 rfl (hb 7 (by rfl))) (rfl))) ?_
              refine zA (zC 12 _ rfl rfl hLo rfl rfl (fun b G hb ho => zE rfl rfl rfl HS19.1 rfl (zB hLo 1 rfl HS19.1 rfl (hb 1 (by rfl))) rfl) (fun b G w hb ho => zK rfl (zB hLo 5 rfl HS19.1 rfl (hb 5 (by rfl))) (zB hLo 11 rfl HS19.1 rfl (hb 11 (by rfl))))) ?_
              refine zA (zC 13 _ rfl rfl hLo rfl rfl (fun _ _ _ _ => rfl) (fun b G w hb ho => zK rfl (zB hLo 1 rfl HS19.1 rfl (hb 1 (by rfl))) (zB hLo 12 rfl HS19.1 rfl (hb 12 (by rfl))))) ?_
              exact zF
            clear hLo
            intro G a20 w20 hS hH
            have HS20 : Sl a20 56 [(0, .agg (FR () 6 ((a).sc))), (1, .agg (FR () 6 ((b).sc))), (2, .string (key)), (3, .int .i64 (mine)), (4, .bool false), (5, .pointer (some ⟨g1_0, 0, none⟩)), (6, .pointer (some ⟨g1_1, 0, none⟩)), (10, .bool false), (11, .int .i64 (((a).tell0 key).1)), (12, .bool true), (13, .int .i64 (((b).tell0 key).1)), (14, .bool true), (34, .bool false), (48, .bool false)] := hS
            have HH20 : Held w w20 [⟨g1_0, (), 6, (a).sc, 25⟩, ⟨g1_1, (), 6, (b).sc, 25⟩] := hH
            clear hS hH HS19 HH19
            refine then_ ?_
            refine wp_cond_false (HS20.get 13 rfl) ?_
            refine wp_skip ?_
            refine then_ ?_
            obtain ⟨r9, hr9⟩ : ∃ r : Bool, (decide ((((b).tell0 key).1 : Int) ≤ mine)) = r := ⟨_, rfl⟩
            refine wp_seq ?_
            have hLo : LOk [(0, 49, .val (.bool true)), (1, 50, .val (.bool false)), (2, 51, .val (.bool false)), (3, 52, .val (.int .i64 (((b).tell0 key).1))), (4, 53, .val (.int .i64 (mine))), (5, 54, .val (.bool r9)), (6, 55, .val (.bool r9)), (7, 10, .val (.bool r9))] := lok (by rfl) (by rfl)
            refine zI (wE := w) (sz := 56) (n := 8) [0, 1, 3, 7, 15, 31, 63, 127] [(0, .val (.agg (FR () 6 ((a).sc)))), (1, .val (.agg (FR () 6 ((b).sc)))), (2, .val (.string (key))), (3, .val (.int .i64 (mine))), (4, .val (.bool false)), (5, .val (.pointer (some ⟨g1_0, 0, none⟩))), (6, .val (.pointer (some ⟨g1_1, 0, none⟩))), (11, .val (.int .i64 (((a).tell0 key).1))), (12, .val (.bool true)), (13, .val (.int .i64 (((b).tell0 key).1))), (14, .val (.bool true)), (34, .val (.bool false)), (48, .val (.bool false)), (10, .val (.bool r9))] [(0, 49, .val (.bool true)), (1, 50, .val (.bool false)), (2, 51, .val (.bool false)), (3, 52, .val (.int .i64 (((b).tell0 key).1))), (4, 53, .val (.int .i64 (mine))), (5, 54, .val (.bool r9)), (6, 55, .val (.bool r9)), (7, 10, .val (.bool r9))] [⟨g1_0, none, none, (), 6, (a).sc, (a).sc, 25⟩, ⟨g1_1, none, none, (), 6, (b).sc, (b).sc, 25⟩] rfl (by rfl) HH20 rfl rfl hLo rfl HS20 (slS 0 rfl rfl (slS 1 rfl rfl (slS 2 rfl rfl (slS 3 rfl rfl (slS 4 rfl rfl (slS 5 rfl rfl (slS 6 rfl rfl (slS 8 rfl rfl (slS 9 rfl rfl (slS 10 rfl rfl (slS 11 rfl rfl (slS 12 rfl rfl (slS 13 rfl rfl (slL 7 (d := 7) rfl (trivial))))))))))))))) ?_ ?_
            · show ∀ i ∈ [0, 1, 2, 3, 4, 5, 6, 7], _
              refine zA (zC 0 _ rfl rfl hLo rfl rfl (fun _ _ _ _ => rfl) (fun b G w hb ho => zD (.inl rfl) (zG rfl (HS20.get 11 rfl)))) ?_
              refine zA (zC 1 _ rfl rfl hLo rfl rfl (fun _ _ _ _ => rfl) (fun b G w hb ho => yJ rfl (zB hLo 0 rfl HS20.1 rfl (hb 0 (by rfl))) (ru_not _))) ?_
              refine zA (zC 2 _ rfl rfl hLo rfl rfl (fun _ _ _ _ => rfl) (fun b G w hb ho => zD (.inl rfl) (zB hLo 1 rfl HS20.1 rfl (hb 1 (by rfl))))) ?_
              refine zA (zC 3 _ rfl rfl hLo rfl rfl (fun b G hb ho => zE rfl rfl rfl HS20.1 rfl (zB hLo 2 rfl HS20.1 rfl (hb 2 (by rfl))) rfl) (fun b G w hb ho => zD (.inl rfl) (zG rfl (HS20.get 10 rfl)))) ?_
              refine zA (zC 4 _ rfl rfl hLo rfl rfl (fun b G hb ho => zE rfl rfl rfl HS20.1 rfl (zB hLo 2 rfl HS20.1 rfl (hb 2 (by rfl))) rfl) (fun b G w hb ho => zD (.inl rfl) (zG rfl (HS20.get 3 rfl)))) ?_
              refine zA (zC 5 _ rfl rfl hLo rfl rfl (fun b G hb ho => zE rfl rfl rfl HS20.1 rfl (zB hLo 2 rfl HS20.1 rfl (hb 2 (by rfl))) rfl) (fun b G w hb ho => zJ rfl (zB hLo 3 rfl HS20.1 rfl (hb 3 (by rfl))) (zB hLo 4 rfl HS20.1 rfl (hb 4 (by rfl))) (rb_leq hr9 _ _ _))) ?_
              refine zA (zC 6 _ rfl rfl hLo rfl rfl (fun _ _ _ _ => rfl) (fun b G w hb ho => zK rfl (zB hLo 2 rfl HS20.1 rfl (hb 2 (by rfl))) (zB hLo 5 rfl HS20.1 rfl (hb 5 (by rfl))))) ?_
              refine zA (zC 7 _ rfl rfl hLo rfl rfl (fun _ _ _ _ => rfl) (fun b G w hb ho => zD (.inr rfl) (zB hLo 6 rfl HS20.1 rfl (hb 6 (by rfl))))) ?_
              exact zF
            clear hLo
            intro G a21 w21 hS hH
            have HS21 : Sl a21 56 [(0, .agg (FR () 6 ((a).sc))), (1, .agg (FR () 6 ((b).sc))), (2, .string (key)), (3, .int .i64 (mine)), (4, .bool false), (5, .pointer (some ⟨g1_0, 0, none⟩)), (6, .pointer (some ⟨g1_1, 0, none⟩)), (11, .int .i64 (((a).tell0 key).1)), (12, .bool true), (13, .int .i64 (((b).tell0 key).1)), (14, .bool true), (34, .bool false), (48, .bool false), (10, .bool r9)] := hS
            have HH21 : Held w w21 [⟨g1_0, (), 6, (a).sc, 25⟩, ⟨g1_1, (), 6, (b).sc, 25⟩] := hH
            clear hS hH HS20 HH20
            refine then_ ?_
            refine wp_ret ?_
            repeat (first | refine zP ?_ | refine zL ?_)
            exact yI rfl HS21.2.1 (HS21.get 13 rfl) ⟨turns_ret (by unfold turnsB; simp only [hr1, hr2, hr7, hr8, hr9]; try rfl), HH21.1⟩
          · skip
            obtain ⟨r10, hr10⟩ : ∃ r : Bool, (((((a).tell0 key).1 : Int) == mine)) = r := ⟨_, rfl⟩
            refine wp_seq ?_
            have hLo : LOk [(0, 35, .val (.bool true)), (1, 36, .val (.bool true)), (2, 37, .val (.int .i64 (((a).tell0 key).1))), (3, 38, .val (.int .i64 (mine))), (4, 39, .val (.bool false)), (5, 40, .val (.bool false)), (6, 41, .val (.bool true)), (7, 42, .val (.bool true)), (8, 43, .val (.int .i64 (((a).tell0 key).1))), (9, 44, .val (.int .i64 (mine))), (10, 45, .val (.bool r10)), (11, 46, .val (.bool r10)), (12, 47, .val (.bool r10)), (13, 48, .val (.bool r10))] := lok (by rfl) (by rfl)
            refine zI (wE := w) (sz := 56) (n := 14) [0, 1, 3, 7, 15, 31, 63, 127, 255, 511, 1023, 2047, 4095, 8191] [(0, .val (.agg (FR () 6 ((a).sc)))), (1, .val (.agg (FR () 6 ((b).sc)))), (2, .val (.string (key))), (3, .val (.int .i64 (mine))), (4, .val (.bool true)), (5, .val (.pointer (some ⟨g1_0, 0, none⟩))), (6, .val (.pointer (some ⟨g1_1, 0, none⟩))), (10, .val (.bool false)), (11, .val (.int .i64 (((a).tell0 key).1))), (12, .val (.bool true)), (13, .val (.int .i64 (((b).tell0 key).1))), (14, .val (.bool true)), (34, .val (.bool false)), (48, .val (.bool r10))] [(0, 35, .val (.bool true)), (1, 36, .val (.bool true)), (2, 37, .val (.int .i64 (((a).tell0 key).1))), (3, 38, .val (.int .i64 (mine))), (4, 39, .val (.bool false)), (5, 40, .val (.bool false)), (6, 41, .val (.bool true)), (7, 42, .val (.bool true)), (8, 43, .val (.int .i64 (((a).tell0 key).1))), (9, 44, .val (.int .i64 (mine))), (10, 45, .val (.bool r10)), (11, 46, .val (.bool r10)), (12, 47, .val (.bool r10)), (13, 48, .val (.bool r10))] [⟨g1_0, none, none, (), 6, (a).sc, (a).sc, 25⟩, ⟨g1_1, none, none, (), 6, (b).sc, (b).sc, 25⟩] rfl (by rfl) HH19 rfl rfl hLo rfl HS19 (slS 0 rfl rfl (slS 1 rfl rfl (slS 2 rfl rfl (slS 3 rfl rfl (slS 4 rfl rfl (slS 5 rfl rfl (slS 6 rfl rfl (slS 7 rfl rfl (slS 8 rfl rfl (slS 9 rfl rfl (slS 10 rfl rfl (slS 11 rfl rfl (slS 12 rfl rfl (slL 13 (d := 13) rfl (trivial))))))))))))))) ?_ ?_
            · show ∀ i ∈ [0, 1, 2, 3, 4, 5, 6, 7, 8, 9, 10, 11, 12, 13], _
              refine zA (zC 0 _ rfl rfl hLo rfl rfl (fun _ _ _ _ => rfl) (fun b G w hb ho => zD (.inl rfl) (zG rfl (HS19.get 9 rfl)))) ?_
              refine zA (zC 1 _ rfl rfl hLo rfl rfl (fun _ _ _ _ => rfl) (fun b G w hb ho => zD (.inl rfl) (zB hLo 0 rfl HS19.1 rfl (hb 0 (by rfl))))) ?_
              refine zA (zC 2 _ rfl rfl hLo rfl rfl (fun b G hb ho => zE rfl rfl rfl HS19.1 rfl (zB hLo 1 rfl HS19.1 rfl (hb 1 (by rfl))) rfl) (fun b G w hb ho => zD (.inl rfl) (zG rfl (HS19.get 8 rfl)))) ?_
              refine zA (zC 3 _ rfl rfl hLo rfl rfl (fun b G hb ho => zE rfl rfl rfl HS19.1 rfl (zB hLo 1 rfl HS19.1 rfl (hb 1 (by rfl))) rfl) (fun b G w hb ho => zD (.inl rfl) (zG rfl (HS19.get 3 rfl)))) ?_
              refine zA (zC 4 _ rfl rfl hLo rfl rfl (fun b G hb ho => zE rfl rfl rfl HS19.1 rfl (zB hLo 1 rfl HS19.1 rfl (hb 1 (by rfl))) rfl) (fun b G w hb ho => zJ rfl (zB hLo 2 rfl HS19.1 rfl (hb 2 (by rfl))) (zB hLo 3 rfl HS19.1 rfl (hb 3 (by rfl))) (rb_gtr hr8 _ _ _))) ?_
              refine zA (zC 5 _ rfl rfl hLo rfl rfl (fun b G hb ho => zE rfl rfl rfl HS19.1 rfl (zB hLo 1 rfl HS19.1 rfl (hb 1 (by rfl))) rfl) (fun b G w hb ho => zD (.inl rfl) (zB hLo 4 rfl HS19.1 rfl (hb 4 (by rfl))))) ?_
              refine zA (zC 6 _ rfl rfl hLo rfl rfl (fun b G hb ho => zE rfl rfl rfl HS19.1 rfl (zB hLo 5 rfl HS19.1 rfl (hb 5 (by rfl))) rfl) (fun b G w hb ho => zD (.inl rfl) (zG rfl (HS19.get 4 rfl)))) ?_
              refine zA (zC 7 _ rfl rfl hLo rfl rfl (fun b G hb ho => zE rfl rfl rfl HS19.1 rfl (zB hLo 5 rfl HS19.1 rfl (hb 5 (by rfl))) rfl) (fun b G w hb ho => zD (.inl rfl) (zB hLo 6 rfl HS19.1 rfl (hb 6 (by rfl))))) ?_
              refine zA (zC 8 _ rfl rfl hLo rfl rfl (fun b G hb ho => zE rfl rfl rfl HS19.1 rfl (zB hLo 7 rfl HS19.1 rfl (hb 7 (by rfl))) rfl) (fun b G w hb ho => zD (.inl rfl) (zG rfl (HS19.get 8 rfl)))) ?_
              refine zA (zC 9 _ rfl rfl hLo rfl rfl (fun b G hb ho => zE rfl rfl rfl HS19.1 rfl (zB hLo 7 rfl HS19.1 rfl (hb 7 (by rfl))) rfl) (fun b G w hb ho => zD (.inl rfl) (zG rfl (HS19.get 3 rfl)))) ?_
              refine zA (zC 10 _ rfl rfl hLo rfl rfl (fun b G hb ho => zE rfl rfl rfl HS19.1 rfl (zB hLo 7 rfl HS19.1 rfl (hb 7 (by rfl))) rfl) (fun b G w hb ho => zJ rfl (zB hLo 8 rfl HS19.1 rfl (hb 8 (by rfl))) (zB hLo 9 rfl HS19.1 rfl (hb 9 (by rfl))) (rb_eql hr10 _ _ _))) ?_
              refine zA (zC 11 _ rfl rfl hLo rfl rfl (fun b G hb ho => zE rfl rfl rfl HS19.1 rfl (zB hLo 5 rfl HS19.1 rfl (hb 5 (by rfl))) rfl) (fun b G w hb ho => zK rfl (zB hLo 7 rfl HS19.1 rfl (hb 7 (by rfl))) (zB hLo 10 rfl HS19.1 rfl (hb 10 (by rfl))))) ?_
              refine zA (zC 12 _ rfl rfl hLo rfl rfl (fun b G hb ho => zE rfl rfl rfl HS19.1 rfl (zB hLo 1 rfl HS19.1 rfl (hb 1 (by rfl))) rfl) (fun b G w hb ho => zK rfl (zB hLo 5 rfl HS19.1 rfl (hb 5 (by rfl))) (zB hLo 11 rfl HS19.1 rfl (hb 11 (by rfl))))) ?_
              refine zA (zC 13 _ rfl rfl hLo rfl rfl (fun _ _ _ _ => rfl) (fun b G w hb ho => zK rfl (zB hLo 1 rfl HS19.1 rfl (hb 1 (by rfl))) (zB hLo 12 rfl HS19.1 rfl (hb 12 (by rfl))))) ?_
              exact zF
            clear hLo
            intro G a22 w22 hS hH
            have HS22 : Sl a22 56 [(0, .agg (FR () 6 ((a).sc))), (1, .agg (FR () 6 ((b).sc))), (2, .string (key)), (3, .int .i64 (mine)), (4, .bool true), (5, .pointer (some ⟨g1_0, 0, none⟩)), (6, .pointer (some ⟨g1_1, 0, none⟩)), (10, .bool false), (11, .int .i64 (((a).tell0 key).1)), (12, .bool true), (13, .int .i64 (((b).tell0 key).1)), (14, .bool true), (34, .bool false), (48, .bool r10)] := hS
            have HH22 : Held w w22 [⟨g1_0, (), 6, (a).sc, 25⟩, ⟨g1_1, (), 6, (b).sc, 25⟩] := hH
            clear hS hH HS19 HH19
            refine then_ ?_
            cases r10
            · skip
              refine wp_cond_false (HS22.get 13 rfl) ?_
              refine wp_skip ?_
              refine then_ ?_
              obtain ⟨r11, hr11⟩ : ∃ r : Bool, (decide ((((b).tell0 key).1 : Int) ≤ mine)) = r := ⟨_, rfl⟩
              refine wp_seq ?_
              have hLo : LOk [(0, 49, .val (.bool true)), (1, 50, .val (.bool false)), (2, 51, .val (.bool false)), (3, 52, .val (.int .i64 (((b).tell0 key).1))), (4, 53, .val (.int .i64 (mine))), (5, 54, .val (.bool r11)), (6, 55, .val (.bool r11)), (7, 10, .val (.bool r11))] := lok (by rfl) (by rfl)
              refine zI (wE := w) (sz := 56) (n := 8) [0, 1, 3, 7, 15, 31, 63, 127] [(0, .val (.agg (FR () 6 ((a).sc)))), (1, .val (.agg (FR () 6 ((b).sc)))), (2, .val (.string (key))), (3, .val (.int .i64 (mine))), (4, .val (.bool true)), (5, .val (.pointer (some ⟨g1_0, 0, none⟩))), (6, .val (.pointer (some ⟨g1_1, 0, none⟩))), (11, .val (.int .i64 (((a).tell0 key).1))), (12, .val (.bool true)), (13, .val (.int .i64 (((b).tell0 key).1))), (14, .val (.bool true)), (34, .val (.bool false)), (48, .val (.bool false)), (10, .val (.bool r11))] [(0, 49, .val (.bool true)), (1, 50, .val (.bool false)), (2, 51, .val (.bool false)), (3, 52, .val (.int .i64 (((b).tell0 key).1))), (4, 53, .val (.int .i64 (mine))), (5, 54, .val (.bool r11)), (6, 55, .val (.bool r11)), (7, 10, .val (.bool r11))] [⟨g1_0, none, none, (), 6, (a).sc, (a).sc, 25⟩, ⟨g1_1, none, none, (), 6, (b).sc, (b).sc, 25⟩] rfl (by rfl) HH22 rfl rfl hLo rfl HS22 (slS 0 rfl rfl (slS 1 rfl rfl (slS 2 rfl rfl (slS 3 rfl rfl (slS 4 rfl rfl (slS 5 rfl rfl (slS 6 rfl rfl (slS 8 rfl rfl (slS 9 rfl rfl (slS 10 rfl rfl (slS 11 rfl rfl (slS 12 rfl rfl (slS 13 rfl rfl (slL 7 (d := 7) rfl (trivial))))))))))))))) ?_ ?_
              · show ∀ i ∈ [0, 1, 2, 3, 4, 5, 6, 7], _
                refine zA (zC 0 _ rfl rfl hLo rfl rfl (fun _ _ _ _ => rfl) (fun b G w hb ho => zD (.inl rfl) (zG rfl (HS22.get 11 rfl)))) ?_
                refine zA (zC 1 _ rfl rfl hLo rfl rfl (fun _ _ _ _ => rfl) (fun b G w hb ho => yJ rfl (zB hLo 0 rfl HS22.1 rfl (hb 0 (by rfl))) (ru_not _))) ?_
                refine zA (zC 2 _ rfl rfl hLo rfl rfl (fun _ _ _ _ => rfl) (fun b G w hb ho => zD (.inl rfl) (zB hLo 1 rfl HS22.1 rfl (hb 1 (by rfl))))) ?_
                refine zA (zC 3 _ rfl rfl hLo rfl rfl (fun b G hb ho => zE rfl rfl rfl HS22.1 rfl (zB hLo 2 rfl HS22.1 rfl (hb 2 (by rfl))) rfl) (fun b G w hb ho => zD (.inl rfl) (zG rfl (HS22.get 10 rfl)))) ?_
                refine zA (zC 4 _ rfl rfl hLo rfl rfl (fun b G hb ho => zE rfl rfl rfl HS22.1 rfl (zB hLo 2 rfl HS22.1 rfl (hb 2 (by rfl))) rfl) (fun b G w hb ho => zD (.inl rfl) (zG rfl (HS22.get 3 rfl)))) ?_
                refine zA (zC 5 _ rfl rfl hLo rfl rfl (fun b G hb ho => zE rfl rfl rfl HS22.1 rfl (zB hLo 2 rfl HS22.1 rfl (hb 2 (by rfl))) rfl) (fun b G w hb ho => zJ rfl (zB hLo 3 rfl HS22.1 rfl (hb 3 (by rfl))) (zB hLo 4 rfl HS22.1 rfl (hb 4 (by rfl))) (rb_leq hr11 _ _ _))) ?_
                refine zA (zC 6 _ rfl rfl hLo rfl rfl (fun _ _ _ _ => rfl) (fun b G w hb ho => zK rfl (zB hLo 2 rfl HS22.1 rfl (hb 2 (by rfl))) (zB hLo 5 rfl HS22.1 rfl (hb 5 (by rfl))))) ?_
                refine zA (zC 7 _ rfl rfl hLo rfl rfl (fun _ _ _ _ => rfl) (fun b G w hb ho => zD (.inr rfl) (zB hLo 6 rfl HS22.1 rfl (hb 6 (by rfl))))) ?_
                exact zF
              clear hLo
              intro G a23 w23 hS hH
              have HS23 : Sl a23 56 [(0, .agg (FR () 6 ((a).sc))), (1, .agg (FR () 6 ((b).sc))), (2, .string (key)), (3, .int .i64 (mine)), (4, .bool true), (5, .pointer (some ⟨g1_0, 0, none⟩)), (6, .pointer (some ⟨g1_1, 0, none⟩)), (11, .int .i64 (((a).tell0 key).1)), (12, .bool true), (13, .int .i64 (((b).tell0 key).1)), (14, .bool true), (34, .bool false), (48, .bool false), (10, .bool r11)] := hS
              have HH23 : Held w w23 [⟨g1_0, (), 6, (a).sc, 25⟩, ⟨g1_1, (), 6, (b).sc, 25⟩] := hH
              clear hS hH HS22 HH22
              refine then_ ?_
              refine wp_ret ?_
              repeat (first | refine zP ?_ | refine zL ?_)
              exact yI rfl HS23.2.1 (HS23.get 13 rfl) ⟨turns_ret (by unfold turnsB; simp only [hr1, hr2, hr7, hr8, hr10, hr11]; try rfl), HH23.1⟩
            · skip
              refine wp_cond_true (HS22.get 13 rfl) ?_
              refine wp_seq ?_
              have hLo : LOk [(0, 10, .val (.bool false))] := lok (by rfl) (by rfl)
              refine zI (wE := w) (sz := 56) (n := 1) [0] [(0, .val (.agg (FR () 6 ((a).sc)))), (1, .val (.agg (FR () 6 ((b).sc)))), (2, .val (.string (key))), (3, .val (.int .i64 (mine))), (4, .val (.bool true)), (5, .val (.pointer (some ⟨g1_0, 0, none⟩))), (6, .val (.pointer (some ⟨g1_1, 0, none⟩))), (11, .val (.int .i64 (((a).tell0 key).1))), (12, .val (.bool true)), (13, .val (.int .i64 (((b).tell0 key).1))), (14, .val (.bool true)), (34, .val (.bool false)), (48, .val (.bool true)), (10, .val (.bool false))] [(0, 10, .val (.bool false))] [⟨g1_0, none, none, (), 6, (a).sc, (a).sc, 25⟩, ⟨g1_1, none, none, (), 6, (b).sc, (b).sc, 25⟩] rfl (by rfl) HH22 rfl rfl hLo rfl HS22 (slS 0 rfl rfl (slS 1 rfl rfl (slS 2 rfl rfl (slS 3 rfl rfl (slS 4 rfl rfl (slS 5 rfl rfl (slS 6 rfl rfl (slS 8 rfl rfl (slS 9 rfl rfl (slS 10 rfl rfl (slS 11 rfl rfl (slS 12 rfl rfl (slS 13 rfl rfl (slL 0 (d := 0) rfl (trivial))))))))))))))) ?_ ?_
              · show ∀ i ∈ [0], _
                refine zA (zC 0 _ rfl rfl hLo rfl rfl (fun _ _ _ _ => rfl) (fun b G w hb ho => zD (.inr rfl) (rfl))) ?_
                exact zF
              clear hLo
              intro G a24 w24 hS hH
              have HS24 : Sl a24 56 [(0, .agg (FR () 6 ((a).sc))), (1, .agg (FR () 6 ((b).sc))), (2, .string (key)), (3, .int .i64 (mine)), (4, .bool true), (5, .pointer (some ⟨g1_0, 0, none⟩)), (6, .pointer (some ⟨g1_1, 0, none⟩)), (11, .int .i64 (((a).tell0 key).1)), (12, .bool true), (13, .int .i64 (((b).tell0 key).1)), (14, .bool true), (34, .bool false), (48, .bool true), (10, .bool false)] := hS
              have HH24 : Held w w24 [⟨g1_0, (), 6, (a).sc, 25⟩, ⟨g1_1, (), 6, (b).sc, 25⟩] := hH
              clear hS hH HS22 HH22
              refine then_ ?_
              refine wp_ret ?_
              repeat (first | refine zP ?_ | refine zL ?_)
              exact yI rfl HS24.2.1 (HS24.get 13 rfl) ⟨turns_ret (by unfold turnsB; simp only [hr1, hr2, hr7, hr8, hr10]; try rfl), HH24.1⟩
        · skip
          refine wp_seq ?_
          have hLo : LOk [(0, 35, .val (.bool true)), (1, 36, .val (.bool true)), (2, 37, .val (.int .i64 (((a).tell0 key).1))), (3, 38, .val (.int .i64 (mine))), (4, 39, .val (.bool true)), (5, 40, .val (.bool true)), (6, 41, .val (undef)), (7, 42, .val (undef)), (8, 43, .val (undef)), (9, 44, .val (undef)), (10, 45, .val (undef)), (11, 46, .val (undef)), (12, 47, .val (.bool true)), (13, 48, .val (.bool true))] := lok (by rfl) (by rfl)
          refine zI (wE := w) (sz := 56) (n := 14) [0, 1, 3, 7, 15, 31, 63, 127, 255, 511, 1023, 2047, 4095, 8191] [(0, .val (.agg (FR () 6 ((a).sc)))), (1, .val (.agg (FR () 6 ((b).sc)))), (2, .val (.string (key))), (3, .val (.int .i64 (mine))), (4, .val (.bool below)), (5, .val (.pointer (some ⟨g1_0, 0, none⟩))), (6, .val (.pointer (some ⟨g1_1, 0, none⟩))), (10, .val (.bool false)), (11, .val (.int .i64 (((a).tell0 key).1))), (12, .val (.bool true)), (13, .val (.int .i64 (((b).tell0 key).1))), (14, .val (.bool true)), (34, .val (.bool false)), (48, .val (.bool true))] [(0, 35, .val (.bool true)), (1, 36, .val (.bool true)), (2, 37, .val (.int .i64 (((a).tell0 key).1))), (3, 38, .val (.int .i64 (mine))), (4, 39, .val (.bool true)), (5, 40, .val (.bool true)), (6, 41, .val (undef)), (7, 42, .val (undef)), (8, 43, .val (undef)), (9, 44, .val (undef)), (10, 45, .val (undef)), (11, 46, .val (undef)), (12, 47, .val (.bool true)), (13, 48, .val (.bool true))] [⟨g1_0, none, none, (), 6, (a).sc, (a).sc, 25⟩, ⟨g1_1, none, none, (), 6, (b).sc, (b).sc, 25⟩] rfl (by rfl) HH19 rfl rfl hLo rfl HS19 (slS 0 rfl rfl (slS 1 rfl rfl (slS 2 rfl rfl (slS 3 rfl rfl (slS 4 rfl rfl (slS 5 rfl rfl (slS 6 rfl rfl (slS 7 rfl rfl (slS 8 rfl rfl (slS 9 rfl rfl (slS 10 rfl rfl (slS 11 rfl rfl (slS 12 rfl rfl (slL 13 (d := 13) rfl (trivial))))))))))))))) ?_ ?_
          · show ∀ i ∈ [0, 1, 2, 3, 4, 5, 6, 7, 8, 9, 10, 11, 12, 13], _
            refine zA (zC 0 _ rfl rfl hLo rfl rfl (fun _ _ _ _ => rfl) (fun b G w hb ho => zD (.inl rfl) (zG rfl (HS19.get 9 rfl)))) ?_
            refine zA (zC 1 _ rfl rfl hLo rfl rfl (fun _ _ _ _ => rfl) (fun b G w hb ho => zD (.inl rfl) (zB hLo 0 rfl HS19.1 rfl (hb 0 (by rfl))))) ?_
            refine zA (zC 2 _ rfl rfl hLo rfl rfl (fun b G hb ho => zE rfl rfl rfl HS19.1 rfl (zB hLo 1 rfl HS19.1 rfl (hb 1 (by rfl))) rfl) (fun b G w hb ho => zD (.inl rfl) (zG rfl (HS19.get 8 rfl)))) ?_
            refine zA (zC 3 _ rfl rfl hLo rfl rfl (fun b G hb ho => zE rfl rfl rfl HS19.1 rfl (zB hLo 1 rfl HS19.1 rfl (hb 1 (by rfl))) rfl) (fun b G w hb ho => zD (.inl rfl) (zG rfl (HS19.get 3 rfl)))) ?_
            refine zA (zC 4 _ rfl rfl hLo rfl rfl (fun b G hb ho => zE rfl rfl rfl HS19.1 rfl (zB hLo 1 rfl HS19.1 rfl (hb 1 (by rfl))) rfl) (fun b G w hb ho => zJ rfl (zB hLo 2 rfl HS19.1 rfl (hb 2 (by rfl))) (zB hLo 3 rfl HS19.1 rfl (hb 3 (by rfl))) (rb_gtr hr8 _ _ _))) ?_
            refine zA (zC 5 _ rfl rfl hLo rfl rfl (fun b G hb ho => zE rfl rfl rfl HS19.1 rfl (zB hLo 1 rfl HS19.1 rfl (hb 1 (by rfl))) rfl) (fun b G w hb ho => zD (.inl rfl) (zB hLo 4 rfl HS19.1 rfl (hb 4 (by rfl))))) ?_
            refine zA (zH 6 rfl rfl hLo rfl rfl (fun b G hb ho => zE rfl rfl rfl HS19.1 rfl (zB hLo 5 rfl HS19.1 rfl (hb 5 (by rfl))) rfl)) ?_
            refine zA (zH 7 rfl rfl hLo rfl rfl (fun b G hb ho => zE rfl rfl rfl HS19.1 rfl (zB hLo 5 rfl HS19.1 rfl (hb 5 (by rfl))) rfl)) ?_
            refine zA (zH 8 rfl rfl hLo rfl rfl (fun b G hb ho => yK rfl rfl rfl HS19.1 rfl (zB hLo 7 rfl HS19.1 rfl (hb 7 (by rfl))))) ?_
            refine zA (zH 9 rfl rfl hLo rfl rfl (fun b G hb ho => yK rfl rfl rfl HS19.1 rfl (zB hLo 7 rfl HS19.1 rfl (hb 7 (by rfl))))) ?_
            refine zA (zH 10 rfl rfl hLo rfl rfl (fun b G hb ho => yK rfl rfl rfl HS19.1 rfl (zB hLo 7 rfl HS19.1 rfl (hb 7 (by rfl))))) ?_
            refine zA (zH 11 rfl rfl hLo rfl rfl (fun b G hb ho => zE rfl rfl rfl HS19.1 rfl (zB hLo 5 rfl HS19.1 rfl (hb 5 (by rfl))) rfl)) ?_
            refine zA (zC 12 _ rfl rfl hLo rfl rfl (fun b G hb ho => zE rfl rfl rfl HS19.1 rfl (zB hLo 1 rfl HS19.1 rfl (hb 1 (by rfl))) rfl) (fun b G w hb ho => zK rfl (zB hLo 5 rfl HS19.1 rfl (hb 5 (by rfl))) (rfl))) ?_
            refine zA (zC 13 _ rfl rfl hLo rfl rfl (fun _ _ _ _ => rfl) (fun b G w hb ho => zK rfl (zB hLo 1 rfl HS19.1 rfl (hb 1 (by rfl))) (zB hLo 12 rfl HS19.1 rfl (hb 12 (by rfl))))) ?_
            exact zF
          clear hLo
          intro G a25 w25 hS hH
          have HS25 : Sl a25 56 [(0, .agg (FR () 6 ((a).sc))), (1, .agg (FR () 6 ((b).sc))), (2, .string (key)), (3, .int .i64 (mine)), (4, .bool below), (5, .pointer (some ⟨g1_0, 0, none⟩)), (6, .pointer (some ⟨g1_1, 0, none⟩)), (10, .bool false), (11, .int .i64 (((a).tell0 key).1)), (12, .bool true), (13, .int .i64 (((b).tell0 key).1)), (14, .bool true), (34, .bool false), (48, .bool true)] := hS
          have HH25 : Held w w25 [⟨g1_0, (), 6, (a).sc, 25⟩, ⟨g1_1, (), 6, (b).sc, 25⟩] := hH
          clear hS hH HS19 HH19
          refine then_ ?_
          refine wp_cond_true (HS25.get 13 rfl) ?_
          refine wp_seq ?_
          have hLo : LOk [(0, 10, .val (.bool false))] := lok (by rfl) (by rfl)
          refine zI (wE := w) (sz := 56) (n := 1) [0] [(0, .val (.agg (FR () 6 ((a).sc)))), (1, .val (.agg (FR () 6 ((b).sc)))), (2, .val (.string (key))), (3, .val (.int .i64 (mine))), (4, .val (.bool below)), (5, .val (.pointer (some ⟨g1_0, 0, none⟩))), (6, .val (.pointer (some ⟨g1_1, 0, none⟩))), (11, .val (.int .i64 (((a).tell0 key).1))), (12, .val (.bool true)), (13, .val (.int .i64 (((b).tell0 key).1))), (14, .val (.bool true)), (34, .val (.bool false)), (48, .val (.bool true)), (10, .val (.bool false))] [(0, 10, .val (.bool false))] [⟨g1_0, none, none, (), 6, (a).sc, (a).sc, 25⟩, ⟨g1_1, none, none, (), 6, (b).sc, (b).sc, 25⟩] rfl (by rfl) HH25 rfl rfl hLo rfl HS25 (slS 0 rfl rfl (slS 1 rfl rfl (slS 2 rfl rfl (slS 3 rfl rfl (slS 4 rfl rfl (slS 5 rfl rfl (slS 6 rfl rfl (slS 8 rfl rfl (slS 9 rfl rfl (slS 10 rfl rfl (slS 11 rfl rfl (slS 12 rfl rfl (slS 13 rfl rfl (slL 0 (d := 0) rfl (trivial))))))))))))))) ?_ ?_
          · show ∀ i ∈ [0], _
            refine zA (zC 0 _ rfl rfl hLo rfl rfl (fun _ _ _ _ => rfl) (fun b G w hb ho => zD (.inr rfl) (rfl))) ?_
            exact zF
          clear hLo
          intro G a26 w26 hS hH
          have HS26 : Sl a26 56 [(0, .agg (FR () 6 ((a).sc))), (1, .agg (FR () 6 ((b).sc))), (2, .string (key)), (3, .int .i64 (mine)), (4, .bool below), (5, .pointer (some ⟨g1_0, 0, none⟩)), (6, .pointer (some ⟨g1_1, 0, none⟩)), (11, .int .i64 (((a).tell0 key).1)), (12, .bool true), (13, .int .i64 (((b).tell0 key).1)), (14, .bool true), (34, .bool false), (48, .bool true), (10, .bool false)] := hS
          have HH26 : Held w w26 [⟨g1_0, (), 6, (a).sc, 25⟩, ⟨g1_1, (), 6, (b).sc, 25⟩] := hH
          clear hS hH HS25 HH25
          refine then_ ?_
          refine wp_ret ?_
          repeat (first | refine zP ?_ | refine zL ?_)
          exact yI rfl HS26.2.1 (HS26.get 13 rfl) ⟨turns_ret (by unfold turnsB; simp only [hr1, hr2, hr7, hr8]; try rfl), HH26.1⟩
      · skip
        refine wp_cond_true (HS19.get 12 rfl) ?_
        refine wp_seq ?_
        have hLo : LOk [(0, 10, .val (.bool true))] := lok (by rfl) (by rfl)
        refine zI (wE := w) (sz := 56) (n := 1) [0] [(0, .val (.agg (FR () 6 ((a).sc)))), (1, .val (.agg (FR () 6 ((b).sc)))), (2, .val (.string (key))), (3, .val (.int .i64 (mine))), (4, .val (.bool below)), (5, .val (.pointer (some ⟨g1_0, 0, none⟩))), (6, .val (.pointer (some ⟨g1_1, 0, none⟩))), (11, .val (.int .i64 (((a).tell0 key).1))), (12, .val (.bool true)), (13, .val (.int .i64 (((b).tell0 key).1))), (14, .val (.bool true)), (34, .val (.bool true)), (10, .val (.bool true))] [(0, 10, .val (.bool true))] [⟨g1_0, none, none, (), 6, (a).sc, (a).sc, 25⟩, ⟨g1_1, none, none, (), 6, (b).sc, (b).sc, 25⟩] rfl (by rfl) HH19 rfl rfl hLo rfl HS19 (slS 0 rfl rfl (slS 1 rfl rfl (slS 2 rfl rfl (slS 3 rfl rfl (slS 4 rfl rfl (slS 5 rfl rfl (slS 6 rfl rfl (slS 8 rfl rfl (slS 9 rfl rfl (slS 10 rfl rfl (slS 11 rfl rfl (slS 12 rfl rfl (slL 0 (d := 0) rfl (trivial)))))))))))))) ?_ ?_
        · show ∀ i ∈ [0], _
          refine zA (zC 0 _ rfl rfl hLo rfl rfl (fun _ _ _ _ => rfl) (fun b G w hb ho => zD (.inr rfl) (rfl))) ?_
          exact zF
        clear hLo
        intro G a27 w27 hS hH
        have HS27 : Sl a27 56 [(0, .agg (FR () 6 ((a).sc))), (1, .agg (FR () 6 ((b).sc))), (2, .string (key)), (3, .int .i64 (mine)), (4, .bool below), (5, .pointer (some ⟨g1_0, 0, none⟩)), (6, .pointer (some ⟨g1_1, 0, none⟩)), (11, .int .i64 (((a).tell0 key).1)), (12, .bool true), (13, .int .i64 (((b).tell0 key).1)), (14, .bool true), (34, .bool true), (10, .bool true)] := hS
        have HH27 : Held w w27 [⟨g1_0, (), 6, (a).sc, 25⟩, ⟨g1_1, (), 6, (b).sc, 25⟩] := hH
        clear hS hH HS19 HH19
        refine then_ ?_
        refine wp_ret ?_
        repeat (first | refine zP ?_ | refine zL ?_)
        exact yI rfl HS27.2.1 (HS27.get 12 rfl) ⟨turns_ret (by unfold turnsB; simp only [hr1, hr2, hr7]; try rfl), HH27.1⟩
theorem tables_calls (w : World) : Calls Tryd.prog 33 #[] w fun e w' => (∃ g, e = .returned (.slice (some ⟨g, 0, none⟩) 3 3) ∧ StrsAt w' (some ⟨g, 0, none⟩) 3 TN) ∧ Below w.heap.size w w' := by
  refine enter_ 2 Tryd.func33 rfl rfl (fun a0 hS => ?_)
  have HS0 : Sl a0 2 [] := hS
  have HH0 : Held w w [] := Held.first w
  clear hS
  refine wp_seq ?_
  have hLo : LOk [(0, 0, .val (.slice (none) (0) (0)))] := lok (by rfl) (by rfl)
  refine zI (wE := w) (sz := 2) (n := 1) [0] [(0, .val (.slice (none) (0) (0)))] [(0, 0, .val (.slice (none) (0) (0)))] [] rfl (by rfl) HH0 rfl rfl hLo rfl HS0 (slL 0 (d := 0) rfl (trivial)) ?_ ?_
  · show ∀ i ∈ [0], _
    refine zA (zC 0 _ rfl rfl hLo rfl rfl (fun _ _ _ _ => rfl) (fun b G w hb ho => zD (.inr rfl) (rfl))) ?_
    exact zF
  clear hLo
  intro G a1 w1 hS hH
  have HS1 : Sl a1 2 [(0, .slice (none) (0) (0))] := hS
  have HH1 : Held w w1 [] := hH
  clear hS hH HS0 HH0
  refine then_ ?_
  refine wp_seq ?_
  refine whole_ ?_
  have hLo : LOk [(0, 1, .new 0 (fun g => .slice (some ⟨g, 0, none⟩) (3) (3)))] := lok (by rfl) (by rfl)
  refine part_ (wE := w) (sz := 2) (n := 2) 0 1 [0, 1] [(0, .val (.slice (none) (0) (0))), (1, .new 0 (fun g => .slice (some ⟨g, 0, none⟩) (3) (3)))] [(0, 1, .new 0 (fun g => .slice (some ⟨g, 0, none⟩) (3) (3)))] [⟨0, some 0, none, (), 3, lsc [.s (zO), .s (k_notifications), .s (zS)], lsc [.s (zO), .s (k_notifications), .s (zS)], 9⟩] rfl rfl (by rfl) HH1 rfl rfl hLo rfl HS1 (slS 0 rfl rfl (slL 0 (d := 0) rfl (trivial))) ?_ ?_
  · show ∀ i ∈ [0], _
    refine zA (zW 0 0 () 3 9 none _ _ rfl rfl (fun _ _ _ _ => rfl) rfl hLo rfl rfl rfl rfl (by rfl) (fun b G w hb ho => exec_buildSlice rfl (parts3 (rfl) (rfl) (rfl)) (by kernel_rfl))) ?_
    exact zF
  clear hLo
  intro G a2 w2 hS hH
  have HS2 : Sl a2 2 [(0, .slice (none) (0) (0)), (1, .slice (some ⟨(G 0), 0, none⟩) (3) (3))] := hS
  have HH2 : Held w w2 [⟨(G 0), (), 3, lsc [.s (zO), .s (k_notifications), .s (zS)], 9⟩] := hH
  clear hS hH HS1 HH1
  generalize G 0 = g2_0 at HS2 HH2
  have hLo : LOk [(1, 0, .val (.slice (some ⟨g2_0, 0, none⟩) (3) (3)))] := lok (by rfl) (by rfl)
  refine part_ (wE := w) (sz := 2) (n := 2) 1 2 [0, 1] [(0, .val (.slice (some ⟨g2_0, 0, none⟩) (3) (3)))] [(1, 0, .val (.slice (some ⟨g2_0, 0, none⟩) (3) (3)))] [⟨g2_0, none, none, (), 3, lsc [.s (zO), .s (k_notifications), .s (zS)], lsc [.s (zO), .s (k_notifications), .s (zS)], 9⟩] rfl rfl (by rfl) HH2 rfl rfl hLo rfl HS2 (slL 0 (d := 1) rfl (trivial)) ?_ ?_
  · show ∀ i ∈ [1], _
    refine zA (zC 0 _ rfl rfl hLo rfl rfl (fun _ _ _ _ => rfl) (fun b G w hb ho => zD (.inr rfl) (zG rfl (HS2.get 1 rfl)))) ?_
    exact zF
  clear hLo
  intro G a3 w3 hS hH
  have HS3 : Sl a3 2 [(0, .slice (some ⟨g2_0, 0, none⟩) (3) (3))] := hS
  have HH3 : Held w w3 [⟨g2_0, (), 3, lsc [.s (zO), .s (k_notifications), .s (zS)], 9⟩] := hH
  clear hS hH HS2 HH2
  refine end_ rfl ?_
  refine then_ ?_
  refine wp_ret ?_
  repeat (first | refine zP ?_ | refine zL ?_)
  exact yI rfl HS3.2.1 (HS3.get 0 rfl) ⟨⟨g2_0, rfl, .row (HH3.row 0 rfl) tn_row⟩, HH3.1⟩
theorem names_calls (w : World) : Calls Tryd.prog 35 #[] w fun e w' => (∃ g, e = .returned (.slice (some ⟨g, 0, none⟩) 7 7) ∧ StrsAt w' (some ⟨g, 0, none⟩) 7 NM) ∧ Below w.heap.size w w' := by
  refine enter_ 2 Tryd.func35 rfl rfl (fun a0 hS => ?_)
  have HS0 : Sl a0 2 [] := hS
  have HH0 : Held w w [] := Held.first w
  clear hS
  refine wp_seq ?_
  have hLo : LOk [(0, 0, .val (.slice (none) (0) (0)))] := lok (by rfl) (by rfl)
  refine zI (wE := w) (sz := 2) (n := 1) [0] [(0, .val (.slice (none) (0) (0)))] [(0, 0, .val (.slice (none) (0) (0)))] [] rfl (by rfl) HH0 rfl rfl hLo rfl HS0 (slL 0 (d := 0) rfl (trivial)) ?_ ?_
  · show ∀ i ∈ [0], _
    refine zA (zC 0 _ rfl rfl hLo rfl rfl (fun _ _ _ _ => rfl) (fun b G w hb ho => zD (.inr rfl) (rfl))) ?_
    exact zF
  clear hLo
  intro G a1 w1 hS hH
  have HS1 : Sl a1 2 [(0, .slice (none) (0) (0))] := hS
  have HH1 : Held w w1 [] := hH
  clear hS hH HS0 HH0
  refine then_ ?_
  refine wp_seq ?_
  refine whole_ ?_
  have hLo : LOk [(0, 1, .new 0 (fun g => .slice (some ⟨g, 0, none⟩) (7) (7)))] := lok (by rfl) (by rfl)
  refine part_ (wE := w) (sz := 2) (n := 2) 0 1 [0, 1] [(0, .val (.slice (none) (0) (0))), (1, .new 0 (fun g => .slice (some ⟨g, 0, none⟩) (7) (7)))] [(0, 1, .new 0 (fun g => .slice (some ⟨g, 0, none⟩) (7) (7)))] [⟨0, some 0, none, (), 7, lsc [.s (k_ban), .s (yE), .s (k_invite), .s (k_kick), .s (k_redact), .s (yF), .s (yG)], lsc [.s (k_ban), .s (yE), .s (k_invite), .s (k_kick), .s (k_redact), .s (yF), .s (yG)], 9⟩] rfl rfl (by rfl) HH1 rfl rfl hLo rfl HS1 (slS 0 rfl rfl (slL 0 (d := 0) rfl (trivial))) ?_ ?_
  · show ∀ i ∈ [0], _
    refine zA (zW 0 0 () 7 9 none _ _ rfl rfl (fun _ _ _ _ => rfl) rfl hLo rfl rfl rfl rfl (by rfl) (fun b G w hb ho => exec_buildSlice rfl (parts7 (rfl) (rfl) (rfl) (rfl) (rfl) (rfl) (rfl)) (by kernel_rfl))) ?_
    exact zF
  clear hLo
  intro G a2 w2 hS hH
  have HS2 : Sl a2 2 [(0, .slice (none) (0) (0)), (1, .slice (some ⟨(G 0), 0, none⟩) (7) (7))] := hS
  have HH2 : Held w w2 [⟨(G 0), (), 7, lsc [.s (k_ban), .s (yE), .s (k_invite), .s (k_kick), .s (k_redact), .s (yF), .s (yG)], 9⟩] := hH
  clear hS hH HS1 HH1
  generalize G 0 = g2_0 at HS2 HH2
  have hLo : LOk [(1, 0, .val (.slice (some ⟨g2_0, 0, none⟩) (7) (7)))] := lok (by rfl) (by rfl)
  refine part_ (wE := w) (sz := 2) (n := 2) 1 2 [0, 1] [(0, .val (.slice (some ⟨g2_0, 0, none⟩) (7) (7)))] [(1, 0, .val (.slice (some ⟨g2_0, 0, none⟩) (7) (7)))] [⟨g2_0, none, none, (), 7, lsc [.s (k_ban), .s (yE), .s (k_invite), .s (k_kick), .s (k_redact), .s (yF), .s (yG)], lsc [.s (k_ban), .s (yE), .s (k_invite), .s (k_kick), .s (k_redact), .s (yF), .s (yG)], 9⟩] rfl rfl (by rfl) HH2 rfl rfl hLo rfl HS2 (slL 0 (d := 1) rfl (trivial)) ?_ ?_
  · show ∀ i ∈ [1], _
    refine zA (zC 0 _ rfl rfl hLo rfl rfl (fun _ _ _ _ => rfl) (fun b G w hb ho => zD (.inr rfl) (zG rfl (HS2.get 1 rfl)))) ?_
    exact zF
  clear hLo
  intro G a3 w3 hS hH
  have HS3 : Sl a3 2 [(0, .slice (some ⟨g2_0, 0, none⟩) (7) (7))] := hS
  have HH3 : Held w w3 [⟨g2_0, (), 7, lsc [.s (k_ban), .s (yE), .s (k_invite), .s (k_kick), .s (k_redact), .s (yF), .s (yG)], 9⟩] := hH
  clear hS hH HS2 HH2
  refine end_ rfl ?_
  refine then_ ?_
  refine wp_ret ?_
  repeat (first | refine zP ?_ | refine zL ?_)
  exact yI rfl HS3.2.1 (HS3.get 0 rfl) ⟨⟨g2_0, rfl, .row (HH3.row 0 rfl) nm_row⟩, HH3.1⟩
def zM : Value := .agg #[.string ByteArray.empty, .int .i64 0, .bool false, .int .i64 0, .string ByteArray.empty, .slice none 0 0, .slice none 0 0]
theorem infM : (Tryd.prog.info? 44).map (fun i => (i.zero, i.size, i.bytes)) = some (some zM, 7, 104) := by kernel_rfl
theorem zM7 : zM.cells.size = 7 := by rfl
theorem zeros_one {n : Nat} : ∀ u ∈ (Builtin.zeroCells zM.cells n).toList, u.oneCell' = true := by
  intro u hu
  unfold Builtin.zeroCells at hu
  simp only [Array.toList_map, List.mem_map] at hu
  obtain ⟨j, _, rfl⟩ := hu
  have e : zM.cells.size = 7 := rfl
  rw [e]
  have h : j % 7 = 0 ∨ j % 7 = 1 ∨ j % 7 = 2 ∨ j % 7 = 3 ∨ j % 7 = 4 ∨ j % 7 = 5 ∨ j % 7 = 6 := by omega
  rcases h with h | h | h | h | h | h | h <;> rw [h] <;> rfl
theorem grow_run {w : World} {n : Nat} (hn : n ≤ 1099511627776) (ty : TypeId) : ∃ oa c w', (Builtin.append_ #[23, 3] ty #[.slice none 0 0, .int .i64 (n : Int)]).run Tryd.prog w = .ok (.slice oa n c) w' ∧ OwnR w.heap.size w' 44 7 [] (.slice oa n c) n (Builtin.zeroCells zM.cells n).toList ∧ Below w.heap.size w w' := by
  obtain ⟨i, hi, hz, hs, hb⟩ := info_parts2 infM
  obtain ⟨v', w', hr, ho, hg, hv⟩ := run_append_zeros w w.heap.size 23 3 ty 44 i zM 7 104 Tryd.underlying23 Tryd.underlying3 hi hz hs hb zM7 (by decide) (by decide) (.slice none 0 0) 0 [] (World.ownsRow_nil _ _ _ _) .i64 n zeros_one (by omega) (Nat.le_refl _)
  rw [Nat.zero_add] at ho
  rw [List.nil_append] at ho
  have hO : OwnR w.heap.size w' 44 7 [] v' n (Builtin.zeroCells zM.cells n).toList := ⟨ho, fun g hm => by cases hm⟩
  obtain ⟨oa, c, rfl, _, _⟩ := hO.slice
  exact ⟨oa, c, w', hr, hO, (Below.refl _ w).grown hg (Nat.le_refl _) (fun k hk => by cases hk)⟩
def zU (a b : T) (i : Nat) : T := if i = 0 then a else b
theorem pick2_in {w : World} {a b : T} (ha : In w a) (hb : In w b) (i : Nat) : In w (zU a b i) := by unfold zU; split; exact ha; exact hb
def cumN (a b : T) : Nat → Nat
  | 0 => 0
  | i + 1 => cumN a b i + (zU a b i).ml
def cumC (a b : T) : Nat → List Value
  | 0 => []
  | i + 1 => cumC a b i ++ mcells (zU a b i).key (zU a b i).mem (zU a b i).ml
theorem pick2_le {a b : T} (ha : a.ml ≤ 1073741824) (hb : b.ml ≤ 1073741824) (i : Nat) : (zU a b i).ml ≤ 1073741824 := by unfold zU; split; exact ha; exact hb
theorem cumN_le {a b : T} (ha : a.ml ≤ 1073741824) (hb : b.ml ≤ 1073741824) : ∀ i, cumN a b i ≤ i * 1073741824
  | 0 => Nat.le_refl _
  | i + 1 => by
    have h1 := cumN_le ha hb i
    have h2 := pick2_le ha hb i
    show cumN a b i + (zU a b i).ml ≤ _
    omega
theorem cumN_two (a b : T) : cumN a b 2 = a.ml + b.ml := by
  show 0 + (zU a b 0).ml + (zU a b 1).ml = _
  rw [Nat.zero_add]; rfl
theorem cumC_two (a b : T) : cumC a b 2 = mcells (catK a b) (catM a b) (a.ml + b.ml) := by
  show [] ++ mcells a.key a.mem a.ml ++ mcells b.key b.mem b.ml = _
  rw [List.nil_append, mcells_add]; rfl
theorem sum_ok {a b : T} {i : Nat} (ha : a.ml ≤ 1073741824) (hb : b.ml ≤ 1073741824) (hi : i < 2) : IntKind.i64.wrap ((cumN a b i : Int) + ((zU a b (i)).ml : Int)) = (cumN a b (i + 1) : Int) := by
  have h1 := cumN_le ha hb (i + 1)
  have e : cumN a b (i + 1) = cumN a b i + (zU a b i).ml := rfl
  exact w_nat (by omega) (by omega)
theorem concat_fin {base : Nat} {w : World} {e : TypeId} {oa : Option Addr} {c : Nat} {a b : T} (h : OwnR base w e 7 [] (.slice oa (cumN a b 2) c) (cumN a b 2) (cumC a b 2)) : MemsAt w oa (a.ml + b.ml) (catK a b) (catM a b) := by
  rw [cumN_two, cumC_two] at h
  exact MemsAt.own h
theorem grow_calls (n : Nat) (hn : n ≤ 1099511627776) (w : World) : Calls Tryd.prog 43 #[.slice none 0 0, .int .i64 (n : Int)] w fun e w' => (∃ oa c, e = .returned (.slice oa 0 c) ∧ OwnR w.heap.size w' 44 7 [] (.slice oa 0 c) 0 []) ∧ Below w.heap.size w w' := by
  refine enter_ 27 Tryd.func43 rfl rfl (fun a0 hS => ?_)
  have HS0 : Sl a0 27 [(0, .slice (none) (0) (0)), (1, .int .i64 ((n : Int)))] := hS
  have HH0 : Held w w [] := Held.first w
  clear hS
  refine wp_seq ?_
  have hLo : LOk [(0, 4, .val (.slice (none) (0) (0)))] := lok (by rfl) (by rfl)
  refine zI (wE := w) (sz := 27) (n := 1) [0] [(0, .val (.slice (none) (0) (0))), (1, .val (.int .i64 ((n : Int)))), (4, .val (.slice (none) (0) (0)))] [(0, 4, .val (.slice (none) (0) (0)))] [] rfl (by rfl) HH0 rfl rfl hLo rfl HS0 (slS 0 rfl rfl (slS 1 rfl rfl (slL 0 (d := 0) rfl (trivial)))) ?_ ?_
  · show ∀ i ∈ [0], _
    refine zA (zC 0 _ rfl rfl hLo rfl rfl (fun _ _ _ _ => rfl) (fun b G w hb ho => zD (.inr rfl) (rfl))) ?_
    exact zF
  clear hLo
  intro G a1 w1 hS hH
  have HS1 : Sl a1 27 [(0, .slice (none) (0) (0)), (1, .int .i64 ((n : Int))), (4, .slice (none) (0) (0))] := hS
  have HH1 : Held w w1 [] := hH
  clear hS hH HS0 HH0
  refine then_ ?_
  refine wp_seq ?_
  refine wp_seq ?_
  have hLo : LOk [(0, 5, .val (.int .i64 ((n : Int)))), (1, 6, .val (.bool false))] := lok (by rfl) (by rfl)
  refine zI (wE := w) (sz := 27) (n := 2) [0, 1] [(0, .val (.slice (none) (0) (0))), (1, .val (.int .i64 ((n : Int)))), (4, .val (.slice (none) (0) (0))), (6, .val (.bool false))] [(0, 5, .val (.int .i64 ((n : Int)))), (1, 6, .val (.bool false))] [] rfl (by rfl) HH1 rfl rfl hLo rfl HS1 (slS 0 rfl rfl (slS 1 rfl rfl (slS 2 rfl rfl (slL 1 (d := 1) rfl (trivial))))) ?_ ?_
  · show ∀ i ∈ [0, 1], _
    refine zA (zC 0 _ rfl rfl hLo rfl rfl (fun _ _ _ _ => rfl) (fun b G w hb ho => zD (.inl rfl) (zG rfl (HS1.get 1 rfl)))) ?_
    refine zA (zC 1 _ rfl rfl hLo rfl rfl (fun _ _ _ _ => rfl) (fun b G w hb ho => zJ rfl (zB hLo 0 rfl HS1.1 rfl (hb 0 (by rfl))) (rfl) (rb_lss (decide_eq_false (by omega)) _ _ _))) ?_
    exact zF
  clear hLo
  intro G a2 w2 hS hH
  have HS2 : Sl a2 27 [(0, .slice (none) (0) (0)), (1, .int .i64 ((n : Int))), (4, .slice (none) (0) (0)), (6, .bool false)] := hS
  have HH2 : Held w w2 [] := hH
  clear hS hH HS1 HH1
  refine then_ ?_
  refine wp_cond_false (HS2.get 3 rfl) ?_
  refine wp_skip ?_
  refine then_ ?_
  refine wp_seq ?_
  refine wp_seq ?_
  have hLo : LOk [(0, 8, .val (.int .i64 ((n : Int)))), (1, 9, .val (.slice (none) (0) (0))), (2, 10, .val (.int .i64 (0))), (3, 11, .val (.slice (none) (0) (0))), (4, 12, .val (.int .i64 (0))), (5, 13, .val (.int .i64 (0))), (6, 14, .val (.int .i64 ((n : Int)))), (7, 1, .val (.int .i64 ((n : Int))))] := lok (by rfl) (by rfl)
  refine zI (wE := w) (sz := 27) (n := 8) [0, 1, 3, 7, 15, 31, 63, 127] [(0, .val (.slice (none) (0) (0))), (4, .val (.slice (none) (0) (0))), (6, .val (.bool false)), (1, .val (.int .i64 ((n : Int))))] [(0, 8, .val (.int .i64 ((n : Int)))), (1, 9, .val (.slice (none) (0) (0))), (2, 10, .val (.int .i64 (0))), (3, 11, .val (.slice (none) (0) (0))), (4, 12, .val (.int .i64 (0))), (5, 13, .val (.int .i64 (0))), (6, 14, .val (.int .i64 ((n : Int)))), (7, 1, .val (.int .i64 ((n : Int))))] [] rfl (by rfl) HH2 rfl rfl hLo rfl HS2 (slS 0 rfl rfl (slS 2 rfl rfl (slS 3 rfl rfl (slL 7 (d := 7) rfl (trivial))))) ?_ ?_
  · show ∀ i ∈ [0, 1, 2, 3, 4, 5, 6, 7], _
    refine zA (zC 0 _ rfl rfl hLo rfl rfl (fun _ _ _ _ => rfl) (fun b G w hb ho => zD (.inl rfl) (ev_pre hLo 7 rfl (ho 7 (by rfl)) (HS2.get 1 rfl)))) ?_
    refine zA (zC 1 _ rfl rfl hLo rfl rfl (fun _ _ _ _ => rfl) (fun b G w hb ho => zD (.inl rfl) (zG rfl (HS2.get 0 rfl)))) ?_
    refine zA (zC 2 _ rfl rfl hLo rfl rfl (fun _ _ _ _ => rfl) (fun b G w hb ho => exec_capL Tryd.underlying23 rfl (zB hLo 1 rfl HS2.1 rfl (hb 1 (by rfl))))) ?_
    refine zA (zC 3 _ rfl rfl hLo rfl rfl (fun _ _ _ _ => rfl) (fun b G w hb ho => zD (.inl rfl) (zG rfl (HS2.get 0 rfl)))) ?_
    refine zA (zC 4 _ rfl rfl hLo rfl rfl (fun _ _ _ _ => rfl) (fun b G w hb ho => exec_lenL Tryd.underlying23 rfl (zB hLo 3 rfl HS2.1 rfl (hb 3 (by rfl))))) ?_
    refine zA (zC 5 _ rfl rfl hLo rfl rfl (fun _ _ _ _ => rfl) (fun b G w hb ho => zJ rfl (zB hLo 2 rfl HS2.1 rfl (hb 2 (by rfl))) (zB hLo 4 rfl HS2.1 rfl (hb 4 (by rfl))) (rb_sub (by decide) _ _ _))) ?_
    refine zA (zC 6 _ rfl rfl hLo rfl rfl (fun _ _ _ _ => rfl) (fun b G w hb ho => zJ rfl (zB hLo 0 rfl HS2.1 rfl (hb 0 (by rfl))) (zB hLo 5 rfl HS2.1 rfl (hb 5 (by rfl))) (rb_sub (w_nat (by omega) (by omega)) _ _ _))) ?_
    refine zA (zC 7 _ rfl rfl hLo rfl rfl (fun _ _ _ _ => rfl) (fun b G w hb ho => zD (.inr rfl) (zB hLo 6 rfl HS2.1 rfl (hb 6 (by rfl))))) ?_
    exact zF
  clear hLo
  intro G a3 w3 hS hH
  have HS3 : Sl a3 27 [(0, .slice (none) (0) (0)), (4, .slice (none) (0) (0)), (6, .bool false), (1, .int .i64 ((n : Int)))] := hS
  have HH3 : Held w w3 [] := hH
  clear hS hH HS2 HH2
  refine then_ ?_
  obtain ⟨r1, hr1⟩ : ∃ r : Bool, (decide ((0 : Int) < (n : Int))) = r := ⟨_, rfl⟩
  refine wp_seq ?_
  have hLo : LOk [(0, 15, .val (.int .i64 ((n : Int)))), (1, 16, .val (.bool r1))] := lok (by rfl) (by rfl)
  refine zI (wE := w) (sz := 27) (n := 2) [0, 1] [(0, .val (.slice (none) (0) (0))), (4, .val (.slice (none) (0) (0))), (6, .val (.bool false)), (1, .val (.int .i64 ((n : Int)))), (16, .val (.bool r1))] [(0, 15, .val (.int .i64 ((n : Int)))), (1, 16, .val (.bool r1))] [] rfl (by rfl) HH3 rfl rfl hLo rfl HS3 (slS 0 rfl rfl (slS 1 rfl rfl (slS 2 rfl rfl (slS 3 rfl rfl (slL 1 (d := 1) rfl (trivial)))))) ?_ ?_
  · show ∀ i ∈ [0, 1], _
    refine zA (zC 0 _ rfl rfl hLo rfl rfl (fun _ _ _ _ => rfl) (fun b G w hb ho => zD (.inl rfl) (zG rfl (HS3.get 3 rfl)))) ?_
    refine zA (zC 1 _ rfl rfl hLo rfl rfl (fun _ _ _ _ => rfl) (fun b G w hb ho => zJ rfl (zB hLo 0 rfl HS3.1 rfl (hb 0 (by rfl))) (rfl) (rb_gtr hr1 _ _ _))) ?_
    exact zF
  clear hLo
  intro G a4 w4 hS hH
  have HS4 : Sl a4 27 [(0, .slice (none) (0) (0)), (4, .slice (none) (0) (0)), (6, .bool false), (1, .int .i64 ((n : Int))), (16, .bool r1)] := hS
  have HH4 : Held w w4 [] := hH
  clear hS hH HS3 HH3
  refine then_ ?_
  cases r1
  · skip
    refine wp_cond_false (HS4.get 4 rfl) ?_
    refine wp_skip ?_
    refine then_ ?_
    refine wp_seq ?_
    have hLo : LOk [(0, 26, .val (.slice (none) (0) (0))), (1, 4, .val (.slice (none) (0) (0)))] := lok (by rfl) (by rfl)
    refine zI (wE := w) (sz := 27) (n := 2) [0, 1] [(0, .val (.slice (none) (0) (0))), (6, .val (.bool false)), (1, .val (.int .i64 ((n : Int)))), (16, .val (.bool false)), (4, .val (.slice (none) (0) (0)))] [(0, 26, .val (.slice (none) (0) (0))), (1, 4, .val (.slice (none) (0) (0)))] [] rfl (by rfl) HH4 rfl rfl hLo rfl HS4 (slS 0 rfl rfl (slS 2 rfl rfl (slS 3 rfl rfl (slS 4 rfl rfl (slL 1 (d := 1) rfl (trivial)))))) ?_ ?_
    · show ∀ i ∈ [0, 1], _
      refine zA (zC 0 _ rfl rfl hLo rfl rfl (fun _ _ _ _ => rfl) (fun b G w hb ho => zD (.inl rfl) (zG rfl (HS4.get 0 rfl)))) ?_
      refine zA (zC 1 _ rfl rfl hLo rfl rfl (fun _ _ _ _ => rfl) (fun b G w hb ho => zD (.inr rfl) (zB hLo 0 rfl HS4.1 rfl (hb 0 (by rfl))))) ?_
      exact zF
    clear hLo
    intro G a5 w5 hS hH
    have HS5 : Sl a5 27 [(0, .slice (none) (0) (0)), (6, .bool false), (1, .int .i64 ((n : Int))), (16, .bool false), (4, .slice (none) (0) (0))] := hS
    have HH5 : Held w w5 [] := hH
    clear hS hH HS4 HH4
    refine then_ ?_
    refine wp_ret ?_
    repeat (first | refine zP ?_ | refine zL ?_)
    exact yI rfl HS5.2.1 (HS5.get 4 rfl) ⟨⟨none, 0, rfl, OwnR.nil⟩, HH5.1⟩
  · skip
    refine wp_cond_true (HS4.get 4 rfl) ?_
    refine whole_ ?_
    have hLo : LOk [(0, 17, .val (.slice (none) (0) (0))), (1, 18, .val (.slice (none) (0) (0))), (2, 19, .val (.int .i64 (0))), (3, 20, .val (.slice (none) (0) (0))), (4, 21, .val (.int .i64 ((n : Int))))] := lok (by rfl) (by rfl)
    refine part_ (wE := w) (sz := 27) (n := 10) 0 5 [0, 1, 3, 7, 15, 31, 63, 127, 255, 511] [(0, .val (.slice (none) (0) (0))), (4, .val (.slice (none) (0) (0))), (6, .val (.bool false)), (1, .val (.int .i64 ((n : Int)))), (16, .val (.bool true)), (20, .val (.slice (none) (0) (0))), (21, .val (.int .i64 ((n : Int))))] [(0, 17, .val (.slice (none) (0) (0))), (1, 18, .val (.slice (none) (0) (0))), (2, 19, .val (.int .i64 (0))), (3, 20, .val (.slice (none) (0) (0))), (4, 21, .val (.int .i64 ((n : Int))))] [] rfl rfl (by rfl) HH4 rfl rfl hLo rfl HS4 (slS 0 rfl rfl (slS 1 rfl rfl (slS 2 rfl rfl (slS 3 rfl rfl (slS 4 rfl rfl (slL 3 (d := 3) rfl (slL 4 (d := 4) rfl (trivial)))))))) ?_ ?_
    · show ∀ i ∈ [0, 1, 2, 3, 4], _
      refine zA (zC 0 _ rfl rfl hLo rfl rfl (fun _ _ _ _ => rfl) (fun b G w hb ho => zD (.inl rfl) (zG rfl (HS4.get 0 rfl)))) ?_
      refine zA (zC 1 _ rfl rfl hLo rfl rfl (fun _ _ _ _ => rfl) (fun b G w hb ho => zD (.inl rfl) (zG rfl (HS4.get 0 rfl)))) ?_
      refine zA (zC 2 _ rfl rfl hLo rfl rfl (fun _ _ _ _ => rfl) (fun b G w hb ho => exec_capL Tryd.underlying23 rfl (zB hLo 1 rfl HS4.1 rfl (hb 1 (by rfl))))) ?_
      refine zA (zC 3 _ rfl rfl hLo rfl rfl (fun _ _ _ _ => rfl) (fun b G w hb ho => exec_slice rfl (zB hLo 0 rfl HS4.1 rfl (hb 0 (by rfl))) rfl (congrArg some (zB hLo 2 rfl HS4.1 rfl (hb 2 (by rfl)))) rfl (run_slice0 (m := 7) Tryd.underlying23 (by kernel_rfl) _))) ?_
      refine zA (zC 4 _ rfl rfl hLo rfl rfl (fun _ _ _ _ => rfl) (fun b G w hb ho => zD (.inl rfl) (zG rfl (HS4.get 3 rfl)))) ?_
      exact zF
    clear hLo
    intro G a6 w6 hS hH
    have HS6 : Sl a6 27 [(0, .slice (none) (0) (0)), (4, .slice (none) (0) (0)), (6, .bool false), (1, .int .i64 ((n : Int))), (16, .bool true), (20, .slice (none) (0) (0)), (21, .int .i64 ((n : Int)))] := hS
    have HH6 : Held w w6 [] := hH
    clear hS hH HS4 HH4
    obtain ⟨oa, c, w7, hr7, hO7, hb7⟩ := grow_run (w := w6) (n := n) (by omega) 23
    replace hO7 := (hO7.low HH6.1.size).cut0
    refine cut_run rfl rfl rfl (exec_appendMake rfl (HS6.get 5 rfl) (HS6.get 6 rfl) hr7) HS6 rfl (fun a7 hS => ?_)
    have HS8 : Sl a7 27 [(22, .slice (oa) (n) (c)), (0, .slice (none) (0) (0)), (4, .slice (none) (0) (0)), (6, .bool false), (1, .int .i64 ((n : Int))), (16, .bool true), (20, .slice (none) (0) (0)), (21, .int .i64 ((n : Int)))] := hS
    have HH8 : Held w w7 [] := HH6.call hb7
    clear hS
    have HH9 : Held w7 w7 [] := Held.first w7
    have HS9 : Sl a7 27 [(22, .slice (oa) (n) (c)), (0, .slice (none) (0) (0)), (4, .slice (none) (0) (0)), (6, .bool false), (1, .int .i64 ((n : Int))), (16, .bool true), (20, .slice (none) (0) (0)), (21, .int .i64 ((n : Int)))] := HS8
    have hLo : LOk [(6, 23, .val (.slice (none) (0) (0))), (7, 24, .val (.int .i64 (0))), (8, 25, .val (.slice (oa) (0) (c))), (9, 0, .val (.slice (oa) (0) (c)))] := lok (by rfl) (by rfl)
    refine part_ (wE := w7) (sz := 27) (n := 10) 6 10 [0, 1, 3, 7, 15, 31, 63, 127, 255, 511] [(4, .val (.slice (none) (0) (0))), (6, .val (.bool false)), (1, .val (.int .i64 ((n : Int)))), (16, .val (.bool true)), (0, .val (.slice (oa) (0) (c)))] [(6, 23, .val (.slice (none) (0) (0))), (7, 24, .val (.int .i64 (0))), (8, 25, .val (.slice (oa) (0) (c))), (9, 0, .val (.slice (oa) (0) (c)))] [] rfl rfl (by rfl) HH9 rfl rfl hLo rfl HS9 (slS 2 rfl rfl (slS 3 rfl rfl (slS 4 rfl rfl (slS 5 rfl rfl (slL 3 (d := 9) rfl (trivial)))))) ?_ ?_
    · show ∀ i ∈ [6, 7, 8, 9], _
      refine zA (zC 0 _ rfl rfl hLo rfl rfl (fun _ _ _ _ => rfl) (fun b G w hb ho => zD (.inl rfl) (ev_pre hLo 3 rfl (ho 9 (by rfl)) (HS9.get 1 rfl)))) ?_
      refine zA (zC 1 _ rfl rfl hLo rfl rfl (fun _ _ _ _ => rfl) (fun b G w hb ho => exec_lenL Tryd.underlying23 rfl (zB hLo 0 rfl HS9.1 rfl (hb 6 (by rfl))))) ?_
      refine zA (zC 2 _ rfl rfl hLo rfl rfl (fun _ _ _ _ => rfl) (fun b G w hb ho => exec_slice rfl (zG rfl (HS9.get 0 rfl)) rfl (congrArg some (zB hLo 1 rfl HS9.1 rfl (hb 7 (by rfl)))) rfl (run_slice0 (m := 7) Tryd.underlying23 (by kernel_rfl) _))) ?_
      refine zA (zC 3 _ rfl rfl hLo rfl rfl (fun _ _ _ _ => rfl) (fun b G w hb ho => zD (.inr rfl) (zB hLo 2 rfl HS9.1 rfl (hb 8 (by rfl))))) ?_
      exact zF
    clear hLo
    intro G a10 w10 hS hH
    have HS10 : Sl a10 27 [(4, .slice (none) (0) (0)), (6, .bool false), (1, .int .i64 ((n : Int))), (16, .bool true), (0, .slice (oa) (0) (c))] := hS
    have HH10 : Held w7 w10 [] := hH
    clear hS hH HS9 HH9
    refine end_ rfl ?_
    refine then_ ?_
    refine wp_seq ?_
    have hLo : LOk [(0, 26, .val (.slice (oa) (0) (c))), (1, 4, .val (.slice (oa) (0) (c)))] := lok (by rfl) (by rfl)
    refine zI (wE := w7) (sz := 27) (n := 2) [0, 1] [(6, .val (.bool false)), (1, .val (.int .i64 ((n : Int)))), (16, .val (.bool true)), (0, .val (.slice (oa) (0) (c))), (4, .val (.slice (oa) (0) (c)))] [(0, 26, .val (.slice (oa) (0) (c))), (1, 4, .val (.slice (oa) (0) (c)))] [] rfl (by rfl) HH10 rfl rfl hLo rfl HS10 (slS 1 rfl rfl (slS 2 rfl rfl (slS 3 rfl rfl (slS 4 rfl rfl (slL 1 (d := 1) rfl (trivial)))))) ?_ ?_
    · show ∀ i ∈ [0, 1], _
      refine zA (zC 0 _ rfl rfl hLo rfl rfl (fun _ _ _ _ => rfl) (fun b G w hb ho => zD (.inl rfl) (zG rfl (HS10.get 4 rfl)))) ?_
      refine zA (zC 1 _ rfl rfl hLo rfl rfl (fun _ _ _ _ => rfl) (fun b G w hb ho => zD (.inr rfl) (zB hLo 0 rfl HS10.1 rfl (hb 0 (by rfl))))) ?_
      exact zF
    clear hLo
    intro G a11 w11 hS hH
    have HS11 : Sl a11 27 [(6, .bool false), (1, .int .i64 ((n : Int))), (16, .bool true), (0, .slice (oa) (0) (c)), (4, .slice (oa) (0) (c))] := hS
    have HH11 : Held w7 w11 [] := hH
    clear hS hH HS10 HH10
    refine then_ ?_
    refine wp_ret ?_
    repeat (first | refine zP ?_ | refine zL ?_)
    have hOf := hO7.below HH11.1
    have HH12 := Held.back HH8 HH11
    exact yI rfl HS11.2.1 (HS11.get 4 rfl) ⟨⟨oa, c, rfl, hOf⟩, HH12.1⟩
theorem concat_calls {p q : T} {ad : Addr} {cc : Nat} (w : World) (hmp : p.ml ≤ 1073741824) (hmq : q.ml ≤ 1073741824) (hIna : In w p) (hInb : In w q) (hA : ∀ i, i < 2 → w.cell? (ad.add (i * 1)) = some (.slice (zU p q i).xm (zU p q i).ml (zU p q i).cm)) : Calls Tryd.prog 39 #[.slice (some ad) 2 cc] w fun e w' => (∃ oa c, e = .returned (.slice oa (p.ml + q.ml) c) ∧ MemsAt w' oa (p.ml + q.ml) (catK p q) (catM p q)) ∧ Below w.heap.size w w' := by
  refine enter_ 36 Tryd.func39 rfl rfl (fun a0 hS => ?_)
  have HS0 : Sl a0 36 [(0, .slice (some ad) (2) (cc))] := hS
  have HH0 : Held w w [] := Held.first w
  clear hS
  refine wp_seq ?_
  have hLo : LOk [(0, 2, .val (.slice (none) (0) (0)))] := lok (by rfl) (by rfl)
  refine zI (wE := w) (sz := 36) (n := 1) [0] [(0, .val (.slice (some ad) (2) (cc))), (2, .val (.slice (none) (0) (0)))] [(0, 2, .val (.slice (none) (0) (0)))] [] rfl (by rfl) HH0 rfl rfl hLo rfl HS0 (slS 0 rfl rfl (slL 0 (d := 0) rfl (trivial))) ?_ ?_
  · show ∀ i ∈ [0], _
    refine zA (zC 0 _ rfl rfl hLo rfl rfl (fun _ _ _ _ => rfl) (fun b G w hb ho => zD (.inr rfl) (rfl))) ?_
    exact zF
  clear hLo
  intro G a1 w1 hS hH
  have HS1 : Sl a1 36 [(0, .slice (some ad) (2) (cc)), (2, .slice (none) (0) (0))] := hS
  have HH1 : Held w w1 [] := hH
  clear hS hH HS0 HH0
  refine then_ ?_
  refine wp_seq ?_
  have hLo : LOk [(0, 3, .val (.int .i64 (0)))] := lok (by rfl) (by rfl)
  refine zI (wE := w) (sz := 36) (n := 1) [0] [(0, .val (.slice (some ad) (2) (cc))), (2, .val (.slice (none) (0) (0))), (3, .val (.int .i64 (0)))] [(0, 3, .val (.int .i64 (0)))] [] rfl (by rfl) HH1 rfl rfl hLo rfl HS1 (slS 0 rfl rfl (slS 1 rfl rfl (slL 0 (d := 0) rfl (trivial)))) ?_ ?_
  · show ∀ i ∈ [0], _
    refine zA (zC 0 _ rfl rfl hLo rfl rfl (fun _ _ _ _ => rfl) (fun b G w hb ho => zD (.inr rfl) (rfl))) ?_
    exact zF
  clear hLo
  intro G a2 w2 hS hH
  have HS2 : Sl a2 36 [(0, .slice (some ad) (2) (cc)), (2, .slice (none) (0) (0)), (3, .int .i64 (0))] := hS
  have HH2 : Held w w2 [] := hH
  clear hS hH HS1 HH1
  refine then_ ?_
  refine wp_seq ?_
  refine wp_seq ?_
  have hLo : LOk [(0, 9, .val (.slice (some ad) (2) (cc))), (1, 10, .val (.int .i64 (2))), (2, 11, .val (.int .i64 (0)))] := lok (by rfl) (by rfl)
  refine zI (wE := w) (sz := 36) (n := 3) [0, 1, 3] [(0, .val (.slice (some ad) (2) (cc))), (2, .val (.slice (none) (0) (0))), (3, .val (.int .i64 (0))), (9, .val (.slice (some ad) (2) (cc))), (10, .val (.int .i64 (2))), (11, .val (.int .i64 (0)))] [(0, 9, .val (.slice (some ad) (2) (cc))), (1, 10, .val (.int .i64 (2))), (2, 11, .val (.int .i64 (0)))] [] rfl (by rfl) HH2 rfl rfl hLo rfl HS2 (slS 0 rfl rfl (slS 1 rfl rfl (slS 2 rfl rfl (slL 0 (d := 0) rfl (slL 1 (d := 1) rfl (slL 2 (d := 2) rfl (trivial))))))) ?_ ?_
  · show ∀ i ∈ [0, 1, 2], _
    refine zA (zC 0 _ rfl rfl hLo rfl rfl (fun _ _ _ _ => rfl) (fun b G w hb ho => zD (.inl rfl) (zG rfl (HS2.get 0 rfl)))) ?_
    refine zA (zC 1 _ rfl rfl hLo rfl rfl (fun _ _ _ _ => rfl) (fun b G w hb ho => exec_lenL Tryd.underlying64 rfl (zB hLo 0 rfl HS2.1 rfl (hb 0 (by rfl))))) ?_
    refine zA (zC 2 _ rfl rfl hLo rfl rfl (fun _ _ _ _ => rfl) (fun b G w hb ho => zD (.inl rfl) (rfl))) ?_
    exact zF
  clear hLo
  intro G a3 w3 hS hH
  have HS3 : Sl a3 36 [(0, .slice (some ad) (2) (cc)), (2, .slice (none) (0) (0)), (3, .int .i64 (0)), (9, .slice (some ad) (2) (cc)), (10, .int .i64 (2)), (11, .int .i64 (0))] := hS
  have HH3 : Held w w3 [] := hH
  clear hS hH HS2 HH2
  refine then_ ?_
  refine wp_block ?_
  have hSq0 : Sl _ 36 [(0, .slice (some ad) (2) (cc)), (2, .slice (none) (0) (0)), (9, .slice (some ad) (2) (cc)), (10, .int .i64 (2)), (11, .int .i64 (0)), (3, .int .i64 (0))] := yB HS3 [0, 1, 3, 4, 5, 2] (by rfl)
  refine wp_loop (fun a w' => ∃ i : Nat, i ≤ 2 ∧ Sl a 36 [(0, .slice (some ad) (2) (cc)), (2, .slice (none) (0) (0)), (9, .slice (some ad) (2) (cc)), (10, .int .i64 (2)), (11, .int .i64 ((i : Int))), (3, .int .i64 ((cumN p q i : Int)))] ∧ Held w w' []) (fun a w' => 2 - (intOf (a.eval (.tmp 11))).toNat) ⟨0, Nat.zero_le _, hSq0, HH3⟩ ?_
  clear hSq0 HS3 HH3
  rintro aq0 wq0 ⟨i, hi, HSq0, HHq0⟩
  have hm : (intOf (aq0.eval (.tmp 11))).toNat = i := by rw [(HSq0.get 4 rfl)]; rfl
  rw [hm]
  clear hm
  obtain ⟨r1, hr1⟩ : ∃ r : Bool, (decide (((i : Int) : Int) < 2)) = r := ⟨_, rfl⟩
  refine wp_seq ?_
  have hLo : LOk [(0, 12, .val (.bool r1))] := lok (by rfl) (by rfl)
  refine zI (wE := w) (sz := 36) (n := 1) [0] [(0, .val (.slice (some ad) (2) (cc))), (2, .val (.slice (none) (0) (0))), (9, .val (.slice (some ad) (2) (cc))), (10, .val (.int .i64 (2))), (11, .val (.int .i64 ((i : Int)))), (3, .val (.int .i64 ((cumN p q i : Int)))), (12, .val (.bool r1))] [(0, 12, .val (.bool r1))] [] rfl (by rfl) HHq0 rfl rfl hLo rfl HSq0 (slS 0 rfl rfl (slS 1 rfl rfl (slS 2 rfl rfl (slS 3 rfl rfl (slS 4 rfl rfl (slS 5 rfl rfl (slL 0 (d := 0) rfl (trivial)))))))) ?_ ?_
  · show ∀ i ∈ [0], _
    refine zA (zC 0 _ rfl rfl hLo rfl rfl (fun _ _ _ _ => rfl) (fun b G w hb ho => zJ rfl (zG rfl (HSq0.get 4 rfl)) (zG rfl (HSq0.get 3 rfl)) (rb_lss hr1 _ _ _))) ?_
    exact zF
  clear hLo
  intro G a4 w4 hS hH
  have HS4 : Sl a4 36 [(0, .slice (some ad) (2) (cc)), (2, .slice (none) (0) (0)), (9, .slice (some ad) (2) (cc)), (10, .int .i64 (2)), (11, .int .i64 ((i : Int))), (3, .int .i64 ((cumN p q i : Int))), (12, .bool r1)] := hS
  have HH4 : Held w w4 [] := hH
  clear hS hH HSq0 HHq0
  refine then_ ?_
  refine wp_seq ?_
  cases r1
  · skip
    obtain rfl : i = 2 := by have := of_decide_eq_false hr1; omega
    refine wp_cond_false (HS4.get 6 rfl) ?_
    refine wp_exit ?_
    refine zZ ?_
    refine zZ ?_
    refine yH ?_
    refine then_ ?_
    refine wp_seq ?_
    refine whole_ ?_
    have hLo : LOk [(0, 23, .val (.int .i64 ((cumN p q 2 : Int))))] := lok (by rfl) (by rfl)
    refine part_ (wE := w) (sz := 36) (n := 3) 0 1 [0, 1, 3] [(0, .val (.slice (some ad) (2) (cc))), (2, .val (.slice (none) (0) (0))), (9, .val (.slice (some ad) (2) (cc))), (10, .val (.int .i64 (2))), (11, .val (.int .i64 (((2 : Nat) : Int)))), (3, .val (.int .i64 ((cumN p q 2 : Int)))), (12, .val (.bool false)), (23, .val (.int .i64 ((cumN p q 2 : Int))))] [(0, 23, .val (.int .i64 ((cumN p q 2 : Int))))] [] rfl rfl (by rfl) HH4 rfl rfl hLo rfl HS4 (slS 0 rfl rfl (slS 1 rfl rfl (slS 2 rfl rfl (slS 3 rfl rfl (slS 4 rfl rfl (slS 5 rfl rfl (slS 6 rfl rfl (slL 0 (d := 0) rfl (trivial))))))))) ?_ ?_
    · show ∀ i ∈ [0], _
      refine zA (zC 0 _ rfl rfl hLo rfl rfl (fun _ _ _ _ => rfl) (fun b G w hb ho => zD (.inl rfl) (zG rfl (HS4.get 5 rfl)))) ?_
      exact zF
    clear hLo
    intro G a5 w5 hS hH
    have HS5 : Sl a5 36 [(0, .slice (some ad) (2) (cc)), (2, .slice (none) (0) (0)), (9, .slice (some ad) (2) (cc)), (10, .int .i64 (2)), (11, .int .i64 (((2 : Nat) : Int))), (3, .int .i64 ((cumN p q 2 : Int))), (12, .bool false), (23, .int .i64 ((cumN p q 2 : Int)))] := hS
    have HH5 : Held w w5 [] := hH
    clear hS hH HS4 HH4
    have hcn := cumN_le hmp hmq 2
    refine cut_call _ rfl rfl rfl rfl Tryd.func43 rfl rfl (args2 rfl (HS5.get 7 rfl)) (grow_calls (cumN p q 2) (by omega) _) HS5 rfl ?_
    rintro e6 w6 ⟨⟨oa, cp, rfl, hOg⟩, hbg⟩
    refine ⟨_, rfl, fun a6 hS => ?_⟩
    have HS7 : Sl a6 36 [(24, .slice (oa) (0) (cp)), (0, .slice (some ad) (2) (cc)), (2, .slice (none) (0) (0)), (9, .slice (some ad) (2) (cc)), (10, .int .i64 (2)), (11, .int .i64 (((2 : Nat) : Int))), (3, .int .i64 ((cumN p q 2 : Int))), (12, .bool false), (23, .int .i64 ((cumN p q 2 : Int)))] := hS
    have HH7 : Held w w6 [] := HH5.call hbg
    clear hS
    replace hOg := hOg.low HH5.1.size
    have hA_8 := fun i hi => bel_kept HH7.1 _ _ (hA i hi)
    have hIna_8 := hIna.below HH7.1
    have hInb_8 := hInb.below HH7.1
    have HH8 : Held w6 w6 [] := Held.first w6
    have HS8 : Sl a6 36 [(24, .slice (oa) (0) (cp)), (0, .slice (some ad) (2) (cc)), (2, .slice (none) (0) (0)), (9, .slice (some ad) (2) (cc)), (10, .int .i64 (2)), (11, .int .i64 (((2 : Nat) : Int))), (3, .int .i64 ((cumN p q 2 : Int))), (12, .bool false), (23, .int .i64 ((cumN p q 2 : Int)))] := HS7
    have hLo : LOk [(2, 6, .val (.slice (oa) (0) (cp)))] := lok (by rfl) (by rfl)
    refine part_ (wE := w6) (sz := 36) (n := 3) 2 3 [0, 1, 3] [(0, .val (.slice (some ad) (2) (cc))), (2, .val (.slice (none) (0) (0))), (9, .val (.slice (some ad) (2) (cc))), (10, .val (.int .i64 (2))), (11, .val (.int .i64 (((2 : Nat) : Int)))), (3, .val (.int .i64 ((cumN p q 2 : Int)))), (12, .val (.bool false)), (6, .val (.slice (oa) (0) (cp)))] [(2, 6, .val (.slice (oa) (0) (cp)))] [] rfl rfl (by rfl) HH8 rfl rfl hLo rfl HS8 (slS 1 rfl rfl (slS 2 rfl rfl (slS 3 rfl rfl (slS 4 rfl rfl (slS 5 rfl rfl (slS 6 rfl rfl (slS 7 rfl rfl (slL 0 (d := 2) rfl (trivial))))))))) ?_ ?_
    · show ∀ i ∈ [2], _
      refine zA (zC 0 _ rfl rfl hLo rfl rfl (fun _ _ _ _ => rfl) (fun b G w hb ho => zD (.inr rfl) (zG rfl (HS8.get 0 rfl)))) ?_
      exact zF
    clear hLo
    intro G a9 w9 hS hH
    have HS9 : Sl a9 36 [(0, .slice (some ad) (2) (cc)), (2, .slice (none) (0) (0)), (9, .slice (some ad) (2) (cc)), (10, .int .i64 (2)), (11, .int .i64 (((2 : Nat) : Int))), (3, .int .i64 ((cumN p q 2 : Int))), (12, .bool false), (6, .slice (oa) (0) (cp))] := hS
    have HH9 : Held w6 w9 [] := hH
    clear hS hH HS8 HH8
    refine end_ rfl ?_
    refine then_ ?_
    refine wp_seq ?_
    refine wp_seq ?_
    have hLo : LOk [(0, 25, .val (.slice (some ad) (2) (cc))), (1, 26, .val (.int .i64 (2))), (2, 27, .val (.int .i64 (0)))] := lok (by rfl) (by rfl)
    refine zI (wE := w6) (sz := 36) (n := 3) [0, 1, 3] [(0, .val (.slice (some ad) (2) (cc))), (2, .val (.slice (none) (0) (0))), (9, .val (.slice (some ad) (2) (cc))), (10, .val (.int .i64 (2))), (11, .val (.int .i64 (((2 : Nat) : Int)))), (3, .val (.int .i64 ((cumN p q 2 : Int)))), (12, .val (.bool false)), (6, .val (.slice (oa) (0) (cp))), (25, .val (.slice (some ad) (2) (cc))), (26, .val (.int .i64 (2))), (27, .val (.int .i64 (0)))] [(0, 25, .val (.slice (some ad) (2) (cc))), (1, 26, .val (.int .i64 (2))), (2, 27, .val (.int .i64 (0)))] [] rfl (by rfl) HH9 rfl rfl hLo rfl HS9 (slS 0 rfl rfl (slS 1 rfl rfl (slS 2 rfl rfl (slS 3 rfl rfl (slS 4 rfl rfl (slS 5 rfl rfl (slS 6 rfl rfl (slS 7 rfl rfl (slL 0 (d := 0) rfl (slL 1 (d := 1) rfl (slL 2 (d := 2) rfl (trivial)))))))))))) ?_ ?_
    · show ∀ i ∈ [0, 1, 2], _
      refine zA (zC 0 _ rfl rfl hLo rfl rfl (fun _ _ _ _ => rfl) (fun b G w hb ho => zD (.inl rfl) (zG rfl (HS9.get 0 rfl)))) ?_
      refine zA (zC 1 _ rfl rfl hLo rfl rfl (fun _ _ _ _ => rfl) (fun b G w hb ho => exec_lenL Tryd.underlying64 rfl (zB hLo 0 rfl HS9.1 rfl (hb 0 (by rfl))))) ?_
      refine zA (zC 2 _ rfl rfl hLo rfl rfl (fun _ _ _ _ => rfl) (fun b G w hb ho => zD (.inl rfl) (rfl))) ?_
      exact zF
    clear hLo
    intro G a10 w10 hS hH
    have HS10 : Sl a10 36 [(0, .slice (some ad) (2) (cc)), (2, .slice (none) (0) (0)), (9, .slice (some ad) (2) (cc)), (10, .int .i64 (2)), (11, .int .i64 (((2 : Nat) : Int))), (3, .int .i64 ((cumN p q 2 : Int))), (12, .bool false), (6, .slice (oa) (0) (cp)), (25, .slice (some ad) (2) (cc)), (26, .int .i64 (2)), (27, .int .i64 (0))] := hS
    have HH10 : Held w6 w10 [] := hH
    clear hS hH HS9 HH9
    refine then_ ?_
    refine wp_block ?_
    have hOg := hOg.below HH10.1
    have HH11 := Held.back HH7 HH10
    have hSq1 : Sl _ 36 [(0, .slice (some ad) (2) (cc)), (2, .slice (none) (0) (0)), (9, .slice (some ad) (2) (cc)), (10, .int .i64 (2)), (11, .int .i64 (((2 : Nat) : Int))), (3, .int .i64 ((cumN p q 2 : Int))), (12, .bool false), (25, .slice (some ad) (2) (cc)), (26, .int .i64 (2)), (27, .int .i64 (0)), (6, .slice (oa) (0) (cp))] := yB HS10 [0, 1, 2, 3, 4, 5, 6, 8, 9, 10, 7] (by rfl)
    refine wp_loop (fun a w' => ∃ j : Nat, ∃ oa : Option Addr, ∃ cp : Nat, j ≤ 2 ∧ OwnR w.heap.size w' 44 7 [] (.slice oa (cumN p q j) cp) (cumN p q j) (cumC p q j) ∧ Sl a 36 [(0, .slice (some ad) (2) (cc)), (2, .slice (none) (0) (0)), (9, .slice (some ad) (2) (cc)), (10, .int .i64 (2)), (11, .int .i64 (((2 : Nat) : Int))), (3, .int .i64 ((cumN p q 2 : Int))), (12, .bool false), (25, .slice (some ad) (2) (cc)), (26, .int .i64 (2)), (27, .int .i64 ((j : Int))), (6, .slice (oa) (cumN p q j) (cp))] ∧ Held w w' []) (fun a w' => 2 - (intOf (a.eval (.tmp 27))).toNat) ⟨0, oa, cp, Nat.zero_le _, hOg, hSq1, HH11⟩ ?_
    clear hSq1 HS10 HH11
    rintro aq1 wq1 ⟨j, oa, cp, hj, hO, HSq1, HHq1⟩
    have hm : (intOf (aq1.eval (.tmp 27))).toNat = j := by rw [(HSq1.get 9 rfl)]; rfl
    rw [hm]
    clear hm
    have hA_12 := fun i hi => bel_kept HHq1.1 _ _ (hA i hi)
    have hIna_12 := hIna.below HHq1.1
    have hInb_12 := hInb.below HHq1.1
    have HH12 : Held wq1 wq1 [] := Held.first wq1
    have HS12 : Sl aq1 36 [(0, .slice (some ad) (2) (cc)), (2, .slice (none) (0) (0)), (9, .slice (some ad) (2) (cc)), (10, .int .i64 (2)), (11, .int .i64 (((2 : Nat) : Int))), (3, .int .i64 ((cumN p q 2 : Int))), (12, .bool false), (25, .slice (some ad) (2) (cc)), (26, .int .i64 (2)), (27, .int .i64 ((j : Int))), (6, .slice (oa) (cumN p q j) (cp))] := HSq1
    obtain ⟨r2, hr2⟩ : ∃ r : Bool, (decide (((j : Int) : Int) < 2)) = r := ⟨_, rfl⟩
    refine wp_seq ?_
    have hLo : LOk [(0, 28, .val (.bool r2))] := lok (by rfl) (by rfl)
    refine zI (wE := wq1) (sz := 36) (n := 1) [0] [(0, .val (.slice (some ad) (2) (cc))), (2, .val (.slice (none) (0) (0))), (9, .val (.slice (some ad) (2) (cc))), (10, .val (.int .i64 (2))), (11, .val (.int .i64 (((2 : Nat) : Int)))), (3, .val (.int .i64 ((cumN p q 2 : Int)))), (12, .val (.bool false)), (25, .val (.slice (some ad) (2) (cc))), (26, .val (.int .i64 (2))), (27, .val (.int .i64 ((j : Int)))), (6, .val (.slice (oa) (cumN p q j) (cp))), (28, .val (.bool r2))] [(0, 28, .val (.bool r2))] [] rfl (by rfl) HH12 rfl rfl hLo rfl HS12 (slS 0 rfl rfl (slS 1 rfl rfl (slS 2 rfl rfl (slS 3 rfl rfl (slS 4 rfl rfl (slS 5 rfl rfl (slS 6 rfl rfl (slS 7 rfl rfl (slS 8 rfl rfl (slS 9 rfl rfl (slS 10 rfl rfl (slL 0 (d := 0) rfl (trivial))))))))))))) ?_ ?_
    · show ∀ i ∈ [0], _
      refine zA (zC 0 _ rfl rfl hLo rfl rfl (fun _ _ _ _ => rfl) (fun b G w hb ho => zJ rfl (zG rfl (HS12.get 9 rfl)) (zG rfl (HS12.get 8 rfl)) (rb_lss hr2 _ _ _))) ?_
      exact zF
    clear hLo
    intro G a13 w13 hS hH
    have HS13 : Sl a13 36 [(0, .slice (some ad) (2) (cc)), (2, .slice (none) (0) (0)), (9, .slice (some ad) (2) (cc)), (10, .int .i64 (2)), (11, .int .i64 (((2 : Nat) : Int))), (3, .int .i64 ((cumN p q 2 : Int))), (12, .bool false), (25, .slice (some ad) (2) (cc)), (26, .int .i64 (2)), (27, .int .i64 ((j : Int))), (6, .slice (oa) (cumN p q j) (cp)), (28, .bool r2)] := hS
    have HH13 : Held wq1 w13 [] := hH
    clear hS hH HS12 HH12
    refine then_ ?_
    refine wp_seq ?_
    cases r2
    · skip
      obtain rfl : j = 2 := by have := of_decide_eq_false hr2; omega
      refine wp_cond_false (HS13.get 11 rfl) ?_
      refine wp_exit ?_
      refine zZ ?_
      refine zZ ?_
      refine yH ?_
      refine then_ ?_
      refine wp_seq ?_
      have hLo : LOk [(0, 35, .val (.slice (oa) (cumN p q 2) (cp))), (1, 2, .val (.slice (oa) (cumN p q 2) (cp)))] := lok (by rfl) (by rfl)
      refine zI (wE := wq1) (sz := 36) (n := 2) [0, 1] [(0, .val (.slice (some ad) (2) (cc))), (9, .val (.slice (some ad) (2) (cc))), (10, .val (.int .i64 (2))), (11, .val (.int .i64 (((2 : Nat) : Int)))), (3, .val (.int .i64 ((cumN p q 2 : Int)))), (12, .val (.bool false)), (25, .val (.slice (some ad) (2) (cc))), (26, .val (.int .i64 (2))), (27, .val (.int .i64 (((2 : Nat) : Int)))), (6, .val (.slice (oa) (cumN p q 2) (cp))), (28, .val (.bool false)), (2, .val (.slice (oa) (cumN p q 2) (cp)))] [(0, 35, .val (.slice (oa) (cumN p q 2) (cp))), (1, 2, .val (.slice (oa) (cumN p q 2) (cp)))] [] rfl (by rfl) HH13 rfl rfl hLo rfl HS13 (slS 0 rfl rfl (slS 2 rfl rfl (slS 3 rfl rfl (slS 4 rfl rfl (slS 5 rfl rfl (slS 6 rfl rfl (slS 7 rfl rfl (slS 8 rfl rfl (slS 9 rfl rfl (slS 10 rfl rfl (slS 11 rfl rfl (slL 1 (d := 1) rfl (trivial))))))))))))) ?_ ?_
      · show ∀ i ∈ [0, 1], _
        refine zA (zC 0 _ rfl rfl hLo rfl rfl (fun _ _ _ _ => rfl) (fun b G w hb ho => zD (.inl rfl) (zG rfl (HS13.get 10 rfl)))) ?_
        refine zA (zC 1 _ rfl rfl hLo rfl rfl (fun _ _ _ _ => rfl) (fun b G w hb ho => zD (.inr rfl) (zB hLo 0 rfl HS13.1 rfl (hb 0 (by rfl))))) ?_
        exact zF
      clear hLo
      intro G a14 w14 hS hH
      have HS14 : Sl a14 36 [(0, .slice (some ad) (2) (cc)), (9, .slice (some ad) (2) (cc)), (10, .int .i64 (2)), (11, .int .i64 (((2 : Nat) : Int))), (3, .int .i64 ((cumN p q 2 : Int))), (12, .bool false), (25, .slice (some ad) (2) (cc)), (26, .int .i64 (2)), (27, .int .i64 (((2 : Nat) : Int))), (6, .slice (oa) (cumN p q 2) (cp)), (28, .bool false), (2, .slice (oa) (cumN p q 2) (cp))] := hS
      have HH14 : Held wq1 w14 [] := hH
      clear hS hH HS13 HH13
      refine then_ ?_
      refine wp_ret ?_
      repeat (first | refine zP ?_ | refine zL ?_)
      have hOf := hO.below HH14.1
      have HH15 := Held.back HHq1 HH14
      exact yI rfl HS14.2.1 (HS14.get 11 rfl) ⟨⟨oa, cp, by rw [cumN_two], concat_fin hOf⟩, HH15.1⟩
    · skip
      have hltj : j < 2 := by have := of_decide_eq_true hr2; omega
      refine wp_cond_true (HS13.get 11 rfl) ?_
      refine wp_skip ?_
      refine then_ ?_
      refine wp_seq ?_
      refine wp_block ?_
      refine wp_seq ?_
      have hLo : LOk [(0, 29, .val (.pointer (some (ad.add ((j) * 1))))), (1, 30, .val (.slice ((zU p q (j)).xm) ((zU p q (j)).ml) ((zU p q (j)).cm))), (2, 8, .val (.slice ((zU p q (j)).xm) ((zU p q (j)).ml) ((zU p q (j)).cm)))] := lok (by rfl) (by rfl)
      refine zI (wE := wq1) (sz := 36) (n := 3) [0, 1, 3] [(0, .val (.slice (some ad) (2) (cc))), (2, .val (.slice (none) (0) (0))), (9, .val (.slice (some ad) (2) (cc))), (10, .val (.int .i64 (2))), (11, .val (.int .i64 (((2 : Nat) : Int)))), (3, .val (.int .i64 ((cumN p q 2 : Int)))), (12, .val (.bool false)), (25, .val (.slice (some ad) (2) (cc))), (26, .val (.int .i64 (2))), (27, .val (.int .i64 ((j : Int)))), (6, .val (.slice (oa) (cumN p q j) (cp))), (28, .val (.bool true)), (8, .val (.slice ((zU p q (j)).xm) ((zU p q (j)).ml) ((zU p q (j)).cm)))] [(0, 29, .val (.pointer (some (ad.add ((j) * 1))))), (1, 30, .val (.slice ((zU p q (j)).xm) ((zU p q (j)).ml) ((zU p q (j)).cm))), (2, 8, .val (.slice ((zU p q (j)).xm) ((zU p q (j)).ml) ((zU p q (j)).cm)))] [] rfl (by rfl) HH13 rfl rfl hLo rfl HS13 (slS 0 rfl rfl (slS 1 rfl rfl (slS 2 rfl rfl (slS 3 rfl rfl (slS 4 rfl rfl (slS 5 rfl rfl (slS 6 rfl rfl (slS 7 rfl rfl (slS 8 rfl rfl (slS 9 rfl rfl (slS 10 rfl rfl (slS 11 rfl rfl (slL 2 (d := 2) rfl (trivial)))))))))))))) ?_ ?_
      · show ∀ i ∈ [0, 1, 2], _
        refine zA (zC 0 _ rfl rfl hLo rfl rfl (fun _ _ _ _ => rfl) (fun b G w hb ho => zX rfl (zG rfl (HS13.get 7 rfl)) (zG rfl (HS13.get 9 rfl)) (index_sl Tryd.underlying64 (by kernel_rfl) rfl hltj _))) ?_
        refine zA (st_at1 1 (ad.add ((j) * 1)) _ rfl rfl rfl (fun _ _ _ _ => rfl) hLo rfl rfl Tryd.underlying23 rfl ((hA_12 j hltj)) (fun b G hb ho => zB hLo 0 rfl HS13.1 rfl (hb 0 (by rfl)))) ?_
        refine zA (zC 2 _ rfl rfl hLo rfl rfl (fun _ _ _ _ => rfl) (fun b G w hb ho => zD (.inr rfl) (zB hLo 1 rfl HS13.1 rfl (hb 1 (by rfl))))) ?_
        exact zF
      clear hLo
      intro G a16 w16 hS hH
      have HS16 : Sl a16 36 [(0, .slice (some ad) (2) (cc)), (2, .slice (none) (0) (0)), (9, .slice (some ad) (2) (cc)), (10, .int .i64 (2)), (11, .int .i64 (((2 : Nat) : Int))), (3, .int .i64 ((cumN p q 2 : Int))), (12, .bool false), (25, .slice (some ad) (2) (cc)), (26, .int .i64 (2)), (27, .int .i64 ((j : Int))), (6, .slice (oa) (cumN p q j) (cp)), (28, .bool true), (8, .slice ((zU p q (j)).xm) ((zU p q (j)).ml) ((zU p q (j)).cm))] := hS
      have HH16 : Held wq1 w16 [] := hH
      clear hS hH HS13 HH13
      refine then_ ?_
      refine whole_ ?_
      have hLo : LOk [(0, 31, .val (.slice (oa) (cumN p q j) (cp))), (1, 32, .val (.slice ((zU p q (j)).xm) ((zU p q (j)).ml) ((zU p q (j)).cm)))] := lok (by rfl) (by rfl)
      refine part_ (wE := wq1) (sz := 36) (n := 4) 0 2 [0, 1, 3, 7] [(0, .val (.slice (some ad) (2) (cc))), (2, .val (.slice (none) (0) (0))), (9, .val (.slice (some ad) (2) (cc))), (10, .val (.int .i64 (2))), (11, .val (.int .i64 (((2 : Nat) : Int)))), (3, .val (.int .i64 ((cumN p q 2 : Int)))), (12, .val (.bool false)), (25, .val (.slice (some ad) (2) (cc))), (26, .val (.int .i64 (2))), (27, .val (.int .i64 ((j : Int)))), (6, .val (.slice (oa) (cumN p q j) (cp))), (28, .val (.bool true)), (8, .val (.slice ((zU p q (j)).xm) ((zU p q (j)).ml) ((zU p q (j)).cm))), (31, .val (.slice (oa) (cumN p q j) (cp))), (32, .val (.slice ((zU p q (j)).xm) ((zU p q (j)).ml) ((zU p q (j)).cm)))] [(0, 31, .val (.slice (oa) (cumN p q j) (cp))), (1, 32, .val (.slice ((zU p q (j)).xm) ((zU p q (j)).ml) ((zU p q (j)).cm)))] [] rfl rfl (by rfl) HH16 rfl rfl hLo rfl HS16 (slS 0 rfl rfl (slS 1 rfl rfl (slS 2 rfl rfl (slS 3 rfl rfl (slS 4 rfl rfl (slS 5 rfl rfl (slS 6 rfl rfl (slS 7 rfl rfl (slS 8 rfl rfl (slS 9 rfl rfl (slS 10 rfl rfl (slS 11 rfl rfl (slS 12 rfl rfl (slL 0 (d := 0) rfl (slL 1 (d := 1) rfl (trivial)))))))))))))))) ?_ ?_
      · show ∀ i ∈ [0, 1], _
        refine zA (zC 0 _ rfl rfl hLo rfl rfl (fun _ _ _ _ => rfl) (fun b G w hb ho => zD (.inl rfl) (zG rfl (HS16.get 10 rfl)))) ?_
        refine zA (zC 1 _ rfl rfl hLo rfl rfl (fun _ _ _ _ => rfl) (fun b G w hb ho => zD (.inl rfl) (zG rfl (HS16.get 12 rfl)))) ?_
        exact zF
      clear hLo
      intro G a17 w17 hS hH
      have HS17 : Sl a17 36 [(0, .slice (some ad) (2) (cc)), (2, .slice (none) (0) (0)), (9, .slice (some ad) (2) (cc)), (10, .int .i64 (2)), (11, .int .i64 (((2 : Nat) : Int))), (3, .int .i64 ((cumN p q 2 : Int))), (12, .bool false), (25, .slice (some ad) (2) (cc)), (26, .int .i64 (2)), (27, .int .i64 ((j : Int))), (6, .slice (oa) (cumN p q j) (cp)), (28, .bool true), (8, .slice ((zU p q (j)).xm) ((zU p q (j)).ml) ((zU p q (j)).cm)), (31, .slice (oa) (cumN p q j) (cp)), (32, .slice ((zU p q (j)).xm) ((zU p q (j)).ml) ((zU p q (j)).cm))] := hS
      have HH17 : Held wq1 w17 [] := hH
      clear hS hH HS16 HH16
      have hcj := cumN_le hmp hmq j
      have hpj := pick2_le hmp hmq j
      have hOw18 := hO.below HH17.1
      have hSr18 := (MemsAt.tree ((pick2_in hIna_12 hInb_12 j).below HH17.1)).src (c := (zU p q j).cm) Tryd.underlying23
      have HH19 := Held.back HHq1 HH17
      refine cut_append (wE := w) rfl rfl rfl rfl (HS17.get 13 rfl) (HS17.get 14 rfl) Tryd.underlying23 infM zM7 hOw18 hSr18 (by unfold maxLen; omega) (by omega) HH19 rfl HS17 rfl ?_
      intro oa18 c18 w18 hO18 hH18 a18 hS
      have HS20 : Sl a18 36 [(33, .slice (oa18) (cumN p q (j + 1)) (c18)), (0, .slice (some ad) (2) (cc)), (2, .slice (none) (0) (0)), (9, .slice (some ad) (2) (cc)), (10, .int .i64 (2)), (11, .int .i64 (((2 : Nat) : Int))), (3, .int .i64 ((cumN p q 2 : Int))), (12, .bool false), (25, .slice (some ad) (2) (cc)), (26, .int .i64 (2)), (27, .int .i64 ((j : Int))), (6, .slice (oa) (cumN p q j) (cp)), (28, .bool true), (8, .slice ((zU p q (j)).xm) ((zU p q (j)).ml) ((zU p q (j)).cm)), (31, .slice (oa) (cumN p q j) (cp)), (32, .slice ((zU p q (j)).xm) ((zU p q (j)).ml) ((zU p q (j)).cm))] := hS
      have HH20 : Held w w18 [] := hH18
      clear hS
      have hA_21 := fun i hi => bel_kept HH20.1 _ _ (hA i hi)
      have hIna_21 := hIna.below HH20.1
      have hInb_21 := hInb.below HH20.1
      have HH21 : Held w18 w18 [] := Held.first w18
      have HS21 : Sl a18 36 [(33, .slice (oa18) (cumN p q (j + 1)) (c18)), (0, .slice (some ad) (2) (cc)), (2, .slice (none) (0) (0)), (9, .slice (some ad) (2) (cc)), (10, .int .i64 (2)), (11, .int .i64 (((2 : Nat) : Int))), (3, .int .i64 ((cumN p q 2 : Int))), (12, .bool false), (25, .slice (some ad) (2) (cc)), (26, .int .i64 (2)), (27, .int .i64 ((j : Int))), (6, .slice (oa) (cumN p q j) (cp)), (28, .bool true), (8, .slice ((zU p q (j)).xm) ((zU p q (j)).ml) ((zU p q (j)).cm)), (31, .slice (oa) (cumN p q j) (cp)), (32, .slice ((zU p q (j)).xm) ((zU p q (j)).ml) ((zU p q (j)).cm))] := HS20
      have hLo : LOk [(3, 6, .val (.slice (oa18) (cumN p q (j + 1)) (c18)))] := lok (by rfl) (by rfl)
      refine part_ (wE := w18) (sz := 36) (n := 4) 3 4 [0, 1, 3, 7] [(0, .val (.slice (some ad) (2) (cc))), (2, .val (.slice (none) (0) (0))), (9, .val (.slice (some ad) (2) (cc))), (10, .val (.int .i64 (2))), (11, .val (.int .i64 (((2 : Nat) : Int)))), (3, .val (.int .i64 ((cumN p q 2 : Int)))), (12, .val (.bool false)), (25, .val (.slice (some ad) (2) (cc))), (26, .val (.int .i64 (2))), (27, .val (.int .i64 ((j : Int)))), (28, .val (.bool true)), (8, .val (.slice ((zU p q (j)).xm) ((zU p q (j)).ml) ((zU p q (j)).cm))), (6, .val (.slice (oa18) (cumN p q (j + 1)) (c18)))] [(3, 6, .val (.slice (oa18) (cumN p q (j + 1)) (c18)))] [] rfl rfl (by rfl) HH21 rfl rfl hLo rfl HS21 (slS 1 rfl rfl (slS 2 rfl rfl (slS 3 rfl rfl (slS 4 rfl rfl (slS 5 rfl rfl (slS 6 rfl rfl (slS 7 rfl rfl (slS 8 rfl rfl (slS 9 rfl rfl (slS 10 rfl rfl (slS 12 rfl rfl (slS 13 rfl rfl (slL 0 (d := 3) rfl (trivial)))))))))))))) ?_ ?_
      · show ∀ i ∈ [3], _
        refine zA (zC 0 _ rfl rfl hLo rfl rfl (fun _ _ _ _ => rfl) (fun b G w hb ho => zD (.inr rfl) (zG rfl (HS21.get 0 rfl)))) ?_
        exact zF
      clear hLo
      intro G a22 w22 hS hH
      have HS22 : Sl a22 36 [(0, .slice (some ad) (2) (cc)), (2, .slice (none) (0) (0)), (9, .slice (some ad) (2) (cc)), (10, .int .i64 (2)), (11, .int .i64 (((2 : Nat) : Int))), (3, .int .i64 ((cumN p q 2 : Int))), (12, .bool false), (25, .slice (some ad) (2) (cc)), (26, .int .i64 (2)), (27, .int .i64 ((j : Int))), (28, .bool true), (8, .slice ((zU p q (j)).xm) ((zU p q (j)).ml) ((zU p q (j)).cm)), (6, .slice (oa18) (cumN p q (j + 1)) (c18))] := hS
      have HH22 : Held w18 w22 [] := hH
      clear hS hH HS21 HH21
      refine end_ rfl ?_
      refine zQ ?_
      refine then_ ?_
      have hLo : LOk [(0, 34, .val (.int .i64 (((j + 1 : Nat) : Int)))), (1, 27, .val (.int .i64 (((j + 1 : Nat) : Int))))] := lok (by rfl) (by rfl)
      refine zI (wE := w18) (sz := 36) (n := 2) [0, 1] [(0, .val (.slice (some ad) (2) (cc))), (2, .val (.slice (none) (0) (0))), (9, .val (.slice (some ad) (2) (cc))), (10, .val (.int .i64 (2))), (11, .val (.int .i64 (((2 : Nat) : Int)))), (3, .val (.int .i64 ((cumN p q 2 : Int)))), (12, .val (.bool false)), (25, .val (.slice (some ad) (2) (cc))), (26, .val (.int .i64 (2))), (28, .val (.bool true)), (8, .val (.slice ((zU p q (j)).xm) ((zU p q (j)).ml) ((zU p q (j)).cm))), (6, .val (.slice (oa18) (cumN p q (j + 1)) (c18))), (27, .val (.int .i64 (((j + 1 : Nat) : Int))))] [(0, 34, .val (.int .i64 (((j + 1 : Nat) : Int)))), (1, 27, .val (.int .i64 (((j + 1 : Nat) : Int))))] [] rfl (by rfl) HH22 rfl rfl hLo rfl HS22 (slS 0 rfl rfl (slS 1 rfl rfl (slS 2 rfl rfl (slS 3 rfl rfl (slS 4 rfl rfl (slS 5 rfl rfl (slS 6 rfl rfl (slS 7 rfl rfl (slS 8 rfl rfl (slS 10 rfl rfl (slS 11 rfl rfl (slS 12 rfl rfl (slL 1 (d := 1) rfl (trivial)))))))))))))) ?_ ?_
      · show ∀ i ∈ [0, 1], _
        refine zA (zC 0 _ rfl rfl hLo rfl rfl (fun _ _ _ _ => rfl) (fun b G w hb ho => zJ rfl (ev_pre hLo 1 rfl (ho 1 (by rfl)) (HS22.get 9 rfl)) (rfl) (rb_add (w_nat (by omega) (by omega)) _ _ _))) ?_
        refine zA (zC 1 _ rfl rfl hLo rfl rfl (fun _ _ _ _ => rfl) (fun b G w hb ho => zD (.inl rfl) (zB hLo 0 rfl HS22.1 rfl (hb 0 (by rfl))))) ?_
        exact zF
      clear hLo
      intro G a23 w23 hS hH
      have HS23 : Sl a23 36 [(0, .slice (some ad) (2) (cc)), (2, .slice (none) (0) (0)), (9, .slice (some ad) (2) (cc)), (10, .int .i64 (2)), (11, .int .i64 (((2 : Nat) : Int))), (3, .int .i64 ((cumN p q 2 : Int))), (12, .bool false), (25, .slice (some ad) (2) (cc)), (26, .int .i64 (2)), (28, .bool true), (8, .slice ((zU p q (j)).xm) ((zU p q (j)).ml) ((zU p q (j)).cm)), (6, .slice (oa18) (cumN p q (j + 1)) (c18)), (27, .int .i64 (((j + 1 : Nat) : Int)))] := hS
      have HH23 : Held w18 w23 [] := hH
      clear hS hH HS22 HH22
      refine then_ ?_
      have hOn := hO18.below HH23.1
      have HH24 := Held.back HH20 HH23
      have hSq1' : Sl _ 36 [(0, .slice (some ad) (2) (cc)), (2, .slice (none) (0) (0)), (9, .slice (some ad) (2) (cc)), (10, .int .i64 (2)), (11, .int .i64 (((2 : Nat) : Int))), (3, .int .i64 ((cumN p q 2 : Int))), (12, .bool false), (25, .slice (some ad) (2) (cc)), (26, .int .i64 (2)), (27, .int .i64 (((j + 1 : Nat) : Int))), (6, .slice (oa18) (cumN p q (j + 1)) (c18))] := yB HS23 [0, 1, 2, 3, 4, 5, 6, 7, 8, 12, 11] (by rfl)
      have hHq1' : Held w _ [] := yC HH24 0 rfl
      exact ⟨⟨j + 1, oa18, c18, by omega, hOn, hSq1', hHq1'⟩, by rw [(hSq1'.get 9 rfl)]; show 2 - (((j + 1 : Nat) : Int)).toNat < 2 - j; omega⟩
  · skip
    have hlti : i < 2 := by have := of_decide_eq_true hr1; omega
    refine wp_cond_true (HS4.get 6 rfl) ?_
    refine wp_skip ?_
    refine then_ ?_
    refine wp_seq ?_
    refine wp_block ?_
    refine wp_seq ?_
    have hLo : LOk [(0, 13, .val (.pointer (some (ad.add ((i) * 1))))), (1, 14, .val (.slice ((zU p q (i)).xm) ((zU p q (i)).ml) ((zU p q (i)).cm))), (2, 5, .val (.slice ((zU p q (i)).xm) ((zU p q (i)).ml) ((zU p q (i)).cm)))] := lok (by rfl) (by rfl)
    refine zI (wE := w) (sz := 36) (n := 3) [0, 1, 3] [(0, .val (.slice (some ad) (2) (cc))), (2, .val (.slice (none) (0) (0))), (9, .val (.slice (some ad) (2) (cc))), (10, .val (.int .i64 (2))), (11, .val (.int .i64 ((i : Int)))), (3, .val (.int .i64 ((cumN p q i : Int)))), (12, .val (.bool true)), (5, .val (.slice ((zU p q (i)).xm) ((zU p q (i)).ml) ((zU p q (i)).cm)))] [(0, 13, .val (.pointer (some (ad.add ((i) * 1))))), (1, 14, .val (.slice ((zU p q (i)).xm) ((zU p q (i)).ml) ((zU p q (i)).cm))), (2, 5, .val (.slice ((zU p q (i)).xm) ((zU p q (i)).ml) ((zU p q (i)).cm)))] [] rfl (by rfl) HH4 rfl rfl hLo rfl HS4 (slS 0 rfl rfl (slS 1 rfl rfl (slS 2 rfl rfl (slS 3 rfl rfl (slS 4 rfl rfl (slS 5 rfl rfl (slS 6 rfl rfl (slL 2 (d := 2) rfl (trivial))))))))) ?_ ?_
    · show ∀ i ∈ [0, 1, 2], _
      refine zA (zC 0 _ rfl rfl hLo rfl rfl (fun _ _ _ _ => rfl) (fun b G w hb ho => zX rfl (zG rfl (HS4.get 2 rfl)) (zG rfl (HS4.get 4 rfl)) (index_sl Tryd.underlying64 (by kernel_rfl) rfl hlti _))) ?_
      refine zA (st_at1 1 (ad.add ((i) * 1)) _ rfl rfl rfl (fun _ _ _ _ => rfl) hLo rfl rfl Tryd.underlying23 rfl ((hA i hlti)) (fun b G hb ho => zB hLo 0 rfl HS4.1 rfl (hb 0 (by rfl)))) ?_
      refine zA (zC 2 _ rfl rfl hLo rfl rfl (fun _ _ _ _ => rfl) (fun b G w hb ho => zD (.inr rfl) (zB hLo 1 rfl HS4.1 rfl (hb 1 (by rfl))))) ?_
      exact zF
    clear hLo
    intro G a25 w25 hS hH
    have HS25 : Sl a25 36 [(0, .slice (some ad) (2) (cc)), (2, .slice (none) (0) (0)), (9, .slice (some ad) (2) (cc)), (10, .int .i64 (2)), (11, .int .i64 ((i : Int))), (3, .int .i64 ((cumN p q i : Int))), (12, .bool true), (5, .slice ((zU p q (i)).xm) ((zU p q (i)).ml) ((zU p q (i)).cm))] := hS
    have HH25 : Held w w25 [] := hH
    clear hS hH HS4 HH4
    refine then_ ?_
    refine wp_seq ?_
    have hLo : LOk [(0, 15, .val (.int .i64 ((cumN p q i : Int)))), (1, 16, .val (.slice ((zU p q (i)).xm) ((zU p q (i)).ml) ((zU p q (i)).cm))), (2, 17, .val (.int .i64 (((zU p q (i)).ml : Int)))), (3, 18, .val (.int .i64 ((cumN p q (i + 1) : Int)))), (4, 3, .val (.int .i64 ((cumN p q (i + 1) : Int))))] := lok (by rfl) (by rfl)
    refine zI (wE := w) (sz := 36) (n := 5) [0, 1, 3, 7, 15] [(0, .val (.slice (some ad) (2) (cc))), (2, .val (.slice (none) (0) (0))), (9, .val (.slice (some ad) (2) (cc))), (10, .val (.int .i64 (2))), (11, .val (.int .i64 ((i : Int)))), (12, .val (.bool true)), (5, .val (.slice ((zU p q (i)).xm) ((zU p q (i)).ml) ((zU p q (i)).cm))), (3, .val (.int .i64 ((cumN p q (i + 1) : Int))))] [(0, 15, .val (.int .i64 ((cumN p q i : Int)))), (1, 16, .val (.slice ((zU p q (i)).xm) ((zU p q (i)).ml) ((zU p q (i)).cm))), (2, 17, .val (.int .i64 (((zU p q (i)).ml : Int)))), (3, 18, .val (.int .i64 ((cumN p q (i + 1) : Int)))), (4, 3, .val (.int .i64 ((cumN p q (i + 1) : Int))))] [] rfl (by rfl) HH25 rfl rfl hLo rfl HS25 (slS 0 rfl rfl (slS 1 rfl rfl (slS 2 rfl rfl (slS 3 rfl rfl (slS 4 rfl rfl (slS 6 rfl rfl (slS 7 rfl rfl (slL 4 (d := 4) rfl (trivial))))))))) ?_ ?_
    · show ∀ i ∈ [0, 1, 2, 3, 4], _
      refine zA (zC 0 _ rfl rfl hLo rfl rfl (fun _ _ _ _ => rfl) (fun b G w hb ho => zD (.inl rfl) (ev_pre hLo 4 rfl (ho 4 (by rfl)) (HS25.get 5 rfl)))) ?_
      refine zA (zC 1 _ rfl rfl hLo rfl rfl (fun _ _ _ _ => rfl) (fun b G w hb ho => zD (.inl rfl) (zG rfl (HS25.get 7 rfl)))) ?_
      refine zA (zC 2 _ rfl rfl hLo rfl rfl (fun _ _ _ _ => rfl) (fun b G w hb ho => exec_lenL Tryd.underlying23 rfl (zB hLo 1 rfl HS25.1 rfl (hb 1 (by rfl))))) ?_
      refine zA (zC 3 _ rfl rfl hLo rfl rfl (fun _ _ _ _ => rfl) (fun b G w hb ho => zJ rfl (zB hLo 0 rfl HS25.1 rfl (hb 0 (by rfl))) (zB hLo 2 rfl HS25.1 rfl (hb 2 (by rfl))) (rb_add (sum_ok hmp hmq hlti) _ _ _))) ?_
      refine zA (zC 4 _ rfl rfl hLo rfl rfl (fun _ _ _ _ => rfl) (fun b G w hb ho => zD (.inr rfl) (zB hLo 3 rfl HS25.1 rfl (hb 3 (by rfl))))) ?_
      exact zF
    clear hLo
    intro G a26 w26 hS hH
    have HS26 : Sl a26 36 [(0, .slice (some ad) (2) (cc)), (2, .slice (none) (0) (0)), (9, .slice (some ad) (2) (cc)), (10, .int .i64 (2)), (11, .int .i64 ((i : Int))), (12, .bool true), (5, .slice ((zU p q (i)).xm) ((zU p q (i)).ml) ((zU p q (i)).cm)), (3, .int .i64 ((cumN p q (i + 1) : Int)))] := hS
    have HH26 : Held w w26 [] := hH
    clear hS hH HS25 HH25
    refine then_ ?_
    refine wp_seq ?_
    have hLo : LOk [(0, 19, .val (.int .i64 ((cumN p q (i + 1) : Int)))), (1, 20, .val (.bool false))] := lok (by rfl) (by rfl)
    refine zI (wE := w) (sz := 36) (n := 2) [0, 1] [(0, .val (.slice (some ad) (2) (cc))), (2, .val (.slice (none) (0) (0))), (9, .val (.slice (some ad) (2) (cc))), (10, .val (.int .i64 (2))), (11, .val (.int .i64 ((i : Int)))), (12, .val (.bool true)), (5, .val (.slice ((zU p q (i)).xm) ((zU p q (i)).ml) ((zU p q (i)).cm))), (3, .val (.int .i64 ((cumN p q (i + 1) : Int)))), (20, .val (.bool false))] [(0, 19, .val (.int .i64 ((cumN p q (i + 1) : Int)))), (1, 20, .val (.bool false))] [] rfl (by rfl) HH26 rfl rfl hLo rfl HS26 (slS 0 rfl rfl (slS 1 rfl rfl (slS 2 rfl rfl (slS 3 rfl rfl (slS 4 rfl rfl (slS 5 rfl rfl (slS 6 rfl rfl (slS 7 rfl rfl (slL 1 (d := 1) rfl (trivial)))))))))) ?_ ?_
    · show ∀ i ∈ [0, 1], _
      refine zA (zC 0 _ rfl rfl hLo rfl rfl (fun _ _ _ _ => rfl) (fun b G w hb ho => zD (.inl rfl) (zG rfl (HS26.get 7 rfl)))) ?_
      refine zA (zC 1 _ rfl rfl hLo rfl rfl (fun _ _ _ _ => rfl) (fun b G w hb ho => zJ rfl (zB hLo 0 rfl HS26.1 rfl (hb 0 (by rfl))) (rfl) (rb_lss (decide_eq_false (by omega)) _ _ _))) ?_
      exact zF
    clear hLo
    intro G a27 w27 hS hH
    have HS27 : Sl a27 36 [(0, .slice (some ad) (2) (cc)), (2, .slice (none) (0) (0)), (9, .slice (some ad) (2) (cc)), (10, .int .i64 (2)), (11, .int .i64 ((i : Int))), (12, .bool true), (5, .slice ((zU p q (i)).xm) ((zU p q (i)).ml) ((zU p q (i)).cm)), (3, .int .i64 ((cumN p q (i + 1) : Int))), (20, .bool false)] := hS
    have HH27 : Held w w27 [] := hH
    clear hS hH HS26 HH26
    refine then_ ?_
    refine wp_cond_false (HS27.get 8 rfl) ?_
    refine wp_skip ?_
    refine zQ ?_
    refine then_ ?_
    have hLo : LOk [(0, 22, .val (.int .i64 (((i + 1 : Nat) : Int)))), (1, 11, .val (.int .i64 (((i + 1 : Nat) : Int))))] := lok (by rfl) (by rfl)
    refine zI (wE := w) (sz := 36) (n := 2) [0, 1] [(0, .val (.slice (some ad) (2) (cc))), (2, .val (.slice (none) (0) (0))), (9, .val (.slice (some ad) (2) (cc))), (10, .val (.int .i64 (2))), (12, .val (.bool true)), (5, .val (.slice ((zU p q (i)).xm) ((zU p q (i)).ml) ((zU p q (i)).cm))), (3, .val (.int .i64 ((cumN p q (i + 1) : Int)))), (20, .val (.bool false)), (11, .val (.int .i64 (((i + 1 : Nat) : Int))))] [(0, 22, .val (.int .i64 (((i + 1 : Nat) : Int)))), (1, 11, .val (.int .i64 (((i + 1 : Nat) : Int))))] [] rfl (by rfl) HH27 rfl rfl hLo rfl HS27 (slS 0 rfl rfl (slS 1 rfl rfl (slS 2 rfl rfl (slS 3 rfl rfl (slS 5 rfl rfl (slS 6 rfl rfl (slS 7 rfl rfl (slS 8 rfl rfl (slL 1 (d := 1) rfl (trivial)))))))))) ?_ ?_
    · show ∀ i ∈ [0, 1], _
      refine zA (zC 0 _ rfl rfl hLo rfl rfl (fun _ _ _ _ => rfl) (fun b G w hb ho => zJ rfl (ev_pre hLo 1 rfl (ho 1 (by rfl)) (HS27.get 4 rfl)) (rfl) (rb_add (w_nat (by omega) (by omega)) _ _ _))) ?_
      refine zA (zC 1 _ rfl rfl hLo rfl rfl (fun _ _ _ _ => rfl) (fun b G w hb ho => zD (.inl rfl) (zB hLo 0 rfl HS27.1 rfl (hb 0 (by rfl))))) ?_
      exact zF
    clear hLo
    intro G a28 w28 hS hH
    have HS28 : Sl a28 36 [(0, .slice (some ad) (2) (cc)), (2, .slice (none) (0) (0)), (9, .slice (some ad) (2) (cc)), (10, .int .i64 (2)), (12, .bool true), (5, .slice ((zU p q (i)).xm) ((zU p q (i)).ml) ((zU p q (i)).cm)), (3, .int .i64 ((cumN p q (i + 1) : Int))), (20, .bool false), (11, .int .i64 (((i + 1 : Nat) : Int)))] := hS
    have HH28 : Held w w28 [] := hH
    clear hS hH HS27 HH27
    refine then_ ?_
    have hSq0' : Sl _ 36 [(0, .slice (some ad) (2) (cc)), (2, .slice (none) (0) (0)), (9, .slice (some ad) (2) (cc)), (10, .int .i64 (2)), (11, .int .i64 (((i + 1 : Nat) : Int))), (3, .int .i64 ((cumN p q (i + 1) : Int)))] := yB HS28 [0, 1, 2, 3, 8, 6] (by rfl)
    have hHq0' : Held w _ [] := yC HH28 0 rfl
    exact ⟨⟨i + 1, by omega, hSq0', hHq0'⟩, by rw [(hSq0'.get 4 rfl)]; show 2 - (((i + 1 : Nat) : Int)).toNat < 2 - i; omega⟩
end Go.Proofs.YtjpiofbedglagaaDoor.P
end
