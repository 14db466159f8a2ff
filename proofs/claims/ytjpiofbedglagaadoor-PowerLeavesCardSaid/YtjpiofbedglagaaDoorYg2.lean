/- Merged of the texts: Pi, Pj, Pk, Pl, Pm, Pn, Po, Pp, Pq, Pr (trim.py). -/
import Derived.Lib.LaidTab
import Derived.LaidMore
import Derived.MakeChecks
import Derived.Test.YtjpiofbedglagaaDoorRows
import Derived.Test.YtjpiofbedglagaaDoorYg1
section
namespace Go.Proofs.YtjpiofbedglagaaDoor.P
set_option linter.unusedVariables false
set_option linter.unusedSimpArgs false
open Go.RowKit Go.ChangeShapes Go.WideShapes Go.Proofs.YtjpiofbedglagaaDoorW.PrintWords Go.Proofs.YtjpiofbedglagaaDoorW.PrintLast Go.Proofs.YtjpiofbedglagaaDoorW.PrintMore
theorem cut_low {K : Nat → ByteArray} {key : ByteArray} : ∀ {n : Nat}, (Rise n fun k => bl (K k)) → Cut n (fun k => bl (K k)) (bl key) (lowK K key n) (lowK K key n)
  | 0, _ => ⟨Nat.le_refl _, Nat.le_refl _, fun k h => absurd h (Nat.not_lt_zero _), fun k _ h => absurd h (Nat.not_lt_zero _)⟩
  | n + 1, hr => by
    unfold lowK
    by_cases h : cmpB (bl (K n)) (bl key) < 0
    · rw [if_pos h]
      refine ⟨Nat.le_refl _, Nat.le_refl _, fun k hk => ?_, fun k h1 h2 => by omega⟩
      by_cases e : k = n
      · subst e; exact h
      · exact cmpB_trans (hr.lt n k (by omega) (by omega)) (Int.le_of_lt h)
    · rw [if_neg h]
      obtain ⟨a, b, c, d⟩ := cut_low (n := n) (key := key) (fun i hi => hr i (by omega))
      refine ⟨a, by omega, c, fun k h1 h2 => ?_⟩
      by_cases e : k = n
      · subst e; exact h
      · exact d k h1 (by omega)
theorem look_low {K : Nat → ByteArray} {key : ByteArray} {n : Nat} (hr : Rise n fun k => bl (K k)) (h : (look K key n).isSome = true) : look K key n = some (lowK K key n) ∧ lowK K key n < n := by
  have hc := (cut_low (key := key) hr).look hr
  rw [hc] at h ⊢
  by_cases q : lowK K key n < n ∧ K (lowK K key n) = key
  · rw [if_pos q]; exact ⟨rfl, q.1⟩
  · rw [if_neg q] at h; cases h
theorem get_ret_none {t : T} {key : ByteArray} (h : t.get key = none) : Ending.returned (.tuple #[.agg (FR () 6 T.zero.sc), .bool false]) = .returned (.tuple #[(t.tbl key).val, .bool (t.get key).isSome]) := by
  unfold T.tbl; rw [h]; rfl
theorem get_ret_some {t x : T} {key : ByteArray} (h : t.get key = some x) : Ending.returned (.tuple #[.agg (FR () 6 x.sc), .bool true]) = .returned (.tuple #[(t.tbl key).val, .bool (t.get key).isSome]) := by
  unfold T.tbl; rw [h]; rfl
theorem get_no1 {t : T} {key : ByteArray} (h : ((t.kind : Int) != 5) = true) : t.get key = none := T.get_kind (by simpa using h)
theorem get_no2 {t : T} {key : ByteArray} (h : (look t.key key t.ml).isSome = false) : t.get key = none := by
  unfold T.get
  split
  · rw [Option.isSome_eq_false_iff, Option.isNone_iff_eq_none] at h; rw [h]; rfl
  · rfl
theorem get_yes {t : T} {key : ByteArray} (hr : Rise t.ml fun k => bl (t.key k)) (h1 : ((t.kind : Int) != 5) = false) (h2 : (look t.key key t.ml).isSome = true) : t.get key = some (t.mem (lowK t.key key t.ml)) := by
  unfold T.get
  rw [if_pos (by simpa using h1), (look_low hr h2).1]; rfl
theorem tell_ret {t : T} {key : ByteArray} {b : Bool} (h : ((t.get key).isSome && decide ((t.tbl key).kind = 2)) = b) : Ending.returned (.tuple #[.int .i64 (t.tbl key).num, .bool b]) = .returned (.tuple #[.int .i64 (t.tell key).1, .bool (t.tell key).2]) := by
  subst h
  unfold T.tell T.tbl
  cases t.get key with
  | none => rfl
  | some x => simp
theorem tabnum_2 : rtab .any (opsOf Tryd.f25 2) = (true, [([], []), ([0], [0]), ([], []), ([2], [2]), ([3], [3]), ([4, 3], [3, 4]), ([5, 3], [3, 5]), ([3, 6], [3, 6]), ([1, 3, 0, 1], [1]), ([7, 8, 0, 1, 2, 3, 4, 5, 6, 7, 8], [7])]) := by kernel_rfl
theorem bitsnum_2 : waitsOk [([], []), ([0], [0]), ([], []), ([2], [2]), ([3], [3]), ([4, 3], [3, 4]), ([5, 3], [3, 5]), ([3, 6], [3, 6]), ([1, 3, 0, 1], [1]), ([7, 8, 0, 1, 2, 3, 4, 5, 6, 7, 8], [7])] [0, 1, 0, 4, 12, 28, 60, 124, 15, 511] = true := by kernel_rfl
theorem find_calls {w : World} {t : T} (key : ByteArray) (hIn : In w t) (hR : Rise t.ml fun k => bl (t.key k)) : Calls Tryd.prog 38 #[.slice (t.xm) (t.ml) (t.cm), .string (key)] w fun e w' => e = .returned (.tuple #[.int .i64 (lowK t.key key t.ml : Int), .bool (look t.key key t.ml).isSome]) ∧ Below w.heap.size w w' := by
  refine enter_ 12 Tryd.func38 rfl rfl (fun a0 hS => ?_)
  have HS0 : Sl a0 12 [(0, .slice (t.xm) (t.ml) (t.cm)), (1, .string (key))] := hS
  have HH0 : Held w w [] := Held.first w
  clear hS
  refine wp_seq ?_
  have hLo : LOk [(0, 4, .val (.int .i64 (0))), (1, 5, .val (.bool false))] := lok (by rfl) (by rfl)
  refine zH (wE := w) (sz := 12) (n := 2) [0, 1] [(0, .val (.slice (t.xm) (t.ml) (t.cm))), (1, .val (.string (key))), (4, .val (.int .i64 (0))), (5, .val (.bool false))] [(0, 4, .val (.int .i64 (0))), (1, 5, .val (.bool false))] [] rfl (by rfl) HH0 rfl rfl hLo rfl HS0 (slS 0 rfl rfl (slS 1 rfl rfl (slL 0 (d := 0) rfl (slL 1 (d := 1) rfl (trivial))))) ?_ ?_
  · show ∀ i ∈ [0, 1], _
    refine zA (zB 0 _ rfl rfl hLo rfl rfl (fun _ _ _ _ => rfl) (fun b G w hb ho => zD (.inr rfl) (rfl))) ?_
    refine zA (zB 1 _ rfl rfl hLo rfl rfl (fun _ _ _ _ => rfl) (fun b G w hb ho => zD (.inr rfl) (rfl))) ?_
    exact zF
  clear hLo
  intro G a1 w1 hS hH
  have HS1 : Sl a1 12 [(0, .slice (t.xm) (t.ml) (t.cm)), (1, .string (key)), (4, .int .i64 (0)), (5, .bool false)] := hS
  have HH1 : Held w w1 [] := hH
  clear hS hH HS0 HH0
  refine then_ ?_
  refine wp_seq ?_
  have hLo : LOk [(0, 6, .val (.slice (t.xm) (t.ml) (t.cm))), (1, 7, .val (.string (key))), (2, 8, .val (.agg (FR () 7 (msc (key) (T.zero))))), (3, 9, .val (.tuple #[.int .i64 ((lowK t.key key t.ml : Int)), .bool ((look t.key key t.ml).isSome)])), (4, 10, .val (.int .i64 ((lowK t.key key t.ml : Int)))), (5, 11, .val (.bool ((look t.key key t.ml).isSome))), (6, 4, .val (.int .i64 ((lowK t.key key t.ml : Int)))), (7, 5, .val (.bool ((look t.key key t.ml).isSome)))] := lok (by rfl) (by rfl)
  refine zH (wE := w) (sz := 12) (n := 8) [0, 1, 3, 7, 15, 31, 63, 127] [(0, .val (.slice (t.xm) (t.ml) (t.cm))), (1, .val (.string (key))), (4, .val (.int .i64 ((lowK t.key key t.ml : Int)))), (5, .val (.bool ((look t.key key t.ml).isSome)))] [(0, 6, .val (.slice (t.xm) (t.ml) (t.cm))), (1, 7, .val (.string (key))), (2, 8, .val (.agg (FR () 7 (msc (key) (T.zero))))), (3, 9, .val (.tuple #[.int .i64 ((lowK t.key key t.ml : Int)), .bool ((look t.key key t.ml).isSome)])), (4, 10, .val (.int .i64 ((lowK t.key key t.ml : Int)))), (5, 11, .val (.bool ((look t.key key t.ml).isSome))), (6, 4, .val (.int .i64 ((lowK t.key key t.ml : Int)))), (7, 5, .val (.bool ((look t.key key t.ml).isSome)))] [] rfl (by rfl) HH1 rfl rfl hLo rfl HS1 (slS 0 rfl rfl (slS 1 rfl rfl (slL 6 (d := 6) rfl (slL 7 (d := 7) rfl (trivial))))) ?_ ?_
  · show ∀ i ∈ [0, 1, 2, 3, 4, 5, 6, 7], _
    refine zA (zB 0 _ rfl rfl hLo rfl rfl (fun _ _ _ _ => rfl) (fun b G w hb ho => zD (.inl rfl) (zG rfl (HS1.get 0 rfl)))) ?_
    refine zA (zB 1 _ rfl rfl hLo rfl rfl (fun _ _ _ _ => rfl) (fun b G w hb ho => zD (.inl rfl) (zG rfl (HS1.get 1 rfl)))) ?_
    refine zA (zB 2 _ rfl rfl hLo rfl rfl (fun _ _ _ _ => rfl) (fun b G w hb ho => exec_build rfl (parts1 (zC hLo 1 rfl HS1.1 rfl (hb 1 (by rfl)))) (by kernel_rfl))) ?_
    refine zA (yB 3 _ #[.slice (t.xm) (t.ml) (t.cm), .agg (FR () 7 (msc (key) (T.zero))), .func (.func 42) #[] #[]] rfl rfl rfl (fun _ _ _ _ => rfl) hLo rfl rfl Tryd.func41 rfl rfl (fun b G hb ho => args3 (zC hLo 0 rfl HS1.1 rfl (hb 0 (by rfl))) (zC hLo 2 rfl HS1.1 rfl (hb 2 (by rfl))) (rfl)) (fun w hw => bs_calls _ (hIn.below hw) hR)) ?_
    refine zA (zB 4 _ rfl rfl hLo rfl rfl (fun _ _ _ _ => rfl) (fun b G w hb ho => zX rfl (zC hLo 3 rfl HS1.1 rfl (hb 3 (by rfl))) (by rfl))) ?_
    refine zA (zB 5 _ rfl rfl hLo rfl rfl (fun _ _ _ _ => rfl) (fun b G w hb ho => zX rfl (zC hLo 3 rfl HS1.1 rfl (hb 3 (by rfl))) (by rfl))) ?_
    refine zA (zB 6 _ rfl rfl hLo rfl rfl (fun _ _ _ _ => rfl) (fun b G w hb ho => zD (.inr rfl) (zC hLo 4 rfl HS1.1 rfl (hb 4 (by rfl))))) ?_
    refine zA (zB 7 _ rfl rfl hLo rfl rfl (fun _ _ _ _ => rfl) (fun b G w hb ho => zD (.inr rfl) (zC hLo 5 rfl HS1.1 rfl (hb 5 (by rfl))))) ?_
    exact zF
  clear hLo
  intro G a2 w2 hS hH
  have HS2 : Sl a2 12 [(0, .slice (t.xm) (t.ml) (t.cm)), (1, .string (key)), (4, .int .i64 ((lowK t.key key t.ml : Int))), (5, .bool ((look t.key key t.ml).isSome))] := hS
  have HH2 : Held w w2 [] := hH
  clear hS hH HS1 HH1
  refine then_ ?_
  refine wp_ret ?_
  repeat (first | refine zR ?_ | refine zK ?_)
  exact b_tmp2 rfl HS2.2.1 (HS2.get 2 rfl) (HS2.get 3 rfl) ⟨rfl, HH2.1⟩
theorem get_calls {w : World} {t : T} (key : ByteArray) (hIn : In w t) (hR : Rise t.ml fun k => bl (t.key k)) : Calls Tryd.prog 31 #[.agg (FR () 6 ((t).sc)), .string (key)] w fun e w' => e = .returned (.tuple #[(t.tbl key).val, .bool (t.get key).isSome]) ∧ Below w.heap.size w w' := by
  refine enter_ 29 Tryd.func31 rfl rfl (fun a0 hS => ?_)
  have HS0 : Sl a0 29 [(0, .agg (FR () 6 ((t).sc))), (1, .string (key))] := hS
  have HH0 : Held w w [] := Held.first w
  clear hS
  refine wp_seq ?_
  have hLo : LOk [(0, 2, .new 0 (fun g => .pointer (some ⟨g, 0, none⟩))), (1, 4, .new 1 (fun g => .pointer (some ⟨g, 0, none⟩))), (2, 5, .val (.bool false))] := lok (by rfl) (by rfl)
  refine zH (wE := w) (sz := 29) (n := 3) [0, 1, 3] [(0, .val (.agg (FR () 6 ((t).sc)))), (1, .val (.string (key))), (2, .new 0 (fun g => .pointer (some ⟨g, 0, none⟩))), (4, .new 1 (fun g => .pointer (some ⟨g, 0, none⟩))), (5, .val (.bool false))] [(0, 2, .new 0 (fun g => .pointer (some ⟨g, 0, none⟩))), (1, 4, .new 1 (fun g => .pointer (some ⟨g, 0, none⟩))), (2, 5, .val (.bool false))] [⟨0, some 0, none, (), 6, (t).sc, (t).sc, 25⟩, ⟨0, some 1, none, (), 6, lsc [.i .i64 (0), .b (false), .i .i64 (0), .s (ByteArray.empty), .sl (none) (0) (0), .sl (none) (0) (0)], lsc [.i .i64 (0), .b (false), .i .i64 (0), .s (ByteArray.empty), .sl (none) (0) (0), .sl (none) (0) (0)], 25⟩] rfl (by rfl) HH0 rfl rfl hLo rfl HS0 (slS 0 rfl rfl (slS 1 rfl rfl (slL 0 (d := 0) rfl (slL 1 (d := 1) rfl (slL 2 (d := 2) rfl (trivial)))))) ?_ ?_
  · show ∀ i ∈ [0, 1, 2], _
    refine zA (zZ 0 0 () 6 25 none _ _ rfl rfl (fun _ _ _ _ => rfl) rfl hLo rfl rfl rfl rfl (by rfl) (fun b G w hb ho => exec_box rfl (zG rfl (HS0.get 0 rfl)) (by kernel_rfl))) ?_
    refine zA (zZ 1 1 () 6 25 none _ _ rfl rfl (fun _ _ _ _ => rfl) rfl hLo rfl rfl rfl rfl (by rfl) (fun b G w _ _ => by kernel_rfl)) ?_
    refine zA (zB 2 _ rfl rfl hLo rfl rfl (fun _ _ _ _ => rfl) (fun b G w hb ho => zD (.inr rfl) (rfl))) ?_
    exact zF
  clear hLo
  intro G a1 w1 hS hH
  have HS1 : Sl a1 29 [(0, .agg (FR () 6 ((t).sc))), (1, .string (key)), (2, .pointer (some ⟨(G 0), 0, none⟩)), (4, .pointer (some ⟨(G 1), 0, none⟩)), (5, .bool false)] := hS
  have HH1 : Held w w1 [⟨(G 0), (), 6, (t).sc, 25⟩, ⟨(G 1), (), 6, lsc [.i .i64 (0), .b (false), .i .i64 (0), .s (ByteArray.empty), .sl (none) (0) (0), .sl (none) (0) (0)], 25⟩] := hH
  clear hS hH HS0 HH0
  generalize G 0 = g1_0 at HS1 HH1
  generalize G 1 = g1_1 at HS1 HH1
  refine then_ ?_
  obtain ⟨r1, hr1⟩ : ∃ r : Bool, ((look t.key key t.ml).isSome) = r := ⟨_, rfl⟩
  refine wp_seq ?_
  have hLo : LOk [(0, 9, .val (.pointer (some ⟨g1_0, 5, none⟩))), (1, 10, .val (.slice ((t).xm) ((t).ml) ((t).cm))), (2, 11, .val (.string (key))), (3, 12, .val (.tuple #[.int .i64 ((lowK t.key key t.ml : Int)), .bool r1])), (4, 8, .val (.tuple #[.int .i64 ((lowK t.key key t.ml : Int)), .bool r1])), (5, 13, .val (.int .i64 ((lowK t.key key t.ml : Int)))), (6, 14, .val (.bool r1)), (7, 6, .val (.int .i64 ((lowK t.key key t.ml : Int)))), (8, 7, .val (.bool r1))] := lok (by rfl) (by rfl)
  refine zH (wE := w) (sz := 29) (n := 9) [0, 1, 3, 7, 15, 31, 63, 127, 255] [(0, .val (.agg (FR () 6 ((t).sc)))), (1, .val (.string (key))), (2, .val (.pointer (some ⟨g1_0, 0, none⟩))), (4, .val (.pointer (some ⟨g1_1, 0, none⟩))), (5, .val (.bool false)), (6, .val (.int .i64 ((lowK t.key key t.ml : Int)))), (7, .val (.bool r1))] [(0, 9, .val (.pointer (some ⟨g1_0, 5, none⟩))), (1, 10, .val (.slice ((t).xm) ((t).ml) ((t).cm))), (2, 11, .val (.string (key))), (3, 12, .val (.tuple #[.int .i64 ((lowK t.key key t.ml : Int)), .bool r1])), (4, 8, .val (.tuple #[.int .i64 ((lowK t.key key t.ml : Int)), .bool r1])), (5, 13, .val (.int .i64 ((lowK t.key key t.ml : Int)))), (6, 14, .val (.bool r1)), (7, 6, .val (.int .i64 ((lowK t.key key t.ml : Int)))), (8, 7, .val (.bool r1))] [⟨g1_0, none, none, (), 6, (t).sc, (t).sc, 25⟩, ⟨g1_1, none, none, (), 6, lsc [.i .i64 (0), .b (false), .i .i64 (0), .s (ByteArray.empty), .sl (none) (0) (0), .sl (none) (0) (0)], lsc [.i .i64 (0), .b (false), .i .i64 (0), .s (ByteArray.empty), .sl (none) (0) (0), .sl (none) (0) (0)], 25⟩] rfl (by rfl) HH1 rfl rfl hLo rfl HS1 (slS 0 rfl rfl (slS 1 rfl rfl (slS 2 rfl rfl (slS 3 rfl rfl (slS 4 rfl rfl (slL 7 (d := 7) rfl (slL 8 (d := 8) rfl (trivial)))))))) ?_ ?_
  · show ∀ i ∈ [0, 1, 2, 3, 4, 5, 6, 7, 8], _
    refine zA (zB 0 _ rfl rfl hLo rfl rfl (fun _ _ _ _ => rfl) (fun b G w hb ho => zJ rfl (zG rfl (HS1.get 2 rfl)) (by kernel_rfl))) ?_
    refine zA (zW 1 0 _ _ rfl rfl rfl hLo rfl rfl (fun _ _ _ _ => rfl) (by rfl) (by rfl) (fun b G w hb ho hr => zP hr (Nat.le_of_ble_eq_true rfl) Tryd.underlying23 rfl rfl (zC hLo 0 rfl HS1.1 rfl (hb 0 (by rfl))))) ?_
    refine zA (zB 2 _ rfl rfl hLo rfl rfl (fun _ _ _ _ => rfl) (fun b G w hb ho => zD (.inl rfl) (zG rfl (HS1.get 1 rfl)))) ?_
    refine zA (yB 3 _ #[.slice ((t).xm) ((t).ml) ((t).cm), .string (key)] rfl rfl rfl (fun _ _ _ _ => rfl) hLo rfl rfl Tryd.func38 rfl rfl (fun b G hb ho => args2 (zC hLo 1 rfl HS1.1 rfl (hb 1 (by rfl))) (zC hLo 2 rfl HS1.1 rfl (hb 2 (by rfl)))) (fun w hw => (by have hq := find_calls key (hIn.below hw) hR; rw [hr1] at hq; exact hq))) ?_
    refine zA (zB 4 _ rfl rfl hLo rfl rfl (fun _ _ _ _ => rfl) (fun b G w hb ho => zD (.inl rfl) (zC hLo 3 rfl HS1.1 rfl (hb 3 (by rfl))))) ?_
    refine zA (zB 5 _ rfl rfl hLo rfl rfl (fun _ _ _ _ => rfl) (fun b G w hb ho => zX rfl (zC hLo 4 rfl HS1.1 rfl (hb 4 (by rfl))) (by rfl))) ?_
    refine zA (zB 6 _ rfl rfl hLo rfl rfl (fun _ _ _ _ => rfl) (fun b G w hb ho => zX rfl (zC hLo 4 rfl HS1.1 rfl (hb 4 (by rfl))) (by rfl))) ?_
    refine zA (zB 7 _ rfl rfl hLo rfl rfl (fun _ _ _ _ => rfl) (fun b G w hb ho => zD (.inr rfl) (zC hLo 5 rfl HS1.1 rfl (hb 5 (by rfl))))) ?_
    refine zA (zB 8 _ rfl rfl hLo rfl rfl (fun _ _ _ _ => rfl) (fun b G w hb ho => zD (.inr rfl) (zC hLo 6 rfl HS1.1 rfl (hb 6 (by rfl))))) ?_
    exact zF
  clear hLo
  intro G a2 w2 hS hH
  have HS2 : Sl a2 29 [(0, .agg (FR () 6 ((t).sc))), (1, .string (key)), (2, .pointer (some ⟨g1_0, 0, none⟩)), (4, .pointer (some ⟨g1_1, 0, none⟩)), (5, .bool false), (6, .int .i64 ((lowK t.key key t.ml : Int))), (7, .bool r1)] := hS
  have HH2 : Held w w2 [⟨g1_0, (), 6, (t).sc, 25⟩, ⟨g1_1, (), 6, lsc [.i .i64 (0), .b (false), .i .i64 (0), .s (ByteArray.empty), .sl (none) (0) (0), .sl (none) (0) (0)], 25⟩] := hH
  clear hS hH HS1 HH1
  refine then_ ?_
  refine wp_seq ?_
  obtain ⟨r2, hr2⟩ : ∃ r : Bool, ((((t).kind : Int) != 5)) = r := ⟨_, rfl⟩
  cases r2
  · skip
    refine wp_seq ?_
    have hLo : LOk [(0, 15, .val (.pointer (some ⟨g1_0, 0, none⟩))), (1, 16, .val (.int .i64 ((t).kind))), (2, 17, .val (.bool false)), (3, 18, .val (.bool false)), (4, 19, .val (.bool r1)), (5, 20, .val (.bool (!r1))), (6, 21, .val (.bool (!r1)))] := lok (by rfl) (by rfl)
    refine zH (wE := w) (sz := 29) (n := 7) [0, 1, 3, 7, 15, 31, 63] [(0, .val (.agg (FR () 6 ((t).sc)))), (1, .val (.string (key))), (2, .val (.pointer (some ⟨g1_0, 0, none⟩))), (4, .val (.pointer (some ⟨g1_1, 0, none⟩))), (5, .val (.bool false)), (6, .val (.int .i64 ((lowK t.key key t.ml : Int)))), (7, .val (.bool r1)), (21, .val (.bool (!r1)))] [(0, 15, .val (.pointer (some ⟨g1_0, 0, none⟩))), (1, 16, .val (.int .i64 ((t).kind))), (2, 17, .val (.bool false)), (3, 18, .val (.bool false)), (4, 19, .val (.bool r1)), (5, 20, .val (.bool (!r1))), (6, 21, .val (.bool (!r1)))] [⟨g1_0, none, none, (), 6, (t).sc, (t).sc, 25⟩, ⟨g1_1, none, none, (), 6, lsc [.i .i64 (0), .b (false), .i .i64 (0), .s (ByteArray.empty), .sl (none) (0) (0), .sl (none) (0) (0)], lsc [.i .i64 (0), .b (false), .i .i64 (0), .s (ByteArray.empty), .sl (none) (0) (0), .sl (none) (0) (0)], 25⟩] rfl (by rfl) HH2 rfl rfl hLo rfl HS2 (slS 0 rfl rfl (slS 1 rfl rfl (slS 2 rfl rfl (slS 3 rfl rfl (slS 4 rfl rfl (slS 5 rfl rfl (slS 6 rfl rfl (slL 6 (d := 6) rfl (trivial))))))))) ?_ ?_
    · show ∀ i ∈ [0, 1, 2, 3, 4, 5, 6], _
      refine zA (zB 0 _ rfl rfl hLo rfl rfl (fun _ _ _ _ => rfl) (fun b G w hb ho => zJ rfl (zG rfl (HS2.get 2 rfl)) (by kernel_rfl))) ?_
      refine zA (zW 1 0 _ _ rfl rfl rfl hLo rfl rfl (fun _ _ _ _ => rfl) (by rfl) (by rfl) (fun b G w hb ho hr => zP hr (Nat.le_of_ble_eq_true rfl) Tryd.underlying3 rfl rfl (zC hLo 0 rfl HS2.1 rfl (hb 0 (by rfl))))) ?_
      refine zA (zB 2 _ rfl rfl hLo rfl rfl (fun _ _ _ _ => rfl) (fun b G w hb ho => zI rfl (zC hLo 1 rfl HS2.1 rfl (hb 1 (by rfl))) (rfl) (rb_neq hr2 _ _ _))) ?_
      refine zA (zB 3 _ rfl rfl hLo rfl rfl (fun _ _ _ _ => rfl) (fun b G w hb ho => zD (.inl rfl) (zC hLo 2 rfl HS2.1 rfl (hb 2 (by rfl))))) ?_
      refine zA (zB 4 _ rfl rfl hLo rfl rfl (fun b G hb ho => zE rfl rfl rfl HS2.1 rfl (zC hLo 3 rfl HS2.1 rfl (hb 3 (by rfl))) rfl) (fun b G w hb ho => zD (.inl rfl) (zG rfl (HS2.get 6 rfl)))) ?_
      refine zA (zB 5 _ rfl rfl hLo rfl rfl (fun b G hb ho => zE rfl rfl rfl HS2.1 rfl (zC hLo 3 rfl HS2.1 rfl (hb 3 (by rfl))) rfl) (fun b G w hb ho => exec_un rfl (zC hLo 4 rfl HS2.1 rfl (hb 4 (by rfl))) (ru_not _))) ?_
      refine zA (zB 6 _ rfl rfl hLo rfl rfl (fun _ _ _ _ => rfl) (fun b G w hb ho => zL rfl (zC hLo 3 rfl HS2.1 rfl (hb 3 (by rfl))) (zC hLo 5 rfl HS2.1 rfl (hb 5 (by rfl))))) ?_
      exact zF
    clear hLo
    intro G a3 w3 hS hH
    have HS3 : Sl a3 29 [(0, .agg (FR () 6 ((t).sc))), (1, .string (key)), (2, .pointer (some ⟨g1_0, 0, none⟩)), (4, .pointer (some ⟨g1_1, 0, none⟩)), (5, .bool false), (6, .int .i64 ((lowK t.key key t.ml : Int))), (7, .bool r1), (21, .bool (!r1))] := hS
    have HH3 : Held w w3 [⟨g1_0, (), 6, (t).sc, 25⟩, ⟨g1_1, (), 6, lsc [.i .i64 (0), .b (false), .i .i64 (0), .s (ByteArray.empty), .sl (none) (0) (0), .sl (none) (0) (0)], 25⟩] := hH
    clear hS hH HS2 HH2
    refine then_ ?_
    cases r1
    · skip
      refine wp_cond_true (HS3.get 7 rfl) ?_
      refine wp_seq ?_
      have hLo : LOk [(0, 22, .val (.agg (FR () 6 ((T.zero).sc)))), (2, 5, .val (.bool false))] := lok (by rfl) (by rfl)
      refine zH (wE := w) (sz := 29) (n := 3) [0, 1, 3] [(0, .val (.agg (FR () 6 ((t).sc)))), (1, .val (.string (key))), (2, .val (.pointer (some ⟨g1_0, 0, none⟩))), (4, .val (.pointer (some ⟨g1_1, 0, none⟩))), (6, .val (.int .i64 ((lowK t.key key t.ml : Int)))), (7, .val (.bool false)), (21, .val (.bool true)), (5, .val (.bool false))] [(0, 22, .val (.agg (FR () 6 ((T.zero).sc)))), (2, 5, .val (.bool false))] [⟨g1_0, none, none, (), 6, (t).sc, (t).sc, 25⟩, ⟨g1_1, none, some 1, (), 6, lsc [.i .i64 (0), .b (false), .i .i64 (0), .s (ByteArray.empty), .sl (none) (0) (0), .sl (none) (0) (0)], (T.zero).sc, 25⟩] rfl (by rfl) HH3 rfl rfl hLo rfl HS3 (slS 0 rfl rfl (slS 1 rfl rfl (slS 2 rfl rfl (slS 3 rfl rfl (slS 5 rfl rfl (slS 6 rfl rfl (slS 7 rfl rfl (slL 1 (d := 2) rfl (trivial))))))))) ?_ ?_
      · show ∀ i ∈ [0, 1, 2], _
        refine zA (zB 0 _ rfl rfl hLo rfl rfl (fun _ _ _ _ => rfl) (fun b G w hb ho => exec_build rfl (parts0 ) (by kernel_rfl))) ?_
        refine zA (st_store 1 _ rfl rfl rfl rfl rfl (fun _ _ _ _ => rfl) rfl rfl rfl (by rfl) (by kernel_rfl) (fun b G hb ho => zG rfl (HS3.get 3 rfl)) (fun b G hb ho => zC hLo 0 rfl HS3.1 rfl (hb 0 (by rfl)))) ?_
        refine zA (zB 1 _ rfl rfl hLo rfl rfl (fun _ _ _ _ => rfl) (fun b G w hb ho => zD (.inr rfl) (rfl))) ?_
        exact zF
      clear hLo
      intro G a4 w4 hS hH
      have HS4 : Sl a4 29 [(0, .agg (FR () 6 ((t).sc))), (1, .string (key)), (2, .pointer (some ⟨g1_0, 0, none⟩)), (4, .pointer (some ⟨g1_1, 0, none⟩)), (6, .int .i64 ((lowK t.key key t.ml : Int))), (7, .bool false), (21, .bool true), (5, .bool false)] := hS
      have HH4 : Held w w4 [⟨g1_0, (), 6, (t).sc, 25⟩, ⟨g1_1, (), 6, (T.zero).sc, 25⟩] := hH
      clear hS hH HS3 HH3
      refine then_ ?_
      refine wp_ret ?_
      repeat (first | refine zR ?_ | refine zK ?_)
      exact b_row2 rfl HS4.2.1 (HS4.get 3 rfl) (HS4.get 7 rfl) (HH4.row 1 rfl) Tryd.underlying25 rfl (by kernel_rfl) ⟨get_ret_none (get_no2 hr1), HH4.1⟩
    · skip
      refine wp_cond_false (HS3.get 7 rfl) ?_
      refine wp_skip ?_
      refine then_ ?_
      obtain ⟨⟨a1, hx1, hk1, hv1⟩, _, _⟩ := (hIn).mems (i := lowK t.key key t.ml) ((look_low hR hr1).2)
      refine wp_seq ?_
      have hLo : LOk [(0, 23, .val (.pointer (some ⟨g1_0, 5, none⟩))), (1, 24, .val (.slice ((t).xm) ((t).ml) ((t).cm))), (2, 25, .val (.int .i64 ((lowK t.key key t.ml : Int)))), (3, 26, .val (.pointer (some (a1.add (lowK t.key key t.ml * 7))))), (4, 27, .val (.pointer (some ((a1.add (lowK t.key key t.ml * 7)).add 1)))), (5, 28, .val (.agg (FR () 6 (((t).mem (lowK t.key key t.ml)).sc)))), (7, 5, .val (.bool true))] := lok (by rfl) (by rfl)
      refine zH (wE := w) (sz := 29) (n := 8) [0, 1, 3, 7, 15, 31, 63, 127] [(0, .val (.agg (FR () 6 ((t).sc)))), (1, .val (.string (key))), (2, .val (.pointer (some ⟨g1_0, 0, none⟩))), (4, .val (.pointer (some ⟨g1_1, 0, none⟩))), (6, .val (.int .i64 ((lowK t.key key t.ml : Int)))), (7, .val (.bool true)), (21, .val (.bool false)), (25, .val (.int .i64 ((lowK t.key key t.ml : Int)))), (5, .val (.bool true))] [(0, 23, .val (.pointer (some ⟨g1_0, 5, none⟩))), (1, 24, .val (.slice ((t).xm) ((t).ml) ((t).cm))), (2, 25, .val (.int .i64 ((lowK t.key key t.ml : Int)))), (3, 26, .val (.pointer (some (a1.add (lowK t.key key t.ml * 7))))), (4, 27, .val (.pointer (some ((a1.add (lowK t.key key t.ml * 7)).add 1)))), (5, 28, .val (.agg (FR () 6 (((t).mem (lowK t.key key t.ml)).sc)))), (7, 5, .val (.bool true))] [⟨g1_0, none, none, (), 6, (t).sc, (t).sc, 25⟩, ⟨g1_1, none, some 6, (), 6, lsc [.i .i64 (0), .b (false), .i .i64 (0), .s (ByteArray.empty), .sl (none) (0) (0), .sl (none) (0) (0)], ((t).mem (lowK t.key key t.ml)).sc, 25⟩] rfl (by rfl) HH3 rfl rfl hLo rfl HS3 (slS 0 rfl rfl (slS 1 rfl rfl (slS 2 rfl rfl (slS 3 rfl rfl (slS 5 rfl rfl (slS 6 rfl rfl (slS 7 rfl rfl (slL 2 (d := 2) rfl (slL 6 (d := 7) rfl (trivial)))))))))) ?_ ?_
      · show ∀ i ∈ [0, 1, 2, 3, 4, 5, 6, 7], _
        refine zA (zB 0 _ rfl rfl hLo rfl rfl (fun _ _ _ _ => rfl) (fun b G w hb ho => zJ rfl (zG rfl (HS3.get 2 rfl)) (by kernel_rfl))) ?_
        refine zA (zW 1 0 _ _ rfl rfl rfl hLo rfl rfl (fun _ _ _ _ => rfl) (by rfl) (by rfl) (fun b G w hb ho hr => zP hr (Nat.le_of_ble_eq_true rfl) Tryd.underlying23 rfl rfl (zC hLo 0 rfl HS3.1 rfl (hb 0 (by rfl))))) ?_
        refine zA (zB 2 _ rfl rfl hLo rfl rfl (fun _ _ _ _ => rfl) (fun b G w hb ho => zD (.inl rfl) (zG rfl (HS3.get 5 rfl)))) ?_
        refine zA (zB 3 _ rfl rfl hLo rfl rfl (fun _ _ _ _ => rfl) (fun b G w hb ho => zU rfl (zC hLo 1 rfl HS3.1 rfl (hb 1 (by rfl))) (zC hLo 2 rfl HS3.1 rfl (hb 2 (by rfl))) (index_sl Tryd.underlying23 (by kernel_rfl) hx1 ((look_low hR hr1).2) _))) ?_
        refine zA (zB 4 _ rfl rfl hLo rfl rfl (fun _ _ _ _ => rfl) (fun b G w hb ho => zJ rfl (zC hLo 3 rfl HS3.1 rfl (hb 3 (by rfl))) (by kernel_rfl))) ?_
        refine zA (st_at 5 ((a1.add (lowK t.key key t.ml * 7)).add 1) rfl rfl rfl (fun _ _ _ _ => rfl) hLo rfl rfl Tryd.underlying25 (by kernel_rfl) rfl (at7v hv1) (fun b G hb ho => zC hLo 4 rfl HS3.1 rfl (hb 4 (by rfl)))) ?_
        refine zA (st_store 1 _ rfl rfl rfl rfl rfl (fun _ _ _ _ => rfl) rfl rfl rfl (by rfl) (by kernel_rfl) (fun b G hb ho => zG rfl (HS3.get 3 rfl)) (fun b G hb ho => zC hLo 5 rfl HS3.1 rfl (hb 5 (by rfl)))) ?_
        refine zA (zB 6 _ rfl rfl hLo rfl rfl (fun _ _ _ _ => rfl) (fun b G w hb ho => zD (.inr rfl) (rfl))) ?_
        exact zF
      clear hLo
      intro G a5 w5 hS hH
      have HS5 : Sl a5 29 [(0, .agg (FR () 6 ((t).sc))), (1, .string (key)), (2, .pointer (some ⟨g1_0, 0, none⟩)), (4, .pointer (some ⟨g1_1, 0, none⟩)), (6, .int .i64 ((lowK t.key key t.ml : Int))), (7, .bool true), (21, .bool false), (25, .int .i64 ((lowK t.key key t.ml : Int))), (5, .bool true)] := hS
      have HH5 : Held w w5 [⟨g1_0, (), 6, (t).sc, 25⟩, ⟨g1_1, (), 6, ((t).mem (lowK t.key key t.ml)).sc, 25⟩] := hH
      clear hS hH HS3 HH3
      refine then_ ?_
      refine wp_ret ?_
      repeat (first | refine zR ?_ | refine zK ?_)
      exact b_row2 rfl HS5.2.1 (HS5.get 3 rfl) (HS5.get 8 rfl) (HH5.row 1 rfl) Tryd.underlying25 rfl (by kernel_rfl) ⟨get_ret_some (get_yes hR hr2 hr1), HH5.1⟩
  · skip
    refine wp_seq ?_
    have hLo : LOk [(0, 15, .val (.pointer (some ⟨g1_0, 0, none⟩))), (1, 16, .val (.int .i64 ((t).kind))), (2, 17, .val (.bool true)), (3, 18, .val (.bool true)), (4, 19, .val (undef)), (5, 20, .val (undef)), (6, 21, .val (.bool true))] := lok (by rfl) (by rfl)
    refine zH (wE := w) (sz := 29) (n := 7) [0, 1, 3, 7, 15, 31, 63] [(0, .val (.agg (FR () 6 ((t).sc)))), (1, .val (.string (key))), (2, .val (.pointer (some ⟨g1_0, 0, none⟩))), (4, .val (.pointer (some ⟨g1_1, 0, none⟩))), (5, .val (.bool false)), (6, .val (.int .i64 ((lowK t.key key t.ml : Int)))), (7, .val (.bool r1)), (21, .val (.bool true))] [(0, 15, .val (.pointer (some ⟨g1_0, 0, none⟩))), (1, 16, .val (.int .i64 ((t).kind))), (2, 17, .val (.bool true)), (3, 18, .val (.bool true)), (4, 19, .val (undef)), (5, 20, .val (undef)), (6, 21, .val (.bool true))] [⟨g1_0, none, none, (), 6, (t).sc, (t).sc, 25⟩, ⟨g1_1, none, none, (), 6, lsc [.i .i64 (0), .b (false), .i .i64 (0), .s (ByteArray.empty), .sl (none) (0) (0), .sl (none) (0) (0)], lsc [.i .i64 (0), .b (false), .i .i64 (0), .s (ByteArray.empty), .sl (none) (0) (0), .sl (none) (0) (0)], 25⟩] rfl (by rfl) HH2 rfl rfl hLo rfl HS2 (slS 0 rfl rfl (slS 1 rfl rfl (slS 2 rfl rfl (slS 3 rfl rfl (slS 4 rfl rfl (slS 5 rfl rfl (slS 6 rfl rfl (slL 6 (d := 6) rfl (trivial))))))))) ?_ ?_
    · show ∀ i ∈ [0, 1, 2, 3, 4, 5, 6], _
      refine zA (zB 0 _ rfl rfl hLo rfl rfl (fun _ _ _ _ => rfl) (fun b G w hb ho => zJ rfl (zG rfl (HS2.get 2 rfl)) (by kernel_rfl))) ?_
      refine zA (zW 1 0 _ _ rfl rfl rfl hLo rfl rfl (fun _ _ _ _ => rfl) (by rfl) (by rfl) (fun b G w hb ho hr => zP hr (Nat.le_of_ble_eq_true rfl) Tryd.underlying3 rfl rfl (zC hLo 0 rfl HS2.1 rfl (hb 0 (by rfl))))) ?_
      refine zA (zB 2 _ rfl rfl hLo rfl rfl (fun _ _ _ _ => rfl) (fun b G w hb ho => zI rfl (zC hLo 1 rfl HS2.1 rfl (hb 1 (by rfl))) (rfl) (rb_neq hr2 _ _ _))) ?_
      refine zA (zB 3 _ rfl rfl hLo rfl rfl (fun _ _ _ _ => rfl) (fun b G w hb ho => zD (.inl rfl) (zC hLo 2 rfl HS2.1 rfl (hb 2 (by rfl))))) ?_
      refine zA (zN 4 rfl rfl hLo rfl rfl (fun b G hb ho => zE rfl rfl rfl HS2.1 rfl (zC hLo 3 rfl HS2.1 rfl (hb 3 (by rfl))) rfl)) ?_
      refine zA (zN 5 rfl rfl hLo rfl rfl (fun b G hb ho => zE rfl rfl rfl HS2.1 rfl (zC hLo 3 rfl HS2.1 rfl (hb 3 (by rfl))) rfl)) ?_
      refine zA (zB 6 _ rfl rfl hLo rfl rfl (fun _ _ _ _ => rfl) (fun b G w hb ho => zL rfl (zC hLo 3 rfl HS2.1 rfl (hb 3 (by rfl))) (rfl))) ?_
      exact zF
    clear hLo
    intro G a6 w6 hS hH
    have HS6 : Sl a6 29 [(0, .agg (FR () 6 ((t).sc))), (1, .string (key)), (2, .pointer (some ⟨g1_0, 0, none⟩)), (4, .pointer (some ⟨g1_1, 0, none⟩)), (5, .bool false), (6, .int .i64 ((lowK t.key key t.ml : Int))), (7, .bool r1), (21, .bool true)] := hS
    have HH6 : Held w w6 [⟨g1_0, (), 6, (t).sc, 25⟩, ⟨g1_1, (), 6, lsc [.i .i64 (0), .b (false), .i .i64 (0), .s (ByteArray.empty), .sl (none) (0) (0), .sl (none) (0) (0)], 25⟩] := hH
    clear hS hH HS2 HH2
    refine then_ ?_
    refine wp_cond_true (HS6.get 7 rfl) ?_
    refine wp_seq ?_
    have hLo : LOk [(0, 22, .val (.agg (FR () 6 ((T.zero).sc)))), (2, 5, .val (.bool false))] := lok (by rfl) (by rfl)
    refine zH (wE := w) (sz := 29) (n := 3) [0, 1, 3] [(0, .val (.agg (FR () 6 ((t).sc)))), (1, .val (.string (key))), (2, .val (.pointer (some ⟨g1_0, 0, none⟩))), (4, .val (.pointer (some ⟨g1_1, 0, none⟩))), (6, .val (.int .i64 ((lowK t.key key t.ml : Int)))), (7, .val (.bool r1)), (21, .val (.bool true)), (5, .val (.bool false))] [(0, 22, .val (.agg (FR () 6 ((T.zero).sc)))), (2, 5, .val (.bool false))] [⟨g1_0, none, none, (), 6, (t).sc, (t).sc, 25⟩, ⟨g1_1, none, some 1, (), 6, lsc [.i .i64 (0), .b (false), .i .i64 (0), .s (ByteArray.empty), .sl (none) (0) (0), .sl (none) (0) (0)], (T.zero).sc, 25⟩] rfl (by rfl) HH6 rfl rfl hLo rfl HS6 (slS 0 rfl rfl (slS 1 rfl rfl (slS 2 rfl rfl (slS 3 rfl rfl (slS 5 rfl rfl (slS 6 rfl rfl (slS 7 rfl rfl (slL 1 (d := 2) rfl (trivial))))))))) ?_ ?_
    · show ∀ i ∈ [0, 1, 2], _
      refine zA (zB 0 _ rfl rfl hLo rfl rfl (fun _ _ _ _ => rfl) (fun b G w hb ho => exec_build rfl (parts0 ) (by kernel_rfl))) ?_
      refine zA (st_store 1 _ rfl rfl rfl rfl rfl (fun _ _ _ _ => rfl) rfl rfl rfl (by rfl) (by kernel_rfl) (fun b G hb ho => zG rfl (HS6.get 3 rfl)) (fun b G hb ho => zC hLo 0 rfl HS6.1 rfl (hb 0 (by rfl)))) ?_
      refine zA (zB 1 _ rfl rfl hLo rfl rfl (fun _ _ _ _ => rfl) (fun b G w hb ho => zD (.inr rfl) (rfl))) ?_
      exact zF
    clear hLo
    intro G a7 w7 hS hH
    have HS7 : Sl a7 29 [(0, .agg (FR () 6 ((t).sc))), (1, .string (key)), (2, .pointer (some ⟨g1_0, 0, none⟩)), (4, .pointer (some ⟨g1_1, 0, none⟩)), (6, .int .i64 ((lowK t.key key t.ml : Int))), (7, .bool r1), (21, .bool true), (5, .bool false)] := hS
    have HH7 : Held w w7 [⟨g1_0, (), 6, (t).sc, 25⟩, ⟨g1_1, (), 6, (T.zero).sc, 25⟩] := hH
    clear hS hH HS6 HH6
    refine then_ ?_
    refine wp_ret ?_
    repeat (first | refine zR ?_ | refine zK ?_)
    exact b_row2 rfl HS7.2.1 (HS7.get 3 rfl) (HS7.get 7 rfl) (HH7.row 1 rfl) Tryd.underlying25 rfl (by kernel_rfl) ⟨get_ret_none (get_no1 hr2), HH7.1⟩
theorem num_calls {w : World} {t : T} (key : ByteArray) (hIn : In w t) (hR : Rise t.ml fun k => bl (t.key k)) : Calls Tryd.prog 25 #[.agg (FR () 6 ((t).sc)), .string (key)] w fun e w' => e = .returned (.tuple #[.int .i64 (t.tell key).1, .bool (t.tell key).2]) ∧ Below w.heap.size w w' := by
  refine enter_ 22 Tryd.func25 rfl rfl (fun a0 hS => ?_)
  have HS0 : Sl a0 22 [(0, .agg (FR () 6 ((t).sc))), (1, .string (key))] := hS
  have HH0 : Held w w [] := Held.first w
  clear hS
  refine wp_seq ?_
  have hLo : LOk [(0, 2, .new 0 (fun g => .pointer (some ⟨g, 0, none⟩))), (1, 4, .val (.int .i64 (0))), (2, 5, .val (.bool false))] := lok (by rfl) (by rfl)
  refine zH (wE := w) (sz := 22) (n := 3) [0, 1, 3] [(0, .val (.agg (FR () 6 ((t).sc)))), (1, .val (.string (key))), (2, .new 0 (fun g => .pointer (some ⟨g, 0, none⟩))), (4, .val (.int .i64 (0))), (5, .val (.bool false))] [(0, 2, .new 0 (fun g => .pointer (some ⟨g, 0, none⟩))), (1, 4, .val (.int .i64 (0))), (2, 5, .val (.bool false))] [⟨0, some 0, none, (), 6, (t).sc, (t).sc, 25⟩] rfl (by rfl) HH0 rfl rfl hLo rfl HS0 (slS 0 rfl rfl (slS 1 rfl rfl (slL 0 (d := 0) rfl (slL 1 (d := 1) rfl (slL 2 (d := 2) rfl (trivial)))))) ?_ ?_
  · show ∀ i ∈ [0, 1, 2], _
    refine zA (zZ 0 0 () 6 25 none _ _ rfl rfl (fun _ _ _ _ => rfl) rfl hLo rfl rfl rfl rfl (by rfl) (fun b G w hb ho => exec_box rfl (zG rfl (HS0.get 0 rfl)) (by kernel_rfl))) ?_
    refine zA (zB 1 _ rfl rfl hLo rfl rfl (fun _ _ _ _ => rfl) (fun b G w hb ho => zD (.inr rfl) (rfl))) ?_
    refine zA (zB 2 _ rfl rfl hLo rfl rfl (fun _ _ _ _ => rfl) (fun b G w hb ho => zD (.inr rfl) (rfl))) ?_
    exact zF
  clear hLo
  intro G a1 w1 hS hH
  have HS1 : Sl a1 22 [(0, .agg (FR () 6 ((t).sc))), (1, .string (key)), (2, .pointer (some ⟨(G 0), 0, none⟩)), (4, .int .i64 (0)), (5, .bool false)] := hS
  have HH1 : Held w w1 [⟨(G 0), (), 6, (t).sc, 25⟩] := hH
  clear hS hH HS0 HH0
  generalize G 0 = g1_0 at HS1 HH1
  refine then_ ?_
  obtain ⟨r1, hr1⟩ : ∃ r : Bool, ((t.get key).isSome) = r := ⟨_, rfl⟩
  refine wp_seq ?_
  have hLo : LOk [(0, 9, .val (.agg (FR () 6 ((t).sc)))), (1, 10, .val (.string (key))), (2, 11, .val (.tuple #[.agg (FR () 6 ((t.tbl key).sc)), .bool r1])), (3, 8, .val (.tuple #[.agg (FR () 6 ((t.tbl key).sc)), .bool r1])), (4, 12, .val (.agg (FR () 6 ((t.tbl key).sc)))), (5, 13, .val (.bool r1)), (6, 6, .new 6 (fun g => .pointer (some ⟨g, 0, none⟩))), (8, 7, .val (.bool r1))] := lok (by rfl) (by rfl)
  refine zH (wE := w) (sz := 22) (n := 9) [0, 1, 3, 7, 15, 31, 63, 127, 255] [(0, .val (.agg (FR () 6 ((t).sc)))), (1, .val (.string (key))), (2, .val (.pointer (some ⟨g1_0, 0, none⟩))), (4, .val (.int .i64 (0))), (5, .val (.bool false)), (6, .new 6 (fun g => .pointer (some ⟨g, 0, none⟩))), (7, .val (.bool r1))] [(0, 9, .val (.agg (FR () 6 ((t).sc)))), (1, 10, .val (.string (key))), (2, 11, .val (.tuple #[.agg (FR () 6 ((t.tbl key).sc)), .bool r1])), (3, 8, .val (.tuple #[.agg (FR () 6 ((t.tbl key).sc)), .bool r1])), (4, 12, .val (.agg (FR () 6 ((t.tbl key).sc)))), (5, 13, .val (.bool r1)), (6, 6, .new 6 (fun g => .pointer (some ⟨g, 0, none⟩))), (8, 7, .val (.bool r1))] [⟨g1_0, none, none, (), 6, (t).sc, (t).sc, 25⟩, ⟨0, some 6, some 7, (), 6, lsc [.i .i64 (0), .b (false), .i .i64 (0), .s (ByteArray.empty), .sl (none) (0) (0), .sl (none) (0) (0)], (t.tbl key).sc, 25⟩] rfl (by rfl) HH1 rfl rfl hLo rfl HS1 (slS 0 rfl rfl (slS 1 rfl rfl (slS 2 rfl rfl (slS 3 rfl rfl (slS 4 rfl rfl (slL 6 (d := 6) rfl (slL 7 (d := 8) rfl (trivial)))))))) ?_ ?_
  · show ∀ i ∈ [0, 1, 2, 3, 4, 5, 6, 7, 8], _
    refine zA (yG 0 0 _ rfl rfl rfl rfl (fun _ _ _ _ => rfl) hLo rfl rfl rfl (by rfl) Tryd.underlying25 (by kernel_rfl) rfl (fun b G hb ho => zG rfl (HS1.get 2 rfl))) ?_
    refine zA (zB 1 _ rfl rfl hLo rfl rfl (fun _ _ _ _ => rfl) (fun b G w hb ho => zD (.inl rfl) (zG rfl (HS1.get 1 rfl)))) ?_
    refine zA (yB 2 _ #[.agg (FR () 6 ((t).sc)), .string (key)] rfl rfl rfl (fun _ _ _ _ => rfl) hLo rfl rfl Tryd.func31 rfl rfl (fun b G hb ho => args2 (zC hLo 0 rfl HS1.1 rfl (hb 0 (by rfl))) (zC hLo 1 rfl HS1.1 rfl (hb 1 (by rfl)))) (fun w hw => (by have hq := get_calls key (hIn.below hw) hR; rw [hr1] at hq; exact hq))) ?_
    refine zA (zB 3 _ rfl rfl hLo rfl rfl (fun _ _ _ _ => rfl) (fun b G w hb ho => zD (.inl rfl) (zC hLo 2 rfl HS1.1 rfl (hb 2 (by rfl))))) ?_
    refine zA (zB 4 _ rfl rfl hLo rfl rfl (fun _ _ _ _ => rfl) (fun b G w hb ho => zX rfl (zC hLo 3 rfl HS1.1 rfl (hb 3 (by rfl))) (by rfl))) ?_
    refine zA (zB 5 _ rfl rfl hLo rfl rfl (fun _ _ _ _ => rfl) (fun b G w hb ho => zX rfl (zC hLo 3 rfl HS1.1 rfl (hb 3 (by rfl))) (by rfl))) ?_
    refine zA (zZ 6 1 () 6 25 (some 7) _ _ rfl rfl (fun _ _ _ _ => rfl) rfl hLo rfl rfl rfl rfl (by rfl) (fun b G w _ _ => by kernel_rfl)) ?_
    refine zA (st_store 1 _ rfl rfl rfl rfl rfl (fun _ _ _ _ => rfl) rfl rfl rfl (by rfl) (by kernel_rfl) (fun b G hb ho => zC hLo 6 rfl HS1.1 rfl (hb 6 (by rfl))) (fun b G hb ho => zC hLo 4 rfl HS1.1 rfl (hb 4 (by rfl)))) ?_
    refine zA (zB 7 _ rfl rfl hLo rfl rfl (fun _ _ _ _ => rfl) (fun b G w hb ho => zD (.inr rfl) (zC hLo 5 rfl HS1.1 rfl (hb 5 (by rfl))))) ?_
    exact zF
  clear hLo
  intro G a2 w2 hS hH
  have HS2 : Sl a2 22 [(0, .agg (FR () 6 ((t).sc))), (1, .string (key)), (2, .pointer (some ⟨g1_0, 0, none⟩)), (4, .int .i64 (0)), (5, .bool false), (6, .pointer (some ⟨(G 6), 0, none⟩)), (7, .bool r1)] := hS
  have HH2 : Held w w2 [⟨g1_0, (), 6, (t).sc, 25⟩, ⟨(G 6), (), 6, (t.tbl key).sc, 25⟩] := hH
  clear hS hH HS1 HH1
  generalize G 6 = g2_6 at HS2 HH2
  refine then_ ?_
  cases r1
  · skip
    refine wp_seq ?_
    have hLo : LOk [(0, 14, .val (.pointer (some ⟨g2_6, 2, none⟩))), (1, 15, .val (.int .i64 ((t.tbl key).num))), (2, 16, .val (.bool false)), (3, 17, .val (.bool false)), (4, 18, .val (undef)), (5, 19, .val (undef)), (6, 20, .val (undef)), (7, 21, .val (.bool false)), (8, 4, .val (.int .i64 ((t.tbl key).num))), (9, 5, .val (.bool false))] := lok (by rfl) (by rfl)
    refine region_ (wE := w) (sz := 22) (n := 10) (B := [0, 1, 0, 4, 12, 28, 60, 124, 15, 511]) [0, 1, 2, 3, 4, 5, 6, 7, 8, 9] [(0, .val (.agg (FR () 6 ((t).sc)))), (1, .val (.string (key))), (2, .val (.pointer (some ⟨g1_0, 0, none⟩))), (6, .val (.pointer (some ⟨g2_6, 0, none⟩))), (7, .val (.bool false)), (4, .val (.int .i64 ((t.tbl key).num))), (5, .val (.bool false))] [(0, 14, .val (.pointer (some ⟨g2_6, 2, none⟩))), (1, 15, .val (.int .i64 ((t.tbl key).num))), (2, 16, .val (.bool false)), (3, 17, .val (.bool false)), (4, 18, .val (undef)), (5, 19, .val (undef)), (6, 20, .val (undef)), (7, 21, .val (.bool false)), (8, 4, .val (.int .i64 ((t.tbl key).num))), (9, 5, .val (.bool false))] [⟨g1_0, none, none, (), 6, (t).sc, (t).sc, 25⟩, ⟨g2_6, none, none, (), 6, (t.tbl key).sc, (t.tbl key).sc, 25⟩] (by rfl) rfl tabnum_2 bitsnum_2 (by kernel_rfl) (by kernel_rfl) HH2 rfl rfl hLo rfl HS2 (slS 0 rfl rfl (slS 1 rfl rfl (slS 2 rfl rfl (slS 5 rfl rfl (slS 6 rfl rfl (slL 8 (d := 8) rfl (slL 9 (d := 9) rfl (trivial)))))))) ?_ ?_
    · show ∀ i ∈ [0, 1, 2, 3, 4, 5, 6, 7, 8, 9], _
      refine zA (zB 0 _ rfl rfl hLo rfl rfl (fun _ _ _ _ => rfl) (fun b G w hb ho => zJ rfl (zG rfl (HS2.get 5 rfl)) (by kernel_rfl))) ?_
      refine zA (zW 1 1 _ _ rfl rfl rfl hLo rfl rfl (fun _ _ _ _ => rfl) (by rfl) (by rfl) (fun b G w hb ho hr => zP hr (Nat.le_of_ble_eq_true rfl) Tryd.underlying3 rfl rfl (zC hLo 0 rfl HS2.1 rfl (hb 0 (by rfl))))) ?_
      refine zA (zB 2 _ rfl rfl hLo rfl rfl (fun _ _ _ _ => rfl) (fun b G w hb ho => zD (.inl rfl) (zG rfl (HS2.get 6 rfl)))) ?_
      refine zA (zB 3 _ rfl rfl hLo rfl rfl (fun _ _ _ _ => rfl) (fun b G w hb ho => zD (.inl rfl) (zC hLo 2 rfl HS2.1 rfl (hb 2 (by rfl))))) ?_
      refine zA (zN 4 rfl rfl hLo rfl rfl (fun b G hb ho => zE rfl rfl rfl HS2.1 rfl (zC hLo 3 rfl HS2.1 rfl (hb 3 (by rfl))) rfl)) ?_
      refine zA (zN 5 rfl rfl hLo rfl rfl (fun b G hb ho => zE rfl rfl rfl HS2.1 rfl (zC hLo 3 rfl HS2.1 rfl (hb 3 (by rfl))) rfl)) ?_
      refine zA (zN 6 rfl rfl hLo rfl rfl (fun b G hb ho => zE rfl rfl rfl HS2.1 rfl (zC hLo 3 rfl HS2.1 rfl (hb 3 (by rfl))) rfl)) ?_
      refine zA (zB 7 _ rfl rfl hLo rfl rfl (fun _ _ _ _ => rfl) (fun b G w hb ho => zL rfl (zC hLo 3 rfl HS2.1 rfl (hb 3 (by rfl))) (rfl))) ?_
      refine zA (zB 8 _ rfl rfl hLo rfl rfl (fun _ _ _ _ => rfl) (fun b G w hb ho => zD (.inr rfl) (zC hLo 1 rfl HS2.1 rfl (hb 1 (by rfl))))) ?_
      refine zA (zB 9 _ rfl rfl hLo rfl rfl (fun _ _ _ _ => rfl) (fun b G w hb ho => zD (.inr rfl) (zC hLo 7 rfl HS2.1 rfl (hb 7 (by rfl))))) ?_
      exact zF
    clear hLo
    intro G a3 w3 hS hH
    have HS3 : Sl a3 22 [(0, .agg (FR () 6 ((t).sc))), (1, .string (key)), (2, .pointer (some ⟨g1_0, 0, none⟩)), (6, .pointer (some ⟨g2_6, 0, none⟩)), (7, .bool false), (4, .int .i64 ((t.tbl key).num)), (5, .bool false)] := hS
    have HH3 : Held w w3 [⟨g1_0, (), 6, (t).sc, 25⟩, ⟨g2_6, (), 6, (t.tbl key).sc, 25⟩] := hH
    clear hS hH HS2 HH2
    refine then_ ?_
    refine wp_ret ?_
    repeat (first | refine zR ?_ | refine zK ?_)
    exact b_tmp2 rfl HS3.2.1 (HS3.get 5 rfl) (HS3.get 6 rfl) ⟨tell_ret (by rw [hr1]; rfl), HH3.1⟩
  · skip
    obtain ⟨r2, hr2⟩ : ∃ r : Bool, ((((t.tbl key).kind : Int) == 2)) = r := ⟨_, rfl⟩
    refine wp_seq ?_
    have hLo : LOk [(0, 14, .val (.pointer (some ⟨g2_6, 2, none⟩))), (1, 15, .val (.int .i64 ((t.tbl key).num))), (2, 16, .val (.bool true)), (3, 17, .val (.bool true)), (4, 18, .val (.pointer (some ⟨g2_6, 0, none⟩))), (5, 19, .val (.int .i64 ((t.tbl key).kind))), (6, 20, .val (.bool r2)), (7, 21, .val (.bool r2)), (8, 4, .val (.int .i64 ((t.tbl key).num))), (9, 5, .val (.bool r2))] := lok (by rfl) (by rfl)
    refine region_ (wE := w) (sz := 22) (n := 10) (B := [0, 1, 0, 4, 12, 28, 60, 124, 15, 511]) [0, 1, 2, 3, 4, 5, 6, 7, 8, 9] [(0, .val (.agg (FR () 6 ((t).sc)))), (1, .val (.string (key))), (2, .val (.pointer (some ⟨g1_0, 0, none⟩))), (6, .val (.pointer (some ⟨g2_6, 0, none⟩))), (7, .val (.bool true)), (4, .val (.int .i64 ((t.tbl key).num))), (5, .val (.bool r2))] [(0, 14, .val (.pointer (some ⟨g2_6, 2, none⟩))), (1, 15, .val (.int .i64 ((t.tbl key).num))), (2, 16, .val (.bool true)), (3, 17, .val (.bool true)), (4, 18, .val (.pointer (some ⟨g2_6, 0, none⟩))), (5, 19, .val (.int .i64 ((t.tbl key).kind))), (6, 20, .val (.bool r2)), (7, 21, .val (.bool r2)), (8, 4, .val (.int .i64 ((t.tbl key).num))), (9, 5, .val (.bool r2))] [⟨g1_0, none, none, (), 6, (t).sc, (t).sc, 25⟩, ⟨g2_6, none, none, (), 6, (t.tbl key).sc, (t.tbl key).sc, 25⟩] (by rfl) rfl tabnum_2 bitsnum_2 (by kernel_rfl) (by kernel_rfl) HH2 rfl rfl hLo rfl HS2 (slS 0 rfl rfl (slS 1 rfl rfl (slS 2 rfl rfl (slS 5 rfl rfl (slS 6 rfl rfl (slL 8 (d := 8) rfl (slL 9 (d := 9) rfl (trivial)))))))) ?_ ?_
    · show ∀ i ∈ [0, 1, 2, 3, 4, 5, 6, 7, 8, 9], _
      refine zA (zB 0 _ rfl rfl hLo rfl rfl (fun _ _ _ _ => rfl) (fun b G w hb ho => zJ rfl (zG rfl (HS2.get 5 rfl)) (by kernel_rfl))) ?_
      refine zA (zW 1 1 _ _ rfl rfl rfl hLo rfl rfl (fun _ _ _ _ => rfl) (by rfl) (by rfl) (fun b G w hb ho hr => zP hr (Nat.le_of_ble_eq_true rfl) Tryd.underlying3 rfl rfl (zC hLo 0 rfl HS2.1 rfl (hb 0 (by rfl))))) ?_
      refine zA (zB 2 _ rfl rfl hLo rfl rfl (fun _ _ _ _ => rfl) (fun b G w hb ho => zD (.inl rfl) (zG rfl (HS2.get 6 rfl)))) ?_
      refine zA (zB 3 _ rfl rfl hLo rfl rfl (fun _ _ _ _ => rfl) (fun b G w hb ho => zD (.inl rfl) (zC hLo 2 rfl HS2.1 rfl (hb 2 (by rfl))))) ?_
      refine zA (zB 4 _ rfl rfl hLo rfl rfl (fun b G hb ho => zE rfl rfl rfl HS2.1 rfl (zC hLo 3 rfl HS2.1 rfl (hb 3 (by rfl))) rfl) (fun b G w hb ho => zJ rfl (zG rfl (HS2.get 5 rfl)) (by kernel_rfl))) ?_
      refine zA (zW 5 1 _ _ rfl rfl rfl hLo rfl rfl (fun b G hb ho => zE rfl rfl rfl HS2.1 rfl (zC hLo 3 rfl HS2.1 rfl (hb 3 (by rfl))) rfl) (by rfl) (by rfl) (fun b G w hb ho hr => zP hr (Nat.le_of_ble_eq_true rfl) Tryd.underlying3 rfl rfl (zC hLo 4 rfl HS2.1 rfl (hb 4 (by rfl))))) ?_
      refine zA (zB 6 _ rfl rfl hLo rfl rfl (fun b G hb ho => zE rfl rfl rfl HS2.1 rfl (zC hLo 3 rfl HS2.1 rfl (hb 3 (by rfl))) rfl) (fun b G w hb ho => zI rfl (zC hLo 5 rfl HS2.1 rfl (hb 5 (by rfl))) (rfl) (rb_eql hr2 _ _ _))) ?_
      refine zA (zB 7 _ rfl rfl hLo rfl rfl (fun _ _ _ _ => rfl) (fun b G w hb ho => zL rfl (zC hLo 3 rfl HS2.1 rfl (hb 3 (by rfl))) (zC hLo 6 rfl HS2.1 rfl (hb 6 (by rfl))))) ?_
      refine zA (zB 8 _ rfl rfl hLo rfl rfl (fun _ _ _ _ => rfl) (fun b G w hb ho => zD (.inr rfl) (zC hLo 1 rfl HS2.1 rfl (hb 1 (by rfl))))) ?_
      refine zA (zB 9 _ rfl rfl hLo rfl rfl (fun _ _ _ _ => rfl) (fun b G w hb ho => zD (.inr rfl) (zC hLo 7 rfl HS2.1 rfl (hb 7 (by rfl))))) ?_
      exact zF
    clear hLo
    intro G a4 w4 hS hH
    have HS4 : Sl a4 22 [(0, .agg (FR () 6 ((t).sc))), (1, .string (key)), (2, .pointer (some ⟨g1_0, 0, none⟩)), (6, .pointer (some ⟨g2_6, 0, none⟩)), (7, .bool true), (4, .int .i64 ((t.tbl key).num)), (5, .bool r2)] := hS
    have HH4 : Held w w4 [⟨g1_0, (), 6, (t).sc, 25⟩, ⟨g2_6, (), 6, (t.tbl key).sc, 25⟩] := hH
    clear hS hH HS2 HH2
    refine then_ ?_
    refine wp_ret ?_
    repeat (first | refine zR ?_ | refine zK ?_)
    exact b_tmp2 rfl HS4.2.1 (HS4.get 5 rfl) (HS4.get 6 rfl) ⟨tell_ret (by rw [hr1, Bool.true_and, ← hr2]; rfl), HH4.1⟩
def k_ban : ByteArray := ⟨#[98, 97, 110]⟩
def k_events_default : ByteArray := ⟨#[101, 118, 101, 110, 116, 115, 95, 100, 101, 102, 97, 117, 108, 116]⟩
def k_invite : ByteArray := ⟨#[105, 110, 118, 105, 116, 101]⟩
def k_kick : ByteArray := ⟨#[107, 105, 99, 107]⟩
def k_redact : ByteArray := ⟨#[114, 101, 100, 97, 99, 116]⟩
def k_state_default : ByteArray := ⟨#[115, 116, 97, 116, 101, 95, 100, 101, 102, 97, 117, 108, 116]⟩
def k_users_default : ByteArray := ⟨#[117, 115, 101, 114, 115, 95, 100, 101, 102, 97, 117, 108, 116]⟩
def zS : ByteArray := ⟨#[117, 115, 101, 114, 115]⟩
def zO : ByteArray := ⟨#[101, 118, 101, 110, 116, 115]⟩
def k_notifications : ByteArray := ⟨#[110, 111, 116, 105, 102, 105, 99, 97, 116, 105, 111, 110, 115]⟩
def els (s : ByteArray) : Int := if s = k_ban then 50 else if s = k_kick then 50 else if s = k_redact then 50 else if s = k_state_default then 50 else 0
theorem int_ret {a b : Int} (h : b = a) : Ending.returned (.int .i64 a) = .returned (.int .i64 b) := by rw [h]
theorem at6e {w : World} {a : Addr} {o : Nat} {t : T} (hv : At6 w a o t) : ∀ j, j < 6 → w.cell? ((a.add o).add j) = some (mkc () (t.sc j)) := by
  intro j hj
  rw [Go.Deep.add_add]
  exact hv j hj
theorem iterW_stop {f : Nat → Int → Int} {n k : Nat} {l : Int} (h : ¬ 0 ≤ l) : iterW f n k l = l := by
  cases k with
  | zero => rfl
  | succ k => unfold iterW; rw [if_neg h]
theorem iterW_step {f : Nat → Int → Int} {n i : Nat} {l : Int} (hi : i < n) (h : 0 ≤ l) : iterW f n (n - i) l = iterW f n (n - (i + 1)) (f i l) := by
  have e : n - i = (n - (i + 1)) + 1 := by omega
  rw [e]
  show (if 0 ≤ l then iterW f n (n - (i + 1)) (f (n - (n - (i + 1) + 1)) l) else l) = _
  rw [if_pos h, show n - (n - (i + 1) + 1) = i by omega]
theorem T.rec2 {Q : T → Prop} (h : ∀ t : T, (∀ i, i < t.ml → Q (t.mem i)) → (∀ i, i < t.ll → Q (t.elm i)) → Q t) : ∀ t, Q t := by
  intro t
  induction t with
  | no => exact h .no (fun i hi => absurd hi (Nat.not_lt_zero _)) (fun i hi => absurd hi (Nat.not_lt_zero _))
  | mk k is n s xl ll cl L xm ml cm K M ihL ihM => exact h _ (fun i _ => ihM i) (fun i _ => ihL i)
def pM (t : T) (i : Nat) : Bool := upB t.key i && risesB (t.mem i)
theorem rises_no1 {w : World} {t : T} {i : Nat} (h : In w t) (hi : i < t.ml) (hp : pM t i = false) : Ending.returned (.bool false) = .returned (.bool (risesB t)) := by
  rw [risesB_eq h, allB_no (p := fun i => upB t.key i && risesB (t.mem i)) hi hp]; rfl
theorem rises_no2 {w : World} {t : T} {i : Nat} (h : In w t) (h1 : allB (pM t) t.ml = true) (hi : i < t.ll) (hp : risesB (t.elm i) = false) : Ending.returned (.bool false) = .returned (.bool (risesB t)) := by
  rw [risesB_eq h, allB_no (p := fun i => risesB (t.elm i)) hi hp, Bool.and_false]
theorem rises_yes {w : World} {t : T} (h : In w t) (h1 : allB (pM t) t.ml = true) (h2 : allB (fun i => risesB (t.elm i)) t.ll = true) : Ending.returned (.bool true) = .returned (.bool (risesB t)) := by
  have h1 : allB (fun i => upB t.key i && risesB (t.mem i)) t.ml = true := h1
  rw [risesB_eq h, h1, h2]; rfl
theorem allB_step {p : Nat → Bool} {i : Nat} (h : allB p i = true) (h2 : p i = true) : allB p (i + 1) = true := by
  show (allB p i && p i) = true
  rw [h, h2]; rfl
theorem pM_first {t : T} {i : Nat} {b : Bool} (h : decide ((0 : Int) < (i : Int)) = false) (h2 : risesB (t.mem i) = b) : pM t i = b := by
  have e : i = 0 := by have := of_decide_eq_false h; omega
  subst e
  unfold pM upB; rw [h2]; rfl
theorem pM_next {t : T} {i : Nat} {b : Bool} (h : decide ((0 : Int) < (i : Int)) = true) (hc : (!decide (cmpB (bl ((t).key (i - 1))) (bl ((t).key (i))) < 0)) = false) (h2 : risesB (t.mem i) = b) : pM t i = b := by
  have e : i ≠ 0 := by have := of_decide_eq_true h; omega
  unfold pM upB; rw [h2]
  have hc : decide (cmpB (bl (t.key (i - 1))) (bl (t.key i)) < 0) = true := by simpa using hc
  rw [hc]; simp
theorem pM_bad {t : T} {i : Nat} (h : decide ((0 : Int) < (i : Int)) = true) (hc : (!decide (cmpB (bl ((t).key (i - 1))) (bl ((t).key (i))) < 0)) = true) : pM t i = false := by
  have e : i ≠ 0 := by have := of_decide_eq_true h; omega
  have hc : decide (cmpB (bl (t.key (i - 1))) (bl (t.key i)) < 0) = false := by simpa using hc
  unfold pM upB
  rw [hc]
  simp [e]
theorem tabris_4 : rtab .any (opsOf Tryd.f29 4) = (true, [([], []), ([0], [0]), ([1], [1]), ([2], [2]), ([3, 2], [2, 3]), ([2], [2]), ([5, 2], [2, 5]), ([4, 6, 2], [2, 4, 6]), ([7, 2], [2, 7]), ([8, 2], [2, 8]), ([2], [2]), ([10, 2], [2, 10]), ([9, 11, 2], [2, 9, 11]), ([2, 12], [2, 12]), ([13, 2], [13]), ([14], [14]), ([15, 14], [14, 15]), ([16, 14, 14], [14, 16]), ([17, 14], [14, 17]), ([14, 18], [14, 18])]) := by kernel_rfl
theorem bitsris_4 : waitsOk [([], []), ([0], [0]), ([1], [1]), ([2], [2]), ([3, 2], [2, 3]), ([2], [2]), ([5, 2], [2, 5]), ([4, 6, 2], [2, 4, 6]), ([7, 2], [2, 7]), ([8, 2], [2, 8]), ([2], [2]), ([10, 2], [2, 10]), ([9, 11, 2], [2, 9, 11]), ([2, 12], [2, 12]), ([13, 2], [13]), ([14], [14]), ([15, 14], [14, 15]), ([16, 14, 14], [14, 16]), ([17, 14], [14, 17]), ([14, 18], [14, 18])] [0, 1, 3, 7, 15, 7, 39, 127, 255, 511, 7, 1031, 4095, 8191, 16383, 32767, 65535, 131071, 262143, 524287] = true := by kernel_rfl
theorem rises_step {w : World} {t : T} (hIn : In w t) (ihM : ∀ i, i < t.ml → ∀ w, In w (t.mem i) → Calls Tryd.prog 29 #[(t.mem i).val] w fun e w' => e = .returned (.bool (risesB (t.mem i))) ∧ Below w.heap.size w w') (ihL : ∀ i, i < t.ll → ∀ w, In w (t.elm i) → Calls Tryd.prog 29 #[(t.elm i).val] w fun e w' => e = .returned (.bool (risesB (t.elm i))) ∧ Below w.heap.size w w') : Calls Tryd.prog 29 #[.agg (FR () 6 ((t).sc))] w fun e w' => e = .returned (.bool (risesB t)) ∧ Below w.heap.size w w' := by
  have hb47 := hIn.own.2.2.2.2.1
  have hb48 := hIn.own.2.2.2.1
  unfold reach47 at hb47 hb48
  refine enter_ 47 Tryd.func29 rfl rfl (fun a0 hS => ?_)
  have HS0 : Sl a0 47 [(0, .agg (FR () 6 ((t).sc)))] := hS
  have HH0 : Held w w [] := Held.first w
  clear hS
  refine wp_seq ?_
  have hLo : LOk [(0, 1, .new 0 (fun g => .pointer (some ⟨g, 0, none⟩))), (1, 2, .val (.bool false))] := lok (by rfl) (by rfl)
  refine zH (wE := w) (sz := 47) (n := 2) [0, 1] [(0, .val (.agg (FR () 6 ((t).sc)))), (1, .new 0 (fun g => .pointer (some ⟨g, 0, none⟩))), (2, .val (.bool false))] [(0, 1, .new 0 (fun g => .pointer (some ⟨g, 0, none⟩))), (1, 2, .val (.bool false))] [⟨0, some 0, none, (), 6, (t).sc, (t).sc, 25⟩] rfl (by rfl) HH0 rfl rfl hLo rfl HS0 (slS 0 rfl rfl (slL 0 (d := 0) rfl (slL 1 (d := 1) rfl (trivial)))) ?_ ?_
  · show ∀ i ∈ [0, 1], _
    refine zA (zZ 0 0 () 6 25 none _ _ rfl rfl (fun _ _ _ _ => rfl) rfl hLo rfl rfl rfl rfl (by rfl) (fun b G w hb ho => exec_box rfl (zG rfl (HS0.get 0 rfl)) (by kernel_rfl))) ?_
    refine zA (zB 1 _ rfl rfl hLo rfl rfl (fun _ _ _ _ => rfl) (fun b G w hb ho => zD (.inr rfl) (rfl))) ?_
    exact zF
  clear hLo
  intro G a1 w1 hS hH
  have HS1 : Sl a1 47 [(0, .agg (FR () 6 ((t).sc))), (1, .pointer (some ⟨(G 0), 0, none⟩)), (2, .bool false)] := hS
  have HH1 : Held w w1 [⟨(G 0), (), 6, (t).sc, 25⟩] := hH
  clear hS hH HS0 HH0
  generalize G 0 = g1_0 at HS1 HH1
  refine then_ ?_
  refine wp_seq ?_
  refine wp_seq ?_
  have hLo : LOk [(0, 7, .val (.pointer (some ⟨g1_0, 5, none⟩))), (1, 8, .val (.slice ((t).xm) ((t).ml) ((t).cm))), (2, 9, .val (.int .i64 (((t).ml : Int)))), (3, 10, .val (.int .i64 (0)))] := lok (by rfl) (by rfl)
  refine zH (wE := w) (sz := 47) (n := 4) [0, 1, 3, 7] [(0, .val (.agg (FR () 6 ((t).sc)))), (1, .val (.pointer (some ⟨g1_0, 0, none⟩))), (2, .val (.bool false)), (8, .val (.slice ((t).xm) ((t).ml) ((t).cm))), (9, .val (.int .i64 (((t).ml : Int)))), (10, .val (.int .i64 (0)))] [(0, 7, .val (.pointer (some ⟨g1_0, 5, none⟩))), (1, 8, .val (.slice ((t).xm) ((t).ml) ((t).cm))), (2, 9, .val (.int .i64 (((t).ml : Int)))), (3, 10, .val (.int .i64 (0)))] [⟨g1_0, none, none, (), 6, (t).sc, (t).sc, 25⟩] rfl (by rfl) HH1 rfl rfl hLo rfl HS1 (slS 0 rfl rfl (slS 1 rfl rfl (slS 2 rfl rfl (slL 1 (d := 1) rfl (slL 2 (d := 2) rfl (slL 3 (d := 3) rfl (trivial))))))) ?_ ?_
  · show ∀ i ∈ [0, 1, 2, 3], _
    refine zA (zB 0 _ rfl rfl hLo rfl rfl (fun _ _ _ _ => rfl) (fun b G w hb ho => zJ rfl (zG rfl (HS1.get 1 rfl)) (by kernel_rfl))) ?_
    refine zA (zW 1 0 _ _ rfl rfl rfl hLo rfl rfl (fun _ _ _ _ => rfl) (by rfl) (by rfl) (fun b G w hb ho hr => zP hr (Nat.le_of_ble_eq_true rfl) Tryd.underlying23 rfl rfl (zC hLo 0 rfl HS1.1 rfl (hb 0 (by rfl))))) ?_
    refine zA (zB 2 _ rfl rfl hLo rfl rfl (fun _ _ _ _ => rfl) (fun b G w hb ho => yF Tryd.underlying23 rfl (zC hLo 1 rfl HS1.1 rfl (hb 1 (by rfl))))) ?_
    refine zA (zB 3 _ rfl rfl hLo rfl rfl (fun _ _ _ _ => rfl) (fun b G w hb ho => zD (.inl rfl) (rfl))) ?_
    exact zF
  clear hLo
  intro G a2 w2 hS hH
  have HS2 : Sl a2 47 [(0, .agg (FR () 6 ((t).sc))), (1, .pointer (some ⟨g1_0, 0, none⟩)), (2, .bool false), (8, .slice ((t).xm) ((t).ml) ((t).cm)), (9, .int .i64 (((t).ml : Int))), (10, .int .i64 (0))] := hS
  have HH2 : Held w w2 [⟨g1_0, (), 6, (t).sc, 25⟩] := hH
  clear hS hH HS1 HH1
  refine then_ ?_
  refine wp_block ?_
  have hSq0 : Sl _ 47 [(0, .agg (FR () 6 ((t).sc))), (1, .pointer (some ⟨g1_0, 0, none⟩)), (8, .slice ((t).xm) ((t).ml) ((t).cm)), (9, .int .i64 (((t).ml : Int))), (10, .int .i64 (0))] := yA HS2 [0, 1, 3, 4, 5] (by rfl)
  refine wp_loop (fun a w' => ∃ i : Nat, i ≤ t.ml ∧ allB (pM t) i = true ∧ Sl a 47 [(0, .agg (FR () 6 ((t).sc))), (1, .pointer (some ⟨g1_0, 0, none⟩)), (8, .slice ((t).xm) ((t).ml) ((t).cm)), (9, .int .i64 (((t).ml : Int))), (10, .int .i64 ((i : Int)))] ∧ Held w w' [⟨g1_0, (), 6, (t).sc, 25⟩]) (fun a w' => t.ml - (intOf (a.eval (.tmp 10))).toNat) ⟨0, Nat.zero_le _, rfl, hSq0, HH2⟩ ?_
  clear hSq0 HS2 HH2
  rintro aq0 wq0 ⟨i, hlei, hpi, HSq0, HHq0⟩
  have hm : (intOf (aq0.eval (.tmp 10))).toNat = i := by rw [(HSq0.get 4 rfl)]; rfl
  rw [hm]
  clear hm
  obtain ⟨r1, hr1⟩ : ∃ r : Bool, (decide (((i : Int) : Int) < ((t).ml : Int))) = r := ⟨_, rfl⟩
  refine wp_seq ?_
  have hLo : LOk [(0, 11, .val (.bool r1))] := lok (by rfl) (by rfl)
  refine zH (wE := w) (sz := 47) (n := 1) [0] [(0, .val (.agg (FR () 6 ((t).sc)))), (1, .val (.pointer (some ⟨g1_0, 0, none⟩))), (8, .val (.slice ((t).xm) ((t).ml) ((t).cm))), (9, .val (.int .i64 (((t).ml : Int)))), (10, .val (.int .i64 ((i : Int)))), (11, .val (.bool r1))] [(0, 11, .val (.bool r1))] [⟨g1_0, none, none, (), 6, (t).sc, (t).sc, 25⟩] rfl (by rfl) HHq0 rfl rfl hLo rfl HSq0 (slS 0 rfl rfl (slS 1 rfl rfl (slS 2 rfl rfl (slS 3 rfl rfl (slS 4 rfl rfl (slL 0 (d := 0) rfl (trivial))))))) ?_ ?_
  · show ∀ i ∈ [0], _
    refine zA (zB 0 _ rfl rfl hLo rfl rfl (fun _ _ _ _ => rfl) (fun b G w hb ho => zI rfl (zG rfl (HSq0.get 4 rfl)) (zG rfl (HSq0.get 3 rfl)) (rb_lss hr1 _ _ _))) ?_
    exact zF
  clear hLo
  intro G a3 w3 hS hH
  have HS3 : Sl a3 47 [(0, .agg (FR () 6 ((t).sc))), (1, .pointer (some ⟨g1_0, 0, none⟩)), (8, .slice ((t).xm) ((t).ml) ((t).cm)), (9, .int .i64 (((t).ml : Int))), (10, .int .i64 ((i : Int))), (11, .bool r1)] := hS
  have HH3 : Held w w3 [⟨g1_0, (), 6, (t).sc, 25⟩] := hH
  clear hS hH HSq0 HHq0
  refine then_ ?_
  refine wp_seq ?_
  cases r1
  · skip
    have hpi : allB (pM t) t.ml = true := by have hq := of_decide_eq_false hr1; rw [show t.ml = i by omega]; exact hpi
    refine wp_cond_false (HS3.get 5 rfl) ?_
    refine wp_exit ?_
    refine zY ?_
    refine zY ?_
    refine yE ?_
    refine then_ ?_
    refine wp_seq ?_
    refine wp_seq ?_
    have hLo : LOk [(0, 36, .val (.pointer (some ⟨g1_0, 4, none⟩))), (1, 37, .val (.slice ((t).xl) ((t).ll) ((t).cl))), (2, 38, .val (.int .i64 (((t).ll : Int)))), (3, 39, .val (.int .i64 (0)))] := lok (by rfl) (by rfl)
    refine zH (wE := w) (sz := 47) (n := 4) [0, 1, 3, 7] [(0, .val (.agg (FR () 6 ((t).sc)))), (1, .val (.pointer (some ⟨g1_0, 0, none⟩))), (8, .val (.slice ((t).xm) ((t).ml) ((t).cm))), (9, .val (.int .i64 (((t).ml : Int)))), (10, .val (.int .i64 ((i : Int)))), (11, .val (.bool false)), (37, .val (.slice ((t).xl) ((t).ll) ((t).cl))), (38, .val (.int .i64 (((t).ll : Int)))), (39, .val (.int .i64 (0)))] [(0, 36, .val (.pointer (some ⟨g1_0, 4, none⟩))), (1, 37, .val (.slice ((t).xl) ((t).ll) ((t).cl))), (2, 38, .val (.int .i64 (((t).ll : Int)))), (3, 39, .val (.int .i64 (0)))] [⟨g1_0, none, none, (), 6, (t).sc, (t).sc, 25⟩] rfl (by rfl) HH3 rfl rfl hLo rfl HS3 (slS 0 rfl rfl (slS 1 rfl rfl (slS 2 rfl rfl (slS 3 rfl rfl (slS 4 rfl rfl (slS 5 rfl rfl (slL 1 (d := 1) rfl (slL 2 (d := 2) rfl (slL 3 (d := 3) rfl (trivial)))))))))) ?_ ?_
    · show ∀ i ∈ [0, 1, 2, 3], _
      refine zA (zB 0 _ rfl rfl hLo rfl rfl (fun _ _ _ _ => rfl) (fun b G w hb ho => zJ rfl (zG rfl (HS3.get 1 rfl)) (by kernel_rfl))) ?_
      refine zA (zW 1 0 _ _ rfl rfl rfl hLo rfl rfl (fun _ _ _ _ => rfl) (by rfl) (by rfl) (fun b G w hb ho hr => zP hr (Nat.le_of_ble_eq_true rfl) Tryd.underlying22 rfl rfl (zC hLo 0 rfl HS3.1 rfl (hb 0 (by rfl))))) ?_
      refine zA (zB 2 _ rfl rfl hLo rfl rfl (fun _ _ _ _ => rfl) (fun b G w hb ho => yF Tryd.underlying22 rfl (zC hLo 1 rfl HS3.1 rfl (hb 1 (by rfl))))) ?_
      refine zA (zB 3 _ rfl rfl hLo rfl rfl (fun _ _ _ _ => rfl) (fun b G w hb ho => zD (.inl rfl) (rfl))) ?_
      exact zF
    clear hLo
    intro G a4 w4 hS hH
    have HS4 : Sl a4 47 [(0, .agg (FR () 6 ((t).sc))), (1, .pointer (some ⟨g1_0, 0, none⟩)), (8, .slice ((t).xm) ((t).ml) ((t).cm)), (9, .int .i64 (((t).ml : Int))), (10, .int .i64 ((i : Int))), (11, .bool false), (37, .slice ((t).xl) ((t).ll) ((t).cl)), (38, .int .i64 (((t).ll : Int))), (39, .int .i64 (0))] := hS
    have HH4 : Held w w4 [⟨g1_0, (), 6, (t).sc, 25⟩] := hH
    clear hS hH HS3 HH3
    refine then_ ?_
    refine wp_block ?_
    have hSq1 : Sl _ 47 [(0, .agg (FR () 6 ((t).sc))), (1, .pointer (some ⟨g1_0, 0, none⟩)), (8, .slice ((t).xm) ((t).ml) ((t).cm)), (9, .int .i64 (((t).ml : Int))), (10, .int .i64 ((i : Int))), (11, .bool false), (37, .slice ((t).xl) ((t).ll) ((t).cl)), (38, .int .i64 (((t).ll : Int))), (39, .int .i64 (0))] := yA HS4 [0, 1, 2, 3, 4, 5, 6, 7, 8] (by rfl)
    refine wp_loop (fun a w' => ∃ k : Nat, k ≤ t.ll ∧ allB (fun i => risesB (t.elm i)) k = true ∧ Sl a 47 [(0, .agg (FR () 6 ((t).sc))), (1, .pointer (some ⟨g1_0, 0, none⟩)), (8, .slice ((t).xm) ((t).ml) ((t).cm)), (9, .int .i64 (((t).ml : Int))), (10, .int .i64 ((i : Int))), (11, .bool false), (37, .slice ((t).xl) ((t).ll) ((t).cl)), (38, .int .i64 (((t).ll : Int))), (39, .int .i64 ((k : Int)))] ∧ Held w w' [⟨g1_0, (), 6, (t).sc, 25⟩]) (fun a w' => t.ll - (intOf (a.eval (.tmp 39))).toNat) ⟨0, Nat.zero_le _, rfl, hSq1, HH4⟩ ?_
    clear hSq1 HS4 HH4
    rintro aq1 wq1 ⟨k, hlek, hpk, HSq1, HHq1⟩
    have hm : (intOf (aq1.eval (.tmp 39))).toNat = k := by rw [(HSq1.get 8 rfl)]; rfl
    rw [hm]
    clear hm
    obtain ⟨r2, hr2⟩ : ∃ r : Bool, (decide (((k : Int) : Int) < ((t).ll : Int))) = r := ⟨_, rfl⟩
    refine wp_seq ?_
    have hLo : LOk [(0, 40, .val (.bool r2))] := lok (by rfl) (by rfl)
    refine zH (wE := w) (sz := 47) (n := 1) [0] [(0, .val (.agg (FR () 6 ((t).sc)))), (1, .val (.pointer (some ⟨g1_0, 0, none⟩))), (8, .val (.slice ((t).xm) ((t).ml) ((t).cm))), (9, .val (.int .i64 (((t).ml : Int)))), (10, .val (.int .i64 ((i : Int)))), (11, .val (.bool false)), (37, .val (.slice ((t).xl) ((t).ll) ((t).cl))), (38, .val (.int .i64 (((t).ll : Int)))), (39, .val (.int .i64 ((k : Int)))), (40, .val (.bool r2))] [(0, 40, .val (.bool r2))] [⟨g1_0, none, none, (), 6, (t).sc, (t).sc, 25⟩] rfl (by rfl) HHq1 rfl rfl hLo rfl HSq1 (slS 0 rfl rfl (slS 1 rfl rfl (slS 2 rfl rfl (slS 3 rfl rfl (slS 4 rfl rfl (slS 5 rfl rfl (slS 6 rfl rfl (slS 7 rfl rfl (slS 8 rfl rfl (slL 0 (d := 0) rfl (trivial))))))))))) ?_ ?_
    · show ∀ i ∈ [0], _
      refine zA (zB 0 _ rfl rfl hLo rfl rfl (fun _ _ _ _ => rfl) (fun b G w hb ho => zI rfl (zG rfl (HSq1.get 8 rfl)) (zG rfl (HSq1.get 7 rfl)) (rb_lss hr2 _ _ _))) ?_
      exact zF
    clear hLo
    intro G a5 w5 hS hH
    have HS5 : Sl a5 47 [(0, .agg (FR () 6 ((t).sc))), (1, .pointer (some ⟨g1_0, 0, none⟩)), (8, .slice ((t).xm) ((t).ml) ((t).cm)), (9, .int .i64 (((t).ml : Int))), (10, .int .i64 ((i : Int))), (11, .bool false), (37, .slice ((t).xl) ((t).ll) ((t).cl)), (38, .int .i64 (((t).ll : Int))), (39, .int .i64 ((k : Int))), (40, .bool r2)] := hS
    have HH5 : Held w w5 [⟨g1_0, (), 6, (t).sc, 25⟩] := hH
    clear hS hH HSq1 HHq1
    refine then_ ?_
    refine wp_seq ?_
    cases r2
    · skip
      have hpk : allB (fun i => risesB (t.elm i)) t.ll = true := by have hq := of_decide_eq_false hr2; rw [show t.ll = k by omega]; exact hpk
      refine wp_cond_false (HS5.get 9 rfl) ?_
      refine wp_exit ?_
      refine zY ?_
      refine zY ?_
      refine yE ?_
      refine then_ ?_
      refine wp_seq ?_
      have hLo : LOk [(0, 2, .val (.bool true))] := lok (by rfl) (by rfl)
      refine zH (wE := w) (sz := 47) (n := 1) [0] [(0, .val (.agg (FR () 6 ((t).sc)))), (1, .val (.pointer (some ⟨g1_0, 0, none⟩))), (8, .val (.slice ((t).xm) ((t).ml) ((t).cm))), (9, .val (.int .i64 (((t).ml : Int)))), (10, .val (.int .i64 ((i : Int)))), (11, .val (.bool false)), (37, .val (.slice ((t).xl) ((t).ll) ((t).cl))), (38, .val (.int .i64 (((t).ll : Int)))), (39, .val (.int .i64 ((k : Int)))), (40, .val (.bool false)), (2, .val (.bool true))] [(0, 2, .val (.bool true))] [⟨g1_0, none, none, (), 6, (t).sc, (t).sc, 25⟩] rfl (by rfl) HH5 rfl rfl hLo rfl HS5 (slS 0 rfl rfl (slS 1 rfl rfl (slS 2 rfl rfl (slS 3 rfl rfl (slS 4 rfl rfl (slS 5 rfl rfl (slS 6 rfl rfl (slS 7 rfl rfl (slS 8 rfl rfl (slS 9 rfl rfl (slL 0 (d := 0) rfl (trivial)))))))))))) ?_ ?_
      · show ∀ i ∈ [0], _
        refine zA (zB 0 _ rfl rfl hLo rfl rfl (fun _ _ _ _ => rfl) (fun b G w hb ho => zD (.inr rfl) (rfl))) ?_
        exact zF
      clear hLo
      intro G a6 w6 hS hH
      have HS6 : Sl a6 47 [(0, .agg (FR () 6 ((t).sc))), (1, .pointer (some ⟨g1_0, 0, none⟩)), (8, .slice ((t).xm) ((t).ml) ((t).cm)), (9, .int .i64 (((t).ml : Int))), (10, .int .i64 ((i : Int))), (11, .bool false), (37, .slice ((t).xl) ((t).ll) ((t).cl)), (38, .int .i64 (((t).ll : Int))), (39, .int .i64 ((k : Int))), (40, .bool false), (2, .bool true)] := hS
      have HH6 : Held w w6 [⟨g1_0, (), 6, (t).sc, 25⟩] := hH
      clear hS hH HS5 HH5
      refine then_ ?_
      refine wp_ret ?_
      repeat (first | refine zR ?_ | refine zK ?_)
      exact b_tmp rfl HS6.2.1 (HS6.get 10 rfl) ⟨rises_yes hIn hpi hpk, HH6.1⟩
    · skip
      have hltk : k < t.ll := by have := of_decide_eq_true hr2; omega
      refine wp_cond_true (HS5.get 9 rfl) ?_
      refine wp_skip ?_
      refine then_ ?_
      refine wp_seq ?_
      refine wp_block ?_
      obtain ⟨⟨a1, hx1, hv1⟩, hn1⟩ := (hIn).elms (i := k) (by omega)
      refine wp_seq ?_
      have hLo : LOk [(0, 41, .val (.pointer (some (a1.add ((k) * 6))))), (1, 42, .val (.agg (FR () 6 (((t).elm (k)).sc)))), (2, 6, .new 2 (fun g => .pointer (some ⟨g, 0, none⟩)))] := lok (by rfl) (by rfl)
      refine zH (wE := w) (sz := 47) (n := 4) [0, 1, 3, 7] [(0, .val (.agg (FR () 6 ((t).sc)))), (1, .val (.pointer (some ⟨g1_0, 0, none⟩))), (8, .val (.slice ((t).xm) ((t).ml) ((t).cm))), (9, .val (.int .i64 (((t).ml : Int)))), (10, .val (.int .i64 ((i : Int)))), (11, .val (.bool false)), (37, .val (.slice ((t).xl) ((t).ll) ((t).cl))), (38, .val (.int .i64 (((t).ll : Int)))), (39, .val (.int .i64 ((k : Int)))), (40, .val (.bool true)), (6, .new 2 (fun g => .pointer (some ⟨g, 0, none⟩)))] [(0, 41, .val (.pointer (some (a1.add ((k) * 6))))), (1, 42, .val (.agg (FR () 6 (((t).elm (k)).sc)))), (2, 6, .new 2 (fun g => .pointer (some ⟨g, 0, none⟩)))] [⟨g1_0, none, none, (), 6, (t).sc, (t).sc, 25⟩, ⟨0, some 2, some 3, (), 6, lsc [.i .i64 (0), .b (false), .i .i64 (0), .s (ByteArray.empty), .sl (none) (0) (0), .sl (none) (0) (0)], ((t).elm (k)).sc, 25⟩] rfl (by rfl) HH5 rfl rfl hLo rfl HS5 (slS 0 rfl rfl (slS 1 rfl rfl (slS 2 rfl rfl (slS 3 rfl rfl (slS 4 rfl rfl (slS 5 rfl rfl (slS 6 rfl rfl (slS 7 rfl rfl (slS 8 rfl rfl (slS 9 rfl rfl (slL 2 (d := 2) rfl (trivial)))))))))))) ?_ ?_
      · show ∀ i ∈ [0, 1, 2, 3], _
        refine zA (zB 0 _ rfl rfl hLo rfl rfl (fun _ _ _ _ => rfl) (fun b G w hb ho => zU rfl (zG rfl (HS5.get 6 rfl)) (zG rfl (HS5.get 8 rfl)) (index_sl Tryd.underlying22 (by kernel_rfl) hx1 (by omega) _))) ?_
        refine zA (st_at 1 (a1.add ((k) * 6)) rfl rfl rfl (fun _ _ _ _ => rfl) hLo rfl rfl Tryd.underlying25 (by kernel_rfl) rfl (at6e hv1) (fun b G hb ho => zC hLo 0 rfl HS5.1 rfl (hb 0 (by rfl)))) ?_
        refine zA (zZ 2 1 () 6 25 (some 3) _ _ rfl rfl (fun _ _ _ _ => rfl) rfl hLo rfl rfl rfl rfl (by rfl) (fun b G w _ _ => by kernel_rfl)) ?_
        refine zA (st_store 1 _ rfl rfl rfl rfl rfl (fun _ _ _ _ => rfl) rfl rfl rfl (by rfl) (by kernel_rfl) (fun b G hb ho => zC hLo 2 rfl HS5.1 rfl (hb 2 (by rfl))) (fun b G hb ho => zC hLo 1 rfl HS5.1 rfl (hb 1 (by rfl)))) ?_
        exact zF
      clear hLo
      intro G a7 w7 hS hH
      have HS7 : Sl a7 47 [(0, .agg (FR () 6 ((t).sc))), (1, .pointer (some ⟨g1_0, 0, none⟩)), (8, .slice ((t).xm) ((t).ml) ((t).cm)), (9, .int .i64 (((t).ml : Int))), (10, .int .i64 ((i : Int))), (11, .bool false), (37, .slice ((t).xl) ((t).ll) ((t).cl)), (38, .int .i64 (((t).ll : Int))), (39, .int .i64 ((k : Int))), (40, .bool true), (6, .pointer (some ⟨(G 2), 0, none⟩))] := hS
      have HH7 : Held w w7 [⟨g1_0, (), 6, (t).sc, 25⟩, ⟨(G 2), (), 6, ((t).elm (k)).sc, 25⟩] := hH
      clear hS hH HS5 HH5
      generalize G 2 = g7_2 at HS7 HH7
      refine then_ ?_
      obtain ⟨r3, hr3⟩ : ∃ r : Bool, (risesB (t.elm k)) = r := ⟨_, rfl⟩
      refine wp_seq ?_
      have hLo : LOk [(0, 43, .val (.agg (FR () 6 (((t).elm (k)).sc)))), (1, 44, .val (.bool r3)), (2, 45, .val (.bool (!r3)))] := lok (by rfl) (by rfl)
      refine zH (wE := w) (sz := 47) (n := 3) [0, 1, 3] [(0, .val (.agg (FR () 6 ((t).sc)))), (1, .val (.pointer (some ⟨g1_0, 0, none⟩))), (8, .val (.slice ((t).xm) ((t).ml) ((t).cm))), (9, .val (.int .i64 (((t).ml : Int)))), (10, .val (.int .i64 ((i : Int)))), (11, .val (.bool false)), (37, .val (.slice ((t).xl) ((t).ll) ((t).cl))), (38, .val (.int .i64 (((t).ll : Int)))), (39, .val (.int .i64 ((k : Int)))), (40, .val (.bool true)), (6, .val (.pointer (some ⟨g7_2, 0, none⟩))), (45, .val (.bool (!r3)))] [(0, 43, .val (.agg (FR () 6 (((t).elm (k)).sc)))), (1, 44, .val (.bool r3)), (2, 45, .val (.bool (!r3)))] [⟨g1_0, none, none, (), 6, (t).sc, (t).sc, 25⟩, ⟨g7_2, none, none, (), 6, ((t).elm (k)).sc, ((t).elm (k)).sc, 25⟩] rfl (by rfl) HH7 rfl rfl hLo rfl HS7 (slS 0 rfl rfl (slS 1 rfl rfl (slS 2 rfl rfl (slS 3 rfl rfl (slS 4 rfl rfl (slS 5 rfl rfl (slS 6 rfl rfl (slS 7 rfl rfl (slS 8 rfl rfl (slS 9 rfl rfl (slS 10 rfl rfl (slL 2 (d := 2) rfl (trivial))))))))))))) ?_ ?_
      · show ∀ i ∈ [0, 1, 2], _
        refine zA (yG 0 1 _ rfl rfl rfl rfl (fun _ _ _ _ => rfl) hLo rfl rfl rfl (by rfl) Tryd.underlying25 (by kernel_rfl) rfl (fun b G hb ho => zG rfl (HS7.get 10 rfl))) ?_
        refine zA (yB 1 _ #[.agg (FR () 6 (((t).elm (k)).sc))] rfl rfl rfl (fun _ _ _ _ => rfl) hLo rfl rfl Tryd.func29 rfl rfl (fun b G hb ho => args1 (zC hLo 0 rfl HS7.1 rfl (hb 0 (by rfl)))) (fun w hw => (by have hq := ihL k (by omega) _ ((hIn.elms (i := k) (by omega)).2.below hw); rw [hr3] at hq; exact hq))) ?_
        refine zA (zB 2 _ rfl rfl hLo rfl rfl (fun _ _ _ _ => rfl) (fun b G w hb ho => exec_un rfl (zC hLo 1 rfl HS7.1 rfl (hb 1 (by rfl))) (ru_not _))) ?_
        exact zF
      clear hLo
      intro G a8 w8 hS hH
      have HS8 : Sl a8 47 [(0, .agg (FR () 6 ((t).sc))), (1, .pointer (some ⟨g1_0, 0, none⟩)), (8, .slice ((t).xm) ((t).ml) ((t).cm)), (9, .int .i64 (((t).ml : Int))), (10, .int .i64 ((i : Int))), (11, .bool false), (37, .slice ((t).xl) ((t).ll) ((t).cl)), (38, .int .i64 (((t).ll : Int))), (39, .int .i64 ((k : Int))), (40, .bool true), (6, .pointer (some ⟨g7_2, 0, none⟩)), (45, .bool (!r3))] := hS
      have HH8 : Held w w8 [⟨g1_0, (), 6, (t).sc, 25⟩, ⟨g7_2, (), 6, ((t).elm (k)).sc, 25⟩] := hH
      clear hS hH HS7 HH7
      refine then_ ?_
      cases r3
      · skip
        refine wp_cond_true (HS8.get 11 rfl) ?_
        refine wp_seq ?_
        have hLo : LOk [(0, 2, .val (.bool false))] := lok (by rfl) (by rfl)
        refine zH (wE := w) (sz := 47) (n := 1) [0] [(0, .val (.agg (FR () 6 ((t).sc)))), (1, .val (.pointer (some ⟨g1_0, 0, none⟩))), (8, .val (.slice ((t).xm) ((t).ml) ((t).cm))), (9, .val (.int .i64 (((t).ml : Int)))), (10, .val (.int .i64 ((i : Int)))), (11, .val (.bool false)), (37, .val (.slice ((t).xl) ((t).ll) ((t).cl))), (38, .val (.int .i64 (((t).ll : Int)))), (39, .val (.int .i64 ((k : Int)))), (40, .val (.bool true)), (6, .val (.pointer (some ⟨g7_2, 0, none⟩))), (45, .val (.bool true)), (2, .val (.bool false))] [(0, 2, .val (.bool false))] [⟨g1_0, none, none, (), 6, (t).sc, (t).sc, 25⟩, ⟨g7_2, none, none, (), 6, ((t).elm (k)).sc, ((t).elm (k)).sc, 25⟩] rfl (by rfl) HH8 rfl rfl hLo rfl HS8 (slS 0 rfl rfl (slS 1 rfl rfl (slS 2 rfl rfl (slS 3 rfl rfl (slS 4 rfl rfl (slS 5 rfl rfl (slS 6 rfl rfl (slS 7 rfl rfl (slS 8 rfl rfl (slS 9 rfl rfl (slS 10 rfl rfl (slS 11 rfl rfl (slL 0 (d := 0) rfl (trivial)))))))))))))) ?_ ?_
        · show ∀ i ∈ [0], _
          refine zA (zB 0 _ rfl rfl hLo rfl rfl (fun _ _ _ _ => rfl) (fun b G w hb ho => zD (.inr rfl) (rfl))) ?_
          exact zF
        clear hLo
        intro G a9 w9 hS hH
        have HS9 : Sl a9 47 [(0, .agg (FR () 6 ((t).sc))), (1, .pointer (some ⟨g1_0, 0, none⟩)), (8, .slice ((t).xm) ((t).ml) ((t).cm)), (9, .int .i64 (((t).ml : Int))), (10, .int .i64 ((i : Int))), (11, .bool false), (37, .slice ((t).xl) ((t).ll) ((t).cl)), (38, .int .i64 (((t).ll : Int))), (39, .int .i64 ((k : Int))), (40, .bool true), (6, .pointer (some ⟨g7_2, 0, none⟩)), (45, .bool true), (2, .bool false)] := hS
        have HH9 : Held w w9 [⟨g1_0, (), 6, (t).sc, 25⟩, ⟨g7_2, (), 6, ((t).elm (k)).sc, 25⟩] := hH
        clear hS hH HS8 HH8
        refine then_ ?_
        refine wp_ret ?_
        repeat (first | refine zR ?_ | refine zK ?_)
        exact b_tmp rfl HS9.2.1 (HS9.get 12 rfl) ⟨rises_no2 hIn hpi hltk hr3, HH9.1⟩
      · skip
        refine wp_cond_false (HS8.get 11 rfl) ?_
        refine wp_skip ?_
        refine zQ ?_
        refine then_ ?_
        have hLo : LOk [(0, 46, .val (.int .i64 (((k + 1 : Nat) : Int)))), (1, 39, .val (.int .i64 (((k + 1 : Nat) : Int))))] := lok (by rfl) (by rfl)
        refine zH (wE := w) (sz := 47) (n := 2) [0, 1] [(0, .val (.agg (FR () 6 ((t).sc)))), (1, .val (.pointer (some ⟨g1_0, 0, none⟩))), (8, .val (.slice ((t).xm) ((t).ml) ((t).cm))), (9, .val (.int .i64 (((t).ml : Int)))), (10, .val (.int .i64 ((i : Int)))), (11, .val (.bool false)), (37, .val (.slice ((t).xl) ((t).ll) ((t).cl))), (38, .val (.int .i64 (((t).ll : Int)))), (40, .val (.bool true)), (6, .val (.pointer (some ⟨g7_2, 0, none⟩))), (45, .val (.bool false)), (39, .val (.int .i64 (((k + 1 : Nat) : Int))))] [(0, 46, .val (.int .i64 (((k + 1 : Nat) : Int)))), (1, 39, .val (.int .i64 (((k + 1 : Nat) : Int))))] [⟨g1_0, none, none, (), 6, (t).sc, (t).sc, 25⟩, ⟨g7_2, none, none, (), 6, ((t).elm (k)).sc, ((t).elm (k)).sc, 25⟩] rfl (by rfl) HH8 rfl rfl hLo rfl HS8 (slS 0 rfl rfl (slS 1 rfl rfl (slS 2 rfl rfl (slS 3 rfl rfl (slS 4 rfl rfl (slS 5 rfl rfl (slS 6 rfl rfl (slS 7 rfl rfl (slS 9 rfl rfl (slS 10 rfl rfl (slS 11 rfl rfl (slL 1 (d := 1) rfl (trivial))))))))))))) ?_ ?_
        · show ∀ i ∈ [0, 1], _
          refine zA (zB 0 _ rfl rfl hLo rfl rfl (fun _ _ _ _ => rfl) (fun b G w hb ho => zI rfl (ev_pre hLo 1 rfl (ho 1 (by rfl)) (HS8.get 8 rfl)) (rfl) (rb_add (w_nat (by omega) (by omega)) _ _ _))) ?_
          refine zA (zB 1 _ rfl rfl hLo rfl rfl (fun _ _ _ _ => rfl) (fun b G w hb ho => zD (.inl rfl) (zC hLo 0 rfl HS8.1 rfl (hb 0 (by rfl))))) ?_
          exact zF
        clear hLo
        intro G a10 w10 hS hH
        have HS10 : Sl a10 47 [(0, .agg (FR () 6 ((t).sc))), (1, .pointer (some ⟨g1_0, 0, none⟩)), (8, .slice ((t).xm) ((t).ml) ((t).cm)), (9, .int .i64 (((t).ml : Int))), (10, .int .i64 ((i : Int))), (11, .bool false), (37, .slice ((t).xl) ((t).ll) ((t).cl)), (38, .int .i64 (((t).ll : Int))), (40, .bool true), (6, .pointer (some ⟨g7_2, 0, none⟩)), (45, .bool false), (39, .int .i64 (((k + 1 : Nat) : Int)))] := hS
        have HH10 : Held w w10 [⟨g1_0, (), 6, (t).sc, 25⟩, ⟨g7_2, (), 6, ((t).elm (k)).sc, 25⟩] := hH
        clear hS hH HS8 HH8
        refine then_ ?_
        have hSq1' : Sl _ 47 [(0, .agg (FR () 6 ((t).sc))), (1, .pointer (some ⟨g1_0, 0, none⟩)), (8, .slice ((t).xm) ((t).ml) ((t).cm)), (9, .int .i64 (((t).ml : Int))), (10, .int .i64 ((i : Int))), (11, .bool false), (37, .slice ((t).xl) ((t).ll) ((t).cl)), (38, .int .i64 (((t).ll : Int))), (39, .int .i64 (((k + 1 : Nat) : Int)))] := yA HS10 [0, 1, 2, 3, 4, 5, 6, 7, 11] (by rfl)
        have hHq1' : Held w _ [⟨g1_0, (), 6, (t).sc, 25⟩] := yD HH10 1 rfl
        exact ⟨⟨k + 1, by omega, allB_step hpk (hr3), hSq1', hHq1'⟩, by rw [(hSq1'.get 8 rfl)]; show t.ll - (((k + 1 : Nat) : Int)).toNat < t.ll - k; omega⟩
  · skip
    have hlt : i < t.ml := by have := of_decide_eq_true hr1; omega
    refine wp_cond_true (HS3.get 5 rfl) ?_
    refine wp_skip ?_
    refine then_ ?_
    refine wp_seq ?_
    refine wp_block ?_
    obtain ⟨⟨a1, hx1, hk1, hv1⟩, _, hn1⟩ := (hIn).mems (i := i) (by omega)
    refine wp_seq ?_
    have hLo : LOk [(0, 12, .val (.int .i64 ((i : Int)))), (1, 13, .val (.pointer (some (a1.add ((i) * 7))))), (2, 14, .val (.agg (FR () 7 (msc ((t).key (i)) ((t).mem (i)))))), (3, 4, .new 3 (fun g => .pointer (some ⟨g, 0, none⟩))), (4, 3, .val (.int .i64 ((i : Int))))] := lok (by rfl) (by rfl)
    refine zH (wE := w) (sz := 47) (n := 6) [0, 1, 3, 7, 15, 31] [(0, .val (.agg (FR () 6 ((t).sc)))), (1, .val (.pointer (some ⟨g1_0, 0, none⟩))), (8, .val (.slice ((t).xm) ((t).ml) ((t).cm))), (9, .val (.int .i64 (((t).ml : Int)))), (10, .val (.int .i64 ((i : Int)))), (11, .val (.bool true)), (4, .new 3 (fun g => .pointer (some ⟨g, 0, none⟩))), (3, .val (.int .i64 ((i : Int))))] [(0, 12, .val (.int .i64 ((i : Int)))), (1, 13, .val (.pointer (some (a1.add ((i) * 7))))), (2, 14, .val (.agg (FR () 7 (msc ((t).key (i)) ((t).mem (i)))))), (3, 4, .new 3 (fun g => .pointer (some ⟨g, 0, none⟩))), (4, 3, .val (.int .i64 ((i : Int))))] [⟨g1_0, none, none, (), 6, (t).sc, (t).sc, 25⟩, ⟨0, some 3, some 5, (), 7, lsc [.s (ByteArray.empty), .i .i64 (0), .b (false), .i .i64 (0), .s (ByteArray.empty), .sl (none) (0) (0), .sl (none) (0) (0)], msc ((t).key (i)) ((t).mem (i)), 44⟩] rfl (by rfl) HH3 rfl rfl hLo rfl HS3 (slS 0 rfl rfl (slS 1 rfl rfl (slS 2 rfl rfl (slS 3 rfl rfl (slS 4 rfl rfl (slS 5 rfl rfl (slL 3 (d := 3) rfl (slL 4 (d := 4) rfl (trivial))))))))) ?_ ?_
    · show ∀ i ∈ [0, 1, 2, 3, 4, 5], _
      refine zA (zB 0 _ rfl rfl hLo rfl rfl (fun _ _ _ _ => rfl) (fun b G w hb ho => zD (.inl rfl) (zG rfl (HS3.get 4 rfl)))) ?_
      refine zA (zB 1 _ rfl rfl hLo rfl rfl (fun _ _ _ _ => rfl) (fun b G w hb ho => zU rfl (zG rfl (HS3.get 2 rfl)) (zG rfl (HS3.get 4 rfl)) (index_sl Tryd.underlying23 (by kernel_rfl) hx1 (by omega) _))) ?_
      refine zA (st_at 2 (a1.add ((i) * 7)) rfl rfl rfl (fun _ _ _ _ => rfl) hLo rfl rfl Tryd.underlying44 (by kernel_rfl) rfl (at7 hk1 hv1) (fun b G hb ho => zC hLo 1 rfl HS3.1 rfl (hb 1 (by rfl)))) ?_
      refine zA (zZ 3 1 () 7 44 (some 5) _ _ rfl rfl (fun _ _ _ _ => rfl) rfl hLo rfl rfl rfl rfl (by rfl) (fun b G w _ _ => by kernel_rfl)) ?_
      refine zA (zB 4 _ rfl rfl hLo rfl rfl (fun _ _ _ _ => rfl) (fun b G w hb ho => zD (.inr rfl) (zC hLo 0 rfl HS3.1 rfl (hb 0 (by rfl))))) ?_
      refine zA (st_store 1 _ rfl rfl rfl rfl rfl (fun _ _ _ _ => rfl) rfl rfl rfl (by rfl) (by kernel_rfl) (fun b G hb ho => zC hLo 3 rfl HS3.1 rfl (hb 3 (by rfl))) (fun b G hb ho => zC hLo 2 rfl HS3.1 rfl (hb 2 (by rfl)))) ?_
      exact zF
    clear hLo
    intro G a11 w11 hS hH
    have HS11 : Sl a11 47 [(0, .agg (FR () 6 ((t).sc))), (1, .pointer (some ⟨g1_0, 0, none⟩)), (8, .slice ((t).xm) ((t).ml) ((t).cm)), (9, .int .i64 (((t).ml : Int))), (10, .int .i64 ((i : Int))), (11, .bool true), (4, .pointer (some ⟨(G 3), 0, none⟩)), (3, .int .i64 ((i : Int)))] := hS
    have HH11 : Held w w11 [⟨g1_0, (), 6, (t).sc, 25⟩, ⟨(G 3), (), 7, msc ((t).key (i)) ((t).mem (i)), 44⟩] := hH
    clear hS hH HS3 HH3
    generalize G 3 = g11_3 at HS11 HH11
    refine then_ ?_
    obtain ⟨r4, hr4⟩ : ∃ r : Bool, (decide ((0 : Int) < (i : Int))) = r := ⟨_, rfl⟩
    cases r4
    · skip
      obtain ⟨r5, hr5⟩ : ∃ r : Bool, (risesB (t.mem i)) = r := ⟨_, rfl⟩
      refine wp_seq ?_
      have hLo : LOk [(0, 15, .val (.int .i64 ((i : Int)))), (1, 16, .val (.bool false)), (2, 17, .val (.bool false)), (3, 18, .val (undef)), (4, 19, .val (undef)), (5, 20, .val (undef)), (6, 21, .val (undef)), (7, 22, .val (undef)), (8, 23, .val (undef)), (9, 24, .val (undef)), (10, 25, .val (undef)), (11, 26, .val (undef)), (12, 27, .val (undef)), (13, 28, .val (.bool false)), (14, 29, .val (.bool false)), (15, 30, .val (.pointer (some ⟨g11_3, 1, none⟩))), (16, 31, .val (.agg (FR () 6 (((t).mem (i)).sc)))), (17, 32, .val (.bool r5)), (18, 33, .val (.bool (!r5))), (19, 34, .val (.bool (!r5)))] := lok (by rfl) (by rfl)
      refine region_ (wE := w) (sz := 47) (n := 20) (B := [0, 1, 3, 7, 15, 7, 39, 127, 255, 511, 7, 1031, 4095, 8191, 16383, 32767, 65535, 131071, 262143, 524287]) [0, 1, 2, 3, 4, 5, 6, 7, 8, 9, 10, 11, 12, 13, 14, 15, 16, 17, 18, 19] [(0, .val (.agg (FR () 6 ((t).sc)))), (1, .val (.pointer (some ⟨g1_0, 0, none⟩))), (8, .val (.slice ((t).xm) ((t).ml) ((t).cm))), (9, .val (.int .i64 (((t).ml : Int)))), (10, .val (.int .i64 ((i : Int)))), (11, .val (.bool true)), (4, .val (.pointer (some ⟨g11_3, 0, none⟩))), (3, .val (.int .i64 ((i : Int)))), (34, .val (.bool (!r5)))] [(0, 15, .val (.int .i64 ((i : Int)))), (1, 16, .val (.bool false)), (2, 17, .val (.bool false)), (3, 18, .val (undef)), (4, 19, .val (undef)), (5, 20, .val (undef)), (6, 21, .val (undef)), (7, 22, .val (undef)), (8, 23, .val (undef)), (9, 24, .val (undef)), (10, 25, .val (undef)), (11, 26, .val (undef)), (12, 27, .val (undef)), (13, 28, .val (.bool false)), (14, 29, .val (.bool false)), (15, 30, .val (.pointer (some ⟨g11_3, 1, none⟩))), (16, 31, .val (.agg (FR () 6 (((t).mem (i)).sc)))), (17, 32, .val (.bool r5)), (18, 33, .val (.bool (!r5))), (19, 34, .val (.bool (!r5)))] [⟨g1_0, none, none, (), 6, (t).sc, (t).sc, 25⟩, ⟨g11_3, none, none, (), 7, msc ((t).key (i)) ((t).mem (i)), msc ((t).key (i)) ((t).mem (i)), 44⟩] (by rfl) rfl tabris_4 bitsris_4 (by kernel_rfl) (by kernel_rfl) HH11 rfl rfl hLo rfl HS11 (slS 0 rfl rfl (slS 1 rfl rfl (slS 2 rfl rfl (slS 3 rfl rfl (slS 4 rfl rfl (slS 5 rfl rfl (slS 6 rfl rfl (slS 7 rfl rfl (slL 19 (d := 19) rfl (trivial)))))))))) ?_ ?_
      · show ∀ i ∈ [0, 1, 2, 3, 4, 5, 6, 7, 8, 9, 10, 11, 12, 13, 14, 15, 16, 17, 18, 19], _
        refine zA (zB 0 _ rfl rfl hLo rfl rfl (fun _ _ _ _ => rfl) (fun b G w hb ho => zD (.inl rfl) (zG rfl (HS11.get 7 rfl)))) ?_
        refine zA (zB 1 _ rfl rfl hLo rfl rfl (fun _ _ _ _ => rfl) (fun b G w hb ho => zI rfl (zC hLo 0 rfl HS11.1 rfl (hb 0 (by rfl))) (rfl) (rb_gtr hr4 _ _ _))) ?_
        refine zA (zB 2 _ rfl rfl hLo rfl rfl (fun _ _ _ _ => rfl) (fun b G w hb ho => zD (.inl rfl) (zC hLo 1 rfl HS11.1 rfl (hb 1 (by rfl))))) ?_
        refine zA (zN 3 rfl rfl hLo rfl rfl (fun b G hb ho => zE rfl rfl rfl HS11.1 rfl (zC hLo 2 rfl HS11.1 rfl (hb 2 (by rfl))) rfl)) ?_
        refine zA (zN 4 rfl rfl hLo rfl rfl (fun b G hb ho => zE rfl rfl rfl HS11.1 rfl (zC hLo 2 rfl HS11.1 rfl (hb 2 (by rfl))) rfl)) ?_
        refine zA (zN 5 rfl rfl hLo rfl rfl (fun b G hb ho => zE rfl rfl rfl HS11.1 rfl (zC hLo 2 rfl HS11.1 rfl (hb 2 (by rfl))) rfl)) ?_
        refine zA (zN 6 rfl rfl hLo rfl rfl (fun b G hb ho => zE rfl rfl rfl HS11.1 rfl (zC hLo 2 rfl HS11.1 rfl (hb 2 (by rfl))) rfl)) ?_
        refine zA (zN 7 rfl rfl hLo rfl rfl (fun b G hb ho => zE rfl rfl rfl HS11.1 rfl (zC hLo 2 rfl HS11.1 rfl (hb 2 (by rfl))) rfl)) ?_
        refine zA (zN 8 rfl rfl hLo rfl rfl (fun b G hb ho => zE rfl rfl rfl HS11.1 rfl (zC hLo 2 rfl HS11.1 rfl (hb 2 (by rfl))) rfl)) ?_
        refine zA (zN 9 rfl rfl hLo rfl rfl (fun b G hb ho => zE rfl rfl rfl HS11.1 rfl (zC hLo 2 rfl HS11.1 rfl (hb 2 (by rfl))) rfl)) ?_
        refine zA (zN 10 rfl rfl hLo rfl rfl (fun b G hb ho => zE rfl rfl rfl HS11.1 rfl (zC hLo 2 rfl HS11.1 rfl (hb 2 (by rfl))) rfl)) ?_
        refine zA (zN 11 rfl rfl hLo rfl rfl (fun b G hb ho => zE rfl rfl rfl HS11.1 rfl (zC hLo 2 rfl HS11.1 rfl (hb 2 (by rfl))) rfl)) ?_
        refine zA (zN 12 rfl rfl hLo rfl rfl (fun b G hb ho => zE rfl rfl rfl HS11.1 rfl (zC hLo 2 rfl HS11.1 rfl (hb 2 (by rfl))) rfl)) ?_
        refine zA (zB 13 _ rfl rfl hLo rfl rfl (fun _ _ _ _ => rfl) (fun b G w hb ho => zL rfl (zC hLo 2 rfl HS11.1 rfl (hb 2 (by rfl))) (rfl))) ?_
        refine zA (zB 14 _ rfl rfl hLo rfl rfl (fun _ _ _ _ => rfl) (fun b G w hb ho => zD (.inl rfl) (zC hLo 13 rfl HS11.1 rfl (hb 13 (by rfl))))) ?_
        refine zA (zB 15 _ rfl rfl hLo rfl rfl (fun b G hb ho => zE rfl rfl rfl HS11.1 rfl (zC hLo 14 rfl HS11.1 rfl (hb 14 (by rfl))) rfl) (fun b G w hb ho => zJ rfl (zG rfl (HS11.get 6 rfl)) (by kernel_rfl))) ?_
        refine zA (st_load0 16 1 _ 1 6 rfl rfl rfl rfl (fun b G hb ho => zE rfl rfl rfl HS11.1 rfl (zC hLo 14 rfl HS11.1 rfl (hb 14 (by rfl))) rfl) hLo rfl rfl rfl (by rfl) (Nat.le_of_ble_eq_true rfl) Tryd.underlying25 (by kernel_rfl) rfl (fun b G hb ho => zC hLo 15 rfl HS11.1 rfl (hb 15 (by rfl)))) ?_
        refine zA (yB 17 _ #[.agg (FR () 6 (((t).mem (i)).sc))] rfl rfl rfl (fun b G hb ho => zE rfl rfl rfl HS11.1 rfl (zC hLo 14 rfl HS11.1 rfl (hb 14 (by rfl))) rfl) hLo rfl rfl Tryd.func29 rfl rfl (fun b G hb ho => args1 (zC hLo 16 rfl HS11.1 rfl (hb 16 (by rfl)))) (fun w hw => (by have hq := ihM i (by omega) _ ((hIn.mems (i := i) (by omega)).2.2.below hw); rw [hr5] at hq; exact hq))) ?_
        refine zA (zB 18 _ rfl rfl hLo rfl rfl (fun b G hb ho => zE rfl rfl rfl HS11.1 rfl (zC hLo 14 rfl HS11.1 rfl (hb 14 (by rfl))) rfl) (fun b G w hb ho => exec_un rfl (zC hLo 17 rfl HS11.1 rfl (hb 17 (by rfl))) (ru_not _))) ?_
        refine zA (zB 19 _ rfl rfl hLo rfl rfl (fun _ _ _ _ => rfl) (fun b G w hb ho => zL rfl (zC hLo 14 rfl HS11.1 rfl (hb 14 (by rfl))) (zC hLo 18 rfl HS11.1 rfl (hb 18 (by rfl))))) ?_
        exact zF
      clear hLo
      intro G a12 w12 hS hH
      have HS12 : Sl a12 47 [(0, .agg (FR () 6 ((t).sc))), (1, .pointer (some ⟨g1_0, 0, none⟩)), (8, .slice ((t).xm) ((t).ml) ((t).cm)), (9, .int .i64 (((t).ml : Int))), (10, .int .i64 ((i : Int))), (11, .bool true), (4, .pointer (some ⟨g11_3, 0, none⟩)), (3, .int .i64 ((i : Int))), (34, .bool (!r5))] := hS
      have HH12 : Held w w12 [⟨g1_0, (), 6, (t).sc, 25⟩, ⟨g11_3, (), 7, msc ((t).key (i)) ((t).mem (i)), 44⟩] := hH
      clear hS hH HS11 HH11
      refine then_ ?_
      cases r5
      · skip
        refine wp_cond_true (HS12.get 8 rfl) ?_
        refine wp_seq ?_
        have hLo : LOk [(0, 2, .val (.bool false))] := lok (by rfl) (by rfl)
        refine zH (wE := w) (sz := 47) (n := 1) [0] [(0, .val (.agg (FR () 6 ((t).sc)))), (1, .val (.pointer (some ⟨g1_0, 0, none⟩))), (8, .val (.slice ((t).xm) ((t).ml) ((t).cm))), (9, .val (.int .i64 (((t).ml : Int)))), (10, .val (.int .i64 ((i : Int)))), (11, .val (.bool true)), (4, .val (.pointer (some ⟨g11_3, 0, none⟩))), (3, .val (.int .i64 ((i : Int)))), (34, .val (.bool true)), (2, .val (.bool false))] [(0, 2, .val (.bool false))] [⟨g1_0, none, none, (), 6, (t).sc, (t).sc, 25⟩, ⟨g11_3, none, none, (), 7, msc ((t).key (i)) ((t).mem (i)), msc ((t).key (i)) ((t).mem (i)), 44⟩] rfl (by rfl) HH12 rfl rfl hLo rfl HS12 (slS 0 rfl rfl (slS 1 rfl rfl (slS 2 rfl rfl (slS 3 rfl rfl (slS 4 rfl rfl (slS 5 rfl rfl (slS 6 rfl rfl (slS 7 rfl rfl (slS 8 rfl rfl (slL 0 (d := 0) rfl (trivial))))))))))) ?_ ?_
        · show ∀ i ∈ [0], _
          refine zA (zB 0 _ rfl rfl hLo rfl rfl (fun _ _ _ _ => rfl) (fun b G w hb ho => zD (.inr rfl) (rfl))) ?_
          exact zF
        clear hLo
        intro G a13 w13 hS hH
        have HS13 : Sl a13 47 [(0, .agg (FR () 6 ((t).sc))), (1, .pointer (some ⟨g1_0, 0, none⟩)), (8, .slice ((t).xm) ((t).ml) ((t).cm)), (9, .int .i64 (((t).ml : Int))), (10, .int .i64 ((i : Int))), (11, .bool true), (4, .pointer (some ⟨g11_3, 0, none⟩)), (3, .int .i64 ((i : Int))), (34, .bool true), (2, .bool false)] := hS
        have HH13 : Held w w13 [⟨g1_0, (), 6, (t).sc, 25⟩, ⟨g11_3, (), 7, msc ((t).key (i)) ((t).mem (i)), 44⟩] := hH
        clear hS hH HS12 HH12
        refine then_ ?_
        refine wp_ret ?_
        repeat (first | refine zR ?_ | refine zK ?_)
        exact b_tmp rfl HS13.2.1 (HS13.get 9 rfl) ⟨rises_no1 hIn hlt (pM_first hr4 hr5), HH13.1⟩
      · skip
        refine wp_cond_false (HS12.get 8 rfl) ?_
        refine wp_skip ?_
        refine zQ ?_
        refine then_ ?_
        have hLo : LOk [(0, 35, .val (.int .i64 (((i + 1 : Nat) : Int)))), (1, 10, .val (.int .i64 (((i + 1 : Nat) : Int))))] := lok (by rfl) (by rfl)
        refine zH (wE := w) (sz := 47) (n := 2) [0, 1] [(0, .val (.agg (FR () 6 ((t).sc)))), (1, .val (.pointer (some ⟨g1_0, 0, none⟩))), (8, .val (.slice ((t).xm) ((t).ml) ((t).cm))), (9, .val (.int .i64 (((t).ml : Int)))), (11, .val (.bool true)), (4, .val (.pointer (some ⟨g11_3, 0, none⟩))), (3, .val (.int .i64 ((i : Int)))), (34, .val (.bool false)), (10, .val (.int .i64 (((i + 1 : Nat) : Int))))] [(0, 35, .val (.int .i64 (((i + 1 : Nat) : Int)))), (1, 10, .val (.int .i64 (((i + 1 : Nat) : Int))))] [⟨g1_0, none, none, (), 6, (t).sc, (t).sc, 25⟩, ⟨g11_3, none, none, (), 7, msc ((t).key (i)) ((t).mem (i)), msc ((t).key (i)) ((t).mem (i)), 44⟩] rfl (by rfl) HH12 rfl rfl hLo rfl HS12 (slS 0 rfl rfl (slS 1 rfl rfl (slS 2 rfl rfl (slS 3 rfl rfl (slS 5 rfl rfl (slS 6 rfl rfl (slS 7 rfl rfl (slS 8 rfl rfl (slL 1 (d := 1) rfl (trivial)))))))))) ?_ ?_
        · show ∀ i ∈ [0, 1], _
          refine zA (zB 0 _ rfl rfl hLo rfl rfl (fun _ _ _ _ => rfl) (fun b G w hb ho => zI rfl (ev_pre hLo 1 rfl (ho 1 (by rfl)) (HS12.get 4 rfl)) (rfl) (rb_add (w_nat (by omega) (by omega)) _ _ _))) ?_
          refine zA (zB 1 _ rfl rfl hLo rfl rfl (fun _ _ _ _ => rfl) (fun b G w hb ho => zD (.inl rfl) (zC hLo 0 rfl HS12.1 rfl (hb 0 (by rfl))))) ?_
          exact zF
        clear hLo
        intro G a14 w14 hS hH
        have HS14 : Sl a14 47 [(0, .agg (FR () 6 ((t).sc))), (1, .pointer (some ⟨g1_0, 0, none⟩)), (8, .slice ((t).xm) ((t).ml) ((t).cm)), (9, .int .i64 (((t).ml : Int))), (11, .bool true), (4, .pointer (some ⟨g11_3, 0, none⟩)), (3, .int .i64 ((i : Int))), (34, .bool false), (10, .int .i64 (((i + 1 : Nat) : Int)))] := hS
        have HH14 : Held w w14 [⟨g1_0, (), 6, (t).sc, 25⟩, ⟨g11_3, (), 7, msc ((t).key (i)) ((t).mem (i)), 44⟩] := hH
        clear hS hH HS12 HH12
        refine then_ ?_
        have hSq0' : Sl _ 47 [(0, .agg (FR () 6 ((t).sc))), (1, .pointer (some ⟨g1_0, 0, none⟩)), (8, .slice ((t).xm) ((t).ml) ((t).cm)), (9, .int .i64 (((t).ml : Int))), (10, .int .i64 (((i + 1 : Nat) : Int)))] := yA HS14 [0, 1, 2, 3, 8] (by rfl)
        have hHq0' : Held w _ [⟨g1_0, (), 6, (t).sc, 25⟩] := yD HH14 1 rfl
        exact ⟨⟨i + 1, by omega, allB_step hpi (pM_first hr4 hr5), hSq0', hHq0'⟩, by rw [(hSq0'.get 4 rfl)]; show t.ml - (((i + 1 : Nat) : Int)).toNat < t.ml - i; omega⟩
    · skip
      have hpos : 0 < i := by have := of_decide_eq_true hr4; omega
      obtain ⟨⟨a2, hx2, hk2, hv2⟩, _, hn2⟩ := (hIn).mems (i := i - 1) (by omega)
      obtain ⟨r6, hr6⟩ : ∃ r : Bool, (!decide (cmpB (bl ((t).key (i - 1))) (bl ((t).key (i))) < 0)) = r := ⟨_, rfl⟩
      cases r6
      · skip
        obtain ⟨⟨a3, hx3, hk3, hv3⟩, _, hn3⟩ := (hIn).mems (i := i - 1) (by omega)
        obtain ⟨r7, hr7⟩ : ∃ r : Bool, (risesB (t.mem i)) = r := ⟨_, rfl⟩
        refine wp_seq ?_
        have hLo : LOk [(0, 15, .val (.int .i64 ((i : Int)))), (1, 16, .val (.bool true)), (2, 17, .val (.bool true)), (3, 18, .val (.pointer (some ⟨g1_0, 5, none⟩))), (4, 19, .val (.slice ((t).xm) ((t).ml) ((t).cm))), (5, 20, .val (.int .i64 ((i : Int)))), (6, 21, .val (.int .i64 (((i - 1 : Nat) : Int)))), (7, 22, .val (.pointer (some (a3.add ((i - 1) * 7))))), (8, 23, .val (.pointer (some (a3.add ((i - 1) * 7))))), (9, 24, .val (.string ((t).key (i - 1)))), (10, 25, .val (.pointer (some ⟨g11_3, 0, none⟩))), (11, 26, .val (.string ((t).key (i)))), (12, 27, .val (.bool false)), (13, 28, .val (.bool false)), (14, 29, .val (.bool false)), (15, 30, .val (.pointer (some ⟨g11_3, 1, none⟩))), (16, 31, .val (.agg (FR () 6 (((t).mem (i)).sc)))), (17, 32, .val (.bool r7)), (18, 33, .val (.bool (!r7))), (19, 34, .val (.bool (!r7)))] := lok (by rfl) (by rfl)
        refine region_ (wE := w) (sz := 47) (n := 20) (B := [0, 1, 3, 7, 15, 7, 39, 127, 255, 511, 7, 1031, 4095, 8191, 16383, 32767, 65535, 131071, 262143, 524287]) [0, 1, 2, 3, 4, 5, 6, 7, 8, 9, 10, 11, 12, 13, 14, 15, 16, 17, 18, 19] [(0, .val (.agg (FR () 6 ((t).sc)))), (1, .val (.pointer (some ⟨g1_0, 0, none⟩))), (8, .val (.slice ((t).xm) ((t).ml) ((t).cm))), (9, .val (.int .i64 (((t).ml : Int)))), (10, .val (.int .i64 ((i : Int)))), (11, .val (.bool true)), (4, .val (.pointer (some ⟨g11_3, 0, none⟩))), (3, .val (.int .i64 ((i : Int)))), (34, .val (.bool (!r7)))] [(0, 15, .val (.int .i64 ((i : Int)))), (1, 16, .val (.bool true)), (2, 17, .val (.bool true)), (3, 18, .val (.pointer (some ⟨g1_0, 5, none⟩))), (4, 19, .val (.slice ((t).xm) ((t).ml) ((t).cm))), (5, 20, .val (.int .i64 ((i : Int)))), (6, 21, .val (.int .i64 (((i - 1 : Nat) : Int)))), (7, 22, .val (.pointer (some (a3.add ((i - 1) * 7))))), (8, 23, .val (.pointer (some (a3.add ((i - 1) * 7))))), (9, 24, .val (.string ((t).key (i - 1)))), (10, 25, .val (.pointer (some ⟨g11_3, 0, none⟩))), (11, 26, .val (.string ((t).key (i)))), (12, 27, .val (.bool false)), (13, 28, .val (.bool false)), (14, 29, .val (.bool false)), (15, 30, .val (.pointer (some ⟨g11_3, 1, none⟩))), (16, 31, .val (.agg (FR () 6 (((t).mem (i)).sc)))), (17, 32, .val (.bool r7)), (18, 33, .val (.bool (!r7))), (19, 34, .val (.bool (!r7)))] [⟨g1_0, none, none, (), 6, (t).sc, (t).sc, 25⟩, ⟨g11_3, none, none, (), 7, msc ((t).key (i)) ((t).mem (i)), msc ((t).key (i)) ((t).mem (i)), 44⟩] (by rfl) rfl tabris_4 bitsris_4 (by kernel_rfl) (by kernel_rfl) HH11 rfl rfl hLo rfl HS11 (slS 0 rfl rfl (slS 1 rfl rfl (slS 2 rfl rfl (slS 3 rfl rfl (slS 4 rfl rfl (slS 5 rfl rfl (slS 6 rfl rfl (slS 7 rfl rfl (slL 19 (d := 19) rfl (trivial)))))))))) ?_ ?_
        · show ∀ i ∈ [0, 1, 2, 3, 4, 5, 6, 7, 8, 9, 10, 11, 12, 13, 14, 15, 16, 17, 18, 19], _
          refine zA (zB 0 _ rfl rfl hLo rfl rfl (fun _ _ _ _ => rfl) (fun b G w hb ho => zD (.inl rfl) (zG rfl (HS11.get 7 rfl)))) ?_
          refine zA (zB 1 _ rfl rfl hLo rfl rfl (fun _ _ _ _ => rfl) (fun b G w hb ho => zI rfl (zC hLo 0 rfl HS11.1 rfl (hb 0 (by rfl))) (rfl) (rb_gtr hr4 _ _ _))) ?_
          refine zA (zB 2 _ rfl rfl hLo rfl rfl (fun _ _ _ _ => rfl) (fun b G w hb ho => zD (.inl rfl) (zC hLo 1 rfl HS11.1 rfl (hb 1 (by rfl))))) ?_
          refine zA (zB 3 _ rfl rfl hLo rfl rfl (fun b G hb ho => zE rfl rfl rfl HS11.1 rfl (zC hLo 2 rfl HS11.1 rfl (hb 2 (by rfl))) rfl) (fun b G w hb ho => zJ rfl (zG rfl (HS11.get 1 rfl)) (by kernel_rfl))) ?_
          refine zA (zW 4 0 _ _ rfl rfl rfl hLo rfl rfl (fun b G hb ho => zE rfl rfl rfl HS11.1 rfl (zC hLo 2 rfl HS11.1 rfl (hb 2 (by rfl))) rfl) (by rfl) (by rfl) (fun b G w hb ho hr => zP hr (Nat.le_of_ble_eq_true rfl) Tryd.underlying23 rfl rfl (zC hLo 3 rfl HS11.1 rfl (hb 3 (by rfl))))) ?_
          refine zA (zB 5 _ rfl rfl hLo rfl rfl (fun b G hb ho => zE rfl rfl rfl HS11.1 rfl (zC hLo 2 rfl HS11.1 rfl (hb 2 (by rfl))) rfl) (fun b G w hb ho => zD (.inl rfl) (zG rfl (HS11.get 7 rfl)))) ?_
          refine zA (zB 6 _ rfl rfl hLo rfl rfl (fun b G hb ho => zE rfl rfl rfl HS11.1 rfl (zC hLo 2 rfl HS11.1 rfl (hb 2 (by rfl))) rfl) (fun b G w hb ho => zI rfl (zC hLo 5 rfl HS11.1 rfl (hb 5 (by rfl))) (rfl) (rb_sub (w_nat (by omega) (by omega)) _ _ _))) ?_
          refine zA (zB 7 _ rfl rfl hLo rfl rfl (fun b G hb ho => zE rfl rfl rfl HS11.1 rfl (zC hLo 2 rfl HS11.1 rfl (hb 2 (by rfl))) rfl) (fun b G w hb ho => zU rfl (zC hLo 4 rfl HS11.1 rfl (hb 4 (by rfl))) (zC hLo 6 rfl HS11.1 rfl (hb 6 (by rfl))) (index_sl Tryd.underlying23 (by kernel_rfl) hx3 (by omega) _))) ?_
          refine zA (zB 8 _ rfl rfl hLo rfl rfl (fun b G hb ho => zE rfl rfl rfl HS11.1 rfl (zC hLo 2 rfl HS11.1 rfl (hb 2 (by rfl))) rfl) (fun b G w hb ho => zJ rfl (zC hLo 7 rfl HS11.1 rfl (hb 7 (by rfl))) (by kernel_rfl))) ?_
          refine zA (st_at1 9 (a3.add ((i - 1) * 7)) _ rfl rfl rfl (fun b G hb ho => zE rfl rfl rfl HS11.1 rfl (zC hLo 2 rfl HS11.1 rfl (hb 2 (by rfl))) rfl) hLo rfl rfl Tryd.underlying9 rfl (hk3) (fun b G hb ho => zC hLo 8 rfl HS11.1 rfl (hb 8 (by rfl)))) ?_
          refine zA (zB 10 _ rfl rfl hLo rfl rfl (fun b G hb ho => zE rfl rfl rfl HS11.1 rfl (zC hLo 2 rfl HS11.1 rfl (hb 2 (by rfl))) rfl) (fun b G w hb ho => zJ rfl (zG rfl (HS11.get 6 rfl)) (by kernel_rfl))) ?_
          refine zA (zW 11 1 _ _ rfl rfl rfl hLo rfl rfl (fun b G hb ho => zE rfl rfl rfl HS11.1 rfl (zC hLo 2 rfl HS11.1 rfl (hb 2 (by rfl))) rfl) (by rfl) (by rfl) (fun b G w hb ho hr => zP hr (Nat.le_of_ble_eq_true rfl) Tryd.underlying9 rfl rfl (zC hLo 10 rfl HS11.1 rfl (hb 10 (by rfl))))) ?_
          refine zA (zB 12 _ rfl rfl hLo rfl rfl (fun b G hb ho => zE rfl rfl rfl HS11.1 rfl (zC hLo 2 rfl HS11.1 rfl (hb 2 (by rfl))) rfl) (fun b G w hb ho => zI rfl (zC hLo 9 rfl HS11.1 rfl (hb 9 (by rfl))) (zC hLo 11 rfl HS11.1 rfl (hb 11 (by rfl))) (rb_sgeq hr6 _ _ _))) ?_
          refine zA (zB 13 _ rfl rfl hLo rfl rfl (fun _ _ _ _ => rfl) (fun b G w hb ho => zL rfl (zC hLo 2 rfl HS11.1 rfl (hb 2 (by rfl))) (zC hLo 12 rfl HS11.1 rfl (hb 12 (by rfl))))) ?_
          refine zA (zB 14 _ rfl rfl hLo rfl rfl (fun _ _ _ _ => rfl) (fun b G w hb ho => zD (.inl rfl) (zC hLo 13 rfl HS11.1 rfl (hb 13 (by rfl))))) ?_
          refine zA (zB 15 _ rfl rfl hLo rfl rfl (fun b G hb ho => zE rfl rfl rfl HS11.1 rfl (zC hLo 14 rfl HS11.1 rfl (hb 14 (by rfl))) rfl) (fun b G w hb ho => zJ rfl (zG rfl (HS11.get 6 rfl)) (by kernel_rfl))) ?_
          refine zA (st_load0 16 1 _ 1 6 rfl rfl rfl rfl (fun b G hb ho => zE rfl rfl rfl HS11.1 rfl (zC hLo 14 rfl HS11.1 rfl (hb 14 (by rfl))) rfl) hLo rfl rfl rfl (by rfl) (Nat.le_of_ble_eq_true rfl) Tryd.underlying25 (by kernel_rfl) rfl (fun b G hb ho => zC hLo 15 rfl HS11.1 rfl (hb 15 (by rfl)))) ?_
          refine zA (yB 17 _ #[.agg (FR () 6 (((t).mem (i)).sc))] rfl rfl rfl (fun b G hb ho => zE rfl rfl rfl HS11.1 rfl (zC hLo 14 rfl HS11.1 rfl (hb 14 (by rfl))) rfl) hLo rfl rfl Tryd.func29 rfl rfl (fun b G hb ho => args1 (zC hLo 16 rfl HS11.1 rfl (hb 16 (by rfl)))) (fun w hw => (by have hq := ihM i (by omega) _ ((hIn.mems (i := i) (by omega)).2.2.below hw); rw [hr7] at hq; exact hq))) ?_
          refine zA (zB 18 _ rfl rfl hLo rfl rfl (fun b G hb ho => zE rfl rfl rfl HS11.1 rfl (zC hLo 14 rfl HS11.1 rfl (hb 14 (by rfl))) rfl) (fun b G w hb ho => exec_un rfl (zC hLo 17 rfl HS11.1 rfl (hb 17 (by rfl))) (ru_not _))) ?_
          refine zA (zB 19 _ rfl rfl hLo rfl rfl (fun _ _ _ _ => rfl) (fun b G w hb ho => zL rfl (zC hLo 14 rfl HS11.1 rfl (hb 14 (by rfl))) (zC hLo 18 rfl HS11.1 rfl (hb 18 (by rfl))))) ?_
          exact zF
        clear hLo
        intro G a15 w15 hS hH
        have HS15 : Sl a15 47 [(0, .agg (FR () 6 ((t).sc))), (1, .pointer (some ⟨g1_0, 0, none⟩)), (8, .slice ((t).xm) ((t).ml) ((t).cm)), (9, .int .i64 (((t).ml : Int))), (10, .int .i64 ((i : Int))), (11, .bool true), (4, .pointer (some ⟨g11_3, 0, none⟩)), (3, .int .i64 ((i : Int))), (34, .bool (!r7))] := hS
        have HH15 : Held w w15 [⟨g1_0, (), 6, (t).sc, 25⟩, ⟨g11_3, (), 7, msc ((t).key (i)) ((t).mem (i)), 44⟩] := hH
        clear hS hH HS11 HH11
        refine then_ ?_
        cases r7
        · skip
          refine wp_cond_true (HS15.get 8 rfl) ?_
          refine wp_seq ?_
          have hLo : LOk [(0, 2, .val (.bool false))] := lok (by rfl) (by rfl)
          refine zH (wE := w) (sz := 47) (n := 1) [0] [(0, .val (.agg (FR () 6 ((t).sc)))), (1, .val (.pointer (some ⟨g1_0, 0, none⟩))), (8, .val (.slice ((t).xm) ((t).ml) ((t).cm))), (9, .val (.int .i64 (((t).ml : Int)))), (10, .val (.int .i64 ((i : Int)))), (11, .val (.bool true)), (4, .val (.pointer (some ⟨g11_3, 0, none⟩))), (3, .val (.int .i64 ((i : Int)))), (34, .val (.bool true)), (2, .val (.bool false))] [(0, 2, .val (.bool false))] [⟨g1_0, none, none, (), 6, (t).sc, (t).sc, 25⟩, ⟨g11_3, none, none, (), 7, msc ((t).key (i)) ((t).mem (i)), msc ((t).key (i)) ((t).mem (i)), 44⟩] rfl (by rfl) HH15 rfl rfl hLo rfl HS15 (slS 0 rfl rfl (slS 1 rfl rfl (slS 2 rfl rfl (slS 3 rfl rfl (slS 4 rfl rfl (slS 5 rfl rfl (slS 6 rfl rfl (slS 7 rfl rfl (slS 8 rfl rfl (slL 0 (d := 0) rfl (trivial))))))))))) ?_ ?_
          · show ∀ i ∈ [0], _
            refine zA (zB 0 _ rfl rfl hLo rfl rfl (fun _ _ _ _ => rfl) (fun b G w hb ho => zD (.inr rfl) (rfl))) ?_
            exact zF
          clear hLo
          intro G a16 w16 hS hH
          have HS16 : Sl a16 47 [(0, .agg (FR () 6 ((t).sc))), (1, .pointer (some ⟨g1_0, 0, none⟩)), (8, .slice ((t).xm) ((t).ml) ((t).cm)), (9, .int .i64 (((t).ml : Int))), (10, .int .i64 ((i : Int))), (11, .bool true), (4, .pointer (some ⟨g11_3, 0, none⟩)), (3, .int .i64 ((i : Int))), (34, .bool true), (2, .bool false)] := hS
          have HH16 : Held w w16 [⟨g1_0, (), 6, (t).sc, 25⟩, ⟨g11_3, (), 7, msc ((t).key (i)) ((t).mem (i)), 44⟩] := hH
          clear hS hH HS15 HH15
          refine then_ ?_
          refine wp_ret ?_
          repeat (first | refine zR ?_ | refine zK ?_)
          exact b_tmp rfl HS16.2.1 (HS16.get 9 rfl) ⟨rises_no1 hIn hlt (pM_next hr4 hr6 hr7), HH16.1⟩
        · skip
          refine wp_cond_false (HS15.get 8 rfl) ?_
          refine wp_skip ?_
          refine zQ ?_
          refine then_ ?_
          have hLo : LOk [(0, 35, .val (.int .i64 (((i + 1 : Nat) : Int)))), (1, 10, .val (.int .i64 (((i + 1 : Nat) : Int))))] := lok (by rfl) (by rfl)
          refine zH (wE := w) (sz := 47) (n := 2) [0, 1] [(0, .val (.agg (FR () 6 ((t).sc)))), (1, .val (.pointer (some ⟨g1_0, 0, none⟩))), (8, .val (.slice ((t).xm) ((t).ml) ((t).cm))), (9, .val (.int .i64 (((t).ml : Int)))), (11, .val (.bool true)), (4, .val (.pointer (some ⟨g11_3, 0, none⟩))), (3, .val (.int .i64 ((i : Int)))), (34, .val (.bool false)), (10, .val (.int .i64 (((i + 1 : Nat) : Int))))] [(0, 35, .val (.int .i64 (((i + 1 : Nat) : Int)))), (1, 10, .val (.int .i64 (((i + 1 : Nat) : Int))))] [⟨g1_0, none, none, (), 6, (t).sc, (t).sc, 25⟩, ⟨g11_3, none, none, (), 7, msc ((t).key (i)) ((t).mem (i)), msc ((t).key (i)) ((t).mem (i)), 44⟩] rfl (by rfl) HH15 rfl rfl hLo rfl HS15 (slS 0 rfl rfl (slS 1 rfl rfl (slS 2 rfl rfl (slS 3 rfl rfl (slS 5 rfl rfl (slS 6 rfl rfl (slS 7 rfl rfl (slS 8 rfl rfl (slL 1 (d := 1) rfl (trivial)))))))))) ?_ ?_
          · show ∀ i ∈ [0, 1], _
            refine zA (zB 0 _ rfl rfl hLo rfl rfl (fun _ _ _ _ => rfl) (fun b G w hb ho => zI rfl (ev_pre hLo 1 rfl (ho 1 (by rfl)) (HS15.get 4 rfl)) (rfl) (rb_add (w_nat (by omega) (by omega)) _ _ _))) ?_
            refine zA (zB 1 _ rfl rfl hLo rfl rfl (fun _ _ _ _ => rfl) (fun b G w hb ho => zD (.inl rfl) (zC hLo 0 rfl HS15.1 rfl (hb 0 (by rfl))))) ?_
            exact zF
          clear hLo
          intro G a17 w17 hS hH
          have HS17 : Sl a17 47 [(0, .agg (FR () 6 ((t).sc))), (1, .pointer (some ⟨g1_0, 0, none⟩)), (8, .slice ((t).xm) ((t).ml) ((t).cm)), (9, .int .i64 (((t).ml : Int))), (11, .bool true), (4, .pointer (some ⟨g11_3, 0, none⟩)), (3, .int .i64 ((i : Int))), (34, .bool false), (10, .int .i64 (((i + 1 : Nat) : Int)))] := hS
          have HH17 : Held w w17 [⟨g1_0, (), 6, (t).sc, 25⟩, ⟨g11_3, (), 7, msc ((t).key (i)) ((t).mem (i)), 44⟩] := hH
          clear hS hH HS15 HH15
          refine then_ ?_
          have hSq0' : Sl _ 47 [(0, .agg (FR () 6 ((t).sc))), (1, .pointer (some ⟨g1_0, 0, none⟩)), (8, .slice ((t).xm) ((t).ml) ((t).cm)), (9, .int .i64 (((t).ml : Int))), (10, .int .i64 (((i + 1 : Nat) : Int)))] := yA HS17 [0, 1, 2, 3, 8] (by rfl)
          have hHq0' : Held w _ [⟨g1_0, (), 6, (t).sc, 25⟩] := yD HH17 1 rfl
          exact ⟨⟨i + 1, by omega, allB_step hpi (pM_next hr4 hr6 hr7), hSq0', hHq0'⟩, by rw [(hSq0'.get 4 rfl)]; show t.ml - (((i + 1 : Nat) : Int)).toNat < t.ml - i; omega⟩
      · skip
        obtain ⟨⟨a4, hx4, hk4, hv4⟩, _, hn4⟩ := (hIn).mems (i := i - 1) (by omega)
        refine wp_seq ?_
        have hLo : LOk [(0, 15, .val (.int .i64 ((i : Int)))), (1, 16, .val (.bool true)), (2, 17, .val (.bool true)), (3, 18, .val (.pointer (some ⟨g1_0, 5, none⟩))), (4, 19, .val (.slice ((t).xm) ((t).ml) ((t).cm))), (5, 20, .val (.int .i64 ((i : Int)))), (6, 21, .val (.int .i64 (((i - 1 : Nat) : Int)))), (7, 22, .val (.pointer (some (a4.add ((i - 1) * 7))))), (8, 23, .val (.pointer (some (a4.add ((i - 1) * 7))))), (9, 24, .val (.string ((t).key (i - 1)))), (10, 25, .val (.pointer (some ⟨g11_3, 0, none⟩))), (11, 26, .val (.string ((t).key (i)))), (12, 27, .val (.bool true)), (13, 28, .val (.bool true)), (14, 29, .val (.bool true)), (15, 30, .val (undef)), (16, 31, .val (undef)), (17, 32, .val (undef)), (18, 33, .val (undef)), (19, 34, .val (.bool true))] := lok (by rfl) (by rfl)
        refine region_ (wE := w) (sz := 47) (n := 20) (B := [0, 1, 3, 7, 15, 7, 39, 127, 255, 511, 7, 1031, 4095, 8191, 16383, 32767, 65535, 131071, 262143, 524287]) [0, 1, 2, 3, 4, 5, 6, 7, 8, 9, 10, 11, 12, 13, 14, 15, 16, 17, 18, 19] [(0, .val (.agg (FR () 6 ((t).sc)))), (1, .val (.pointer (some ⟨g1_0, 0, none⟩))), (8, .val (.slice ((t).xm) ((t).ml) ((t).cm))), (9, .val (.int .i64 (((t).ml : Int)))), (10, .val (.int .i64 ((i : Int)))), (11, .val (.bool true)), (4, .val (.pointer (some ⟨g11_3, 0, none⟩))), (3, .val (.int .i64 ((i : Int)))), (34, .val (.bool true))] [(0, 15, .val (.int .i64 ((i : Int)))), (1, 16, .val (.bool true)), (2, 17, .val (.bool true)), (3, 18, .val (.pointer (some ⟨g1_0, 5, none⟩))), (4, 19, .val (.slice ((t).xm) ((t).ml) ((t).cm))), (5, 20, .val (.int .i64 ((i : Int)))), (6, 21, .val (.int .i64 (((i - 1 : Nat) : Int)))), (7, 22, .val (.pointer (some (a4.add ((i - 1) * 7))))), (8, 23, .val (.pointer (some (a4.add ((i - 1) * 7))))), (9, 24, .val (.string ((t).key (i - 1)))), (10, 25, .val (.pointer (some ⟨g11_3, 0, none⟩))), (11, 26, .val (.string ((t).key (i)))), (12, 27, .val (.bool true)), (13, 28, .val (.bool true)), (14, 29, .val (.bool true)), (15, 30, .val (undef)), (16, 31, .val (undef)), (17, 32, .val (undef)), (18, 33, .val (undef)), (19, 34, .val (.bool true))] [⟨g1_0, none, none, (), 6, (t).sc, (t).sc, 25⟩, ⟨g11_3, none, none, (), 7, msc ((t).key (i)) ((t).mem (i)), msc ((t).key (i)) ((t).mem (i)), 44⟩] (by rfl) rfl tabris_4 bitsris_4 (by kernel_rfl) (by kernel_rfl) HH11 rfl rfl hLo rfl HS11 (slS 0 rfl rfl (slS 1 rfl rfl (slS 2 rfl rfl (slS 3 rfl rfl (slS 4 rfl rfl (slS 5 rfl rfl (slS 6 rfl rfl (slS 7 rfl rfl (slL 19 (d := 19) rfl (trivial)))))))))) ?_ ?_
        · show ∀ i ∈ [0, 1, 2, 3, 4, 5, 6, 7, 8, 9, 10, 11, 12, 13, 14, 15, 16, 17, 18, 19], _
          refine zA (zB 0 _ rfl rfl hLo rfl rfl (fun _ _ _ _ => rfl) (fun b G w hb ho => zD (.inl rfl) (zG rfl (HS11.get 7 rfl)))) ?_
          refine zA (zB 1 _ rfl rfl hLo rfl rfl (fun _ _ _ _ => rfl) (fun b G w hb ho => zI rfl (zC hLo 0 rfl HS11.1 rfl (hb 0 (by rfl))) (rfl) (rb_gtr hr4 _ _ _))) ?_
          refine zA (zB 2 _ rfl rfl hLo rfl rfl (fun _ _ _ _ => rfl) (fun b G w hb ho => zD (.inl rfl) (zC hLo 1 rfl HS11.1 rfl (hb 1 (by rfl))))) ?_
          refine zA (zB 3 _ rfl rfl hLo rfl rfl (fun b G hb ho => zE rfl rfl rfl HS11.1 rfl (zC hLo 2 rfl HS11.1 rfl (hb 2 (by rfl))) rfl) (fun b G w hb ho => zJ rfl (zG rfl (HS11.get 1 rfl)) (by kernel_rfl))) ?_
          refine zA (zW 4 0 _ _ rfl rfl rfl hLo rfl rfl (fun b G hb ho => zE rfl rfl rfl HS11.1 rfl (zC hLo 2 rfl HS11.1 rfl (hb 2 (by rfl))) rfl) (by rfl) (by rfl) (fun b G w hb ho hr => zP hr (Nat.le_of_ble_eq_true rfl) Tryd.underlying23 rfl rfl (zC hLo 3 rfl HS11.1 rfl (hb 3 (by rfl))))) ?_
          refine zA (zB 5 _ rfl rfl hLo rfl rfl (fun b G hb ho => zE rfl rfl rfl HS11.1 rfl (zC hLo 2 rfl HS11.1 rfl (hb 2 (by rfl))) rfl) (fun b G w hb ho => zD (.inl rfl) (zG rfl (HS11.get 7 rfl)))) ?_
          refine zA (zB 6 _ rfl rfl hLo rfl rfl (fun b G hb ho => zE rfl rfl rfl HS11.1 rfl (zC hLo 2 rfl HS11.1 rfl (hb 2 (by rfl))) rfl) (fun b G w hb ho => zI rfl (zC hLo 5 rfl HS11.1 rfl (hb 5 (by rfl))) (rfl) (rb_sub (w_nat (by omega) (by omega)) _ _ _))) ?_
          refine zA (zB 7 _ rfl rfl hLo rfl rfl (fun b G hb ho => zE rfl rfl rfl HS11.1 rfl (zC hLo 2 rfl HS11.1 rfl (hb 2 (by rfl))) rfl) (fun b G w hb ho => zU rfl (zC hLo 4 rfl HS11.1 rfl (hb 4 (by rfl))) (zC hLo 6 rfl HS11.1 rfl (hb 6 (by rfl))) (index_sl Tryd.underlying23 (by kernel_rfl) hx4 (by omega) _))) ?_
          refine zA (zB 8 _ rfl rfl hLo rfl rfl (fun b G hb ho => zE rfl rfl rfl HS11.1 rfl (zC hLo 2 rfl HS11.1 rfl (hb 2 (by rfl))) rfl) (fun b G w hb ho => zJ rfl (zC hLo 7 rfl HS11.1 rfl (hb 7 (by rfl))) (by kernel_rfl))) ?_
          refine zA (st_at1 9 (a4.add ((i - 1) * 7)) _ rfl rfl rfl (fun b G hb ho => zE rfl rfl rfl HS11.1 rfl (zC hLo 2 rfl HS11.1 rfl (hb 2 (by rfl))) rfl) hLo rfl rfl Tryd.underlying9 rfl (hk4) (fun b G hb ho => zC hLo 8 rfl HS11.1 rfl (hb 8 (by rfl)))) ?_
          refine zA (zB 10 _ rfl rfl hLo rfl rfl (fun b G hb ho => zE rfl rfl rfl HS11.1 rfl (zC hLo 2 rfl HS11.1 rfl (hb 2 (by rfl))) rfl) (fun b G w hb ho => zJ rfl (zG rfl (HS11.get 6 rfl)) (by kernel_rfl))) ?_
          refine zA (zW 11 1 _ _ rfl rfl rfl hLo rfl rfl (fun b G hb ho => zE rfl rfl rfl HS11.1 rfl (zC hLo 2 rfl HS11.1 rfl (hb 2 (by rfl))) rfl) (by rfl) (by rfl) (fun b G w hb ho hr => zP hr (Nat.le_of_ble_eq_true rfl) Tryd.underlying9 rfl rfl (zC hLo 10 rfl HS11.1 rfl (hb 10 (by rfl))))) ?_
          refine zA (zB 12 _ rfl rfl hLo rfl rfl (fun b G hb ho => zE rfl rfl rfl HS11.1 rfl (zC hLo 2 rfl HS11.1 rfl (hb 2 (by rfl))) rfl) (fun b G w hb ho => zI rfl (zC hLo 9 rfl HS11.1 rfl (hb 9 (by rfl))) (zC hLo 11 rfl HS11.1 rfl (hb 11 (by rfl))) (rb_sgeq hr6 _ _ _))) ?_
          refine zA (zB 13 _ rfl rfl hLo rfl rfl (fun _ _ _ _ => rfl) (fun b G w hb ho => zL rfl (zC hLo 2 rfl HS11.1 rfl (hb 2 (by rfl))) (zC hLo 12 rfl HS11.1 rfl (hb 12 (by rfl))))) ?_
          refine zA (zB 14 _ rfl rfl hLo rfl rfl (fun _ _ _ _ => rfl) (fun b G w hb ho => zD (.inl rfl) (zC hLo 13 rfl HS11.1 rfl (hb 13 (by rfl))))) ?_
          refine zA (zN 15 rfl rfl hLo rfl rfl (fun b G hb ho => zE rfl rfl rfl HS11.1 rfl (zC hLo 14 rfl HS11.1 rfl (hb 14 (by rfl))) rfl)) ?_
          refine zA (zN 16 rfl rfl hLo rfl rfl (fun b G hb ho => zE rfl rfl rfl HS11.1 rfl (zC hLo 14 rfl HS11.1 rfl (hb 14 (by rfl))) rfl)) ?_
          refine zA (zN 17 rfl rfl hLo rfl rfl (fun b G hb ho => zE rfl rfl rfl HS11.1 rfl (zC hLo 14 rfl HS11.1 rfl (hb 14 (by rfl))) rfl)) ?_
          refine zA (zN 18 rfl rfl hLo rfl rfl (fun b G hb ho => zE rfl rfl rfl HS11.1 rfl (zC hLo 14 rfl HS11.1 rfl (hb 14 (by rfl))) rfl)) ?_
          refine zA (zB 19 _ rfl rfl hLo rfl rfl (fun _ _ _ _ => rfl) (fun b G w hb ho => zL rfl (zC hLo 14 rfl HS11.1 rfl (hb 14 (by rfl))) (rfl))) ?_
          exact zF
        clear hLo
        intro G a18 w18 hS hH
        have HS18 : Sl a18 47 [(0, .agg (FR () 6 ((t).sc))), (1, .pointer (some ⟨g1_0, 0, none⟩)), (8, .slice ((t).xm) ((t).ml) ((t).cm)), (9, .int .i64 (((t).ml : Int))), (10, .int .i64 ((i : Int))), (11, .bool true), (4, .pointer (some ⟨g11_3, 0, none⟩)), (3, .int .i64 ((i : Int))), (34, .bool true)] := hS
        have HH18 : Held w w18 [⟨g1_0, (), 6, (t).sc, 25⟩, ⟨g11_3, (), 7, msc ((t).key (i)) ((t).mem (i)), 44⟩] := hH
        clear hS hH HS11 HH11
        refine then_ ?_
        refine wp_cond_true (HS18.get 8 rfl) ?_
        refine wp_seq ?_
        have hLo : LOk [(0, 2, .val (.bool false))] := lok (by rfl) (by rfl)
        refine zH (wE := w) (sz := 47) (n := 1) [0] [(0, .val (.agg (FR () 6 ((t).sc)))), (1, .val (.pointer (some ⟨g1_0, 0, none⟩))), (8, .val (.slice ((t).xm) ((t).ml) ((t).cm))), (9, .val (.int .i64 (((t).ml : Int)))), (10, .val (.int .i64 ((i : Int)))), (11, .val (.bool true)), (4, .val (.pointer (some ⟨g11_3, 0, none⟩))), (3, .val (.int .i64 ((i : Int)))), (34, .val (.bool true)), (2, .val (.bool false))] [(0, 2, .val (.bool false))] [⟨g1_0, none, none, (), 6, (t).sc, (t).sc, 25⟩, ⟨g11_3, none, none, (), 7, msc ((t).key (i)) ((t).mem (i)), msc ((t).key (i)) ((t).mem (i)), 44⟩] rfl (by rfl) HH18 rfl rfl hLo rfl HS18 (slS 0 rfl rfl (slS 1 rfl rfl (slS 2 rfl rfl (slS 3 rfl rfl (slS 4 rfl rfl (slS 5 rfl rfl (slS 6 rfl rfl (slS 7 rfl rfl (slS 8 rfl rfl (slL 0 (d := 0) rfl (trivial))))))))))) ?_ ?_
        · show ∀ i ∈ [0], _
          refine zA (zB 0 _ rfl rfl hLo rfl rfl (fun _ _ _ _ => rfl) (fun b G w hb ho => zD (.inr rfl) (rfl))) ?_
          exact zF
        clear hLo
        intro G a19 w19 hS hH
        have HS19 : Sl a19 47 [(0, .agg (FR () 6 ((t).sc))), (1, .pointer (some ⟨g1_0, 0, none⟩)), (8, .slice ((t).xm) ((t).ml) ((t).cm)), (9, .int .i64 (((t).ml : Int))), (10, .int .i64 ((i : Int))), (11, .bool true), (4, .pointer (some ⟨g11_3, 0, none⟩)), (3, .int .i64 ((i : Int))), (34, .bool true), (2, .bool false)] := hS
        have HH19 : Held w w19 [⟨g1_0, (), 6, (t).sc, 25⟩, ⟨g11_3, (), 7, msc ((t).key (i)) ((t).mem (i)), 44⟩] := hH
        clear hS hH HS18 HH18
        refine then_ ?_
        refine wp_ret ?_
        repeat (first | refine zR ?_ | refine zK ?_)
        exact b_tmp rfl HS19.2.1 (HS19.get 9 rfl) ⟨rises_no1 hIn hlt (pM_bad hr4 hr6), HH19.1⟩
theorem rises_calls : ∀ (t : T) (w : World), In w t → Calls Tryd.prog 29 #[t.val] w fun e w' => e = .returned (.bool (risesB t)) ∧ Below w.heap.size w w' :=
  T.rec2 (Q := fun t => ∀ w : World, In w t → Calls Tryd.prog 29 #[t.val] w fun e w' => e = .returned (.bool (risesB t)) ∧ Below w.heap.size w w') fun t ihM ihL w hIn => rises_step hIn ihM ihL
def stepL (t : T) (d : Int) (i : Nat) (x : Int) : Int := weigh (t.elm i) x (IntKind.i64.wrap (d - 1))
def stepM (t : T) (d : Int) (i : Nat) (x : Int) : Int := weigh (t.mem i) (IntKind.i64.wrap (x - (t.key i).size)) (IntKind.i64.wrap (d - 1))
def leftS (t : T) (left : Int) : Int := IntKind.i64.wrap (IntKind.i64.wrap (left - 1) - ((t).txt).size)
def leftL (t : T) (left d : Int) : Int := iterW (stepL t d) t.ll t.ll (leftS t left)
theorem weigh_ret {w : World} {t : T} (h : In w t) (left d : Int) (hd : ((d : Int) == 0) = false) {x : Int} (hx : x = iterW (stepM t d) t.ml t.ml (leftL t left d)) : Ending.returned (.int .i64 x) = .returned (.int .i64 (weigh t left d)) := by
  rw [weigh_eq h, if_neg (by simpa using hd), hx]; rfl
theorem weigh_ret0 {w : World} {t : T} (h : In w t) (left d : Int) (hd : ((d : Int) == 0) = true) : Ending.returned (.int .i64 (-1)) = .returned (.int .i64 (weigh t left d)) := by
  rw [weigh_eq h, if_pos (by simpa using hd)]
theorem it_end1 {f : Nat → Int → Int} {n i : Nat} {l r : Int} (h : iterW f n (n - i) l = r) (hi : ¬ i < n) : l = r := by
  rw [show n - i = 0 by omega] at h; exact h
theorem it_end2 {f : Nat → Int → Int} {n i : Nat} {l r : Int} (h : iterW f n (n - i) l = r) (hl : ¬ 0 ≤ l) : l = r := by
  rw [iterW_stop hl] at h; exact h
theorem it_next {f : Nat → Int → Int} {n i : Nat} {l r : Int} (h : iterW f n (n - i) l = r) (hi : i < n) (hl : 0 ≤ l) : iterW f n (n - (i + 1)) (f i l) = r := by
  rw [iterW_step hi hl] at h; exact h
theorem tabwgh_11 : rtab .any (opsOf Tryd.f28 11) = (true, [([], []), ([0], [0]), ([], []), ([1, 2], [1, 2]), ([3], [3]), ([4], [4]), ([], []), ([], []), ([7], [7]), ([], []), ([8, 9], [8, 9]), ([10], [10]), ([11], [11]), ([12], [12]), ([6, 13], [6, 13]), ([], []), ([15], [15]), ([5, 14, 16], [5, 14, 16]), ([17, 17, 0, 1, 2, 3, 4, 5, 6, 7, 8, 9, 10, 11, 12, 13, 14, 15, 16, 17], [6, 17])]) := by kernel_rfl
theorem bitswgh_11 : waitsOk [([], []), ([0], [0]), ([], []), ([1, 2], [1, 2]), ([3], [3]), ([4], [4]), ([], []), ([], []), ([7], [7]), ([], []), ([8, 9], [8, 9]), ([10], [10]), ([11], [11]), ([12], [12]), ([6, 13], [6, 13]), ([], []), ([15], [15]), ([5, 14, 16], [5, 14, 16]), ([17, 17, 0, 1, 2, 3, 4, 5, 6, 7, 8, 9, 10, 11, 12, 13, 14, 15, 16, 17], [6, 17])] [0, 1, 0, 7, 15, 31, 0, 0, 128, 0, 896, 1920, 3968, 8064, 16320, 0, 32768, 131071, 262143] = true := by kernel_rfl
theorem weigh_step {w : World} {t : T} (left d : Int) (hIn : In w t) (ihM : ∀ i, i < t.ml → ∀ w, In w (t.mem i) → ∀ left d, Calls Tryd.prog 28 #[(t.mem i).val, .int .i64 left, .int .i64 d] w fun e w' => e = .returned (.int .i64 (weigh (t.mem i) left d)) ∧ Below w.heap.size w w') (ihL : ∀ i, i < t.ll → ∀ w, In w (t.elm i) → ∀ left d, Calls Tryd.prog 28 #[(t.elm i).val, .int .i64 left, .int .i64 d] w fun e w' => e = .returned (.int .i64 (weigh (t.elm i) left d)) ∧ Below w.heap.size w w') : Calls Tryd.prog 28 #[.agg (FR () 6 ((t).sc)), .int .i64 (left), .int .i64 (d)] w fun e w' => e = .returned (.int .i64 (weigh t left d)) ∧ Below w.heap.size w w' := by
  have hb47 := hIn.own.2.2.2.2.1
  have hb48 := hIn.own.2.2.2.1
  unfold reach47 at hb47 hb48
  refine enter_ 67 Tryd.func28 rfl rfl (fun a0 hS => ?_)
  have HS0 : Sl a0 67 [(0, .agg (FR () 6 ((t).sc))), (1, .int .i64 (left)), (2, .int .i64 (d))] := hS
  have HH0 : Held w w [] := Held.first w
  clear hS
  refine wp_seq ?_
  have hLo : LOk [(0, 3, .new 0 (fun g => .pointer (some ⟨g, 0, none⟩))), (1, 6, .val (.int .i64 (0)))] := lok (by rfl) (by rfl)
  refine zH (wE := w) (sz := 67) (n := 2) [0, 1] [(0, .val (.agg (FR () 6 ((t).sc)))), (1, .val (.int .i64 (left))), (2, .val (.int .i64 (d))), (3, .new 0 (fun g => .pointer (some ⟨g, 0, none⟩))), (6, .val (.int .i64 (0)))] [(0, 3, .new 0 (fun g => .pointer (some ⟨g, 0, none⟩))), (1, 6, .val (.int .i64 (0)))] [⟨0, some 0, none, (), 6, (t).sc, (t).sc, 25⟩] rfl (by rfl) HH0 rfl rfl hLo rfl HS0 (slS 0 rfl rfl (slS 1 rfl rfl (slS 2 rfl rfl (slL 0 (d := 0) rfl (slL 1 (d := 1) rfl (trivial)))))) ?_ ?_
  · show ∀ i ∈ [0, 1], _
    refine zA (zZ 0 0 () 6 25 none _ _ rfl rfl (fun _ _ _ _ => rfl) rfl hLo rfl rfl rfl rfl (by rfl) (fun b G w hb ho => exec_box rfl (zG rfl (HS0.get 0 rfl)) (by kernel_rfl))) ?_
    refine zA (zB 1 _ rfl rfl hLo rfl rfl (fun _ _ _ _ => rfl) (fun b G w hb ho => zD (.inr rfl) (rfl))) ?_
    exact zF
  clear hLo
  intro G a1 w1 hS hH
  have HS1 : Sl a1 67 [(0, .agg (FR () 6 ((t).sc))), (1, .int .i64 (left)), (2, .int .i64 (d)), (3, .pointer (some ⟨(G 0), 0, none⟩)), (6, .int .i64 (0))] := hS
  have HH1 : Held w w1 [⟨(G 0), (), 6, (t).sc, 25⟩] := hH
  clear hS hH HS0 HH0
  generalize G 0 = g1_0 at HS1 HH1
  refine then_ ?_
  refine wp_seq ?_
  have hLo : LOk [(0, 9, .val (.int .i64 (left))), (1, 10, .val (.int .i64 (IntKind.i64.wrap (left - 1)))), (2, 11, .val (.pointer (some ⟨g1_0, 3, none⟩))), (3, 12, .val (.string ((t).txt))), (4, 13, .val (.int .i64 ((((t).txt).size : Int)))), (5, 14, .val (.int .i64 (IntKind.i64.wrap (IntKind.i64.wrap (left - 1) - (((t).txt).size : Int))))), (6, 1, .val (.int .i64 (IntKind.i64.wrap (IntKind.i64.wrap (left - 1) - (((t).txt).size : Int)))))] := lok (by rfl) (by rfl)
  refine zH (wE := w) (sz := 67) (n := 7) [0, 1, 3, 7, 15, 31, 63] [(0, .val (.agg (FR () 6 ((t).sc)))), (2, .val (.int .i64 (d))), (3, .val (.pointer (some ⟨g1_0, 0, none⟩))), (6, .val (.int .i64 (0))), (1, .val (.int .i64 (IntKind.i64.wrap (IntKind.i64.wrap (left - 1) - (((t).txt).size : Int)))))] [(0, 9, .val (.int .i64 (left))), (1, 10, .val (.int .i64 (IntKind.i64.wrap (left - 1)))), (2, 11, .val (.pointer (some ⟨g1_0, 3, none⟩))), (3, 12, .val (.string ((t).txt))), (4, 13, .val (.int .i64 ((((t).txt).size : Int)))), (5, 14, .val (.int .i64 (IntKind.i64.wrap (IntKind.i64.wrap (left - 1) - (((t).txt).size : Int))))), (6, 1, .val (.int .i64 (IntKind.i64.wrap (IntKind.i64.wrap (left - 1) - (((t).txt).size : Int)))))] [⟨g1_0, none, none, (), 6, (t).sc, (t).sc, 25⟩] rfl (by rfl) HH1 rfl rfl hLo rfl HS1 (slS 0 rfl rfl (slS 2 rfl rfl (slS 3 rfl rfl (slS 4 rfl rfl (slL 6 (d := 6) rfl (trivial)))))) ?_ ?_
  · show ∀ i ∈ [0, 1, 2, 3, 4, 5, 6], _
    refine zA (zB 0 _ rfl rfl hLo rfl rfl (fun _ _ _ _ => rfl) (fun b G w hb ho => zD (.inl rfl) (ev_pre hLo 6 rfl (ho 6 (by rfl)) (HS1.get 1 rfl)))) ?_
    refine zA (zB 1 _ rfl rfl hLo rfl rfl (fun _ _ _ _ => rfl) (fun b G w hb ho => zI rfl (zC hLo 0 rfl HS1.1 rfl (hb 0 (by rfl))) (rfl) (rb_sub (rfl) _ _ _))) ?_
    refine zA (zB 2 _ rfl rfl hLo rfl rfl (fun _ _ _ _ => rfl) (fun b G w hb ho => zJ rfl (zG rfl (HS1.get 3 rfl)) (by kernel_rfl))) ?_
    refine zA (zW 3 0 _ _ rfl rfl rfl hLo rfl rfl (fun _ _ _ _ => rfl) (by rfl) (by rfl) (fun b G w hb ho hr => zP hr (Nat.le_of_ble_eq_true rfl) Tryd.underlying9 rfl rfl (zC hLo 2 rfl HS1.1 rfl (hb 2 (by rfl))))) ?_
    refine zA (zB 4 _ rfl rfl hLo rfl rfl (fun _ _ _ _ => rfl) (fun b G w hb ho => exec_lenS Tryd.underlying9 rfl (zC hLo 3 rfl HS1.1 rfl (hb 3 (by rfl))))) ?_
    refine zA (zB 5 _ rfl rfl hLo rfl rfl (fun _ _ _ _ => rfl) (fun b G w hb ho => zI rfl (zC hLo 1 rfl HS1.1 rfl (hb 1 (by rfl))) (zC hLo 4 rfl HS1.1 rfl (hb 4 (by rfl))) (rb_sub (rfl) _ _ _))) ?_
    refine zA (zB 6 _ rfl rfl hLo rfl rfl (fun _ _ _ _ => rfl) (fun b G w hb ho => zD (.inr rfl) (zC hLo 5 rfl HS1.1 rfl (hb 5 (by rfl))))) ?_
    exact zF
  clear hLo
  intro G a2 w2 hS hH
  have HS2 : Sl a2 67 [(0, .agg (FR () 6 ((t).sc))), (2, .int .i64 (d)), (3, .pointer (some ⟨g1_0, 0, none⟩)), (6, .int .i64 (0)), (1, .int .i64 (IntKind.i64.wrap (IntKind.i64.wrap (left - 1) - (((t).txt).size : Int))))] := hS
  have HH2 : Held w w2 [⟨g1_0, (), 6, (t).sc, 25⟩] := hH
  clear hS hH HS1 HH1
  refine then_ ?_
  refine wp_seq ?_
  obtain ⟨r1, hr1⟩ : ∃ r : Bool, (((d : Int) == 0)) = r := ⟨_, rfl⟩
  refine wp_seq ?_
  have hLo : LOk [(0, 15, .val (.int .i64 (d))), (1, 16, .val (.bool r1))] := lok (by rfl) (by rfl)
  refine zH (wE := w) (sz := 67) (n := 2) [0, 1] [(0, .val (.agg (FR () 6 ((t).sc)))), (2, .val (.int .i64 (d))), (3, .val (.pointer (some ⟨g1_0, 0, none⟩))), (6, .val (.int .i64 (0))), (1, .val (.int .i64 (IntKind.i64.wrap (IntKind.i64.wrap (left - 1) - (((t).txt).size : Int))))), (16, .val (.bool r1))] [(0, 15, .val (.int .i64 (d))), (1, 16, .val (.bool r1))] [⟨g1_0, none, none, (), 6, (t).sc, (t).sc, 25⟩] rfl (by rfl) HH2 rfl rfl hLo rfl HS2 (slS 0 rfl rfl (slS 1 rfl rfl (slS 2 rfl rfl (slS 3 rfl rfl (slS 4 rfl rfl (slL 1 (d := 1) rfl (trivial))))))) ?_ ?_
  · show ∀ i ∈ [0, 1], _
    refine zA (zB 0 _ rfl rfl hLo rfl rfl (fun _ _ _ _ => rfl) (fun b G w hb ho => zD (.inl rfl) (zG rfl (HS2.get 1 rfl)))) ?_
    refine zA (zB 1 _ rfl rfl hLo rfl rfl (fun _ _ _ _ => rfl) (fun b G w hb ho => zI rfl (zC hLo 0 rfl HS2.1 rfl (hb 0 (by rfl))) (rfl) (rb_eql hr1 _ _ _))) ?_
    exact zF
  clear hLo
  intro G a3 w3 hS hH
  have HS3 : Sl a3 67 [(0, .agg (FR () 6 ((t).sc))), (2, .int .i64 (d)), (3, .pointer (some ⟨g1_0, 0, none⟩)), (6, .int .i64 (0)), (1, .int .i64 (IntKind.i64.wrap (IntKind.i64.wrap (left - 1) - (((t).txt).size : Int)))), (16, .bool r1)] := hS
  have HH3 : Held w w3 [⟨g1_0, (), 6, (t).sc, 25⟩] := hH
  clear hS hH HS2 HH2
  refine then_ ?_
  cases r1
  · skip
    refine wp_cond_false (HS3.get 5 rfl) ?_
    refine wp_skip ?_
    refine then_ ?_
    refine wp_seq ?_
    refine wp_seq ?_
    have hLo : LOk [(0, 7, .val (.int .i64 (0)))] := lok (by rfl) (by rfl)
    refine zH (wE := w) (sz := 67) (n := 1) [0] [(0, .val (.agg (FR () 6 ((t).sc)))), (2, .val (.int .i64 (d))), (3, .val (.pointer (some ⟨g1_0, 0, none⟩))), (6, .val (.int .i64 (0))), (1, .val (.int .i64 (IntKind.i64.wrap (IntKind.i64.wrap (left - 1) - (((t).txt).size : Int))))), (16, .val (.bool false)), (7, .val (.int .i64 (0)))] [(0, 7, .val (.int .i64 (0)))] [⟨g1_0, none, none, (), 6, (t).sc, (t).sc, 25⟩] rfl (by rfl) HH3 rfl rfl hLo rfl HS3 (slS 0 rfl rfl (slS 1 rfl rfl (slS 2 rfl rfl (slS 3 rfl rfl (slS 4 rfl rfl (slS 5 rfl rfl (slL 0 (d := 0) rfl (trivial)))))))) ?_ ?_
    · show ∀ i ∈ [0], _
      refine zA (zB 0 _ rfl rfl hLo rfl rfl (fun _ _ _ _ => rfl) (fun b G w hb ho => zD (.inr rfl) (rfl))) ?_
      exact zF
    clear hLo
    intro G a4 w4 hS hH
    have HS4 : Sl a4 67 [(0, .agg (FR () 6 ((t).sc))), (2, .int .i64 (d)), (3, .pointer (some ⟨g1_0, 0, none⟩)), (6, .int .i64 (0)), (1, .int .i64 (IntKind.i64.wrap (IntKind.i64.wrap (left - 1) - (((t).txt).size : Int)))), (16, .bool false), (7, .int .i64 (0))] := hS
    have HH4 : Held w w4 [⟨g1_0, (), 6, (t).sc, 25⟩] := hH
    clear hS hH HS3 HH3
    refine then_ ?_
    refine wp_block ?_
    have hSq0 : Sl _ 67 [(0, .agg (FR () 6 ((t).sc))), (2, .int .i64 (d)), (3, .pointer (some ⟨g1_0, 0, none⟩)), (6, .int .i64 (0)), (16, .bool false), (7, .int .i64 (0)), (1, .int .i64 (IntKind.i64.wrap (IntKind.i64.wrap (left - 1) - (((t).txt).size : Int))))] := yA HS4 [0, 1, 2, 3, 5, 6, 4] (by rfl)
    refine wp_loop (fun a w' => ∃ i : Nat, ∃ l : Int, i ≤ t.ll ∧ iterW (stepL t d) t.ll (t.ll - i) l = leftL t left d ∧ Sl a 67 [(0, .agg (FR () 6 ((t).sc))), (2, .int .i64 (d)), (3, .pointer (some ⟨g1_0, 0, none⟩)), (6, .int .i64 (0)), (16, .bool false), (7, .int .i64 ((i : Int))), (1, .int .i64 (l))] ∧ Held w w' [⟨g1_0, (), 6, (t).sc, 25⟩]) (fun a w' => t.ll - (intOf (a.eval (.tmp 7))).toNat) ⟨0, leftS t left, Nat.zero_le _, rfl, hSq0, HH4⟩ ?_
    clear hSq0 HS4 HH4
    rintro aq0 wq0 ⟨i, l, hlei, hWi, HSq0, HHq0⟩
    have hm : (intOf (aq0.eval (.tmp 7))).toNat = i := by rw [(HSq0.get 5 rfl)]; rfl
    rw [hm]
    clear hm
    refine wp_seq ?_
    obtain ⟨r2, hr2⟩ : ∃ r : Bool, (decide (((i : Int) : Int) < ((t).ll : Int))) = r := ⟨_, rfl⟩
    cases r2
    · skip
      have hl := it_end1 hWi (by have hq := of_decide_eq_false hr2; omega)
      refine wp_seq ?_
      have hLo : LOk [(0, 17, .val (.int .i64 ((i : Int)))), (1, 18, .val (.pointer (some ⟨g1_0, 4, none⟩))), (2, 19, .val (.slice ((t).xl) ((t).ll) ((t).cl))), (3, 20, .val (.int .i64 (((t).ll : Int)))), (4, 21, .val (.bool false)), (5, 22, .val (.bool false)), (6, 23, .val (undef)), (7, 24, .val (undef)), (8, 25, .val (.bool false))] := lok (by rfl) (by rfl)
      refine zH (wE := w) (sz := 67) (n := 9) [0, 1, 3, 7, 15, 31, 63, 127, 255] [(0, .val (.agg (FR () 6 ((t).sc)))), (2, .val (.int .i64 (d))), (3, .val (.pointer (some ⟨g1_0, 0, none⟩))), (6, .val (.int .i64 (0))), (16, .val (.bool false)), (7, .val (.int .i64 ((i : Int)))), (1, .val (.int .i64 (l))), (25, .val (.bool false))] [(0, 17, .val (.int .i64 ((i : Int)))), (1, 18, .val (.pointer (some ⟨g1_0, 4, none⟩))), (2, 19, .val (.slice ((t).xl) ((t).ll) ((t).cl))), (3, 20, .val (.int .i64 (((t).ll : Int)))), (4, 21, .val (.bool false)), (5, 22, .val (.bool false)), (6, 23, .val (undef)), (7, 24, .val (undef)), (8, 25, .val (.bool false))] [⟨g1_0, none, none, (), 6, (t).sc, (t).sc, 25⟩] rfl (by rfl) HHq0 rfl rfl hLo rfl HSq0 (slS 0 rfl rfl (slS 1 rfl rfl (slS 2 rfl rfl (slS 3 rfl rfl (slS 4 rfl rfl (slS 5 rfl rfl (slS 6 rfl rfl (slL 8 (d := 8) rfl (trivial))))))))) ?_ ?_
      · show ∀ i ∈ [0, 1, 2, 3, 4, 5, 6, 7, 8], _
        refine zA (zB 0 _ rfl rfl hLo rfl rfl (fun _ _ _ _ => rfl) (fun b G w hb ho => zD (.inl rfl) (zG rfl (HSq0.get 5 rfl)))) ?_
        refine zA (zB 1 _ rfl rfl hLo rfl rfl (fun _ _ _ _ => rfl) (fun b G w hb ho => zJ rfl (zG rfl (HSq0.get 2 rfl)) (by kernel_rfl))) ?_
        refine zA (zW 2 0 _ _ rfl rfl rfl hLo rfl rfl (fun _ _ _ _ => rfl) (by rfl) (by rfl) (fun b G w hb ho hr => zP hr (Nat.le_of_ble_eq_true rfl) Tryd.underlying22 rfl rfl (zC hLo 1 rfl HSq0.1 rfl (hb 1 (by rfl))))) ?_
        refine zA (zB 3 _ rfl rfl hLo rfl rfl (fun _ _ _ _ => rfl) (fun b G w hb ho => yF Tryd.underlying22 rfl (zC hLo 2 rfl HSq0.1 rfl (hb 2 (by rfl))))) ?_
        refine zA (zB 4 _ rfl rfl hLo rfl rfl (fun _ _ _ _ => rfl) (fun b G w hb ho => zI rfl (zC hLo 0 rfl HSq0.1 rfl (hb 0 (by rfl))) (zC hLo 3 rfl HSq0.1 rfl (hb 3 (by rfl))) (rb_lss hr2 _ _ _))) ?_
        refine zA (zB 5 _ rfl rfl hLo rfl rfl (fun _ _ _ _ => rfl) (fun b G w hb ho => zD (.inl rfl) (zC hLo 4 rfl HSq0.1 rfl (hb 4 (by rfl))))) ?_
        refine zA (zN 6 rfl rfl hLo rfl rfl (fun b G hb ho => zE rfl rfl rfl HSq0.1 rfl (zC hLo 5 rfl HSq0.1 rfl (hb 5 (by rfl))) rfl)) ?_
        refine zA (zN 7 rfl rfl hLo rfl rfl (fun b G hb ho => zE rfl rfl rfl HSq0.1 rfl (zC hLo 5 rfl HSq0.1 rfl (hb 5 (by rfl))) rfl)) ?_
        refine zA (zB 8 _ rfl rfl hLo rfl rfl (fun _ _ _ _ => rfl) (fun b G w hb ho => zL rfl (zC hLo 5 rfl HSq0.1 rfl (hb 5 (by rfl))) (rfl))) ?_
        exact zF
      clear hLo
      intro G a5 w5 hS hH
      have HS5 : Sl a5 67 [(0, .agg (FR () 6 ((t).sc))), (2, .int .i64 (d)), (3, .pointer (some ⟨g1_0, 0, none⟩)), (6, .int .i64 (0)), (16, .bool false), (7, .int .i64 ((i : Int))), (1, .int .i64 (l)), (25, .bool false)] := hS
      have HH5 : Held w w5 [⟨g1_0, (), 6, (t).sc, 25⟩] := hH
      clear hS hH HSq0 HHq0
      refine then_ ?_
      refine wp_cond_false (HS5.get 7 rfl) ?_
      refine wp_exit ?_
      refine zY ?_
      refine zY ?_
      refine yE ?_
      refine then_ ?_
      refine wp_seq ?_
      refine wp_seq ?_
      have hLo : LOk [(0, 8, .val (.int .i64 (0)))] := lok (by rfl) (by rfl)
      refine zH (wE := w) (sz := 67) (n := 1) [0] [(0, .val (.agg (FR () 6 ((t).sc)))), (2, .val (.int .i64 (d))), (3, .val (.pointer (some ⟨g1_0, 0, none⟩))), (6, .val (.int .i64 (0))), (16, .val (.bool false)), (7, .val (.int .i64 ((i : Int)))), (1, .val (.int .i64 (l))), (25, .val (.bool false)), (8, .val (.int .i64 (0)))] [(0, 8, .val (.int .i64 (0)))] [⟨g1_0, none, none, (), 6, (t).sc, (t).sc, 25⟩] rfl (by rfl) HH5 rfl rfl hLo rfl HS5 (slS 0 rfl rfl (slS 1 rfl rfl (slS 2 rfl rfl (slS 3 rfl rfl (slS 4 rfl rfl (slS 5 rfl rfl (slS 6 rfl rfl (slS 7 rfl rfl (slL 0 (d := 0) rfl (trivial)))))))))) ?_ ?_
      · show ∀ i ∈ [0], _
        refine zA (zB 0 _ rfl rfl hLo rfl rfl (fun _ _ _ _ => rfl) (fun b G w hb ho => zD (.inr rfl) (rfl))) ?_
        exact zF
      clear hLo
      intro G a6 w6 hS hH
      have HS6 : Sl a6 67 [(0, .agg (FR () 6 ((t).sc))), (2, .int .i64 (d)), (3, .pointer (some ⟨g1_0, 0, none⟩)), (6, .int .i64 (0)), (16, .bool false), (7, .int .i64 ((i : Int))), (1, .int .i64 (l)), (25, .bool false), (8, .int .i64 (0))] := hS
      have HH6 : Held w w6 [⟨g1_0, (), 6, (t).sc, 25⟩] := hH
      clear hS hH HS5 HH5
      refine then_ ?_
      refine wp_block ?_
      have hSq1 : Sl _ 67 [(0, .agg (FR () 6 ((t).sc))), (2, .int .i64 (d)), (3, .pointer (some ⟨g1_0, 0, none⟩)), (6, .int .i64 (0)), (16, .bool false), (7, .int .i64 ((i : Int))), (25, .bool false), (8, .int .i64 (0)), (1, .int .i64 (l))] := yA HS6 [0, 1, 2, 3, 4, 5, 7, 8, 6] (by rfl)
      refine wp_loop (fun a w' => ∃ k : Nat, ∃ m : Int, k ≤ t.ml ∧ iterW (stepM t d) t.ml (t.ml - k) m = iterW (stepM t d) t.ml t.ml (leftL t left d) ∧ Sl a 67 [(0, .agg (FR () 6 ((t).sc))), (2, .int .i64 (d)), (3, .pointer (some ⟨g1_0, 0, none⟩)), (6, .int .i64 (0)), (16, .bool false), (7, .int .i64 ((i : Int))), (25, .bool false), (8, .int .i64 ((k : Int))), (1, .int .i64 (m))] ∧ Held w w' [⟨g1_0, (), 6, (t).sc, 25⟩]) (fun a w' => t.ml - (intOf (a.eval (.tmp 8))).toNat) ⟨0, l, Nat.zero_le _, by rw [hl]; rfl, hSq1, HH6⟩ ?_
      clear hSq1 HS6 HH6
      rintro aq1 wq1 ⟨k, m, hlek, hWk, HSq1, HHq1⟩
      have hm : (intOf (aq1.eval (.tmp 8))).toNat = k := by rw [(HSq1.get 7 rfl)]; rfl
      rw [hm]
      clear hm
      refine wp_seq ?_
      obtain ⟨r3, hr3⟩ : ∃ r : Bool, (decide (((k : Int) : Int) < ((t).ml : Int))) = r := ⟨_, rfl⟩
      cases r3
      · skip
        have hm := it_end1 hWk (by have hq := of_decide_eq_false hr3; omega)
        refine wp_seq ?_
        have hLo : LOk [(0, 37, .val (.int .i64 ((k : Int)))), (1, 38, .val (.pointer (some ⟨g1_0, 5, none⟩))), (2, 39, .val (.slice ((t).xm) ((t).ml) ((t).cm))), (3, 40, .val (.int .i64 (((t).ml : Int)))), (4, 41, .val (.bool false)), (5, 42, .val (.bool false)), (6, 43, .val (undef)), (7, 44, .val (undef)), (8, 45, .val (.bool false))] := lok (by rfl) (by rfl)
        refine zH (wE := w) (sz := 67) (n := 9) [0, 1, 3, 7, 15, 31, 63, 127, 255] [(0, .val (.agg (FR () 6 ((t).sc)))), (2, .val (.int .i64 (d))), (3, .val (.pointer (some ⟨g1_0, 0, none⟩))), (6, .val (.int .i64 (0))), (16, .val (.bool false)), (7, .val (.int .i64 ((i : Int)))), (25, .val (.bool false)), (8, .val (.int .i64 ((k : Int)))), (1, .val (.int .i64 (m))), (45, .val (.bool false))] [(0, 37, .val (.int .i64 ((k : Int)))), (1, 38, .val (.pointer (some ⟨g1_0, 5, none⟩))), (2, 39, .val (.slice ((t).xm) ((t).ml) ((t).cm))), (3, 40, .val (.int .i64 (((t).ml : Int)))), (4, 41, .val (.bool false)), (5, 42, .val (.bool false)), (6, 43, .val (undef)), (7, 44, .val (undef)), (8, 45, .val (.bool false))] [⟨g1_0, none, none, (), 6, (t).sc, (t).sc, 25⟩] rfl (by rfl) HHq1 rfl rfl hLo rfl HSq1 (slS 0 rfl rfl (slS 1 rfl rfl (slS 2 rfl rfl (slS 3 rfl rfl (slS 4 rfl rfl (slS 5 rfl rfl (slS 6 rfl rfl (slS 7 rfl rfl (slS 8 rfl rfl (slL 8 (d := 8) rfl (trivial))))))))))) ?_ ?_
        · show ∀ i ∈ [0, 1, 2, 3, 4, 5, 6, 7, 8], _
          refine zA (zB 0 _ rfl rfl hLo rfl rfl (fun _ _ _ _ => rfl) (fun b G w hb ho => zD (.inl rfl) (zG rfl (HSq1.get 7 rfl)))) ?_
          refine zA (zB 1 _ rfl rfl hLo rfl rfl (fun _ _ _ _ => rfl) (fun b G w hb ho => zJ rfl (zG rfl (HSq1.get 2 rfl)) (by kernel_rfl))) ?_
          refine zA (zW 2 0 _ _ rfl rfl rfl hLo rfl rfl (fun _ _ _ _ => rfl) (by rfl) (by rfl) (fun b G w hb ho hr => zP hr (Nat.le_of_ble_eq_true rfl) Tryd.underlying23 rfl rfl (zC hLo 1 rfl HSq1.1 rfl (hb 1 (by rfl))))) ?_
          refine zA (zB 3 _ rfl rfl hLo rfl rfl (fun _ _ _ _ => rfl) (fun b G w hb ho => yF Tryd.underlying23 rfl (zC hLo 2 rfl HSq1.1 rfl (hb 2 (by rfl))))) ?_
          refine zA (zB 4 _ rfl rfl hLo rfl rfl (fun _ _ _ _ => rfl) (fun b G w hb ho => zI rfl (zC hLo 0 rfl HSq1.1 rfl (hb 0 (by rfl))) (zC hLo 3 rfl HSq1.1 rfl (hb 3 (by rfl))) (rb_lss hr3 _ _ _))) ?_
          refine zA (zB 5 _ rfl rfl hLo rfl rfl (fun _ _ _ _ => rfl) (fun b G w hb ho => zD (.inl rfl) (zC hLo 4 rfl HSq1.1 rfl (hb 4 (by rfl))))) ?_
          refine zA (zN 6 rfl rfl hLo rfl rfl (fun b G hb ho => zE rfl rfl rfl HSq1.1 rfl (zC hLo 5 rfl HSq1.1 rfl (hb 5 (by rfl))) rfl)) ?_
          refine zA (zN 7 rfl rfl hLo rfl rfl (fun b G hb ho => zE rfl rfl rfl HSq1.1 rfl (zC hLo 5 rfl HSq1.1 rfl (hb 5 (by rfl))) rfl)) ?_
          refine zA (zB 8 _ rfl rfl hLo rfl rfl (fun _ _ _ _ => rfl) (fun b G w hb ho => zL rfl (zC hLo 5 rfl HSq1.1 rfl (hb 5 (by rfl))) (rfl))) ?_
          exact zF
        clear hLo
        intro G a7 w7 hS hH
        have HS7 : Sl a7 67 [(0, .agg (FR () 6 ((t).sc))), (2, .int .i64 (d)), (3, .pointer (some ⟨g1_0, 0, none⟩)), (6, .int .i64 (0)), (16, .bool false), (7, .int .i64 ((i : Int))), (25, .bool false), (8, .int .i64 ((k : Int))), (1, .int .i64 (m)), (45, .bool false)] := hS
        have HH7 : Held w w7 [⟨g1_0, (), 6, (t).sc, 25⟩] := hH
        clear hS hH HSq1 HHq1
        refine then_ ?_
        refine wp_cond_false (HS7.get 9 rfl) ?_
        refine wp_exit ?_
        refine zY ?_
        refine zY ?_
        refine yE ?_
        refine then_ ?_
        refine wp_seq ?_
        have hLo : LOk [(0, 66, .val (.int .i64 (m))), (1, 6, .val (.int .i64 (m)))] := lok (by rfl) (by rfl)
        refine zH (wE := w) (sz := 67) (n := 2) [0, 1] [(0, .val (.agg (FR () 6 ((t).sc)))), (2, .val (.int .i64 (d))), (3, .val (.pointer (some ⟨g1_0, 0, none⟩))), (16, .val (.bool false)), (7, .val (.int .i64 ((i : Int)))), (25, .val (.bool false)), (8, .val (.int .i64 ((k : Int)))), (1, .val (.int .i64 (m))), (45, .val (.bool false)), (6, .val (.int .i64 (m)))] [(0, 66, .val (.int .i64 (m))), (1, 6, .val (.int .i64 (m)))] [⟨g1_0, none, none, (), 6, (t).sc, (t).sc, 25⟩] rfl (by rfl) HH7 rfl rfl hLo rfl HS7 (slS 0 rfl rfl (slS 1 rfl rfl (slS 2 rfl rfl (slS 4 rfl rfl (slS 5 rfl rfl (slS 6 rfl rfl (slS 7 rfl rfl (slS 8 rfl rfl (slS 9 rfl rfl (slL 1 (d := 1) rfl (trivial))))))))))) ?_ ?_
        · show ∀ i ∈ [0, 1], _
          refine zA (zB 0 _ rfl rfl hLo rfl rfl (fun _ _ _ _ => rfl) (fun b G w hb ho => zD (.inl rfl) (zG rfl (HS7.get 8 rfl)))) ?_
          refine zA (zB 1 _ rfl rfl hLo rfl rfl (fun _ _ _ _ => rfl) (fun b G w hb ho => zD (.inr rfl) (zC hLo 0 rfl HS7.1 rfl (hb 0 (by rfl))))) ?_
          exact zF
        clear hLo
        intro G a8 w8 hS hH
        have HS8 : Sl a8 67 [(0, .agg (FR () 6 ((t).sc))), (2, .int .i64 (d)), (3, .pointer (some ⟨g1_0, 0, none⟩)), (16, .bool false), (7, .int .i64 ((i : Int))), (25, .bool false), (8, .int .i64 ((k : Int))), (1, .int .i64 (m)), (45, .bool false), (6, .int .i64 (m))] := hS
        have HH8 : Held w w8 [⟨g1_0, (), 6, (t).sc, 25⟩] := hH
        clear hS hH HS7 HH7
        refine then_ ?_
        refine wp_ret ?_
        repeat (first | refine zR ?_ | refine zK ?_)
        exact b_tmp rfl HS8.2.1 (HS8.get 9 rfl) ⟨weigh_ret hIn left d hr1 hm, HH8.1⟩
      · skip
        have hltk : k < t.ml := by have := of_decide_eq_true hr3; omega
        obtain ⟨r4, hr4⟩ : ∃ r : Bool, (decide ((0 : Int) ≤ m)) = r := ⟨_, rfl⟩
        refine wp_seq ?_
        have hLo : LOk [(0, 37, .val (.int .i64 ((k : Int)))), (1, 38, .val (.pointer (some ⟨g1_0, 5, none⟩))), (2, 39, .val (.slice ((t).xm) ((t).ml) ((t).cm))), (3, 40, .val (.int .i64 (((t).ml : Int)))), (4, 41, .val (.bool true)), (5, 42, .val (.bool true)), (6, 43, .val (.int .i64 (m))), (7, 44, .val (.bool r4)), (8, 45, .val (.bool r4))] := lok (by rfl) (by rfl)
        refine zH (wE := w) (sz := 67) (n := 9) [0, 1, 3, 7, 15, 31, 63, 127, 255] [(0, .val (.agg (FR () 6 ((t).sc)))), (2, .val (.int .i64 (d))), (3, .val (.pointer (some ⟨g1_0, 0, none⟩))), (6, .val (.int .i64 (0))), (16, .val (.bool false)), (7, .val (.int .i64 ((i : Int)))), (25, .val (.bool false)), (8, .val (.int .i64 ((k : Int)))), (1, .val (.int .i64 (m))), (45, .val (.bool r4))] [(0, 37, .val (.int .i64 ((k : Int)))), (1, 38, .val (.pointer (some ⟨g1_0, 5, none⟩))), (2, 39, .val (.slice ((t).xm) ((t).ml) ((t).cm))), (3, 40, .val (.int .i64 (((t).ml : Int)))), (4, 41, .val (.bool true)), (5, 42, .val (.bool true)), (6, 43, .val (.int .i64 (m))), (7, 44, .val (.bool r4)), (8, 45, .val (.bool r4))] [⟨g1_0, none, none, (), 6, (t).sc, (t).sc, 25⟩] rfl (by rfl) HHq1 rfl rfl hLo rfl HSq1 (slS 0 rfl rfl (slS 1 rfl rfl (slS 2 rfl rfl (slS 3 rfl rfl (slS 4 rfl rfl (slS 5 rfl rfl (slS 6 rfl rfl (slS 7 rfl rfl (slS 8 rfl rfl (slL 8 (d := 8) rfl (trivial))))))))))) ?_ ?_
        · show ∀ i ∈ [0, 1, 2, 3, 4, 5, 6, 7, 8], _
          refine zA (zB 0 _ rfl rfl hLo rfl rfl (fun _ _ _ _ => rfl) (fun b G w hb ho => zD (.inl rfl) (zG rfl (HSq1.get 7 rfl)))) ?_
          refine zA (zB 1 _ rfl rfl hLo rfl rfl (fun _ _ _ _ => rfl) (fun b G w hb ho => zJ rfl (zG rfl (HSq1.get 2 rfl)) (by kernel_rfl))) ?_
          refine zA (zW 2 0 _ _ rfl rfl rfl hLo rfl rfl (fun _ _ _ _ => rfl) (by rfl) (by rfl) (fun b G w hb ho hr => zP hr (Nat.le_of_ble_eq_true rfl) Tryd.underlying23 rfl rfl (zC hLo 1 rfl HSq1.1 rfl (hb 1 (by rfl))))) ?_
          refine zA (zB 3 _ rfl rfl hLo rfl rfl (fun _ _ _ _ => rfl) (fun b G w hb ho => yF Tryd.underlying23 rfl (zC hLo 2 rfl HSq1.1 rfl (hb 2 (by rfl))))) ?_
          refine zA (zB 4 _ rfl rfl hLo rfl rfl (fun _ _ _ _ => rfl) (fun b G w hb ho => zI rfl (zC hLo 0 rfl HSq1.1 rfl (hb 0 (by rfl))) (zC hLo 3 rfl HSq1.1 rfl (hb 3 (by rfl))) (rb_lss hr3 _ _ _))) ?_
          refine zA (zB 5 _ rfl rfl hLo rfl rfl (fun _ _ _ _ => rfl) (fun b G w hb ho => zD (.inl rfl) (zC hLo 4 rfl HSq1.1 rfl (hb 4 (by rfl))))) ?_
          refine zA (zB 6 _ rfl rfl hLo rfl rfl (fun b G hb ho => zE rfl rfl rfl HSq1.1 rfl (zC hLo 5 rfl HSq1.1 rfl (hb 5 (by rfl))) rfl) (fun b G w hb ho => zD (.inl rfl) (zG rfl (HSq1.get 8 rfl)))) ?_
          refine zA (zB 7 _ rfl rfl hLo rfl rfl (fun b G hb ho => zE rfl rfl rfl HSq1.1 rfl (zC hLo 5 rfl HSq1.1 rfl (hb 5 (by rfl))) rfl) (fun b G w hb ho => zI rfl (zC hLo 6 rfl HSq1.1 rfl (hb 6 (by rfl))) (rfl) (rb_geq hr4 _ _ _))) ?_
          refine zA (zB 8 _ rfl rfl hLo rfl rfl (fun _ _ _ _ => rfl) (fun b G w hb ho => zL rfl (zC hLo 5 rfl HSq1.1 rfl (hb 5 (by rfl))) (zC hLo 7 rfl HSq1.1 rfl (hb 7 (by rfl))))) ?_
          exact zF
        clear hLo
        intro G a9 w9 hS hH
        have HS9 : Sl a9 67 [(0, .agg (FR () 6 ((t).sc))), (2, .int .i64 (d)), (3, .pointer (some ⟨g1_0, 0, none⟩)), (6, .int .i64 (0)), (16, .bool false), (7, .int .i64 ((i : Int))), (25, .bool false), (8, .int .i64 ((k : Int))), (1, .int .i64 (m)), (45, .bool r4)] := hS
        have HH9 : Held w w9 [⟨g1_0, (), 6, (t).sc, 25⟩] := hH
        clear hS hH HSq1 HHq1
        refine then_ ?_
        cases r4
        · skip
          have hm := it_end2 hWk (of_decide_eq_false hr4)
          refine wp_cond_false (HS9.get 9 rfl) ?_
          refine wp_exit ?_
          refine zY ?_
          refine zY ?_
          refine yE ?_
          refine then_ ?_
          refine wp_seq ?_
          have hLo : LOk [(0, 66, .val (.int .i64 (m))), (1, 6, .val (.int .i64 (m)))] := lok (by rfl) (by rfl)
          refine zH (wE := w) (sz := 67) (n := 2) [0, 1] [(0, .val (.agg (FR () 6 ((t).sc)))), (2, .val (.int .i64 (d))), (3, .val (.pointer (some ⟨g1_0, 0, none⟩))), (16, .val (.bool false)), (7, .val (.int .i64 ((i : Int)))), (25, .val (.bool false)), (8, .val (.int .i64 ((k : Int)))), (1, .val (.int .i64 (m))), (45, .val (.bool false)), (6, .val (.int .i64 (m)))] [(0, 66, .val (.int .i64 (m))), (1, 6, .val (.int .i64 (m)))] [⟨g1_0, none, none, (), 6, (t).sc, (t).sc, 25⟩] rfl (by rfl) HH9 rfl rfl hLo rfl HS9 (slS 0 rfl rfl (slS 1 rfl rfl (slS 2 rfl rfl (slS 4 rfl rfl (slS 5 rfl rfl (slS 6 rfl rfl (slS 7 rfl rfl (slS 8 rfl rfl (slS 9 rfl rfl (slL 1 (d := 1) rfl (trivial))))))))))) ?_ ?_
          · show ∀ i ∈ [0, 1], _
            refine zA (zB 0 _ rfl rfl hLo rfl rfl (fun _ _ _ _ => rfl) (fun b G w hb ho => zD (.inl rfl) (zG rfl (HS9.get 8 rfl)))) ?_
            refine zA (zB 1 _ rfl rfl hLo rfl rfl (fun _ _ _ _ => rfl) (fun b G w hb ho => zD (.inr rfl) (zC hLo 0 rfl HS9.1 rfl (hb 0 (by rfl))))) ?_
            exact zF
          clear hLo
          intro G a10 w10 hS hH
          have HS10 : Sl a10 67 [(0, .agg (FR () 6 ((t).sc))), (2, .int .i64 (d)), (3, .pointer (some ⟨g1_0, 0, none⟩)), (16, .bool false), (7, .int .i64 ((i : Int))), (25, .bool false), (8, .int .i64 ((k : Int))), (1, .int .i64 (m)), (45, .bool false), (6, .int .i64 (m))] := hS
          have HH10 : Held w w10 [⟨g1_0, (), 6, (t).sc, 25⟩] := hH
          clear hS hH HS9 HH9
          refine then_ ?_
          refine wp_ret ?_
          repeat (first | refine zR ?_ | refine zK ?_)
          exact b_tmp rfl HS10.2.1 (HS10.get 9 rfl) ⟨weigh_ret hIn left d hr1 hm, HH10.1⟩
        · skip
          refine wp_cond_true (HS9.get 9 rfl) ?_
          refine wp_skip ?_
          refine then_ ?_
          refine wp_seq ?_
          refine wp_block ?_
          obtain ⟨⟨a1, hx1, hk1, hv1⟩, _, hn1⟩ := (hIn).mems (i := k) (by omega)
          obtain ⟨⟨a2, hx2, hk2, hv2⟩, _, hn2⟩ := (hIn).mems (i := k) (by omega)
          have hLo : LOk [(0, 48, .val (.pointer (some ⟨g1_0, 5, none⟩))), (1, 49, .val (.slice ((t).xm) ((t).ml) ((t).cm))), (2, 50, .val (.int .i64 ((k : Int)))), (3, 51, .val (.pointer (some (a1.add ((k) * 7))))), (4, 52, .val (.pointer (some ((a1.add ((k) * 7)).add 1)))), (5, 53, .val (.agg (FR () 6 (((t).mem (k)).sc)))), (6, 54, .val (.int .i64 (m))), (7, 55, .val (.pointer (some ⟨g1_0, 5, none⟩))), (8, 56, .val (.slice ((t).xm) ((t).ml) ((t).cm))), (9, 57, .val (.int .i64 ((k : Int)))), (10, 58, .val (.pointer (some (a2.add ((k) * 7))))), (11, 59, .val (.pointer (some (a2.add ((k) * 7))))), (12, 60, .val (.string ((t).key (k)))), (13, 61, .val (.int .i64 ((((t).key (k)).size : Int)))), (14, 62, .val (.int .i64 (IntKind.i64.wrap (m - (((t).key (k)).size : Int))))), (15, 63, .val (.int .i64 (d))), (16, 64, .val (.int .i64 (IntKind.i64.wrap (d - 1)))), (17, 65, .val (.int .i64 (stepM t d k m))), (18, 1, .val (.int .i64 (stepM t d k m)))] := lok (by rfl) (by rfl)
          refine region_ (wE := w) (sz := 67) (n := 19) (B := [0, 1, 0, 7, 15, 31, 0, 0, 128, 0, 896, 1920, 3968, 8064, 16320, 0, 32768, 131071, 262143]) [0, 1, 2, 3, 4, 5, 6, 7, 8, 9, 10, 11, 12, 13, 14, 15, 16, 17, 18] [(0, .val (.agg (FR () 6 ((t).sc)))), (2, .val (.int .i64 (d))), (3, .val (.pointer (some ⟨g1_0, 0, none⟩))), (6, .val (.int .i64 (0))), (16, .val (.bool false)), (7, .val (.int .i64 ((i : Int)))), (25, .val (.bool false)), (8, .val (.int .i64 ((k : Int)))), (45, .val (.bool true)), (1, .val (.int .i64 (stepM t d k m)))] [(0, 48, .val (.pointer (some ⟨g1_0, 5, none⟩))), (1, 49, .val (.slice ((t).xm) ((t).ml) ((t).cm))), (2, 50, .val (.int .i64 ((k : Int)))), (3, 51, .val (.pointer (some (a1.add ((k) * 7))))), (4, 52, .val (.pointer (some ((a1.add ((k) * 7)).add 1)))), (5, 53, .val (.agg (FR () 6 (((t).mem (k)).sc)))), (6, 54, .val (.int .i64 (m))), (7, 55, .val (.pointer (some ⟨g1_0, 5, none⟩))), (8, 56, .val (.slice ((t).xm) ((t).ml) ((t).cm))), (9, 57, .val (.int .i64 ((k : Int)))), (10, 58, .val (.pointer (some (a2.add ((k) * 7))))), (11, 59, .val (.pointer (some (a2.add ((k) * 7))))), (12, 60, .val (.string ((t).key (k)))), (13, 61, .val (.int .i64 ((((t).key (k)).size : Int)))), (14, 62, .val (.int .i64 (IntKind.i64.wrap (m - (((t).key (k)).size : Int))))), (15, 63, .val (.int .i64 (d))), (16, 64, .val (.int .i64 (IntKind.i64.wrap (d - 1)))), (17, 65, .val (.int .i64 (stepM t d k m))), (18, 1, .val (.int .i64 (stepM t d k m)))] [⟨g1_0, none, none, (), 6, (t).sc, (t).sc, 25⟩] (by rfl) rfl tabwgh_11 bitswgh_11 (by kernel_rfl) (by kernel_rfl) HH9 rfl rfl hLo rfl HS9 (slS 0 rfl rfl (slS 1 rfl rfl (slS 2 rfl rfl (slS 3 rfl rfl (slS 4 rfl rfl (slS 5 rfl rfl (slS 6 rfl rfl (slS 7 rfl rfl (slS 9 rfl rfl (slL 18 (d := 18) rfl (trivial))))))))))) ?_ ?_
          · show ∀ i ∈ [0, 1, 2, 3, 4, 5, 6, 7, 8, 9, 10, 11, 12, 13, 14, 15, 16, 17, 18], _
            refine zA (zB 0 _ rfl rfl hLo rfl rfl (fun _ _ _ _ => rfl) (fun b G w hb ho => zJ rfl (zG rfl (HS9.get 2 rfl)) (by kernel_rfl))) ?_
            refine zA (zW 1 0 _ _ rfl rfl rfl hLo rfl rfl (fun _ _ _ _ => rfl) (by rfl) (by rfl) (fun b G w hb ho hr => zP hr (Nat.le_of_ble_eq_true rfl) Tryd.underlying23 rfl rfl (zC hLo 0 rfl HS9.1 rfl (hb 0 (by rfl))))) ?_
            refine zA (zB 2 _ rfl rfl hLo rfl rfl (fun _ _ _ _ => rfl) (fun b G w hb ho => zD (.inl rfl) (zG rfl (HS9.get 7 rfl)))) ?_
            refine zA (zB 3 _ rfl rfl hLo rfl rfl (fun _ _ _ _ => rfl) (fun b G w hb ho => zU rfl (zC hLo 1 rfl HS9.1 rfl (hb 1 (by rfl))) (zC hLo 2 rfl HS9.1 rfl (hb 2 (by rfl))) (index_sl Tryd.underlying23 (by kernel_rfl) hx1 (by omega) _))) ?_
            refine zA (zB 4 _ rfl rfl hLo rfl rfl (fun _ _ _ _ => rfl) (fun b G w hb ho => zJ rfl (zC hLo 3 rfl HS9.1 rfl (hb 3 (by rfl))) (by kernel_rfl))) ?_
            refine zA (st_at 5 ((a1.add ((k) * 7)).add 1) rfl rfl rfl (fun _ _ _ _ => rfl) hLo rfl rfl Tryd.underlying25 (by kernel_rfl) rfl (at7v hv1) (fun b G hb ho => zC hLo 4 rfl HS9.1 rfl (hb 4 (by rfl)))) ?_
            refine zA (zB 6 _ rfl rfl hLo rfl rfl (fun _ _ _ _ => rfl) (fun b G w hb ho => zD (.inl rfl) (ev_pre hLo 18 rfl (ho 18 (by rfl)) (HS9.get 8 rfl)))) ?_
            refine zA (zB 7 _ rfl rfl hLo rfl rfl (fun _ _ _ _ => rfl) (fun b G w hb ho => zJ rfl (zG rfl (HS9.get 2 rfl)) (by kernel_rfl))) ?_
            refine zA (zW 8 0 _ _ rfl rfl rfl hLo rfl rfl (fun _ _ _ _ => rfl) (by rfl) (by rfl) (fun b G w hb ho hr => zP hr (Nat.le_of_ble_eq_true rfl) Tryd.underlying23 rfl rfl (zC hLo 7 rfl HS9.1 rfl (hb 7 (by rfl))))) ?_
            refine zA (zB 9 _ rfl rfl hLo rfl rfl (fun _ _ _ _ => rfl) (fun b G w hb ho => zD (.inl rfl) (zG rfl (HS9.get 7 rfl)))) ?_
            refine zA (zB 10 _ rfl rfl hLo rfl rfl (fun _ _ _ _ => rfl) (fun b G w hb ho => zU rfl (zC hLo 8 rfl HS9.1 rfl (hb 8 (by rfl))) (zC hLo 9 rfl HS9.1 rfl (hb 9 (by rfl))) (index_sl Tryd.underlying23 (by kernel_rfl) hx2 (by omega) _))) ?_
            refine zA (zB 11 _ rfl rfl hLo rfl rfl (fun _ _ _ _ => rfl) (fun b G w hb ho => zJ rfl (zC hLo 10 rfl HS9.1 rfl (hb 10 (by rfl))) (by kernel_rfl))) ?_
            refine zA (st_at1 12 (a2.add ((k) * 7)) _ rfl rfl rfl (fun _ _ _ _ => rfl) hLo rfl rfl Tryd.underlying9 rfl (hk2) (fun b G hb ho => zC hLo 11 rfl HS9.1 rfl (hb 11 (by rfl)))) ?_
            refine zA (zB 13 _ rfl rfl hLo rfl rfl (fun _ _ _ _ => rfl) (fun b G w hb ho => exec_lenS Tryd.underlying9 rfl (zC hLo 12 rfl HS9.1 rfl (hb 12 (by rfl))))) ?_
            refine zA (zB 14 _ rfl rfl hLo rfl rfl (fun _ _ _ _ => rfl) (fun b G w hb ho => zI rfl (zC hLo 6 rfl HS9.1 rfl (hb 6 (by rfl))) (zC hLo 13 rfl HS9.1 rfl (hb 13 (by rfl))) (rb_sub (rfl) _ _ _))) ?_
            refine zA (zB 15 _ rfl rfl hLo rfl rfl (fun _ _ _ _ => rfl) (fun b G w hb ho => zD (.inl rfl) (zG rfl (HS9.get 1 rfl)))) ?_
            refine zA (zB 16 _ rfl rfl hLo rfl rfl (fun _ _ _ _ => rfl) (fun b G w hb ho => zI rfl (zC hLo 15 rfl HS9.1 rfl (hb 15 (by rfl))) (rfl) (rb_sub (rfl) _ _ _))) ?_
            refine zA (yB 17 _ #[.agg (FR () 6 (((t).mem (k)).sc)), .int .i64 (IntKind.i64.wrap (m - (((t).key (k)).size : Int))), .int .i64 (IntKind.i64.wrap (d - 1))] rfl rfl rfl (fun _ _ _ _ => rfl) hLo rfl rfl Tryd.func28 rfl rfl (fun b G hb ho => args3 (zC hLo 5 rfl HS9.1 rfl (hb 5 (by rfl))) (zC hLo 14 rfl HS9.1 rfl (hb 14 (by rfl))) (zC hLo 16 rfl HS9.1 rfl (hb 16 (by rfl)))) (fun w hw => ihM k (by omega) _ ((hIn.mems (i := k) (by omega)).2.2.below hw) _ _)) ?_
            refine zA (zB 18 _ rfl rfl hLo rfl rfl (fun _ _ _ _ => rfl) (fun b G w hb ho => zD (.inr rfl) (zC hLo 17 rfl HS9.1 rfl (hb 17 (by rfl))))) ?_
            exact zF
          clear hLo
          intro G a11 w11 hS hH
          have HS11 : Sl a11 67 [(0, .agg (FR () 6 ((t).sc))), (2, .int .i64 (d)), (3, .pointer (some ⟨g1_0, 0, none⟩)), (6, .int .i64 (0)), (16, .bool false), (7, .int .i64 ((i : Int))), (25, .bool false), (8, .int .i64 ((k : Int))), (45, .bool true), (1, .int .i64 (stepM t d k m))] := hS
          have HH11 : Held w w11 [⟨g1_0, (), 6, (t).sc, 25⟩] := hH
          clear hS hH HS9 HH9
          refine zQ ?_
          refine then_ ?_
          have hLo : LOk [(0, 46, .val (.int .i64 ((k : Int)))), (1, 47, .val (.int .i64 (((k + 1 : Nat) : Int)))), (2, 8, .val (.int .i64 (((k + 1 : Nat) : Int))))] := lok (by rfl) (by rfl)
          refine zH (wE := w) (sz := 67) (n := 3) [0, 1, 3] [(0, .val (.agg (FR () 6 ((t).sc)))), (2, .val (.int .i64 (d))), (3, .val (.pointer (some ⟨g1_0, 0, none⟩))), (6, .val (.int .i64 (0))), (16, .val (.bool false)), (7, .val (.int .i64 ((i : Int)))), (25, .val (.bool false)), (45, .val (.bool true)), (1, .val (.int .i64 (stepM t d k m))), (8, .val (.int .i64 (((k + 1 : Nat) : Int))))] [(0, 46, .val (.int .i64 ((k : Int)))), (1, 47, .val (.int .i64 (((k + 1 : Nat) : Int)))), (2, 8, .val (.int .i64 (((k + 1 : Nat) : Int))))] [⟨g1_0, none, none, (), 6, (t).sc, (t).sc, 25⟩] rfl (by rfl) HH11 rfl rfl hLo rfl HS11 (slS 0 rfl rfl (slS 1 rfl rfl (slS 2 rfl rfl (slS 3 rfl rfl (slS 4 rfl rfl (slS 5 rfl rfl (slS 6 rfl rfl (slS 8 rfl rfl (slS 9 rfl rfl (slL 2 (d := 2) rfl (trivial))))))))))) ?_ ?_
          · show ∀ i ∈ [0, 1, 2], _
            refine zA (zB 0 _ rfl rfl hLo rfl rfl (fun _ _ _ _ => rfl) (fun b G w hb ho => zD (.inl rfl) (ev_pre hLo 2 rfl (ho 2 (by rfl)) (HS11.get 7 rfl)))) ?_
            refine zA (zB 1 _ rfl rfl hLo rfl rfl (fun _ _ _ _ => rfl) (fun b G w hb ho => zI rfl (zC hLo 0 rfl HS11.1 rfl (hb 0 (by rfl))) (rfl) (rb_add (w_nat (by omega) (by omega)) _ _ _))) ?_
            refine zA (zB 2 _ rfl rfl hLo rfl rfl (fun _ _ _ _ => rfl) (fun b G w hb ho => zD (.inr rfl) (zC hLo 1 rfl HS11.1 rfl (hb 1 (by rfl))))) ?_
            exact zF
          clear hLo
          intro G a12 w12 hS hH
          have HS12 : Sl a12 67 [(0, .agg (FR () 6 ((t).sc))), (2, .int .i64 (d)), (3, .pointer (some ⟨g1_0, 0, none⟩)), (6, .int .i64 (0)), (16, .bool false), (7, .int .i64 ((i : Int))), (25, .bool false), (45, .bool true), (1, .int .i64 (stepM t d k m)), (8, .int .i64 (((k + 1 : Nat) : Int)))] := hS
          have HH12 : Held w w12 [⟨g1_0, (), 6, (t).sc, 25⟩] := hH
          clear hS hH HS11 HH11
          refine then_ ?_
          have hSq1' : Sl _ 67 [(0, .agg (FR () 6 ((t).sc))), (2, .int .i64 (d)), (3, .pointer (some ⟨g1_0, 0, none⟩)), (6, .int .i64 (0)), (16, .bool false), (7, .int .i64 ((i : Int))), (25, .bool false), (8, .int .i64 (((k + 1 : Nat) : Int))), (1, .int .i64 (stepM t d k m))] := yA HS12 [0, 1, 2, 3, 4, 5, 6, 9, 8] (by rfl)
          have hHq1' : Held w _ [⟨g1_0, (), 6, (t).sc, 25⟩] := yD HH12 1 rfl
          exact ⟨⟨k + 1, _, by omega, it_next hWk (by omega) (of_decide_eq_true hr4), hSq1', hHq1'⟩, by rw [(hSq1'.get 7 rfl)]; show t.ml - (((k + 1 : Nat) : Int)).toNat < t.ml - k; omega⟩
    · skip
      have hlti : i < t.ll := by have := of_decide_eq_true hr2; omega
      obtain ⟨r5, hr5⟩ : ∃ r : Bool, (decide ((0 : Int) ≤ l)) = r := ⟨_, rfl⟩
      refine wp_seq ?_
      have hLo : LOk [(0, 17, .val (.int .i64 ((i : Int)))), (1, 18, .val (.pointer (some ⟨g1_0, 4, none⟩))), (2, 19, .val (.slice ((t).xl) ((t).ll) ((t).cl))), (3, 20, .val (.int .i64 (((t).ll : Int)))), (4, 21, .val (.bool true)), (5, 22, .val (.bool true)), (6, 23, .val (.int .i64 (l))), (7, 24, .val (.bool r5)), (8, 25, .val (.bool r5))] := lok (by rfl) (by rfl)
      refine zH (wE := w) (sz := 67) (n := 9) [0, 1, 3, 7, 15, 31, 63, 127, 255] [(0, .val (.agg (FR () 6 ((t).sc)))), (2, .val (.int .i64 (d))), (3, .val (.pointer (some ⟨g1_0, 0, none⟩))), (6, .val (.int .i64 (0))), (16, .val (.bool false)), (7, .val (.int .i64 ((i : Int)))), (1, .val (.int .i64 (l))), (25, .val (.bool r5))] [(0, 17, .val (.int .i64 ((i : Int)))), (1, 18, .val (.pointer (some ⟨g1_0, 4, none⟩))), (2, 19, .val (.slice ((t).xl) ((t).ll) ((t).cl))), (3, 20, .val (.int .i64 (((t).ll : Int)))), (4, 21, .val (.bool true)), (5, 22, .val (.bool true)), (6, 23, .val (.int .i64 (l))), (7, 24, .val (.bool r5)), (8, 25, .val (.bool r5))] [⟨g1_0, none, none, (), 6, (t).sc, (t).sc, 25⟩] rfl (by rfl) HHq0 rfl rfl hLo rfl HSq0 (slS 0 rfl rfl (slS 1 rfl rfl (slS 2 rfl rfl (slS 3 rfl rfl (slS 4 rfl rfl (slS 5 rfl rfl (slS 6 rfl rfl (slL 8 (d := 8) rfl (trivial))))))))) ?_ ?_
      · show ∀ i ∈ [0, 1, 2, 3, 4, 5, 6, 7, 8], _
        refine zA (zB 0 _ rfl rfl hLo rfl rfl (fun _ _ _ _ => rfl) (fun b G w hb ho => zD (.inl rfl) (zG rfl (HSq0.get 5 rfl)))) ?_
        refine zA (zB 1 _ rfl rfl hLo rfl rfl (fun _ _ _ _ => rfl) (fun b G w hb ho => zJ rfl (zG rfl (HSq0.get 2 rfl)) (by kernel_rfl))) ?_
        refine zA (zW 2 0 _ _ rfl rfl rfl hLo rfl rfl (fun _ _ _ _ => rfl) (by rfl) (by rfl) (fun b G w hb ho hr => zP hr (Nat.le_of_ble_eq_true rfl) Tryd.underlying22 rfl rfl (zC hLo 1 rfl HSq0.1 rfl (hb 1 (by rfl))))) ?_
        refine zA (zB 3 _ rfl rfl hLo rfl rfl (fun _ _ _ _ => rfl) (fun b G w hb ho => yF Tryd.underlying22 rfl (zC hLo 2 rfl HSq0.1 rfl (hb 2 (by rfl))))) ?_
        refine zA (zB 4 _ rfl rfl hLo rfl rfl (fun _ _ _ _ => rfl) (fun b G w hb ho => zI rfl (zC hLo 0 rfl HSq0.1 rfl (hb 0 (by rfl))) (zC hLo 3 rfl HSq0.1 rfl (hb 3 (by rfl))) (rb_lss hr2 _ _ _))) ?_
        refine zA (zB 5 _ rfl rfl hLo rfl rfl (fun _ _ _ _ => rfl) (fun b G w hb ho => zD (.inl rfl) (zC hLo 4 rfl HSq0.1 rfl (hb 4 (by rfl))))) ?_
        refine zA (zB 6 _ rfl rfl hLo rfl rfl (fun b G hb ho => zE rfl rfl rfl HSq0.1 rfl (zC hLo 5 rfl HSq0.1 rfl (hb 5 (by rfl))) rfl) (fun b G w hb ho => zD (.inl rfl) (zG rfl (HSq0.get 6 rfl)))) ?_
        refine zA (zB 7 _ rfl rfl hLo rfl rfl (fun b G hb ho => zE rfl rfl rfl HSq0.1 rfl (zC hLo 5 rfl HSq0.1 rfl (hb 5 (by rfl))) rfl) (fun b G w hb ho => zI rfl (zC hLo 6 rfl HSq0.1 rfl (hb 6 (by rfl))) (rfl) (rb_geq hr5 _ _ _))) ?_
        refine zA (zB 8 _ rfl rfl hLo rfl rfl (fun _ _ _ _ => rfl) (fun b G w hb ho => zL rfl (zC hLo 5 rfl HSq0.1 rfl (hb 5 (by rfl))) (zC hLo 7 rfl HSq0.1 rfl (hb 7 (by rfl))))) ?_
        exact zF
      clear hLo
      intro G a13 w13 hS hH
      have HS13 : Sl a13 67 [(0, .agg (FR () 6 ((t).sc))), (2, .int .i64 (d)), (3, .pointer (some ⟨g1_0, 0, none⟩)), (6, .int .i64 (0)), (16, .bool false), (7, .int .i64 ((i : Int))), (1, .int .i64 (l)), (25, .bool r5)] := hS
      have HH13 : Held w w13 [⟨g1_0, (), 6, (t).sc, 25⟩] := hH
      clear hS hH HSq0 HHq0
      refine then_ ?_
      cases r5
      · skip
        have hl := it_end2 hWi (of_decide_eq_false hr5)
        refine wp_cond_false (HS13.get 7 rfl) ?_
        refine wp_exit ?_
        refine zY ?_
        refine zY ?_
        refine yE ?_
        refine then_ ?_
        refine wp_seq ?_
        refine wp_seq ?_
        have hLo : LOk [(0, 8, .val (.int .i64 (0)))] := lok (by rfl) (by rfl)
        refine zH (wE := w) (sz := 67) (n := 1) [0] [(0, .val (.agg (FR () 6 ((t).sc)))), (2, .val (.int .i64 (d))), (3, .val (.pointer (some ⟨g1_0, 0, none⟩))), (6, .val (.int .i64 (0))), (16, .val (.bool false)), (7, .val (.int .i64 ((i : Int)))), (1, .val (.int .i64 (l))), (25, .val (.bool false)), (8, .val (.int .i64 (0)))] [(0, 8, .val (.int .i64 (0)))] [⟨g1_0, none, none, (), 6, (t).sc, (t).sc, 25⟩] rfl (by rfl) HH13 rfl rfl hLo rfl HS13 (slS 0 rfl rfl (slS 1 rfl rfl (slS 2 rfl rfl (slS 3 rfl rfl (slS 4 rfl rfl (slS 5 rfl rfl (slS 6 rfl rfl (slS 7 rfl rfl (slL 0 (d := 0) rfl (trivial)))))))))) ?_ ?_
        · show ∀ i ∈ [0], _
          refine zA (zB 0 _ rfl rfl hLo rfl rfl (fun _ _ _ _ => rfl) (fun b G w hb ho => zD (.inr rfl) (rfl))) ?_
          exact zF
        clear hLo
        intro G a14 w14 hS hH
        have HS14 : Sl a14 67 [(0, .agg (FR () 6 ((t).sc))), (2, .int .i64 (d)), (3, .pointer (some ⟨g1_0, 0, none⟩)), (6, .int .i64 (0)), (16, .bool false), (7, .int .i64 ((i : Int))), (1, .int .i64 (l)), (25, .bool false), (8, .int .i64 (0))] := hS
        have HH14 : Held w w14 [⟨g1_0, (), 6, (t).sc, 25⟩] := hH
        clear hS hH HS13 HH13
        refine then_ ?_
        refine wp_block ?_
        have hSq2 : Sl _ 67 [(0, .agg (FR () 6 ((t).sc))), (2, .int .i64 (d)), (3, .pointer (some ⟨g1_0, 0, none⟩)), (6, .int .i64 (0)), (16, .bool false), (7, .int .i64 ((i : Int))), (25, .bool false), (8, .int .i64 (0)), (1, .int .i64 (l))] := yA HS14 [0, 1, 2, 3, 4, 5, 7, 8, 6] (by rfl)
        refine wp_loop (fun a w' => ∃ k : Nat, ∃ m : Int, k ≤ t.ml ∧ iterW (stepM t d) t.ml (t.ml - k) m = iterW (stepM t d) t.ml t.ml (leftL t left d) ∧ Sl a 67 [(0, .agg (FR () 6 ((t).sc))), (2, .int .i64 (d)), (3, .pointer (some ⟨g1_0, 0, none⟩)), (6, .int .i64 (0)), (16, .bool false), (7, .int .i64 ((i : Int))), (25, .bool false), (8, .int .i64 ((k : Int))), (1, .int .i64 (m))] ∧ Held w w' [⟨g1_0, (), 6, (t).sc, 25⟩]) (fun a w' => t.ml - (intOf (a.eval (.tmp 8))).toNat) ⟨0, l, Nat.zero_le _, by rw [hl]; rfl, hSq2, HH14⟩ ?_
        clear hSq2 HS14 HH14
        rintro aq2 wq2 ⟨k, m, hlek, hWk, HSq2, HHq2⟩
        have hm : (intOf (aq2.eval (.tmp 8))).toNat = k := by rw [(HSq2.get 7 rfl)]; rfl
        rw [hm]
        clear hm
        refine wp_seq ?_
        obtain ⟨r6, hr6⟩ : ∃ r : Bool, (decide (((k : Int) : Int) < ((t).ml : Int))) = r := ⟨_, rfl⟩
        cases r6
        · skip
          have hm := it_end1 hWk (by have hq := of_decide_eq_false hr6; omega)
          refine wp_seq ?_
          have hLo : LOk [(0, 37, .val (.int .i64 ((k : Int)))), (1, 38, .val (.pointer (some ⟨g1_0, 5, none⟩))), (2, 39, .val (.slice ((t).xm) ((t).ml) ((t).cm))), (3, 40, .val (.int .i64 (((t).ml : Int)))), (4, 41, .val (.bool false)), (5, 42, .val (.bool false)), (6, 43, .val (undef)), (7, 44, .val (undef)), (8, 45, .val (.bool false))] := lok (by rfl) (by rfl)
          refine zH (wE := w) (sz := 67) (n := 9) [0, 1, 3, 7, 15, 31, 63, 127, 255] [(0, .val (.agg (FR () 6 ((t).sc)))), (2, .val (.int .i64 (d))), (3, .val (.pointer (some ⟨g1_0, 0, none⟩))), (6, .val (.int .i64 (0))), (16, .val (.bool false)), (7, .val (.int .i64 ((i : Int)))), (25, .val (.bool false)), (8, .val (.int .i64 ((k : Int)))), (1, .val (.int .i64 (m))), (45, .val (.bool false))] [(0, 37, .val (.int .i64 ((k : Int)))), (1, 38, .val (.pointer (some ⟨g1_0, 5, none⟩))), (2, 39, .val (.slice ((t).xm) ((t).ml) ((t).cm))), (3, 40, .val (.int .i64 (((t).ml : Int)))), (4, 41, .val (.bool false)), (5, 42, .val (.bool false)), (6, 43, .val (undef)), (7, 44, .val (undef)), (8, 45, .val (.bool false))] [⟨g1_0, none, none, (), 6, (t).sc, (t).sc, 25⟩] rfl (by rfl) HHq2 rfl rfl hLo rfl HSq2 (slS 0 rfl rfl (slS 1 rfl rfl (slS 2 rfl rfl (slS 3 rfl rfl (slS 4 rfl rfl (slS 5 rfl rfl (slS 6 rfl rfl (slS 7 rfl rfl (slS 8 rfl rfl (slL 8 (d := 8) rfl (trivial))))))))))) ?_ ?_
          · show ∀ i ∈ [0, 1, 2, 3, 4, 5, 6, 7, 8], _
            refine zA (zB 0 _ rfl rfl hLo rfl rfl (fun _ _ _ _ => rfl) (fun b G w hb ho => zD (.inl rfl) (zG rfl (HSq2.get 7 rfl)))) ?_
            refine zA (zB 1 _ rfl rfl hLo rfl rfl (fun _ _ _ _ => rfl) (fun b G w hb ho => zJ rfl (zG rfl (HSq2.get 2 rfl)) (by kernel_rfl))) ?_
            refine zA (zW 2 0 _ _ rfl rfl rfl hLo rfl rfl (fun _ _ _ _ => rfl) (by rfl) (by rfl) (fun b G w hb ho hr => zP hr (Nat.le_of_ble_eq_true rfl) Tryd.underlying23 rfl rfl (zC hLo 1 rfl HSq2.1 rfl (hb 1 (by rfl))))) ?_
            refine zA (zB 3 _ rfl rfl hLo rfl rfl (fun _ _ _ _ => rfl) (fun b G w hb ho => yF Tryd.underlying23 rfl (zC hLo 2 rfl HSq2.1 rfl (hb 2 (by rfl))))) ?_
            refine zA (zB 4 _ rfl rfl hLo rfl rfl (fun _ _ _ _ => rfl) (fun b G w hb ho => zI rfl (zC hLo 0 rfl HSq2.1 rfl (hb 0 (by rfl))) (zC hLo 3 rfl HSq2.1 rfl (hb 3 (by rfl))) (rb_lss hr6 _ _ _))) ?_
            refine zA (zB 5 _ rfl rfl hLo rfl rfl (fun _ _ _ _ => rfl) (fun b G w hb ho => zD (.inl rfl) (zC hLo 4 rfl HSq2.1 rfl (hb 4 (by rfl))))) ?_
            refine zA (zN 6 rfl rfl hLo rfl rfl (fun b G hb ho => zE rfl rfl rfl HSq2.1 rfl (zC hLo 5 rfl HSq2.1 rfl (hb 5 (by rfl))) rfl)) ?_
            refine zA (zN 7 rfl rfl hLo rfl rfl (fun b G hb ho => zE rfl rfl rfl HSq2.1 rfl (zC hLo 5 rfl HSq2.1 rfl (hb 5 (by rfl))) rfl)) ?_
            refine zA (zB 8 _ rfl rfl hLo rfl rfl (fun _ _ _ _ => rfl) (fun b G w hb ho => zL rfl (zC hLo 5 rfl HSq2.1 rfl (hb 5 (by rfl))) (rfl))) ?_
            exact zF
          clear hLo
          intro G a15 w15 hS hH
          have HS15 : Sl a15 67 [(0, .agg (FR () 6 ((t).sc))), (2, .int .i64 (d)), (3, .pointer (some ⟨g1_0, 0, none⟩)), (6, .int .i64 (0)), (16, .bool false), (7, .int .i64 ((i : Int))), (25, .bool false), (8, .int .i64 ((k : Int))), (1, .int .i64 (m)), (45, .bool false)] := hS
          have HH15 : Held w w15 [⟨g1_0, (), 6, (t).sc, 25⟩] := hH
          clear hS hH HSq2 HHq2
          refine then_ ?_
          refine wp_cond_false (HS15.get 9 rfl) ?_
          refine wp_exit ?_
          refine zY ?_
          refine zY ?_
          refine yE ?_
          refine then_ ?_
          refine wp_seq ?_
          have hLo : LOk [(0, 66, .val (.int .i64 (m))), (1, 6, .val (.int .i64 (m)))] := lok (by rfl) (by rfl)
          refine zH (wE := w) (sz := 67) (n := 2) [0, 1] [(0, .val (.agg (FR () 6 ((t).sc)))), (2, .val (.int .i64 (d))), (3, .val (.pointer (some ⟨g1_0, 0, none⟩))), (16, .val (.bool false)), (7, .val (.int .i64 ((i : Int)))), (25, .val (.bool false)), (8, .val (.int .i64 ((k : Int)))), (1, .val (.int .i64 (m))), (45, .val (.bool false)), (6, .val (.int .i64 (m)))] [(0, 66, .val (.int .i64 (m))), (1, 6, .val (.int .i64 (m)))] [⟨g1_0, none, none, (), 6, (t).sc, (t).sc, 25⟩] rfl (by rfl) HH15 rfl rfl hLo rfl HS15 (slS 0 rfl rfl (slS 1 rfl rfl (slS 2 rfl rfl (slS 4 rfl rfl (slS 5 rfl rfl (slS 6 rfl rfl (slS 7 rfl rfl (slS 8 rfl rfl (slS 9 rfl rfl (slL 1 (d := 1) rfl (trivial))))))))))) ?_ ?_
          · show ∀ i ∈ [0, 1], _
            refine zA (zB 0 _ rfl rfl hLo rfl rfl (fun _ _ _ _ => rfl) (fun b G w hb ho => zD (.inl rfl) (zG rfl (HS15.get 8 rfl)))) ?_
            refine zA (zB 1 _ rfl rfl hLo rfl rfl (fun _ _ _ _ => rfl) (fun b G w hb ho => zD (.inr rfl) (zC hLo 0 rfl HS15.1 rfl (hb 0 (by rfl))))) ?_
            exact zF
          clear hLo
          intro G a16 w16 hS hH
          have HS16 : Sl a16 67 [(0, .agg (FR () 6 ((t).sc))), (2, .int .i64 (d)), (3, .pointer (some ⟨g1_0, 0, none⟩)), (16, .bool false), (7, .int .i64 ((i : Int))), (25, .bool false), (8, .int .i64 ((k : Int))), (1, .int .i64 (m)), (45, .bool false), (6, .int .i64 (m))] := hS
          have HH16 : Held w w16 [⟨g1_0, (), 6, (t).sc, 25⟩] := hH
          clear hS hH HS15 HH15
          refine then_ ?_
          refine wp_ret ?_
          repeat (first | refine zR ?_ | refine zK ?_)
          exact b_tmp rfl HS16.2.1 (HS16.get 9 rfl) ⟨weigh_ret hIn left d hr1 hm, HH16.1⟩
        · skip
          have hltk : k < t.ml := by have := of_decide_eq_true hr6; omega
          obtain ⟨r7, hr7⟩ : ∃ r : Bool, (decide ((0 : Int) ≤ m)) = r := ⟨_, rfl⟩
          refine wp_seq ?_
          have hLo : LOk [(0, 37, .val (.int .i64 ((k : Int)))), (1, 38, .val (.pointer (some ⟨g1_0, 5, none⟩))), (2, 39, .val (.slice ((t).xm) ((t).ml) ((t).cm))), (3, 40, .val (.int .i64 (((t).ml : Int)))), (4, 41, .val (.bool true)), (5, 42, .val (.bool true)), (6, 43, .val (.int .i64 (m))), (7, 44, .val (.bool r7)), (8, 45, .val (.bool r7))] := lok (by rfl) (by rfl)
          refine zH (wE := w) (sz := 67) (n := 9) [0, 1, 3, 7, 15, 31, 63, 127, 255] [(0, .val (.agg (FR () 6 ((t).sc)))), (2, .val (.int .i64 (d))), (3, .val (.pointer (some ⟨g1_0, 0, none⟩))), (6, .val (.int .i64 (0))), (16, .val (.bool false)), (7, .val (.int .i64 ((i : Int)))), (25, .val (.bool false)), (8, .val (.int .i64 ((k : Int)))), (1, .val (.int .i64 (m))), (45, .val (.bool r7))] [(0, 37, .val (.int .i64 ((k : Int)))), (1, 38, .val (.pointer (some ⟨g1_0, 5, none⟩))), (2, 39, .val (.slice ((t).xm) ((t).ml) ((t).cm))), (3, 40, .val (.int .i64 (((t).ml : Int)))), (4, 41, .val (.bool true)), (5, 42, .val (.bool true)), (6, 43, .val (.int .i64 (m))), (7, 44, .val (.bool r7)), (8, 45, .val (.bool r7))] [⟨g1_0, none, none, (), 6, (t).sc, (t).sc, 25⟩] rfl (by rfl) HHq2 rfl rfl hLo rfl HSq2 (slS 0 rfl rfl (slS 1 rfl rfl (slS 2 rfl rfl (slS 3 rfl rfl (slS 4 rfl rfl (slS 5 rfl rfl (slS 6 rfl rfl (slS 7 rfl rfl (slS 8 rfl rfl (slL 8 (d := 8) rfl (trivial))))))))))) ?_ ?_
          · show ∀ i ∈ [0, 1, 2, 3, 4, 5, 6, 7, 8], _
            refine zA (zB 0 _ rfl rfl hLo rfl rfl (fun _ _ _ _ => rfl) (fun b G w hb ho => zD (.inl rfl) (zG rfl (HSq2.get 7 rfl)))) ?_
            refine zA (zB 1 _ rfl rfl hLo rfl rfl (fun _ _ _ _ => rfl) (fun b G w hb ho => zJ rfl (zG rfl (HSq2.get 2 rfl)) (by kernel_rfl))) ?_
            refine zA (zW 2 0 _ _ rfl rfl rfl hLo rfl rfl (fun _ _ _ _ => rfl) (by rfl) (by rfl) (fun b G w hb ho hr => zP hr (Nat.le_of_ble_eq_true rfl) Tryd.underlying23 rfl rfl (zC hLo 1 rfl HSq2.1 rfl (hb 1 (by rfl))))) ?_
            refine zA (zB 3 _ rfl rfl hLo rfl rfl (fun _ _ _ _ => rfl) (fun b G w hb ho => yF Tryd.underlying23 rfl (zC hLo 2 rfl HSq2.1 rfl (hb 2 (by rfl))))) ?_
            refine zA (zB 4 _ rfl rfl hLo rfl rfl (fun _ _ _ _ => rfl) (fun b G w hb ho => zI rfl (zC hLo 0 rfl HSq2.1 rfl (hb 0 (by rfl))) (zC hLo 3 rfl HSq2.1 rfl (hb 3 (by rfl))) (rb_lss hr6 _ _ _))) ?_
            refine zA (zB 5 _ rfl rfl hLo rfl rfl (fun _ _ _ _ => rfl) (fun b G w hb ho => zD (.inl rfl) (zC hLo 4 rfl HSq2.1 rfl (hb 4 (by rfl))))) ?_
            refine zA (zB 6 _ rfl rfl hLo rfl rfl (fun b G hb ho => zE rfl rfl rfl HSq2.1 rfl (zC hLo 5 rfl HSq2.1 rfl (hb 5 (by rfl))) rfl) (fun b G w hb ho => zD (.inl rfl) (zG rfl (HSq2.get 8 rfl)))) ?_
            refine zA (zB 7 _ rfl rfl hLo rfl rfl (fun b G hb ho => zE rfl rfl rfl HSq2.1 rfl (zC hLo 5 rfl HSq2.1 rfl (hb 5 (by rfl))) rfl) (fun b G w hb ho => zI rfl (zC hLo 6 rfl HSq2.1 rfl (hb 6 (by rfl))) (rfl) (rb_geq hr7 _ _ _))) ?_
            refine zA (zB 8 _ rfl rfl hLo rfl rfl (fun _ _ _ _ => rfl) (fun b G w hb ho => zL rfl (zC hLo 5 rfl HSq2.1 rfl (hb 5 (by rfl))) (zC hLo 7 rfl HSq2.1 rfl (hb 7 (by rfl))))) ?_
            exact zF
          clear hLo
          intro G a17 w17 hS hH
          have HS17 : Sl a17 67 [(0, .agg (FR () 6 ((t).sc))), (2, .int .i64 (d)), (3, .pointer (some ⟨g1_0, 0, none⟩)), (6, .int .i64 (0)), (16, .bool false), (7, .int .i64 ((i : Int))), (25, .bool false), (8, .int .i64 ((k : Int))), (1, .int .i64 (m)), (45, .bool r7)] := hS
          have HH17 : Held w w17 [⟨g1_0, (), 6, (t).sc, 25⟩] := hH
          clear hS hH HSq2 HHq2
          refine then_ ?_
          cases r7
          · skip
            have hm := it_end2 hWk (of_decide_eq_false hr7)
            refine wp_cond_false (HS17.get 9 rfl) ?_
            refine wp_exit ?_
            refine zY ?_
            refine zY ?_
            refine yE ?_
            refine then_ ?_
            refine wp_seq ?_
            have hLo : LOk [(0, 66, .val (.int .i64 (m))), (1, 6, .val (.int .i64 (m)))] := lok (by rfl) (by rfl)
            refine zH (wE := w) (sz := 67) (n := 2) [0, 1] [(0, .val (.agg (FR () 6 ((t).sc)))), (2, .val (.int .i64 (d))), (3, .val (.pointer (some ⟨g1_0, 0, none⟩))), (16, .val (.bool false)), (7, .val (.int .i64 ((i : Int)))), (25, .val (.bool false)), (8, .val (.int .i64 ((k : Int)))), (1, .val (.int .i64 (m))), (45, .val (.bool false)), (6, .val (.int .i64 (m)))] [(0, 66, .val (.int .i64 (m))), (1, 6, .val (.int .i64 (m)))] [⟨g1_0, none, none, (), 6, (t).sc, (t).sc, 25⟩] rfl (by rfl) HH17 rfl rfl hLo rfl HS17 (slS 0 rfl rfl (slS 1 rfl rfl (slS 2 rfl rfl (slS 4 rfl rfl (slS 5 rfl rfl (slS 6 rfl rfl (slS 7 rfl rfl (slS 8 rfl rfl (slS 9 rfl rfl (slL 1 (d := 1) rfl (trivial))))))))))) ?_ ?_
            · show ∀ i ∈ [0, 1], _
              refine zA (zB 0 _ rfl rfl hLo rfl rfl (fun _ _ _ _ => rfl) (fun b G w hb ho => zD (.inl rfl) (zG rfl (HS17.get 8 rfl)))) ?_
              refine zA (zB 1 _ rfl rfl hLo rfl rfl (fun _ _ _ _ => rfl) (fun b G w hb ho => zD (.inr rfl) (zC hLo 0 rfl HS17.1 rfl (hb 0 (by rfl))))) ?_
              exact zF
            clear hLo
            intro G a18 w18 hS hH
            have HS18 : Sl a18 67 [(0, .agg (FR () 6 ((t).sc))), (2, .int .i64 (d)), (3, .pointer (some ⟨g1_0, 0, none⟩)), (16, .bool false), (7, .int .i64 ((i : Int))), (25, .bool false), (8, .int .i64 ((k : Int))), (1, .int .i64 (m)), (45, .bool false), (6, .int .i64 (m))] := hS
            have HH18 : Held w w18 [⟨g1_0, (), 6, (t).sc, 25⟩] := hH
            clear hS hH HS17 HH17
            refine then_ ?_
            refine wp_ret ?_
            repeat (first | refine zR ?_ | refine zK ?_)
            exact b_tmp rfl HS18.2.1 (HS18.get 9 rfl) ⟨weigh_ret hIn left d hr1 hm, HH18.1⟩
          · skip
            refine wp_cond_true (HS17.get 9 rfl) ?_
            refine wp_skip ?_
            refine then_ ?_
            refine wp_seq ?_
            refine wp_block ?_
            obtain ⟨⟨a1, hx1, hk1, hv1⟩, _, hn1⟩ := (hIn).mems (i := k) (by omega)
            obtain ⟨⟨a2, hx2, hk2, hv2⟩, _, hn2⟩ := (hIn).mems (i := k) (by omega)
            have hLo : LOk [(0, 48, .val (.pointer (some ⟨g1_0, 5, none⟩))), (1, 49, .val (.slice ((t).xm) ((t).ml) ((t).cm))), (2, 50, .val (.int .i64 ((k : Int)))), (3, 51, .val (.pointer (some (a1.add ((k) * 7))))), (4, 52, .val (.pointer (some ((a1.add ((k) * 7)).add 1)))), (5, 53, .val (.agg (FR () 6 (((t).mem (k)).sc)))), (6, 54, .val (.int .i64 (m))), (7, 55, .val (.pointer (some ⟨g1_0, 5, none⟩))), (8, 56, .val (.slice ((t).xm) ((t).ml) ((t).cm))), (9, 57, .val (.int .i64 ((k : Int)))), (10, 58, .val (.pointer (some (a2.add ((k) * 7))))), (11, 59, .val (.pointer (some (a2.add ((k) * 7))))), (12, 60, .val (.string ((t).key (k)))), (13, 61, .val (.int .i64 ((((t).key (k)).size : Int)))), (14, 62, .val (.int .i64 (IntKind.i64.wrap (m - (((t).key (k)).size : Int))))), (15, 63, .val (.int .i64 (d))), (16, 64, .val (.int .i64 (IntKind.i64.wrap (d - 1)))), (17, 65, .val (.int .i64 (stepM t d k m))), (18, 1, .val (.int .i64 (stepM t d k m)))] := lok (by rfl) (by rfl)
            refine region_ (wE := w) (sz := 67) (n := 19) (B := [0, 1, 0, 7, 15, 31, 0, 0, 128, 0, 896, 1920, 3968, 8064, 16320, 0, 32768, 131071, 262143]) [0, 1, 2, 3, 4, 5, 6, 7, 8, 9, 10, 11, 12, 13, 14, 15, 16, 17, 18] [(0, .val (.agg (FR () 6 ((t).sc)))), (2, .val (.int .i64 (d))), (3, .val (.pointer (some ⟨g1_0, 0, none⟩))), (6, .val (.int .i64 (0))), (16, .val (.bool false)), (7, .val (.int .i64 ((i : Int)))), (25, .val (.bool false)), (8, .val (.int .i64 ((k : Int)))), (45, .val (.bool true)), (1, .val (.int .i64 (stepM t d k m)))] [(0, 48, .val (.pointer (some ⟨g1_0, 5, none⟩))), (1, 49, .val (.slice ((t).xm) ((t).ml) ((t).cm))), (2, 50, .val (.int .i64 ((k : Int)))), (3, 51, .val (.pointer (some (a1.add ((k) * 7))))), (4, 52, .val (.pointer (some ((a1.add ((k) * 7)).add 1)))), (5, 53, .val (.agg (FR () 6 (((t).mem (k)).sc)))), (6, 54, .val (.int .i64 (m))), (7, 55, .val (.pointer (some ⟨g1_0, 5, none⟩))), (8, 56, .val (.slice ((t).xm) ((t).ml) ((t).cm))), (9, 57, .val (.int .i64 ((k : Int)))), (10, 58, .val (.pointer (some (a2.add ((k) * 7))))), (11, 59, .val (.pointer (some (a2.add ((k) * 7))))), (12, 60, .val (.string ((t).key (k)))), (13, 61, .val (.int .i64 ((((t).key (k)).size : Int)))), (14, 62, .val (.int .i64 (IntKind.i64.wrap (m - (((t).key (k)).size : Int))))), (15, 63, .val (.int .i64 (d))), (16, 64, .val (.int .i64 (IntKind.i64.wrap (d - 1)))), (17, 65, .val (.int .i64 (stepM t d k m))), (18, 1, .val (.int .i64 (stepM t d k m)))] [⟨g1_0, none, none, (), 6, (t).sc, (t).sc, 25⟩] (by rfl) rfl tabwgh_11 bitswgh_11 (by kernel_rfl) (by kernel_rfl) HH17 rfl rfl hLo rfl HS17 (slS 0 rfl rfl (slS 1 rfl rfl (slS 2 rfl rfl (slS 3 rfl rfl (slS 4 rfl rfl (slS 5 rfl rfl (slS 6 rfl rfl (slS 7 rfl rfl (slS 9 rfl rfl (slL 18 (d := 18) rfl (trivial))))))))))) ?_ ?_
            · show ∀ i ∈ [0, 1, 2, 3, 4, 5, 6, 7, 8, 9, 10, 11, 12, 13, 14, 15, 16, 17, 18], _
              refine zA (zB 0 _ rfl rfl hLo rfl rfl (fun _ _ _ _ => rfl) (fun b G w hb ho => zJ rfl (zG rfl (HS17.get 2 rfl)) (by kernel_rfl))) ?_
              refine zA (zW 1 0 _ _ rfl rfl rfl hLo rfl rfl (fun _ _ _ _ => rfl) (by rfl) (by rfl) (fun b G w hb ho hr => zP hr (Nat.le_of_ble_eq_true rfl) Tryd.underlying23 rfl rfl (zC hLo 0 rfl HS17.1 rfl (hb 0 (by rfl))))) ?_
              refine zA (zB 2 _ rfl rfl hLo rfl rfl (fun _ _ _ _ => rfl) (fun b G w hb ho => zD (.inl rfl) (zG rfl (HS17.get 7 rfl)))) ?_
              refine zA (zB 3 _ rfl rfl hLo rfl rfl (fun _ _ _ _ => rfl) (fun b G w hb ho => zU rfl (zC hLo 1 rfl HS17.1 rfl (hb 1 (by rfl))) (zC hLo 2 rfl HS17.1 rfl (hb 2 (by rfl))) (index_sl Tryd.underlying23 (by kernel_rfl) hx1 (by omega) _))) ?_
              refine zA (zB 4 _ rfl rfl hLo rfl rfl (fun _ _ _ _ => rfl) (fun b G w hb ho => zJ rfl (zC hLo 3 rfl HS17.1 rfl (hb 3 (by rfl))) (by kernel_rfl))) ?_
              refine zA (st_at 5 ((a1.add ((k) * 7)).add 1) rfl rfl rfl (fun _ _ _ _ => rfl) hLo rfl rfl Tryd.underlying25 (by kernel_rfl) rfl (at7v hv1) (fun b G hb ho => zC hLo 4 rfl HS17.1 rfl (hb 4 (by rfl)))) ?_
              refine zA (zB 6 _ rfl rfl hLo rfl rfl (fun _ _ _ _ => rfl) (fun b G w hb ho => zD (.inl rfl) (ev_pre hLo 18 rfl (ho 18 (by rfl)) (HS17.get 8 rfl)))) ?_
              refine zA (zB 7 _ rfl rfl hLo rfl rfl (fun _ _ _ _ => rfl) (fun b G w hb ho => zJ rfl (zG rfl (HS17.get 2 rfl)) (by kernel_rfl))) ?_
              refine zA (zW 8 0 _ _ rfl rfl rfl hLo rfl rfl (fun _ _ _ _ => rfl) (by rfl) (by rfl) (fun b G w hb ho hr => zP hr (Nat.le_of_ble_eq_true rfl) Tryd.underlying23 rfl rfl (zC hLo 7 rfl HS17.1 rfl (hb 7 (by rfl))))) ?_
              refine zA (zB 9 _ rfl rfl hLo rfl rfl (fun _ _ _ _ => rfl) (fun b G w hb ho => zD (.inl rfl) (zG rfl (HS17.get 7 rfl)))) ?_
              refine zA (zB 10 _ rfl rfl hLo rfl rfl (fun _ _ _ _ => rfl) (fun b G w hb ho => zU rfl (zC hLo 8 rfl HS17.1 rfl (hb 8 (by rfl))) (zC hLo 9 rfl HS17.1 rfl (hb 9 (by rfl))) (index_sl Tryd.underlying23 (by kernel_rfl) hx2 (by omega) _))) ?_
              refine zA (zB 11 _ rfl rfl hLo rfl rfl (fun _ _ _ _ => rfl) (fun b G w hb ho => zJ rfl (zC hLo 10 rfl HS17.1 rfl (hb 10 (by rfl))) (by kernel_rfl))) ?_
              refine zA (st_at1 12 (a2.add ((k) * 7)) _ rfl rfl rfl (fun _ _ _ _ => rfl) hLo rfl rfl Tryd.underlying9 rfl (hk2) (fun b G hb ho => zC hLo 11 rfl HS17.1 rfl (hb 11 (by rfl)))) ?_
              refine zA (zB 13 _ rfl rfl hLo rfl rfl (fun _ _ _ _ => rfl) (fun b G w hb ho => exec_lenS Tryd.underlying9 rfl (zC hLo 12 rfl HS17.1 rfl (hb 12 (by rfl))))) ?_
              refine zA (zB 14 _ rfl rfl hLo rfl rfl (fun _ _ _ _ => rfl) (fun b G w hb ho => zI rfl (zC hLo 6 rfl HS17.1 rfl (hb 6 (by rfl))) (zC hLo 13 rfl HS17.1 rfl (hb 13 (by rfl))) (rb_sub (rfl) _ _ _))) ?_
              refine zA (zB 15 _ rfl rfl hLo rfl rfl (fun _ _ _ _ => rfl) (fun b G w hb ho => zD (.inl rfl) (zG rfl (HS17.get 1 rfl)))) ?_
              refine zA (zB 16 _ rfl rfl hLo rfl rfl (fun _ _ _ _ => rfl) (fun b G w hb ho => zI rfl (zC hLo 15 rfl HS17.1 rfl (hb 15 (by rfl))) (rfl) (rb_sub (rfl) _ _ _))) ?_
              refine zA (yB 17 _ #[.agg (FR () 6 (((t).mem (k)).sc)), .int .i64 (IntKind.i64.wrap (m - (((t).key (k)).size : Int))), .int .i64 (IntKind.i64.wrap (d - 1))] rfl rfl rfl (fun _ _ _ _ => rfl) hLo rfl rfl Tryd.func28 rfl rfl (fun b G hb ho => args3 (zC hLo 5 rfl HS17.1 rfl (hb 5 (by rfl))) (zC hLo 14 rfl HS17.1 rfl (hb 14 (by rfl))) (zC hLo 16 rfl HS17.1 rfl (hb 16 (by rfl)))) (fun w hw => ihM k (by omega) _ ((hIn.mems (i := k) (by omega)).2.2.below hw) _ _)) ?_
              refine zA (zB 18 _ rfl rfl hLo rfl rfl (fun _ _ _ _ => rfl) (fun b G w hb ho => zD (.inr rfl) (zC hLo 17 rfl HS17.1 rfl (hb 17 (by rfl))))) ?_
              exact zF
            clear hLo
            intro G a19 w19 hS hH
            have HS19 : Sl a19 67 [(0, .agg (FR () 6 ((t).sc))), (2, .int .i64 (d)), (3, .pointer (some ⟨g1_0, 0, none⟩)), (6, .int .i64 (0)), (16, .bool false), (7, .int .i64 ((i : Int))), (25, .bool false), (8, .int .i64 ((k : Int))), (45, .bool true), (1, .int .i64 (stepM t d k m))] := hS
            have HH19 : Held w w19 [⟨g1_0, (), 6, (t).sc, 25⟩] := hH
            clear hS hH HS17 HH17
            refine zQ ?_
            refine then_ ?_
            have hLo : LOk [(0, 46, .val (.int .i64 ((k : Int)))), (1, 47, .val (.int .i64 (((k + 1 : Nat) : Int)))), (2, 8, .val (.int .i64 (((k + 1 : Nat) : Int))))] := lok (by rfl) (by rfl)
            refine zH (wE := w) (sz := 67) (n := 3) [0, 1, 3] [(0, .val (.agg (FR () 6 ((t).sc)))), (2, .val (.int .i64 (d))), (3, .val (.pointer (some ⟨g1_0, 0, none⟩))), (6, .val (.int .i64 (0))), (16, .val (.bool false)), (7, .val (.int .i64 ((i : Int)))), (25, .val (.bool false)), (45, .val (.bool true)), (1, .val (.int .i64 (stepM t d k m))), (8, .val (.int .i64 (((k + 1 : Nat) : Int))))] [(0, 46, .val (.int .i64 ((k : Int)))), (1, 47, .val (.int .i64 (((k + 1 : Nat) : Int)))), (2, 8, .val (.int .i64 (((k + 1 : Nat) : Int))))] [⟨g1_0, none, none, (), 6, (t).sc, (t).sc, 25⟩] rfl (by rfl) HH19 rfl rfl hLo rfl HS19 (slS 0 rfl rfl (slS 1 rfl rfl (slS 2 rfl rfl (slS 3 rfl rfl (slS 4 rfl rfl (slS 5 rfl rfl (slS 6 rfl rfl (slS 8 rfl rfl (slS 9 rfl rfl (slL 2 (d := 2) rfl (trivial))))))))))) ?_ ?_
            · show ∀ i ∈ [0, 1, 2], _
              refine zA (zB 0 _ rfl rfl hLo rfl rfl (fun _ _ _ _ => rfl) (fun b G w hb ho => zD (.inl rfl) (ev_pre hLo 2 rfl (ho 2 (by rfl)) (HS19.get 7 rfl)))) ?_
              refine zA (zB 1 _ rfl rfl hLo rfl rfl (fun _ _ _ _ => rfl) (fun b G w hb ho => zI rfl (zC hLo 0 rfl HS19.1 rfl (hb 0 (by rfl))) (rfl) (rb_add (w_nat (by omega) (by omega)) _ _ _))) ?_
              refine zA (zB 2 _ rfl rfl hLo rfl rfl (fun _ _ _ _ => rfl) (fun b G w hb ho => zD (.inr rfl) (zC hLo 1 rfl HS19.1 rfl (hb 1 (by rfl))))) ?_
              exact zF
            clear hLo
            intro G a20 w20 hS hH
            have HS20 : Sl a20 67 [(0, .agg (FR () 6 ((t).sc))), (2, .int .i64 (d)), (3, .pointer (some ⟨g1_0, 0, none⟩)), (6, .int .i64 (0)), (16, .bool false), (7, .int .i64 ((i : Int))), (25, .bool false), (45, .bool true), (1, .int .i64 (stepM t d k m)), (8, .int .i64 (((k + 1 : Nat) : Int)))] := hS
            have HH20 : Held w w20 [⟨g1_0, (), 6, (t).sc, 25⟩] := hH
            clear hS hH HS19 HH19
            refine then_ ?_
            have hSq2' : Sl _ 67 [(0, .agg (FR () 6 ((t).sc))), (2, .int .i64 (d)), (3, .pointer (some ⟨g1_0, 0, none⟩)), (6, .int .i64 (0)), (16, .bool false), (7, .int .i64 ((i : Int))), (25, .bool false), (8, .int .i64 (((k + 1 : Nat) : Int))), (1, .int .i64 (stepM t d k m))] := yA HS20 [0, 1, 2, 3, 4, 5, 6, 9, 8] (by rfl)
            have hHq2' : Held w _ [⟨g1_0, (), 6, (t).sc, 25⟩] := yD HH20 1 rfl
            exact ⟨⟨k + 1, _, by omega, it_next hWk (by omega) (of_decide_eq_true hr7), hSq2', hHq2'⟩, by rw [(hSq2'.get 7 rfl)]; show t.ml - (((k + 1 : Nat) : Int)).toNat < t.ml - k; omega⟩
      · skip
        refine wp_cond_true (HS13.get 7 rfl) ?_
        refine wp_skip ?_
        refine then_ ?_
        refine wp_seq ?_
        refine wp_block ?_
        obtain ⟨⟨a1, hx1, hv1⟩, hn1⟩ := (hIn).elms (i := i) (by omega)
        have hLo : LOk [(0, 28, .val (.pointer (some ⟨g1_0, 4, none⟩))), (1, 29, .val (.slice ((t).xl) ((t).ll) ((t).cl))), (2, 30, .val (.int .i64 ((i : Int)))), (3, 31, .val (.pointer (some (a1.add ((i) * 6))))), (4, 32, .val (.agg (FR () 6 (((t).elm (i)).sc)))), (5, 33, .val (.int .i64 (l))), (6, 34, .val (.int .i64 (d))), (7, 35, .val (.int .i64 (IntKind.i64.wrap (d - 1)))), (8, 36, .val (.int .i64 (stepL t d i l))), (9, 1, .val (.int .i64 (stepL t d i l)))] := lok (by rfl) (by rfl)
        refine zH (wE := w) (sz := 67) (n := 10) [0, 1, 3, 7, 15, 31, 63, 127, 255, 511] [(0, .val (.agg (FR () 6 ((t).sc)))), (2, .val (.int .i64 (d))), (3, .val (.pointer (some ⟨g1_0, 0, none⟩))), (6, .val (.int .i64 (0))), (16, .val (.bool false)), (7, .val (.int .i64 ((i : Int)))), (25, .val (.bool true)), (1, .val (.int .i64 (stepL t d i l)))] [(0, 28, .val (.pointer (some ⟨g1_0, 4, none⟩))), (1, 29, .val (.slice ((t).xl) ((t).ll) ((t).cl))), (2, 30, .val (.int .i64 ((i : Int)))), (3, 31, .val (.pointer (some (a1.add ((i) * 6))))), (4, 32, .val (.agg (FR () 6 (((t).elm (i)).sc)))), (5, 33, .val (.int .i64 (l))), (6, 34, .val (.int .i64 (d))), (7, 35, .val (.int .i64 (IntKind.i64.wrap (d - 1)))), (8, 36, .val (.int .i64 (stepL t d i l))), (9, 1, .val (.int .i64 (stepL t d i l)))] [⟨g1_0, none, none, (), 6, (t).sc, (t).sc, 25⟩] rfl (by rfl) HH13 rfl rfl hLo rfl HS13 (slS 0 rfl rfl (slS 1 rfl rfl (slS 2 rfl rfl (slS 3 rfl rfl (slS 4 rfl rfl (slS 5 rfl rfl (slS 7 rfl rfl (slL 9 (d := 9) rfl (trivial))))))))) ?_ ?_
        · show ∀ i ∈ [0, 1, 2, 3, 4, 5, 6, 7, 8, 9], _
          refine zA (zB 0 _ rfl rfl hLo rfl rfl (fun _ _ _ _ => rfl) (fun b G w hb ho => zJ rfl (zG rfl (HS13.get 2 rfl)) (by kernel_rfl))) ?_
          refine zA (zW 1 0 _ _ rfl rfl rfl hLo rfl rfl (fun _ _ _ _ => rfl) (by rfl) (by rfl) (fun b G w hb ho hr => zP hr (Nat.le_of_ble_eq_true rfl) Tryd.underlying22 rfl rfl (zC hLo 0 rfl HS13.1 rfl (hb 0 (by rfl))))) ?_
          refine zA (zB 2 _ rfl rfl hLo rfl rfl (fun _ _ _ _ => rfl) (fun b G w hb ho => zD (.inl rfl) (zG rfl (HS13.get 5 rfl)))) ?_
          refine zA (zB 3 _ rfl rfl hLo rfl rfl (fun _ _ _ _ => rfl) (fun b G w hb ho => zU rfl (zC hLo 1 rfl HS13.1 rfl (hb 1 (by rfl))) (zC hLo 2 rfl HS13.1 rfl (hb 2 (by rfl))) (index_sl Tryd.underlying22 (by kernel_rfl) hx1 (by omega) _))) ?_
          refine zA (st_at 4 (a1.add ((i) * 6)) rfl rfl rfl (fun _ _ _ _ => rfl) hLo rfl rfl Tryd.underlying25 (by kernel_rfl) rfl (at6e hv1) (fun b G hb ho => zC hLo 3 rfl HS13.1 rfl (hb 3 (by rfl)))) ?_
          refine zA (zB 5 _ rfl rfl hLo rfl rfl (fun _ _ _ _ => rfl) (fun b G w hb ho => zD (.inl rfl) (ev_pre hLo 9 rfl (ho 9 (by rfl)) (HS13.get 6 rfl)))) ?_
          refine zA (zB 6 _ rfl rfl hLo rfl rfl (fun _ _ _ _ => rfl) (fun b G w hb ho => zD (.inl rfl) (zG rfl (HS13.get 1 rfl)))) ?_
          refine zA (zB 7 _ rfl rfl hLo rfl rfl (fun _ _ _ _ => rfl) (fun b G w hb ho => zI rfl (zC hLo 6 rfl HS13.1 rfl (hb 6 (by rfl))) (rfl) (rb_sub (rfl) _ _ _))) ?_
          refine zA (yB 8 _ #[.agg (FR () 6 (((t).elm (i)).sc)), .int .i64 (l), .int .i64 (IntKind.i64.wrap (d - 1))] rfl rfl rfl (fun _ _ _ _ => rfl) hLo rfl rfl Tryd.func28 rfl rfl (fun b G hb ho => args3 (zC hLo 4 rfl HS13.1 rfl (hb 4 (by rfl))) (zC hLo 5 rfl HS13.1 rfl (hb 5 (by rfl))) (zC hLo 7 rfl HS13.1 rfl (hb 7 (by rfl)))) (fun w hw => ihL i (by omega) _ ((hIn.elms (i := i) (by omega)).2.below hw) _ _)) ?_
          refine zA (zB 9 _ rfl rfl hLo rfl rfl (fun _ _ _ _ => rfl) (fun b G w hb ho => zD (.inr rfl) (zC hLo 8 rfl HS13.1 rfl (hb 8 (by rfl))))) ?_
          exact zF
        clear hLo
        intro G a21 w21 hS hH
        have HS21 : Sl a21 67 [(0, .agg (FR () 6 ((t).sc))), (2, .int .i64 (d)), (3, .pointer (some ⟨g1_0, 0, none⟩)), (6, .int .i64 (0)), (16, .bool false), (7, .int .i64 ((i : Int))), (25, .bool true), (1, .int .i64 (stepL t d i l))] := hS
        have HH21 : Held w w21 [⟨g1_0, (), 6, (t).sc, 25⟩] := hH
        clear hS hH HS13 HH13
        refine zQ ?_
        refine then_ ?_
        have hLo : LOk [(0, 26, .val (.int .i64 ((i : Int)))), (1, 27, .val (.int .i64 (((i + 1 : Nat) : Int)))), (2, 7, .val (.int .i64 (((i + 1 : Nat) : Int))))] := lok (by rfl) (by rfl)
        refine zH (wE := w) (sz := 67) (n := 3) [0, 1, 3] [(0, .val (.agg (FR () 6 ((t).sc)))), (2, .val (.int .i64 (d))), (3, .val (.pointer (some ⟨g1_0, 0, none⟩))), (6, .val (.int .i64 (0))), (16, .val (.bool false)), (25, .val (.bool true)), (1, .val (.int .i64 (stepL t d i l))), (7, .val (.int .i64 (((i + 1 : Nat) : Int))))] [(0, 26, .val (.int .i64 ((i : Int)))), (1, 27, .val (.int .i64 (((i + 1 : Nat) : Int)))), (2, 7, .val (.int .i64 (((i + 1 : Nat) : Int))))] [⟨g1_0, none, none, (), 6, (t).sc, (t).sc, 25⟩] rfl (by rfl) HH21 rfl rfl hLo rfl HS21 (slS 0 rfl rfl (slS 1 rfl rfl (slS 2 rfl rfl (slS 3 rfl rfl (slS 4 rfl rfl (slS 6 rfl rfl (slS 7 rfl rfl (slL 2 (d := 2) rfl (trivial))))))))) ?_ ?_
        · show ∀ i ∈ [0, 1, 2], _
          refine zA (zB 0 _ rfl rfl hLo rfl rfl (fun _ _ _ _ => rfl) (fun b G w hb ho => zD (.inl rfl) (ev_pre hLo 2 rfl (ho 2 (by rfl)) (HS21.get 5 rfl)))) ?_
          refine zA (zB 1 _ rfl rfl hLo rfl rfl (fun _ _ _ _ => rfl) (fun b G w hb ho => zI rfl (zC hLo 0 rfl HS21.1 rfl (hb 0 (by rfl))) (rfl) (rb_add (w_nat (by omega) (by omega)) _ _ _))) ?_
          refine zA (zB 2 _ rfl rfl hLo rfl rfl (fun _ _ _ _ => rfl) (fun b G w hb ho => zD (.inr rfl) (zC hLo 1 rfl HS21.1 rfl (hb 1 (by rfl))))) ?_
          exact zF
        clear hLo
        intro G a22 w22 hS hH
        have HS22 : Sl a22 67 [(0, .agg (FR () 6 ((t).sc))), (2, .int .i64 (d)), (3, .pointer (some ⟨g1_0, 0, none⟩)), (6, .int .i64 (0)), (16, .bool false), (25, .bool true), (1, .int .i64 (stepL t d i l)), (7, .int .i64 (((i + 1 : Nat) : Int)))] := hS
        have HH22 : Held w w22 [⟨g1_0, (), 6, (t).sc, 25⟩] := hH
        clear hS hH HS21 HH21
        refine then_ ?_
        have hSq0' : Sl _ 67 [(0, .agg (FR () 6 ((t).sc))), (2, .int .i64 (d)), (3, .pointer (some ⟨g1_0, 0, none⟩)), (6, .int .i64 (0)), (16, .bool false), (7, .int .i64 (((i + 1 : Nat) : Int))), (1, .int .i64 (stepL t d i l))] := yA HS22 [0, 1, 2, 3, 4, 7, 6] (by rfl)
        have hHq0' : Held w _ [⟨g1_0, (), 6, (t).sc, 25⟩] := yD HH22 1 rfl
        exact ⟨⟨i + 1, _, by omega, it_next hWi (by omega) (of_decide_eq_true hr5), hSq0', hHq0'⟩, by rw [(hSq0'.get 5 rfl)]; show t.ll - (((i + 1 : Nat) : Int)).toNat < t.ll - i; omega⟩
  · skip
    refine wp_cond_true (HS3.get 5 rfl) ?_
    refine wp_seq ?_
    have hLo : LOk [(0, 6, .val (.int .i64 (-1)))] := lok (by rfl) (by rfl)
    refine zH (wE := w) (sz := 67) (n := 1) [0] [(0, .val (.agg (FR () 6 ((t).sc)))), (2, .val (.int .i64 (d))), (3, .val (.pointer (some ⟨g1_0, 0, none⟩))), (1, .val (.int .i64 (IntKind.i64.wrap (IntKind.i64.wrap (left - 1) - (((t).txt).size : Int))))), (16, .val (.bool true)), (6, .val (.int .i64 (-1)))] [(0, 6, .val (.int .i64 (-1)))] [⟨g1_0, none, none, (), 6, (t).sc, (t).sc, 25⟩] rfl (by rfl) HH3 rfl rfl hLo rfl HS3 (slS 0 rfl rfl (slS 1 rfl rfl (slS 2 rfl rfl (slS 4 rfl rfl (slS 5 rfl rfl (slL 0 (d := 0) rfl (trivial))))))) ?_ ?_
    · show ∀ i ∈ [0], _
      refine zA (zB 0 _ rfl rfl hLo rfl rfl (fun _ _ _ _ => rfl) (fun b G w hb ho => zD (.inr rfl) (rfl))) ?_
      exact zF
    clear hLo
    intro G a23 w23 hS hH
    have HS23 : Sl a23 67 [(0, .agg (FR () 6 ((t).sc))), (2, .int .i64 (d)), (3, .pointer (some ⟨g1_0, 0, none⟩)), (1, .int .i64 (IntKind.i64.wrap (IntKind.i64.wrap (left - 1) - (((t).txt).size : Int)))), (16, .bool true), (6, .int .i64 (-1))] := hS
    have HH23 : Held w w23 [⟨g1_0, (), 6, (t).sc, 25⟩] := hH
    clear hS hH HS3 HH3
    refine then_ ?_
    refine wp_ret ?_
    repeat (first | refine zR ?_ | refine zK ?_)
    exact b_tmp rfl HS23.2.1 (HS23.get 5 rfl) ⟨weigh_ret0 hIn left d hr1, HH23.1⟩
theorem weigh_calls : ∀ (t : T) (w : World), In w t → ∀ left d, Calls Tryd.prog 28 #[t.val, .int .i64 left, .int .i64 d] w fun e w' => e = .returned (.int .i64 (weigh t left d)) ∧ Below w.heap.size w w' :=
  T.rec2 (Q := fun t => ∀ w : World, In w t → ∀ left d, Calls Tryd.prog 28 #[t.val, .int .i64 left, .int .i64 d] w fun e w' => e = .returned (.int .i64 (weigh t left d)) ∧ Below w.heap.size w w') fun t ihM ihL w hIn left d => weigh_step left d hIn ihM ihL
theorem great_ret1 {t : T} (h : decide ((weigh t 4096 60 : Int) < 0) = true) : Ending.returned (.bool true) = .returned (.bool (greatB t)) := by unfold greatB; rw [h]; rfl
theorem great_ret2 {t : T} {r : Bool} (h : decide ((weigh t 4096 60 : Int) < 0) = false) (h2 : risesB t = r) : Ending.returned (.bool (!r)) = .returned (.bool (greatB t)) := by unfold greatB; rw [h, h2]; rfl
theorem great_calls {w : World} {t : T} (hIn : In w t) : Calls Tryd.prog 11 #[.agg (FR () 6 ((t).sc))] w fun e w' => e = .returned (.bool (greatB t)) ∧ Below w.heap.size w w' := by
  refine enter_ 11 Tryd.func11 rfl rfl (fun a0 hS => ?_)
  have HS0 : Sl a0 11 [(0, .agg (FR () 6 ((t).sc)))] := hS
  have HH0 : Held w w [] := Held.first w
  clear hS
  refine wp_seq ?_
  have hLo : LOk [(0, 1, .new 0 (fun g => .pointer (some ⟨g, 0, none⟩))), (1, 2, .val (.bool false))] := lok (by rfl) (by rfl)
  refine zH (wE := w) (sz := 11) (n := 2) [0, 1] [(0, .val (.agg (FR () 6 ((t).sc)))), (1, .new 0 (fun g => .pointer (some ⟨g, 0, none⟩))), (2, .val (.bool false))] [(0, 1, .new 0 (fun g => .pointer (some ⟨g, 0, none⟩))), (1, 2, .val (.bool false))] [⟨0, some 0, none, (), 6, (t).sc, (t).sc, 25⟩] rfl (by rfl) HH0 rfl rfl hLo rfl HS0 (slS 0 rfl rfl (slL 0 (d := 0) rfl (slL 1 (d := 1) rfl (trivial)))) ?_ ?_
  · show ∀ i ∈ [0, 1], _
    refine zA (zZ 0 0 () 6 25 none _ _ rfl rfl (fun _ _ _ _ => rfl) rfl hLo rfl rfl rfl rfl (by rfl) (fun b G w hb ho => exec_box rfl (zG rfl (HS0.get 0 rfl)) (by kernel_rfl))) ?_
    refine zA (zB 1 _ rfl rfl hLo rfl rfl (fun _ _ _ _ => rfl) (fun b G w hb ho => zD (.inr rfl) (rfl))) ?_
    exact zF
  clear hLo
  intro G a1 w1 hS hH
  have HS1 : Sl a1 11 [(0, .agg (FR () 6 ((t).sc))), (1, .pointer (some ⟨(G 0), 0, none⟩)), (2, .bool false)] := hS
  have HH1 : Held w w1 [⟨(G 0), (), 6, (t).sc, 25⟩] := hH
  clear hS hH HS0 HH0
  generalize G 0 = g1_0 at HS1 HH1
  refine then_ ?_
  obtain ⟨r1, hr1⟩ : ∃ r : Bool, (decide ((weigh t 4096 60 : Int) < 0)) = r := ⟨_, rfl⟩
  cases r1
  · skip
    obtain ⟨r2, hr2⟩ : ∃ r : Bool, (risesB t) = r := ⟨_, rfl⟩
    refine wp_seq ?_
    have hLo : LOk [(0, 3, .val (.agg (FR () 6 ((t).sc)))), (1, 4, .val (.int .i64 (weigh t 4096 60))), (2, 5, .val (.bool false)), (3, 6, .val (.bool false)), (4, 7, .val (.agg (FR () 6 ((t).sc)))), (5, 8, .val (.bool r2)), (6, 9, .val (.bool (!r2))), (7, 10, .val (.bool (!r2))), (8, 2, .val (.bool (!r2)))] := lok (by rfl) (by rfl)
    refine zH (wE := w) (sz := 11) (n := 9) [0, 1, 3, 7, 15, 31, 63, 127, 255] [(0, .val (.agg (FR () 6 ((t).sc)))), (1, .val (.pointer (some ⟨g1_0, 0, none⟩))), (2, .val (.bool (!r2)))] [(0, 3, .val (.agg (FR () 6 ((t).sc)))), (1, 4, .val (.int .i64 (weigh t 4096 60))), (2, 5, .val (.bool false)), (3, 6, .val (.bool false)), (4, 7, .val (.agg (FR () 6 ((t).sc)))), (5, 8, .val (.bool r2)), (6, 9, .val (.bool (!r2))), (7, 10, .val (.bool (!r2))), (8, 2, .val (.bool (!r2)))] [⟨g1_0, none, none, (), 6, (t).sc, (t).sc, 25⟩] rfl (by rfl) HH1 rfl rfl hLo rfl HS1 (slS 0 rfl rfl (slS 1 rfl rfl (slL 8 (d := 8) rfl (trivial)))) ?_ ?_
    · show ∀ i ∈ [0, 1, 2, 3, 4, 5, 6, 7, 8], _
      refine zA (yG 0 0 _ rfl rfl rfl rfl (fun _ _ _ _ => rfl) hLo rfl rfl rfl (by rfl) Tryd.underlying25 (by kernel_rfl) rfl (fun b G hb ho => zG rfl (HS1.get 1 rfl))) ?_
      refine zA (yB 1 _ #[.agg (FR () 6 ((t).sc)), .int .i64 (4096), .int .i64 (60)] rfl rfl rfl (fun _ _ _ _ => rfl) hLo rfl rfl Tryd.func28 rfl rfl (fun b G hb ho => args3 (zC hLo 0 rfl HS1.1 rfl (hb 0 (by rfl))) (rfl) (rfl)) (fun w hw => weigh_calls t _ (hIn.below hw) _ _)) ?_
      refine zA (zB 2 _ rfl rfl hLo rfl rfl (fun _ _ _ _ => rfl) (fun b G w hb ho => zI rfl (zC hLo 1 rfl HS1.1 rfl (hb 1 (by rfl))) (rfl) (rb_lss hr1 _ _ _))) ?_
      refine zA (zB 3 _ rfl rfl hLo rfl rfl (fun _ _ _ _ => rfl) (fun b G w hb ho => zD (.inl rfl) (zC hLo 2 rfl HS1.1 rfl (hb 2 (by rfl))))) ?_
      refine zA (yG 4 0 _ rfl rfl rfl rfl (fun b G hb ho => zE rfl rfl rfl HS1.1 rfl (zC hLo 3 rfl HS1.1 rfl (hb 3 (by rfl))) rfl) hLo rfl rfl rfl (by rfl) Tryd.underlying25 (by kernel_rfl) rfl (fun b G hb ho => zG rfl (HS1.get 1 rfl))) ?_
      refine zA (yB 5 _ #[.agg (FR () 6 ((t).sc))] rfl rfl rfl (fun b G hb ho => zE rfl rfl rfl HS1.1 rfl (zC hLo 3 rfl HS1.1 rfl (hb 3 (by rfl))) rfl) hLo rfl rfl Tryd.func29 rfl rfl (fun b G hb ho => args1 (zC hLo 4 rfl HS1.1 rfl (hb 4 (by rfl)))) (fun w hw => (by have hq := rises_calls t _ (hIn.below hw); rw [hr2] at hq; exact hq))) ?_
      refine zA (zB 6 _ rfl rfl hLo rfl rfl (fun b G hb ho => zE rfl rfl rfl HS1.1 rfl (zC hLo 3 rfl HS1.1 rfl (hb 3 (by rfl))) rfl) (fun b G w hb ho => exec_un rfl (zC hLo 5 rfl HS1.1 rfl (hb 5 (by rfl))) (ru_not _))) ?_
      refine zA (zB 7 _ rfl rfl hLo rfl rfl (fun _ _ _ _ => rfl) (fun b G w hb ho => zL rfl (zC hLo 3 rfl HS1.1 rfl (hb 3 (by rfl))) (zC hLo 6 rfl HS1.1 rfl (hb 6 (by rfl))))) ?_
      refine zA (zB 8 _ rfl rfl hLo rfl rfl (fun _ _ _ _ => rfl) (fun b G w hb ho => zD (.inr rfl) (zC hLo 7 rfl HS1.1 rfl (hb 7 (by rfl))))) ?_
      exact zF
    clear hLo
    intro G a2 w2 hS hH
    have HS2 : Sl a2 11 [(0, .agg (FR () 6 ((t).sc))), (1, .pointer (some ⟨g1_0, 0, none⟩)), (2, .bool (!r2))] := hS
    have HH2 : Held w w2 [⟨g1_0, (), 6, (t).sc, 25⟩] := hH
    clear hS hH HS1 HH1
    refine then_ ?_
    refine wp_ret ?_
    repeat (first | refine zR ?_ | refine zK ?_)
    exact b_tmp rfl HS2.2.1 (HS2.get 2 rfl) ⟨great_ret2 hr1 hr2, HH2.1⟩
  · skip
    refine wp_seq ?_
    have hLo : LOk [(0, 3, .val (.agg (FR () 6 ((t).sc)))), (1, 4, .val (.int .i64 (weigh t 4096 60))), (2, 5, .val (.bool true)), (3, 6, .val (.bool true)), (4, 7, .val (undef)), (5, 8, .val (undef)), (6, 9, .val (undef)), (7, 10, .val (.bool true)), (8, 2, .val (.bool true))] := lok (by rfl) (by rfl)
    refine zH (wE := w) (sz := 11) (n := 9) [0, 1, 3, 7, 15, 31, 63, 127, 255] [(0, .val (.agg (FR () 6 ((t).sc)))), (1, .val (.pointer (some ⟨g1_0, 0, none⟩))), (2, .val (.bool true))] [(0, 3, .val (.agg (FR () 6 ((t).sc)))), (1, 4, .val (.int .i64 (weigh t 4096 60))), (2, 5, .val (.bool true)), (3, 6, .val (.bool true)), (4, 7, .val (undef)), (5, 8, .val (undef)), (6, 9, .val (undef)), (7, 10, .val (.bool true)), (8, 2, .val (.bool true))] [⟨g1_0, none, none, (), 6, (t).sc, (t).sc, 25⟩] rfl (by rfl) HH1 rfl rfl hLo rfl HS1 (slS 0 rfl rfl (slS 1 rfl rfl (slL 8 (d := 8) rfl (trivial)))) ?_ ?_
    · show ∀ i ∈ [0, 1, 2, 3, 4, 5, 6, 7, 8], _
      refine zA (yG 0 0 _ rfl rfl rfl rfl (fun _ _ _ _ => rfl) hLo rfl rfl rfl (by rfl) Tryd.underlying25 (by kernel_rfl) rfl (fun b G hb ho => zG rfl (HS1.get 1 rfl))) ?_
      refine zA (yB 1 _ #[.agg (FR () 6 ((t).sc)), .int .i64 (4096), .int .i64 (60)] rfl rfl rfl (fun _ _ _ _ => rfl) hLo rfl rfl Tryd.func28 rfl rfl (fun b G hb ho => args3 (zC hLo 0 rfl HS1.1 rfl (hb 0 (by rfl))) (rfl) (rfl)) (fun w hw => weigh_calls t _ (hIn.below hw) _ _)) ?_
      refine zA (zB 2 _ rfl rfl hLo rfl rfl (fun _ _ _ _ => rfl) (fun b G w hb ho => zI rfl (zC hLo 1 rfl HS1.1 rfl (hb 1 (by rfl))) (rfl) (rb_lss hr1 _ _ _))) ?_
      refine zA (zB 3 _ rfl rfl hLo rfl rfl (fun _ _ _ _ => rfl) (fun b G w hb ho => zD (.inl rfl) (zC hLo 2 rfl HS1.1 rfl (hb 2 (by rfl))))) ?_
      refine zA (zN 4 rfl rfl hLo rfl rfl (fun b G hb ho => zE rfl rfl rfl HS1.1 rfl (zC hLo 3 rfl HS1.1 rfl (hb 3 (by rfl))) rfl)) ?_
      refine zA (zN 5 rfl rfl hLo rfl rfl (fun b G hb ho => zE rfl rfl rfl HS1.1 rfl (zC hLo 3 rfl HS1.1 rfl (hb 3 (by rfl))) rfl)) ?_
      refine zA (zN 6 rfl rfl hLo rfl rfl (fun b G hb ho => zE rfl rfl rfl HS1.1 rfl (zC hLo 3 rfl HS1.1 rfl (hb 3 (by rfl))) rfl)) ?_
      refine zA (zB 7 _ rfl rfl hLo rfl rfl (fun _ _ _ _ => rfl) (fun b G w hb ho => zL rfl (zC hLo 3 rfl HS1.1 rfl (hb 3 (by rfl))) (rfl))) ?_
      refine zA (zB 8 _ rfl rfl hLo rfl rfl (fun _ _ _ _ => rfl) (fun b G w hb ho => zD (.inr rfl) (zC hLo 7 rfl HS1.1 rfl (hb 7 (by rfl))))) ?_
      exact zF
    clear hLo
    intro G a3 w3 hS hH
    have HS3 : Sl a3 11 [(0, .agg (FR () 6 ((t).sc))), (1, .pointer (some ⟨g1_0, 0, none⟩)), (2, .bool true)] := hS
    have HH3 : Held w w3 [⟨g1_0, (), 6, (t).sc, 25⟩] := hH
    clear hS hH HS1 HH1
    refine then_ ?_
    refine wp_ret ?_
    repeat (first | refine zR ?_ | refine zK ?_)
    exact b_tmp rfl HS3.2.1 (HS3.get 2 rfl) ⟨great_ret1 hr1, HH3.1⟩
end Go.Proofs.YtjpiofbedglagaaDoor.P
end

section
namespace Go.Proofs.YtjpiofbedglagaaDoor.P
set_option linter.unusedVariables false
set_option linter.unusedSimpArgs false
open Go.ChangeShapes Go.WideShapes
def NM (i : Nat) : ByteArray := [k_ban, k_events_default, k_invite, k_kick, k_redact, k_state_default, k_users_default].getD i ByteArray.empty
def LV (i : Nat) : Int := [50, 0, 0, 50, 50, 50, 0].getD i 0
def Tab (W : World) : Prop := ∃ (a : Addr) (c : Nat), W.cell? ⟨0, 0, none⟩ = some (.slice (some a) 7 c) ∧ ∀ i, i < 7 → W.cell? (a.add (i * 2)) = some (.string (NM i)) ∧ W.cell? (a.add (i * 2 + 1)) = some (.int .i64 (LV i))
theorem gNames : Tryd.prog.globalNamed "hustings/power.names" = some 0 := by kernel_rfl
theorem tNames : (Tryd.prog.globals[(0 : Nat)]?).map (·.type) = some 47 := by kernel_rfl
theorem tab_of {W : World} (h : laidMetH Tryd.prog [("hustings/power.names", Rows.laid_hustings_power_names)] W) : Tab W := by
  rw [MakeChecks.laidMetH_plain _ _ _ (by kernel_rfl)] at h
  obtain ⟨ps, hL, _, _⟩ := h
  obtain ⟨g, t, cs, fuel, p, q, hg, ht, hv, htr, _, _⟩ := hL
  obtain rfl : 0 = g := Option.some.inj (gNames.symm.trans hg)
  obtain rfl : 47 = t := Option.some.inj (tNames.symm.trans ht)
  rcases DataW.trod_slice Tryd.underlying47 htr with ⟨_, hx⟩ | ⟨a, len, cap, elems, rest, m, rfl, hcs, hx, hb, hl, hm, hle, hel, _⟩
  · exact absurd (Prod.mk.inj hx).1 (by unfold Rows.laid_hustings_power_names; intro c; cases c)
  · obtain ⟨hd, _⟩ := Prod.mk.inj hx
    unfold Rows.laid_hustings_power_names at hd
    injection hd with hd1 hd2
    have hlen : elems.length = 7 := by have := congrArg List.length hd1; simpa using this.symm
    obtain rfl : len = 7 := by omega
    refine ⟨a, cap, ?_, fun i hi => ?_⟩
    · unfold World.var? at hv
      rw [gNames] at hv
      simp only [Option.bind_some] at hv
      split at hv
      · rename_i c0 x1 x2 hh
        obtain rfl := Option.some.inj hv
        unfold World.cell?
        simp only [hh]
        have : c0[0]? = some (.slice (some a) 7 cap) := by rw [← Array.getElem?_toList, hcs]; rfl
        simp [this]
      · cases hv
    · have h1 := hel i hi
      rw [show Tryd.prog.cellsOf 48 = 2 by kernel_rfl] at h1
      obtain ⟨⟨e, pe⟩, h2⟩ : ∃ e, elems[i]? = some e := ⟨_, List.getElem?_eq_getElem (by omega)⟩
      rw [h2, Option.bind_eq_some_iff] at h1
      obtain ⟨c2, h3, h4⟩ := h1
      obtain ⟨_, h5, h6⟩ := World.cells?_some h3
      have h7 := congrArg (fun l => l[i]?) hd1
      simp only [List.getElem?_map, h2, Option.map_some] at h7
      obtain ⟨us, n2, rfl, hu, hl2, hul, hf2⟩ := DataW.trod_struct Tryd.underlying48 h4
      rw [show Tryd.prog.cellsOf 48 = 2 by kernel_rfl] at hl2
      match c2, hl2, h6, hf2 with
      | [u, v], _, h6, hf2 =>
        have f0 : DataW.trod (fun _ => ()) Tryd.prog W 0 (fun _ => true) false n2 9 (([u, v].drop 0).take (Tryd.prog.cellsOf 9)) = us[0]? := hf2 0 _ rfl
        have f1 : DataW.trod (fun _ => ()) Tryd.prog W 0 (fun _ => true) false n2 3 (([u, v].drop 1).take (Tryd.prog.cellsOf 3)) = us[1]? := hf2 1 _ rfl
        have i0 : us[0]? = some (us[0]'(by rw [hul]; decide)) := List.getElem?_eq_getElem _
        have i1 : us[1]? = some (us[1]'(by rw [hul]; decide)) := List.getElem?_eq_getElem _
        rw [i0] at f0
        rw [i1] at f1
        rw [show Tryd.prog.cellsOf 9 = 1 by kernel_rfl] at f0
        rw [show Tryd.prog.cellsOf 3 = 1 by kernel_rfl] at f1
        obtain ⟨s, e0, y0, _⟩ := DataW.trod_string Tryd.underlying9 f0
        obtain ⟨z, e1, y1, _⟩ := DataW.trod_int Tryd.underlying3 f1
        obtain ⟨rfl⟩ := List.cons.inj e0 |>.1
        obtain ⟨rfl⟩ := List.cons.inj e1 |>.1
        have hu2 : us = [us[0]'(by rw [hul]; decide), us[1]'(by rw [hul]; decide)] := by
          match us, hul with
          | [p, q], _ => rfl
        have g0 := h6 0 (by omega)
        have g1 := h6 1 (by omega)
        rw [Go.Deep.add_add] at g0 g1
        obtain ⟨hu, _⟩ := Prod.mk.inj hu
        rw [hu2] at hu
        simp only [List.map_cons, List.map_nil, y0, y1] at hu
        subst hu
        have h8 : (s = NM i ∧ z = LV i) := by
          have fin : ∀ {b : List UInt8} {n : Int} {k : ByteArray}, k.data.toList = b → some (DataW.agg [DataW.lit (Lit.string b), DataW.lit (Lit.int .i64 n)] : DataW Unit) = some (.agg [.lit (.string s.data.toList), .lit (.int .i64 z)]) → s = k ∧ z = n := by
            intro b n k hk h
            injection h with h; injection h with h; injection h with ha hb; injection ha with ha; injection ha with ha; injection hb with hb; injection hb with hb; injection hb with _ hb
            exact ⟨bl_inj (by show s.data.toList = k.data.toList; rw [hk, ha]), hb.symm⟩
          have hi2 : i = 0 ∨ i = 1 ∨ i = 2 ∨ i = 3 ∨ i = 4 ∨ i = 5 ∨ i = 6 := by omega
          rcases hi2 with rfl | rfl | rfl | rfl | rfl | rfl | rfl <;> exact fin rfl h7
        rw [h8.1] at g0
        rw [h8.2] at g1
        exact ⟨g0, g1⟩
end Go.Proofs.YtjpiofbedglagaaDoor.P
end

section
namespace Go.Proofs.YtjpiofbedglagaaDoor.P
set_option linter.unusedVariables false
set_option linter.unusedSimpArgs false
open Go.RowKit Go.ChangeShapes Go.WideShapes Go.Proofs.YtjpiofbedglagaaDoorW.PrintWords Go.Proofs.YtjpiofbedglagaaDoorW.PrintLast Go.Proofs.YtjpiofbedglagaaDoorW.PrintMore
theorem look_hit2 {K : Nat → ByteArray} {key : ByteArray} {n i : Nat} (hi : i < n) (hl : look K key i = none) (he : decide (K i = key) = true) : look K key n = some i := look_is hi (of_decide_eq_true he) (look_none.1 hl)
theorem look_miss2 {K : Nat → ByteArray} {key : ByteArray} {i : Nat} (hl : look K key i = none) (he : decide (K i = key) = false) : look K key (i + 1) = none := by
  unfold look; rw [hl]; simp only [if_neg (of_decide_eq_false he)]
def nmIx (key : ByteArray) : Int := match look NM key 7 with
  | some k => (k : Int)
  | none => -1
theorem nmIx_some {key : ByteArray} {k : Nat} (h : look NM key 7 = some k) : nmIx key = (k : Int) := by unfold nmIx; rw [h]
theorem nmIx_none {key : ByteArray} (h : look NM key 7 = none) : nmIx key = -1 := by unfold nmIx; rw [h]
theorem els_none {key : ByteArray} (h : look NM key 7 = none) : els key = 0 := by
  have h1 := look_none.1 h
  unfold els
  rw [if_neg fun e => h1 0 (by decide) e.symm, if_neg fun e => h1 3 (by decide) e.symm, if_neg fun e => h1 4 (by decide) e.symm, if_neg fun e => h1 5 (by decide) e.symm]
theorem els_some {key : ByteArray} {k : Nat} (h : look NM key 7 = some k) : els key = LV k := by
  obtain ⟨h1, h2, _⟩ := look_some h
  subst h2
  have : k = 0 ∨ k = 1 ∨ k = 2 ∨ k = 3 ∨ k = 4 ∨ k = 5 ∨ k = 6 := by omega
  rcases this with rfl | rfl | rfl | rfl | rfl | rfl | rfl <;> decide
theorem els_no {key : ByteArray} (h : decide (nmIx key < 0) = true) : els key = 0 := by
  cases e : look NM key 7 with
  | none => exact els_none e
  | some k => rw [nmIx_some e] at h; have := of_decide_eq_true h; omega
theorem els_yes {key : ByteArray} (h : decide (nmIx key < 0) = false) : ∃ k : Nat, k < 7 ∧ nmIx key = (k : Int) ∧ els key = LV k := by
  cases e : look NM key 7 with
  | none => rw [nmIx_none e] at h; have := of_decide_eq_false h; omega
  | some k => exact ⟨k, (look_some e).1, nmIx_some e, els_some e⟩
def ent (i : Nat) : List SC := [.s (NM i), .i .i64 (LV i)]
theorem Tab.at {W : World} {a : Addr} (h : ∀ i, i < 7 → W.cell? (a.add (i * 2)) = some (.string (NM i)) ∧ W.cell? (a.add (i * 2 + 1)) = some (.int .i64 (LV i))) {i : Nat} (hi : i < 7) : ∀ j, j < 2 → W.cell? ((a.add (i * 2)).add j) = some (mkc () (lsc (ent i) j)) := by
  intro j hj
  rw [Go.Deep.add_add]
  match j, hj with
  | 0, _ => exact (h i hi).1
  | 1, _ => exact (h i hi).2
theorem Tab.below {W W' : World} (h : Tab W) (hb : Below W.heap.size W W') : Tab W' := by
  obtain ⟨a, c, h1, h2⟩ := h
  exact ⟨a, c, bel_kept hb _ _ h1, fun i hi => ⟨bel_kept hb _ _ (h2 i hi).1, bel_kept hb _ _ (h2 i hi).2⟩⟩
theorem lev_ret {t : T} {key : ByteArray} {z : Int} (h : (t.tell key).2 = false) (hz : els key = z) : Ending.returned (.int .i64 z) = .returned (.int .i64 ((t.told key).getD (els key))) := by
  rw [T.told_tell, h, ← hz]; rfl
theorem lev_ret2 {t : T} {key : ByteArray} (h : (t.tell key).2 = true) : Ending.returned (.int .i64 (t.tell key).1) = .returned (.int .i64 ((t.told key).getD (els key))) := by
  rw [T.told_tell, h]; rfl
theorem row_str {w : World} {g : Nat} {s : ByteArray} {t : TypeId} (h : Row w g () 1 (lsc [.s s]) t) : w.cell? ⟨g, 0, none⟩ = some (.string s) := h.cell 0 (by decide)
theorem lev1_calls {w : World} {ad : Addr} (a key : ByteArray) (z : Int) (hc : w.cell? ad = some (.string key)) : Calls Tryd.prog 27 #[.agg (FR () 2 (lsc [.s (a), .i .i64 (z)])), .pointer (some (ad))] w fun e w' => e = .returned (.bool (decide (a = key))) ∧ Below w.heap.size w w' := by
  refine enter_ 8 Tryd.func27 rfl rfl (fun a0 hS => ?_)
  have HS0 : Sl a0 8 [(0, .agg (FR () 2 (lsc [.s (a), .i .i64 (z)]))), (1, .pointer (some (ad)))] := hS
  have HH0 : Held w w [] := Held.first w
  clear hS
  refine wp_seq ?_
  have hLo : LOk [(0, 2, .new 0 (fun g => .pointer (some ⟨g, 0, none⟩))), (1, 3, .val (.bool false))] := lok (by rfl) (by rfl)
  refine zH (wE := w) (sz := 8) (n := 2) [0, 1] [(0, .val (.agg (FR () 2 (lsc [.s (a), .i .i64 (z)])))), (1, .val (.pointer (some (ad)))), (2, .new 0 (fun g => .pointer (some ⟨g, 0, none⟩))), (3, .val (.bool false))] [(0, 2, .new 0 (fun g => .pointer (some ⟨g, 0, none⟩))), (1, 3, .val (.bool false))] [⟨0, some 0, none, (), 2, lsc [.s (a), .i .i64 (z)], lsc [.s (a), .i .i64 (z)], 48⟩] rfl (by rfl) HH0 rfl rfl hLo rfl HS0 (slS 0 rfl rfl (slS 1 rfl rfl (slL 0 (d := 0) rfl (slL 1 (d := 1) rfl (trivial))))) ?_ ?_
  · show ∀ i ∈ [0, 1], _
    refine zA (zZ 0 0 () 2 48 none _ _ rfl rfl (fun _ _ _ _ => rfl) rfl hLo rfl rfl rfl rfl (by rfl) (fun b G w hb ho => exec_box rfl (zG rfl (HS0.get 0 rfl)) (by kernel_rfl))) ?_
    refine zA (zB 1 _ rfl rfl hLo rfl rfl (fun _ _ _ _ => rfl) (fun b G w hb ho => zD (.inr rfl) (rfl))) ?_
    exact zF
  clear hLo
  intro G a1 w1 hS hH
  have HS1 : Sl a1 8 [(0, .agg (FR () 2 (lsc [.s (a), .i .i64 (z)]))), (1, .pointer (some (ad))), (2, .pointer (some ⟨(G 0), 0, none⟩)), (3, .bool false)] := hS
  have HH1 : Held w w1 [⟨(G 0), (), 2, lsc [.s (a), .i .i64 (z)], 48⟩] := hH
  clear hS hH HS0 HH0
  generalize G 0 = g1_0 at HS1 HH1
  refine then_ ?_
  obtain ⟨r1, hr1⟩ : ∃ r : Bool, (decide ((a : ByteArray) = key)) = r := ⟨_, rfl⟩
  refine wp_seq ?_
  have hLo : LOk [(0, 4, .val (.pointer (some ⟨g1_0, 0, none⟩))), (1, 5, .val (.string (a))), (2, 6, .val (.string (key))), (3, 7, .val (.bool r1)), (4, 3, .val (.bool r1))] := lok (by rfl) (by rfl)
  refine zH (wE := w) (sz := 8) (n := 5) [0, 1, 3, 7, 15] [(0, .val (.agg (FR () 2 (lsc [.s (a), .i .i64 (z)])))), (1, .val (.pointer (some (ad)))), (2, .val (.pointer (some ⟨g1_0, 0, none⟩))), (3, .val (.bool r1))] [(0, 4, .val (.pointer (some ⟨g1_0, 0, none⟩))), (1, 5, .val (.string (a))), (2, 6, .val (.string (key))), (3, 7, .val (.bool r1)), (4, 3, .val (.bool r1))] [⟨g1_0, none, none, (), 2, lsc [.s (a), .i .i64 (z)], lsc [.s (a), .i .i64 (z)], 48⟩] rfl (by rfl) HH1 rfl rfl hLo rfl HS1 (slS 0 rfl rfl (slS 1 rfl rfl (slS 2 rfl rfl (slL 4 (d := 4) rfl (trivial))))) ?_ ?_
  · show ∀ i ∈ [0, 1, 2, 3, 4], _
    refine zA (zB 0 _ rfl rfl hLo rfl rfl (fun _ _ _ _ => rfl) (fun b G w hb ho => zJ rfl (zG rfl (HS1.get 2 rfl)) (by kernel_rfl))) ?_
    refine zA (zW 1 0 _ _ rfl rfl rfl hLo rfl rfl (fun _ _ _ _ => rfl) (by rfl) (by rfl) (fun b G w hb ho hr => zP hr (Nat.le_of_ble_eq_true rfl) Tryd.underlying9 rfl rfl (zC hLo 0 rfl HS1.1 rfl (hb 0 (by rfl))))) ?_
    refine zA (st_at1 2 (ad) _ rfl rfl rfl (fun _ _ _ _ => rfl) hLo rfl rfl Tryd.underlying9 rfl (hc) (fun b G hb ho => zG rfl (HS1.get 1 rfl))) ?_
    refine zA (zB 3 _ rfl rfl hLo rfl rfl (fun _ _ _ _ => rfl) (fun b G w hb ho => zI rfl (zC hLo 1 rfl HS1.1 rfl (hb 1 (by rfl))) (zC hLo 2 rfl HS1.1 rfl (hb 2 (by rfl))) (rb_seql hr1 _ _ _))) ?_
    refine zA (zB 4 _ rfl rfl hLo rfl rfl (fun _ _ _ _ => rfl) (fun b G w hb ho => zD (.inr rfl) (zC hLo 3 rfl HS1.1 rfl (hb 3 (by rfl))))) ?_
    exact zF
  clear hLo
  intro G a2 w2 hS hH
  have HS2 : Sl a2 8 [(0, .agg (FR () 2 (lsc [.s (a), .i .i64 (z)]))), (1, .pointer (some (ad))), (2, .pointer (some ⟨g1_0, 0, none⟩)), (3, .bool r1)] := hS
  have HH2 : Held w w2 [⟨g1_0, (), 2, lsc [.s (a), .i .i64 (z)], 48⟩] := hH
  clear hS hH HS1 HH1
  refine then_ ?_
  refine wp_ret ?_
  repeat (first | refine zR ?_ | refine zK ?_)
  exact b_tmp rfl HS2.2.1 (HS2.get 3 rfl) ⟨by rw [hr1], HH2.1⟩
theorem ixf_calls {w : World} {ba ad : Addr} {c : Nat} (key : ByteArray) (hT : ∀ i, i < 7 → w.cell? (ba.add (i * 2)) = some (.string (NM i)) ∧ w.cell? (ba.add (i * 2 + 1)) = some (.int .i64 (LV i))) (hc : w.cell? ad = some (.string key)) : Calls Tryd.prog 26 #[.slice (some ba) (7) (c), .func (.func 27) #[] #[.pointer (some (ad))]] w fun e w' => e = .returned (.int .i64 (nmIx key)) ∧ Below w.heap.size w w' := by
  refine enter_ 19 Tryd.func26 rfl rfl (fun a0 hS => ?_)
  have HS0 : Sl a0 19 [(0, .slice (some ba) (7) (c)), (1, .func (.func 27) #[] #[.pointer (some (ad))])] := hS
  have HH0 : Held w w [] := Held.first w
  clear hS
  refine wp_seq ?_
  have hLo : LOk [(0, 4, .val (.int .i64 (0)))] := lok (by rfl) (by rfl)
  refine zH (wE := w) (sz := 19) (n := 1) [0] [(0, .val (.slice (some ba) (7) (c))), (1, .val (.func (.func 27) #[] #[.pointer (some (ad))])), (4, .val (.int .i64 (0)))] [(0, 4, .val (.int .i64 (0)))] [] rfl (by rfl) HH0 rfl rfl hLo rfl HS0 (slS 0 rfl rfl (slS 1 rfl rfl (slL 0 (d := 0) rfl (trivial)))) ?_ ?_
  · show ∀ i ∈ [0], _
    refine zA (zB 0 _ rfl rfl hLo rfl rfl (fun _ _ _ _ => rfl) (fun b G w hb ho => zD (.inr rfl) (rfl))) ?_
    exact zF
  clear hLo
  intro G a1 w1 hS hH
  have HS1 : Sl a1 19 [(0, .slice (some ba) (7) (c)), (1, .func (.func 27) #[] #[.pointer (some (ad))]), (4, .int .i64 (0))] := hS
  have HH1 : Held w w1 [] := hH
  clear hS hH HS0 HH0
  refine then_ ?_
  refine wp_seq ?_
  refine wp_seq ?_
  have hLo : LOk [(0, 6, .val (.slice (some ba) (7) (c))), (1, 7, .val (.int .i64 (7))), (2, 8, .val (.int .i64 (0)))] := lok (by rfl) (by rfl)
  refine zH (wE := w) (sz := 19) (n := 3) [0, 1, 3] [(0, .val (.slice (some ba) (7) (c))), (1, .val (.func (.func 27) #[] #[.pointer (some (ad))])), (4, .val (.int .i64 (0))), (7, .val (.int .i64 (7))), (8, .val (.int .i64 (0)))] [(0, 6, .val (.slice (some ba) (7) (c))), (1, 7, .val (.int .i64 (7))), (2, 8, .val (.int .i64 (0)))] [] rfl (by rfl) HH1 rfl rfl hLo rfl HS1 (slS 0 rfl rfl (slS 1 rfl rfl (slS 2 rfl rfl (slL 1 (d := 1) rfl (slL 2 (d := 2) rfl (trivial)))))) ?_ ?_
  · show ∀ i ∈ [0, 1, 2], _
    refine zA (zB 0 _ rfl rfl hLo rfl rfl (fun _ _ _ _ => rfl) (fun b G w hb ho => zD (.inl rfl) (zG rfl (HS1.get 0 rfl)))) ?_
    refine zA (zB 1 _ rfl rfl hLo rfl rfl (fun _ _ _ _ => rfl) (fun b G w hb ho => yF Tryd.underlying47 rfl (zC hLo 0 rfl HS1.1 rfl (hb 0 (by rfl))))) ?_
    refine zA (zB 2 _ rfl rfl hLo rfl rfl (fun _ _ _ _ => rfl) (fun b G w hb ho => zD (.inl rfl) (rfl))) ?_
    exact zF
  clear hLo
  intro G a2 w2 hS hH
  have HS2 : Sl a2 19 [(0, .slice (some ba) (7) (c)), (1, .func (.func 27) #[] #[.pointer (some (ad))]), (4, .int .i64 (0)), (7, .int .i64 (7)), (8, .int .i64 (0))] := hS
  have HH2 : Held w w2 [] := hH
  clear hS hH HS1 HH1
  refine then_ ?_
  refine wp_block ?_
  have hSq0 : Sl _ 19 [(0, .slice (some ba) (7) (c)), (1, .func (.func 27) #[] #[.pointer (some (ad))]), (7, .int .i64 (7)), (8, .int .i64 (0))] := yA HS2 [0, 1, 3, 4] (by rfl)
  refine wp_loop (fun a w' => ∃ i : Nat, i ≤ 7 ∧ look NM key i = none ∧ Sl a 19 [(0, .slice (some ba) (7) (c)), (1, .func (.func 27) #[] #[.pointer (some (ad))]), (7, .int .i64 (7)), (8, .int .i64 ((i : Int)))] ∧ Held w w' []) (fun a w' => 7 - (intOf (a.eval (.tmp 8))).toNat) ⟨0, Nat.zero_le _, rfl, hSq0, HH2⟩ ?_
  clear hSq0 HS2 HH2
  rintro aq0 wq0 ⟨i, hi, hL, HSq0, HHq0⟩
  have hm : (intOf (aq0.eval (.tmp 8))).toNat = i := by rw [(HSq0.get 3 rfl)]; rfl
  rw [hm]
  clear hm
  obtain ⟨r1, hr1⟩ : ∃ r : Bool, (decide (((i : Int) : Int) < 7)) = r := ⟨_, rfl⟩
  refine wp_seq ?_
  have hLo : LOk [(0, 9, .val (.bool r1))] := lok (by rfl) (by rfl)
  refine zH (wE := w) (sz := 19) (n := 1) [0] [(0, .val (.slice (some ba) (7) (c))), (1, .val (.func (.func 27) #[] #[.pointer (some (ad))])), (7, .val (.int .i64 (7))), (8, .val (.int .i64 ((i : Int)))), (9, .val (.bool r1))] [(0, 9, .val (.bool r1))] [] rfl (by rfl) HHq0 rfl rfl hLo rfl HSq0 (slS 0 rfl rfl (slS 1 rfl rfl (slS 2 rfl rfl (slS 3 rfl rfl (slL 0 (d := 0) rfl (trivial)))))) ?_ ?_
  · show ∀ i ∈ [0], _
    refine zA (zB 0 _ rfl rfl hLo rfl rfl (fun _ _ _ _ => rfl) (fun b G w hb ho => zI rfl (zG rfl (HSq0.get 3 rfl)) (zG rfl (HSq0.get 2 rfl)) (rb_lss hr1 _ _ _))) ?_
    exact zF
  clear hLo
  intro G a3 w3 hS hH
  have HS3 : Sl a3 19 [(0, .slice (some ba) (7) (c)), (1, .func (.func 27) #[] #[.pointer (some (ad))]), (7, .int .i64 (7)), (8, .int .i64 ((i : Int))), (9, .bool r1)] := hS
  have HH3 : Held w w3 [] := hH
  clear hS hH HSq0 HHq0
  refine then_ ?_
  refine wp_seq ?_
  cases r1
  · skip
    have hend : i = 7 := by have := of_decide_eq_false hr1; omega
    rw [hend] at hL
    refine wp_cond_false (HS3.get 4 rfl) ?_
    refine wp_exit ?_
    refine zY ?_
    refine zY ?_
    refine yE ?_
    refine then_ ?_
    refine wp_seq ?_
    have hLo : LOk [(0, 4, .val (.int .i64 (-1)))] := lok (by rfl) (by rfl)
    refine zH (wE := w) (sz := 19) (n := 1) [0] [(0, .val (.slice (some ba) (7) (c))), (1, .val (.func (.func 27) #[] #[.pointer (some (ad))])), (7, .val (.int .i64 (7))), (8, .val (.int .i64 ((i : Int)))), (9, .val (.bool false)), (4, .val (.int .i64 (-1)))] [(0, 4, .val (.int .i64 (-1)))] [] rfl (by rfl) HH3 rfl rfl hLo rfl HS3 (slS 0 rfl rfl (slS 1 rfl rfl (slS 2 rfl rfl (slS 3 rfl rfl (slS 4 rfl rfl (slL 0 (d := 0) rfl (trivial))))))) ?_ ?_
    · show ∀ i ∈ [0], _
      refine zA (zB 0 _ rfl rfl hLo rfl rfl (fun _ _ _ _ => rfl) (fun b G w hb ho => zD (.inr rfl) (rfl))) ?_
      exact zF
    clear hLo
    intro G a4 w4 hS hH
    have HS4 : Sl a4 19 [(0, .slice (some ba) (7) (c)), (1, .func (.func 27) #[] #[.pointer (some (ad))]), (7, .int .i64 (7)), (8, .int .i64 ((i : Int))), (9, .bool false), (4, .int .i64 (-1))] := hS
    have HH4 : Held w w4 [] := hH
    clear hS hH HS3 HH3
    refine then_ ?_
    refine wp_ret ?_
    repeat (first | refine zR ?_ | refine zK ?_)
    exact b_tmp rfl HS4.2.1 (HS4.get 5 rfl) ⟨by rw [nmIx_none hL], HH4.1⟩
  · skip
    have hlt : i < 7 := by have := of_decide_eq_true hr1; omega
    refine wp_cond_true (HS3.get 4 rfl) ?_
    refine wp_skip ?_
    refine then_ ?_
    refine wp_seq ?_
    refine wp_block ?_
    refine wp_seq ?_
    have hLo : LOk [(0, 10, .val (.int .i64 ((i : Int)))), (1, 5, .val (.int .i64 ((i : Int))))] := lok (by rfl) (by rfl)
    refine zH (wE := w) (sz := 19) (n := 2) [0, 1] [(0, .val (.slice (some ba) (7) (c))), (1, .val (.func (.func 27) #[] #[.pointer (some (ad))])), (7, .val (.int .i64 (7))), (8, .val (.int .i64 ((i : Int)))), (9, .val (.bool true)), (5, .val (.int .i64 ((i : Int))))] [(0, 10, .val (.int .i64 ((i : Int)))), (1, 5, .val (.int .i64 ((i : Int))))] [] rfl (by rfl) HH3 rfl rfl hLo rfl HS3 (slS 0 rfl rfl (slS 1 rfl rfl (slS 2 rfl rfl (slS 3 rfl rfl (slS 4 rfl rfl (slL 1 (d := 1) rfl (trivial))))))) ?_ ?_
    · show ∀ i ∈ [0, 1], _
      refine zA (zB 0 _ rfl rfl hLo rfl rfl (fun _ _ _ _ => rfl) (fun b G w hb ho => zD (.inl rfl) (zG rfl (HS3.get 3 rfl)))) ?_
      refine zA (zB 1 _ rfl rfl hLo rfl rfl (fun _ _ _ _ => rfl) (fun b G w hb ho => zD (.inr rfl) (zC hLo 0 rfl HS3.1 rfl (hb 0 (by rfl))))) ?_
      exact zF
    clear hLo
    intro G a5 w5 hS hH
    have HS5 : Sl a5 19 [(0, .slice (some ba) (7) (c)), (1, .func (.func 27) #[] #[.pointer (some (ad))]), (7, .int .i64 (7)), (8, .int .i64 ((i : Int))), (9, .bool true), (5, .int .i64 ((i : Int)))] := hS
    have HH5 : Held w w5 [] := hH
    clear hS hH HS3 HH3
    refine then_ ?_
    obtain ⟨r2, hr2⟩ : ∃ r : Bool, (decide (NM (i) = key)) = r := ⟨_, rfl⟩
    refine wp_seq ?_
    have hLo : LOk [(0, 11, .val (.func (.func 27) #[] #[.pointer (some (ad))])), (1, 12, .val (.slice (some ba) (7) (c))), (2, 13, .val (.int .i64 ((i : Int)))), (3, 14, .val (.pointer (some (ba.add ((i) * 2))))), (4, 15, .val (.agg (FR () 2 (lsc (ent (i)))))), (5, 16, .val (.bool r2))] := lok (by rfl) (by rfl)
    refine zH (wE := w) (sz := 19) (n := 6) [0, 1, 3, 7, 15, 31] [(0, .val (.slice (some ba) (7) (c))), (1, .val (.func (.func 27) #[] #[.pointer (some (ad))])), (7, .val (.int .i64 (7))), (8, .val (.int .i64 ((i : Int)))), (9, .val (.bool true)), (5, .val (.int .i64 ((i : Int)))), (16, .val (.bool r2))] [(0, 11, .val (.func (.func 27) #[] #[.pointer (some (ad))])), (1, 12, .val (.slice (some ba) (7) (c))), (2, 13, .val (.int .i64 ((i : Int)))), (3, 14, .val (.pointer (some (ba.add ((i) * 2))))), (4, 15, .val (.agg (FR () 2 (lsc (ent (i)))))), (5, 16, .val (.bool r2))] [] rfl (by rfl) HH5 rfl rfl hLo rfl HS5 (slS 0 rfl rfl (slS 1 rfl rfl (slS 2 rfl rfl (slS 3 rfl rfl (slS 4 rfl rfl (slS 5 rfl rfl (slL 5 (d := 5) rfl (trivial)))))))) ?_ ?_
    · show ∀ i ∈ [0, 1, 2, 3, 4, 5], _
      refine zA (zB 0 _ rfl rfl hLo rfl rfl (fun _ _ _ _ => rfl) (fun b G w hb ho => zD (.inl rfl) (zG rfl (HS5.get 1 rfl)))) ?_
      refine zA (zB 1 _ rfl rfl hLo rfl rfl (fun _ _ _ _ => rfl) (fun b G w hb ho => zD (.inl rfl) (zG rfl (HS5.get 0 rfl)))) ?_
      refine zA (zB 2 _ rfl rfl hLo rfl rfl (fun _ _ _ _ => rfl) (fun b G w hb ho => zD (.inl rfl) (zG rfl (HS5.get 5 rfl)))) ?_
      refine zA (zB 3 _ rfl rfl hLo rfl rfl (fun _ _ _ _ => rfl) (fun b G w hb ho => zU rfl (zC hLo 1 rfl HS5.1 rfl (hb 1 (by rfl))) (zC hLo 2 rfl HS5.1 rfl (hb 2 (by rfl))) (index_sl Tryd.underlying47 (by kernel_rfl) rfl hlt _))) ?_
      refine zA (st_at 4 (ba.add ((i) * 2)) rfl rfl rfl (fun _ _ _ _ => rfl) hLo rfl rfl Tryd.underlying48 (by kernel_rfl) rfl (Tab.at hT hlt) (fun b G hb ho => zC hLo 3 rfl HS5.1 rfl (hb 3 (by rfl)))) ?_
      refine zA (st_callV 5 _ #[.agg (FR () 2 (lsc (ent (i))))] #[.pointer (some (ad))] rfl rfl rfl (fun _ _ _ _ => rfl) hLo rfl rfl Tryd.func27 rfl rfl (fun b G hb ho => zC hLo 0 rfl HS5.1 rfl (hb 0 (by rfl))) (fun b G hb ho => args1 (zC hLo 4 rfl HS5.1 rfl (hb 4 (by rfl)))) (fun w hw => (by have hq := lev1_calls (NM (i)) key (LV (i)) (bel_kept hw _ _ hc); rw [hr2] at hq; exact hq))) ?_
      exact zF
    clear hLo
    intro G a6 w6 hS hH
    have HS6 : Sl a6 19 [(0, .slice (some ba) (7) (c)), (1, .func (.func 27) #[] #[.pointer (some (ad))]), (7, .int .i64 (7)), (8, .int .i64 ((i : Int))), (9, .bool true), (5, .int .i64 ((i : Int))), (16, .bool r2)] := hS
    have HH6 : Held w w6 [] := hH
    clear hS hH HS5 HH5
    refine then_ ?_
    cases r2
    · skip
      refine wp_cond_false (HS6.get 6 rfl) ?_
      refine wp_skip ?_
      refine zQ ?_
      refine then_ ?_
      have hLo : LOk [(0, 18, .val (.int .i64 (((i + 1 : Nat) : Int)))), (1, 8, .val (.int .i64 (((i + 1 : Nat) : Int))))] := lok (by rfl) (by rfl)
      refine zH (wE := w) (sz := 19) (n := 2) [0, 1] [(0, .val (.slice (some ba) (7) (c))), (1, .val (.func (.func 27) #[] #[.pointer (some (ad))])), (7, .val (.int .i64 (7))), (9, .val (.bool true)), (5, .val (.int .i64 ((i : Int)))), (16, .val (.bool false)), (8, .val (.int .i64 (((i + 1 : Nat) : Int))))] [(0, 18, .val (.int .i64 (((i + 1 : Nat) : Int)))), (1, 8, .val (.int .i64 (((i + 1 : Nat) : Int))))] [] rfl (by rfl) HH6 rfl rfl hLo rfl HS6 (slS 0 rfl rfl (slS 1 rfl rfl (slS 2 rfl rfl (slS 4 rfl rfl (slS 5 rfl rfl (slS 6 rfl rfl (slL 1 (d := 1) rfl (trivial)))))))) ?_ ?_
      · show ∀ i ∈ [0, 1], _
        refine zA (zB 0 _ rfl rfl hLo rfl rfl (fun _ _ _ _ => rfl) (fun b G w hb ho => zI rfl (ev_pre hLo 1 rfl (ho 1 (by rfl)) (HS6.get 3 rfl)) (rfl) (rb_add (w_nat (by omega) (by omega)) _ _ _))) ?_
        refine zA (zB 1 _ rfl rfl hLo rfl rfl (fun _ _ _ _ => rfl) (fun b G w hb ho => zD (.inl rfl) (zC hLo 0 rfl HS6.1 rfl (hb 0 (by rfl))))) ?_
        exact zF
      clear hLo
      intro G a7 w7 hS hH
      have HS7 : Sl a7 19 [(0, .slice (some ba) (7) (c)), (1, .func (.func 27) #[] #[.pointer (some (ad))]), (7, .int .i64 (7)), (9, .bool true), (5, .int .i64 ((i : Int))), (16, .bool false), (8, .int .i64 (((i + 1 : Nat) : Int)))] := hS
      have HH7 : Held w w7 [] := hH
      clear hS hH HS6 HH6
      refine then_ ?_
      have hSq0' : Sl _ 19 [(0, .slice (some ba) (7) (c)), (1, .func (.func 27) #[] #[.pointer (some (ad))]), (7, .int .i64 (7)), (8, .int .i64 (((i + 1 : Nat) : Int)))] := yA HS7 [0, 1, 2, 6] (by rfl)
      have hHq0' : Held w _ [] := yD HH7 0 rfl
      exact ⟨⟨i + 1, by omega, look_miss2 hL hr2, hSq0', hHq0'⟩, by rw [(hSq0'.get 3 rfl)]; show 7 - (((i + 1 : Nat) : Int)).toNat < 7 - i; omega⟩
    · skip
      refine wp_cond_true (HS6.get 6 rfl) ?_
      refine wp_seq ?_
      have hLo : LOk [(0, 17, .val (.int .i64 ((i : Int)))), (1, 4, .val (.int .i64 ((i : Int))))] := lok (by rfl) (by rfl)
      refine zH (wE := w) (sz := 19) (n := 2) [0, 1] [(0, .val (.slice (some ba) (7) (c))), (1, .val (.func (.func 27) #[] #[.pointer (some (ad))])), (7, .val (.int .i64 (7))), (8, .val (.int .i64 ((i : Int)))), (9, .val (.bool true)), (5, .val (.int .i64 ((i : Int)))), (16, .val (.bool true)), (4, .val (.int .i64 ((i : Int))))] [(0, 17, .val (.int .i64 ((i : Int)))), (1, 4, .val (.int .i64 ((i : Int))))] [] rfl (by rfl) HH6 rfl rfl hLo rfl HS6 (slS 0 rfl rfl (slS 1 rfl rfl (slS 2 rfl rfl (slS 3 rfl rfl (slS 4 rfl rfl (slS 5 rfl rfl (slS 6 rfl rfl (slL 1 (d := 1) rfl (trivial))))))))) ?_ ?_
      · show ∀ i ∈ [0, 1], _
        refine zA (zB 0 _ rfl rfl hLo rfl rfl (fun _ _ _ _ => rfl) (fun b G w hb ho => zD (.inl rfl) (zG rfl (HS6.get 5 rfl)))) ?_
        refine zA (zB 1 _ rfl rfl hLo rfl rfl (fun _ _ _ _ => rfl) (fun b G w hb ho => zD (.inr rfl) (zC hLo 0 rfl HS6.1 rfl (hb 0 (by rfl))))) ?_
        exact zF
      clear hLo
      intro G a8 w8 hS hH
      have HS8 : Sl a8 19 [(0, .slice (some ba) (7) (c)), (1, .func (.func 27) #[] #[.pointer (some (ad))]), (7, .int .i64 (7)), (8, .int .i64 ((i : Int))), (9, .bool true), (5, .int .i64 ((i : Int))), (16, .bool true), (4, .int .i64 ((i : Int)))] := hS
      have HH8 : Held w w8 [] := hH
      clear hS hH HS6 HH6
      refine then_ ?_
      refine wp_ret ?_
      repeat (first | refine zR ?_ | refine zK ?_)
      exact b_tmp rfl HS8.2.1 (HS8.get 7 rfl) ⟨by rw [nmIx_some (look_hit2 hlt hL hr2)], HH8.1⟩
theorem level_calls {w : World} {t : T} (key : ByteArray) (hIn : In w t) (hR : Rise t.ml fun k => bl (t.key k)) (hTab : Tab w) : Calls Tryd.prog 10 #[.agg (FR () 6 ((t).sc)), .string (key)] w fun e w' => e = .returned (.int .i64 ((t.told key).getD (els key))) ∧ Below w.heap.size w w' := by
  obtain ⟨ba, c, hG, hT⟩ := hTab
  refine enter_ 26 Tryd.func10 rfl rfl (fun a0 hS => ?_)
  have HS0 : Sl a0 26 [(0, .agg (FR () 6 ((t).sc))), (1, .string (key))] := hS
  have HH0 : Held w w [] := Held.first w
  clear hS
  refine wp_seq ?_
  have hLo : LOk [(0, 2, .new 0 (fun g => .pointer (some ⟨g, 0, none⟩))), (1, 3, .new 1 (fun g => .pointer (some ⟨g, 0, none⟩))), (2, 4, .val (.int .i64 (0)))] := lok (by rfl) (by rfl)
  refine zH (wE := w) (sz := 26) (n := 3) [0, 1, 3] [(0, .val (.agg (FR () 6 ((t).sc)))), (1, .val (.string (key))), (2, .new 0 (fun g => .pointer (some ⟨g, 0, none⟩))), (3, .new 1 (fun g => .pointer (some ⟨g, 0, none⟩))), (4, .val (.int .i64 (0)))] [(0, 2, .new 0 (fun g => .pointer (some ⟨g, 0, none⟩))), (1, 3, .new 1 (fun g => .pointer (some ⟨g, 0, none⟩))), (2, 4, .val (.int .i64 (0)))] [⟨0, some 0, none, (), 6, (t).sc, (t).sc, 25⟩, ⟨0, some 1, none, (), 1, lsc [.s (key)], lsc [.s (key)], 9⟩] rfl (by rfl) HH0 rfl rfl hLo rfl HS0 (slS 0 rfl rfl (slS 1 rfl rfl (slL 0 (d := 0) rfl (slL 1 (d := 1) rfl (slL 2 (d := 2) rfl (trivial)))))) ?_ ?_
  · show ∀ i ∈ [0, 1, 2], _
    refine zA (zZ 0 0 () 6 25 none _ _ rfl rfl (fun _ _ _ _ => rfl) rfl hLo rfl rfl rfl rfl (by rfl) (fun b G w hb ho => exec_box rfl (zG rfl (HS0.get 0 rfl)) (by kernel_rfl))) ?_
    refine zA (zZ 1 1 () 1 9 none _ _ rfl rfl (fun _ _ _ _ => rfl) rfl hLo rfl rfl rfl rfl (by rfl) (fun b G w hb ho => exec_box rfl (zG rfl (HS0.get 1 rfl)) (by kernel_rfl))) ?_
    refine zA (zB 2 _ rfl rfl hLo rfl rfl (fun _ _ _ _ => rfl) (fun b G w hb ho => zD (.inr rfl) (rfl))) ?_
    exact zF
  clear hLo
  intro G a1 w1 hS hH
  have HS1 : Sl a1 26 [(0, .agg (FR () 6 ((t).sc))), (1, .string (key)), (2, .pointer (some ⟨(G 0), 0, none⟩)), (3, .pointer (some ⟨(G 1), 0, none⟩)), (4, .int .i64 (0))] := hS
  have HH1 : Held w w1 [⟨(G 0), (), 6, (t).sc, 25⟩, ⟨(G 1), (), 1, lsc [.s (key)], 9⟩] := hH
  clear hS hH HS0 HH0
  generalize G 0 = g1_0 at HS1 HH1
  generalize G 1 = g1_1 at HS1 HH1
  refine then_ ?_
  refine wp_seq ?_
  obtain ⟨r1, hr1⟩ : ∃ r : Bool, ((t.tell key).2) = r := ⟨_, rfl⟩
  refine wp_seq ?_
  have hLo : LOk [(0, 9, .val (.agg (FR () 6 ((t).sc)))), (1, 10, .val (.string (key))), (2, 11, .val (.tuple #[.int .i64 ((t.tell key).1), .bool r1])), (3, 8, .val (.tuple #[.int .i64 ((t.tell key).1), .bool r1])), (4, 12, .val (.int .i64 ((t.tell key).1))), (5, 13, .val (.bool r1)), (6, 5, .val (.int .i64 ((t.tell key).1))), (7, 6, .val (.bool r1))] := lok (by rfl) (by rfl)
  refine zH (wE := w) (sz := 26) (n := 8) [0, 1, 3, 7, 15, 31, 63, 127] [(0, .val (.agg (FR () 6 ((t).sc)))), (1, .val (.string (key))), (2, .val (.pointer (some ⟨g1_0, 0, none⟩))), (3, .val (.pointer (some ⟨g1_1, 0, none⟩))), (4, .val (.int .i64 (0))), (5, .val (.int .i64 ((t.tell key).1))), (6, .val (.bool r1))] [(0, 9, .val (.agg (FR () 6 ((t).sc)))), (1, 10, .val (.string (key))), (2, 11, .val (.tuple #[.int .i64 ((t.tell key).1), .bool r1])), (3, 8, .val (.tuple #[.int .i64 ((t.tell key).1), .bool r1])), (4, 12, .val (.int .i64 ((t.tell key).1))), (5, 13, .val (.bool r1)), (6, 5, .val (.int .i64 ((t.tell key).1))), (7, 6, .val (.bool r1))] [⟨g1_0, none, none, (), 6, (t).sc, (t).sc, 25⟩, ⟨g1_1, none, none, (), 1, lsc [.s (key)], lsc [.s (key)], 9⟩] rfl (by rfl) HH1 rfl rfl hLo rfl HS1 (slS 0 rfl rfl (slS 1 rfl rfl (slS 2 rfl rfl (slS 3 rfl rfl (slS 4 rfl rfl (slL 6 (d := 6) rfl (slL 7 (d := 7) rfl (trivial)))))))) ?_ ?_
  · show ∀ i ∈ [0, 1, 2, 3, 4, 5, 6, 7], _
    refine zA (yG 0 0 _ rfl rfl rfl rfl (fun _ _ _ _ => rfl) hLo rfl rfl rfl (by rfl) Tryd.underlying25 (by kernel_rfl) rfl (fun b G hb ho => zG rfl (HS1.get 2 rfl))) ?_
    refine zA (zW 1 1 _ _ rfl rfl rfl hLo rfl rfl (fun _ _ _ _ => rfl) (by rfl) (by rfl) (fun b G w hb ho hr => zP hr (Nat.le_of_ble_eq_true rfl) Tryd.underlying9 rfl rfl (zG rfl (HS1.get 3 rfl)))) ?_
    refine zA (yB 2 _ #[.agg (FR () 6 ((t).sc)), .string (key)] rfl rfl rfl (fun _ _ _ _ => rfl) hLo rfl rfl Tryd.func25 rfl rfl (fun b G hb ho => args2 (zC hLo 0 rfl HS1.1 rfl (hb 0 (by rfl))) (zC hLo 1 rfl HS1.1 rfl (hb 1 (by rfl)))) (fun w hw => (by have hq := num_calls key (hIn.below hw) hR; rw [hr1] at hq; exact hq))) ?_
    refine zA (zB 3 _ rfl rfl hLo rfl rfl (fun _ _ _ _ => rfl) (fun b G w hb ho => zD (.inl rfl) (zC hLo 2 rfl HS1.1 rfl (hb 2 (by rfl))))) ?_
    refine zA (zB 4 _ rfl rfl hLo rfl rfl (fun _ _ _ _ => rfl) (fun b G w hb ho => zX rfl (zC hLo 3 rfl HS1.1 rfl (hb 3 (by rfl))) (by rfl))) ?_
    refine zA (zB 5 _ rfl rfl hLo rfl rfl (fun _ _ _ _ => rfl) (fun b G w hb ho => zX rfl (zC hLo 3 rfl HS1.1 rfl (hb 3 (by rfl))) (by rfl))) ?_
    refine zA (zB 6 _ rfl rfl hLo rfl rfl (fun _ _ _ _ => rfl) (fun b G w hb ho => zD (.inr rfl) (zC hLo 4 rfl HS1.1 rfl (hb 4 (by rfl))))) ?_
    refine zA (zB 7 _ rfl rfl hLo rfl rfl (fun _ _ _ _ => rfl) (fun b G w hb ho => zD (.inr rfl) (zC hLo 5 rfl HS1.1 rfl (hb 5 (by rfl))))) ?_
    exact zF
  clear hLo
  intro G a2 w2 hS hH
  have HS2 : Sl a2 26 [(0, .agg (FR () 6 ((t).sc))), (1, .string (key)), (2, .pointer (some ⟨g1_0, 0, none⟩)), (3, .pointer (some ⟨g1_1, 0, none⟩)), (4, .int .i64 (0)), (5, .int .i64 ((t.tell key).1)), (6, .bool r1)] := hS
  have HH2 : Held w w2 [⟨g1_0, (), 6, (t).sc, 25⟩, ⟨g1_1, (), 1, lsc [.s (key)], 9⟩] := hH
  clear hS hH HS1 HH1
  refine then_ ?_
  refine wp_seq ?_
  have hLo : LOk [(0, 14, .val (.bool r1))] := lok (by rfl) (by rfl)
  refine zH (wE := w) (sz := 26) (n := 1) [0] [(0, .val (.agg (FR () 6 ((t).sc)))), (1, .val (.string (key))), (2, .val (.pointer (some ⟨g1_0, 0, none⟩))), (3, .val (.pointer (some ⟨g1_1, 0, none⟩))), (4, .val (.int .i64 (0))), (5, .val (.int .i64 ((t.tell key).1))), (6, .val (.bool r1)), (14, .val (.bool r1))] [(0, 14, .val (.bool r1))] [⟨g1_0, none, none, (), 6, (t).sc, (t).sc, 25⟩, ⟨g1_1, none, none, (), 1, lsc [.s (key)], lsc [.s (key)], 9⟩] rfl (by rfl) HH2 rfl rfl hLo rfl HS2 (slS 0 rfl rfl (slS 1 rfl rfl (slS 2 rfl rfl (slS 3 rfl rfl (slS 4 rfl rfl (slS 5 rfl rfl (slS 6 rfl rfl (slL 0 (d := 0) rfl (trivial))))))))) ?_ ?_
  · show ∀ i ∈ [0], _
    refine zA (zB 0 _ rfl rfl hLo rfl rfl (fun _ _ _ _ => rfl) (fun b G w hb ho => zD (.inl rfl) (zG rfl (HS2.get 6 rfl)))) ?_
    exact zF
  clear hLo
  intro G a3 w3 hS hH
  have HS3 : Sl a3 26 [(0, .agg (FR () 6 ((t).sc))), (1, .string (key)), (2, .pointer (some ⟨g1_0, 0, none⟩)), (3, .pointer (some ⟨g1_1, 0, none⟩)), (4, .int .i64 (0)), (5, .int .i64 ((t.tell key).1)), (6, .bool r1), (14, .bool r1)] := hS
  have HH3 : Held w w3 [⟨g1_0, (), 6, (t).sc, 25⟩, ⟨g1_1, (), 1, lsc [.s (key)], 9⟩] := hH
  clear hS hH HS2 HH2
  refine then_ ?_
  cases r1
  · skip
    refine wp_cond_false (HS3.get 7 rfl) ?_
    refine wp_skip ?_
    refine then_ ?_
    refine wp_seq ?_
    have hLo : LOk [(0, 16, .val (.slice (some ba) (7) (c))), (1, 17, .val (.func (.func 27) #[] #[.pointer (some ⟨g1_1, 0, none⟩)])), (2, 18, .val (.int .i64 (nmIx key))), (3, 7, .val (.int .i64 (nmIx key)))] := lok (by rfl) (by rfl)
    refine zH (wE := w) (sz := 26) (n := 4) [0, 1, 3, 7] [(0, .val (.agg (FR () 6 ((t).sc)))), (1, .val (.string (key))), (2, .val (.pointer (some ⟨g1_0, 0, none⟩))), (3, .val (.pointer (some ⟨g1_1, 0, none⟩))), (4, .val (.int .i64 (0))), (5, .val (.int .i64 ((t.tell key).1))), (6, .val (.bool false)), (14, .val (.bool false)), (7, .val (.int .i64 (nmIx key)))] [(0, 16, .val (.slice (some ba) (7) (c))), (1, 17, .val (.func (.func 27) #[] #[.pointer (some ⟨g1_1, 0, none⟩)])), (2, 18, .val (.int .i64 (nmIx key))), (3, 7, .val (.int .i64 (nmIx key)))] [⟨g1_0, none, none, (), 6, (t).sc, (t).sc, 25⟩, ⟨g1_1, none, none, (), 1, lsc [.s (key)], lsc [.s (key)], 9⟩] rfl (by rfl) HH3 rfl rfl hLo rfl HS3 (slS 0 rfl rfl (slS 1 rfl rfl (slS 2 rfl rfl (slS 3 rfl rfl (slS 4 rfl rfl (slS 5 rfl rfl (slS 6 rfl rfl (slS 7 rfl rfl (slL 3 (d := 3) rfl (trivial)))))))))) ?_ ?_
    · show ∀ i ∈ [0, 1, 2, 3], _
      refine zA (st_at1 0 (⟨0, 0, none⟩) _ rfl rfl rfl (fun _ _ _ _ => rfl) hLo rfl rfl Tryd.underlying47 rfl (hG) (fun b G hb ho => rfl)) ?_
      refine zA (zB 1 _ rfl rfl hLo rfl rfl (fun _ _ _ _ => rfl) (fun b G w hb ho => exec_makeFunc rfl (zG rfl (HS3.get 3 rfl)) (by kernel_rfl))) ?_
      refine zA (st_callRB 2 1 _ _ (fun G => #[.slice (some ba) (7) (c), .func (.func 27) #[] #[.pointer (some ⟨g1_1, 0, none⟩)]]) rfl rfl rfl rfl (fun _ _ _ _ => rfl) hLo rfl rfl (by rfl) (by rfl) Tryd.func26 rfl rfl (fun b G hb ho => args2 (zC hLo 0 rfl HS3.1 rfl (hb 0 (by rfl))) (zC hLo 1 rfl HS3.1 rfl (hb 1 (by rfl)))) (fun G w hw hr => ixf_calls key (fun i hi => ⟨bel_kept hw _ _ (hT i hi).1, bel_kept hw _ _ (hT i hi).2⟩) (row_str hr))) ?_
      refine zA (zB 3 _ rfl rfl hLo rfl rfl (fun _ _ _ _ => rfl) (fun b G w hb ho => zD (.inr rfl) (zC hLo 2 rfl HS3.1 rfl (hb 2 (by rfl))))) ?_
      exact zF
    clear hLo
    intro G a4 w4 hS hH
    have HS4 : Sl a4 26 [(0, .agg (FR () 6 ((t).sc))), (1, .string (key)), (2, .pointer (some ⟨g1_0, 0, none⟩)), (3, .pointer (some ⟨g1_1, 0, none⟩)), (4, .int .i64 (0)), (5, .int .i64 ((t.tell key).1)), (6, .bool false), (14, .bool false), (7, .int .i64 (nmIx key))] := hS
    have HH4 : Held w w4 [⟨g1_0, (), 6, (t).sc, 25⟩, ⟨g1_1, (), 1, lsc [.s (key)], 9⟩] := hH
    clear hS hH HS3 HH3
    refine then_ ?_
    refine wp_seq ?_
    obtain ⟨r2, hr2⟩ : ∃ r : Bool, (decide ((nmIx key : Int) < 0)) = r := ⟨_, rfl⟩
    refine wp_seq ?_
    have hLo : LOk [(0, 19, .val (.int .i64 (nmIx key))), (1, 20, .val (.bool r2))] := lok (by rfl) (by rfl)
    refine zH (wE := w) (sz := 26) (n := 2) [0, 1] [(0, .val (.agg (FR () 6 ((t).sc)))), (1, .val (.string (key))), (2, .val (.pointer (some ⟨g1_0, 0, none⟩))), (3, .val (.pointer (some ⟨g1_1, 0, none⟩))), (4, .val (.int .i64 (0))), (5, .val (.int .i64 ((t.tell key).1))), (6, .val (.bool false)), (14, .val (.bool false)), (7, .val (.int .i64 (nmIx key))), (20, .val (.bool r2))] [(0, 19, .val (.int .i64 (nmIx key))), (1, 20, .val (.bool r2))] [⟨g1_0, none, none, (), 6, (t).sc, (t).sc, 25⟩, ⟨g1_1, none, none, (), 1, lsc [.s (key)], lsc [.s (key)], 9⟩] rfl (by rfl) HH4 rfl rfl hLo rfl HS4 (slS 0 rfl rfl (slS 1 rfl rfl (slS 2 rfl rfl (slS 3 rfl rfl (slS 4 rfl rfl (slS 5 rfl rfl (slS 6 rfl rfl (slS 7 rfl rfl (slS 8 rfl rfl (slL 1 (d := 1) rfl (trivial))))))))))) ?_ ?_
    · show ∀ i ∈ [0, 1], _
      refine zA (zB 0 _ rfl rfl hLo rfl rfl (fun _ _ _ _ => rfl) (fun b G w hb ho => zD (.inl rfl) (zG rfl (HS4.get 8 rfl)))) ?_
      refine zA (zB 1 _ rfl rfl hLo rfl rfl (fun _ _ _ _ => rfl) (fun b G w hb ho => zI rfl (zC hLo 0 rfl HS4.1 rfl (hb 0 (by rfl))) (rfl) (rb_lss hr2 _ _ _))) ?_
      exact zF
    clear hLo
    intro G a5 w5 hS hH
    have HS5 : Sl a5 26 [(0, .agg (FR () 6 ((t).sc))), (1, .string (key)), (2, .pointer (some ⟨g1_0, 0, none⟩)), (3, .pointer (some ⟨g1_1, 0, none⟩)), (4, .int .i64 (0)), (5, .int .i64 ((t.tell key).1)), (6, .bool false), (14, .bool false), (7, .int .i64 (nmIx key)), (20, .bool r2)] := hS
    have HH5 : Held w w5 [⟨g1_0, (), 6, (t).sc, 25⟩, ⟨g1_1, (), 1, lsc [.s (key)], 9⟩] := hH
    clear hS hH HS4 HH4
    refine then_ ?_
    cases r2
    · skip
      refine wp_cond_false (HS5.get 9 rfl) ?_
      refine wp_skip ?_
      refine then_ ?_
      obtain ⟨k, hk, hke, hel⟩ := els_yes hr2
      refine wp_seq ?_
      have hLo : LOk [(0, 21, .val (.slice (some ba) (7) (c))), (1, 22, .val (.int .i64 (nmIx key))), (2, 23, .val (.pointer (some (ba.add ((k) * 2))))), (3, 24, .val (.pointer (some ((ba.add ((k) * 2)).add 1)))), (4, 25, .val (.int .i64 (LV (k)))), (5, 4, .val (.int .i64 (LV (k))))] := lok (by rfl) (by rfl)
      refine zH (wE := w) (sz := 26) (n := 6) [0, 1, 3, 7, 15, 31] [(0, .val (.agg (FR () 6 ((t).sc)))), (1, .val (.string (key))), (2, .val (.pointer (some ⟨g1_0, 0, none⟩))), (3, .val (.pointer (some ⟨g1_1, 0, none⟩))), (5, .val (.int .i64 ((t.tell key).1))), (6, .val (.bool false)), (14, .val (.bool false)), (7, .val (.int .i64 (nmIx key))), (20, .val (.bool false)), (4, .val (.int .i64 (LV (k))))] [(0, 21, .val (.slice (some ba) (7) (c))), (1, 22, .val (.int .i64 (nmIx key))), (2, 23, .val (.pointer (some (ba.add ((k) * 2))))), (3, 24, .val (.pointer (some ((ba.add ((k) * 2)).add 1)))), (4, 25, .val (.int .i64 (LV (k)))), (5, 4, .val (.int .i64 (LV (k))))] [⟨g1_0, none, none, (), 6, (t).sc, (t).sc, 25⟩, ⟨g1_1, none, none, (), 1, lsc [.s (key)], lsc [.s (key)], 9⟩] rfl (by rfl) HH5 rfl rfl hLo rfl HS5 (slS 0 rfl rfl (slS 1 rfl rfl (slS 2 rfl rfl (slS 3 rfl rfl (slS 5 rfl rfl (slS 6 rfl rfl (slS 7 rfl rfl (slS 8 rfl rfl (slS 9 rfl rfl (slL 5 (d := 5) rfl (trivial))))))))))) ?_ ?_
      · show ∀ i ∈ [0, 1, 2, 3, 4, 5], _
        refine zA (st_at1 0 (⟨0, 0, none⟩) _ rfl rfl rfl (fun _ _ _ _ => rfl) hLo rfl rfl Tryd.underlying47 rfl (hG) (fun b G hb ho => rfl)) ?_
        refine zA (zB 1 _ rfl rfl hLo rfl rfl (fun _ _ _ _ => rfl) (fun b G w hb ho => zD (.inl rfl) (zG rfl (HS5.get 8 rfl)))) ?_
        refine zA (zB 2 _ rfl rfl hLo rfl rfl (fun _ _ _ _ => rfl) (fun b G w hb ho => zU rfl (zC hLo 0 rfl HS5.1 rfl (hb 0 (by rfl))) (zC hLo 1 rfl HS5.1 rfl (hb 1 (by rfl))) ((by rw [hke]; exact index_sl Tryd.underlying47 (by kernel_rfl) rfl hk _)))) ?_
        refine zA (zB 3 _ rfl rfl hLo rfl rfl (fun _ _ _ _ => rfl) (fun b G w hb ho => zJ rfl (zC hLo 2 rfl HS5.1 rfl (hb 2 (by rfl))) (by kernel_rfl))) ?_
        refine zA (st_at1 4 ((ba.add ((k) * 2)).add 1) _ rfl rfl rfl (fun _ _ _ _ => rfl) hLo rfl rfl Tryd.underlying3 rfl ((Tab.at hT hk 1 (by decide))) (fun b G hb ho => zC hLo 3 rfl HS5.1 rfl (hb 3 (by rfl)))) ?_
        refine zA (zB 5 _ rfl rfl hLo rfl rfl (fun _ _ _ _ => rfl) (fun b G w hb ho => zD (.inr rfl) (zC hLo 4 rfl HS5.1 rfl (hb 4 (by rfl))))) ?_
        exact zF
      clear hLo
      intro G a6 w6 hS hH
      have HS6 : Sl a6 26 [(0, .agg (FR () 6 ((t).sc))), (1, .string (key)), (2, .pointer (some ⟨g1_0, 0, none⟩)), (3, .pointer (some ⟨g1_1, 0, none⟩)), (5, .int .i64 ((t.tell key).1)), (6, .bool false), (14, .bool false), (7, .int .i64 (nmIx key)), (20, .bool false), (4, .int .i64 (LV (k)))] := hS
      have HH6 : Held w w6 [⟨g1_0, (), 6, (t).sc, 25⟩, ⟨g1_1, (), 1, lsc [.s (key)], 9⟩] := hH
      clear hS hH HS5 HH5
      refine then_ ?_
      refine wp_ret ?_
      repeat (first | refine zR ?_ | refine zK ?_)
      exact b_tmp rfl HS6.2.1 (HS6.get 9 rfl) ⟨lev_ret hr1 hel, HH6.1⟩
    · skip
      refine wp_cond_true (HS5.get 9 rfl) ?_
      refine wp_seq ?_
      have hLo : LOk [(0, 4, .val (.int .i64 (0)))] := lok (by rfl) (by rfl)
      refine zH (wE := w) (sz := 26) (n := 1) [0] [(0, .val (.agg (FR () 6 ((t).sc)))), (1, .val (.string (key))), (2, .val (.pointer (some ⟨g1_0, 0, none⟩))), (3, .val (.pointer (some ⟨g1_1, 0, none⟩))), (5, .val (.int .i64 ((t.tell key).1))), (6, .val (.bool false)), (14, .val (.bool false)), (7, .val (.int .i64 (nmIx key))), (20, .val (.bool true)), (4, .val (.int .i64 (0)))] [(0, 4, .val (.int .i64 (0)))] [⟨g1_0, none, none, (), 6, (t).sc, (t).sc, 25⟩, ⟨g1_1, none, none, (), 1, lsc [.s (key)], lsc [.s (key)], 9⟩] rfl (by rfl) HH5 rfl rfl hLo rfl HS5 (slS 0 rfl rfl (slS 1 rfl rfl (slS 2 rfl rfl (slS 3 rfl rfl (slS 5 rfl rfl (slS 6 rfl rfl (slS 7 rfl rfl (slS 8 rfl rfl (slS 9 rfl rfl (slL 0 (d := 0) rfl (trivial))))))))))) ?_ ?_
      · show ∀ i ∈ [0], _
        refine zA (zB 0 _ rfl rfl hLo rfl rfl (fun _ _ _ _ => rfl) (fun b G w hb ho => zD (.inr rfl) (rfl))) ?_
        exact zF
      clear hLo
      intro G a7 w7 hS hH
      have HS7 : Sl a7 26 [(0, .agg (FR () 6 ((t).sc))), (1, .string (key)), (2, .pointer (some ⟨g1_0, 0, none⟩)), (3, .pointer (some ⟨g1_1, 0, none⟩)), (5, .int .i64 ((t.tell key).1)), (6, .bool false), (14, .bool false), (7, .int .i64 (nmIx key)), (20, .bool true), (4, .int .i64 (0))] := hS
      have HH7 : Held w w7 [⟨g1_0, (), 6, (t).sc, 25⟩, ⟨g1_1, (), 1, lsc [.s (key)], 9⟩] := hH
      clear hS hH HS5 HH5
      refine then_ ?_
      refine wp_ret ?_
      repeat (first | refine zR ?_ | refine zK ?_)
      exact b_tmp rfl HS7.2.1 (HS7.get 9 rfl) ⟨lev_ret hr1 (els_no hr2), HH7.1⟩
  · skip
    refine wp_cond_true (HS3.get 7 rfl) ?_
    refine wp_seq ?_
    have hLo : LOk [(0, 15, .val (.int .i64 ((t.tell key).1))), (1, 4, .val (.int .i64 ((t.tell key).1)))] := lok (by rfl) (by rfl)
    refine zH (wE := w) (sz := 26) (n := 2) [0, 1] [(0, .val (.agg (FR () 6 ((t).sc)))), (1, .val (.string (key))), (2, .val (.pointer (some ⟨g1_0, 0, none⟩))), (3, .val (.pointer (some ⟨g1_1, 0, none⟩))), (5, .val (.int .i64 ((t.tell key).1))), (6, .val (.bool true)), (14, .val (.bool true)), (4, .val (.int .i64 ((t.tell key).1)))] [(0, 15, .val (.int .i64 ((t.tell key).1))), (1, 4, .val (.int .i64 ((t.tell key).1)))] [⟨g1_0, none, none, (), 6, (t).sc, (t).sc, 25⟩, ⟨g1_1, none, none, (), 1, lsc [.s (key)], lsc [.s (key)], 9⟩] rfl (by rfl) HH3 rfl rfl hLo rfl HS3 (slS 0 rfl rfl (slS 1 rfl rfl (slS 2 rfl rfl (slS 3 rfl rfl (slS 5 rfl rfl (slS 6 rfl rfl (slS 7 rfl rfl (slL 1 (d := 1) rfl (trivial))))))))) ?_ ?_
    · show ∀ i ∈ [0, 1], _
      refine zA (zB 0 _ rfl rfl hLo rfl rfl (fun _ _ _ _ => rfl) (fun b G w hb ho => zD (.inl rfl) (zG rfl (HS3.get 5 rfl)))) ?_
      refine zA (zB 1 _ rfl rfl hLo rfl rfl (fun _ _ _ _ => rfl) (fun b G w hb ho => zD (.inr rfl) (zC hLo 0 rfl HS3.1 rfl (hb 0 (by rfl))))) ?_
      exact zF
    clear hLo
    intro G a8 w8 hS hH
    have HS8 : Sl a8 26 [(0, .agg (FR () 6 ((t).sc))), (1, .string (key)), (2, .pointer (some ⟨g1_0, 0, none⟩)), (3, .pointer (some ⟨g1_1, 0, none⟩)), (5, .int .i64 ((t.tell key).1)), (6, .bool true), (14, .bool true), (4, .int .i64 ((t.tell key).1))] := hS
    have HH8 : Held w w8 [⟨g1_0, (), 6, (t).sc, 25⟩, ⟨g1_1, (), 1, lsc [.s (key)], 9⟩] := hH
    clear hS hH HS3 HH3
    refine then_ ?_
    refine wp_ret ?_
    repeat (first | refine zR ?_ | refine zK ?_)
    exact b_tmp rfl HS8.2.1 (HS8.get 7 rfl) ⟨lev_ret2 hr1, HH8.1⟩
theorem law_ret {b : Bool} (h : b = true) : Ending.returned (.bool b) = .returned (.bool true) := by rw [h]
end Go.Proofs.YtjpiofbedglagaaDoor.P
end
