/- Merged of the texts: Xn, WSized (trim.py). -/
import Derived.SizedLaws
import Derived.ChangeSlices
import Derived.Test.YtdleomeiojlooaaYc5
section
namespace Go.Proofs.Ytdleomeiojlooaa.P
set_option linter.unusedVariables false
set_option linter.unusedSimpArgs false
open Go.RowKit Go.ChangeShapes Go.WideShapes Go.Proofs.YtdleomeiojlooaaW.PrintWords Go.Proofs.YtdleomeiojlooaaW.PrintLast Go.Proofs.YtdleomeiojlooaaW.PrintMore Go.Proofs.Ytdleomeiojlooaa.L
abbrev SC49 := S49
theorem great_go (l : List SC49) (hx : ∀ x ∈ l, x.f3.size ≤ 140737488351232) (hl : l.length ≤ 140737488351232) : ∀ (k i n : Nat), i + k = l.length → n ≤ 140737488351232 → ∃ r, hustingslaw19_great.l0 (k + 1) l (n : Int) l (l.length : Int) (i : Int) = some r ∧ (r = false → l.length ≤ 60 ∧ n ≤ 16384 ∧ ∀ j, i ≤ j → ∀ x, l[j]? = some x → x.f3.size ≤ 16384)
  | 0, i, n, hi, hn => by
    rw [hustingslaw19_great.l0, if_neg (by omega)]
    by_cases h60 : (l.length : Int) > 60
    · exact ⟨true, by rw [if_pos h60], fun h => by cases h⟩
    · refine ⟨_, by rw [if_neg h60], fun h => ⟨by omega, by have := of_decide_eq_false h; omega, fun j hj x hxj => ?_⟩⟩
      have := (List.getElem?_eq_some_iff.1 hxj).1
      omega
  | k + 1, i, n, hi, hn => by
    have hil : i < l.length := by omega
    obtain ⟨x, hxe⟩ : ∃ x, l[i]? = some x := ⟨_, List.getElem?_eq_getElem hil⟩
    have hxs := hx x (List.mem_of_getElem? hxe)
    have hrd : rd_T49 l (i : Int) = x := by
      unfold rd_T49
      rw [List.getD_eq_getElem?_getD, Int.toNat_natCast, hxe]; rfl
    have hw : wrap64 ((n : Int) + (x.f3.size : Int)) = ((n + x.f3.size : Nat) : Int) := by rw [w64 _ (by omega)]; omega
    rw [hustingslaw19_great.l0, if_pos (by omega), if_pos (by omega), if_pos (by omega), hrd, hw]
    by_cases hg : ((n + x.f3.size : Nat) : Int) > 16384
    · exact ⟨true, by rw [if_pos hg], fun h => by cases h⟩
    · rw [if_neg hg, show wrap64 ((i : Int) + 1) = ((i + 1 : Nat) : Int) by rw [w64 _ (by omega)]; omega]
      obtain ⟨r, h1, h2⟩ := great_go l hx hl k (i + 1) (n + x.f3.size) (by omega) (by omega)
      refine ⟨r, h1, fun h => ?_⟩
      obtain ⟨h3, h4, h5⟩ := h2 h
      refine ⟨h3, by omega, fun j hj y hy => ?_⟩
      by_cases e : j = i
      · subst e
        rw [hxe] at hy
        cases hy
        omega
      · exact h5 j (by omega) y hy
abbrev InC := InL k49 CallOk
theorem great_calls {w W : World} {b : ByteArray} {a : Option Addr} {len cap : Nat} {l : List SC49} (hI : InC w a len cap l) (hB : Below w.heap.size w W) (hb : b.size ≤ 140737488351232) : Calls Try.prog 22 #[.string b, .slice a len cap] W fun e w' => (∃ r : Bool, e = .returned (.bool r) ∧ (r = false → l.length ≤ 60 ∧ b.size ≤ 16384 ∧ ∀ x ∈ l, x.f3.size ≤ 16384)) ∧ Below W.heap.size W w' := by
  obtain ⟨hl, hc, hC, hok, hm⟩ := hI
  subst hl
  obtain ⟨r, h1, h2⟩ := great_go l (fun x hx => (hok x hx).2.2.2) hm l.length 0 b.size (by omega) hb
  refine (hustingslaw19_great.calls (l.length + 1) b a cap l r W (Kd.C_below hC hB) hc h1).mono fun e w' h => ⟨⟨r, h.1, fun hr => ?_⟩, h.2⟩
  obtain ⟨h3, h4, h5⟩ := h2 hr
  refine ⟨h3, h4, fun x hx => ?_⟩
  obtain ⟨j, hj⟩ := List.getElem?_of_mem hx
  exact h5 j (Nat.zero_le _) x hj
theorem seq_join {P : Program} {Q : Exit → Act → World → Prop} {x y : Code} {a : Act} {w : World} (I : Act → World → Prop) (h1 : x.wp P (Exit.then I Q) a w) (h2 : ∀ a w, I a w → y.wp P Q a w) : (Code.seq x y).wp P Q a w :=
  wp_seq (wp_mono h1 fun e a' w' h => by
    cases e with
    | normal => exact h2 a' w' h
    | _ => exact h)
theorem al_eq {m : Sp} {d : Rp} (h : Sim m d) : (!decide (m.al = d.safe ++ d.waits)) = false := by rw [h.s_al]; simp
theorem acts_eq {m : Sp} {d : Rp} (h : Sim m d) : (((m.acts : Nat) : Int) != ((d.acts : Nat) : Int)) = false := by rw [h.s_acts]; simp
theorem off_eq {m : Sp} {d : Rp} (h : Sim m d) : (m.off == d.power) = false := by rw [h.s_off]; cases d.power <;> rfl
theorem int_eq {x y : Int} (h : x = y) : (x != y) = false := by rw [h]; simp
theorem Held.norm2 {wE : WX} {w : World} {R : List RowD} (h : Held wE w R) {gs gd : Nat} {m : Sp} {d : Rp} {t1 t2 : TypeId} (hR : R = [⟨gs, (), 6, spC m, t1⟩, ⟨gd, (), 6, upd (rpC d) 2 (.b true), t2⟩]) : Held wE w [⟨gs, (), 6, spC m, t1⟩, ⟨gd, (), 6, rpC (ronS d), t2⟩] := by
  subst hR
  exact h.norm 1 (rpC (ronS d)) rfl (six ⟨rfl, rfl, rfl, rfl, rfl, rfl⟩)
theorem tabxn12 : rtab .any (opsOf Try.f7 12) = (true, [([], []), ([], []), ([1], [1]), ([0, 2], [0, 2]), ([], []), ([], []), ([5], [5]), ([4, 6, 3], [4, 6]), ([3, 7, 0, 1, 2, 3], [3]), ([7, 8, 0, 1, 2, 3, 4, 5, 6, 7, 8], [7])]) := by kernel_rfl
theorem bitsxn12 : waitsOk [([], []), ([], []), ([1], [1]), ([0, 2], [0, 2]), ([], []), ([], []), ([5], [5]), ([4, 6, 3], [4, 6]), ([3, 7, 0, 1, 2, 3], [3]), ([7, 8, 0, 1, 2, 3, 4, 5, 6, 7, 8], [7])] [0, 0, 2, 7, 0, 0, 32, 127, 255, 511] = true := by kernel_rfl
theorem tabxn30 : rtab .any (opsOf Try.f7 30) = (true, [([], []), ([], []), ([0, 1], [0, 1]), ([2], [2]), ([3], [3]), ([4, 3, 3], [3, 4]), ([3], [3]), ([6, 3], [3, 6]), ([7, 3], [3, 7]), ([8, 3], [3, 8]), ([3], [3]), ([10, 3], [3, 10]), ([11, 3], [3, 11]), ([12, 3], [3, 12]), ([9, 13, 3], [3, 9, 13]), ([5, 14, 3], [3, 5, 14]), ([3, 15], [3, 15]), ([16, 5], [16]), ([17], [17]), ([18, 17, 17], [17, 18]), ([17], [17]), ([20, 17], [17, 20]), ([21, 17], [17, 21]), ([22, 17], [17, 22]), ([19, 23, 17], [17, 19, 23]), ([17, 24], [17, 24]), ([25, 19], [25]), ([26], [26]), ([27, 26, 26], [26, 27]), ([26], [26]), ([29, 26], [26, 29]), ([30, 26], [26, 30]), ([31, 26], [26, 31]), ([28, 32, 26], [26, 28, 32]), ([26, 33], [26, 33])]) := by kernel_rfl
theorem bitsxn30 : waitsOk [([], []), ([], []), ([0, 1], [0, 1]), ([2], [2]), ([3], [3]), ([4, 3, 3], [3, 4]), ([3], [3]), ([6, 3], [3, 6]), ([7, 3], [3, 7]), ([8, 3], [3, 8]), ([3], [3]), ([10, 3], [3, 10]), ([11, 3], [3, 11]), ([12, 3], [3, 12]), ([9, 13, 3], [3, 9, 13]), ([5, 14, 3], [3, 5, 14]), ([3, 15], [3, 15]), ([16, 5], [16]), ([17], [17]), ([18, 17, 17], [17, 18]), ([17], [17]), ([20, 17], [17, 20]), ([21, 17], [17, 21]), ([22, 17], [17, 22]), ([19, 23, 17], [17, 19, 23]), ([17, 24], [17, 24]), ([25, 19], [25]), ([26], [26]), ([27, 26, 26], [26, 27]), ([26], [26]), ([29, 26], [26, 29]), ([30, 26], [26, 30]), ([31, 26], [26, 31]), ([28, 32, 26], [26, 28, 32]), ([26, 33], [26, 33])] [0, 0, 3, 7, 15, 31, 15, 79, 207, 463, 15, 1039, 3087, 7183, 16335, 32767, 65535, 131071, 262143, 524287, 262143, 1310719, 3407871, 7602175, 16777215, 33554431, 67108863, 134217727, 268435455, 134217727, 671088639, 1744830463, 3892314111, 8589934591, 17179869183] = true := by kernel_rfl
set_option maxHeartbeats 4000000 in
theorem SpoolDoes_walk (b : ByteArray) (al0 : Option Addr) (len0 cap0 : Nat) (l0 : List SC49) (w : World) (hb : b.size ≤ 140737488351232) (hI : InC w al0 len0 cap0 l0) : Calls Try.prog 7 #[.string b, .slice al0 len0 cap0] w fun e w' => e = .returned (.bool true) ∧ Below w.heap.size w w' := by
  have hB := Below.refl w.heap.size w
  have hmax : len0 ≤ 140737488351232 := hI.z_max
  have hln := hI.z_len
  refine enter_ 170 Try.func7 rfl rfl (fun a0 hS => ?_)
  have HS0 : Sl a0 170 [(0, .string (b)), (1, .slice (al0) (len0) (cap0))] := hS
  have HH0 : Held ⟨w, []⟩ w [] := Held.first w []
  clear hS
  refine wp_seq ?_
  have hLo : LOk [(0, 4, .val (.bool false))] := lok (by rfl) (by rfl)
  refine plain_ (wE := ⟨w, []⟩) (sz := 170) (n := 1) [0] [(0, .val (.string (b))), (1, .val (.slice (al0) (len0) (cap0))), (4, .val (.bool false))] [(0, 4, .val (.bool false))] [] rfl (by rfl) HH0 rfl rfl hLo rfl HS0 (slS 0 rfl rfl (slS 1 rfl rfl (slL 0 (d := 0) rfl (trivial)))) ?_ ?_
  · show ∀ i ∈ [0], _
    refine steps_cons (st_run 0 _ rfl rfl hLo rfl rfl (fun _ _ _ _ => rfl) (fun b G w hb ho => exec_move (.inr rfl) (rfl))) ?_
    exact steps_nil
  clear hLo
  intro G a1 w1 hS hH
  have HS1 : Sl a1 170 [(0, .string (b)), (1, .slice (al0) (len0) (cap0)), (4, .bool false)] := hS
  have HH1 : Held ⟨w, []⟩ w1 [] := hH
  clear hS hH HS0 HH0
  refine then_ ?_
  refine wp_seq ?_
  refine wp_seq ?_
  have hLo : LOk [(0, 16, .val (.bool true)), (1, 17, .val (.bool false))] := lok (by rfl) (by rfl)
  refine plain_ (wE := ⟨w, []⟩) (sz := 170) (n := 2) [0, 1] [(0, .val (.string (b))), (1, .val (.slice (al0) (len0) (cap0))), (4, .val (.bool false)), (17, .val (.bool false))] [(0, 16, .val (.bool true)), (1, 17, .val (.bool false))] [] rfl (by rfl) HH1 rfl rfl hLo rfl HS1 (slS 0 rfl rfl (slS 1 rfl rfl (slS 2 rfl rfl (slL 1 (d := 1) rfl (trivial))))) ?_ ?_
  · show ∀ i ∈ [0, 1], _
    refine steps_cons (st_call 0 _ #[] rfl rfl rfl (fun _ _ _ _ => rfl) hLo rfl rfl Try.func8 rfl rfl (fun b G hb ho => args0 ) (fun w hw => alive_calls _)) ?_
    refine steps_cons (st_run 1 _ rfl rfl hLo rfl rfl (fun _ _ _ _ => rfl) (fun b G w hb ho => exec_un rfl (ev_on hLo 0 rfl HS1.1 rfl (hb 0 (by rfl))) (ru_not _))) ?_
    exact steps_nil
  clear hLo
  intro G a2 w2 hS hH
  have HS2 : Sl a2 170 [(0, .string (b)), (1, .slice (al0) (len0) (cap0)), (4, .bool false), (17, .bool false)] := hS
  have HH2 : Held ⟨w, []⟩ w2 [] := hH
  clear hS hH HS1 HH1
  refine then_ ?_
  refine wp_cond_false (HS2.get 3 rfl) ?_
  refine wp_skip ?_
  refine then_ ?_
  refine wp_seq ?_
  refine wp_seq ?_
  refine whole_ ?_
  have hLo : LOk [(0, 18, .val (.string (b))), (1, 19, .val (.slice (al0) (len0) (cap0)))] := lok (by rfl) (by rfl)
  refine part_ (wE := ⟨w, []⟩) (sz := 170) (n := 3) 0 2 [0, 1, 3] [(0, .val (.string (b))), (1, .val (.slice (al0) (len0) (cap0))), (4, .val (.bool false)), (17, .val (.bool false)), (18, .val (.string (b))), (19, .val (.slice (al0) (len0) (cap0)))] [(0, 18, .val (.string (b))), (1, 19, .val (.slice (al0) (len0) (cap0)))] [] rfl rfl (by rfl) HH2 rfl rfl hLo rfl HS2 (slS 0 rfl rfl (slS 1 rfl rfl (slS 2 rfl rfl (slS 3 rfl rfl (slL 0 (d := 0) rfl (slL 1 (d := 1) rfl (trivial))))))) ?_ ?_
  · show ∀ i ∈ [0, 1], _
    refine steps_cons (st_run 0 _ rfl rfl hLo rfl rfl (fun _ _ _ _ => rfl) (fun b G w hb ho => exec_move (.inl rfl) (ev_off rfl (HS2.get 0 rfl)))) ?_
    refine steps_cons (st_run 1 _ rfl rfl hLo rfl rfl (fun _ _ _ _ => rfl) (fun b G w hb ho => exec_move (.inl rfl) (ev_off rfl (HS2.get 1 rfl)))) ?_
    exact steps_nil
  clear hLo
  intro G a3 w3 hS hH
  have HS3 : Sl a3 170 [(0, .string (b)), (1, .slice (al0) (len0) (cap0)), (4, .bool false), (17, .bool false), (18, .string (b)), (19, .slice (al0) (len0) (cap0))] := hS
  have HH3 : Held ⟨w, []⟩ w3 [] := hH
  clear hS hH HS2 HH2
  refine cut_call _ rfl rfl rfl rfl Try.func22 rfl rfl (args2 (HS3.get 4 rfl) (HS3.get 5 rfl)) (great_calls hI (bel_over hB HH3.1 hB.size (fun x hx => by cases hx)) hb) HS3 rfl ?_
  rintro e4 w4 ⟨⟨rg, rfl, hgr⟩, hbg⟩
  refine ⟨_, rfl, fun a4 hS => ?_⟩
  have HS5 : Sl a4 170 [(20, .bool rg), (0, .string (b)), (1, .slice (al0) (len0) (cap0)), (4, .bool false), (17, .bool false), (18, .string (b)), (19, .slice (al0) (len0) (cap0))] := hS
  have HH5 : Held ⟨w, []⟩ w4 [] := HH3.call hbg
  clear hS
  refine end_ rfl ?_
  refine then_ ?_
  cases rg
  · skip
    obtain ⟨hlz, hbz, hxz⟩ := hgr rfl
    refine wp_cond_false (HS5.get 0 rfl) ?_
    refine wp_skip ?_
    refine then_ ?_
    refine wp_seq ?_
    refine whole_ ?_
    have hLo : LOk [(0, 21, .val (.string (b)))] := lok (by rfl) (by rfl)
    refine part_ (wE := ⟨w, []⟩) (sz := 170) (n := 6) 0 1 [0, 1, 3, 7, 15, 31] [(20, .val (.bool false)), (0, .val (.string (b))), (1, .val (.slice (al0) (len0) (cap0))), (4, .val (.bool false)), (17, .val (.bool false)), (21, .val (.string (b)))] [(0, 21, .val (.string (b)))] [] rfl rfl (by rfl) HH5 rfl rfl hLo rfl HS5 (slS 0 rfl rfl (slS 1 rfl rfl (slS 2 rfl rfl (slS 3 rfl rfl (slS 4 rfl rfl (slL 0 (d := 0) rfl (trivial))))))) ?_ ?_
    · show ∀ i ∈ [0], _
      refine steps_cons (st_run 0 _ rfl rfl hLo rfl rfl (fun _ _ _ _ => rfl) (fun b G w hb ho => exec_move (.inl rfl) (ev_off rfl (HS5.get 1 rfl)))) ?_
      exact steps_nil
    clear hLo
    intro G a6 w6 hS hH
    have HS6 : Sl a6 170 [(20, .bool false), (0, .string (b)), (1, .slice (al0) (len0) (cap0)), (4, .bool false), (17, .bool false), (21, .string (b))] := hS
    have HH6 : Held ⟨w, []⟩ w6 [] := hH
    clear hS hH HS5 HH5
    refine cut_call _ rfl rfl rfl rfl Try.func9 rfl rfl (args1 (HS6.get 5 rfl)) (new_calls (by omega)) HS6 rfl ?_
    rintro e7 w7 ⟨gs, rfl, hngs, hrgs, hbgs⟩
    refine ⟨_, rfl, fun a7 hS => ?_⟩
    have hwgs : w.heap.size ≤ gs := Nat.le_trans (Nat.le_trans hB.size HH6.1.size) hngs
    have HS8 : Sl a7 170 [(22, .pointer (some ⟨gs, 0, none⟩)), (20, .bool false), (0, .string (b)), (1, .slice (al0) (len0) (cap0)), (4, .bool false), (17, .bool false), (21, .string (b))] := hS
    have HH8 : Held ⟨w, []⟩ w7 [⟨gs, (), 6, spC ⟨b, b.size, false, 0, 0, 0⟩, 53⟩] := HH6.add hbgs hngs hrgs
    clear hS
    have hLo : LOk [(2, 23, .val (.string (b)))] := lok (by rfl) (by rfl)
    refine part_ (wE := ⟨w, []⟩) (sz := 170) (n := 6) 2 3 [0, 1, 3, 7, 15, 31] [(22, .val (.pointer (some ⟨gs, 0, none⟩))), (20, .val (.bool false)), (0, .val (.string (b))), (1, .val (.slice (al0) (len0) (cap0))), (4, .val (.bool false)), (17, .val (.bool false)), (23, .val (.string (b)))] [(2, 23, .val (.string (b)))] [⟨gs, none, none, (), 6, spC ⟨b, b.size, false, 0, 0, 0⟩, spC ⟨b, b.size, false, 0, 0, 0⟩, 53⟩] rfl rfl (by rfl) HH8 rfl rfl hLo rfl HS8 (slS 0 rfl rfl (slS 1 rfl rfl (slS 2 rfl rfl (slS 3 rfl rfl (slS 4 rfl rfl (slS 5 rfl rfl (slL 0 (d := 2) rfl (trivial)))))))) ?_ ?_
    · show ∀ i ∈ [2], _
      refine steps_cons (st_run 0 _ rfl rfl hLo rfl rfl (fun _ _ _ _ => rfl) (fun b G w hb ho => exec_move (.inl rfl) (ev_off rfl (HS8.get 2 rfl)))) ?_
      exact steps_nil
    clear hLo
    intro G a9 w9 hS hH
    have HS9 : Sl a9 170 [(22, .pointer (some ⟨gs, 0, none⟩)), (20, .bool false), (0, .string (b)), (1, .slice (al0) (len0) (cap0)), (4, .bool false), (17, .bool false), (23, .string (b))] := hS
    have HH9 : Held ⟨w, []⟩ w9 [⟨gs, (), 6, spC ⟨b, b.size, false, 0, 0, 0⟩, 53⟩] := hH
    clear hS hH HS8 HH8
    refine cut_call _ rfl rfl rfl rfl Try.func23 rfl rfl (args1 (HS9.get 6 rfl)) (rnew_calls (by omega)) HS9 rfl ?_
    rintro e10 w10 ⟨gd, rfl, hngd, hrgd, hbgd⟩
    refine ⟨_, rfl, fun a10 hS => ?_⟩
    have hwgd : w.heap.size ≤ gd := Nat.le_trans (Nat.le_trans hB.size HH9.1.size) hngd
    have HS11 : Sl a10 170 [(24, .pointer (some ⟨gd, 0, none⟩)), (22, .pointer (some ⟨gs, 0, none⟩)), (20, .bool false), (0, .string (b)), (1, .slice (al0) (len0) (cap0)), (4, .bool false), (17, .bool false), (23, .string (b))] := hS
    have HH11 : Held ⟨w, []⟩ w10 [⟨gs, (), 6, spC ⟨b, b.size, false, 0, 0, 0⟩, 53⟩, ⟨gd, (), 6, rpC ⟨b, ByteArray.empty, true, 0, 0, 0⟩, 51⟩] := HH9.add hbgd hngd hrgd
    clear hS
    have hLo : LOk [(4, 5, .val (.pointer (some ⟨gs, 0, none⟩))), (5, 6, .val (.pointer (some ⟨gd, 0, none⟩)))] := lok (by rfl) (by rfl)
    refine part_ (wE := ⟨w, []⟩) (sz := 170) (n := 6) 4 6 [0, 1, 3, 7, 15, 31] [(20, .val (.bool false)), (0, .val (.string (b))), (1, .val (.slice (al0) (len0) (cap0))), (4, .val (.bool false)), (17, .val (.bool false)), (5, .val (.pointer (some ⟨gs, 0, none⟩))), (6, .val (.pointer (some ⟨gd, 0, none⟩)))] [(4, 5, .val (.pointer (some ⟨gs, 0, none⟩))), (5, 6, .val (.pointer (some ⟨gd, 0, none⟩)))] [⟨gs, none, none, (), 6, spC ⟨b, b.size, false, 0, 0, 0⟩, spC ⟨b, b.size, false, 0, 0, 0⟩, 53⟩, ⟨gd, none, none, (), 6, rpC ⟨b, ByteArray.empty, true, 0, 0, 0⟩, rpC ⟨b, ByteArray.empty, true, 0, 0, 0⟩, 51⟩] rfl rfl (by rfl) HH11 rfl rfl hLo rfl HS11 (slS 2 rfl rfl (slS 3 rfl rfl (slS 4 rfl rfl (slS 5 rfl rfl (slS 6 rfl rfl (slL 0 (d := 4) rfl (slL 1 (d := 5) rfl (trivial)))))))) ?_ ?_
    · show ∀ i ∈ [4, 5], _
      refine steps_cons (st_run 0 _ rfl rfl hLo rfl rfl (fun _ _ _ _ => rfl) (fun b G w hb ho => exec_move (.inr rfl) (ev_off rfl (HS11.get 1 rfl)))) ?_
      refine steps_cons (st_run 1 _ rfl rfl hLo rfl rfl (fun _ _ _ _ => rfl) (fun b G w hb ho => exec_move (.inr rfl) (ev_off rfl (HS11.get 0 rfl)))) ?_
      exact steps_nil
    clear hLo
    intro G a12 w12 hS hH
    have HS12 : Sl a12 170 [(20, .bool false), (0, .string (b)), (1, .slice (al0) (len0) (cap0)), (4, .bool false), (17, .bool false), (5, .pointer (some ⟨gs, 0, none⟩)), (6, .pointer (some ⟨gd, 0, none⟩))] := hS
    have HH12 : Held ⟨w, []⟩ w12 [⟨gs, (), 6, spC ⟨b, b.size, false, 0, 0, 0⟩, 53⟩, ⟨gd, (), 6, rpC ⟨b, ByteArray.empty, true, 0, 0, 0⟩, 51⟩] := hH
    clear hS hH HS11 HH11
    refine end_ rfl ?_
    refine then_ ?_
    refine wp_seq ?_
    refine wp_seq ?_
    have hLo : LOk [(0, 25, .val (.slice (al0) (len0) (cap0))), (1, 26, .val (.int .i64 ((len0 : Int)))), (2, 27, .val (.int .i64 (0)))] := lok (by rfl) (by rfl)
    refine plain_ (wE := ⟨w, []⟩) (sz := 170) (n := 3) [0, 1, 3] [(20, .val (.bool false)), (0, .val (.string (b))), (1, .val (.slice (al0) (len0) (cap0))), (4, .val (.bool false)), (17, .val (.bool false)), (5, .val (.pointer (some ⟨gs, 0, none⟩))), (6, .val (.pointer (some ⟨gd, 0, none⟩))), (25, .val (.slice (al0) (len0) (cap0))), (26, .val (.int .i64 ((len0 : Int)))), (27, .val (.int .i64 (0)))] [(0, 25, .val (.slice (al0) (len0) (cap0))), (1, 26, .val (.int .i64 ((len0 : Int)))), (2, 27, .val (.int .i64 (0)))] [⟨gs, none, none, (), 6, spC ⟨b, b.size, false, 0, 0, 0⟩, spC ⟨b, b.size, false, 0, 0, 0⟩, 53⟩, ⟨gd, none, none, (), 6, rpC ⟨b, ByteArray.empty, true, 0, 0, 0⟩, rpC ⟨b, ByteArray.empty, true, 0, 0, 0⟩, 51⟩] rfl (by rfl) HH12 rfl rfl hLo rfl HS12 (slS 0 rfl rfl (slS 1 rfl rfl (slS 2 rfl rfl (slS 3 rfl rfl (slS 4 rfl rfl (slS 5 rfl rfl (slS 6 rfl rfl (slL 0 (d := 0) rfl (slL 1 (d := 1) rfl (slL 2 (d := 2) rfl (trivial))))))))))) ?_ ?_
    · show ∀ i ∈ [0, 1, 2], _
      refine steps_cons (st_run 0 _ rfl rfl hLo rfl rfl (fun _ _ _ _ => rfl) (fun b G w hb ho => exec_move (.inl rfl) (ev_off rfl (HS12.get 2 rfl)))) ?_
      refine steps_cons (st_run 1 _ rfl rfl hLo rfl rfl (fun _ _ _ _ => rfl) (fun b G w hb ho => exec_lenL Try.underlying44 rfl (ev_on hLo 0 rfl HS12.1 rfl (hb 0 (by rfl))))) ?_
      refine steps_cons (st_run 2 _ rfl rfl hLo rfl rfl (fun _ _ _ _ => rfl) (fun b G w hb ho => exec_move (.inl rfl) (rfl))) ?_
      exact steps_nil
    clear hLo
    intro G a13 w13 hS hH
    have HS13 : Sl a13 170 [(20, .bool false), (0, .string (b)), (1, .slice (al0) (len0) (cap0)), (4, .bool false), (17, .bool false), (5, .pointer (some ⟨gs, 0, none⟩)), (6, .pointer (some ⟨gd, 0, none⟩)), (25, .slice (al0) (len0) (cap0)), (26, .int .i64 ((len0 : Int))), (27, .int .i64 (0))] := hS
    have HH13 : Held ⟨w, []⟩ w13 [⟨gs, (), 6, spC ⟨b, b.size, false, 0, 0, 0⟩, 53⟩, ⟨gd, (), 6, rpC ⟨b, ByteArray.empty, true, 0, 0, 0⟩, 51⟩] := hH
    clear hS hH HS12 HH12
    refine then_ ?_
    refine wp_block ?_
    have hB_14 := bel_over hB HH13.1 hB.size (fun x hx => by cases hx)
    have HH14 : Held ⟨w13, [gs, gd]⟩ w13 [⟨gs, (), 6, spC ⟨b, b.size, false, 0, 0, 0⟩, 53⟩, ⟨gd, (), 6, rpC ⟨b, ByteArray.empty, true, 0, 0, 0⟩, 51⟩] := HH13.anew
    have hSq0 : Sl _ 170 [(20, .bool false), (0, .string (b)), (1, .slice (al0) (len0) (cap0)), (17, .bool false), (5, .pointer (some ⟨gs, 0, none⟩)), (6, .pointer (some ⟨gd, 0, none⟩)), (25, .slice (al0) (len0) (cap0)), (26, .int .i64 ((len0 : Int))), (27, .int .i64 (0))] := sl_keep HS13 [0, 1, 2, 4, 5, 6, 7, 8, 9] (by rfl)
    refine wp_loop (fun a w' => ∃ i : Nat, ∃ m : Sp, ∃ d : Rp, i ≤ len0 ∧ Sim m d ∧ OKa i m ∧ Below w.heap.size w w' ∧ Sl a 170 [(20, .bool false), (0, .string (b)), (1, .slice (al0) (len0) (cap0)), (17, .bool false), (5, .pointer (some ⟨gs, 0, none⟩)), (6, .pointer (some ⟨gd, 0, none⟩)), (25, .slice (al0) (len0) (cap0)), (26, .int .i64 ((len0 : Int))), (27, .int .i64 ((i : Int)))] ∧ Held ⟨w', [gs, gd]⟩ w' [⟨gs, (), 6, spC m, 53⟩, ⟨gd, (), 6, rpC d, 51⟩]) (fun a w' => len0 - (intOf (a.eval (.tmp 27))).toNat) ⟨0, _, _, Nat.zero_le _, (new_sim b (by omega)).1, (new_sim b (by omega)).2, hB_14, hSq0, HH14⟩ ?_
    clear hSq0 HS13 HH14
    rintro aq0 wq0 ⟨i, m, d, hi, hsim, hoka, hBq, HSq0, HHq0⟩
    have hm : (intOf (aq0.eval (.tmp 27))).toNat = i := by rw [(HSq0.get 8 rfl)]; rfl
    rw [hm]
    clear hm
    obtain ⟨r1, hr1⟩ : ∃ r : Bool, (decide (((i : Int) : Int) < (len0 : Int))) = r := ⟨_, rfl⟩
    refine wp_seq ?_
    have hLo : LOk [(0, 28, .val (.bool r1))] := lok (by rfl) (by rfl)
    refine plain_ (wE := ⟨wq0, [gs, gd]⟩) (sz := 170) (n := 1) [0] [(20, .val (.bool false)), (0, .val (.string (b))), (1, .val (.slice (al0) (len0) (cap0))), (17, .val (.bool false)), (5, .val (.pointer (some ⟨gs, 0, none⟩))), (6, .val (.pointer (some ⟨gd, 0, none⟩))), (25, .val (.slice (al0) (len0) (cap0))), (26, .val (.int .i64 ((len0 : Int)))), (27, .val (.int .i64 ((i : Int)))), (28, .val (.bool r1))] [(0, 28, .val (.bool r1))] [⟨gs, none, none, (), 6, spC m, spC m, 53⟩, ⟨gd, none, none, (), 6, rpC d, rpC d, 51⟩] rfl (by rfl) HHq0 rfl rfl hLo rfl HSq0 (slS 0 rfl rfl (slS 1 rfl rfl (slS 2 rfl rfl (slS 3 rfl rfl (slS 4 rfl rfl (slS 5 rfl rfl (slS 6 rfl rfl (slS 7 rfl rfl (slS 8 rfl rfl (slL 0 (d := 0) rfl (trivial))))))))))) ?_ ?_
    · show ∀ i ∈ [0], _
      refine steps_cons (st_run 0 _ rfl rfl hLo rfl rfl (fun _ _ _ _ => rfl) (fun b G w hb ho => exec_bin rfl (ev_off rfl (HSq0.get 8 rfl)) (ev_off rfl (HSq0.get 7 rfl)) (rb_lss hr1 _ _ _))) ?_
      exact steps_nil
    clear hLo
    intro G a15 w15 hS hH
    have HS15 : Sl a15 170 [(20, .bool false), (0, .string (b)), (1, .slice (al0) (len0) (cap0)), (17, .bool false), (5, .pointer (some ⟨gs, 0, none⟩)), (6, .pointer (some ⟨gd, 0, none⟩)), (25, .slice (al0) (len0) (cap0)), (26, .int .i64 ((len0 : Int))), (27, .int .i64 ((i : Int))), (28, .bool r1)] := hS
    have HH15 : Held ⟨wq0, [gs, gd]⟩ w15 [⟨gs, (), 6, spC m, 53⟩, ⟨gd, (), 6, rpC d, 51⟩] := hH
    clear hS hH HSq0 HHq0
    refine then_ ?_
    refine wp_seq ?_
    cases r1
    · skip
      refine wp_cond_false (HS15.get 9 rfl) ?_
      refine wp_exit ?_
      refine then_exit ?_
      refine then_exit ?_
      refine inBlock_exit ?_
      refine then_ ?_
      refine wp_seq ?_
      have hLo : LOk [(0, 13, .val (.pointer none))] := lok (by rfl) (by rfl)
      refine plain_ (wE := ⟨wq0, [gs, gd]⟩) (sz := 170) (n := 1) [0] [(20, .val (.bool false)), (0, .val (.string (b))), (1, .val (.slice (al0) (len0) (cap0))), (17, .val (.bool false)), (5, .val (.pointer (some ⟨gs, 0, none⟩))), (6, .val (.pointer (some ⟨gd, 0, none⟩))), (25, .val (.slice (al0) (len0) (cap0))), (26, .val (.int .i64 ((len0 : Int)))), (27, .val (.int .i64 ((i : Int)))), (28, .val (.bool false)), (13, .val (.pointer none))] [(0, 13, .val (.pointer none))] [⟨gs, none, none, (), 6, spC m, spC m, 53⟩, ⟨gd, none, none, (), 6, rpC d, rpC d, 51⟩] rfl (by rfl) HH15 rfl rfl hLo rfl HS15 (slS 0 rfl rfl (slS 1 rfl rfl (slS 2 rfl rfl (slS 3 rfl rfl (slS 4 rfl rfl (slS 5 rfl rfl (slS 6 rfl rfl (slS 7 rfl rfl (slS 8 rfl rfl (slS 9 rfl rfl (slL 0 (d := 0) rfl (trivial)))))))))))) ?_ ?_
      · show ∀ i ∈ [0], _
        refine steps_cons (st_run 0 _ rfl rfl hLo rfl rfl (fun _ _ _ _ => rfl) (fun b G w hb ho => exec_move (.inr rfl) (rfl))) ?_
        exact steps_nil
      clear hLo
      intro G a16 w16 hS hH
      have HS16 : Sl a16 170 [(20, .bool false), (0, .string (b)), (1, .slice (al0) (len0) (cap0)), (17, .bool false), (5, .pointer (some ⟨gs, 0, none⟩)), (6, .pointer (some ⟨gd, 0, none⟩)), (25, .slice (al0) (len0) (cap0)), (26, .int .i64 ((len0 : Int))), (27, .int .i64 ((i : Int))), (28, .bool false), (13, .pointer none)] := hS
      have HH16 : Held ⟨wq0, [gs, gd]⟩ w16 [⟨gs, (), 6, spC m, 53⟩, ⟨gd, (), 6, rpC d, 51⟩] := hH
      clear hS hH HS15 HH15
      refine then_ ?_
      refine wp_seq ?_
      have hLo : LOk [(0, 132, .val (.pointer none)), (1, 133, .val (.tuple #[]))] := lok (by rfl) (by rfl)
      refine plain_ (wE := ⟨wq0, [gs, gd]⟩) (sz := 170) (n := 2) [0, 1] [(20, .val (.bool false)), (0, .val (.string (b))), (1, .val (.slice (al0) (len0) (cap0))), (17, .val (.bool false)), (5, .val (.pointer (some ⟨gs, 0, none⟩))), (6, .val (.pointer (some ⟨gd, 0, none⟩))), (25, .val (.slice (al0) (len0) (cap0))), (26, .val (.int .i64 ((len0 : Int)))), (27, .val (.int .i64 ((i : Int)))), (28, .val (.bool false)), (13, .val (.pointer none))] [(0, 132, .val (.pointer none)), (1, 133, .val (.tuple #[]))] [⟨gs, none, none, (), 6, spC m, spC m, 53⟩, ⟨gd, none, none, (), 6, rpC d, rpC d, 51⟩] rfl (by rfl) HH16 rfl rfl hLo rfl HS16 (slS 0 rfl rfl (slS 1 rfl rfl (slS 2 rfl rfl (slS 3 rfl rfl (slS 4 rfl rfl (slS 5 rfl rfl (slS 6 rfl rfl (slS 7 rfl rfl (slS 8 rfl rfl (slS 9 rfl rfl (slS 10 rfl rfl (trivial)))))))))))) ?_ ?_
      · show ∀ i ∈ [0, 1], _
        refine steps_cons (st_run 0 _ rfl rfl hLo rfl rfl (fun _ _ _ _ => rfl) (fun b G w hb ho => exec_move (.inl rfl) (ev_off rfl (HS16.get 10 rfl)))) ?_
        refine steps_cons (st_call 1 _ #[.pointer none, .int .i64 (1)] rfl rfl rfl (fun _ _ _ _ => rfl) hLo rfl rfl Try.func18 rfl rfl (fun b G hb ho => args2 (ev_on hLo 0 rfl HS16.1 rfl (hb 0 (by rfl))) (rfl)) (fun w hw => off_nil _)) ?_
        exact steps_nil
      clear hLo
      intro G a17 w17 hS hH
      have HS17 : Sl a17 170 [(20, .bool false), (0, .string (b)), (1, .slice (al0) (len0) (cap0)), (17, .bool false), (5, .pointer (some ⟨gs, 0, none⟩)), (6, .pointer (some ⟨gd, 0, none⟩)), (25, .slice (al0) (len0) (cap0)), (26, .int .i64 ((len0 : Int))), (27, .int .i64 ((i : Int))), (28, .bool false), (13, .pointer none)] := hS
      have HH17 : Held ⟨wq0, [gs, gd]⟩ w17 [⟨gs, (), 6, spC m, 53⟩, ⟨gd, (), 6, rpC d, 51⟩] := hH
      clear hS hH HS16 HH16
      refine then_ ?_
      refine wp_seq ?_
      have hLo : LOk [(0, 134, .val (.pointer none)), (1, 135, .val (.tuple #[]))] := lok (by rfl) (by rfl)
      refine plain_ (wE := ⟨wq0, [gs, gd]⟩) (sz := 170) (n := 2) [0, 1] [(20, .val (.bool false)), (0, .val (.string (b))), (1, .val (.slice (al0) (len0) (cap0))), (17, .val (.bool false)), (5, .val (.pointer (some ⟨gs, 0, none⟩))), (6, .val (.pointer (some ⟨gd, 0, none⟩))), (25, .val (.slice (al0) (len0) (cap0))), (26, .val (.int .i64 ((len0 : Int)))), (27, .val (.int .i64 ((i : Int)))), (28, .val (.bool false)), (13, .val (.pointer none))] [(0, 134, .val (.pointer none)), (1, 135, .val (.tuple #[]))] [⟨gs, none, none, (), 6, spC m, spC m, 53⟩, ⟨gd, none, none, (), 6, rpC d, rpC d, 51⟩] rfl (by rfl) HH17 rfl rfl hLo rfl HS17 (slS 0 rfl rfl (slS 1 rfl rfl (slS 2 rfl rfl (slS 3 rfl rfl (slS 4 rfl rfl (slS 5 rfl rfl (slS 6 rfl rfl (slS 7 rfl rfl (slS 8 rfl rfl (slS 9 rfl rfl (slS 10 rfl rfl (trivial)))))))))))) ?_ ?_
      · show ∀ i ∈ [0, 1], _
        refine steps_cons (st_run 0 _ rfl rfl hLo rfl rfl (fun _ _ _ _ => rfl) (fun b G w hb ho => exec_move (.inl rfl) (ev_off rfl (HS17.get 10 rfl)))) ?_
        refine steps_cons (st_call 1 _ #[.pointer none] rfl rfl rfl (fun _ _ _ _ => rfl) hLo rfl rfl Try.func21 rfl rfl (fun b G hb ho => args1 (ev_on hLo 0 rfl HS17.1 rfl (hb 0 (by rfl)))) (fun w hw => on_nil _)) ?_
        exact steps_nil
      clear hLo
      intro G a18 w18 hS hH
      have HS18 : Sl a18 170 [(20, .bool false), (0, .string (b)), (1, .slice (al0) (len0) (cap0)), (17, .bool false), (5, .pointer (some ⟨gs, 0, none⟩)), (6, .pointer (some ⟨gd, 0, none⟩)), (25, .slice (al0) (len0) (cap0)), (26, .int .i64 ((len0 : Int))), (27, .int .i64 ((i : Int))), (28, .bool false), (13, .pointer none)] := hS
      have HH18 : Held ⟨wq0, [gs, gd]⟩ w18 [⟨gs, (), 6, spC m, 53⟩, ⟨gd, (), 6, rpC d, 51⟩] := hH
      clear hS hH HS17 HH17
      refine then_ ?_
      refine wp_seq ?_
      have hLo : LOk [(0, 136, .val (.pointer none)), (1, 137, .val (.tuple #[]))] := lok (by rfl) (by rfl)
      refine plain_ (wE := ⟨wq0, [gs, gd]⟩) (sz := 170) (n := 2) [0, 1] [(20, .val (.bool false)), (0, .val (.string (b))), (1, .val (.slice (al0) (len0) (cap0))), (17, .val (.bool false)), (5, .val (.pointer (some ⟨gs, 0, none⟩))), (6, .val (.pointer (some ⟨gd, 0, none⟩))), (25, .val (.slice (al0) (len0) (cap0))), (26, .val (.int .i64 ((len0 : Int)))), (27, .val (.int .i64 ((i : Int)))), (28, .val (.bool false)), (13, .val (.pointer none))] [(0, 136, .val (.pointer none)), (1, 137, .val (.tuple #[]))] [⟨gs, none, none, (), 6, spC m, spC m, 53⟩, ⟨gd, none, none, (), 6, rpC d, rpC d, 51⟩] rfl (by rfl) HH18 rfl rfl hLo rfl HS18 (slS 0 rfl rfl (slS 1 rfl rfl (slS 2 rfl rfl (slS 3 rfl rfl (slS 4 rfl rfl (slS 5 rfl rfl (slS 6 rfl rfl (slS 7 rfl rfl (slS 8 rfl rfl (slS 9 rfl rfl (slS 10 rfl rfl (trivial)))))))))))) ?_ ?_
      · show ∀ i ∈ [0, 1], _
        refine steps_cons (st_run 0 _ rfl rfl hLo rfl rfl (fun _ _ _ _ => rfl) (fun b G w hb ho => exec_move (.inl rfl) (ev_off rfl (HS18.get 10 rfl)))) ?_
        refine steps_cons (st_call 1 _ #[.pointer none, .int .i64 (1), .int .i64 (1)] rfl rfl rfl (fun _ _ _ _ => rfl) hLo rfl rfl Try.func20 rfl rfl (fun b G hb ho => args3 (ev_on hLo 0 rfl HS18.1 rfl (hb 0 (by rfl))) (rfl) (rfl)) (fun w hw => arm_nil _)) ?_
        exact steps_nil
      clear hLo
      intro G a19 w19 hS hH
      have HS19 : Sl a19 170 [(20, .bool false), (0, .string (b)), (1, .slice (al0) (len0) (cap0)), (17, .bool false), (5, .pointer (some ⟨gs, 0, none⟩)), (6, .pointer (some ⟨gd, 0, none⟩)), (25, .slice (al0) (len0) (cap0)), (26, .int .i64 ((len0 : Int))), (27, .int .i64 ((i : Int))), (28, .bool false), (13, .pointer none)] := hS
      have HH19 : Held ⟨wq0, [gs, gd]⟩ w19 [⟨gs, (), 6, spC m, 53⟩, ⟨gd, (), 6, rpC d, 51⟩] := hH
      clear hS hH HS18 HH18
      refine then_ ?_
      refine wp_seq ?_
      have hLo : LOk [(0, 139, .val (.pointer none)), (1, 140, .val (.tuple #[.slice (none) (0) (0), .int .i64 (2)])), (2, 138, .val (.tuple #[.slice (none) (0) (0), .int .i64 (2)])), (3, 141, .val (.slice (none) (0) (0))), (4, 142, .val (.int .i64 (2))), (5, 14, .val (.slice (none) (0) (0))), (6, 15, .val (.int .i64 (2)))] := lok (by rfl) (by rfl)
      refine plain_ (wE := ⟨wq0, [gs, gd]⟩) (sz := 170) (n := 7) [0, 1, 3, 7, 15, 31, 63] [(20, .val (.bool false)), (0, .val (.string (b))), (1, .val (.slice (al0) (len0) (cap0))), (17, .val (.bool false)), (5, .val (.pointer (some ⟨gs, 0, none⟩))), (6, .val (.pointer (some ⟨gd, 0, none⟩))), (25, .val (.slice (al0) (len0) (cap0))), (26, .val (.int .i64 ((len0 : Int)))), (27, .val (.int .i64 ((i : Int)))), (28, .val (.bool false)), (13, .val (.pointer none)), (15, .val (.int .i64 (2)))] [(0, 139, .val (.pointer none)), (1, 140, .val (.tuple #[.slice (none) (0) (0), .int .i64 (2)])), (2, 138, .val (.tuple #[.slice (none) (0) (0), .int .i64 (2)])), (3, 141, .val (.slice (none) (0) (0))), (4, 142, .val (.int .i64 (2))), (5, 14, .val (.slice (none) (0) (0))), (6, 15, .val (.int .i64 (2)))] [⟨gs, none, none, (), 6, spC m, spC m, 53⟩, ⟨gd, none, none, (), 6, rpC d, rpC d, 51⟩] rfl (by rfl) HH19 rfl rfl hLo rfl HS19 (slS 0 rfl rfl (slS 1 rfl rfl (slS 2 rfl rfl (slS 3 rfl rfl (slS 4 rfl rfl (slS 5 rfl rfl (slS 6 rfl rfl (slS 7 rfl rfl (slS 8 rfl rfl (slS 9 rfl rfl (slS 10 rfl rfl (slL 6 (d := 6) rfl (trivial))))))))))))) ?_ ?_
      · show ∀ i ∈ [0, 1, 2, 3, 4, 5, 6], _
        refine steps_cons (st_run 0 _ rfl rfl hLo rfl rfl (fun _ _ _ _ => rfl) (fun b G w hb ho => exec_move (.inl rfl) (ev_off rfl (HS19.get 10 rfl)))) ?_
        refine steps_cons (st_call 1 _ #[.pointer none] rfl rfl rfl (fun _ _ _ _ => rfl) hLo rfl rfl Try.func10 rfl rfl (fun b G hb ho => args1 (ev_on hLo 0 rfl HS19.1 rfl (hb 0 (by rfl)))) (fun w hw => open_nil _)) ?_
        refine steps_cons (st_run 2 _ rfl rfl hLo rfl rfl (fun _ _ _ _ => rfl) (fun b G w hb ho => exec_move (.inl rfl) (ev_on hLo 1 rfl HS19.1 rfl (hb 1 (by rfl))))) ?_
        refine steps_cons (st_run 3 _ rfl rfl hLo rfl rfl (fun _ _ _ _ => rfl) (fun b G w hb ho => exec_extract rfl (ev_on hLo 2 rfl HS19.1 rfl (hb 2 (by rfl))) (by rfl))) ?_
        refine steps_cons (st_run 4 _ rfl rfl hLo rfl rfl (fun _ _ _ _ => rfl) (fun b G w hb ho => exec_extract rfl (ev_on hLo 2 rfl HS19.1 rfl (hb 2 (by rfl))) (by rfl))) ?_
        refine steps_cons (st_run 5 _ rfl rfl hLo rfl rfl (fun _ _ _ _ => rfl) (fun b G w hb ho => exec_move (.inr rfl) (ev_on hLo 3 rfl HS19.1 rfl (hb 3 (by rfl))))) ?_
        refine steps_cons (st_run 6 _ rfl rfl hLo rfl rfl (fun _ _ _ _ => rfl) (fun b G w hb ho => exec_move (.inr rfl) (ev_on hLo 4 rfl HS19.1 rfl (hb 4 (by rfl))))) ?_
        exact steps_nil
      clear hLo
      intro G a20 w20 hS hH
      have HS20 : Sl a20 170 [(20, .bool false), (0, .string (b)), (1, .slice (al0) (len0) (cap0)), (17, .bool false), (5, .pointer (some ⟨gs, 0, none⟩)), (6, .pointer (some ⟨gd, 0, none⟩)), (25, .slice (al0) (len0) (cap0)), (26, .int .i64 ((len0 : Int))), (27, .int .i64 ((i : Int))), (28, .bool false), (13, .pointer none), (15, .int .i64 (2))] := hS
      have HH20 : Held ⟨wq0, [gs, gd]⟩ w20 [⟨gs, (), 6, spC m, 53⟩, ⟨gd, (), 6, rpC d, 51⟩] := hH
      clear hS hH HS19 HH19
      refine then_ ?_
      refine wp_seq ?_
      have hLo : LOk [(0, 143, .val (.int .i64 (2))), (1, 144, .val (.bool true)), (2, 145, .val (.bool true)), (3, 146, .val (.pointer none)), (4, 147, .val (.int .i64 (2))), (5, 148, .val (.bool true)), (6, 149, .val (.bool true)), (7, 150, .val (.bool true)), (8, 151, .val (.pointer none)), (9, 152, .val (.int .i64 (2))), (10, 153, .val (.bool true)), (11, 154, .val (.bool true)), (12, 155, .val (.bool true)), (13, 156, .val (.pointer none)), (14, 157, .val (.int .i64 (0))), (15, 158, .val (.bool true)), (16, 159, .val (.bool true)), (17, 160, .val (.bool true)), (18, 161, .val (.pointer none)), (19, 162, .val (.bool false)), (20, 163, .val (.bool true)), (21, 164, .val (.bool true)), (22, 165, .val (.bool true)), (23, 166, .val (.pointer none)), (24, 167, .val (.string (ByteArray.empty))), (25, 168, .val (.bool true)), (26, 169, .val (.bool true)), (27, 4, .val (.bool true))] := lok (by rfl) (by rfl)
      refine plain_ (wE := ⟨wq0, [gs, gd]⟩) (sz := 170) (n := 28) [0, 1, 3, 7, 15, 31, 63, 127, 255, 511, 1023, 2047, 4095, 8191, 16383, 32767, 65535, 131071, 262143, 524287, 1048575, 2097151, 4194303, 8388607, 16777215, 33554431, 67108863, 134217727] [(20, .val (.bool false)), (0, .val (.string (b))), (1, .val (.slice (al0) (len0) (cap0))), (17, .val (.bool false)), (5, .val (.pointer (some ⟨gs, 0, none⟩))), (6, .val (.pointer (some ⟨gd, 0, none⟩))), (25, .val (.slice (al0) (len0) (cap0))), (26, .val (.int .i64 ((len0 : Int)))), (27, .val (.int .i64 ((i : Int)))), (28, .val (.bool false)), (13, .val (.pointer none)), (15, .val (.int .i64 (2))), (4, .val (.bool true))] [(0, 143, .val (.int .i64 (2))), (1, 144, .val (.bool true)), (2, 145, .val (.bool true)), (3, 146, .val (.pointer none)), (4, 147, .val (.int .i64 (2))), (5, 148, .val (.bool true)), (6, 149, .val (.bool true)), (7, 150, .val (.bool true)), (8, 151, .val (.pointer none)), (9, 152, .val (.int .i64 (2))), (10, 153, .val (.bool true)), (11, 154, .val (.bool true)), (12, 155, .val (.bool true)), (13, 156, .val (.pointer none)), (14, 157, .val (.int .i64 (0))), (15, 158, .val (.bool true)), (16, 159, .val (.bool true)), (17, 160, .val (.bool true)), (18, 161, .val (.pointer none)), (19, 162, .val (.bool false)), (20, 163, .val (.bool true)), (21, 164, .val (.bool true)), (22, 165, .val (.bool true)), (23, 166, .val (.pointer none)), (24, 167, .val (.string (ByteArray.empty))), (25, 168, .val (.bool true)), (26, 169, .val (.bool true)), (27, 4, .val (.bool true))] [⟨gs, none, none, (), 6, spC m, spC m, 53⟩, ⟨gd, none, none, (), 6, rpC d, rpC d, 51⟩] rfl (by rfl) HH20 rfl rfl hLo rfl HS20 (slS 0 rfl rfl (slS 1 rfl rfl (slS 2 rfl rfl (slS 3 rfl rfl (slS 4 rfl rfl (slS 5 rfl rfl (slS 6 rfl rfl (slS 7 rfl rfl (slS 8 rfl rfl (slS 9 rfl rfl (slS 10 rfl rfl (slS 11 rfl rfl (slL 27 (d := 27) rfl (trivial)))))))))))))) ?_ ?_
      · show ∀ i ∈ [0, 1, 2, 3, 4, 5, 6, 7, 8, 9, 10, 11, 12, 13, 14, 15, 16, 17, 18, 19, 20, 21, 22, 23, 24, 25, 26, 27], _
        refine steps_cons (st_run 0 _ rfl rfl hLo rfl rfl (fun _ _ _ _ => rfl) (fun b G w hb ho => exec_move (.inl rfl) (ev_off rfl (HS20.get 11 rfl)))) ?_
        refine steps_cons (st_run 1 _ rfl rfl hLo rfl rfl (fun _ _ _ _ => rfl) (fun b G w hb ho => exec_bin rfl (ev_on hLo 0 rfl HS20.1 rfl (hb 0 (by rfl))) (rfl) (rb_eql (rfl) _ _ _))) ?_
        refine steps_cons (st_run 2 _ rfl rfl hLo rfl rfl (fun _ _ _ _ => rfl) (fun b G w hb ho => exec_move (.inl rfl) (ev_on hLo 1 rfl HS20.1 rfl (hb 1 (by rfl))))) ?_
        refine steps_cons (st_run 3 _ rfl rfl hLo rfl rfl (fun b G hb ho => wanted_is rfl rfl rfl HS20.1 rfl (ev_on hLo 2 rfl HS20.1 rfl (hb 2 (by rfl))) rfl) (fun b G w hb ho => exec_move (.inl rfl) (ev_off rfl (HS20.get 10 rfl)))) ?_
        refine steps_cons (st_call 4 _ #[.pointer none, .string (ByteArray.empty)] rfl rfl rfl (fun b G hb ho => wanted_is rfl rfl rfl HS20.1 rfl (ev_on hLo 2 rfl HS20.1 rfl (hb 2 (by rfl))) rfl) hLo rfl rfl Try.func16 rfl rfl (fun b G hb ho => args2 (ev_on hLo 3 rfl HS20.1 rfl (hb 3 (by rfl))) (rfl)) (fun w hw => app_nil _)) ?_
        refine steps_cons (st_run 5 _ rfl rfl hLo rfl rfl (fun b G hb ho => wanted_is rfl rfl rfl HS20.1 rfl (ev_on hLo 2 rfl HS20.1 rfl (hb 2 (by rfl))) rfl) (fun b G w hb ho => exec_bin rfl (ev_on hLo 4 rfl HS20.1 rfl (hb 4 (by rfl))) (rfl) (rb_eql (rfl) _ _ _))) ?_
        refine steps_cons (st_run 6 _ rfl rfl hLo rfl rfl (fun _ _ _ _ => rfl) (fun b G w hb ho => exec_pick rfl (ev_on hLo 2 rfl HS20.1 rfl (hb 2 (by rfl))) (ev_on hLo 5 rfl HS20.1 rfl (hb 5 (by rfl))))) ?_
        refine steps_cons (st_run 7 _ rfl rfl hLo rfl rfl (fun _ _ _ _ => rfl) (fun b G w hb ho => exec_move (.inl rfl) (ev_on hLo 6 rfl HS20.1 rfl (hb 6 (by rfl))))) ?_
        refine steps_cons (st_run 8 _ rfl rfl hLo rfl rfl (fun b G hb ho => wanted_is rfl rfl rfl HS20.1 rfl (ev_on hLo 7 rfl HS20.1 rfl (hb 7 (by rfl))) rfl) (fun b G w hb ho => exec_move (.inl rfl) (ev_off rfl (HS20.get 10 rfl)))) ?_
        refine steps_cons (st_call 9 _ #[.pointer none] rfl rfl rfl (fun b G hb ho => wanted_is rfl rfl rfl HS20.1 rfl (ev_on hLo 7 rfl HS20.1 rfl (hb 7 (by rfl))) rfl) hLo rfl rfl Try.func17 rfl rfl (fun b G hb ho => args1 (ev_on hLo 8 rfl HS20.1 rfl (hb 8 (by rfl)))) (fun w hw => sync_nil _)) ?_
        refine steps_cons (st_run 10 _ rfl rfl hLo rfl rfl (fun b G hb ho => wanted_is rfl rfl rfl HS20.1 rfl (ev_on hLo 7 rfl HS20.1 rfl (hb 7 (by rfl))) rfl) (fun b G w hb ho => exec_bin rfl (ev_on hLo 9 rfl HS20.1 rfl (hb 9 (by rfl))) (rfl) (rb_eql (rfl) _ _ _))) ?_
        refine steps_cons (st_run 11 _ rfl rfl hLo rfl rfl (fun _ _ _ _ => rfl) (fun b G w hb ho => exec_pick rfl (ev_on hLo 7 rfl HS20.1 rfl (hb 7 (by rfl))) (ev_on hLo 10 rfl HS20.1 rfl (hb 10 (by rfl))))) ?_
        refine steps_cons (st_run 12 _ rfl rfl hLo rfl rfl (fun _ _ _ _ => rfl) (fun b G w hb ho => exec_move (.inl rfl) (ev_on hLo 11 rfl HS20.1 rfl (hb 11 (by rfl))))) ?_
        refine steps_cons (st_run 13 _ rfl rfl hLo rfl rfl (fun b G hb ho => wanted_is rfl rfl rfl HS20.1 rfl (ev_on hLo 12 rfl HS20.1 rfl (hb 12 (by rfl))) rfl) (fun b G w hb ho => exec_move (.inl rfl) (ev_off rfl (HS20.get 10 rfl)))) ?_
        refine steps_cons (st_call 14 _ #[.pointer none] rfl rfl rfl (fun b G hb ho => wanted_is rfl rfl rfl HS20.1 rfl (ev_on hLo 12 rfl HS20.1 rfl (hb 12 (by rfl))) rfl) hLo rfl rfl Try.func14 rfl rfl (fun b G hb ho => args1 (ev_on hLo 13 rfl HS20.1 rfl (hb 13 (by rfl)))) (fun w hw => acts_nil _)) ?_
        refine steps_cons (st_run 15 _ rfl rfl hLo rfl rfl (fun b G hb ho => wanted_is rfl rfl rfl HS20.1 rfl (ev_on hLo 12 rfl HS20.1 rfl (hb 12 (by rfl))) rfl) (fun b G w hb ho => exec_bin rfl (ev_on hLo 14 rfl HS20.1 rfl (hb 14 (by rfl))) (rfl) (rb_eql (rfl) _ _ _))) ?_
        refine steps_cons (st_run 16 _ rfl rfl hLo rfl rfl (fun _ _ _ _ => rfl) (fun b G w hb ho => exec_pick rfl (ev_on hLo 12 rfl HS20.1 rfl (hb 12 (by rfl))) (ev_on hLo 15 rfl HS20.1 rfl (hb 15 (by rfl))))) ?_
        refine steps_cons (st_run 17 _ rfl rfl hLo rfl rfl (fun _ _ _ _ => rfl) (fun b G w hb ho => exec_move (.inl rfl) (ev_on hLo 16 rfl HS20.1 rfl (hb 16 (by rfl))))) ?_
        refine steps_cons (st_run 18 _ rfl rfl hLo rfl rfl (fun b G hb ho => wanted_is rfl rfl rfl HS20.1 rfl (ev_on hLo 17 rfl HS20.1 rfl (hb 17 (by rfl))) rfl) (fun b G w hb ho => exec_move (.inl rfl) (ev_off rfl (HS20.get 10 rfl)))) ?_
        refine steps_cons (st_call 19 _ #[.pointer none] rfl rfl rfl (fun b G hb ho => wanted_is rfl rfl rfl HS20.1 rfl (ev_on hLo 17 rfl HS20.1 rfl (hb 17 (by rfl))) rfl) hLo rfl rfl Try.func19 rfl rfl (fun b G hb ho => args1 (ev_on hLo 18 rfl HS20.1 rfl (hb 18 (by rfl)))) (fun w hw => down_nil _)) ?_
        refine steps_cons (st_run 20 _ rfl rfl hLo rfl rfl (fun b G hb ho => wanted_is rfl rfl rfl HS20.1 rfl (ev_on hLo 17 rfl HS20.1 rfl (hb 17 (by rfl))) rfl) (fun b G w hb ho => exec_un rfl (ev_on hLo 19 rfl HS20.1 rfl (hb 19 (by rfl))) (ru_not _))) ?_
        refine steps_cons (st_run 21 _ rfl rfl hLo rfl rfl (fun _ _ _ _ => rfl) (fun b G w hb ho => exec_pick rfl (ev_on hLo 17 rfl HS20.1 rfl (hb 17 (by rfl))) (ev_on hLo 20 rfl HS20.1 rfl (hb 20 (by rfl))))) ?_
        refine steps_cons (st_run 22 _ rfl rfl hLo rfl rfl (fun _ _ _ _ => rfl) (fun b G w hb ho => exec_move (.inl rfl) (ev_on hLo 21 rfl HS20.1 rfl (hb 21 (by rfl))))) ?_
        refine steps_cons (st_run 23 _ rfl rfl hLo rfl rfl (fun b G hb ho => wanted_is rfl rfl rfl HS20.1 rfl (ev_on hLo 22 rfl HS20.1 rfl (hb 22 (by rfl))) rfl) (fun b G w hb ho => exec_move (.inl rfl) (ev_off rfl (HS20.get 10 rfl)))) ?_
        refine steps_cons (st_call 24 _ #[.pointer none] rfl rfl rfl (fun b G hb ho => wanted_is rfl rfl rfl HS20.1 rfl (ev_on hLo 22 rfl HS20.1 rfl (hb 22 (by rfl))) rfl) hLo rfl rfl Try.func13 rfl rfl (fun b G hb ho => args1 (ev_on hLo 23 rfl HS20.1 rfl (hb 23 (by rfl)))) (fun w hw => bytes_nil _)) ?_
        refine steps_cons (st_run 25 _ rfl rfl hLo rfl rfl (fun b G hb ho => wanted_is rfl rfl rfl HS20.1 rfl (ev_on hLo 22 rfl HS20.1 rfl (hb 22 (by rfl))) rfl) (fun b G w hb ho => exec_bin rfl (ev_on hLo 24 rfl HS20.1 rfl (hb 24 (by rfl))) (rfl) (rb_seql (decide_eq_true rfl) _ _ _))) ?_
        refine steps_cons (st_run 26 _ rfl rfl hLo rfl rfl (fun _ _ _ _ => rfl) (fun b G w hb ho => exec_pick rfl (ev_on hLo 22 rfl HS20.1 rfl (hb 22 (by rfl))) (ev_on hLo 25 rfl HS20.1 rfl (hb 25 (by rfl))))) ?_
        refine steps_cons (st_run 27 _ rfl rfl hLo rfl rfl (fun _ _ _ _ => rfl) (fun b G w hb ho => exec_move (.inr rfl) (ev_on hLo 26 rfl HS20.1 rfl (hb 26 (by rfl))))) ?_
        exact steps_nil
      clear hLo
      intro G a21 w21 hS hH
      have HS21 : Sl a21 170 [(20, .bool false), (0, .string (b)), (1, .slice (al0) (len0) (cap0)), (17, .bool false), (5, .pointer (some ⟨gs, 0, none⟩)), (6, .pointer (some ⟨gd, 0, none⟩)), (25, .slice (al0) (len0) (cap0)), (26, .int .i64 ((len0 : Int))), (27, .int .i64 ((i : Int))), (28, .bool false), (13, .pointer none), (15, .int .i64 (2)), (4, .bool true)] := hS
      have HH21 : Held ⟨wq0, [gs, gd]⟩ w21 [⟨gs, (), 6, spC m, 53⟩, ⟨gd, (), 6, rpC d, 51⟩] := hH
      clear hS hH HS20 HH20
      refine then_ ?_
      refine wp_ret ?_
      repeat (first | refine then_ret ?_ | refine inBlock_ret' ?_)
      exact b_tmp rfl HS21.2.1 (HS21.get 12 rfl) ⟨rfl, bel_over hBq HH21.1 hBq.size (allLe2 (by omega) (by omega))⟩
    · skip
      have hlti : i < len0 := by have := of_decide_eq_true hr1; omega
      obtain ⟨x, hx⟩ : ∃ x, l0[i]? = some x := ⟨_, List.getElem?_eq_getElem (by rw [hI.z_len]; exact hlti)⟩
      obtain ⟨adx, hax, hcx⟩ := call_cells hI.z_C hx
      have hmx := List.mem_of_getElem? hx
      refine wp_cond_true (HS15.get 9 rfl) ?_
      refine wp_skip ?_
      refine then_ ?_
      refine wp_seq ?_
      refine wp_block ?_
      refine wp_seq ?_
      have hLo : LOk [(0, 29, .val (.pointer (some (adx.add (i * 4))))), (1, 30, .val (.agg (FR () 4 (lsc [.i .i64 x.f0, .i .i64 x.f1, .i .i64 x.f2, .s x.f3])))), (2, 8, .new 2 (fun g => .pointer (some ⟨g, 0, none⟩)))] := lok (by rfl) (by rfl)
      refine plain_ (wE := ⟨wq0, [gs, gd]⟩) (sz := 170) (n := 4) [0, 1, 3, 7] [(20, .val (.bool false)), (0, .val (.string (b))), (1, .val (.slice (al0) (len0) (cap0))), (17, .val (.bool false)), (5, .val (.pointer (some ⟨gs, 0, none⟩))), (6, .val (.pointer (some ⟨gd, 0, none⟩))), (25, .val (.slice (al0) (len0) (cap0))), (26, .val (.int .i64 ((len0 : Int)))), (27, .val (.int .i64 ((i : Int)))), (28, .val (.bool true)), (8, .new 2 (fun g => .pointer (some ⟨g, 0, none⟩)))] [(0, 29, .val (.pointer (some (adx.add (i * 4))))), (1, 30, .val (.agg (FR () 4 (lsc [.i .i64 x.f0, .i .i64 x.f1, .i .i64 x.f2, .s x.f3])))), (2, 8, .new 2 (fun g => .pointer (some ⟨g, 0, none⟩)))] [⟨gs, none, none, (), 6, spC m, spC m, 53⟩, ⟨gd, none, none, (), 6, rpC d, rpC d, 51⟩, ⟨0, some 2, some 3, (), 4, lsc [.i .i64 (0), .i .i64 (0), .i .i64 (0), .s (ByteArray.empty)], lsc [.i .i64 x.f0, .i .i64 x.f1, .i .i64 x.f2, .s x.f3], 49⟩] rfl (by rfl) HH15 rfl rfl hLo rfl HS15 (slS 0 rfl rfl (slS 1 rfl rfl (slS 2 rfl rfl (slS 3 rfl rfl (slS 4 rfl rfl (slS 5 rfl rfl (slS 6 rfl rfl (slS 7 rfl rfl (slS 8 rfl rfl (slS 9 rfl rfl (slL 2 (d := 2) rfl (trivial)))))))))))) ?_ ?_
      · show ∀ i ∈ [0, 1, 2, 3], _
        refine steps_cons (st_run 0 _ rfl rfl hLo rfl rfl (fun _ _ _ _ => rfl) (fun b G w hb ho => exec_indexAddr rfl (ev_off rfl (HS15.get 6 rfl)) (ev_off rfl (HS15.get 8 rfl)) (index_sl Try.underlying44 (by kernel_rfl) hax hlti _))) ?_
        refine steps_cons (st_at 1 (adx.add (i * 4)) rfl rfl rfl (fun _ _ _ _ => rfl) hLo rfl rfl Try.underlying49 (by kernel_rfl) rfl (fun j hj => wxc (hcx j hj) rfl hBq (allLe2 hwgs hwgd)) (fun b G hb ho => ev_on hLo 0 rfl HS15.1 rfl (hb 0 (by rfl)))) ?_
        refine steps_cons (st_alloc 2 2 () 4 49 (some 3) _ _ rfl rfl (fun _ _ _ _ => rfl) rfl hLo rfl rfl rfl rfl (by rfl) (fun b G w _ _ => by kernel_rfl)) ?_
        refine steps_cons (st_store 2 _ rfl rfl rfl rfl rfl (fun _ _ _ _ => rfl) rfl rfl rfl (by rfl) (by kernel_rfl) (fun b G hb ho => ev_on hLo 2 rfl HS15.1 rfl (hb 2 (by rfl))) (fun b G hb ho => ev_on hLo 1 rfl HS15.1 rfl (hb 1 (by rfl)))) ?_
        exact steps_nil
      clear hLo
      intro G a22 w22 hS hH
      have HS22 : Sl a22 170 [(20, .bool false), (0, .string (b)), (1, .slice (al0) (len0) (cap0)), (17, .bool false), (5, .pointer (some ⟨gs, 0, none⟩)), (6, .pointer (some ⟨gd, 0, none⟩)), (25, .slice (al0) (len0) (cap0)), (26, .int .i64 ((len0 : Int))), (27, .int .i64 ((i : Int))), (28, .bool true), (8, .pointer (some ⟨(G 2), 0, none⟩))] := hS
      have HH22 : Held ⟨wq0, [gs, gd]⟩ w22 [⟨gs, (), 6, spC m, 53⟩, ⟨gd, (), 6, rpC d, 51⟩, ⟨(G 2), (), 4, lsc [.i .i64 x.f0, .i .i64 x.f1, .i .i64 x.f2, .s x.f3], 49⟩] := hH
      clear hS hH HS15 HH15
      generalize G 2 = g22_2 at HS22 HH22
      refine then_ ?_
      refine wp_seq ?_
      have hLo : LOk [(0, 9, .val (.int .i64 (0))), (1, 10, .val (.int .i64 (0)))] := lok (by rfl) (by rfl)
      refine plain_ (wE := ⟨wq0, [gs, gd]⟩) (sz := 170) (n := 2) [0, 1] [(20, .val (.bool false)), (0, .val (.string (b))), (1, .val (.slice (al0) (len0) (cap0))), (17, .val (.bool false)), (5, .val (.pointer (some ⟨gs, 0, none⟩))), (6, .val (.pointer (some ⟨gd, 0, none⟩))), (25, .val (.slice (al0) (len0) (cap0))), (26, .val (.int .i64 ((len0 : Int)))), (27, .val (.int .i64 ((i : Int)))), (28, .val (.bool true)), (8, .val (.pointer (some ⟨g22_2, 0, none⟩))), (9, .val (.int .i64 (0))), (10, .val (.int .i64 (0)))] [(0, 9, .val (.int .i64 (0))), (1, 10, .val (.int .i64 (0)))] [⟨gs, none, none, (), 6, spC m, spC m, 53⟩, ⟨gd, none, none, (), 6, rpC d, rpC d, 51⟩, ⟨g22_2, none, none, (), 4, lsc [.i .i64 x.f0, .i .i64 x.f1, .i .i64 x.f2, .s x.f3], lsc [.i .i64 x.f0, .i .i64 x.f1, .i .i64 x.f2, .s x.f3], 49⟩] rfl (by rfl) HH22 rfl rfl hLo rfl HS22 (slS 0 rfl rfl (slS 1 rfl rfl (slS 2 rfl rfl (slS 3 rfl rfl (slS 4 rfl rfl (slS 5 rfl rfl (slS 6 rfl rfl (slS 7 rfl rfl (slS 8 rfl rfl (slS 9 rfl rfl (slS 10 rfl rfl (slL 0 (d := 0) rfl (slL 1 (d := 1) rfl (trivial)))))))))))))) ?_ ?_
      · show ∀ i ∈ [0, 1], _
        refine steps_cons (st_run 0 _ rfl rfl hLo rfl rfl (fun _ _ _ _ => rfl) (fun b G w hb ho => exec_move (.inr rfl) (rfl))) ?_
        refine steps_cons (st_run 1 _ rfl rfl hLo rfl rfl (fun _ _ _ _ => rfl) (fun b G w hb ho => exec_move (.inr rfl) (rfl))) ?_
        exact steps_nil
      clear hLo
      intro G a23 w23 hS hH
      have HS23 : Sl a23 170 [(20, .bool false), (0, .string (b)), (1, .slice (al0) (len0) (cap0)), (17, .bool false), (5, .pointer (some ⟨gs, 0, none⟩)), (6, .pointer (some ⟨gd, 0, none⟩)), (25, .slice (al0) (len0) (cap0)), (26, .int .i64 ((len0 : Int))), (27, .int .i64 ((i : Int))), (28, .bool true), (8, .pointer (some ⟨g22_2, 0, none⟩)), (9, .int .i64 (0)), (10, .int .i64 (0))] := hS
      have HH23 : Held ⟨wq0, [gs, gd]⟩ w23 [⟨gs, (), 6, spC m, 53⟩, ⟨gd, (), 6, rpC d, 51⟩, ⟨g22_2, (), 4, lsc [.i .i64 x.f0, .i .i64 x.f1, .i .i64 x.f2, .s x.f3], 49⟩] := hH
      clear hS hH HS22 HH22
      refine then_ ?_
      refine seq_join (fun a w' => ∃ m2 : Sp, ∃ d2 : Rp, ∃ ce : Int, (Sim m2 d2 ∧ OKa (i + 1) m2) ∧ Below w.heap.size w w' ∧ Sl a 170 [(20, .bool false), (0, .string (b)), (1, .slice (al0) (len0) (cap0)), (17, .bool false), (5, .pointer (some ⟨gs, 0, none⟩)), (6, .pointer (some ⟨gd, 0, none⟩)), (25, .slice (al0) (len0) (cap0)), (26, .int .i64 ((len0 : Int))), (27, .int .i64 ((i : Int))), (28, .bool true), (9, .int .i64 (ce)), (10, .int .i64 (ce))] ∧ Held ⟨w', [gs, gd]⟩ w' [⟨gs, (), 6, spC m2, 53⟩, ⟨gd, (), 6, rpC d2, 51⟩]) ?_ ?_
      · skip
        refine wp_seq ?_
        have hLo : LOk [(0, 31, .val (.pointer (some ⟨g22_2, 0, none⟩))), (1, 32, .val (.int .i64 (x.f0)))] := lok (by rfl) (by rfl)
        refine plain_ (wE := ⟨wq0, [gs, gd]⟩) (sz := 170) (n := 2) [0, 1] [(20, .val (.bool false)), (0, .val (.string (b))), (1, .val (.slice (al0) (len0) (cap0))), (17, .val (.bool false)), (5, .val (.pointer (some ⟨gs, 0, none⟩))), (6, .val (.pointer (some ⟨gd, 0, none⟩))), (25, .val (.slice (al0) (len0) (cap0))), (26, .val (.int .i64 ((len0 : Int)))), (27, .val (.int .i64 ((i : Int)))), (28, .val (.bool true)), (8, .val (.pointer (some ⟨g22_2, 0, none⟩))), (9, .val (.int .i64 (0))), (10, .val (.int .i64 (0))), (32, .val (.int .i64 (x.f0)))] [(0, 31, .val (.pointer (some ⟨g22_2, 0, none⟩))), (1, 32, .val (.int .i64 (x.f0)))] [⟨gs, none, none, (), 6, spC m, spC m, 53⟩, ⟨gd, none, none, (), 6, rpC d, rpC d, 51⟩, ⟨g22_2, none, none, (), 4, lsc [.i .i64 x.f0, .i .i64 x.f1, .i .i64 x.f2, .s x.f3], lsc [.i .i64 x.f0, .i .i64 x.f1, .i .i64 x.f2, .s x.f3], 49⟩] rfl (by rfl) HH23 rfl rfl hLo rfl HS23 (slS 0 rfl rfl (slS 1 rfl rfl (slS 2 rfl rfl (slS 3 rfl rfl (slS 4 rfl rfl (slS 5 rfl rfl (slS 6 rfl rfl (slS 7 rfl rfl (slS 8 rfl rfl (slS 9 rfl rfl (slS 10 rfl rfl (slS 11 rfl rfl (slS 12 rfl rfl (slL 1 (d := 1) rfl (trivial))))))))))))))) ?_ ?_
        · show ∀ i ∈ [0, 1], _
          refine steps_cons (st_run 0 _ rfl rfl hLo rfl rfl (fun _ _ _ _ => rfl) (fun b G w hb ho => exec_field rfl (ev_off rfl (HS23.get 10 rfl)) (by kernel_rfl))) ?_
          refine steps_cons (st_read 1 2 _ _ rfl rfl rfl hLo rfl rfl (fun _ _ _ _ => rfl) (by rfl) (by rfl) (fun b G w hb ho hr => exec_cell hr (Nat.le_of_ble_eq_true rfl) Try.underlying3 rfl rfl (ev_on hLo 0 rfl HS23.1 rfl (hb 0 (by rfl))))) ?_
          exact steps_nil
        clear hLo
        intro G a25 w25 hS hH
        have HS25 : Sl a25 170 [(20, .bool false), (0, .string (b)), (1, .slice (al0) (len0) (cap0)), (17, .bool false), (5, .pointer (some ⟨gs, 0, none⟩)), (6, .pointer (some ⟨gd, 0, none⟩)), (25, .slice (al0) (len0) (cap0)), (26, .int .i64 ((len0 : Int))), (27, .int .i64 ((i : Int))), (28, .bool true), (8, .pointer (some ⟨g22_2, 0, none⟩)), (9, .int .i64 (0)), (10, .int .i64 (0)), (32, .int .i64 (x.f0))] := hS
        have HH25 : Held ⟨wq0, [gs, gd]⟩ w25 [⟨gs, (), 6, spC m, 53⟩, ⟨gd, (), 6, rpC d, 51⟩, ⟨g22_2, (), 4, lsc [.i .i64 x.f0, .i .i64 x.f1, .i .i64 x.f2, .s x.f3], 49⟩] := hH
        clear hS hH HS23 HH23
        refine then_ ?_
        refine wp_block ?_
        obtain ⟨r2, hr2⟩ : ∃ r : Bool, (((x.f0 : Int) == 0)) = r := ⟨_, rfl⟩
        refine wp_seq ?_
        have hLo : LOk [(0, 34, .val (.bool r2)), (1, 33, .val (.bool r2))] := lok (by rfl) (by rfl)
        refine plain_ (wE := ⟨wq0, [gs, gd]⟩) (sz := 170) (n := 2) [0, 1] [(20, .val (.bool false)), (0, .val (.string (b))), (1, .val (.slice (al0) (len0) (cap0))), (17, .val (.bool false)), (5, .val (.pointer (some ⟨gs, 0, none⟩))), (6, .val (.pointer (some ⟨gd, 0, none⟩))), (25, .val (.slice (al0) (len0) (cap0))), (26, .val (.int .i64 ((len0 : Int)))), (27, .val (.int .i64 ((i : Int)))), (28, .val (.bool true)), (8, .val (.pointer (some ⟨g22_2, 0, none⟩))), (9, .val (.int .i64 (0))), (10, .val (.int .i64 (0))), (32, .val (.int .i64 (x.f0))), (33, .val (.bool r2))] [(0, 34, .val (.bool r2)), (1, 33, .val (.bool r2))] [⟨gs, none, none, (), 6, spC m, spC m, 53⟩, ⟨gd, none, none, (), 6, rpC d, rpC d, 51⟩, ⟨g22_2, none, none, (), 4, lsc [.i .i64 x.f0, .i .i64 x.f1, .i .i64 x.f2, .s x.f3], lsc [.i .i64 x.f0, .i .i64 x.f1, .i .i64 x.f2, .s x.f3], 49⟩] rfl (by rfl) HH25 rfl rfl hLo rfl HS25 (slS 0 rfl rfl (slS 1 rfl rfl (slS 2 rfl rfl (slS 3 rfl rfl (slS 4 rfl rfl (slS 5 rfl rfl (slS 6 rfl rfl (slS 7 rfl rfl (slS 8 rfl rfl (slS 9 rfl rfl (slS 10 rfl rfl (slS 11 rfl rfl (slS 12 rfl rfl (slS 13 rfl rfl (slL 1 (d := 1) rfl (trivial)))))))))))))))) ?_ ?_
        · show ∀ i ∈ [0, 1], _
          refine steps_cons (st_run 0 _ rfl rfl hLo rfl rfl (fun _ _ _ _ => rfl) (fun b G w hb ho => exec_bin rfl (ev_off rfl (HS25.get 13 rfl)) (rfl) (rb_eql hr2 _ _ _))) ?_
          refine steps_cons (st_run 1 _ rfl rfl hLo rfl rfl (fun _ _ _ _ => rfl) (fun b G w hb ho => exec_move (.inr rfl) (ev_on hLo 0 rfl HS25.1 rfl (hb 0 (by rfl))))) ?_
          exact steps_nil
        clear hLo
        intro G a26 w26 hS hH
        have HS26 : Sl a26 170 [(20, .bool false), (0, .string (b)), (1, .slice (al0) (len0) (cap0)), (17, .bool false), (5, .pointer (some ⟨gs, 0, none⟩)), (6, .pointer (some ⟨gd, 0, none⟩)), (25, .slice (al0) (len0) (cap0)), (26, .int .i64 ((len0 : Int))), (27, .int .i64 ((i : Int))), (28, .bool true), (8, .pointer (some ⟨g22_2, 0, none⟩)), (9, .int .i64 (0)), (10, .int .i64 (0)), (32, .int .i64 (x.f0)), (33, .bool r2)] := hS
        have HH26 : Held ⟨wq0, [gs, gd]⟩ w26 [⟨gs, (), 6, spC m, 53⟩, ⟨gd, (), 6, rpC d, 51⟩, ⟨g22_2, (), 4, lsc [.i .i64 x.f0, .i .i64 x.f1, .i .i64 x.f2, .s x.f3], 49⟩] := hH
        clear hS hH HS25 HH25
        refine then_ ?_
        cases r2
        · skip
          refine wp_cond_false (HS26.get 14 rfl) ?_
          obtain ⟨r3, hr3⟩ : ∃ r : Bool, (((x.f0 : Int) == 1)) = r := ⟨_, rfl⟩
          refine wp_seq ?_
          have hLo : LOk [(0, 44, .val (.bool r3)), (1, 43, .val (.bool r3))] := lok (by rfl) (by rfl)
          refine plain_ (wE := ⟨wq0, [gs, gd]⟩) (sz := 170) (n := 2) [0, 1] [(20, .val (.bool false)), (0, .val (.string (b))), (1, .val (.slice (al0) (len0) (cap0))), (17, .val (.bool false)), (5, .val (.pointer (some ⟨gs, 0, none⟩))), (6, .val (.pointer (some ⟨gd, 0, none⟩))), (25, .val (.slice (al0) (len0) (cap0))), (26, .val (.int .i64 ((len0 : Int)))), (27, .val (.int .i64 ((i : Int)))), (28, .val (.bool true)), (8, .val (.pointer (some ⟨g22_2, 0, none⟩))), (9, .val (.int .i64 (0))), (10, .val (.int .i64 (0))), (32, .val (.int .i64 (x.f0))), (33, .val (.bool false)), (43, .val (.bool r3))] [(0, 44, .val (.bool r3)), (1, 43, .val (.bool r3))] [⟨gs, none, none, (), 6, spC m, spC m, 53⟩, ⟨gd, none, none, (), 6, rpC d, rpC d, 51⟩, ⟨g22_2, none, none, (), 4, lsc [.i .i64 x.f0, .i .i64 x.f1, .i .i64 x.f2, .s x.f3], lsc [.i .i64 x.f0, .i .i64 x.f1, .i .i64 x.f2, .s x.f3], 49⟩] rfl (by rfl) HH26 rfl rfl hLo rfl HS26 (slS 0 rfl rfl (slS 1 rfl rfl (slS 2 rfl rfl (slS 3 rfl rfl (slS 4 rfl rfl (slS 5 rfl rfl (slS 6 rfl rfl (slS 7 rfl rfl (slS 8 rfl rfl (slS 9 rfl rfl (slS 10 rfl rfl (slS 11 rfl rfl (slS 12 rfl rfl (slS 13 rfl rfl (slS 14 rfl rfl (slL 1 (d := 1) rfl (trivial))))))))))))))))) ?_ ?_
          · show ∀ i ∈ [0, 1], _
            refine steps_cons (st_run 0 _ rfl rfl hLo rfl rfl (fun _ _ _ _ => rfl) (fun b G w hb ho => exec_bin rfl (ev_off rfl (HS26.get 13 rfl)) (rfl) (rb_eql hr3 _ _ _))) ?_
            refine steps_cons (st_run 1 _ rfl rfl hLo rfl rfl (fun _ _ _ _ => rfl) (fun b G w hb ho => exec_move (.inr rfl) (ev_on hLo 0 rfl HS26.1 rfl (hb 0 (by rfl))))) ?_
            exact steps_nil
          clear hLo
          intro G a27 w27 hS hH
          have HS27 : Sl a27 170 [(20, .bool false), (0, .string (b)), (1, .slice (al0) (len0) (cap0)), (17, .bool false), (5, .pointer (some ⟨gs, 0, none⟩)), (6, .pointer (some ⟨gd, 0, none⟩)), (25, .slice (al0) (len0) (cap0)), (26, .int .i64 ((len0 : Int))), (27, .int .i64 ((i : Int))), (28, .bool true), (8, .pointer (some ⟨g22_2, 0, none⟩)), (9, .int .i64 (0)), (10, .int .i64 (0)), (32, .int .i64 (x.f0)), (33, .bool false), (43, .bool r3)] := hS
          have HH27 : Held ⟨wq0, [gs, gd]⟩ w27 [⟨gs, (), 6, spC m, 53⟩, ⟨gd, (), 6, rpC d, 51⟩, ⟨g22_2, (), 4, lsc [.i .i64 x.f0, .i .i64 x.f1, .i .i64 x.f2, .s x.f3], 49⟩] := hH
          clear hS hH HS26 HH26
          refine then_ ?_
          cases r3
          · skip
            refine wp_cond_false (HS27.get 15 rfl) ?_
            obtain ⟨r4, hr4⟩ : ∃ r : Bool, (((x.f0 : Int) == 2)) = r := ⟨_, rfl⟩
            refine wp_seq ?_
            have hLo : LOk [(0, 50, .val (.bool r4)), (1, 49, .val (.bool r4))] := lok (by rfl) (by rfl)
            refine plain_ (wE := ⟨wq0, [gs, gd]⟩) (sz := 170) (n := 2) [0, 1] [(20, .val (.bool false)), (0, .val (.string (b))), (1, .val (.slice (al0) (len0) (cap0))), (17, .val (.bool false)), (5, .val (.pointer (some ⟨gs, 0, none⟩))), (6, .val (.pointer (some ⟨gd, 0, none⟩))), (25, .val (.slice (al0) (len0) (cap0))), (26, .val (.int .i64 ((len0 : Int)))), (27, .val (.int .i64 ((i : Int)))), (28, .val (.bool true)), (8, .val (.pointer (some ⟨g22_2, 0, none⟩))), (9, .val (.int .i64 (0))), (10, .val (.int .i64 (0))), (32, .val (.int .i64 (x.f0))), (33, .val (.bool false)), (43, .val (.bool false)), (49, .val (.bool r4))] [(0, 50, .val (.bool r4)), (1, 49, .val (.bool r4))] [⟨gs, none, none, (), 6, spC m, spC m, 53⟩, ⟨gd, none, none, (), 6, rpC d, rpC d, 51⟩, ⟨g22_2, none, none, (), 4, lsc [.i .i64 x.f0, .i .i64 x.f1, .i .i64 x.f2, .s x.f3], lsc [.i .i64 x.f0, .i .i64 x.f1, .i .i64 x.f2, .s x.f3], 49⟩] rfl (by rfl) HH27 rfl rfl hLo rfl HS27 (slS 0 rfl rfl (slS 1 rfl rfl (slS 2 rfl rfl (slS 3 rfl rfl (slS 4 rfl rfl (slS 5 rfl rfl (slS 6 rfl rfl (slS 7 rfl rfl (slS 8 rfl rfl (slS 9 rfl rfl (slS 10 rfl rfl (slS 11 rfl rfl (slS 12 rfl rfl (slS 13 rfl rfl (slS 14 rfl rfl (slS 15 rfl rfl (slL 1 (d := 1) rfl (trivial)))))))))))))))))) ?_ ?_
            · show ∀ i ∈ [0, 1], _
              refine steps_cons (st_run 0 _ rfl rfl hLo rfl rfl (fun _ _ _ _ => rfl) (fun b G w hb ho => exec_bin rfl (ev_off rfl (HS27.get 13 rfl)) (rfl) (rb_eql hr4 _ _ _))) ?_
              refine steps_cons (st_run 1 _ rfl rfl hLo rfl rfl (fun _ _ _ _ => rfl) (fun b G w hb ho => exec_move (.inr rfl) (ev_on hLo 0 rfl HS27.1 rfl (hb 0 (by rfl))))) ?_
              exact steps_nil
            clear hLo
            intro G a28 w28 hS hH
            have HS28 : Sl a28 170 [(20, .bool false), (0, .string (b)), (1, .slice (al0) (len0) (cap0)), (17, .bool false), (5, .pointer (some ⟨gs, 0, none⟩)), (6, .pointer (some ⟨gd, 0, none⟩)), (25, .slice (al0) (len0) (cap0)), (26, .int .i64 ((len0 : Int))), (27, .int .i64 ((i : Int))), (28, .bool true), (8, .pointer (some ⟨g22_2, 0, none⟩)), (9, .int .i64 (0)), (10, .int .i64 (0)), (32, .int .i64 (x.f0)), (33, .bool false), (43, .bool false), (49, .bool r4)] := hS
            have HH28 : Held ⟨wq0, [gs, gd]⟩ w28 [⟨gs, (), 6, spC m, 53⟩, ⟨gd, (), 6, rpC d, 51⟩, ⟨g22_2, (), 4, lsc [.i .i64 x.f0, .i .i64 x.f1, .i .i64 x.f2, .s x.f3], 49⟩] := hH
            clear hS hH HS27 HH27
            refine then_ ?_
            cases r4
            · skip
              refine wp_cond_false (HS28.get 16 rfl) ?_
              obtain ⟨r5, hr5⟩ : ∃ r : Bool, (((x.f0 : Int) == 3)) = r := ⟨_, rfl⟩
              refine wp_seq ?_
              have hLo : LOk [(0, 66, .val (.bool r5)), (1, 65, .val (.bool r5))] := lok (by rfl) (by rfl)
              refine plain_ (wE := ⟨wq0, [gs, gd]⟩) (sz := 170) (n := 2) [0, 1] [(20, .val (.bool false)), (0, .val (.string (b))), (1, .val (.slice (al0) (len0) (cap0))), (17, .val (.bool false)), (5, .val (.pointer (some ⟨gs, 0, none⟩))), (6, .val (.pointer (some ⟨gd, 0, none⟩))), (25, .val (.slice (al0) (len0) (cap0))), (26, .val (.int .i64 ((len0 : Int)))), (27, .val (.int .i64 ((i : Int)))), (28, .val (.bool true)), (8, .val (.pointer (some ⟨g22_2, 0, none⟩))), (9, .val (.int .i64 (0))), (10, .val (.int .i64 (0))), (32, .val (.int .i64 (x.f0))), (33, .val (.bool false)), (43, .val (.bool false)), (49, .val (.bool false)), (65, .val (.bool r5))] [(0, 66, .val (.bool r5)), (1, 65, .val (.bool r5))] [⟨gs, none, none, (), 6, spC m, spC m, 53⟩, ⟨gd, none, none, (), 6, rpC d, rpC d, 51⟩, ⟨g22_2, none, none, (), 4, lsc [.i .i64 x.f0, .i .i64 x.f1, .i .i64 x.f2, .s x.f3], lsc [.i .i64 x.f0, .i .i64 x.f1, .i .i64 x.f2, .s x.f3], 49⟩] rfl (by rfl) HH28 rfl rfl hLo rfl HS28 (slS 0 rfl rfl (slS 1 rfl rfl (slS 2 rfl rfl (slS 3 rfl rfl (slS 4 rfl rfl (slS 5 rfl rfl (slS 6 rfl rfl (slS 7 rfl rfl (slS 8 rfl rfl (slS 9 rfl rfl (slS 10 rfl rfl (slS 11 rfl rfl (slS 12 rfl rfl (slS 13 rfl rfl (slS 14 rfl rfl (slS 15 rfl rfl (slS 16 rfl rfl (slL 1 (d := 1) rfl (trivial))))))))))))))))))) ?_ ?_
              · show ∀ i ∈ [0, 1], _
                refine steps_cons (st_run 0 _ rfl rfl hLo rfl rfl (fun _ _ _ _ => rfl) (fun b G w hb ho => exec_bin rfl (ev_off rfl (HS28.get 13 rfl)) (rfl) (rb_eql hr5 _ _ _))) ?_
                refine steps_cons (st_run 1 _ rfl rfl hLo rfl rfl (fun _ _ _ _ => rfl) (fun b G w hb ho => exec_move (.inr rfl) (ev_on hLo 0 rfl HS28.1 rfl (hb 0 (by rfl))))) ?_
                exact steps_nil
              clear hLo
              intro G a29 w29 hS hH
              have HS29 : Sl a29 170 [(20, .bool false), (0, .string (b)), (1, .slice (al0) (len0) (cap0)), (17, .bool false), (5, .pointer (some ⟨gs, 0, none⟩)), (6, .pointer (some ⟨gd, 0, none⟩)), (25, .slice (al0) (len0) (cap0)), (26, .int .i64 ((len0 : Int))), (27, .int .i64 ((i : Int))), (28, .bool true), (8, .pointer (some ⟨g22_2, 0, none⟩)), (9, .int .i64 (0)), (10, .int .i64 (0)), (32, .int .i64 (x.f0)), (33, .bool false), (43, .bool false), (49, .bool false), (65, .bool r5)] := hS
              have HH29 : Held ⟨wq0, [gs, gd]⟩ w29 [⟨gs, (), 6, spC m, 53⟩, ⟨gd, (), 6, rpC d, 51⟩, ⟨g22_2, (), 4, lsc [.i .i64 x.f0, .i .i64 x.f1, .i .i64 x.f2, .s x.f3], 49⟩] := hH
              clear hS hH HS28 HH28
              refine then_ ?_
              cases r5
              · skip
                refine wp_cond_false (HS29.get 17 rfl) ?_
                obtain ⟨r6, hr6⟩ : ∃ r : Bool, (((x.f0 : Int) == 4)) = r := ⟨_, rfl⟩
                refine wp_seq ?_
                have hLo : LOk [(0, 76, .val (.bool r6)), (1, 75, .val (.bool r6))] := lok (by rfl) (by rfl)
                refine plain_ (wE := ⟨wq0, [gs, gd]⟩) (sz := 170) (n := 2) [0, 1] [(20, .val (.bool false)), (0, .val (.string (b))), (1, .val (.slice (al0) (len0) (cap0))), (17, .val (.bool false)), (5, .val (.pointer (some ⟨gs, 0, none⟩))), (6, .val (.pointer (some ⟨gd, 0, none⟩))), (25, .val (.slice (al0) (len0) (cap0))), (26, .val (.int .i64 ((len0 : Int)))), (27, .val (.int .i64 ((i : Int)))), (28, .val (.bool true)), (8, .val (.pointer (some ⟨g22_2, 0, none⟩))), (9, .val (.int .i64 (0))), (10, .val (.int .i64 (0))), (32, .val (.int .i64 (x.f0))), (33, .val (.bool false)), (43, .val (.bool false)), (49, .val (.bool false)), (65, .val (.bool false)), (75, .val (.bool r6))] [(0, 76, .val (.bool r6)), (1, 75, .val (.bool r6))] [⟨gs, none, none, (), 6, spC m, spC m, 53⟩, ⟨gd, none, none, (), 6, rpC d, rpC d, 51⟩, ⟨g22_2, none, none, (), 4, lsc [.i .i64 x.f0, .i .i64 x.f1, .i .i64 x.f2, .s x.f3], lsc [.i .i64 x.f0, .i .i64 x.f1, .i .i64 x.f2, .s x.f3], 49⟩] rfl (by rfl) HH29 rfl rfl hLo rfl HS29 (slS 0 rfl rfl (slS 1 rfl rfl (slS 2 rfl rfl (slS 3 rfl rfl (slS 4 rfl rfl (slS 5 rfl rfl (slS 6 rfl rfl (slS 7 rfl rfl (slS 8 rfl rfl (slS 9 rfl rfl (slS 10 rfl rfl (slS 11 rfl rfl (slS 12 rfl rfl (slS 13 rfl rfl (slS 14 rfl rfl (slS 15 rfl rfl (slS 16 rfl rfl (slS 17 rfl rfl (slL 1 (d := 1) rfl (trivial)))))))))))))))))))) ?_ ?_
                · show ∀ i ∈ [0, 1], _
                  refine steps_cons (st_run 0 _ rfl rfl hLo rfl rfl (fun _ _ _ _ => rfl) (fun b G w hb ho => exec_bin rfl (ev_off rfl (HS29.get 13 rfl)) (rfl) (rb_eql hr6 _ _ _))) ?_
                  refine steps_cons (st_run 1 _ rfl rfl hLo rfl rfl (fun _ _ _ _ => rfl) (fun b G w hb ho => exec_move (.inr rfl) (ev_on hLo 0 rfl HS29.1 rfl (hb 0 (by rfl))))) ?_
                  exact steps_nil
                clear hLo
                intro G a30 w30 hS hH
                have HS30 : Sl a30 170 [(20, .bool false), (0, .string (b)), (1, .slice (al0) (len0) (cap0)), (17, .bool false), (5, .pointer (some ⟨gs, 0, none⟩)), (6, .pointer (some ⟨gd, 0, none⟩)), (25, .slice (al0) (len0) (cap0)), (26, .int .i64 ((len0 : Int))), (27, .int .i64 ((i : Int))), (28, .bool true), (8, .pointer (some ⟨g22_2, 0, none⟩)), (9, .int .i64 (0)), (10, .int .i64 (0)), (32, .int .i64 (x.f0)), (33, .bool false), (43, .bool false), (49, .bool false), (65, .bool false), (75, .bool r6)] := hS
                have HH30 : Held ⟨wq0, [gs, gd]⟩ w30 [⟨gs, (), 6, spC m, 53⟩, ⟨gd, (), 6, rpC d, 51⟩, ⟨g22_2, (), 4, lsc [.i .i64 x.f0, .i .i64 x.f1, .i .i64 x.f2, .s x.f3], 49⟩] := hH
                clear hS hH HS29 HH29
                refine then_ ?_
                cases r6
                · skip
                  refine wp_cond_false (HS30.get 18 rfl) ?_
                  obtain ⟨r7, hr7⟩ : ∃ r : Bool, (((x.f0 : Int) == 5)) = r := ⟨_, rfl⟩
                  refine wp_seq ?_
                  have hLo : LOk [(0, 83, .val (.bool r7)), (1, 82, .val (.bool r7))] := lok (by rfl) (by rfl)
                  refine plain_ (wE := ⟨wq0, [gs, gd]⟩) (sz := 170) (n := 2) [0, 1] [(20, .val (.bool false)), (0, .val (.string (b))), (1, .val (.slice (al0) (len0) (cap0))), (17, .val (.bool false)), (5, .val (.pointer (some ⟨gs, 0, none⟩))), (6, .val (.pointer (some ⟨gd, 0, none⟩))), (25, .val (.slice (al0) (len0) (cap0))), (26, .val (.int .i64 ((len0 : Int)))), (27, .val (.int .i64 ((i : Int)))), (28, .val (.bool true)), (8, .val (.pointer (some ⟨g22_2, 0, none⟩))), (9, .val (.int .i64 (0))), (10, .val (.int .i64 (0))), (32, .val (.int .i64 (x.f0))), (33, .val (.bool false)), (43, .val (.bool false)), (49, .val (.bool false)), (65, .val (.bool false)), (75, .val (.bool false)), (82, .val (.bool r7))] [(0, 83, .val (.bool r7)), (1, 82, .val (.bool r7))] [⟨gs, none, none, (), 6, spC m, spC m, 53⟩, ⟨gd, none, none, (), 6, rpC d, rpC d, 51⟩, ⟨g22_2, none, none, (), 4, lsc [.i .i64 x.f0, .i .i64 x.f1, .i .i64 x.f2, .s x.f3], lsc [.i .i64 x.f0, .i .i64 x.f1, .i .i64 x.f2, .s x.f3], 49⟩] rfl (by rfl) HH30 rfl rfl hLo rfl HS30 (slS 0 rfl rfl (slS 1 rfl rfl (slS 2 rfl rfl (slS 3 rfl rfl (slS 4 rfl rfl (slS 5 rfl rfl (slS 6 rfl rfl (slS 7 rfl rfl (slS 8 rfl rfl (slS 9 rfl rfl (slS 10 rfl rfl (slS 11 rfl rfl (slS 12 rfl rfl (slS 13 rfl rfl (slS 14 rfl rfl (slS 15 rfl rfl (slS 16 rfl rfl (slS 17 rfl rfl (slS 18 rfl rfl (slL 1 (d := 1) rfl (trivial))))))))))))))))))))) ?_ ?_
                  · show ∀ i ∈ [0, 1], _
                    refine steps_cons (st_run 0 _ rfl rfl hLo rfl rfl (fun _ _ _ _ => rfl) (fun b G w hb ho => exec_bin rfl (ev_off rfl (HS30.get 13 rfl)) (rfl) (rb_eql hr7 _ _ _))) ?_
                    refine steps_cons (st_run 1 _ rfl rfl hLo rfl rfl (fun _ _ _ _ => rfl) (fun b G w hb ho => exec_move (.inr rfl) (ev_on hLo 0 rfl HS30.1 rfl (hb 0 (by rfl))))) ?_
                    exact steps_nil
                  clear hLo
                  intro G a31 w31 hS hH
                  have HS31 : Sl a31 170 [(20, .bool false), (0, .string (b)), (1, .slice (al0) (len0) (cap0)), (17, .bool false), (5, .pointer (some ⟨gs, 0, none⟩)), (6, .pointer (some ⟨gd, 0, none⟩)), (25, .slice (al0) (len0) (cap0)), (26, .int .i64 ((len0 : Int))), (27, .int .i64 ((i : Int))), (28, .bool true), (8, .pointer (some ⟨g22_2, 0, none⟩)), (9, .int .i64 (0)), (10, .int .i64 (0)), (32, .int .i64 (x.f0)), (33, .bool false), (43, .bool false), (49, .bool false), (65, .bool false), (75, .bool false), (82, .bool r7)] := hS
                  have HH31 : Held ⟨wq0, [gs, gd]⟩ w31 [⟨gs, (), 6, spC m, 53⟩, ⟨gd, (), 6, rpC d, 51⟩, ⟨g22_2, (), 4, lsc [.i .i64 x.f0, .i .i64 x.f1, .i .i64 x.f2, .s x.f3], 49⟩] := hH
                  clear hS hH HS30 HH30
                  refine then_ ?_
                  cases r7
                  · skip
                    refine wp_cond_false (HS31.get 19 rfl) ?_
                    refine wp_skip ?_
                    refine inBlock_normal ?_
                    refine then_ ?_
                    have hS32 : Sl _ 170 [(20, .bool false), (0, .string (b)), (1, .slice (al0) (len0) (cap0)), (17, .bool false), (5, .pointer (some ⟨gs, 0, none⟩)), (6, .pointer (some ⟨gd, 0, none⟩)), (25, .slice (al0) (len0) (cap0)), (26, .int .i64 ((len0 : Int))), (27, .int .i64 ((i : Int))), (28, .bool true), (9, .int .i64 (0)), (10, .int .i64 (0))] := sl_keep HS31 [0, 1, 2, 3, 4, 5, 6, 7, 8, 9, 11, 12] (by rfl)
                    have hH32 : Held ⟨wq0, [gs, gd]⟩ _ [⟨gs, (), 6, spC m, 53⟩, ⟨gd, (), 6, rpC d, 51⟩] := held_keep HH31 2 rfl
                    have hBj := bel_over hBq hH32.1 hBq.size (allLe2 (by omega) (by omega))
                    exact ⟨m, d, 0, ⟨hsim, hoka.up⟩, hBj, hS32, hH32.anew⟩
                  · skip
                    refine wp_cond_true (HS31.get 19 rfl) ?_
                    refine wp_seq ?_
                    have hLo : LOk [(0, 84, .val (.pointer (some ⟨gs, 0, none⟩))), (1, 85, .val (.pointer (some ⟨g22_2, 1, none⟩))), (2, 86, .val (.int .i64 (x.f1))), (3, 87, .val (.pointer (some ⟨g22_2, 2, none⟩))), (4, 88, .val (.int .i64 (x.f2))), (5, 89, .val (.tuple #[]))] := lok (by rfl) (by rfl)
                    refine plain_ (wE := ⟨wq0, [gs, gd]⟩) (sz := 170) (n := 6) [0, 1, 3, 7, 15, 31] [(20, .val (.bool false)), (0, .val (.string (b))), (1, .val (.slice (al0) (len0) (cap0))), (17, .val (.bool false)), (5, .val (.pointer (some ⟨gs, 0, none⟩))), (6, .val (.pointer (some ⟨gd, 0, none⟩))), (25, .val (.slice (al0) (len0) (cap0))), (26, .val (.int .i64 ((len0 : Int)))), (27, .val (.int .i64 ((i : Int)))), (28, .val (.bool true)), (8, .val (.pointer (some ⟨g22_2, 0, none⟩))), (9, .val (.int .i64 (0))), (10, .val (.int .i64 (0))), (32, .val (.int .i64 (x.f0))), (33, .val (.bool false)), (43, .val (.bool false)), (49, .val (.bool false)), (65, .val (.bool false)), (75, .val (.bool false)), (82, .val (.bool true))] [(0, 84, .val (.pointer (some ⟨gs, 0, none⟩))), (1, 85, .val (.pointer (some ⟨g22_2, 1, none⟩))), (2, 86, .val (.int .i64 (x.f1))), (3, 87, .val (.pointer (some ⟨g22_2, 2, none⟩))), (4, 88, .val (.int .i64 (x.f2))), (5, 89, .val (.tuple #[]))] [⟨gs, none, some 5, (), 6, spC m, spC (armS m x.f1 x.f2), 53⟩, ⟨gd, none, none, (), 6, rpC d, rpC d, 51⟩, ⟨g22_2, none, none, (), 4, lsc [.i .i64 x.f0, .i .i64 x.f1, .i .i64 x.f2, .s x.f3], lsc [.i .i64 x.f0, .i .i64 x.f1, .i .i64 x.f2, .s x.f3], 49⟩] rfl (by rfl) HH31 rfl rfl hLo rfl HS31 (slS 0 rfl rfl (slS 1 rfl rfl (slS 2 rfl rfl (slS 3 rfl rfl (slS 4 rfl rfl (slS 5 rfl rfl (slS 6 rfl rfl (slS 7 rfl rfl (slS 8 rfl rfl (slS 9 rfl rfl (slS 10 rfl rfl (slS 11 rfl rfl (slS 12 rfl rfl (slS 13 rfl rfl (slS 14 rfl rfl (slS 15 rfl rfl (slS 16 rfl rfl (slS 17 rfl rfl (slS 18 rfl rfl (slS 19 rfl rfl (trivial))))))))))))))))))))) ?_ ?_
                    · show ∀ i ∈ [0, 1, 2, 3, 4, 5], _
                      refine steps_cons (st_run 0 _ rfl rfl hLo rfl rfl (fun _ _ _ _ => rfl) (fun b G w hb ho => exec_move (.inl rfl) (ev_off rfl (HS31.get 4 rfl)))) ?_
                      refine steps_cons (st_run 1 _ rfl rfl hLo rfl rfl (fun _ _ _ _ => rfl) (fun b G w hb ho => exec_field rfl (ev_off rfl (HS31.get 10 rfl)) (by kernel_rfl))) ?_
                      refine steps_cons (st_read 2 2 _ _ rfl rfl rfl hLo rfl rfl (fun _ _ _ _ => rfl) (by rfl) (by rfl) (fun b G w hb ho hr => exec_cell hr (Nat.le_of_ble_eq_true rfl) Try.underlying3 rfl rfl (ev_on hLo 1 rfl HS31.1 rfl (hb 1 (by rfl))))) ?_
                      refine steps_cons (st_run 3 _ rfl rfl hLo rfl rfl (fun _ _ _ _ => rfl) (fun b G w hb ho => exec_field rfl (ev_off rfl (HS31.get 10 rfl)) (by kernel_rfl))) ?_
                      refine steps_cons (st_read 4 2 _ _ rfl rfl rfl hLo rfl rfl (fun _ _ _ _ => rfl) (by rfl) (by rfl) (fun b G w hb ho hr => exec_cell hr (Nat.le_of_ble_eq_true rfl) Try.underlying3 rfl rfl (ev_on hLo 3 rfl HS31.1 rfl (hb 3 (by rfl))))) ?_
                      refine steps_cons (st_callM 5 0 _ _ (fun G => #[.pointer (some ⟨gs, 0, none⟩), .int .i64 (x.f1), .int .i64 (x.f2)]) rfl rfl rfl rfl rfl (fun _ _ _ _ => rfl) hLo rfl (by rfl) (by rfl) (by rfl) Try.func20 rfl rfl (fun b G hb ho => args3 (ev_on hLo 0 rfl HS31.1 rfl (hb 0 (by rfl))) (ev_on hLo 2 rfl HS31.1 rfl (hb 2 (by rfl))) (ev_on hLo 4 rfl HS31.1 rfl (hb 4 (by rfl)))) (fun G w hw hr => arm_calls hr)) ?_
                      exact steps_nil
                    clear hLo
                    intro G a33 w33 hS hH
                    have HS33 : Sl a33 170 [(20, .bool false), (0, .string (b)), (1, .slice (al0) (len0) (cap0)), (17, .bool false), (5, .pointer (some ⟨gs, 0, none⟩)), (6, .pointer (some ⟨gd, 0, none⟩)), (25, .slice (al0) (len0) (cap0)), (26, .int .i64 ((len0 : Int))), (27, .int .i64 ((i : Int))), (28, .bool true), (8, .pointer (some ⟨g22_2, 0, none⟩)), (9, .int .i64 (0)), (10, .int .i64 (0)), (32, .int .i64 (x.f0)), (33, .bool false), (43, .bool false), (49, .bool false), (65, .bool false), (75, .bool false), (82, .bool true)] := hS
                    have HH33 : Held ⟨wq0, [gs, gd]⟩ w33 [⟨gs, (), 6, spC (armS m x.f1 x.f2), 53⟩, ⟨gd, (), 6, rpC d, 51⟩, ⟨g22_2, (), 4, lsc [.i .i64 x.f0, .i .i64 x.f1, .i .i64 x.f2, .s x.f3], 49⟩] := hH
                    clear hS hH HS31 HH31
                    refine then_ ?_
                    have hLo : LOk [(0, 90, .val (.pointer (some ⟨gd, 0, none⟩))), (1, 91, .val (.pointer (some ⟨g22_2, 1, none⟩))), (2, 92, .val (.int .i64 (x.f1))), (3, 93, .val (.pointer (some ⟨g22_2, 2, none⟩))), (4, 94, .val (.int .i64 (x.f2))), (5, 95, .val (.tuple #[]))] := lok (by rfl) (by rfl)
                    refine plain_ (wE := ⟨wq0, [gs, gd]⟩) (sz := 170) (n := 6) [0, 1, 3, 7, 15, 31] [(20, .val (.bool false)), (0, .val (.string (b))), (1, .val (.slice (al0) (len0) (cap0))), (17, .val (.bool false)), (5, .val (.pointer (some ⟨gs, 0, none⟩))), (6, .val (.pointer (some ⟨gd, 0, none⟩))), (25, .val (.slice (al0) (len0) (cap0))), (26, .val (.int .i64 ((len0 : Int)))), (27, .val (.int .i64 ((i : Int)))), (28, .val (.bool true)), (8, .val (.pointer (some ⟨g22_2, 0, none⟩))), (9, .val (.int .i64 (0))), (10, .val (.int .i64 (0))), (32, .val (.int .i64 (x.f0))), (33, .val (.bool false)), (43, .val (.bool false)), (49, .val (.bool false)), (65, .val (.bool false)), (75, .val (.bool false)), (82, .val (.bool true))] [(0, 90, .val (.pointer (some ⟨gd, 0, none⟩))), (1, 91, .val (.pointer (some ⟨g22_2, 1, none⟩))), (2, 92, .val (.int .i64 (x.f1))), (3, 93, .val (.pointer (some ⟨g22_2, 2, none⟩))), (4, 94, .val (.int .i64 (x.f2))), (5, 95, .val (.tuple #[]))] [⟨gs, none, none, (), 6, spC (armS m x.f1 x.f2), spC (armS m x.f1 x.f2), 53⟩, ⟨gd, none, some 5, (), 6, rpC d, rpC (rarmS d x.f1 x.f2), 51⟩, ⟨g22_2, none, none, (), 4, lsc [.i .i64 x.f0, .i .i64 x.f1, .i .i64 x.f2, .s x.f3], lsc [.i .i64 x.f0, .i .i64 x.f1, .i .i64 x.f2, .s x.f3], 49⟩] rfl (by rfl) HH33 rfl rfl hLo rfl HS33 (slS 0 rfl rfl (slS 1 rfl rfl (slS 2 rfl rfl (slS 3 rfl rfl (slS 4 rfl rfl (slS 5 rfl rfl (slS 6 rfl rfl (slS 7 rfl rfl (slS 8 rfl rfl (slS 9 rfl rfl (slS 10 rfl rfl (slS 11 rfl rfl (slS 12 rfl rfl (slS 13 rfl rfl (slS 14 rfl rfl (slS 15 rfl rfl (slS 16 rfl rfl (slS 17 rfl rfl (slS 18 rfl rfl (slS 19 rfl rfl (trivial))))))))))))))))))))) ?_ ?_
                    · show ∀ i ∈ [0, 1, 2, 3, 4, 5], _
                      refine steps_cons (st_run 0 _ rfl rfl hLo rfl rfl (fun _ _ _ _ => rfl) (fun b G w hb ho => exec_move (.inl rfl) (ev_off rfl (HS33.get 5 rfl)))) ?_
                      refine steps_cons (st_run 1 _ rfl rfl hLo rfl rfl (fun _ _ _ _ => rfl) (fun b G w hb ho => exec_field rfl (ev_off rfl (HS33.get 10 rfl)) (by kernel_rfl))) ?_
                      refine steps_cons (st_read 2 2 _ _ rfl rfl rfl hLo rfl rfl (fun _ _ _ _ => rfl) (by rfl) (by rfl) (fun b G w hb ho hr => exec_cell hr (Nat.le_of_ble_eq_true rfl) Try.underlying3 rfl rfl (ev_on hLo 1 rfl HS33.1 rfl (hb 1 (by rfl))))) ?_
                      refine steps_cons (st_run 3 _ rfl rfl hLo rfl rfl (fun _ _ _ _ => rfl) (fun b G w hb ho => exec_field rfl (ev_off rfl (HS33.get 10 rfl)) (by kernel_rfl))) ?_
                      refine steps_cons (st_read 4 2 _ _ rfl rfl rfl hLo rfl rfl (fun _ _ _ _ => rfl) (by rfl) (by rfl) (fun b G w hb ho hr => exec_cell hr (Nat.le_of_ble_eq_true rfl) Try.underlying3 rfl rfl (ev_on hLo 3 rfl HS33.1 rfl (hb 3 (by rfl))))) ?_
                      refine steps_cons (st_callM 5 1 _ _ (fun G => #[.pointer (some ⟨gd, 0, none⟩), .int .i64 (x.f1), .int .i64 (x.f2)]) rfl rfl rfl rfl rfl (fun _ _ _ _ => rfl) hLo rfl (by rfl) (by rfl) (by rfl) Try.func28 rfl rfl (fun b G hb ho => args3 (ev_on hLo 0 rfl HS33.1 rfl (hb 0 (by rfl))) (ev_on hLo 2 rfl HS33.1 rfl (hb 2 (by rfl))) (ev_on hLo 4 rfl HS33.1 rfl (hb 4 (by rfl)))) (fun G w hw hr => rarm_calls hr)) ?_
                      exact steps_nil
                    clear hLo
                    intro G a34 w34 hS hH
                    have HS34 : Sl a34 170 [(20, .bool false), (0, .string (b)), (1, .slice (al0) (len0) (cap0)), (17, .bool false), (5, .pointer (some ⟨gs, 0, none⟩)), (6, .pointer (some ⟨gd, 0, none⟩)), (25, .slice (al0) (len0) (cap0)), (26, .int .i64 ((len0 : Int))), (27, .int .i64 ((i : Int))), (28, .bool true), (8, .pointer (some ⟨g22_2, 0, none⟩)), (9, .int .i64 (0)), (10, .int .i64 (0)), (32, .int .i64 (x.f0)), (33, .bool false), (43, .bool false), (49, .bool false), (65, .bool false), (75, .bool false), (82, .bool true)] := hS
                    have HH34 : Held ⟨wq0, [gs, gd]⟩ w34 [⟨gs, (), 6, spC (armS m x.f1 x.f2), 53⟩, ⟨gd, (), 6, rpC (rarmS d x.f1 x.f2), 51⟩, ⟨g22_2, (), 4, lsc [.i .i64 x.f0, .i .i64 x.f1, .i .i64 x.f2, .s x.f3], 49⟩] := hH
                    clear hS hH HS33 HH33
                    refine inBlock_normal ?_
                    refine then_ ?_
                    have hS35 : Sl _ 170 [(20, .bool false), (0, .string (b)), (1, .slice (al0) (len0) (cap0)), (17, .bool false), (5, .pointer (some ⟨gs, 0, none⟩)), (6, .pointer (some ⟨gd, 0, none⟩)), (25, .slice (al0) (len0) (cap0)), (26, .int .i64 ((len0 : Int))), (27, .int .i64 ((i : Int))), (28, .bool true), (9, .int .i64 (0)), (10, .int .i64 (0))] := sl_keep HS34 [0, 1, 2, 3, 4, 5, 6, 7, 8, 9, 11, 12] (by rfl)
                    have hH35 : Held ⟨wq0, [gs, gd]⟩ _ [⟨gs, (), 6, spC (armS m x.f1 x.f2), 53⟩, ⟨gd, (), 6, rpC (rarmS d x.f1 x.f2), 51⟩] := held_keep HH34 2 rfl
                    have hBj := bel_over hBq hH35.1 hBq.size (allLe2 (by omega) (by omega))
                    exact ⟨(armS m x.f1 x.f2), (rarmS d x.f1 x.f2), 0, ⟨(arm_sim hsim hoka (lit_range (hI.z_ok x hmx).2.1).2).1, (arm_sim hsim hoka (k := x.f2) (lit_range (hI.z_ok x hmx).2.1).2).2.up⟩, hBj, hS35, hH35.anew⟩
                · skip
                  refine wp_cond_true (HS30.get 18 rfl) ?_
                  refine wp_seq ?_
                  have hLo : LOk [(0, 77, .val (.pointer (some ⟨gs, 0, none⟩))), (1, 78, .val (.tuple #[]))] := lok (by rfl) (by rfl)
                  refine plain_ (wE := ⟨wq0, [gs, gd]⟩) (sz := 170) (n := 2) [0, 1] [(20, .val (.bool false)), (0, .val (.string (b))), (1, .val (.slice (al0) (len0) (cap0))), (17, .val (.bool false)), (5, .val (.pointer (some ⟨gs, 0, none⟩))), (6, .val (.pointer (some ⟨gd, 0, none⟩))), (25, .val (.slice (al0) (len0) (cap0))), (26, .val (.int .i64 ((len0 : Int)))), (27, .val (.int .i64 ((i : Int)))), (28, .val (.bool true)), (8, .val (.pointer (some ⟨g22_2, 0, none⟩))), (9, .val (.int .i64 (0))), (10, .val (.int .i64 (0))), (32, .val (.int .i64 (x.f0))), (33, .val (.bool false)), (43, .val (.bool false)), (49, .val (.bool false)), (65, .val (.bool false)), (75, .val (.bool true))] [(0, 77, .val (.pointer (some ⟨gs, 0, none⟩))), (1, 78, .val (.tuple #[]))] [⟨gs, none, some 1, (), 6, spC m, spC (onS m), 53⟩, ⟨gd, none, none, (), 6, rpC d, rpC d, 51⟩, ⟨g22_2, none, none, (), 4, lsc [.i .i64 x.f0, .i .i64 x.f1, .i .i64 x.f2, .s x.f3], lsc [.i .i64 x.f0, .i .i64 x.f1, .i .i64 x.f2, .s x.f3], 49⟩] rfl (by rfl) HH30 rfl rfl hLo rfl HS30 (slS 0 rfl rfl (slS 1 rfl rfl (slS 2 rfl rfl (slS 3 rfl rfl (slS 4 rfl rfl (slS 5 rfl rfl (slS 6 rfl rfl (slS 7 rfl rfl (slS 8 rfl rfl (slS 9 rfl rfl (slS 10 rfl rfl (slS 11 rfl rfl (slS 12 rfl rfl (slS 13 rfl rfl (slS 14 rfl rfl (slS 15 rfl rfl (slS 16 rfl rfl (slS 17 rfl rfl (slS 18 rfl rfl (trivial)))))))))))))))))))) ?_ ?_
                  · show ∀ i ∈ [0, 1], _
                    refine steps_cons (st_run 0 _ rfl rfl hLo rfl rfl (fun _ _ _ _ => rfl) (fun b G w hb ho => exec_move (.inl rfl) (ev_off rfl (HS30.get 4 rfl)))) ?_
                    refine steps_cons (st_callM 1 0 _ _ (fun G => #[.pointer (some ⟨gs, 0, none⟩)]) rfl rfl rfl rfl rfl (fun _ _ _ _ => rfl) hLo rfl (by rfl) (by rfl) (by rfl) Try.func21 rfl rfl (fun b G hb ho => args1 (ev_on hLo 0 rfl HS30.1 rfl (hb 0 (by rfl)))) (fun G w hw hr => on_calls hr)) ?_
                    exact steps_nil
                  clear hLo
                  intro G a36 w36 hS hH
                  have HS36 : Sl a36 170 [(20, .bool false), (0, .string (b)), (1, .slice (al0) (len0) (cap0)), (17, .bool false), (5, .pointer (some ⟨gs, 0, none⟩)), (6, .pointer (some ⟨gd, 0, none⟩)), (25, .slice (al0) (len0) (cap0)), (26, .int .i64 ((len0 : Int))), (27, .int .i64 ((i : Int))), (28, .bool true), (8, .pointer (some ⟨g22_2, 0, none⟩)), (9, .int .i64 (0)), (10, .int .i64 (0)), (32, .int .i64 (x.f0)), (33, .bool false), (43, .bool false), (49, .bool false), (65, .bool false), (75, .bool true)] := hS
                  have HH36 : Held ⟨wq0, [gs, gd]⟩ w36 [⟨gs, (), 6, spC (onS m), 53⟩, ⟨gd, (), 6, rpC d, 51⟩, ⟨g22_2, (), 4, lsc [.i .i64 x.f0, .i .i64 x.f1, .i .i64 x.f2, .s x.f3], 49⟩] := hH
                  clear hS hH HS30 HH30
                  refine then_ ?_
                  have hLo : LOk [(0, 79, .val (.pointer (some ⟨gd, 0, none⟩))), (1, 80, .val (.pointer (some ⟨gd, 0, none⟩))), (2, 81, .val (.pointer (some ⟨gd, 2, none⟩)))] := lok (by rfl) (by rfl)
                  refine plain_ (wE := ⟨wq0, [gs, gd]⟩) (sz := 170) (n := 4) [0, 1, 3, 7] [(20, .val (.bool false)), (0, .val (.string (b))), (1, .val (.slice (al0) (len0) (cap0))), (17, .val (.bool false)), (5, .val (.pointer (some ⟨gs, 0, none⟩))), (6, .val (.pointer (some ⟨gd, 0, none⟩))), (25, .val (.slice (al0) (len0) (cap0))), (26, .val (.int .i64 ((len0 : Int)))), (27, .val (.int .i64 ((i : Int)))), (28, .val (.bool true)), (8, .val (.pointer (some ⟨g22_2, 0, none⟩))), (9, .val (.int .i64 (0))), (10, .val (.int .i64 (0))), (32, .val (.int .i64 (x.f0))), (33, .val (.bool false)), (43, .val (.bool false)), (49, .val (.bool false)), (65, .val (.bool false)), (75, .val (.bool true))] [(0, 79, .val (.pointer (some ⟨gd, 0, none⟩))), (1, 80, .val (.pointer (some ⟨gd, 0, none⟩))), (2, 81, .val (.pointer (some ⟨gd, 2, none⟩)))] [⟨gs, none, none, (), 6, spC (onS m), spC (onS m), 53⟩, ⟨gd, none, some 3, (), 6, rpC d, upd (rpC d) 2 (.b (true)), 51⟩, ⟨g22_2, none, none, (), 4, lsc [.i .i64 x.f0, .i .i64 x.f1, .i .i64 x.f2, .s x.f3], lsc [.i .i64 x.f0, .i .i64 x.f1, .i .i64 x.f2, .s x.f3], 49⟩] rfl (by rfl) HH36 rfl rfl hLo rfl HS36 (slS 0 rfl rfl (slS 1 rfl rfl (slS 2 rfl rfl (slS 3 rfl rfl (slS 4 rfl rfl (slS 5 rfl rfl (slS 6 rfl rfl (slS 7 rfl rfl (slS 8 rfl rfl (slS 9 rfl rfl (slS 10 rfl rfl (slS 11 rfl rfl (slS 12 rfl rfl (slS 13 rfl rfl (slS 14 rfl rfl (slS 15 rfl rfl (slS 16 rfl rfl (slS 17 rfl rfl (slS 18 rfl rfl (trivial)))))))))))))))))))) ?_ ?_
                  · show ∀ i ∈ [0, 1, 2, 3], _
                    refine steps_cons (st_run 0 _ rfl rfl hLo rfl rfl (fun _ _ _ _ => rfl) (fun b G w hb ho => exec_move (.inl rfl) (ev_off rfl (HS36.get 5 rfl)))) ?_
                    refine steps_cons (st_run 1 _ rfl rfl hLo rfl rfl (fun _ _ _ _ => rfl) (fun b G w hb ho => exec_nil rfl (ev_on hLo 0 rfl HS36.1 rfl (hb 0 (by rfl))))) ?_
                    refine steps_cons (st_run 2 _ rfl rfl hLo rfl rfl (fun _ _ _ _ => rfl) (fun b G w hb ho => exec_field rfl (ev_on hLo 1 rfl HS36.1 rfl (hb 1 (by rfl))) (by kernel_rfl))) ?_
                    refine steps_cons (st_put 1 _ rfl rfl rfl rfl (fun _ _ _ _ => rfl) rfl rfl rfl (by rfl) (fun b G w hb ho hr => exec_put1 hr (Nat.le_of_ble_eq_true rfl) (by kernel_rfl) rfl (ev_on hLo 2 rfl HS36.1 rfl (hb 2 (by rfl))) (rfl))) ?_
                    exact steps_nil
                  clear hLo
                  intro G a37 w37 hS hH
                  have HS37 : Sl a37 170 [(20, .bool false), (0, .string (b)), (1, .slice (al0) (len0) (cap0)), (17, .bool false), (5, .pointer (some ⟨gs, 0, none⟩)), (6, .pointer (some ⟨gd, 0, none⟩)), (25, .slice (al0) (len0) (cap0)), (26, .int .i64 ((len0 : Int))), (27, .int .i64 ((i : Int))), (28, .bool true), (8, .pointer (some ⟨g22_2, 0, none⟩)), (9, .int .i64 (0)), (10, .int .i64 (0)), (32, .int .i64 (x.f0)), (33, .bool false), (43, .bool false), (49, .bool false), (65, .bool false), (75, .bool true)] := hS
                  have HH37 : Held ⟨wq0, [gs, gd]⟩ w37 [⟨gs, (), 6, spC (onS m), 53⟩, ⟨gd, (), 6, upd (rpC d) 2 (.b (true)), 51⟩, ⟨g22_2, (), 4, lsc [.i .i64 x.f0, .i .i64 x.f1, .i .i64 x.f2, .s x.f3], 49⟩] := hH
                  clear hS hH HS36 HH36
                  have HS38 : Sl _ 170 [(20, .bool false), (0, .string (b)), (1, .slice (al0) (len0) (cap0)), (17, .bool false), (5, .pointer (some ⟨gs, 0, none⟩)), (6, .pointer (some ⟨gd, 0, none⟩)), (25, .slice (al0) (len0) (cap0)), (26, .int .i64 ((len0 : Int))), (27, .int .i64 ((i : Int))), (28, .bool true), (9, .int .i64 (0)), (10, .int .i64 (0)), (32, .int .i64 (x.f0)), (33, .bool false), (43, .bool false), (49, .bool false), (65, .bool false), (75, .bool true)] := sl_keep HS37 [0, 1, 2, 3, 4, 5, 6, 7, 8, 9, 11, 12, 13, 14, 15, 16, 17, 18] (by rfl)
                  have HH38 : Held ⟨wq0, [gs, gd]⟩ _ [⟨gs, (), 6, spC (onS m), 53⟩, ⟨gd, (), 6, upd (rpC d) 2 (.b (true)), 51⟩] := held_keep HH37 2 rfl
                  have HH39 : Held ⟨wq0, [gs, gd]⟩ _ [⟨gs, (), 6, spC (onS m), 53⟩, ⟨gd, (), 6, rpC (ronS d), 51⟩] := HH38.norm2 rfl
                  refine inBlock_normal ?_
                  refine then_ ?_
                  have hS40 : Sl _ 170 [(20, .bool false), (0, .string (b)), (1, .slice (al0) (len0) (cap0)), (17, .bool false), (5, .pointer (some ⟨gs, 0, none⟩)), (6, .pointer (some ⟨gd, 0, none⟩)), (25, .slice (al0) (len0) (cap0)), (26, .int .i64 ((len0 : Int))), (27, .int .i64 ((i : Int))), (28, .bool true), (9, .int .i64 (0)), (10, .int .i64 (0))] := sl_keep HS38 [0, 1, 2, 3, 4, 5, 6, 7, 8, 9, 10, 11] (by rfl)
                  have hH40 : Held ⟨wq0, [gs, gd]⟩ _ [⟨gs, (), 6, spC (onS m), 53⟩, ⟨gd, (), 6, rpC (ronS d), 51⟩] := held_keep HH39 2 rfl
                  have hBj := bel_over hBq hH40.1 hBq.size (allLe2 (by omega) (by omega))
                  exact ⟨(onS m), (ronS d), 0, ⟨(on_sim hsim hoka).1, (on_sim hsim hoka).2.up⟩, hBj, hS40, hH40.anew⟩
              · skip
                refine wp_cond_true (HS29.get 17 rfl) ?_
                refine wp_seq ?_
                have hLo : LOk [(0, 67, .val (.pointer (some ⟨gs, 0, none⟩))), (1, 68, .val (.pointer (some ⟨g22_2, 1, none⟩))), (2, 69, .val (.int .i64 (x.f1))), (3, 70, .val (.tuple #[]))] := lok (by rfl) (by rfl)
                refine plain_ (wE := ⟨wq0, [gs, gd]⟩) (sz := 170) (n := 4) [0, 1, 3, 7] [(20, .val (.bool false)), (0, .val (.string (b))), (1, .val (.slice (al0) (len0) (cap0))), (17, .val (.bool false)), (5, .val (.pointer (some ⟨gs, 0, none⟩))), (6, .val (.pointer (some ⟨gd, 0, none⟩))), (25, .val (.slice (al0) (len0) (cap0))), (26, .val (.int .i64 ((len0 : Int)))), (27, .val (.int .i64 ((i : Int)))), (28, .val (.bool true)), (8, .val (.pointer (some ⟨g22_2, 0, none⟩))), (9, .val (.int .i64 (0))), (10, .val (.int .i64 (0))), (32, .val (.int .i64 (x.f0))), (33, .val (.bool false)), (43, .val (.bool false)), (49, .val (.bool false)), (65, .val (.bool true))] [(0, 67, .val (.pointer (some ⟨gs, 0, none⟩))), (1, 68, .val (.pointer (some ⟨g22_2, 1, none⟩))), (2, 69, .val (.int .i64 (x.f1))), (3, 70, .val (.tuple #[]))] [⟨gs, none, some 3, (), 6, spC m, spC (offS m x.f1), 53⟩, ⟨gd, none, none, (), 6, rpC d, rpC d, 51⟩, ⟨g22_2, none, none, (), 4, lsc [.i .i64 x.f0, .i .i64 x.f1, .i .i64 x.f2, .s x.f3], lsc [.i .i64 x.f0, .i .i64 x.f1, .i .i64 x.f2, .s x.f3], 49⟩] rfl (by rfl) HH29 rfl rfl hLo rfl HS29 (slS 0 rfl rfl (slS 1 rfl rfl (slS 2 rfl rfl (slS 3 rfl rfl (slS 4 rfl rfl (slS 5 rfl rfl (slS 6 rfl rfl (slS 7 rfl rfl (slS 8 rfl rfl (slS 9 rfl rfl (slS 10 rfl rfl (slS 11 rfl rfl (slS 12 rfl rfl (slS 13 rfl rfl (slS 14 rfl rfl (slS 15 rfl rfl (slS 16 rfl rfl (slS 17 rfl rfl (trivial))))))))))))))))))) ?_ ?_
                · show ∀ i ∈ [0, 1, 2, 3], _
                  refine steps_cons (st_run 0 _ rfl rfl hLo rfl rfl (fun _ _ _ _ => rfl) (fun b G w hb ho => exec_move (.inl rfl) (ev_off rfl (HS29.get 4 rfl)))) ?_
                  refine steps_cons (st_run 1 _ rfl rfl hLo rfl rfl (fun _ _ _ _ => rfl) (fun b G w hb ho => exec_field rfl (ev_off rfl (HS29.get 10 rfl)) (by kernel_rfl))) ?_
                  refine steps_cons (st_read 2 2 _ _ rfl rfl rfl hLo rfl rfl (fun _ _ _ _ => rfl) (by rfl) (by rfl) (fun b G w hb ho hr => exec_cell hr (Nat.le_of_ble_eq_true rfl) Try.underlying3 rfl rfl (ev_on hLo 1 rfl HS29.1 rfl (hb 1 (by rfl))))) ?_
                  refine steps_cons (st_callM 3 0 _ _ (fun G => #[.pointer (some ⟨gs, 0, none⟩), .int .i64 (x.f1)]) rfl rfl rfl rfl rfl (fun _ _ _ _ => rfl) hLo rfl (by rfl) (by rfl) (by rfl) Try.func18 rfl rfl (fun b G hb ho => args2 (ev_on hLo 0 rfl HS29.1 rfl (hb 0 (by rfl))) (ev_on hLo 2 rfl HS29.1 rfl (hb 2 (by rfl)))) (fun G w hw hr => off_calls (hoka.ok (by omega)) hr)) ?_
                  exact steps_nil
                clear hLo
                intro G a41 w41 hS hH
                have HS41 : Sl a41 170 [(20, .bool false), (0, .string (b)), (1, .slice (al0) (len0) (cap0)), (17, .bool false), (5, .pointer (some ⟨gs, 0, none⟩)), (6, .pointer (some ⟨gd, 0, none⟩)), (25, .slice (al0) (len0) (cap0)), (26, .int .i64 ((len0 : Int))), (27, .int .i64 ((i : Int))), (28, .bool true), (8, .pointer (some ⟨g22_2, 0, none⟩)), (9, .int .i64 (0)), (10, .int .i64 (0)), (32, .int .i64 (x.f0)), (33, .bool false), (43, .bool false), (49, .bool false), (65, .bool true)] := hS
                have HH41 : Held ⟨wq0, [gs, gd]⟩ w41 [⟨gs, (), 6, spC (offS m x.f1), 53⟩, ⟨gd, (), 6, rpC d, 51⟩, ⟨g22_2, (), 4, lsc [.i .i64 x.f0, .i .i64 x.f1, .i .i64 x.f2, .s x.f3], 49⟩] := hH
                clear hS hH HS29 HH29
                refine then_ ?_
                have hLo : LOk [(0, 71, .val (.pointer (some ⟨gd, 0, none⟩))), (1, 72, .val (.pointer (some ⟨g22_2, 1, none⟩))), (2, 73, .val (.int .i64 (x.f1))), (3, 74, .val (.tuple #[]))] := lok (by rfl) (by rfl)
                refine plain_ (wE := ⟨wq0, [gs, gd]⟩) (sz := 170) (n := 4) [0, 1, 3, 7] [(20, .val (.bool false)), (0, .val (.string (b))), (1, .val (.slice (al0) (len0) (cap0))), (17, .val (.bool false)), (5, .val (.pointer (some ⟨gs, 0, none⟩))), (6, .val (.pointer (some ⟨gd, 0, none⟩))), (25, .val (.slice (al0) (len0) (cap0))), (26, .val (.int .i64 ((len0 : Int)))), (27, .val (.int .i64 ((i : Int)))), (28, .val (.bool true)), (8, .val (.pointer (some ⟨g22_2, 0, none⟩))), (9, .val (.int .i64 (0))), (10, .val (.int .i64 (0))), (32, .val (.int .i64 (x.f0))), (33, .val (.bool false)), (43, .val (.bool false)), (49, .val (.bool false)), (65, .val (.bool true))] [(0, 71, .val (.pointer (some ⟨gd, 0, none⟩))), (1, 72, .val (.pointer (some ⟨g22_2, 1, none⟩))), (2, 73, .val (.int .i64 (x.f1))), (3, 74, .val (.tuple #[]))] [⟨gs, none, none, (), 6, spC (offS m x.f1), spC (offS m x.f1), 53⟩, ⟨gd, none, some 3, (), 6, rpC d, rpC (roffS d x.f1), 51⟩, ⟨g22_2, none, none, (), 4, lsc [.i .i64 x.f0, .i .i64 x.f1, .i .i64 x.f2, .s x.f3], lsc [.i .i64 x.f0, .i .i64 x.f1, .i .i64 x.f2, .s x.f3], 49⟩] rfl (by rfl) HH41 rfl rfl hLo rfl HS41 (slS 0 rfl rfl (slS 1 rfl rfl (slS 2 rfl rfl (slS 3 rfl rfl (slS 4 rfl rfl (slS 5 rfl rfl (slS 6 rfl rfl (slS 7 rfl rfl (slS 8 rfl rfl (slS 9 rfl rfl (slS 10 rfl rfl (slS 11 rfl rfl (slS 12 rfl rfl (slS 13 rfl rfl (slS 14 rfl rfl (slS 15 rfl rfl (slS 16 rfl rfl (slS 17 rfl rfl (trivial))))))))))))))))))) ?_ ?_
                · show ∀ i ∈ [0, 1, 2, 3], _
                  refine steps_cons (st_run 0 _ rfl rfl hLo rfl rfl (fun _ _ _ _ => rfl) (fun b G w hb ho => exec_move (.inl rfl) (ev_off rfl (HS41.get 5 rfl)))) ?_
                  refine steps_cons (st_run 1 _ rfl rfl hLo rfl rfl (fun _ _ _ _ => rfl) (fun b G w hb ho => exec_field rfl (ev_off rfl (HS41.get 10 rfl)) (by kernel_rfl))) ?_
                  refine steps_cons (st_read 2 2 _ _ rfl rfl rfl hLo rfl rfl (fun _ _ _ _ => rfl) (by rfl) (by rfl) (fun b G w hb ho hr => exec_cell hr (Nat.le_of_ble_eq_true rfl) Try.underlying3 rfl rfl (ev_on hLo 1 rfl HS41.1 rfl (hb 1 (by rfl))))) ?_
                  refine steps_cons (st_callM 3 1 _ _ (fun G => #[.pointer (some ⟨gd, 0, none⟩), .int .i64 (x.f1)]) rfl rfl rfl rfl rfl (fun _ _ _ _ => rfl) hLo rfl (by rfl) (by rfl) (by rfl) Try.func27 rfl rfl (fun b G hb ho => args2 (ev_on hLo 0 rfl HS41.1 rfl (hb 0 (by rfl))) (ev_on hLo 2 rfl HS41.1 rfl (hb 2 (by rfl)))) (fun G w hw hr => roff_calls hsim hoka hr)) ?_
                  exact steps_nil
                clear hLo
                intro G a42 w42 hS hH
                have HS42 : Sl a42 170 [(20, .bool false), (0, .string (b)), (1, .slice (al0) (len0) (cap0)), (17, .bool false), (5, .pointer (some ⟨gs, 0, none⟩)), (6, .pointer (some ⟨gd, 0, none⟩)), (25, .slice (al0) (len0) (cap0)), (26, .int .i64 ((len0 : Int))), (27, .int .i64 ((i : Int))), (28, .bool true), (8, .pointer (some ⟨g22_2, 0, none⟩)), (9, .int .i64 (0)), (10, .int .i64 (0)), (32, .int .i64 (x.f0)), (33, .bool false), (43, .bool false), (49, .bool false), (65, .bool true)] := hS
                have HH42 : Held ⟨wq0, [gs, gd]⟩ w42 [⟨gs, (), 6, spC (offS m x.f1), 53⟩, ⟨gd, (), 6, rpC (roffS d x.f1), 51⟩, ⟨g22_2, (), 4, lsc [.i .i64 x.f0, .i .i64 x.f1, .i .i64 x.f2, .s x.f3], 49⟩] := hH
                clear hS hH HS41 HH41
                refine inBlock_normal ?_
                refine then_ ?_
                have hS43 : Sl _ 170 [(20, .bool false), (0, .string (b)), (1, .slice (al0) (len0) (cap0)), (17, .bool false), (5, .pointer (some ⟨gs, 0, none⟩)), (6, .pointer (some ⟨gd, 0, none⟩)), (25, .slice (al0) (len0) (cap0)), (26, .int .i64 ((len0 : Int))), (27, .int .i64 ((i : Int))), (28, .bool true), (9, .int .i64 (0)), (10, .int .i64 (0))] := sl_keep HS42 [0, 1, 2, 3, 4, 5, 6, 7, 8, 9, 11, 12] (by rfl)
                have hH43 : Held ⟨wq0, [gs, gd]⟩ _ [⟨gs, (), 6, spC (offS m x.f1), 53⟩, ⟨gd, (), 6, rpC (roffS d x.f1), 51⟩] := held_keep HH42 2 rfl
                have hBj := bel_over hBq hH43.1 hBq.size (allLe2 (by omega) (by omega))
                exact ⟨(offS m x.f1), (roffS d x.f1), 0, ⟨(off_sim hsim hoka x.f1).1, (off_sim hsim hoka x.f1).2.up⟩, hBj, hS43, hH43.anew⟩
            · skip
              refine wp_cond_true (HS28.get 16 rfl) ?_
              refine wp_seq ?_
              have hLo : LOk [(0, 11, .val (.slice (none) (0) (0))), (1, 12, .val (.slice (none) (0) (0)))] := lok (by rfl) (by rfl)
              refine plain_ (wE := ⟨wq0, [gs, gd]⟩) (sz := 170) (n := 2) [0, 1] [(20, .val (.bool false)), (0, .val (.string (b))), (1, .val (.slice (al0) (len0) (cap0))), (17, .val (.bool false)), (5, .val (.pointer (some ⟨gs, 0, none⟩))), (6, .val (.pointer (some ⟨gd, 0, none⟩))), (25, .val (.slice (al0) (len0) (cap0))), (26, .val (.int .i64 ((len0 : Int)))), (27, .val (.int .i64 ((i : Int)))), (28, .val (.bool true)), (8, .val (.pointer (some ⟨g22_2, 0, none⟩))), (9, .val (.int .i64 (0))), (10, .val (.int .i64 (0))), (32, .val (.int .i64 (x.f0))), (33, .val (.bool false)), (43, .val (.bool false)), (49, .val (.bool true)), (11, .val (.slice (none) (0) (0))), (12, .val (.slice (none) (0) (0)))] [(0, 11, .val (.slice (none) (0) (0))), (1, 12, .val (.slice (none) (0) (0)))] [⟨gs, none, none, (), 6, spC m, spC m, 53⟩, ⟨gd, none, none, (), 6, rpC d, rpC d, 51⟩, ⟨g22_2, none, none, (), 4, lsc [.i .i64 x.f0, .i .i64 x.f1, .i .i64 x.f2, .s x.f3], lsc [.i .i64 x.f0, .i .i64 x.f1, .i .i64 x.f2, .s x.f3], 49⟩] rfl (by rfl) HH28 rfl rfl hLo rfl HS28 (slS 0 rfl rfl (slS 1 rfl rfl (slS 2 rfl rfl (slS 3 rfl rfl (slS 4 rfl rfl (slS 5 rfl rfl (slS 6 rfl rfl (slS 7 rfl rfl (slS 8 rfl rfl (slS 9 rfl rfl (slS 10 rfl rfl (slS 11 rfl rfl (slS 12 rfl rfl (slS 13 rfl rfl (slS 14 rfl rfl (slS 15 rfl rfl (slS 16 rfl rfl (slL 0 (d := 0) rfl (slL 1 (d := 1) rfl (trivial)))))))))))))))))))) ?_ ?_
              · show ∀ i ∈ [0, 1], _
                refine steps_cons (st_run 0 _ rfl rfl hLo rfl rfl (fun _ _ _ _ => rfl) (fun b G w hb ho => exec_move (.inr rfl) (rfl))) ?_
                refine steps_cons (st_run 1 _ rfl rfl hLo rfl rfl (fun _ _ _ _ => rfl) (fun b G w hb ho => exec_move (.inr rfl) (rfl))) ?_
                exact steps_nil
              clear hLo
              intro G a44 w44 hS hH
              have HS44 : Sl a44 170 [(20, .bool false), (0, .string (b)), (1, .slice (al0) (len0) (cap0)), (17, .bool false), (5, .pointer (some ⟨gs, 0, none⟩)), (6, .pointer (some ⟨gd, 0, none⟩)), (25, .slice (al0) (len0) (cap0)), (26, .int .i64 ((len0 : Int))), (27, .int .i64 ((i : Int))), (28, .bool true), (8, .pointer (some ⟨g22_2, 0, none⟩)), (9, .int .i64 (0)), (10, .int .i64 (0)), (32, .int .i64 (x.f0)), (33, .bool false), (43, .bool false), (49, .bool true), (11, .slice (none) (0) (0)), (12, .slice (none) (0) (0))] := hS
              have HH44 : Held ⟨wq0, [gs, gd]⟩ w44 [⟨gs, (), 6, spC m, 53⟩, ⟨gd, (), 6, rpC d, 51⟩, ⟨g22_2, (), 4, lsc [.i .i64 x.f0, .i .i64 x.f1, .i .i64 x.f2, .s x.f3], 49⟩] := hH
              clear hS hH HS28 HH28
              have HS45 : Sl _ 170 [(20, .bool false), (0, .string (b)), (1, .slice (al0) (len0) (cap0)), (17, .bool false), (5, .pointer (some ⟨gs, 0, none⟩)), (6, .pointer (some ⟨gd, 0, none⟩)), (25, .slice (al0) (len0) (cap0)), (26, .int .i64 ((len0 : Int))), (27, .int .i64 ((i : Int))), (28, .bool true), (9, .int .i64 (0)), (10, .int .i64 (0)), (32, .int .i64 (x.f0)), (33, .bool false), (43, .bool false), (49, .bool true), (11, .slice (none) (0) (0)), (12, .slice (none) (0) (0))] := sl_keep HS44 [0, 1, 2, 3, 4, 5, 6, 7, 8, 9, 11, 12, 13, 14, 15, 16, 17, 18] (by rfl)
              have HH45 : Held ⟨wq0, [gs, gd]⟩ _ [⟨gs, (), 6, spC m, 53⟩, ⟨gd, (), 6, rpC d, 51⟩] := held_keep HH44 2 rfl
              obtain ⟨ls, tl, hC⟩ := cuts_of m.al
              cases hof : m.off with
              | true =>
                have hpw : d.power = false := by have := hsim.s_off; rw [hof] at this; cases hp : d.power <;> rw [hp] at this <;> first | rfl | cases this
                skip
                refine then_ ?_
                refine wp_seq ?_
                have hLo : LOk [(0, 52, .val (.pointer (some ⟨gs, 0, none⟩))), (1, 53, .val (.tuple #[.slice (none) (0) (0), .int .i64 (50)])), (2, 51, .val (.tuple #[.slice (none) (0) (0), .int .i64 (50)])), (3, 54, .val (.slice (none) (0) (0))), (4, 55, .val (.int .i64 (50))), (5, 11, .val (.slice (none) (0) (0))), (6, 9, .val (.int .i64 (50)))] := lok (by rfl) (by rfl)
                refine plain_ (wE := ⟨wq0, [gs, gd]⟩) (sz := 170) (n := 7) [0, 1, 3, 7, 15, 31, 63] [(20, .val (.bool false)), (0, .val (.string (b))), (1, .val (.slice (al0) (len0) (cap0))), (17, .val (.bool false)), (5, .val (.pointer (some ⟨gs, 0, none⟩))), (6, .val (.pointer (some ⟨gd, 0, none⟩))), (25, .val (.slice (al0) (len0) (cap0))), (26, .val (.int .i64 ((len0 : Int)))), (27, .val (.int .i64 ((i : Int)))), (28, .val (.bool true)), (10, .val (.int .i64 (0))), (32, .val (.int .i64 (x.f0))), (33, .val (.bool false)), (43, .val (.bool false)), (49, .val (.bool true)), (12, .val (.slice (none) (0) (0))), (11, .val (.slice (none) (0) (0))), (9, .val (.int .i64 (50)))] [(0, 52, .val (.pointer (some ⟨gs, 0, none⟩))), (1, 53, .val (.tuple #[.slice (none) (0) (0), .int .i64 (50)])), (2, 51, .val (.tuple #[.slice (none) (0) (0), .int .i64 (50)])), (3, 54, .val (.slice (none) (0) (0))), (4, 55, .val (.int .i64 (50))), (5, 11, .val (.slice (none) (0) (0))), (6, 9, .val (.int .i64 (50)))] [⟨gs, none, some 1, (), 6, spC m, spC m, 53⟩, ⟨gd, none, none, (), 6, rpC d, rpC d, 51⟩] rfl (by rfl) HH45 rfl rfl hLo rfl HS45 (slS 0 rfl rfl (slS 1 rfl rfl (slS 2 rfl rfl (slS 3 rfl rfl (slS 4 rfl rfl (slS 5 rfl rfl (slS 6 rfl rfl (slS 7 rfl rfl (slS 8 rfl rfl (slS 9 rfl rfl (slS 11 rfl rfl (slS 12 rfl rfl (slS 13 rfl rfl (slS 14 rfl rfl (slS 15 rfl rfl (slS 17 rfl rfl (slL 5 (d := 5) rfl (slL 6 (d := 6) rfl (trivial))))))))))))))))))) ?_ ?_
                · show ∀ i ∈ [0, 1, 2, 3, 4, 5, 6], _
                  refine steps_cons (st_run 0 _ rfl rfl hLo rfl rfl (fun _ _ _ _ => rfl) (fun b G w hb ho => exec_move (.inl rfl) (ev_off rfl (HS45.get 4 rfl)))) ?_
                  refine steps_cons (st_callM 1 0 _ _ (fun G => #[.pointer (some ⟨gs, 0, none⟩)]) rfl rfl rfl rfl rfl (fun _ _ _ _ => rfl) hLo rfl (by rfl) (by rfl) (by rfl) Try.func10 rfl rfl (fun b G hb ho => args1 (ev_on hLo 0 rfl HS45.1 rfl (hb 0 (by rfl)))) (fun G w hw hr => openM_off hof hr)) ?_
                  refine steps_cons (st_run 2 _ rfl rfl hLo rfl rfl (fun _ _ _ _ => rfl) (fun b G w hb ho => exec_move (.inl rfl) (ev_on hLo 1 rfl HS45.1 rfl (hb 1 (by rfl))))) ?_
                  refine steps_cons (st_run 3 _ rfl rfl hLo rfl rfl (fun _ _ _ _ => rfl) (fun b G w hb ho => exec_extract rfl (ev_on hLo 2 rfl HS45.1 rfl (hb 2 (by rfl))) (by rfl))) ?_
                  refine steps_cons (st_run 4 _ rfl rfl hLo rfl rfl (fun _ _ _ _ => rfl) (fun b G w hb ho => exec_extract rfl (ev_on hLo 2 rfl HS45.1 rfl (hb 2 (by rfl))) (by rfl))) ?_
                  refine steps_cons (st_run 5 _ rfl rfl hLo rfl rfl (fun _ _ _ _ => rfl) (fun b G w hb ho => exec_move (.inr rfl) (ev_on hLo 3 rfl HS45.1 rfl (hb 3 (by rfl))))) ?_
                  refine steps_cons (st_run 6 _ rfl rfl hLo rfl rfl (fun _ _ _ _ => rfl) (fun b G w hb ho => exec_move (.inr rfl) (ev_on hLo 4 rfl HS45.1 rfl (hb 4 (by rfl))))) ?_
                  exact steps_nil
                clear hLo
                intro G a46 w46 hS hH
                have HS46 : Sl a46 170 [(20, .bool false), (0, .string (b)), (1, .slice (al0) (len0) (cap0)), (17, .bool false), (5, .pointer (some ⟨gs, 0, none⟩)), (6, .pointer (some ⟨gd, 0, none⟩)), (25, .slice (al0) (len0) (cap0)), (26, .int .i64 ((len0 : Int))), (27, .int .i64 ((i : Int))), (28, .bool true), (10, .int .i64 (0)), (32, .int .i64 (x.f0)), (33, .bool false), (43, .bool false), (49, .bool true), (12, .slice (none) (0) (0)), (11, .slice (none) (0) (0)), (9, .int .i64 (50))] := hS
                have HH46 : Held ⟨wq0, [gs, gd]⟩ w46 [⟨gs, (), 6, spC m, 53⟩, ⟨gd, (), 6, rpC d, 51⟩] := hH
                clear hS hH HS45 HH45
                refine then_ ?_
                refine wp_seq ?_
                have hLo : LOk [(0, 57, .val (.pointer (some ⟨gd, 0, none⟩))), (1, 58, .val (.tuple #[.slice (none) (0) (0), .int .i64 (50)])), (2, 56, .val (.tuple #[.slice (none) (0) (0), .int .i64 (50)])), (3, 59, .val (.slice (none) (0) (0))), (4, 60, .val (.int .i64 (50))), (5, 12, .val (.slice (none) (0) (0))), (6, 10, .val (.int .i64 (50)))] := lok (by rfl) (by rfl)
                refine plain_ (wE := ⟨wq0, [gs, gd]⟩) (sz := 170) (n := 7) [0, 1, 3, 7, 15, 31, 63] [(20, .val (.bool false)), (0, .val (.string (b))), (1, .val (.slice (al0) (len0) (cap0))), (17, .val (.bool false)), (5, .val (.pointer (some ⟨gs, 0, none⟩))), (6, .val (.pointer (some ⟨gd, 0, none⟩))), (25, .val (.slice (al0) (len0) (cap0))), (26, .val (.int .i64 ((len0 : Int)))), (27, .val (.int .i64 ((i : Int)))), (28, .val (.bool true)), (32, .val (.int .i64 (x.f0))), (33, .val (.bool false)), (43, .val (.bool false)), (49, .val (.bool true)), (11, .val (.slice (none) (0) (0))), (9, .val (.int .i64 (50))), (12, .val (.slice (none) (0) (0))), (10, .val (.int .i64 (50)))] [(0, 57, .val (.pointer (some ⟨gd, 0, none⟩))), (1, 58, .val (.tuple #[.slice (none) (0) (0), .int .i64 (50)])), (2, 56, .val (.tuple #[.slice (none) (0) (0), .int .i64 (50)])), (3, 59, .val (.slice (none) (0) (0))), (4, 60, .val (.int .i64 (50))), (5, 12, .val (.slice (none) (0) (0))), (6, 10, .val (.int .i64 (50)))] [⟨gs, none, none, (), 6, spC m, spC m, 53⟩, ⟨gd, none, some 1, (), 6, rpC d, rpC d, 51⟩] rfl (by rfl) HH46 rfl rfl hLo rfl HS46 (slS 0 rfl rfl (slS 1 rfl rfl (slS 2 rfl rfl (slS 3 rfl rfl (slS 4 rfl rfl (slS 5 rfl rfl (slS 6 rfl rfl (slS 7 rfl rfl (slS 8 rfl rfl (slS 9 rfl rfl (slS 11 rfl rfl (slS 12 rfl rfl (slS 13 rfl rfl (slS 14 rfl rfl (slS 16 rfl rfl (slS 17 rfl rfl (slL 5 (d := 5) rfl (slL 6 (d := 6) rfl (trivial))))))))))))))))))) ?_ ?_
                · show ∀ i ∈ [0, 1, 2, 3, 4, 5, 6], _
                  refine steps_cons (st_run 0 _ rfl rfl hLo rfl rfl (fun _ _ _ _ => rfl) (fun b G w hb ho => exec_move (.inl rfl) (ev_off rfl (HS46.get 5 rfl)))) ?_
                  refine steps_cons (st_callM 1 1 _ _ (fun G => #[.pointer (some ⟨gd, 0, none⟩)]) rfl rfl rfl rfl rfl (fun _ _ _ _ => rfl) hLo rfl (by rfl) (by rfl) (by rfl) Try.func26 rfl rfl (fun b G hb ho => args1 (ev_on hLo 0 rfl HS46.1 rfl (hb 0 (by rfl)))) (fun G w hw hr => ropenM_off hpw hr)) ?_
                  refine steps_cons (st_run 2 _ rfl rfl hLo rfl rfl (fun _ _ _ _ => rfl) (fun b G w hb ho => exec_move (.inl rfl) (ev_on hLo 1 rfl HS46.1 rfl (hb 1 (by rfl))))) ?_
                  refine steps_cons (st_run 3 _ rfl rfl hLo rfl rfl (fun _ _ _ _ => rfl) (fun b G w hb ho => exec_extract rfl (ev_on hLo 2 rfl HS46.1 rfl (hb 2 (by rfl))) (by rfl))) ?_
                  refine steps_cons (st_run 4 _ rfl rfl hLo rfl rfl (fun _ _ _ _ => rfl) (fun b G w hb ho => exec_extract rfl (ev_on hLo 2 rfl HS46.1 rfl (hb 2 (by rfl))) (by rfl))) ?_
                  refine steps_cons (st_run 5 _ rfl rfl hLo rfl rfl (fun _ _ _ _ => rfl) (fun b G w hb ho => exec_move (.inr rfl) (ev_on hLo 3 rfl HS46.1 rfl (hb 3 (by rfl))))) ?_
                  refine steps_cons (st_run 6 _ rfl rfl hLo rfl rfl (fun _ _ _ _ => rfl) (fun b G w hb ho => exec_move (.inr rfl) (ev_on hLo 4 rfl HS46.1 rfl (hb 4 (by rfl))))) ?_
                  exact steps_nil
                clear hLo
                intro G a47 w47 hS hH
                have HS47 : Sl a47 170 [(20, .bool false), (0, .string (b)), (1, .slice (al0) (len0) (cap0)), (17, .bool false), (5, .pointer (some ⟨gs, 0, none⟩)), (6, .pointer (some ⟨gd, 0, none⟩)), (25, .slice (al0) (len0) (cap0)), (26, .int .i64 ((len0 : Int))), (27, .int .i64 ((i : Int))), (28, .bool true), (32, .int .i64 (x.f0)), (33, .bool false), (43, .bool false), (49, .bool true), (11, .slice (none) (0) (0)), (9, .int .i64 (50)), (12, .slice (none) (0) (0)), (10, .int .i64 (50))] := hS
                have HH47 : Held ⟨wq0, [gs, gd]⟩ w47 [⟨gs, (), 6, spC m, 53⟩, ⟨gd, (), 6, rpC d, 51⟩] := hH
                clear hS hH HS46 HH46
                refine then_ ?_
                refine wp_seq ?_
                have hLo : LOk [(0, 61, .val (.slice (none) (0) (0))), (1, 62, .val (.slice (none) (0) (0))), (2, 63, .val (.bool true)), (3, 64, .val (.bool false))] := lok (by rfl) (by rfl)
                refine plain_ (wE := ⟨wq0, [gs, gd]⟩) (sz := 170) (n := 4) [0, 1, 3, 7] [(20, .val (.bool false)), (0, .val (.string (b))), (1, .val (.slice (al0) (len0) (cap0))), (17, .val (.bool false)), (5, .val (.pointer (some ⟨gs, 0, none⟩))), (6, .val (.pointer (some ⟨gd, 0, none⟩))), (25, .val (.slice (al0) (len0) (cap0))), (26, .val (.int .i64 ((len0 : Int)))), (27, .val (.int .i64 ((i : Int)))), (28, .val (.bool true)), (32, .val (.int .i64 (x.f0))), (33, .val (.bool false)), (43, .val (.bool false)), (49, .val (.bool true)), (11, .val (.slice (none) (0) (0))), (9, .val (.int .i64 (50))), (12, .val (.slice (none) (0) (0))), (10, .val (.int .i64 (50))), (64, .val (.bool false))] [(0, 61, .val (.slice (none) (0) (0))), (1, 62, .val (.slice (none) (0) (0))), (2, 63, .val (.bool true)), (3, 64, .val (.bool false))] [⟨gs, none, none, (), 6, spC m, spC m, 53⟩, ⟨gd, none, none, (), 6, rpC d, rpC d, 51⟩] rfl (by rfl) HH47 rfl rfl hLo rfl HS47 (slS 0 rfl rfl (slS 1 rfl rfl (slS 2 rfl rfl (slS 3 rfl rfl (slS 4 rfl rfl (slS 5 rfl rfl (slS 6 rfl rfl (slS 7 rfl rfl (slS 8 rfl rfl (slS 9 rfl rfl (slS 10 rfl rfl (slS 11 rfl rfl (slS 12 rfl rfl (slS 13 rfl rfl (slS 14 rfl rfl (slS 15 rfl rfl (slS 16 rfl rfl (slS 17 rfl rfl (slL 3 (d := 3) rfl (trivial)))))))))))))))))))) ?_ ?_
                · show ∀ i ∈ [0, 1, 2, 3], _
                  refine steps_cons (st_run 0 _ rfl rfl hLo rfl rfl (fun _ _ _ _ => rfl) (fun b G w hb ho => exec_move (.inl rfl) (ev_off rfl (HS47.get 14 rfl)))) ?_
                  refine steps_cons (st_run 1 _ rfl rfl hLo rfl rfl (fun _ _ _ _ => rfl) (fun b G w hb ho => exec_move (.inl rfl) (ev_off rfl (HS47.get 16 rfl)))) ?_
                  refine steps_cons (st_call 2 _ #[.slice (none) (0) (0), .slice (none) (0) (0)] rfl rfl rfl (fun _ _ _ _ => rfl) hLo rfl rfl Try.func12 rfl rfl (fun b G hb ho => args2 (ev_on hLo 0 rfl HS47.1 rfl (hb 0 (by rfl))) (ev_on hLo 1 rfl HS47.1 rfl (hb 1 (by rfl)))) (fun w hw => same_callsC (tx_nil _ 0).C.1 (Nat.le_refl _) (tx_nil _ 0).C.1 (Nat.le_refl _) (by decide))) ?_
                  refine steps_cons (st_run 3 _ rfl rfl hLo rfl rfl (fun _ _ _ _ => rfl) (fun b G w hb ho => exec_un rfl (ev_on hLo 2 rfl HS47.1 rfl (hb 2 (by rfl))) (ru_not _))) ?_
                  exact steps_nil
                clear hLo
                intro G a48 w48 hS hH
                have HS48 : Sl a48 170 [(20, .bool false), (0, .string (b)), (1, .slice (al0) (len0) (cap0)), (17, .bool false), (5, .pointer (some ⟨gs, 0, none⟩)), (6, .pointer (some ⟨gd, 0, none⟩)), (25, .slice (al0) (len0) (cap0)), (26, .int .i64 ((len0 : Int))), (27, .int .i64 ((i : Int))), (28, .bool true), (32, .int .i64 (x.f0)), (33, .bool false), (43, .bool false), (49, .bool true), (11, .slice (none) (0) (0)), (9, .int .i64 (50)), (12, .slice (none) (0) (0)), (10, .int .i64 (50)), (64, .bool false)] := hS
                have HH48 : Held ⟨wq0, [gs, gd]⟩ w48 [⟨gs, (), 6, spC m, 53⟩, ⟨gd, (), 6, rpC d, 51⟩] := hH
                clear hS hH HS47 HH47
                refine then_ ?_
                refine wp_cond_false (HS48.get 18 rfl) ?_
                refine wp_skip ?_
                refine inBlock_normal ?_
                refine then_ ?_
                have hS49 : Sl _ 170 [(20, .bool false), (0, .string (b)), (1, .slice (al0) (len0) (cap0)), (17, .bool false), (5, .pointer (some ⟨gs, 0, none⟩)), (6, .pointer (some ⟨gd, 0, none⟩)), (25, .slice (al0) (len0) (cap0)), (26, .int .i64 ((len0 : Int))), (27, .int .i64 ((i : Int))), (28, .bool true), (9, .int .i64 (50)), (10, .int .i64 (50))] := sl_keep HS48 [0, 1, 2, 3, 4, 5, 6, 7, 8, 9, 15, 17] (by rfl)
                have hH49 : Held ⟨wq0, [gs, gd]⟩ _ [⟨gs, (), 6, spC m, 53⟩, ⟨gd, (), 6, rpC d, 51⟩] := held_keep HH48 2 rfl
                have hBj := bel_over hBq hH49.1 hBq.size (allLe2 (by omega) (by omega))
                exact ⟨m, d, 50, ⟨hsim, hoka.up⟩, hBj, hS49, hH49.anew⟩
              | false =>
                have hpw : d.power = true := by have := hsim.s_off; rw [hof] at this; cases hp : d.power <;> rw [hp] at this <;> first | rfl | cases this
                cases hrec : recs ls with
                | none =>
                  refine then_ ?_
                  refine wp_seq ?_
                  have hLo : LOk [(0, 52, .val (.pointer (some ⟨gs, 0, none⟩))), (1, 53, .val (.tuple #[.slice (none) (0) (0), .int .i64 (4)])), (2, 51, .val (.tuple #[.slice (none) (0) (0), .int .i64 (4)])), (3, 54, .val (.slice (none) (0) (0))), (4, 55, .val (.int .i64 (4))), (5, 11, .val (.slice (none) (0) (0))), (6, 9, .val (.int .i64 (4)))] := lok (by rfl) (by rfl)
                  refine plain_ (wE := ⟨wq0, [gs, gd]⟩) (sz := 170) (n := 7) [0, 1, 3, 7, 15, 31, 63] [(20, .val (.bool false)), (0, .val (.string (b))), (1, .val (.slice (al0) (len0) (cap0))), (17, .val (.bool false)), (5, .val (.pointer (some ⟨gs, 0, none⟩))), (6, .val (.pointer (some ⟨gd, 0, none⟩))), (25, .val (.slice (al0) (len0) (cap0))), (26, .val (.int .i64 ((len0 : Int)))), (27, .val (.int .i64 ((i : Int)))), (28, .val (.bool true)), (10, .val (.int .i64 (0))), (32, .val (.int .i64 (x.f0))), (33, .val (.bool false)), (43, .val (.bool false)), (49, .val (.bool true)), (12, .val (.slice (none) (0) (0))), (11, .val (.slice (none) (0) (0))), (9, .val (.int .i64 (4)))] [(0, 52, .val (.pointer (some ⟨gs, 0, none⟩))), (1, 53, .val (.tuple #[.slice (none) (0) (0), .int .i64 (4)])), (2, 51, .val (.tuple #[.slice (none) (0) (0), .int .i64 (4)])), (3, 54, .val (.slice (none) (0) (0))), (4, 55, .val (.int .i64 (4))), (5, 11, .val (.slice (none) (0) (0))), (6, 9, .val (.int .i64 (4)))] [⟨gs, none, some 1, (), 6, spC m, spC m, 53⟩, ⟨gd, none, none, (), 6, rpC d, rpC d, 51⟩] rfl (by rfl) HH45 rfl rfl hLo rfl HS45 (slS 0 rfl rfl (slS 1 rfl rfl (slS 2 rfl rfl (slS 3 rfl rfl (slS 4 rfl rfl (slS 5 rfl rfl (slS 6 rfl rfl (slS 7 rfl rfl (slS 8 rfl rfl (slS 9 rfl rfl (slS 11 rfl rfl (slS 12 rfl rfl (slS 13 rfl rfl (slS 14 rfl rfl (slS 15 rfl rfl (slS 17 rfl rfl (slL 5 (d := 5) rfl (slL 6 (d := 6) rfl (trivial))))))))))))))))))) ?_ ?_
                  · show ∀ i ∈ [0, 1, 2, 3, 4, 5, 6], _
                    refine steps_cons (st_run 0 _ rfl rfl hLo rfl rfl (fun _ _ _ _ => rfl) (fun b G w hb ho => exec_move (.inl rfl) (ev_off rfl (HS45.get 4 rfl)))) ?_
                    refine steps_cons (st_callM 1 0 _ _ (fun G => #[.pointer (some ⟨gs, 0, none⟩)]) rfl rfl rfl rfl rfl (fun _ _ _ _ => rfl) hLo rfl (by rfl) (by rfl) (by rfl) Try.func10 rfl rfl (fun b G hb ho => args1 (ev_on hLo 0 rfl HS45.1 rfl (hb 0 (by rfl)))) (fun G w hw hr => openM_none hof hoka hC hrec hr)) ?_
                    refine steps_cons (st_run 2 _ rfl rfl hLo rfl rfl (fun _ _ _ _ => rfl) (fun b G w hb ho => exec_move (.inl rfl) (ev_on hLo 1 rfl HS45.1 rfl (hb 1 (by rfl))))) ?_
                    refine steps_cons (st_run 3 _ rfl rfl hLo rfl rfl (fun _ _ _ _ => rfl) (fun b G w hb ho => exec_extract rfl (ev_on hLo 2 rfl HS45.1 rfl (hb 2 (by rfl))) (by rfl))) ?_
                    refine steps_cons (st_run 4 _ rfl rfl hLo rfl rfl (fun _ _ _ _ => rfl) (fun b G w hb ho => exec_extract rfl (ev_on hLo 2 rfl HS45.1 rfl (hb 2 (by rfl))) (by rfl))) ?_
                    refine steps_cons (st_run 5 _ rfl rfl hLo rfl rfl (fun _ _ _ _ => rfl) (fun b G w hb ho => exec_move (.inr rfl) (ev_on hLo 3 rfl HS45.1 rfl (hb 3 (by rfl))))) ?_
                    refine steps_cons (st_run 6 _ rfl rfl hLo rfl rfl (fun _ _ _ _ => rfl) (fun b G w hb ho => exec_move (.inr rfl) (ev_on hLo 4 rfl HS45.1 rfl (hb 4 (by rfl))))) ?_
                    exact steps_nil
                  clear hLo
                  intro G a50 w50 hS hH
                  have HS50 : Sl a50 170 [(20, .bool false), (0, .string (b)), (1, .slice (al0) (len0) (cap0)), (17, .bool false), (5, .pointer (some ⟨gs, 0, none⟩)), (6, .pointer (some ⟨gd, 0, none⟩)), (25, .slice (al0) (len0) (cap0)), (26, .int .i64 ((len0 : Int))), (27, .int .i64 ((i : Int))), (28, .bool true), (10, .int .i64 (0)), (32, .int .i64 (x.f0)), (33, .bool false), (43, .bool false), (49, .bool true), (12, .slice (none) (0) (0)), (11, .slice (none) (0) (0)), (9, .int .i64 (4))] := hS
                  have HH50 : Held ⟨wq0, [gs, gd]⟩ w50 [⟨gs, (), 6, spC m, 53⟩, ⟨gd, (), 6, rpC d, 51⟩] := hH
                  clear hS hH HS45 HH45
                  refine then_ ?_
                  refine wp_seq ?_
                  have hLo : LOk [(0, 57, .val (.pointer (some ⟨gd, 0, none⟩))), (1, 58, .val (.tuple #[.slice (none) (0) (0), .int .i64 (4)])), (2, 56, .val (.tuple #[.slice (none) (0) (0), .int .i64 (4)])), (3, 59, .val (.slice (none) (0) (0))), (4, 60, .val (.int .i64 (4))), (5, 12, .val (.slice (none) (0) (0))), (6, 10, .val (.int .i64 (4)))] := lok (by rfl) (by rfl)
                  refine plain_ (wE := ⟨wq0, [gs, gd]⟩) (sz := 170) (n := 7) [0, 1, 3, 7, 15, 31, 63] [(20, .val (.bool false)), (0, .val (.string (b))), (1, .val (.slice (al0) (len0) (cap0))), (17, .val (.bool false)), (5, .val (.pointer (some ⟨gs, 0, none⟩))), (6, .val (.pointer (some ⟨gd, 0, none⟩))), (25, .val (.slice (al0) (len0) (cap0))), (26, .val (.int .i64 ((len0 : Int)))), (27, .val (.int .i64 ((i : Int)))), (28, .val (.bool true)), (32, .val (.int .i64 (x.f0))), (33, .val (.bool false)), (43, .val (.bool false)), (49, .val (.bool true)), (11, .val (.slice (none) (0) (0))), (9, .val (.int .i64 (4))), (12, .val (.slice (none) (0) (0))), (10, .val (.int .i64 (4)))] [(0, 57, .val (.pointer (some ⟨gd, 0, none⟩))), (1, 58, .val (.tuple #[.slice (none) (0) (0), .int .i64 (4)])), (2, 56, .val (.tuple #[.slice (none) (0) (0), .int .i64 (4)])), (3, 59, .val (.slice (none) (0) (0))), (4, 60, .val (.int .i64 (4))), (5, 12, .val (.slice (none) (0) (0))), (6, 10, .val (.int .i64 (4)))] [⟨gs, none, none, (), 6, spC m, spC m, 53⟩, ⟨gd, none, some 1, (), 6, rpC d, rpC d, 51⟩] rfl (by rfl) HH50 rfl rfl hLo rfl HS50 (slS 0 rfl rfl (slS 1 rfl rfl (slS 2 rfl rfl (slS 3 rfl rfl (slS 4 rfl rfl (slS 5 rfl rfl (slS 6 rfl rfl (slS 7 rfl rfl (slS 8 rfl rfl (slS 9 rfl rfl (slS 11 rfl rfl (slS 12 rfl rfl (slS 13 rfl rfl (slS 14 rfl rfl (slS 16 rfl rfl (slS 17 rfl rfl (slL 5 (d := 5) rfl (slL 6 (d := 6) rfl (trivial))))))))))))))))))) ?_ ?_
                  · show ∀ i ∈ [0, 1, 2, 3, 4, 5, 6], _
                    refine steps_cons (st_run 0 _ rfl rfl hLo rfl rfl (fun _ _ _ _ => rfl) (fun b G w hb ho => exec_move (.inl rfl) (ev_off rfl (HS50.get 5 rfl)))) ?_
                    refine steps_cons (st_callM 1 1 _ _ (fun G => #[.pointer (some ⟨gd, 0, none⟩)]) rfl rfl rfl rfl rfl (fun _ _ _ _ => rfl) hLo rfl (by rfl) (by rfl) (by rfl) Try.func26 rfl rfl (fun b G hb ho => args1 (ev_on hLo 0 rfl HS50.1 rfl (hb 0 (by rfl)))) (fun G w hw hr => ropenM_none hpw hsim hoka hC hrec hr)) ?_
                    refine steps_cons (st_run 2 _ rfl rfl hLo rfl rfl (fun _ _ _ _ => rfl) (fun b G w hb ho => exec_move (.inl rfl) (ev_on hLo 1 rfl HS50.1 rfl (hb 1 (by rfl))))) ?_
                    refine steps_cons (st_run 3 _ rfl rfl hLo rfl rfl (fun _ _ _ _ => rfl) (fun b G w hb ho => exec_extract rfl (ev_on hLo 2 rfl HS50.1 rfl (hb 2 (by rfl))) (by rfl))) ?_
                    refine steps_cons (st_run 4 _ rfl rfl hLo rfl rfl (fun _ _ _ _ => rfl) (fun b G w hb ho => exec_extract rfl (ev_on hLo 2 rfl HS50.1 rfl (hb 2 (by rfl))) (by rfl))) ?_
                    refine steps_cons (st_run 5 _ rfl rfl hLo rfl rfl (fun _ _ _ _ => rfl) (fun b G w hb ho => exec_move (.inr rfl) (ev_on hLo 3 rfl HS50.1 rfl (hb 3 (by rfl))))) ?_
                    refine steps_cons (st_run 6 _ rfl rfl hLo rfl rfl (fun _ _ _ _ => rfl) (fun b G w hb ho => exec_move (.inr rfl) (ev_on hLo 4 rfl HS50.1 rfl (hb 4 (by rfl))))) ?_
                    exact steps_nil
                  clear hLo
                  intro G a51 w51 hS hH
                  have HS51 : Sl a51 170 [(20, .bool false), (0, .string (b)), (1, .slice (al0) (len0) (cap0)), (17, .bool false), (5, .pointer (some ⟨gs, 0, none⟩)), (6, .pointer (some ⟨gd, 0, none⟩)), (25, .slice (al0) (len0) (cap0)), (26, .int .i64 ((len0 : Int))), (27, .int .i64 ((i : Int))), (28, .bool true), (32, .int .i64 (x.f0)), (33, .bool false), (43, .bool false), (49, .bool true), (11, .slice (none) (0) (0)), (9, .int .i64 (4)), (12, .slice (none) (0) (0)), (10, .int .i64 (4))] := hS
                  have HH51 : Held ⟨wq0, [gs, gd]⟩ w51 [⟨gs, (), 6, spC m, 53⟩, ⟨gd, (), 6, rpC d, 51⟩] := hH
                  clear hS hH HS50 HH50
                  refine then_ ?_
                  refine wp_seq ?_
                  have hLo : LOk [(0, 61, .val (.slice (none) (0) (0))), (1, 62, .val (.slice (none) (0) (0))), (2, 63, .val (.bool true)), (3, 64, .val (.bool false))] := lok (by rfl) (by rfl)
                  refine plain_ (wE := ⟨wq0, [gs, gd]⟩) (sz := 170) (n := 4) [0, 1, 3, 7] [(20, .val (.bool false)), (0, .val (.string (b))), (1, .val (.slice (al0) (len0) (cap0))), (17, .val (.bool false)), (5, .val (.pointer (some ⟨gs, 0, none⟩))), (6, .val (.pointer (some ⟨gd, 0, none⟩))), (25, .val (.slice (al0) (len0) (cap0))), (26, .val (.int .i64 ((len0 : Int)))), (27, .val (.int .i64 ((i : Int)))), (28, .val (.bool true)), (32, .val (.int .i64 (x.f0))), (33, .val (.bool false)), (43, .val (.bool false)), (49, .val (.bool true)), (11, .val (.slice (none) (0) (0))), (9, .val (.int .i64 (4))), (12, .val (.slice (none) (0) (0))), (10, .val (.int .i64 (4))), (64, .val (.bool false))] [(0, 61, .val (.slice (none) (0) (0))), (1, 62, .val (.slice (none) (0) (0))), (2, 63, .val (.bool true)), (3, 64, .val (.bool false))] [⟨gs, none, none, (), 6, spC m, spC m, 53⟩, ⟨gd, none, none, (), 6, rpC d, rpC d, 51⟩] rfl (by rfl) HH51 rfl rfl hLo rfl HS51 (slS 0 rfl rfl (slS 1 rfl rfl (slS 2 rfl rfl (slS 3 rfl rfl (slS 4 rfl rfl (slS 5 rfl rfl (slS 6 rfl rfl (slS 7 rfl rfl (slS 8 rfl rfl (slS 9 rfl rfl (slS 10 rfl rfl (slS 11 rfl rfl (slS 12 rfl rfl (slS 13 rfl rfl (slS 14 rfl rfl (slS 15 rfl rfl (slS 16 rfl rfl (slS 17 rfl rfl (slL 3 (d := 3) rfl (trivial)))))))))))))))))))) ?_ ?_
                  · show ∀ i ∈ [0, 1, 2, 3], _
                    refine steps_cons (st_run 0 _ rfl rfl hLo rfl rfl (fun _ _ _ _ => rfl) (fun b G w hb ho => exec_move (.inl rfl) (ev_off rfl (HS51.get 14 rfl)))) ?_
                    refine steps_cons (st_run 1 _ rfl rfl hLo rfl rfl (fun _ _ _ _ => rfl) (fun b G w hb ho => exec_move (.inl rfl) (ev_off rfl (HS51.get 16 rfl)))) ?_
                    refine steps_cons (st_call 2 _ #[.slice (none) (0) (0), .slice (none) (0) (0)] rfl rfl rfl (fun _ _ _ _ => rfl) hLo rfl rfl Try.func12 rfl rfl (fun b G hb ho => args2 (ev_on hLo 0 rfl HS51.1 rfl (hb 0 (by rfl))) (ev_on hLo 1 rfl HS51.1 rfl (hb 1 (by rfl)))) (fun w hw => same_callsC (tx_nil _ 0).C.1 (Nat.le_refl _) (tx_nil _ 0).C.1 (Nat.le_refl _) (by decide))) ?_
                    refine steps_cons (st_run 3 _ rfl rfl hLo rfl rfl (fun _ _ _ _ => rfl) (fun b G w hb ho => exec_un rfl (ev_on hLo 2 rfl HS51.1 rfl (hb 2 (by rfl))) (ru_not _))) ?_
                    exact steps_nil
                  clear hLo
                  intro G a52 w52 hS hH
                  have HS52 : Sl a52 170 [(20, .bool false), (0, .string (b)), (1, .slice (al0) (len0) (cap0)), (17, .bool false), (5, .pointer (some ⟨gs, 0, none⟩)), (6, .pointer (some ⟨gd, 0, none⟩)), (25, .slice (al0) (len0) (cap0)), (26, .int .i64 ((len0 : Int))), (27, .int .i64 ((i : Int))), (28, .bool true), (32, .int .i64 (x.f0)), (33, .bool false), (43, .bool false), (49, .bool true), (11, .slice (none) (0) (0)), (9, .int .i64 (4)), (12, .slice (none) (0) (0)), (10, .int .i64 (4)), (64, .bool false)] := hS
                  have HH52 : Held ⟨wq0, [gs, gd]⟩ w52 [⟨gs, (), 6, spC m, 53⟩, ⟨gd, (), 6, rpC d, 51⟩] := hH
                  clear hS hH HS51 HH51
                  refine then_ ?_
                  refine wp_cond_false (HS52.get 18 rfl) ?_
                  refine wp_skip ?_
                  refine inBlock_normal ?_
                  refine then_ ?_
                  have hS53 : Sl _ 170 [(20, .bool false), (0, .string (b)), (1, .slice (al0) (len0) (cap0)), (17, .bool false), (5, .pointer (some ⟨gs, 0, none⟩)), (6, .pointer (some ⟨gd, 0, none⟩)), (25, .slice (al0) (len0) (cap0)), (26, .int .i64 ((len0 : Int))), (27, .int .i64 ((i : Int))), (28, .bool true), (9, .int .i64 (4)), (10, .int .i64 (4))] := sl_keep HS52 [0, 1, 2, 3, 4, 5, 6, 7, 8, 9, 15, 17] (by rfl)
                  have hH53 : Held ⟨wq0, [gs, gd]⟩ _ [⟨gs, (), 6, spC m, 53⟩, ⟨gd, (), 6, rpC d, 51⟩] := held_keep HH52 2 rfl
                  have hBj := bel_over hBq hH53.1 hBq.size (allLe2 (by omega) (by omega))
                  exact ⟨m, d, 4, ⟨hsim, hoka.up⟩, hBj, hS53, hH53.anew⟩
                | some rs =>
                  refine then_ ?_
                  refine wp_seq ?_
                  refine whole_ ?_
                  have hLo : LOk [(0, 52, .val (.pointer (some ⟨gs, 0, none⟩)))] := lok (by rfl) (by rfl)
                  refine part_ (wE := ⟨wq0, [gs, gd]⟩) (sz := 170) (n := 7) 0 1 [0, 1, 3, 7, 15, 31, 63] [(20, .val (.bool false)), (0, .val (.string (b))), (1, .val (.slice (al0) (len0) (cap0))), (17, .val (.bool false)), (5, .val (.pointer (some ⟨gs, 0, none⟩))), (6, .val (.pointer (some ⟨gd, 0, none⟩))), (25, .val (.slice (al0) (len0) (cap0))), (26, .val (.int .i64 ((len0 : Int)))), (27, .val (.int .i64 ((i : Int)))), (28, .val (.bool true)), (9, .val (.int .i64 (0))), (10, .val (.int .i64 (0))), (32, .val (.int .i64 (x.f0))), (33, .val (.bool false)), (43, .val (.bool false)), (49, .val (.bool true)), (11, .val (.slice (none) (0) (0))), (12, .val (.slice (none) (0) (0))), (52, .val (.pointer (some ⟨gs, 0, none⟩)))] [(0, 52, .val (.pointer (some ⟨gs, 0, none⟩)))] [⟨gs, none, none, (), 6, spC m, spC m, 53⟩, ⟨gd, none, none, (), 6, rpC d, rpC d, 51⟩] rfl rfl (by rfl) HH45 rfl rfl hLo rfl HS45 (slS 0 rfl rfl (slS 1 rfl rfl (slS 2 rfl rfl (slS 3 rfl rfl (slS 4 rfl rfl (slS 5 rfl rfl (slS 6 rfl rfl (slS 7 rfl rfl (slS 8 rfl rfl (slS 9 rfl rfl (slS 10 rfl rfl (slS 11 rfl rfl (slS 12 rfl rfl (slS 13 rfl rfl (slS 14 rfl rfl (slS 15 rfl rfl (slS 16 rfl rfl (slS 17 rfl rfl (slL 0 (d := 0) rfl (trivial)))))))))))))))))))) ?_ ?_
                  · show ∀ i ∈ [0], _
                    refine steps_cons (st_run 0 _ rfl rfl hLo rfl rfl (fun _ _ _ _ => rfl) (fun b G w hb ho => exec_move (.inl rfl) (ev_off rfl (HS45.get 4 rfl)))) ?_
                    exact steps_nil
                  clear hLo
                  intro G a54 w54 hS hH
                  have HS54 : Sl a54 170 [(20, .bool false), (0, .string (b)), (1, .slice (al0) (len0) (cap0)), (17, .bool false), (5, .pointer (some ⟨gs, 0, none⟩)), (6, .pointer (some ⟨gd, 0, none⟩)), (25, .slice (al0) (len0) (cap0)), (26, .int .i64 ((len0 : Int))), (27, .int .i64 ((i : Int))), (28, .bool true), (9, .int .i64 (0)), (10, .int .i64 (0)), (32, .int .i64 (x.f0)), (33, .bool false), (43, .bool false), (49, .bool true), (11, .slice (none) (0) (0)), (12, .slice (none) (0) (0)), (52, .pointer (some ⟨gs, 0, none⟩))] := hS
                  have HH54 : Held ⟨wq0, [gs, gd]⟩ w54 [⟨gs, (), 6, spC m, 53⟩, ⟨gd, (), 6, rpC d, 51⟩] := hH
                  clear hS hH HS45 HH45
                  have hrw1 := HH54.row 0 rfl
                  have hlt1 := hrw1.lt
                  have hlt11 := (HH54.row 1 rfl).lt
                  refine cut_call _ rfl rfl rfl rfl Try.func10 rfl rfl (args1 (HS54.get 18 rfl)) (openM_some hof hoka hC hrec hrw1) HS54 rfl ?_
                  rintro e55 w55 ⟨⟨A1, c1, rfl, hT1⟩, hr1, hf1⟩
                  refine ⟨_, rfl, fun a55 hS => ?_⟩
                  have HS56 : Sl a55 170 [(53, .tuple #[.slice (A1) (rs.length) (c1), .int .i64 (0)]), (20, .bool false), (0, .string (b)), (1, .slice (al0) (len0) (cap0)), (17, .bool false), (5, .pointer (some ⟨gs, 0, none⟩)), (6, .pointer (some ⟨gd, 0, none⟩)), (25, .slice (al0) (len0) (cap0)), (26, .int .i64 ((len0 : Int))), (27, .int .i64 ((i : Int))), (28, .bool true), (9, .int .i64 (0)), (10, .int .i64 (0)), (32, .int .i64 (x.f0)), (33, .bool false), (43, .bool false), (49, .bool true), (11, .slice (none) (0) (0)), (12, .slice (none) (0) (0)), (52, .pointer (some ⟨gs, 0, none⟩))] := hS
                  have HH56 : Held ⟨wq0, [gs, gd]⟩ w55 [⟨gs, (), 6, spC (openS m ls), 53⟩, ⟨gd, (), 6, rpC d, 51⟩] := HH54.turn 0 rfl hf1 hr1
                  clear hS
                  skip
                  have hB_57 := bel_over hBq HH56.1 hBq.size (allLe2 (by omega) (by omega))
                  have HH57 : Held ⟨w55, [gs, gd]⟩ w55 [⟨gs, (), 6, spC (openS m ls), 53⟩, ⟨gd, (), 6, rpC d, 51⟩] := HH56.anew
                  have hLo : LOk [(2, 51, .val (.tuple #[.slice (A1) (rs.length) (c1), .int .i64 (0)])), (3, 54, .val (.slice (A1) (rs.length) (c1))), (4, 55, .val (.int .i64 (0))), (5, 11, .val (.slice (A1) (rs.length) (c1))), (6, 9, .val (.int .i64 (0)))] := lok (by rfl) (by rfl)
                  refine part_ (wE := ⟨w55, [gs, gd]⟩) (sz := 170) (n := 7) 2 7 [0, 1, 3, 7, 15, 31, 63] [(20, .val (.bool false)), (0, .val (.string (b))), (1, .val (.slice (al0) (len0) (cap0))), (17, .val (.bool false)), (5, .val (.pointer (some ⟨gs, 0, none⟩))), (6, .val (.pointer (some ⟨gd, 0, none⟩))), (25, .val (.slice (al0) (len0) (cap0))), (26, .val (.int .i64 ((len0 : Int)))), (27, .val (.int .i64 ((i : Int)))), (28, .val (.bool true)), (10, .val (.int .i64 (0))), (32, .val (.int .i64 (x.f0))), (33, .val (.bool false)), (43, .val (.bool false)), (49, .val (.bool true)), (12, .val (.slice (none) (0) (0))), (11, .val (.slice (A1) (rs.length) (c1))), (9, .val (.int .i64 (0)))] [(2, 51, .val (.tuple #[.slice (A1) (rs.length) (c1), .int .i64 (0)])), (3, 54, .val (.slice (A1) (rs.length) (c1))), (4, 55, .val (.int .i64 (0))), (5, 11, .val (.slice (A1) (rs.length) (c1))), (6, 9, .val (.int .i64 (0)))] [⟨gs, none, none, (), 6, spC (openS m ls), spC (openS m ls), 53⟩, ⟨gd, none, none, (), 6, rpC d, rpC d, 51⟩] rfl rfl (by rfl) HH57 rfl rfl hLo rfl HS56 (slS 1 rfl rfl (slS 2 rfl rfl (slS 3 rfl rfl (slS 4 rfl rfl (slS 5 rfl rfl (slS 6 rfl rfl (slS 7 rfl rfl (slS 8 rfl rfl (slS 9 rfl rfl (slS 10 rfl rfl (slS 12 rfl rfl (slS 13 rfl rfl (slS 14 rfl rfl (slS 15 rfl rfl (slS 16 rfl rfl (slS 18 rfl rfl (slL 3 (d := 5) rfl (slL 4 (d := 6) rfl (trivial))))))))))))))))))) ?_ ?_
                  · show ∀ i ∈ [2, 3, 4, 5, 6], _
                    refine steps_cons (st_run 0 _ rfl rfl hLo rfl rfl (fun _ _ _ _ => rfl) (fun b G w hb ho => exec_move (.inl rfl) (ev_off rfl (HS56.get 0 rfl)))) ?_
                    refine steps_cons (st_run 1 _ rfl rfl hLo rfl rfl (fun _ _ _ _ => rfl) (fun b G w hb ho => exec_extract rfl (ev_on hLo 0 rfl HS56.1 rfl (hb 2 (by rfl))) (by rfl))) ?_
                    refine steps_cons (st_run 2 _ rfl rfl hLo rfl rfl (fun _ _ _ _ => rfl) (fun b G w hb ho => exec_extract rfl (ev_on hLo 0 rfl HS56.1 rfl (hb 2 (by rfl))) (by rfl))) ?_
                    refine steps_cons (st_run 3 _ rfl rfl hLo rfl rfl (fun _ _ _ _ => rfl) (fun b G w hb ho => exec_move (.inr rfl) (ev_on hLo 1 rfl HS56.1 rfl (hb 3 (by rfl))))) ?_
                    refine steps_cons (st_run 4 _ rfl rfl hLo rfl rfl (fun _ _ _ _ => rfl) (fun b G w hb ho => exec_move (.inr rfl) (ev_on hLo 2 rfl HS56.1 rfl (hb 4 (by rfl))))) ?_
                    exact steps_nil
                  clear hLo
                  intro G a58 w58 hS hH
                  have HS58 : Sl a58 170 [(20, .bool false), (0, .string (b)), (1, .slice (al0) (len0) (cap0)), (17, .bool false), (5, .pointer (some ⟨gs, 0, none⟩)), (6, .pointer (some ⟨gd, 0, none⟩)), (25, .slice (al0) (len0) (cap0)), (26, .int .i64 ((len0 : Int))), (27, .int .i64 ((i : Int))), (28, .bool true), (10, .int .i64 (0)), (32, .int .i64 (x.f0)), (33, .bool false), (43, .bool false), (49, .bool true), (12, .slice (none) (0) (0)), (11, .slice (A1) (rs.length) (c1)), (9, .int .i64 (0))] := hS
                  have HH58 : Held ⟨w55, [gs, gd]⟩ w58 [⟨gs, (), 6, spC (openS m ls), 53⟩, ⟨gd, (), 6, rpC d, 51⟩] := hH
                  clear hS hH HS56 HH57
                  refine end_ rfl ?_
                  refine then_ ?_
                  refine wp_seq ?_
                  refine whole_ ?_
                  have hLo : LOk [(0, 57, .val (.pointer (some ⟨gd, 0, none⟩)))] := lok (by rfl) (by rfl)
                  refine part_ (wE := ⟨w55, [gs, gd]⟩) (sz := 170) (n := 7) 0 1 [0, 1, 3, 7, 15, 31, 63] [(20, .val (.bool false)), (0, .val (.string (b))), (1, .val (.slice (al0) (len0) (cap0))), (17, .val (.bool false)), (5, .val (.pointer (some ⟨gs, 0, none⟩))), (6, .val (.pointer (some ⟨gd, 0, none⟩))), (25, .val (.slice (al0) (len0) (cap0))), (26, .val (.int .i64 ((len0 : Int)))), (27, .val (.int .i64 ((i : Int)))), (28, .val (.bool true)), (10, .val (.int .i64 (0))), (32, .val (.int .i64 (x.f0))), (33, .val (.bool false)), (43, .val (.bool false)), (49, .val (.bool true)), (12, .val (.slice (none) (0) (0))), (11, .val (.slice (A1) (rs.length) (c1))), (9, .val (.int .i64 (0))), (57, .val (.pointer (some ⟨gd, 0, none⟩)))] [(0, 57, .val (.pointer (some ⟨gd, 0, none⟩)))] [⟨gs, none, none, (), 6, spC (openS m ls), spC (openS m ls), 53⟩, ⟨gd, none, none, (), 6, rpC d, rpC d, 51⟩] rfl rfl (by rfl) HH58 rfl rfl hLo rfl HS58 (slS 0 rfl rfl (slS 1 rfl rfl (slS 2 rfl rfl (slS 3 rfl rfl (slS 4 rfl rfl (slS 5 rfl rfl (slS 6 rfl rfl (slS 7 rfl rfl (slS 8 rfl rfl (slS 9 rfl rfl (slS 10 rfl rfl (slS 11 rfl rfl (slS 12 rfl rfl (slS 13 rfl rfl (slS 14 rfl rfl (slS 15 rfl rfl (slS 16 rfl rfl (slS 17 rfl rfl (slL 0 (d := 0) rfl (trivial)))))))))))))))))))) ?_ ?_
                  · show ∀ i ∈ [0], _
                    refine steps_cons (st_run 0 _ rfl rfl hLo rfl rfl (fun _ _ _ _ => rfl) (fun b G w hb ho => exec_move (.inl rfl) (ev_off rfl (HS58.get 5 rfl)))) ?_
                    exact steps_nil
                  clear hLo
                  intro G a59 w59 hS hH
                  have HS59 : Sl a59 170 [(20, .bool false), (0, .string (b)), (1, .slice (al0) (len0) (cap0)), (17, .bool false), (5, .pointer (some ⟨gs, 0, none⟩)), (6, .pointer (some ⟨gd, 0, none⟩)), (25, .slice (al0) (len0) (cap0)), (26, .int .i64 ((len0 : Int))), (27, .int .i64 ((i : Int))), (28, .bool true), (10, .int .i64 (0)), (32, .int .i64 (x.f0)), (33, .bool false), (43, .bool false), (49, .bool true), (12, .slice (none) (0) (0)), (11, .slice (A1) (rs.length) (c1)), (9, .int .i64 (0)), (57, .pointer (some ⟨gd, 0, none⟩))] := hS
                  have HH59 : Held ⟨w55, [gs, gd]⟩ w59 [⟨gs, (), 6, spC (openS m ls), 53⟩, ⟨gd, (), 6, rpC d, 51⟩] := hH
                  clear hS hH HS58 HH58
                  have hrw2 := HH59.row 1 rfl
                  have hlt2 := hrw2.lt
                  have hlt20 := (HH59.row 0 rfl).lt
                  refine cut_call _ rfl rfl rfl rfl Try.func26 rfl rfl (args1 (HS59.get 18 rfl)) (ropenM_some hpw hsim hoka hC hrec hrw2) HS59 rfl ?_
                  rintro e60 w60 ⟨⟨A2, c2, rfl, hT2⟩, hr2, hf2⟩
                  refine ⟨_, rfl, fun a60 hS => ?_⟩
                  have HS61 : Sl a60 170 [(58, .tuple #[.slice (A2) (rs.length) (c2), .int .i64 (0)]), (20, .bool false), (0, .string (b)), (1, .slice (al0) (len0) (cap0)), (17, .bool false), (5, .pointer (some ⟨gs, 0, none⟩)), (6, .pointer (some ⟨gd, 0, none⟩)), (25, .slice (al0) (len0) (cap0)), (26, .int .i64 ((len0 : Int))), (27, .int .i64 ((i : Int))), (28, .bool true), (10, .int .i64 (0)), (32, .int .i64 (x.f0)), (33, .bool false), (43, .bool false), (49, .bool true), (12, .slice (none) (0) (0)), (11, .slice (A1) (rs.length) (c1)), (9, .int .i64 (0)), (57, .pointer (some ⟨gd, 0, none⟩))] := hS
                  have HH61 : Held ⟨w55, [gs, gd]⟩ w60 [⟨gs, (), 6, spC (openS m ls), 53⟩, ⟨gd, (), 6, rpC (ropenS d ls), 51⟩] := HH59.turn 1 rfl hf2 hr2
                  clear hS
                  skip
                  have hB_62 := bel_over hB_57 HH61.1 hB_57.size (allLe2 (by omega) (by omega))
                  have hT1_62 := hT1.over HH61.1 (allLt2 (by omega) (by omega))
                  have HH62 : Held ⟨w60, [gs, gd]⟩ w60 [⟨gs, (), 6, spC (openS m ls), 53⟩, ⟨gd, (), 6, rpC (ropenS d ls), 51⟩] := HH61.anew
                  have hLo : LOk [(2, 56, .val (.tuple #[.slice (A2) (rs.length) (c2), .int .i64 (0)])), (3, 59, .val (.slice (A2) (rs.length) (c2))), (4, 60, .val (.int .i64 (0))), (5, 12, .val (.slice (A2) (rs.length) (c2))), (6, 10, .val (.int .i64 (0)))] := lok (by rfl) (by rfl)
                  refine part_ (wE := ⟨w60, [gs, gd]⟩) (sz := 170) (n := 7) 2 7 [0, 1, 3, 7, 15, 31, 63] [(20, .val (.bool false)), (0, .val (.string (b))), (1, .val (.slice (al0) (len0) (cap0))), (17, .val (.bool false)), (5, .val (.pointer (some ⟨gs, 0, none⟩))), (6, .val (.pointer (some ⟨gd, 0, none⟩))), (25, .val (.slice (al0) (len0) (cap0))), (26, .val (.int .i64 ((len0 : Int)))), (27, .val (.int .i64 ((i : Int)))), (28, .val (.bool true)), (32, .val (.int .i64 (x.f0))), (33, .val (.bool false)), (43, .val (.bool false)), (49, .val (.bool true)), (11, .val (.slice (A1) (rs.length) (c1))), (9, .val (.int .i64 (0))), (12, .val (.slice (A2) (rs.length) (c2))), (10, .val (.int .i64 (0)))] [(2, 56, .val (.tuple #[.slice (A2) (rs.length) (c2), .int .i64 (0)])), (3, 59, .val (.slice (A2) (rs.length) (c2))), (4, 60, .val (.int .i64 (0))), (5, 12, .val (.slice (A2) (rs.length) (c2))), (6, 10, .val (.int .i64 (0)))] [⟨gs, none, none, (), 6, spC (openS m ls), spC (openS m ls), 53⟩, ⟨gd, none, none, (), 6, rpC (ropenS d ls), rpC (ropenS d ls), 51⟩] rfl rfl (by rfl) HH62 rfl rfl hLo rfl HS61 (slS 1 rfl rfl (slS 2 rfl rfl (slS 3 rfl rfl (slS 4 rfl rfl (slS 5 rfl rfl (slS 6 rfl rfl (slS 7 rfl rfl (slS 8 rfl rfl (slS 9 rfl rfl (slS 10 rfl rfl (slS 12 rfl rfl (slS 13 rfl rfl (slS 14 rfl rfl (slS 15 rfl rfl (slS 17 rfl rfl (slS 18 rfl rfl (slL 3 (d := 5) rfl (slL 4 (d := 6) rfl (trivial))))))))))))))))))) ?_ ?_
                  · show ∀ i ∈ [2, 3, 4, 5, 6], _
                    refine steps_cons (st_run 0 _ rfl rfl hLo rfl rfl (fun _ _ _ _ => rfl) (fun b G w hb ho => exec_move (.inl rfl) (ev_off rfl (HS61.get 0 rfl)))) ?_
                    refine steps_cons (st_run 1 _ rfl rfl hLo rfl rfl (fun _ _ _ _ => rfl) (fun b G w hb ho => exec_extract rfl (ev_on hLo 0 rfl HS61.1 rfl (hb 2 (by rfl))) (by rfl))) ?_
                    refine steps_cons (st_run 2 _ rfl rfl hLo rfl rfl (fun _ _ _ _ => rfl) (fun b G w hb ho => exec_extract rfl (ev_on hLo 0 rfl HS61.1 rfl (hb 2 (by rfl))) (by rfl))) ?_
                    refine steps_cons (st_run 3 _ rfl rfl hLo rfl rfl (fun _ _ _ _ => rfl) (fun b G w hb ho => exec_move (.inr rfl) (ev_on hLo 1 rfl HS61.1 rfl (hb 3 (by rfl))))) ?_
                    refine steps_cons (st_run 4 _ rfl rfl hLo rfl rfl (fun _ _ _ _ => rfl) (fun b G w hb ho => exec_move (.inr rfl) (ev_on hLo 2 rfl HS61.1 rfl (hb 4 (by rfl))))) ?_
                    exact steps_nil
                  clear hLo
                  intro G a63 w63 hS hH
                  have HS63 : Sl a63 170 [(20, .bool false), (0, .string (b)), (1, .slice (al0) (len0) (cap0)), (17, .bool false), (5, .pointer (some ⟨gs, 0, none⟩)), (6, .pointer (some ⟨gd, 0, none⟩)), (25, .slice (al0) (len0) (cap0)), (26, .int .i64 ((len0 : Int))), (27, .int .i64 ((i : Int))), (28, .bool true), (32, .int .i64 (x.f0)), (33, .bool false), (43, .bool false), (49, .bool true), (11, .slice (A1) (rs.length) (c1)), (9, .int .i64 (0)), (12, .slice (A2) (rs.length) (c2)), (10, .int .i64 (0))] := hS
                  have HH63 : Held ⟨w60, [gs, gd]⟩ w63 [⟨gs, (), 6, spC (openS m ls), 53⟩, ⟨gd, (), 6, rpC (ropenS d ls), 51⟩] := hH
                  clear hS hH HS61 HH62
                  refine end_ rfl ?_
                  refine then_ ?_
                  refine wp_seq ?_
                  have hLo : LOk [(0, 61, .val (.slice (A1) (rs.length) (c1))), (1, 62, .val (.slice (A2) (rs.length) (c2))), (2, 63, .val (.bool true)), (3, 64, .val (.bool false))] := lok (by rfl) (by rfl)
                  refine plain_ (wE := ⟨w60, [gs, gd]⟩) (sz := 170) (n := 4) [0, 1, 3, 7] [(20, .val (.bool false)), (0, .val (.string (b))), (1, .val (.slice (al0) (len0) (cap0))), (17, .val (.bool false)), (5, .val (.pointer (some ⟨gs, 0, none⟩))), (6, .val (.pointer (some ⟨gd, 0, none⟩))), (25, .val (.slice (al0) (len0) (cap0))), (26, .val (.int .i64 ((len0 : Int)))), (27, .val (.int .i64 ((i : Int)))), (28, .val (.bool true)), (32, .val (.int .i64 (x.f0))), (33, .val (.bool false)), (43, .val (.bool false)), (49, .val (.bool true)), (11, .val (.slice (A1) (rs.length) (c1))), (9, .val (.int .i64 (0))), (12, .val (.slice (A2) (rs.length) (c2))), (10, .val (.int .i64 (0))), (64, .val (.bool false))] [(0, 61, .val (.slice (A1) (rs.length) (c1))), (1, 62, .val (.slice (A2) (rs.length) (c2))), (2, 63, .val (.bool true)), (3, 64, .val (.bool false))] [⟨gs, none, none, (), 6, spC (openS m ls), spC (openS m ls), 53⟩, ⟨gd, none, none, (), 6, rpC (ropenS d ls), rpC (ropenS d ls), 51⟩] rfl (by rfl) HH63 rfl rfl hLo rfl HS63 (slS 0 rfl rfl (slS 1 rfl rfl (slS 2 rfl rfl (slS 3 rfl rfl (slS 4 rfl rfl (slS 5 rfl rfl (slS 6 rfl rfl (slS 7 rfl rfl (slS 8 rfl rfl (slS 9 rfl rfl (slS 10 rfl rfl (slS 11 rfl rfl (slS 12 rfl rfl (slS 13 rfl rfl (slS 14 rfl rfl (slS 15 rfl rfl (slS 16 rfl rfl (slS 17 rfl rfl (slL 3 (d := 3) rfl (trivial)))))))))))))))))))) ?_ ?_
                  · show ∀ i ∈ [0, 1, 2, 3], _
                    refine steps_cons (st_run 0 _ rfl rfl hLo rfl rfl (fun _ _ _ _ => rfl) (fun b G w hb ho => exec_move (.inl rfl) (ev_off rfl (HS63.get 14 rfl)))) ?_
                    refine steps_cons (st_run 1 _ rfl rfl hLo rfl rfl (fun _ _ _ _ => rfl) (fun b G w hb ho => exec_move (.inl rfl) (ev_off rfl (HS63.get 16 rfl)))) ?_
                    refine steps_cons (st_call 2 _ #[.slice (A1) (rs.length) (c1), .slice (A2) (rs.length) (c2)] rfl rfl rfl (fun _ _ _ _ => rfl) hLo rfl rfl Try.func12 rfl rfl (fun b G hb ho => args2 (ev_on hLo 0 rfl HS63.1 rfl (hb 0 (by rfl))) (ev_on hLo 1 rfl HS63.1 rfl (hb 1 (by rfl)))) (fun w hw => same_callsC (hT1_62.over hw (allLt2 (by omega) (by omega))).C.1 (hT1_62.over hw (allLt2 (by omega) (by omega))).C.2 (hT2.over hw (allLt2 (by omega) (by omega))).C.1 (hT2.over hw (allLt2 (by omega) (by omega))).C.2 (by have := recs_len hrec; have := cat_len ls; have := hC.eq; have h8 : ((m).al).size = (cat ls).size + tl.size := (by rw [this, ByteArray.size_append]); have := hoka.q_al; omega))) ?_
                    refine steps_cons (st_run 3 _ rfl rfl hLo rfl rfl (fun _ _ _ _ => rfl) (fun b G w hb ho => exec_un rfl (ev_on hLo 2 rfl HS63.1 rfl (hb 2 (by rfl))) (ru_not _))) ?_
                    exact steps_nil
                  clear hLo
                  intro G a64 w64 hS hH
                  have HS64 : Sl a64 170 [(20, .bool false), (0, .string (b)), (1, .slice (al0) (len0) (cap0)), (17, .bool false), (5, .pointer (some ⟨gs, 0, none⟩)), (6, .pointer (some ⟨gd, 0, none⟩)), (25, .slice (al0) (len0) (cap0)), (26, .int .i64 ((len0 : Int))), (27, .int .i64 ((i : Int))), (28, .bool true), (32, .int .i64 (x.f0)), (33, .bool false), (43, .bool false), (49, .bool true), (11, .slice (A1) (rs.length) (c1)), (9, .int .i64 (0)), (12, .slice (A2) (rs.length) (c2)), (10, .int .i64 (0)), (64, .bool false)] := hS
                  have HH64 : Held ⟨w60, [gs, gd]⟩ w64 [⟨gs, (), 6, spC (openS m ls), 53⟩, ⟨gd, (), 6, rpC (ropenS d ls), 51⟩] := hH
                  clear hS hH HS63 HH63
                  refine then_ ?_
                  refine wp_cond_false (HS64.get 18 rfl) ?_
                  refine wp_skip ?_
                  refine inBlock_normal ?_
                  refine then_ ?_
                  have hS65 : Sl _ 170 [(20, .bool false), (0, .string (b)), (1, .slice (al0) (len0) (cap0)), (17, .bool false), (5, .pointer (some ⟨gs, 0, none⟩)), (6, .pointer (some ⟨gd, 0, none⟩)), (25, .slice (al0) (len0) (cap0)), (26, .int .i64 ((len0 : Int))), (27, .int .i64 ((i : Int))), (28, .bool true), (9, .int .i64 (0)), (10, .int .i64 (0))] := sl_keep HS64 [0, 1, 2, 3, 4, 5, 6, 7, 8, 9, 15, 17] (by rfl)
                  have hH65 : Held ⟨w60, [gs, gd]⟩ _ [⟨gs, (), 6, spC (openS m ls), 53⟩, ⟨gd, (), 6, rpC (ropenS d ls), 51⟩] := held_keep HH64 2 rfl
                  have hBj := bel_over hB_62 hH65.1 hB_62.size (allLe2 (by omega) (by omega))
                  exact ⟨(openS m ls), (ropenS d ls), 0, ⟨(open_sim hsim hoka hC).1, (open_sim hsim hoka hC).2.up⟩, hBj, hS65, hH65.anew⟩
          · skip
            refine wp_cond_true (HS27.get 15 rfl) ?_
            have hLo : LOk [(0, 45, .val (.pointer (some ⟨gs, 0, none⟩))), (1, 46, .val (.int .i64 ((syncS m).2))), (2, 47, .val (.pointer (some ⟨gd, 0, none⟩))), (3, 48, .val (.int .i64 ((rsyncS d).2))), (4, 9, .val (.int .i64 ((syncS m).2))), (5, 10, .val (.int .i64 ((rsyncS d).2)))] := lok (by rfl) (by rfl)
            refine plain_ (wE := ⟨wq0, [gs, gd]⟩) (sz := 170) (n := 6) [0, 1, 3, 7, 15, 31] [(20, .val (.bool false)), (0, .val (.string (b))), (1, .val (.slice (al0) (len0) (cap0))), (17, .val (.bool false)), (5, .val (.pointer (some ⟨gs, 0, none⟩))), (6, .val (.pointer (some ⟨gd, 0, none⟩))), (25, .val (.slice (al0) (len0) (cap0))), (26, .val (.int .i64 ((len0 : Int)))), (27, .val (.int .i64 ((i : Int)))), (28, .val (.bool true)), (8, .val (.pointer (some ⟨g22_2, 0, none⟩))), (32, .val (.int .i64 (x.f0))), (33, .val (.bool false)), (43, .val (.bool true)), (9, .val (.int .i64 ((syncS m).2))), (10, .val (.int .i64 ((rsyncS d).2)))] [(0, 45, .val (.pointer (some ⟨gs, 0, none⟩))), (1, 46, .val (.int .i64 ((syncS m).2))), (2, 47, .val (.pointer (some ⟨gd, 0, none⟩))), (3, 48, .val (.int .i64 ((rsyncS d).2))), (4, 9, .val (.int .i64 ((syncS m).2))), (5, 10, .val (.int .i64 ((rsyncS d).2)))] [⟨gs, none, some 1, (), 6, spC m, spC (syncS m).1, 53⟩, ⟨gd, none, some 3, (), 6, rpC d, rpC (rsyncS d).1, 51⟩, ⟨g22_2, none, none, (), 4, lsc [.i .i64 x.f0, .i .i64 x.f1, .i .i64 x.f2, .s x.f3], lsc [.i .i64 x.f0, .i .i64 x.f1, .i .i64 x.f2, .s x.f3], 49⟩] rfl (by rfl) HH27 rfl rfl hLo rfl HS27 (slS 0 rfl rfl (slS 1 rfl rfl (slS 2 rfl rfl (slS 3 rfl rfl (slS 4 rfl rfl (slS 5 rfl rfl (slS 6 rfl rfl (slS 7 rfl rfl (slS 8 rfl rfl (slS 9 rfl rfl (slS 10 rfl rfl (slS 13 rfl rfl (slS 14 rfl rfl (slS 15 rfl rfl (slL 4 (d := 4) rfl (slL 5 (d := 5) rfl (trivial))))))))))))))))) ?_ ?_
            · show ∀ i ∈ [0, 1, 2, 3, 4, 5], _
              refine steps_cons (st_run 0 _ rfl rfl hLo rfl rfl (fun _ _ _ _ => rfl) (fun b G w hb ho => exec_move (.inl rfl) (ev_off rfl (HS27.get 4 rfl)))) ?_
              refine steps_cons (st_callM 1 0 _ _ (fun G => #[.pointer (some ⟨gs, 0, none⟩)]) rfl rfl rfl rfl rfl (fun _ _ _ _ => rfl) hLo rfl (by rfl) (by rfl) (by rfl) Try.func17 rfl rfl (fun b G hb ho => args1 (ev_on hLo 0 rfl HS27.1 rfl (hb 0 (by rfl)))) (fun G w hw hr => sync_calls (hoka.ok (by omega)) hr)) ?_
              refine steps_cons (st_run 2 _ rfl rfl hLo rfl rfl (fun _ _ _ _ => rfl) (fun b G w hb ho => exec_move (.inl rfl) (ev_off rfl (HS27.get 5 rfl)))) ?_
              refine steps_cons (st_callM 3 1 _ _ (fun G => #[.pointer (some ⟨gd, 0, none⟩)]) rfl rfl rfl rfl rfl (fun _ _ _ _ => rfl) hLo rfl (by rfl) (by rfl) (by rfl) Try.func25 rfl rfl (fun b G hb ho => args1 (ev_on hLo 2 rfl HS27.1 rfl (hb 2 (by rfl)))) (fun G w hw hr => rsync_calls hsim hoka (by omega) hr)) ?_
              refine steps_cons (st_run 4 _ rfl rfl hLo rfl rfl (fun _ _ _ _ => rfl) (fun b G w hb ho => exec_move (.inr rfl) (ev_on hLo 1 rfl HS27.1 rfl (hb 1 (by rfl))))) ?_
              refine steps_cons (st_run 5 _ rfl rfl hLo rfl rfl (fun _ _ _ _ => rfl) (fun b G w hb ho => exec_move (.inr rfl) (ev_on hLo 3 rfl HS27.1 rfl (hb 3 (by rfl))))) ?_
              exact steps_nil
            clear hLo
            intro G a66 w66 hS hH
            have HS66 : Sl a66 170 [(20, .bool false), (0, .string (b)), (1, .slice (al0) (len0) (cap0)), (17, .bool false), (5, .pointer (some ⟨gs, 0, none⟩)), (6, .pointer (some ⟨gd, 0, none⟩)), (25, .slice (al0) (len0) (cap0)), (26, .int .i64 ((len0 : Int))), (27, .int .i64 ((i : Int))), (28, .bool true), (8, .pointer (some ⟨g22_2, 0, none⟩)), (32, .int .i64 (x.f0)), (33, .bool false), (43, .bool true), (9, .int .i64 ((syncS m).2)), (10, .int .i64 ((rsyncS d).2))] := hS
            have HH66 : Held ⟨wq0, [gs, gd]⟩ w66 [⟨gs, (), 6, spC (syncS m).1, 53⟩, ⟨gd, (), 6, rpC (rsyncS d).1, 51⟩, ⟨g22_2, (), 4, lsc [.i .i64 x.f0, .i .i64 x.f1, .i .i64 x.f2, .s x.f3], 49⟩] := hH
            clear hS hH HS27 HH27
            refine inBlock_normal ?_
            refine then_ ?_
            have hS67 : Sl _ 170 [(20, .bool false), (0, .string (b)), (1, .slice (al0) (len0) (cap0)), (17, .bool false), (5, .pointer (some ⟨gs, 0, none⟩)), (6, .pointer (some ⟨gd, 0, none⟩)), (25, .slice (al0) (len0) (cap0)), (26, .int .i64 ((len0 : Int))), (27, .int .i64 ((i : Int))), (28, .bool true), (9, .int .i64 ((syncS m).2)), (10, .int .i64 ((rsyncS d).2))] := sl_keep HS66 [0, 1, 2, 3, 4, 5, 6, 7, 8, 9, 14, 15] (by rfl)
            have hH67 : Held ⟨wq0, [gs, gd]⟩ _ [⟨gs, (), 6, spC (syncS m).1, 53⟩, ⟨gd, (), 6, rpC (rsyncS d).1, 51⟩] := held_keep HH66 2 rfl
            have hBj := bel_over hBq hH67.1 hBq.size (allLe2 (by omega) (by omega))
            rw [← (sync_sim hsim hoka).2.2] at hS67
            exact ⟨(syncS m).1, (rsyncS d).1, (syncS m).2, ⟨(sync_sim hsim hoka).1, (sync_sim hsim hoka).2.1⟩, hBj, hS67, hH67.anew⟩
        · skip
          refine wp_cond_true (HS26.get 14 rfl) ?_
          have hLo : LOk [(0, 35, .val (.pointer (some ⟨gs, 0, none⟩))), (1, 36, .val (.pointer (some ⟨g22_2, 3, none⟩))), (2, 37, .val (.string (x.f3))), (3, 38, .val (.int .i64 ((appS m x.f3).2))), (4, 39, .val (.pointer (some ⟨gd, 0, none⟩))), (5, 40, .val (.pointer (some ⟨g22_2, 3, none⟩))), (6, 41, .val (.string (x.f3))), (7, 42, .val (.int .i64 ((rappS d x.f3).2))), (8, 9, .val (.int .i64 ((appS m x.f3).2))), (9, 10, .val (.int .i64 ((rappS d x.f3).2)))] := lok (by rfl) (by rfl)
          refine region_ (wE := ⟨wq0, [gs, gd]⟩) (sz := 170) (n := 10) (B := [0, 0, 2, 7, 0, 0, 32, 127, 255, 511]) [0, 1, 2, 3, 4, 5, 6, 7, 8, 9] [(20, .val (.bool false)), (0, .val (.string (b))), (1, .val (.slice (al0) (len0) (cap0))), (17, .val (.bool false)), (5, .val (.pointer (some ⟨gs, 0, none⟩))), (6, .val (.pointer (some ⟨gd, 0, none⟩))), (25, .val (.slice (al0) (len0) (cap0))), (26, .val (.int .i64 ((len0 : Int)))), (27, .val (.int .i64 ((i : Int)))), (28, .val (.bool true)), (8, .val (.pointer (some ⟨g22_2, 0, none⟩))), (32, .val (.int .i64 (x.f0))), (33, .val (.bool true)), (9, .val (.int .i64 ((appS m x.f3).2))), (10, .val (.int .i64 ((rappS d x.f3).2)))] [(0, 35, .val (.pointer (some ⟨gs, 0, none⟩))), (1, 36, .val (.pointer (some ⟨g22_2, 3, none⟩))), (2, 37, .val (.string (x.f3))), (3, 38, .val (.int .i64 ((appS m x.f3).2))), (4, 39, .val (.pointer (some ⟨gd, 0, none⟩))), (5, 40, .val (.pointer (some ⟨g22_2, 3, none⟩))), (6, 41, .val (.string (x.f3))), (7, 42, .val (.int .i64 ((rappS d x.f3).2))), (8, 9, .val (.int .i64 ((appS m x.f3).2))), (9, 10, .val (.int .i64 ((rappS d x.f3).2)))] [⟨gs, none, some 3, (), 6, spC m, spC (appS m x.f3).1, 53⟩, ⟨gd, none, some 7, (), 6, rpC d, rpC (rappS d x.f3).1, 51⟩, ⟨g22_2, none, none, (), 4, lsc [.i .i64 x.f0, .i .i64 x.f1, .i .i64 x.f2, .s x.f3], lsc [.i .i64 x.f0, .i .i64 x.f1, .i .i64 x.f2, .s x.f3], 49⟩] (by rfl) rfl tabxn12 bitsxn12 (by kernel_rfl) (by kernel_rfl) HH26 rfl rfl hLo rfl HS26 (slS 0 rfl rfl (slS 1 rfl rfl (slS 2 rfl rfl (slS 3 rfl rfl (slS 4 rfl rfl (slS 5 rfl rfl (slS 6 rfl rfl (slS 7 rfl rfl (slS 8 rfl rfl (slS 9 rfl rfl (slS 10 rfl rfl (slS 13 rfl rfl (slS 14 rfl rfl (slL 8 (d := 8) rfl (slL 9 (d := 9) rfl (trivial)))))))))))))))) ?_ ?_
          · show ∀ i ∈ [0, 1, 2, 3, 4, 5, 6, 7, 8, 9], _
            refine steps_cons (st_run 0 _ rfl rfl hLo rfl rfl (fun _ _ _ _ => rfl) (fun b G w hb ho => exec_move (.inl rfl) (ev_off rfl (HS26.get 4 rfl)))) ?_
            refine steps_cons (st_run 1 _ rfl rfl hLo rfl rfl (fun _ _ _ _ => rfl) (fun b G w hb ho => exec_field rfl (ev_off rfl (HS26.get 10 rfl)) (by kernel_rfl))) ?_
            refine steps_cons (st_read 2 2 _ _ rfl rfl rfl hLo rfl rfl (fun _ _ _ _ => rfl) (by rfl) (by rfl) (fun b G w hb ho hr => exec_cell hr (Nat.le_of_ble_eq_true rfl) Try.underlying9 rfl rfl (ev_on hLo 1 rfl HS26.1 rfl (hb 1 (by rfl))))) ?_
            refine steps_cons (st_callM 3 0 _ _ (fun G => #[.pointer (some ⟨gs, 0, none⟩), .string (x.f3)]) rfl rfl rfl rfl rfl (fun _ _ _ _ => rfl) hLo rfl (by rfl) (by rfl) (by rfl) Try.func16 rfl rfl (fun b G hb ho => args2 (ev_on hLo 0 rfl HS26.1 rfl (hb 0 (by rfl))) (ev_on hLo 2 rfl HS26.1 rfl (hb 2 (by rfl)))) (fun G w hw hr => app_calls (hoka.ok (by omega)) (Nat.le_trans (hxz x hmx) (by decide)) hr)) ?_
            refine steps_cons (st_run 4 _ rfl rfl hLo rfl rfl (fun _ _ _ _ => rfl) (fun b G w hb ho => exec_move (.inl rfl) (ev_off rfl (HS26.get 5 rfl)))) ?_
            refine steps_cons (st_run 5 _ rfl rfl hLo rfl rfl (fun _ _ _ _ => rfl) (fun b G w hb ho => exec_field rfl (ev_off rfl (HS26.get 10 rfl)) (by kernel_rfl))) ?_
            refine steps_cons (st_read 6 2 _ _ rfl rfl rfl hLo rfl rfl (fun _ _ _ _ => rfl) (by rfl) (by rfl) (fun b G w hb ho hr => exec_cell hr (Nat.le_of_ble_eq_true rfl) Try.underlying9 rfl rfl (ev_on hLo 5 rfl HS26.1 rfl (hb 5 (by rfl))))) ?_
            refine steps_cons (st_callM 7 1 _ _ (fun G => #[.pointer (some ⟨gd, 0, none⟩), .string (x.f3)]) rfl rfl rfl rfl rfl (fun _ _ _ _ => rfl) hLo rfl (by rfl) (by rfl) (by rfl) Try.func24 rfl rfl (fun b G hb ho => args2 (ev_on hLo 4 rfl HS26.1 rfl (hb 4 (by rfl))) (ev_on hLo 6 rfl HS26.1 rfl (hb 6 (by rfl)))) (fun G w hw hr => rapp_calls hsim hoka (by omega) (Nat.le_trans (hxz x hmx) (by decide)) hr)) ?_
            refine steps_cons (st_run 8 _ rfl rfl hLo rfl rfl (fun _ _ _ _ => rfl) (fun b G w hb ho => exec_move (.inr rfl) (ev_on hLo 3 rfl HS26.1 rfl (hb 3 (by rfl))))) ?_
            refine steps_cons (st_run 9 _ rfl rfl hLo rfl rfl (fun _ _ _ _ => rfl) (fun b G w hb ho => exec_move (.inr rfl) (ev_on hLo 7 rfl HS26.1 rfl (hb 7 (by rfl))))) ?_
            exact steps_nil
          clear hLo
          intro G a68 w68 hS hH
          have HS68 : Sl a68 170 [(20, .bool false), (0, .string (b)), (1, .slice (al0) (len0) (cap0)), (17, .bool false), (5, .pointer (some ⟨gs, 0, none⟩)), (6, .pointer (some ⟨gd, 0, none⟩)), (25, .slice (al0) (len0) (cap0)), (26, .int .i64 ((len0 : Int))), (27, .int .i64 ((i : Int))), (28, .bool true), (8, .pointer (some ⟨g22_2, 0, none⟩)), (32, .int .i64 (x.f0)), (33, .bool true), (9, .int .i64 ((appS m x.f3).2)), (10, .int .i64 ((rappS d x.f3).2))] := hS
          have HH68 : Held ⟨wq0, [gs, gd]⟩ w68 [⟨gs, (), 6, spC (appS m x.f3).1, 53⟩, ⟨gd, (), 6, rpC (rappS d x.f3).1, 51⟩, ⟨g22_2, (), 4, lsc [.i .i64 x.f0, .i .i64 x.f1, .i .i64 x.f2, .s x.f3], 49⟩] := hH
          clear hS hH HS26 HH26
          refine inBlock_normal ?_
          refine then_ ?_
          have hS69 : Sl _ 170 [(20, .bool false), (0, .string (b)), (1, .slice (al0) (len0) (cap0)), (17, .bool false), (5, .pointer (some ⟨gs, 0, none⟩)), (6, .pointer (some ⟨gd, 0, none⟩)), (25, .slice (al0) (len0) (cap0)), (26, .int .i64 ((len0 : Int))), (27, .int .i64 ((i : Int))), (28, .bool true), (9, .int .i64 ((appS m x.f3).2)), (10, .int .i64 ((rappS d x.f3).2))] := sl_keep HS68 [0, 1, 2, 3, 4, 5, 6, 7, 8, 9, 13, 14] (by rfl)
          have hH69 : Held ⟨wq0, [gs, gd]⟩ _ [⟨gs, (), 6, spC (appS m x.f3).1, 53⟩, ⟨gd, (), 6, rpC (rappS d x.f3).1, 51⟩] := held_keep HH68 2 rfl
          have hBj := bel_over hBq hH69.1 hBq.size (allLe2 (by omega) (by omega))
          rw [← (app_sim hsim hoka x.f3).2.2] at hS69
          exact ⟨(appS m x.f3).1, (rappS d x.f3).1, (appS m x.f3).2, ⟨(app_sim hsim hoka x.f3).1, (app_sim hsim hoka x.f3).2.1⟩, hBj, hS69, hH69.anew⟩
      · skip
        clear HS23 HH23
        rintro aj24 wj24 ⟨m2, d2, ce, hq, hBj, HSj24, HHj24⟩
        refine wp_seq ?_
        have hLo : LOk [(0, 96, .val (.int .i64 (ce))), (1, 97, .val (.int .i64 (ce))), (2, 98, .val (.bool false)), (3, 99, .val (.bool false)), (4, 100, .val (.pointer (some ⟨gs, 0, none⟩))), (5, 101, .val (.string ((m2).al))), (6, 102, .val (.pointer (some ⟨gd, 0, none⟩))), (7, 103, .val (.pointer (some ⟨gd, 0, none⟩))), (8, 104, .val (.pointer (some ⟨gd, 0, none⟩))), (9, 105, .val (.string ((d2).safe))), (10, 106, .val (.pointer (some ⟨gd, 0, none⟩))), (11, 107, .val (.pointer (some ⟨gd, 0, none⟩))), (12, 108, .val (.pointer (some ⟨gd, 1, none⟩))), (13, 109, .val (.string ((d2).waits))), (14, 110, .val (.string (((d2).safe) ++ ((d2).waits)))), (15, 111, .val (.bool false)), (16, 112, .val (.bool false)), (17, 113, .val (.bool false)), (18, 114, .val (.pointer (some ⟨gs, 0, none⟩))), (19, 115, .val (.int .i64 ((((m2).acts : Nat) : Int)))), (20, 116, .val (.pointer (some ⟨gd, 0, none⟩))), (21, 117, .val (.pointer (some ⟨gd, 0, none⟩))), (22, 118, .val (.pointer (some ⟨gd, 3, none⟩))), (23, 119, .val (.int .i64 ((((d2).acts : Nat) : Int)))), (24, 120, .val (.bool false)), (25, 121, .val (.bool false)), (26, 122, .val (.bool false)), (27, 123, .val (.pointer (some ⟨gs, 0, none⟩))), (28, 124, .val (.bool (m2).off)), (29, 125, .val (.pointer (some ⟨gd, 0, none⟩))), (30, 126, .val (.pointer (some ⟨gd, 0, none⟩))), (31, 127, .val (.pointer (some ⟨gd, 2, none⟩))), (32, 128, .val (.bool (d2).power)), (33, 129, .val (.bool false)), (34, 130, .val (.bool false))] := lok (by rfl) (by rfl)
        refine region_ (wE := ⟨wj24, [gs, gd]⟩) (sz := 170) (n := 35) (B := [0, 0, 3, 7, 15, 31, 15, 79, 207, 463, 15, 1039, 3087, 7183, 16335, 32767, 65535, 131071, 262143, 524287, 262143, 1310719, 3407871, 7602175, 16777215, 33554431, 67108863, 134217727, 268435455, 134217727, 671088639, 1744830463, 3892314111, 8589934591, 17179869183]) [0, 1, 2, 3, 4, 5, 6, 7, 8, 9, 10, 11, 12, 13, 14, 15, 16, 17, 18, 19, 20, 21, 22, 23, 24, 25, 26, 27, 28, 29, 30, 31, 32, 33, 34] [(20, .val (.bool false)), (0, .val (.string (b))), (1, .val (.slice (al0) (len0) (cap0))), (17, .val (.bool false)), (5, .val (.pointer (some ⟨gs, 0, none⟩))), (6, .val (.pointer (some ⟨gd, 0, none⟩))), (25, .val (.slice (al0) (len0) (cap0))), (26, .val (.int .i64 ((len0 : Int)))), (27, .val (.int .i64 ((i : Int)))), (28, .val (.bool true)), (9, .val (.int .i64 (ce))), (10, .val (.int .i64 (ce))), (130, .val (.bool false))] [(0, 96, .val (.int .i64 (ce))), (1, 97, .val (.int .i64 (ce))), (2, 98, .val (.bool false)), (3, 99, .val (.bool false)), (4, 100, .val (.pointer (some ⟨gs, 0, none⟩))), (5, 101, .val (.string ((m2).al))), (6, 102, .val (.pointer (some ⟨gd, 0, none⟩))), (7, 103, .val (.pointer (some ⟨gd, 0, none⟩))), (8, 104, .val (.pointer (some ⟨gd, 0, none⟩))), (9, 105, .val (.string ((d2).safe))), (10, 106, .val (.pointer (some ⟨gd, 0, none⟩))), (11, 107, .val (.pointer (some ⟨gd, 0, none⟩))), (12, 108, .val (.pointer (some ⟨gd, 1, none⟩))), (13, 109, .val (.string ((d2).waits))), (14, 110, .val (.string (((d2).safe) ++ ((d2).waits)))), (15, 111, .val (.bool false)), (16, 112, .val (.bool false)), (17, 113, .val (.bool false)), (18, 114, .val (.pointer (some ⟨gs, 0, none⟩))), (19, 115, .val (.int .i64 ((((m2).acts : Nat) : Int)))), (20, 116, .val (.pointer (some ⟨gd, 0, none⟩))), (21, 117, .val (.pointer (some ⟨gd, 0, none⟩))), (22, 118, .val (.pointer (some ⟨gd, 3, none⟩))), (23, 119, .val (.int .i64 ((((d2).acts : Nat) : Int)))), (24, 120, .val (.bool false)), (25, 121, .val (.bool false)), (26, 122, .val (.bool false)), (27, 123, .val (.pointer (some ⟨gs, 0, none⟩))), (28, 124, .val (.bool (m2).off)), (29, 125, .val (.pointer (some ⟨gd, 0, none⟩))), (30, 126, .val (.pointer (some ⟨gd, 0, none⟩))), (31, 127, .val (.pointer (some ⟨gd, 2, none⟩))), (32, 128, .val (.bool (d2).power)), (33, 129, .val (.bool false)), (34, 130, .val (.bool false))] [⟨gs, none, none, (), 6, spC m2, spC m2, 53⟩, ⟨gd, none, none, (), 6, rpC d2, rpC d2, 51⟩] (by rfl) rfl tabxn30 bitsxn30 (by kernel_rfl) (by kernel_rfl) HHj24 rfl rfl hLo rfl HSj24 (slS 0 rfl rfl (slS 1 rfl rfl (slS 2 rfl rfl (slS 3 rfl rfl (slS 4 rfl rfl (slS 5 rfl rfl (slS 6 rfl rfl (slS 7 rfl rfl (slS 8 rfl rfl (slS 9 rfl rfl (slS 10 rfl rfl (slS 11 rfl rfl (slL 34 (d := 34) rfl (trivial)))))))))))))) ?_ ?_
        · show ∀ i ∈ [0, 1, 2, 3, 4, 5, 6, 7, 8, 9, 10, 11, 12, 13, 14, 15, 16, 17, 18, 19, 20, 21, 22, 23, 24, 25, 26, 27, 28, 29, 30, 31, 32, 33, 34], _
          refine steps_cons (st_run 0 _ rfl rfl hLo rfl rfl (fun _ _ _ _ => rfl) (fun b G w hb ho => exec_move (.inl rfl) (ev_off rfl (HSj24.get 10 rfl)))) ?_
          refine steps_cons (st_run 1 _ rfl rfl hLo rfl rfl (fun _ _ _ _ => rfl) (fun b G w hb ho => exec_move (.inl rfl) (ev_off rfl (HSj24.get 11 rfl)))) ?_
          refine steps_cons (st_run 2 _ rfl rfl hLo rfl rfl (fun _ _ _ _ => rfl) (fun b G w hb ho => exec_bin rfl (ev_on hLo 0 rfl HSj24.1 rfl (hb 0 (by rfl))) (ev_on hLo 1 rfl HSj24.1 rfl (hb 1 (by rfl))) (rb_neq (int_eq rfl) _ _ _))) ?_
          refine steps_cons (st_run 3 _ rfl rfl hLo rfl rfl (fun _ _ _ _ => rfl) (fun b G w hb ho => exec_move (.inl rfl) (ev_on hLo 2 rfl HSj24.1 rfl (hb 2 (by rfl))))) ?_
          refine steps_cons (st_run 4 _ rfl rfl hLo rfl rfl (fun b G hb ho => wanted_is rfl rfl rfl HSj24.1 rfl (ev_on hLo 3 rfl HSj24.1 rfl (hb 3 (by rfl))) rfl) (fun b G w hb ho => exec_move (.inl rfl) (ev_off rfl (HSj24.get 4 rfl)))) ?_
          refine steps_cons (st_callRB 5 0 _ _ (fun G => #[.pointer (some ⟨gs, 0, none⟩)]) rfl rfl rfl rfl (fun b G hb ho => wanted_is rfl rfl rfl HSj24.1 rfl (ev_on hLo 3 rfl HSj24.1 rfl (hb 3 (by rfl))) rfl) hLo rfl rfl (by rfl) (by rfl) Try.func13 rfl rfl (fun b G hb ho => args1 (ev_on hLo 4 rfl HSj24.1 rfl (hb 4 (by rfl)))) (fun G w hw hr => bytes_calls hr)) ?_
          refine steps_cons (st_run 6 _ rfl rfl hLo rfl rfl (fun b G hb ho => wanted_is rfl rfl rfl HSj24.1 rfl (ev_on hLo 3 rfl HSj24.1 rfl (hb 3 (by rfl))) rfl) (fun b G w hb ho => exec_move (.inl rfl) (ev_off rfl (HSj24.get 5 rfl)))) ?_
          refine steps_cons (st_run 7 _ rfl rfl hLo rfl rfl (fun b G hb ho => wanted_is rfl rfl rfl HSj24.1 rfl (ev_on hLo 3 rfl HSj24.1 rfl (hb 3 (by rfl))) rfl) (fun b G w hb ho => exec_nil rfl (ev_on hLo 6 rfl HSj24.1 rfl (hb 6 (by rfl))))) ?_
          refine steps_cons (st_run 8 _ rfl rfl hLo rfl rfl (fun b G hb ho => wanted_is rfl rfl rfl HSj24.1 rfl (ev_on hLo 3 rfl HSj24.1 rfl (hb 3 (by rfl))) rfl) (fun b G w hb ho => exec_field rfl (ev_on hLo 7 rfl HSj24.1 rfl (hb 7 (by rfl))) (by kernel_rfl))) ?_
          refine steps_cons (st_read 9 1 _ _ rfl rfl rfl hLo rfl rfl (fun b G hb ho => wanted_is rfl rfl rfl HSj24.1 rfl (ev_on hLo 3 rfl HSj24.1 rfl (hb 3 (by rfl))) rfl) (by rfl) (by rfl) (fun b G w hb ho hr => exec_cell hr (Nat.le_of_ble_eq_true rfl) Try.underlying9 rfl rfl (ev_on hLo 8 rfl HSj24.1 rfl (hb 8 (by rfl))))) ?_
          refine steps_cons (st_run 10 _ rfl rfl hLo rfl rfl (fun b G hb ho => wanted_is rfl rfl rfl HSj24.1 rfl (ev_on hLo 3 rfl HSj24.1 rfl (hb 3 (by rfl))) rfl) (fun b G w hb ho => exec_move (.inl rfl) (ev_off rfl (HSj24.get 5 rfl)))) ?_
          refine steps_cons (st_run 11 _ rfl rfl hLo rfl rfl (fun b G hb ho => wanted_is rfl rfl rfl HSj24.1 rfl (ev_on hLo 3 rfl HSj24.1 rfl (hb 3 (by rfl))) rfl) (fun b G w hb ho => exec_nil rfl (ev_on hLo 10 rfl HSj24.1 rfl (hb 10 (by rfl))))) ?_
          refine steps_cons (st_run 12 _ rfl rfl hLo rfl rfl (fun b G hb ho => wanted_is rfl rfl rfl HSj24.1 rfl (ev_on hLo 3 rfl HSj24.1 rfl (hb 3 (by rfl))) rfl) (fun b G w hb ho => exec_field rfl (ev_on hLo 11 rfl HSj24.1 rfl (hb 11 (by rfl))) (by kernel_rfl))) ?_
          refine steps_cons (st_read 13 1 _ _ rfl rfl rfl hLo rfl rfl (fun b G hb ho => wanted_is rfl rfl rfl HSj24.1 rfl (ev_on hLo 3 rfl HSj24.1 rfl (hb 3 (by rfl))) rfl) (by rfl) (by rfl) (fun b G w hb ho hr => exec_cell hr (Nat.le_of_ble_eq_true rfl) Try.underlying9 rfl rfl (ev_on hLo 12 rfl HSj24.1 rfl (hb 12 (by rfl))))) ?_
          refine steps_cons (st_run 14 _ rfl rfl hLo rfl rfl (fun b G hb ho => wanted_is rfl rfl rfl HSj24.1 rfl (ev_on hLo 3 rfl HSj24.1 rfl (hb 3 (by rfl))) rfl) (fun b G w hb ho => exec_bin rfl (ev_on hLo 9 rfl HSj24.1 rfl (hb 9 (by rfl))) (ev_on hLo 13 rfl HSj24.1 rfl (hb 13 (by rfl))) (rb_sadd (by have h1 := hq.1.sizes; have h2 := hq.2.q_al; omega) _ _ _))) ?_
          refine steps_cons (st_run 15 _ rfl rfl hLo rfl rfl (fun b G hb ho => wanted_is rfl rfl rfl HSj24.1 rfl (ev_on hLo 3 rfl HSj24.1 rfl (hb 3 (by rfl))) rfl) (fun b G w hb ho => exec_bin rfl (ev_on hLo 5 rfl HSj24.1 rfl (hb 5 (by rfl))) (ev_on hLo 14 rfl HSj24.1 rfl (hb 14 (by rfl))) (rb_sneq (al_eq hq.1) _ _ _))) ?_
          refine steps_cons (st_run 16 _ rfl rfl hLo rfl rfl (fun _ _ _ _ => rfl) (fun b G w hb ho => exec_pick rfl (ev_on hLo 3 rfl HSj24.1 rfl (hb 3 (by rfl))) (ev_on hLo 15 rfl HSj24.1 rfl (hb 15 (by rfl))))) ?_
          refine steps_cons (st_run 17 _ rfl rfl hLo rfl rfl (fun _ _ _ _ => rfl) (fun b G w hb ho => exec_move (.inl rfl) (ev_on hLo 16 rfl HSj24.1 rfl (hb 16 (by rfl))))) ?_
          refine steps_cons (st_run 18 _ rfl rfl hLo rfl rfl (fun b G hb ho => wanted_is rfl rfl rfl HSj24.1 rfl (ev_on hLo 17 rfl HSj24.1 rfl (hb 17 (by rfl))) rfl) (fun b G w hb ho => exec_move (.inl rfl) (ev_off rfl (HSj24.get 4 rfl)))) ?_
          refine steps_cons (st_callRB 19 0 _ _ (fun G => #[.pointer (some ⟨gs, 0, none⟩)]) rfl rfl rfl rfl (fun b G hb ho => wanted_is rfl rfl rfl HSj24.1 rfl (ev_on hLo 17 rfl HSj24.1 rfl (hb 17 (by rfl))) rfl) hLo rfl rfl (by rfl) (by rfl) Try.func14 rfl rfl (fun b G hb ho => args1 (ev_on hLo 18 rfl HSj24.1 rfl (hb 18 (by rfl)))) (fun G w hw hr => acts_calls hr)) ?_
          refine steps_cons (st_run 20 _ rfl rfl hLo rfl rfl (fun b G hb ho => wanted_is rfl rfl rfl HSj24.1 rfl (ev_on hLo 17 rfl HSj24.1 rfl (hb 17 (by rfl))) rfl) (fun b G w hb ho => exec_move (.inl rfl) (ev_off rfl (HSj24.get 5 rfl)))) ?_
          refine steps_cons (st_run 21 _ rfl rfl hLo rfl rfl (fun b G hb ho => wanted_is rfl rfl rfl HSj24.1 rfl (ev_on hLo 17 rfl HSj24.1 rfl (hb 17 (by rfl))) rfl) (fun b G w hb ho => exec_nil rfl (ev_on hLo 20 rfl HSj24.1 rfl (hb 20 (by rfl))))) ?_
          refine steps_cons (st_run 22 _ rfl rfl hLo rfl rfl (fun b G hb ho => wanted_is rfl rfl rfl HSj24.1 rfl (ev_on hLo 17 rfl HSj24.1 rfl (hb 17 (by rfl))) rfl) (fun b G w hb ho => exec_field rfl (ev_on hLo 21 rfl HSj24.1 rfl (hb 21 (by rfl))) (by kernel_rfl))) ?_
          refine steps_cons (st_read 23 1 _ _ rfl rfl rfl hLo rfl rfl (fun b G hb ho => wanted_is rfl rfl rfl HSj24.1 rfl (ev_on hLo 17 rfl HSj24.1 rfl (hb 17 (by rfl))) rfl) (by rfl) (by rfl) (fun b G w hb ho hr => exec_cell hr (Nat.le_of_ble_eq_true rfl) Try.underlying3 rfl rfl (ev_on hLo 22 rfl HSj24.1 rfl (hb 22 (by rfl))))) ?_
          refine steps_cons (st_run 24 _ rfl rfl hLo rfl rfl (fun b G hb ho => wanted_is rfl rfl rfl HSj24.1 rfl (ev_on hLo 17 rfl HSj24.1 rfl (hb 17 (by rfl))) rfl) (fun b G w hb ho => exec_bin rfl (ev_on hLo 19 rfl HSj24.1 rfl (hb 19 (by rfl))) (ev_on hLo 23 rfl HSj24.1 rfl (hb 23 (by rfl))) (rb_neq (acts_eq hq.1) _ _ _))) ?_
          refine steps_cons (st_run 25 _ rfl rfl hLo rfl rfl (fun _ _ _ _ => rfl) (fun b G w hb ho => exec_pick rfl (ev_on hLo 17 rfl HSj24.1 rfl (hb 17 (by rfl))) (ev_on hLo 24 rfl HSj24.1 rfl (hb 24 (by rfl))))) ?_
          refine steps_cons (st_run 26 _ rfl rfl hLo rfl rfl (fun _ _ _ _ => rfl) (fun b G w hb ho => exec_move (.inl rfl) (ev_on hLo 25 rfl HSj24.1 rfl (hb 25 (by rfl))))) ?_
          refine steps_cons (st_run 27 _ rfl rfl hLo rfl rfl (fun b G hb ho => wanted_is rfl rfl rfl HSj24.1 rfl (ev_on hLo 26 rfl HSj24.1 rfl (hb 26 (by rfl))) rfl) (fun b G w hb ho => exec_move (.inl rfl) (ev_off rfl (HSj24.get 4 rfl)))) ?_
          refine steps_cons (st_callRB 28 0 _ _ (fun G => #[.pointer (some ⟨gs, 0, none⟩)]) rfl rfl rfl rfl (fun b G hb ho => wanted_is rfl rfl rfl HSj24.1 rfl (ev_on hLo 26 rfl HSj24.1 rfl (hb 26 (by rfl))) rfl) hLo rfl rfl (by rfl) (by rfl) Try.func19 rfl rfl (fun b G hb ho => args1 (ev_on hLo 27 rfl HSj24.1 rfl (hb 27 (by rfl)))) (fun G w hw hr => down_calls hr)) ?_
          refine steps_cons (st_run 29 _ rfl rfl hLo rfl rfl (fun b G hb ho => wanted_is rfl rfl rfl HSj24.1 rfl (ev_on hLo 26 rfl HSj24.1 rfl (hb 26 (by rfl))) rfl) (fun b G w hb ho => exec_move (.inl rfl) (ev_off rfl (HSj24.get 5 rfl)))) ?_
          refine steps_cons (st_run 30 _ rfl rfl hLo rfl rfl (fun b G hb ho => wanted_is rfl rfl rfl HSj24.1 rfl (ev_on hLo 26 rfl HSj24.1 rfl (hb 26 (by rfl))) rfl) (fun b G w hb ho => exec_nil rfl (ev_on hLo 29 rfl HSj24.1 rfl (hb 29 (by rfl))))) ?_
          refine steps_cons (st_run 31 _ rfl rfl hLo rfl rfl (fun b G hb ho => wanted_is rfl rfl rfl HSj24.1 rfl (ev_on hLo 26 rfl HSj24.1 rfl (hb 26 (by rfl))) rfl) (fun b G w hb ho => exec_field rfl (ev_on hLo 30 rfl HSj24.1 rfl (hb 30 (by rfl))) (by kernel_rfl))) ?_
          refine steps_cons (st_read 32 1 _ _ rfl rfl rfl hLo rfl rfl (fun b G hb ho => wanted_is rfl rfl rfl HSj24.1 rfl (ev_on hLo 26 rfl HSj24.1 rfl (hb 26 (by rfl))) rfl) (by rfl) (by rfl) (fun b G w hb ho hr => exec_cell hr (Nat.le_of_ble_eq_true rfl) Try.underlying4 rfl rfl (ev_on hLo 31 rfl HSj24.1 rfl (hb 31 (by rfl))))) ?_
          refine steps_cons (st_run 33 _ rfl rfl hLo rfl rfl (fun b G hb ho => wanted_is rfl rfl rfl HSj24.1 rfl (ev_on hLo 26 rfl HSj24.1 rfl (hb 26 (by rfl))) rfl) (fun b G w hb ho => exec_bin rfl (ev_on hLo 28 rfl HSj24.1 rfl (hb 28 (by rfl))) (ev_on hLo 32 rfl HSj24.1 rfl (hb 32 (by rfl))) (rb_beql Try.underlying4 (off_eq hq.1) _ _ _))) ?_
          refine steps_cons (st_run 34 _ rfl rfl hLo rfl rfl (fun _ _ _ _ => rfl) (fun b G w hb ho => exec_pick rfl (ev_on hLo 26 rfl HSj24.1 rfl (hb 26 (by rfl))) (ev_on hLo 33 rfl HSj24.1 rfl (hb 33 (by rfl))))) ?_
          exact steps_nil
        clear hLo
        intro G a71 w71 hS hH
        have HS71 : Sl a71 170 [(20, .bool false), (0, .string (b)), (1, .slice (al0) (len0) (cap0)), (17, .bool false), (5, .pointer (some ⟨gs, 0, none⟩)), (6, .pointer (some ⟨gd, 0, none⟩)), (25, .slice (al0) (len0) (cap0)), (26, .int .i64 ((len0 : Int))), (27, .int .i64 ((i : Int))), (28, .bool true), (9, .int .i64 (ce)), (10, .int .i64 (ce)), (130, .bool false)] := hS
        have HH71 : Held ⟨wj24, [gs, gd]⟩ w71 [⟨gs, (), 6, spC m2, 53⟩, ⟨gd, (), 6, rpC d2, 51⟩] := hH
        clear hS hH HSj24 HHj24
        refine then_ ?_
        refine wp_cond_false (HS71.get 12 rfl) ?_
        refine wp_skip ?_
        refine inBlock_normal ?_
        refine then_ ?_
        have hLo : LOk [(0, 131, .val (.int .i64 (((i + 1 : Nat) : Int)))), (1, 27, .val (.int .i64 (((i + 1 : Nat) : Int))))] := lok (by rfl) (by rfl)
        refine plain_ (wE := ⟨wj24, [gs, gd]⟩) (sz := 170) (n := 2) [0, 1] [(20, .val (.bool false)), (0, .val (.string (b))), (1, .val (.slice (al0) (len0) (cap0))), (17, .val (.bool false)), (5, .val (.pointer (some ⟨gs, 0, none⟩))), (6, .val (.pointer (some ⟨gd, 0, none⟩))), (25, .val (.slice (al0) (len0) (cap0))), (26, .val (.int .i64 ((len0 : Int)))), (28, .val (.bool true)), (9, .val (.int .i64 (ce))), (10, .val (.int .i64 (ce))), (130, .val (.bool false)), (27, .val (.int .i64 (((i + 1 : Nat) : Int))))] [(0, 131, .val (.int .i64 (((i + 1 : Nat) : Int)))), (1, 27, .val (.int .i64 (((i + 1 : Nat) : Int))))] [⟨gs, none, none, (), 6, spC m2, spC m2, 53⟩, ⟨gd, none, none, (), 6, rpC d2, rpC d2, 51⟩] rfl (by rfl) HH71 rfl rfl hLo rfl HS71 (slS 0 rfl rfl (slS 1 rfl rfl (slS 2 rfl rfl (slS 3 rfl rfl (slS 4 rfl rfl (slS 5 rfl rfl (slS 6 rfl rfl (slS 7 rfl rfl (slS 9 rfl rfl (slS 10 rfl rfl (slS 11 rfl rfl (slS 12 rfl rfl (slL 1 (d := 1) rfl (trivial)))))))))))))) ?_ ?_
        · show ∀ i ∈ [0, 1], _
          refine steps_cons (st_run 0 _ rfl rfl hLo rfl rfl (fun _ _ _ _ => rfl) (fun b G w hb ho => exec_bin rfl (ev_pre hLo 1 rfl (ho 1 (by rfl)) (HS71.get 8 rfl)) (rfl) (rb_add (w_nat (by omega) (by omega)) _ _ _))) ?_
          refine steps_cons (st_run 1 _ rfl rfl hLo rfl rfl (fun _ _ _ _ => rfl) (fun b G w hb ho => exec_move (.inl rfl) (ev_on hLo 0 rfl HS71.1 rfl (hb 0 (by rfl))))) ?_
          exact steps_nil
        clear hLo
        intro G a72 w72 hS hH
        have HS72 : Sl a72 170 [(20, .bool false), (0, .string (b)), (1, .slice (al0) (len0) (cap0)), (17, .bool false), (5, .pointer (some ⟨gs, 0, none⟩)), (6, .pointer (some ⟨gd, 0, none⟩)), (25, .slice (al0) (len0) (cap0)), (26, .int .i64 ((len0 : Int))), (28, .bool true), (9, .int .i64 (ce)), (10, .int .i64 (ce)), (130, .bool false), (27, .int .i64 (((i + 1 : Nat) : Int)))] := hS
        have HH72 : Held ⟨wj24, [gs, gd]⟩ w72 [⟨gs, (), 6, spC m2, 53⟩, ⟨gd, (), 6, rpC d2, 51⟩] := hH
        clear hS hH HS71 HH71
        refine then_ ?_
        have hSq0' : Sl _ 170 [(20, .bool false), (0, .string (b)), (1, .slice (al0) (len0) (cap0)), (17, .bool false), (5, .pointer (some ⟨gs, 0, none⟩)), (6, .pointer (some ⟨gd, 0, none⟩)), (25, .slice (al0) (len0) (cap0)), (26, .int .i64 ((len0 : Int))), (27, .int .i64 (((i + 1 : Nat) : Int)))] := sl_keep HS72 [0, 1, 2, 3, 4, 5, 6, 7, 12] (by rfl)
        have hHq0' : Held ⟨wj24, [gs, gd]⟩ _ [⟨gs, (), 6, spC m2, 53⟩, ⟨gd, (), 6, rpC d2, 51⟩] := held_keep HH72 2 rfl
        have hBn := bel_over hBj hHq0'.1 hBj.size (allLe2 (by omega) (by omega))
        exact ⟨⟨i + 1, m2, d2, by omega, hq.1, hq.2, hBn, hSq0', hHq0'.anew⟩, by rw [(hSq0'.get 8 rfl)]; show len0 - (((i + 1 : Nat) : Int)).toNat < len0 - i; omega⟩
  · skip
    refine wp_cond_true (HS5.get 0 rfl) ?_
    refine wp_seq ?_
    have hLo : LOk [(0, 4, .val (.bool true))] := lok (by rfl) (by rfl)
    refine plain_ (wE := ⟨w, []⟩) (sz := 170) (n := 1) [0] [(20, .val (.bool true)), (0, .val (.string (b))), (1, .val (.slice (al0) (len0) (cap0))), (17, .val (.bool false)), (4, .val (.bool true))] [(0, 4, .val (.bool true))] [] rfl (by rfl) HH5 rfl rfl hLo rfl HS5 (slS 0 rfl rfl (slS 1 rfl rfl (slS 2 rfl rfl (slS 4 rfl rfl (slL 0 (d := 0) rfl (trivial)))))) ?_ ?_
    · show ∀ i ∈ [0], _
      refine steps_cons (st_run 0 _ rfl rfl hLo rfl rfl (fun _ _ _ _ => rfl) (fun b G w hb ho => exec_move (.inr rfl) (rfl))) ?_
      exact steps_nil
    clear hLo
    intro G a73 w73 hS hH
    have HS73 : Sl a73 170 [(20, .bool true), (0, .string (b)), (1, .slice (al0) (len0) (cap0)), (17, .bool false), (4, .bool true)] := hS
    have HH73 : Held ⟨w, []⟩ w73 [] := hH
    clear hS hH HS5 HH5
    refine then_ ?_
    refine wp_ret ?_
    repeat (first | refine then_ret ?_ | refine inBlock_ret' ?_)
    exact b_tmp rfl HS73.2.1 (HS73.get 4 rfl) ⟨rfl, bel_over hB HH73.1 hB.size (fun x hx => by cases hx)⟩
end Go.Proofs.Ytdleomeiojlooaa.P
end
