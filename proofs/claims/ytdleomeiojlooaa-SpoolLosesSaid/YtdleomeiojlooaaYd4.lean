/- Merged of the texts: Xq, WSized (trim.py). -/
import Derived.SizedLaws
import Derived.ChangeSlices
import Derived.Test.YtdleomeiojlooaaYd3
section
namespace Go.Proofs.Ytdleomeiojlooaa.P
set_option linter.unusedVariables false
set_option linter.unusedSimpArgs false
open Go.RowKit Go.ChangeShapes Go.WideShapes Go.Proofs.YtdleomeiojlooaaW.PrintWords Go.Proofs.YtdleomeiojlooaaW.PrintLast Go.Proofs.YtdleomeiojlooaaW.PrintMore Go.Proofs.Ytdleomeiojlooaa.L
theorem seq_join {P : Program} {Q : Exit → Act → World → Prop} {x y : Code} {a : Act} {w : World} (I : Act → World → Prop) (h1 : x.wp P (Exit.then I Q) a w) (h2 : ∀ a w, I a w → y.wp P Q a w) : (Code.seq x y).wp P Q a w :=
  wp_seq (wp_mono h1 fun e a' w' h => by
    cases e with
    | normal => exact h2 a' w' h
    | _ => exact h)
theorem noN_take {x : ByteArray} (h : NoN x) (n : Nat) : NoN (x.extract 0 n) := fun b hb => h b (by rw [bl_extract, List.drop_zero] at hb; exact List.mem_of_mem_take hb)
theorem catR_cons (x : ByteArray) (r : List ByteArray) : catR (x :: r) = lineS x ++ catR r := rfl
theorem cuts_take : ∀ (l : List ByteArray) (N : Nat), N ≤ (catR l).size → ∃ k tl, k ≤ l.length ∧ Cuts ((catR l).extract 0 N) ((l.take k).map enR) tl ∧ ∀ j, j ≤ l.length → (catR (l.take j)).size ≤ N → j ≤ k
  | [], N, h => ⟨0, (catR []).extract 0 N, Nat.le_refl _, ⟨(ByteArray.empty_append ..).symm, (fun x hx => by cases hx), noN_take (fun b hb => by cases hb) N⟩, fun j hj _ => hj⟩
  | x :: r, N, h => by
    have hz : (lineS x).size = (enR x).size + 1 := by rw [lineS_eq, ByteArray.size_append]; rfl
    by_cases hN : N < (lineS x).size
    · refine ⟨0, (enR x).extract 0 N, Nat.zero_le _, ⟨?_, (fun y hy => by cases hy), noN_take (enR_no x) N⟩, fun j hj hs => ?_⟩
      · show _ = ByteArray.empty ++ _
        rw [ByteArray.empty_append, catR_cons, ext_low _ _ _ (by omega), lineS_eq, ext_low _ _ _ (by omega)]
      · cases j with
        | zero => exact Nat.le_refl _
        | succ j =>
          rw [List.take_succ_cons, catR_cons, ByteArray.size_append] at hs
          omega
    · rw [catR_cons, ByteArray.size_append] at h
      obtain ⟨k, tl, h1, h2, h3⟩ := cuts_take r (N - (lineS x).size) (by omega)
      refine ⟨k + 1, tl, Nat.succ_le_succ h1, ⟨?_, ?_, h2.tail⟩, fun j hj hs => ?_⟩
      · rw [catR_cons, show N = (lineS x).size + (N - (lineS x).size) by omega, ext_mid, h2.eq, List.take_succ_cons, List.map_cons]
        show lineS x ++ (cat ((r.take k).map enR) ++ tl) = enR x ++ nl ++ cat ((r.take k).map enR) ++ tl
        rw [lineS_eq, ByteArray.append_assoc, ByteArray.append_assoc]
        simp only [ByteArray.append_assoc]
      · intro y hy
        obtain ⟨z, _, rfl⟩ := List.mem_map.1 hy
        exact enR_no z
      · cases j with
        | zero => exact Nat.zero_le _
        | succ j =>
          rw [List.take_succ_cons, catR_cons, ByteArray.size_append] at hs
          have := h3 j (by simp at hj; omega) (by omega)
          omega
structure LostI (l0 : List ByteArray) (kk : Int) (su mk : Nat) (m : Sp) : Prop where
  u_ok : OKa 1000 m
  u_su : su ≤ mk
  u_mk : mk ≤ l0.length
  u_in : (offS m kk).inn = 0
  u_al : ∃ N, (offS m kk).al = (catR (l0.take mk)).extract 0 N ∧ N ≤ (catR (l0.take mk)).size ∧ (catR (l0.take su)).size ≤ N
section
variable {l0 : List ByteArray} {kk : Int} {su mk : Nat} {m : Sp}
theorem lost_on {sy ac inn : Nat} (hsu : su ≤ mk) (hmk : mk ≤ l0.length) (hs : (catR (l0.take su)).size ≤ sy) (hy : sy ≤ (catR (l0.take mk)).size) (hz : (catR (l0.take mk)).size ≤ 4194304) (hac : ac ≤ 1000) (hin : inn < 9223372036854775808) : LostI l0 kk su mk ⟨catR (l0.take mk), sy, false, ac, inn, kk⟩ := by
  have hk := kp_le kk ((catR (l0.take mk)).size - sy)
  exact ⟨⟨hy, hz, hac, hin⟩, hsu, hmk, rfl, sy + kp kk ((catR (l0.take mk)).size - sy), rfl, by omega, by omega⟩
theorem lost_off {sy ac : Nat} (hsu : su ≤ mk) (hmk : mk ≤ l0.length) (hs : (catR (l0.take su)).size ≤ sy) (hy : sy ≤ (catR (l0.take mk)).size) (hz : (catR (l0.take mk)).size ≤ 4194304) (hac : ac ≤ 1000) : LostI l0 kk su mk ⟨(catR (l0.take mk)).extract 0 (sy + kp kk ((catR (l0.take mk)).size - sy)), sy + kp kk ((catR (l0.take mk)).size - sy), true, ac, 0, kk⟩ := by
  have hk := kp_le kk ((catR (l0.take mk)).size - sy)
  have he := ext_size (catR (l0.take mk)) (sy + kp kk ((catR (l0.take mk)).size - sy)) (by omega)
  exact ⟨⟨Nat.le_of_eq he.symm, by show ((catR (l0.take mk)).extract 0 _).size ≤ _; rw [he]; omega, hac, by show (0 : Nat) < 9223372036854775808; omega⟩, hsu, hmk, rfl, _, rfl, by omega, by omega⟩
theorem off_okS (h : OKa 1000 m) : OKa 1000 (onS (offS m kk)) := by
  obtain ⟨al, sy, off, acts, inn, keep⟩ := m
  cases off
  · have hk := kp_le kk (al.size - sy)
    have h1 : sy ≤ al.size := h.q_sy
    have h2 : al.size ≤ 4194304 := h.q_al
    have he := ext_size al (sy + kp kk (al.size - sy)) (by omega)
    exact ⟨Nat.le_of_eq he.symm, by show (al.extract 0 _).size ≤ _; rw [he]; omega, h.q_ac, by show (0 : Nat) < 9223372036854775808; omega⟩
  · exact ⟨h.q_sy, h.q_al, h.q_ac, h.q_in⟩
theorem LostI.cuts (h : LostI l0 kk su mk m) : ∃ k tl, su ≤ k ∧ k ≤ mk ∧ Cuts (onS (offS m kk)).al ((l0.take k).map enR) tl := by
  obtain ⟨N, h1, h2, h3⟩ := h.u_al
  obtain ⟨k, tl, g1, g2, g3⟩ := cuts_take (l0.take mk) N h2
  have hl : (l0.take mk).length = mk := by rw [List.length_take]; have := h.u_mk; omega
  have g4 := g3 su (by rw [hl]; exact h.u_su) (by rw [List.take_take, show min su mk = su by have := h.u_su; omega]; exact h3)
  rw [hl] at g1
  rw [List.take_take, show min k mk = k by omega] at g2
  exact ⟨k, tl, g4, g1, by show Cuts (offS m kk).al _ _; rw [h1]; exact g2⟩
end
theorem c_take {w : World} {a : Option Addr} {n k : Nat} {l : List ByteArray} (h : Kd.C Kd.string w a n l) (hk : k ≤ n) : Kd.C Kd.string w a k (l.take k) := by
  obtain ⟨h1, h2, h3⟩ := h
  refine ⟨by rw [List.length_take]; omega, by omega, fun h0 => ?_⟩
  obtain ⟨ad, he, hc⟩ := h3 (by omega)
  refine ⟨ad, he, fun j p hp => hc j p ?_⟩
  rw [List.getElem?_take] at hp
  split at hp
  · exact hp
  · cases hp
theorem b_cell {w : World} {a : Option Addr} {n i : Nat} {l : List Bool} {x : Bool} (h : Kd.C (Kd.scalar Value.bool (fun _ => rfl)) w a n l) (hx : l[i]? = some x) : ∃ ad, a = some ad ∧ w.cell? (ad.add (i * 1)) = some (.bool x) := by
  have hi := (List.getElem?_eq_some_iff.1 hx).1
  obtain ⟨ad, he, hc⟩ := h.2.2 (by have := h.1; omega)
  obtain ⟨c, h1, h2, h3⟩ := hc i x hx
  have h2 : c = [Value.bool x] := h2
  subst h2
  exact ⟨ad, he, by have := h3 0 _ rfl; exact this⟩
abbrev InB := InL (Kd.scalar Value.bool (fun _ => rfl)) (fun _ : Bool => True)
theorem rs_slh {P : Program} {t e : TypeId} {oa : Option Addr} {n c m h : Nat} (ht : P.underlying t = some (.slice e)) (hm : (P.info? e).map (·.size) = some m) (hh : h ≤ n) (hn : n ≤ c) (w : World) : (Instr.sliceAt t (.slice oa n c) none (some (.int .i64 (h : Int))) none).run P w = .ok (.slice oa h c) w := by
  have h0 : (0 : Int) ≤ 0 := by omega
  have h1 : (0 : Int) ≤ (h : Int) := by omega
  have h2 : (h : Int) ≤ (c : Int) := by omega
  obtain ⟨ie, hie, hs⟩ : ∃ ie, P.info? e = some ie ∧ ie.size = m := by
    cases he : P.info? e with
    | none => rw [he] at hm; cases hm
    | some ie => rw [he] at hm; exact ⟨ie, rfl, Option.some.inj hm⟩
  have hti : (typeInfo e).run P w = .ok ie w := by simp [typeInfo, hie]
  have hz : (Go.sizeOf e).run P w = .ok m w := by simp [Go.sizeOf, hti, hs]
  cases oa with
  | none => go_simp
  | some x => obtain ⟨g, o, sp⟩ := x; go_simp
section
variable {w : World} {g : Nat} {m : Sp}
theorem app_ok (hof : m.off = false) (hin : m.inn = 0) {r : ByteArray} (hs : r.size ≤ 1073741824) (hz : encLen r.size + m.al.size < 4194304) (hac : m.acts ≤ 1000000) (hr : Row w g () 6 (spC m) 53) : Calls Try.prog 16 #[.pointer (some ⟨g, 0, none⟩), .string r] w fun e w' => e = .returned (.int .i64 0) ∧ Row w' g () 6 (spC ⟨m.al ++ lineS r, m.sy, false, m.acts + 1, 0, m.keep⟩) 53 ∧ Fr ⟨w, [g]⟩ w' := by
  obtain ⟨al, sy, off, acts, inn, keep⟩ := m
  dsimp only at hof hin
  subst hof; subst hin
  exact app_stays hr hs hz hac (by decide) (by decide)
theorem sync_ok {al : ByteArray} {sy acts : Nat} {keep : Int} (hac : acts ≤ 1000000) (hr : Row w g () 6 (spC ⟨al, sy, false, acts, 0, keep⟩) 53) : Calls Try.prog 17 #[.pointer (some ⟨g, 0, none⟩)] w fun e w' => e = .returned (.int .i64 0) ∧ Row w' g () 6 (spC ⟨al, al.size, false, acts + 1, 0, keep⟩) 53 ∧ Fr ⟨w, [g]⟩ w' :=
  sync_stays hr hac (by decide) (by decide)
end
set_option maxHeartbeats 4000000 in
theorem SpoolLoses_walk (al0 : Option Addr) (len0 cap0 : Nat) (l0 : List ByteArray) (al1 : Option Addr) (len1 cap1 : Nat) (l1 : List Bool) (nn kk : Int) (w : World) (hI : InS w al0 len0 cap0 l0) (hJ : InB w al1 len1 cap1 l1) (hn : (Lit.int .i64 nn).wf = true) (hk : (Lit.int .i64 kk).wf = true) : Calls Try.prog 6 #[.slice al0 len0 cap0, .slice al1 len1 cap1, .int .i64 nn, .int .i64 kk] w fun e w' => e = .returned (.bool true) ∧ Below w.heap.size w w' := by
  have hB := Below.refl w.heap.size w
  have hmax : len0 ≤ 140737488351232 := hI.z_max
  have hmax1 : len1 ≤ 140737488351232 := hJ.z_max
  have hln := hI.z_len
  have hnr := lit_range hn
  refine enter_ 129 Try.func6 rfl rfl (fun a0 hS => ?_)
  have HS0 : Sl a0 129 [(0, .slice (al0) (len0) (cap0)), (1, .slice (al1) (len1) (cap1)), (2, .int .i64 (nn)), (3, .int .i64 (kk))] := hS
  have HH0 : Held ⟨w, []⟩ w [] := Held.first w []
  clear hS
  refine wp_seq ?_
  have hLo : LOk [(0, 8, .val (.bool false))] := lok (by rfl) (by rfl)
  refine plain_ (wE := ⟨w, []⟩) (sz := 129) (n := 1) [0] [(0, .val (.slice (al0) (len0) (cap0))), (1, .val (.slice (al1) (len1) (cap1))), (2, .val (.int .i64 (nn))), (3, .val (.int .i64 (kk))), (8, .val (.bool false))] [(0, 8, .val (.bool false))] [] rfl (by rfl) HH0 rfl rfl hLo rfl HS0 (slS 0 rfl rfl (slS 1 rfl rfl (slS 2 rfl rfl (slS 3 rfl rfl (slL 0 (d := 0) rfl (trivial)))))) ?_ ?_
  · show ∀ i ∈ [0], _
    refine steps_cons (st_run 0 _ rfl rfl hLo rfl rfl (fun _ _ _ _ => rfl) (fun b G w hb ho => exec_move (.inr rfl) (rfl))) ?_
    exact steps_nil
  clear hLo
  intro G a1 w1 hS hH
  have HS1 : Sl a1 129 [(0, .slice (al0) (len0) (cap0)), (1, .slice (al1) (len1) (cap1)), (2, .int .i64 (nn)), (3, .int .i64 (kk)), (8, .bool false)] := hS
  have HH1 : Held ⟨w, []⟩ w1 [] := hH
  clear hS hH HS0 HH0
  refine then_ ?_
  refine wp_seq ?_
  refine wp_seq ?_
  have hLo : LOk [(0, 21, .val (.bool true)), (1, 22, .val (.bool false))] := lok (by rfl) (by rfl)
  refine plain_ (wE := ⟨w, []⟩) (sz := 129) (n := 2) [0, 1] [(0, .val (.slice (al0) (len0) (cap0))), (1, .val (.slice (al1) (len1) (cap1))), (2, .val (.int .i64 (nn))), (3, .val (.int .i64 (kk))), (8, .val (.bool false)), (22, .val (.bool false))] [(0, 21, .val (.bool true)), (1, 22, .val (.bool false))] [] rfl (by rfl) HH1 rfl rfl hLo rfl HS1 (slS 0 rfl rfl (slS 1 rfl rfl (slS 2 rfl rfl (slS 3 rfl rfl (slS 4 rfl rfl (slL 1 (d := 1) rfl (trivial))))))) ?_ ?_
  · show ∀ i ∈ [0, 1], _
    refine steps_cons (st_call 0 _ #[] rfl rfl rfl (fun _ _ _ _ => rfl) hLo rfl rfl Try.func8 rfl rfl (fun b G hb ho => args0 ) (fun w hw => alive_calls _)) ?_
    refine steps_cons (st_run 1 _ rfl rfl hLo rfl rfl (fun _ _ _ _ => rfl) (fun b G w hb ho => exec_un rfl (ev_on hLo 0 rfl HS1.1 rfl (hb 0 (by rfl))) (ru_not _))) ?_
    exact steps_nil
  clear hLo
  intro G a2 w2 hS hH
  have HS2 : Sl a2 129 [(0, .slice (al0) (len0) (cap0)), (1, .slice (al1) (len1) (cap1)), (2, .int .i64 (nn)), (3, .int .i64 (kk)), (8, .bool false), (22, .bool false)] := hS
  have HH2 : Held ⟨w, []⟩ w2 [] := hH
  clear hS hH HS1 HH1
  refine then_ ?_
  refine wp_cond_false (HS2.get 5 rfl) ?_
  refine wp_skip ?_
  refine then_ ?_
  refine wp_seq ?_
  have hLo : LOk [(0, 9, .val (.int .i64 (0)))] := lok (by rfl) (by rfl)
  refine plain_ (wE := ⟨w, []⟩) (sz := 129) (n := 1) [0] [(0, .val (.slice (al0) (len0) (cap0))), (1, .val (.slice (al1) (len1) (cap1))), (2, .val (.int .i64 (nn))), (3, .val (.int .i64 (kk))), (8, .val (.bool false)), (22, .val (.bool false)), (9, .val (.int .i64 (0)))] [(0, 9, .val (.int .i64 (0)))] [] rfl (by rfl) HH2 rfl rfl hLo rfl HS2 (slS 0 rfl rfl (slS 1 rfl rfl (slS 2 rfl rfl (slS 3 rfl rfl (slS 4 rfl rfl (slS 5 rfl rfl (slL 0 (d := 0) rfl (trivial)))))))) ?_ ?_
  · show ∀ i ∈ [0], _
    refine steps_cons (st_run 0 _ rfl rfl hLo rfl rfl (fun _ _ _ _ => rfl) (fun b G w hb ho => exec_move (.inr rfl) (rfl))) ?_
    exact steps_nil
  clear hLo
  intro G a3 w3 hS hH
  have HS3 : Sl a3 129 [(0, .slice (al0) (len0) (cap0)), (1, .slice (al1) (len1) (cap1)), (2, .int .i64 (nn)), (3, .int .i64 (kk)), (8, .bool false), (22, .bool false), (9, .int .i64 (0))] := hS
  have HH3 : Held ⟨w, []⟩ w3 [] := hH
  clear hS hH HS2 HH2
  refine then_ ?_
  refine wp_seq ?_
  refine wp_seq ?_
  have hLo : LOk [(0, 23, .val (.slice (al0) (len0) (cap0))), (1, 24, .val (.int .i64 ((len0 : Int)))), (2, 25, .val (.int .i64 (0)))] := lok (by rfl) (by rfl)
  refine plain_ (wE := ⟨w, []⟩) (sz := 129) (n := 3) [0, 1, 3] [(0, .val (.slice (al0) (len0) (cap0))), (1, .val (.slice (al1) (len1) (cap1))), (2, .val (.int .i64 (nn))), (3, .val (.int .i64 (kk))), (8, .val (.bool false)), (22, .val (.bool false)), (9, .val (.int .i64 (0))), (23, .val (.slice (al0) (len0) (cap0))), (24, .val (.int .i64 ((len0 : Int)))), (25, .val (.int .i64 (0)))] [(0, 23, .val (.slice (al0) (len0) (cap0))), (1, 24, .val (.int .i64 ((len0 : Int)))), (2, 25, .val (.int .i64 (0)))] [] rfl (by rfl) HH3 rfl rfl hLo rfl HS3 (slS 0 rfl rfl (slS 1 rfl rfl (slS 2 rfl rfl (slS 3 rfl rfl (slS 4 rfl rfl (slS 5 rfl rfl (slS 6 rfl rfl (slL 0 (d := 0) rfl (slL 1 (d := 1) rfl (slL 2 (d := 2) rfl (trivial))))))))))) ?_ ?_
  · show ∀ i ∈ [0, 1, 2], _
    refine steps_cons (st_run 0 _ rfl rfl hLo rfl rfl (fun _ _ _ _ => rfl) (fun b G w hb ho => exec_move (.inl rfl) (ev_off rfl (HS3.get 0 rfl)))) ?_
    refine steps_cons (st_run 1 _ rfl rfl hLo rfl rfl (fun _ _ _ _ => rfl) (fun b G w hb ho => exec_lenL Try.underlying25 rfl (ev_on hLo 0 rfl HS3.1 rfl (hb 0 (by rfl))))) ?_
    refine steps_cons (st_run 2 _ rfl rfl hLo rfl rfl (fun _ _ _ _ => rfl) (fun b G w hb ho => exec_move (.inl rfl) (rfl))) ?_
    exact steps_nil
  clear hLo
  intro G a4 w4 hS hH
  have HS4 : Sl a4 129 [(0, .slice (al0) (len0) (cap0)), (1, .slice (al1) (len1) (cap1)), (2, .int .i64 (nn)), (3, .int .i64 (kk)), (8, .bool false), (22, .bool false), (9, .int .i64 (0)), (23, .slice (al0) (len0) (cap0)), (24, .int .i64 ((len0 : Int))), (25, .int .i64 (0))] := hS
  have HH4 : Held ⟨w, []⟩ w4 [] := hH
  clear hS hH HS3 HH3
  refine then_ ?_
  refine wp_block ?_
  have hSq0 : Sl _ 129 [(0, .slice (al0) (len0) (cap0)), (1, .slice (al1) (len1) (cap1)), (2, .int .i64 (nn)), (3, .int .i64 (kk)), (22, .bool false), (23, .slice (al0) (len0) (cap0)), (24, .int .i64 ((len0 : Int))), (25, .int .i64 (0)), (9, .int .i64 (0))] := sl_keep HS4 [0, 1, 2, 3, 5, 7, 8, 9, 6] (by rfl)
  refine wp_loop (fun a w' => ∃ i : Nat, i ≤ len0 ∧ sumR (l0.take i) ≤ 16384 ∧ Sl a 129 [(0, .slice (al0) (len0) (cap0)), (1, .slice (al1) (len1) (cap1)), (2, .int .i64 (nn)), (3, .int .i64 (kk)), (22, .bool false), (23, .slice (al0) (len0) (cap0)), (24, .int .i64 ((len0 : Int))), (25, .int .i64 ((i : Int))), (9, .int .i64 (((sumR (l0.take i) : Nat) : Int)))] ∧ Held ⟨w, []⟩ w' []) (fun a w' => len0 - (intOf (a.eval (.tmp 25))).toNat) ⟨0, Nat.zero_le _, Nat.zero_le _, hSq0, HH4⟩ ?_
  clear hSq0 HS4 HH4
  rintro aq0 wq0 ⟨i, hi, hsz, HSq0, HHq0⟩
  have hm : (intOf (aq0.eval (.tmp 25))).toNat = i := by rw [(HSq0.get 7 rfl)]; rfl
  rw [hm]
  clear hm
  obtain ⟨r1, hr1⟩ : ∃ r : Bool, (decide (((i : Int) : Int) < (len0 : Int))) = r := ⟨_, rfl⟩
  refine wp_seq ?_
  have hLo : LOk [(0, 26, .val (.bool r1))] := lok (by rfl) (by rfl)
  refine plain_ (wE := ⟨w, []⟩) (sz := 129) (n := 1) [0] [(0, .val (.slice (al0) (len0) (cap0))), (1, .val (.slice (al1) (len1) (cap1))), (2, .val (.int .i64 (nn))), (3, .val (.int .i64 (kk))), (22, .val (.bool false)), (23, .val (.slice (al0) (len0) (cap0))), (24, .val (.int .i64 ((len0 : Int)))), (25, .val (.int .i64 ((i : Int)))), (9, .val (.int .i64 (((sumR (l0.take i) : Nat) : Int)))), (26, .val (.bool r1))] [(0, 26, .val (.bool r1))] [] rfl (by rfl) HHq0 rfl rfl hLo rfl HSq0 (slS 0 rfl rfl (slS 1 rfl rfl (slS 2 rfl rfl (slS 3 rfl rfl (slS 4 rfl rfl (slS 5 rfl rfl (slS 6 rfl rfl (slS 7 rfl rfl (slS 8 rfl rfl (slL 0 (d := 0) rfl (trivial))))))))))) ?_ ?_
  · show ∀ i ∈ [0], _
    refine steps_cons (st_run 0 _ rfl rfl hLo rfl rfl (fun _ _ _ _ => rfl) (fun b G w hb ho => exec_bin rfl (ev_off rfl (HSq0.get 7 rfl)) (ev_off rfl (HSq0.get 6 rfl)) (rb_lss hr1 _ _ _))) ?_
    exact steps_nil
  clear hLo
  intro G a5 w5 hS hH
  have HS5 : Sl a5 129 [(0, .slice (al0) (len0) (cap0)), (1, .slice (al1) (len1) (cap1)), (2, .int .i64 (nn)), (3, .int .i64 (kk)), (22, .bool false), (23, .slice (al0) (len0) (cap0)), (24, .int .i64 ((len0 : Int))), (25, .int .i64 ((i : Int))), (9, .int .i64 (((sumR (l0.take i) : Nat) : Int))), (26, .bool r1)] := hS
  have HH5 : Held ⟨w, []⟩ w5 [] := hH
  clear hS hH HSq0 HHq0
  refine then_ ?_
  refine wp_seq ?_
  cases r1
  · skip
    have hge := of_decide_eq_false hr1
    obtain rfl : len0 = i := by omega
    have htk : l0.take len0 = l0 := List.take_of_length_le (by rw [hI.z_len]; exact Nat.le_refl _)
    rw [htk] at HS5 hsz
    refine wp_cond_false (HS5.get 9 rfl) ?_
    refine wp_exit ?_
    refine then_exit ?_
    refine then_exit ?_
    refine inBlock_exit ?_
    refine then_ ?_
    refine wp_seq ?_
    obtain ⟨r2, hr2⟩ : ∃ r : Bool, (decide ((60 : Int) < (len0 : Int))) = r := ⟨_, rfl⟩
    refine wp_seq ?_
    have hLo : LOk [(0, 36, .val (.slice (al0) (len0) (cap0))), (1, 37, .val (.int .i64 ((len0 : Int)))), (2, 38, .val (.bool r2))] := lok (by rfl) (by rfl)
    refine plain_ (wE := ⟨w, []⟩) (sz := 129) (n := 3) [0, 1, 3] [(0, .val (.slice (al0) (len0) (cap0))), (1, .val (.slice (al1) (len1) (cap1))), (2, .val (.int .i64 (nn))), (3, .val (.int .i64 (kk))), (22, .val (.bool false)), (23, .val (.slice (al0) (len0) (cap0))), (24, .val (.int .i64 ((len0 : Int)))), (25, .val (.int .i64 ((len0 : Int)))), (9, .val (.int .i64 (((sumR l0 : Nat) : Int)))), (26, .val (.bool false)), (38, .val (.bool r2))] [(0, 36, .val (.slice (al0) (len0) (cap0))), (1, 37, .val (.int .i64 ((len0 : Int)))), (2, 38, .val (.bool r2))] [] rfl (by rfl) HH5 rfl rfl hLo rfl HS5 (slS 0 rfl rfl (slS 1 rfl rfl (slS 2 rfl rfl (slS 3 rfl rfl (slS 4 rfl rfl (slS 5 rfl rfl (slS 6 rfl rfl (slS 7 rfl rfl (slS 8 rfl rfl (slS 9 rfl rfl (slL 2 (d := 2) rfl (trivial)))))))))))) ?_ ?_
    · show ∀ i ∈ [0, 1, 2], _
      refine steps_cons (st_run 0 _ rfl rfl hLo rfl rfl (fun _ _ _ _ => rfl) (fun b G w hb ho => exec_move (.inl rfl) (ev_off rfl (HS5.get 0 rfl)))) ?_
      refine steps_cons (st_run 1 _ rfl rfl hLo rfl rfl (fun _ _ _ _ => rfl) (fun b G w hb ho => exec_lenL Try.underlying25 rfl (ev_on hLo 0 rfl HS5.1 rfl (hb 0 (by rfl))))) ?_
      refine steps_cons (st_run 2 _ rfl rfl hLo rfl rfl (fun _ _ _ _ => rfl) (fun b G w hb ho => exec_bin rfl (ev_on hLo 1 rfl HS5.1 rfl (hb 1 (by rfl))) (rfl) (rb_gtr hr2 _ _ _))) ?_
      exact steps_nil
    clear hLo
    intro G a6 w6 hS hH
    have HS6 : Sl a6 129 [(0, .slice (al0) (len0) (cap0)), (1, .slice (al1) (len1) (cap1)), (2, .int .i64 (nn)), (3, .int .i64 (kk)), (22, .bool false), (23, .slice (al0) (len0) (cap0)), (24, .int .i64 ((len0 : Int))), (25, .int .i64 ((len0 : Int))), (9, .int .i64 (((sumR l0 : Nat) : Int))), (26, .bool false), (38, .bool r2)] := hS
    have HH6 : Held ⟨w, []⟩ w6 [] := hH
    clear hS hH HS5 HH5
    refine then_ ?_
    cases r2
    · skip
      have hzr2 := of_decide_eq_false hr2
      refine wp_cond_false (HS6.get 10 rfl) ?_
      refine wp_skip ?_
      refine then_ ?_
      refine wp_seq ?_
      refine whole_ ?_
      refine cut_call _ rfl rfl rfl rfl Try.func9 rfl rfl (args1 rfl) (new_calls (by decide)) HS6 rfl ?_
      rintro e7 w7 ⟨g, rfl, hng, hrg, hbg⟩
      refine ⟨_, rfl, fun a7 hS => ?_⟩
      have hwg : w.heap.size ≤ g := Nat.le_trans (Nat.le_trans hB.size HH6.1.size) hng
      have HS8 : Sl a7 129 [(39, .pointer (some ⟨g, 0, none⟩)), (0, .slice (al0) (len0) (cap0)), (1, .slice (al1) (len1) (cap1)), (2, .int .i64 (nn)), (3, .int .i64 (kk)), (22, .bool false), (23, .slice (al0) (len0) (cap0)), (24, .int .i64 ((len0 : Int))), (25, .int .i64 ((len0 : Int))), (9, .int .i64 (((sumR l0 : Nat) : Int))), (26, .bool false), (38, .bool false)] := hS
      have HH8 : Held ⟨w, []⟩ w7 [⟨g, (), 6, spC ⟨ByteArray.empty, 0, false, 0, 0, 0⟩, 53⟩] := HH6.add hbg hng hrg
      clear hS
      have hLo : LOk [(1, 12, .val (.pointer (some ⟨g, 0, none⟩)))] := lok (by rfl) (by rfl)
      refine part_ (wE := ⟨w, []⟩) (sz := 129) (n := 2) 1 2 [0, 1] [(0, .val (.slice (al0) (len0) (cap0))), (1, .val (.slice (al1) (len1) (cap1))), (2, .val (.int .i64 (nn))), (3, .val (.int .i64 (kk))), (22, .val (.bool false)), (23, .val (.slice (al0) (len0) (cap0))), (24, .val (.int .i64 ((len0 : Int)))), (25, .val (.int .i64 ((len0 : Int)))), (9, .val (.int .i64 (((sumR l0 : Nat) : Int)))), (26, .val (.bool false)), (38, .val (.bool false)), (12, .val (.pointer (some ⟨g, 0, none⟩)))] [(1, 12, .val (.pointer (some ⟨g, 0, none⟩)))] [⟨g, none, none, (), 6, spC ⟨ByteArray.empty, 0, false, 0, 0, 0⟩, spC ⟨ByteArray.empty, 0, false, 0, 0, 0⟩, 53⟩] rfl rfl (by rfl) HH8 rfl rfl hLo rfl HS8 (slS 1 rfl rfl (slS 2 rfl rfl (slS 3 rfl rfl (slS 4 rfl rfl (slS 5 rfl rfl (slS 6 rfl rfl (slS 7 rfl rfl (slS 8 rfl rfl (slS 9 rfl rfl (slS 10 rfl rfl (slS 11 rfl rfl (slL 0 (d := 1) rfl (trivial))))))))))))) ?_ ?_
      · show ∀ i ∈ [1], _
        refine steps_cons (st_run 0 _ rfl rfl hLo rfl rfl (fun _ _ _ _ => rfl) (fun b G w hb ho => exec_move (.inr rfl) (ev_off rfl (HS8.get 0 rfl)))) ?_
        exact steps_nil
      clear hLo
      intro G a9 w9 hS hH
      have HS9 : Sl a9 129 [(0, .slice (al0) (len0) (cap0)), (1, .slice (al1) (len1) (cap1)), (2, .int .i64 (nn)), (3, .int .i64 (kk)), (22, .bool false), (23, .slice (al0) (len0) (cap0)), (24, .int .i64 ((len0 : Int))), (25, .int .i64 ((len0 : Int))), (9, .int .i64 (((sumR l0 : Nat) : Int))), (26, .bool false), (38, .bool false), (12, .pointer (some ⟨g, 0, none⟩))] := hS
      have HH9 : Held ⟨w, []⟩ w9 [⟨g, (), 6, spC ⟨ByteArray.empty, 0, false, 0, 0, 0⟩, 53⟩] := hH
      clear hS hH HS8 HH8
      refine end_ rfl ?_
      refine then_ ?_
      refine wp_seq ?_
      have hLo : LOk [(0, 40, .val (.pointer (some ⟨g, 0, none⟩))), (1, 41, .val (.int .i64 (nn))), (2, 42, .val (.int .i64 (kk))), (3, 43, .val (.tuple #[]))] := lok (by rfl) (by rfl)
      refine plain_ (wE := ⟨w, []⟩) (sz := 129) (n := 4) [0, 1, 3, 7] [(0, .val (.slice (al0) (len0) (cap0))), (1, .val (.slice (al1) (len1) (cap1))), (2, .val (.int .i64 (nn))), (3, .val (.int .i64 (kk))), (22, .val (.bool false)), (23, .val (.slice (al0) (len0) (cap0))), (24, .val (.int .i64 ((len0 : Int)))), (25, .val (.int .i64 ((len0 : Int)))), (9, .val (.int .i64 (((sumR l0 : Nat) : Int)))), (26, .val (.bool false)), (38, .val (.bool false)), (12, .val (.pointer (some ⟨g, 0, none⟩)))] [(0, 40, .val (.pointer (some ⟨g, 0, none⟩))), (1, 41, .val (.int .i64 (nn))), (2, 42, .val (.int .i64 (kk))), (3, 43, .val (.tuple #[]))] [⟨g, none, some 3, (), 6, spC ⟨ByteArray.empty, 0, false, 0, 0, 0⟩, spC ⟨ByteArray.empty, 0, false, 0, nn.toNat, kk⟩, 53⟩] rfl (by rfl) HH9 rfl rfl hLo rfl HS9 (slS 0 rfl rfl (slS 1 rfl rfl (slS 2 rfl rfl (slS 3 rfl rfl (slS 4 rfl rfl (slS 5 rfl rfl (slS 6 rfl rfl (slS 7 rfl rfl (slS 8 rfl rfl (slS 9 rfl rfl (slS 10 rfl rfl (slS 11 rfl rfl (trivial))))))))))))) ?_ ?_
      · show ∀ i ∈ [0, 1, 2, 3], _
        refine steps_cons (st_run 0 _ rfl rfl hLo rfl rfl (fun _ _ _ _ => rfl) (fun b G w hb ho => exec_move (.inl rfl) (ev_off rfl (HS9.get 11 rfl)))) ?_
        refine steps_cons (st_run 1 _ rfl rfl hLo rfl rfl (fun _ _ _ _ => rfl) (fun b G w hb ho => exec_move (.inl rfl) (ev_off rfl (HS9.get 2 rfl)))) ?_
        refine steps_cons (st_run 2 _ rfl rfl hLo rfl rfl (fun _ _ _ _ => rfl) (fun b G w hb ho => exec_move (.inl rfl) (ev_off rfl (HS9.get 3 rfl)))) ?_
        refine steps_cons (st_callM 3 0 _ _ (fun G => #[.pointer (some ⟨g, 0, none⟩), .int .i64 (nn), .int .i64 (kk)]) rfl rfl rfl rfl rfl (fun _ _ _ _ => rfl) hLo rfl (by rfl) (by rfl) (by rfl) Try.func20 rfl rfl (fun b G hb ho => args3 (ev_on hLo 0 rfl HS9.1 rfl (hb 0 (by rfl))) (ev_on hLo 1 rfl HS9.1 rfl (hb 1 (by rfl))) (ev_on hLo 2 rfl HS9.1 rfl (hb 2 (by rfl)))) (fun G w hw hr => arm_calls hr)) ?_
        exact steps_nil
      clear hLo
      intro G a10 w10 hS hH
      have HS10 : Sl a10 129 [(0, .slice (al0) (len0) (cap0)), (1, .slice (al1) (len1) (cap1)), (2, .int .i64 (nn)), (3, .int .i64 (kk)), (22, .bool false), (23, .slice (al0) (len0) (cap0)), (24, .int .i64 ((len0 : Int))), (25, .int .i64 ((len0 : Int))), (9, .int .i64 (((sumR l0 : Nat) : Int))), (26, .bool false), (38, .bool false), (12, .pointer (some ⟨g, 0, none⟩))] := hS
      have HH10 : Held ⟨w, []⟩ w10 [⟨g, (), 6, spC ⟨ByteArray.empty, 0, false, 0, nn.toNat, kk⟩, 53⟩] := hH
      clear hS hH HS9 HH9
      refine then_ ?_
      refine wp_seq ?_
      have hLo : LOk [(0, 13, .val (.int .i64 (0))), (1, 14, .val (.int .i64 (0)))] := lok (by rfl) (by rfl)
      refine plain_ (wE := ⟨w, []⟩) (sz := 129) (n := 2) [0, 1] [(0, .val (.slice (al0) (len0) (cap0))), (1, .val (.slice (al1) (len1) (cap1))), (2, .val (.int .i64 (nn))), (3, .val (.int .i64 (kk))), (22, .val (.bool false)), (23, .val (.slice (al0) (len0) (cap0))), (24, .val (.int .i64 ((len0 : Int)))), (25, .val (.int .i64 ((len0 : Int)))), (9, .val (.int .i64 (((sumR l0 : Nat) : Int)))), (26, .val (.bool false)), (38, .val (.bool false)), (12, .val (.pointer (some ⟨g, 0, none⟩))), (13, .val (.int .i64 (0))), (14, .val (.int .i64 (0)))] [(0, 13, .val (.int .i64 (0))), (1, 14, .val (.int .i64 (0)))] [⟨g, none, none, (), 6, spC ⟨ByteArray.empty, 0, false, 0, nn.toNat, kk⟩, spC ⟨ByteArray.empty, 0, false, 0, nn.toNat, kk⟩, 53⟩] rfl (by rfl) HH10 rfl rfl hLo rfl HS10 (slS 0 rfl rfl (slS 1 rfl rfl (slS 2 rfl rfl (slS 3 rfl rfl (slS 4 rfl rfl (slS 5 rfl rfl (slS 6 rfl rfl (slS 7 rfl rfl (slS 8 rfl rfl (slS 9 rfl rfl (slS 10 rfl rfl (slS 11 rfl rfl (slL 0 (d := 0) rfl (slL 1 (d := 1) rfl (trivial))))))))))))))) ?_ ?_
      · show ∀ i ∈ [0, 1], _
        refine steps_cons (st_run 0 _ rfl rfl hLo rfl rfl (fun _ _ _ _ => rfl) (fun b G w hb ho => exec_move (.inr rfl) (rfl))) ?_
        refine steps_cons (st_run 1 _ rfl rfl hLo rfl rfl (fun _ _ _ _ => rfl) (fun b G w hb ho => exec_move (.inr rfl) (rfl))) ?_
        exact steps_nil
      clear hLo
      intro G a11 w11 hS hH
      have HS11 : Sl a11 129 [(0, .slice (al0) (len0) (cap0)), (1, .slice (al1) (len1) (cap1)), (2, .int .i64 (nn)), (3, .int .i64 (kk)), (22, .bool false), (23, .slice (al0) (len0) (cap0)), (24, .int .i64 ((len0 : Int))), (25, .int .i64 ((len0 : Int))), (9, .int .i64 (((sumR l0 : Nat) : Int))), (26, .bool false), (38, .bool false), (12, .pointer (some ⟨g, 0, none⟩)), (13, .int .i64 (0)), (14, .int .i64 (0))] := hS
      have HH11 : Held ⟨w, []⟩ w11 [⟨g, (), 6, spC ⟨ByteArray.empty, 0, false, 0, nn.toNat, kk⟩, 53⟩] := hH
      clear hS hH HS10 HH10
      refine then_ ?_
      refine seq_join (fun a w' => ∃ su : Nat, ∃ mk : Nat, ∃ m : Sp, LostI l0 kk su mk m ∧ Sl a 129 [(0, .slice (al0) (len0) (cap0)), (1, .slice (al1) (len1) (cap1)), (2, .int .i64 (nn)), (3, .int .i64 (kk)), (22, .bool false), (23, .slice (al0) (len0) (cap0)), (24, .int .i64 ((len0 : Int))), (25, .int .i64 ((len0 : Int))), (9, .int .i64 (((sumR l0 : Nat) : Int))), (26, .bool false), (38, .bool false), (12, .pointer (some ⟨g, 0, none⟩)), (13, .int .i64 ((su : Int))), (14, .int .i64 ((mk : Int)))] ∧ Held ⟨w, []⟩ w' [⟨g, (), 6, spC m, 53⟩]) ?_ ?_
      · skip
        refine wp_seq ?_
        have hLo : LOk [(0, 44, .val (.slice (al0) (len0) (cap0))), (1, 45, .val (.int .i64 ((len0 : Int)))), (2, 46, .val (.int .i64 (0)))] := lok (by rfl) (by rfl)
        refine plain_ (wE := ⟨w, []⟩) (sz := 129) (n := 3) [0, 1, 3] [(0, .val (.slice (al0) (len0) (cap0))), (1, .val (.slice (al1) (len1) (cap1))), (2, .val (.int .i64 (nn))), (3, .val (.int .i64 (kk))), (22, .val (.bool false)), (23, .val (.slice (al0) (len0) (cap0))), (24, .val (.int .i64 ((len0 : Int)))), (25, .val (.int .i64 ((len0 : Int)))), (9, .val (.int .i64 (((sumR l0 : Nat) : Int)))), (26, .val (.bool false)), (38, .val (.bool false)), (12, .val (.pointer (some ⟨g, 0, none⟩))), (13, .val (.int .i64 (0))), (14, .val (.int .i64 (0))), (44, .val (.slice (al0) (len0) (cap0))), (45, .val (.int .i64 ((len0 : Int)))), (46, .val (.int .i64 (0)))] [(0, 44, .val (.slice (al0) (len0) (cap0))), (1, 45, .val (.int .i64 ((len0 : Int)))), (2, 46, .val (.int .i64 (0)))] [⟨g, none, none, (), 6, spC ⟨ByteArray.empty, 0, false, 0, nn.toNat, kk⟩, spC ⟨ByteArray.empty, 0, false, 0, nn.toNat, kk⟩, 53⟩] rfl (by rfl) HH11 rfl rfl hLo rfl HS11 (slS 0 rfl rfl (slS 1 rfl rfl (slS 2 rfl rfl (slS 3 rfl rfl (slS 4 rfl rfl (slS 5 rfl rfl (slS 6 rfl rfl (slS 7 rfl rfl (slS 8 rfl rfl (slS 9 rfl rfl (slS 10 rfl rfl (slS 11 rfl rfl (slS 12 rfl rfl (slS 13 rfl rfl (slL 0 (d := 0) rfl (slL 1 (d := 1) rfl (slL 2 (d := 2) rfl (trivial)))))))))))))))))) ?_ ?_
        · show ∀ i ∈ [0, 1, 2], _
          refine steps_cons (st_run 0 _ rfl rfl hLo rfl rfl (fun _ _ _ _ => rfl) (fun b G w hb ho => exec_move (.inl rfl) (ev_off rfl (HS11.get 0 rfl)))) ?_
          refine steps_cons (st_run 1 _ rfl rfl hLo rfl rfl (fun _ _ _ _ => rfl) (fun b G w hb ho => exec_lenL Try.underlying25 rfl (ev_on hLo 0 rfl HS11.1 rfl (hb 0 (by rfl))))) ?_
          refine steps_cons (st_run 2 _ rfl rfl hLo rfl rfl (fun _ _ _ _ => rfl) (fun b G w hb ho => exec_move (.inl rfl) (rfl))) ?_
          exact steps_nil
        clear hLo
        intro G a13 w13 hS hH
        have HS13 : Sl a13 129 [(0, .slice (al0) (len0) (cap0)), (1, .slice (al1) (len1) (cap1)), (2, .int .i64 (nn)), (3, .int .i64 (kk)), (22, .bool false), (23, .slice (al0) (len0) (cap0)), (24, .int .i64 ((len0 : Int))), (25, .int .i64 ((len0 : Int))), (9, .int .i64 (((sumR l0 : Nat) : Int))), (26, .bool false), (38, .bool false), (12, .pointer (some ⟨g, 0, none⟩)), (13, .int .i64 (0)), (14, .int .i64 (0)), (44, .slice (al0) (len0) (cap0)), (45, .int .i64 ((len0 : Int))), (46, .int .i64 (0))] := hS
        have HH13 : Held ⟨w, []⟩ w13 [⟨g, (), 6, spC ⟨ByteArray.empty, 0, false, 0, nn.toNat, kk⟩, 53⟩] := hH
        clear hS hH HS11 HH11
        refine then_ ?_
        refine wp_block ?_
        have hSq1 : Sl _ 129 [(0, .slice (al0) (len0) (cap0)), (1, .slice (al1) (len1) (cap1)), (2, .int .i64 (nn)), (3, .int .i64 (kk)), (22, .bool false), (23, .slice (al0) (len0) (cap0)), (24, .int .i64 ((len0 : Int))), (25, .int .i64 ((len0 : Int))), (9, .int .i64 (((sumR l0 : Nat) : Int))), (26, .bool false), (38, .bool false), (12, .pointer (some ⟨g, 0, none⟩)), (44, .slice (al0) (len0) (cap0)), (45, .int .i64 ((len0 : Int))), (46, .int .i64 (0)), (13, .int .i64 (0)), (14, .int .i64 (0))] := sl_keep HS13 [0, 1, 2, 3, 4, 5, 6, 7, 8, 9, 10, 11, 14, 15, 16, 12, 13] (by rfl)
        refine wp_loop (fun a w' => ∃ j : Nat, ∃ su : Nat, ∃ sy : Nat, ∃ ac : Nat, ∃ inn : Nat, j ≤ len0 ∧ su ≤ j ∧ (catR (l0.take su)).size ≤ sy ∧ sy ≤ (catR (l0.take j)).size ∧ ac ≤ 2 * j ∧ inn < 9223372036854775808 ∧ Sl a 129 [(0, .slice (al0) (len0) (cap0)), (1, .slice (al1) (len1) (cap1)), (2, .int .i64 (nn)), (3, .int .i64 (kk)), (22, .bool false), (23, .slice (al0) (len0) (cap0)), (24, .int .i64 ((len0 : Int))), (25, .int .i64 ((len0 : Int))), (9, .int .i64 (((sumR l0 : Nat) : Int))), (26, .bool false), (38, .bool false), (12, .pointer (some ⟨g, 0, none⟩)), (44, .slice (al0) (len0) (cap0)), (45, .int .i64 ((len0 : Int))), (46, .int .i64 ((j : Int))), (13, .int .i64 ((su : Int))), (14, .int .i64 ((j : Int)))] ∧ Held ⟨w, []⟩ w' [⟨g, (), 6, spC ⟨catR (l0.take j), sy, false, ac, inn, kk⟩, 53⟩]) (fun a w' => len0 - (intOf (a.eval (.tmp 46))).toNat) ⟨0, 0, 0, 0, nn.toNat, Nat.zero_le _, Nat.zero_le _, Nat.zero_le _, Nat.zero_le _, Nat.zero_le _, by omega, hSq1, HH13⟩ ?_
        clear hSq1 HS13 HH13
        rintro aq1 wq1 ⟨j, su, sy, ac, inn, hj, hsu, hs, hy, hac, hinn, HSq1, HHq1⟩
        have hm : (intOf (aq1.eval (.tmp 46))).toNat = j := by rw [(HSq1.get 14 rfl)]; rfl
        rw [hm]
        clear hm
        obtain ⟨r3, hr3⟩ : ∃ r : Bool, (decide (((j : Int) : Int) < (len0 : Int))) = r := ⟨_, rfl⟩
        refine wp_seq ?_
        have hLo : LOk [(0, 47, .val (.bool r3))] := lok (by rfl) (by rfl)
        refine plain_ (wE := ⟨w, []⟩) (sz := 129) (n := 1) [0] [(0, .val (.slice (al0) (len0) (cap0))), (1, .val (.slice (al1) (len1) (cap1))), (2, .val (.int .i64 (nn))), (3, .val (.int .i64 (kk))), (22, .val (.bool false)), (23, .val (.slice (al0) (len0) (cap0))), (24, .val (.int .i64 ((len0 : Int)))), (25, .val (.int .i64 ((len0 : Int)))), (9, .val (.int .i64 (((sumR l0 : Nat) : Int)))), (26, .val (.bool false)), (38, .val (.bool false)), (12, .val (.pointer (some ⟨g, 0, none⟩))), (44, .val (.slice (al0) (len0) (cap0))), (45, .val (.int .i64 ((len0 : Int)))), (46, .val (.int .i64 ((j : Int)))), (13, .val (.int .i64 ((su : Int)))), (14, .val (.int .i64 ((j : Int)))), (47, .val (.bool r3))] [(0, 47, .val (.bool r3))] [⟨g, none, none, (), 6, spC ⟨catR (l0.take j), sy, false, ac, inn, kk⟩, spC ⟨catR (l0.take j), sy, false, ac, inn, kk⟩, 53⟩] rfl (by rfl) HHq1 rfl rfl hLo rfl HSq1 (slS 0 rfl rfl (slS 1 rfl rfl (slS 2 rfl rfl (slS 3 rfl rfl (slS 4 rfl rfl (slS 5 rfl rfl (slS 6 rfl rfl (slS 7 rfl rfl (slS 8 rfl rfl (slS 9 rfl rfl (slS 10 rfl rfl (slS 11 rfl rfl (slS 12 rfl rfl (slS 13 rfl rfl (slS 14 rfl rfl (slS 15 rfl rfl (slS 16 rfl rfl (slL 0 (d := 0) rfl (trivial))))))))))))))))))) ?_ ?_
        · show ∀ i ∈ [0], _
          refine steps_cons (st_run 0 _ rfl rfl hLo rfl rfl (fun _ _ _ _ => rfl) (fun b G w hb ho => exec_bin rfl (ev_off rfl (HSq1.get 14 rfl)) (ev_off rfl (HSq1.get 13 rfl)) (rb_lss hr3 _ _ _))) ?_
          exact steps_nil
        clear hLo
        intro G a14 w14 hS hH
        have HS14 : Sl a14 129 [(0, .slice (al0) (len0) (cap0)), (1, .slice (al1) (len1) (cap1)), (2, .int .i64 (nn)), (3, .int .i64 (kk)), (22, .bool false), (23, .slice (al0) (len0) (cap0)), (24, .int .i64 ((len0 : Int))), (25, .int .i64 ((len0 : Int))), (9, .int .i64 (((sumR l0 : Nat) : Int))), (26, .bool false), (38, .bool false), (12, .pointer (some ⟨g, 0, none⟩)), (44, .slice (al0) (len0) (cap0)), (45, .int .i64 ((len0 : Int))), (46, .int .i64 ((j : Int))), (13, .int .i64 ((su : Int))), (14, .int .i64 ((j : Int))), (47, .bool r3)] := hS
        have HH14 : Held ⟨w, []⟩ w14 [⟨g, (), 6, spC ⟨catR (l0.take j), sy, false, ac, inn, kk⟩, 53⟩] := hH
        clear hS hH HSq1 HHq1
        refine then_ ?_
        refine wp_seq ?_
        cases r3
        · skip
          have hcj := catR_take l0 j
          refine wp_cond_false (HS14.get 17 rfl) ?_
          refine wp_exit ?_
          refine then_exit ?_
          refine then_exit ?_
          refine inBlock_exit ?_
          refine then_ ?_
          have hS15 : Sl _ 129 [(0, .slice (al0) (len0) (cap0)), (1, .slice (al1) (len1) (cap1)), (2, .int .i64 (nn)), (3, .int .i64 (kk)), (22, .bool false), (23, .slice (al0) (len0) (cap0)), (24, .int .i64 ((len0 : Int))), (25, .int .i64 ((len0 : Int))), (9, .int .i64 (((sumR l0 : Nat) : Int))), (26, .bool false), (38, .bool false), (12, .pointer (some ⟨g, 0, none⟩)), (13, .int .i64 ((su : Int))), (14, .int .i64 ((j : Int)))] := sl_keep HS14 [0, 1, 2, 3, 4, 5, 6, 7, 8, 9, 10, 11, 15, 16] (by rfl)
          have hH15 : Held ⟨w, []⟩ _ [⟨g, (), 6, spC ⟨catR (l0.take j), sy, false, ac, inn, kk⟩, 53⟩] := held_keep HH14 1 rfl
          exact ⟨su, j, ⟨catR (l0.take j), sy, false, ac, inn, kk⟩, lost_on hsu (by omega) hs hy (by omega) (by omega) hinn, hS15, hH15⟩
        · skip
          have hltj : j < len0 := by have := of_decide_eq_true hr3; omega
          obtain ⟨y, hy⟩ : ∃ x, l0[j]? = some x := ⟨_, List.getElem?_eq_getElem (by rw [hI.z_len]; exact hltj)⟩
          obtain ⟨ady, hady, hcelly⟩ := c_cell hI.z_C hy
          have hmy := List.mem_of_getElem? hy
          have hsy : y.size ≤ 140737488351232 := hI.z_ok y hmy
          have hyl := sumR_mem hmy
          have hey := encLen_le y.size
          have hcj := catR_take l0 j
          have hcj1 := catR_take l0 (j + 1)
          have hcat := catR_step hy
          have hcz : (catR (l0.take (j + 1))).size = (catR (l0.take j)).size + (encLen y.size + 1) := by rw [hcat, ByteArray.size_append, lineS_size]
          refine wp_cond_true (HS14.get 17 rfl) ?_
          refine wp_skip ?_
          refine then_ ?_
          refine wp_seq ?_
          refine wp_block ?_
          refine wp_seq ?_
          have hLo : LOk [(0, 48, .val (.int .i64 ((j : Int)))), (1, 49, .val (.pointer (some (ady.add (j * 1))))), (2, 50, .val (.string (y))), (3, 15, .val (.int .i64 ((j : Int)))), (4, 16, .val (.string (y)))] := lok (by rfl) (by rfl)
          refine plain_ (wE := ⟨w, []⟩) (sz := 129) (n := 5) [0, 1, 3, 7, 15] [(0, .val (.slice (al0) (len0) (cap0))), (1, .val (.slice (al1) (len1) (cap1))), (2, .val (.int .i64 (nn))), (3, .val (.int .i64 (kk))), (22, .val (.bool false)), (23, .val (.slice (al0) (len0) (cap0))), (24, .val (.int .i64 ((len0 : Int)))), (25, .val (.int .i64 ((len0 : Int)))), (9, .val (.int .i64 (((sumR l0 : Nat) : Int)))), (26, .val (.bool false)), (38, .val (.bool false)), (12, .val (.pointer (some ⟨g, 0, none⟩))), (44, .val (.slice (al0) (len0) (cap0))), (45, .val (.int .i64 ((len0 : Int)))), (46, .val (.int .i64 ((j : Int)))), (13, .val (.int .i64 ((su : Int)))), (14, .val (.int .i64 ((j : Int)))), (47, .val (.bool true)), (15, .val (.int .i64 ((j : Int)))), (16, .val (.string (y)))] [(0, 48, .val (.int .i64 ((j : Int)))), (1, 49, .val (.pointer (some (ady.add (j * 1))))), (2, 50, .val (.string (y))), (3, 15, .val (.int .i64 ((j : Int)))), (4, 16, .val (.string (y)))] [⟨g, none, none, (), 6, spC ⟨catR (l0.take j), sy, false, ac, inn, kk⟩, spC ⟨catR (l0.take j), sy, false, ac, inn, kk⟩, 53⟩] rfl (by rfl) HH14 rfl rfl hLo rfl HS14 (slS 0 rfl rfl (slS 1 rfl rfl (slS 2 rfl rfl (slS 3 rfl rfl (slS 4 rfl rfl (slS 5 rfl rfl (slS 6 rfl rfl (slS 7 rfl rfl (slS 8 rfl rfl (slS 9 rfl rfl (slS 10 rfl rfl (slS 11 rfl rfl (slS 12 rfl rfl (slS 13 rfl rfl (slS 14 rfl rfl (slS 15 rfl rfl (slS 16 rfl rfl (slS 17 rfl rfl (slL 3 (d := 3) rfl (slL 4 (d := 4) rfl (trivial))))))))))))))))))))) ?_ ?_
          · show ∀ i ∈ [0, 1, 2, 3, 4], _
            refine steps_cons (st_run 0 _ rfl rfl hLo rfl rfl (fun _ _ _ _ => rfl) (fun b G w hb ho => exec_move (.inl rfl) (ev_off rfl (HS14.get 14 rfl)))) ?_
            refine steps_cons (st_run 1 _ rfl rfl hLo rfl rfl (fun _ _ _ _ => rfl) (fun b G w hb ho => exec_indexAddr rfl (ev_off rfl (HS14.get 12 rfl)) (ev_off rfl (HS14.get 14 rfl)) (index_sl Try.underlying25 (by kernel_rfl) hady hltj _))) ?_
            refine steps_cons (st_at1 2 (ady.add (j * 1)) _ rfl rfl rfl (fun _ _ _ _ => rfl) hLo rfl rfl Try.underlying9 rfl (wxc hcelly rfl (Below.refl _ w) (fun x hx => by cases hx)) (fun b G hb ho => ev_on hLo 1 rfl HS14.1 rfl (hb 1 (by rfl)))) ?_
            refine steps_cons (st_run 3 _ rfl rfl hLo rfl rfl (fun _ _ _ _ => rfl) (fun b G w hb ho => exec_move (.inr rfl) (ev_on hLo 0 rfl HS14.1 rfl (hb 0 (by rfl))))) ?_
            refine steps_cons (st_run 4 _ rfl rfl hLo rfl rfl (fun _ _ _ _ => rfl) (fun b G w hb ho => exec_move (.inr rfl) (ev_on hLo 2 rfl HS14.1 rfl (hb 2 (by rfl))))) ?_
            exact steps_nil
          clear hLo
          intro G a16 w16 hS hH
          have HS16 : Sl a16 129 [(0, .slice (al0) (len0) (cap0)), (1, .slice (al1) (len1) (cap1)), (2, .int .i64 (nn)), (3, .int .i64 (kk)), (22, .bool false), (23, .slice (al0) (len0) (cap0)), (24, .int .i64 ((len0 : Int))), (25, .int .i64 ((len0 : Int))), (9, .int .i64 (((sumR l0 : Nat) : Int))), (26, .bool false), (38, .bool false), (12, .pointer (some ⟨g, 0, none⟩)), (44, .slice (al0) (len0) (cap0)), (45, .int .i64 ((len0 : Int))), (46, .int .i64 ((j : Int))), (13, .int .i64 ((su : Int))), (14, .int .i64 ((j : Int))), (47, .bool true), (15, .int .i64 ((j : Int))), (16, .string (y))] := hS
          have HH16 : Held ⟨w, []⟩ w16 [⟨g, (), 6, spC ⟨catR (l0.take j), sy, false, ac, inn, kk⟩, 53⟩] := hH
          clear hS hH HS14 HH14
          refine then_ ?_
          by_cases h1 : inn = 1
          · skip
            subst h1
            refine wp_seq ?_
            have hLo : LOk [(0, 51, .val (.pointer (some ⟨g, 0, none⟩))), (1, 52, .val (.string (y))), (2, 53, .val (.int .i64 (50))), (3, 17, .val (.int .i64 (50)))] := lok (by rfl) (by rfl)
            refine plain_ (wE := ⟨w, []⟩) (sz := 129) (n := 4) [0, 1, 3, 7] [(0, .val (.slice (al0) (len0) (cap0))), (1, .val (.slice (al1) (len1) (cap1))), (2, .val (.int .i64 (nn))), (3, .val (.int .i64 (kk))), (22, .val (.bool false)), (23, .val (.slice (al0) (len0) (cap0))), (24, .val (.int .i64 ((len0 : Int)))), (25, .val (.int .i64 ((len0 : Int)))), (9, .val (.int .i64 (((sumR l0 : Nat) : Int)))), (26, .val (.bool false)), (38, .val (.bool false)), (12, .val (.pointer (some ⟨g, 0, none⟩))), (44, .val (.slice (al0) (len0) (cap0))), (45, .val (.int .i64 ((len0 : Int)))), (46, .val (.int .i64 ((j : Int)))), (13, .val (.int .i64 ((su : Int)))), (14, .val (.int .i64 ((j : Int)))), (47, .val (.bool true)), (15, .val (.int .i64 ((j : Int)))), (16, .val (.string (y))), (17, .val (.int .i64 (50)))] [(0, 51, .val (.pointer (some ⟨g, 0, none⟩))), (1, 52, .val (.string (y))), (2, 53, .val (.int .i64 (50))), (3, 17, .val (.int .i64 (50)))] [⟨g, none, some 2, (), 6, spC ⟨catR (l0.take j), sy, false, ac, 1, kk⟩, spC ⟨(catR (l0.take j) ++ lineS y).extract 0 (sy + kp kk ((catR (l0.take j) ++ lineS y).size - sy)), sy + kp kk ((catR (l0.take j) ++ lineS y).size - sy), true, ac + 1, 0, kk⟩, 53⟩] rfl (by rfl) HH16 rfl rfl hLo rfl HS16 (slS 0 rfl rfl (slS 1 rfl rfl (slS 2 rfl rfl (slS 3 rfl rfl (slS 4 rfl rfl (slS 5 rfl rfl (slS 6 rfl rfl (slS 7 rfl rfl (slS 8 rfl rfl (slS 9 rfl rfl (slS 10 rfl rfl (slS 11 rfl rfl (slS 12 rfl rfl (slS 13 rfl rfl (slS 14 rfl rfl (slS 15 rfl rfl (slS 16 rfl rfl (slS 17 rfl rfl (slS 18 rfl rfl (slS 19 rfl rfl (slL 3 (d := 3) rfl (trivial)))))))))))))))))))))) ?_ ?_
            · show ∀ i ∈ [0, 1, 2, 3], _
              refine steps_cons (st_run 0 _ rfl rfl hLo rfl rfl (fun _ _ _ _ => rfl) (fun b G w hb ho => exec_move (.inl rfl) (ev_off rfl (HS16.get 11 rfl)))) ?_
              refine steps_cons (st_run 1 _ rfl rfl hLo rfl rfl (fun _ _ _ _ => rfl) (fun b G w hb ho => exec_move (.inl rfl) (ev_off rfl (HS16.get 19 rfl)))) ?_
              refine steps_cons (st_callM 2 0 _ _ (fun G => #[.pointer (some ⟨g, 0, none⟩), .string (y)]) rfl rfl rfl rfl rfl (fun _ _ _ _ => rfl) hLo rfl (by rfl) (by rfl) (by rfl) Try.func16 rfl rfl (fun b G hb ho => args2 (ev_on hLo 0 rfl HS16.1 rfl (hb 0 (by rfl))) (ev_on hLo 1 rfl HS16.1 rfl (hb 1 (by rfl)))) (fun G w hw hr => app_goes hr (by omega) (by omega) (by omega) (by omega))) ?_
              refine steps_cons (st_run 3 _ rfl rfl hLo rfl rfl (fun _ _ _ _ => rfl) (fun b G w hb ho => exec_move (.inr rfl) (ev_on hLo 2 rfl HS16.1 rfl (hb 2 (by rfl))))) ?_
              exact steps_nil
            clear hLo
            intro G a17 w17 hS hH
            have HS17 : Sl a17 129 [(0, .slice (al0) (len0) (cap0)), (1, .slice (al1) (len1) (cap1)), (2, .int .i64 (nn)), (3, .int .i64 (kk)), (22, .bool false), (23, .slice (al0) (len0) (cap0)), (24, .int .i64 ((len0 : Int))), (25, .int .i64 ((len0 : Int))), (9, .int .i64 (((sumR l0 : Nat) : Int))), (26, .bool false), (38, .bool false), (12, .pointer (some ⟨g, 0, none⟩)), (44, .slice (al0) (len0) (cap0)), (45, .int .i64 ((len0 : Int))), (46, .int .i64 ((j : Int))), (13, .int .i64 ((su : Int))), (14, .int .i64 ((j : Int))), (47, .bool true), (15, .int .i64 ((j : Int))), (16, .string (y)), (17, .int .i64 (50))] := hS
            have HH17 : Held ⟨w, []⟩ w17 [⟨g, (), 6, spC ⟨(catR (l0.take j) ++ lineS y).extract 0 (sy + kp kk ((catR (l0.take j) ++ lineS y).size - sy)), sy + kp kk ((catR (l0.take j) ++ lineS y).size - sy), true, ac + 1, 0, kk⟩, 53⟩] := hH
            clear hS hH HS16 HH16
            refine then_ ?_
            refine wp_seq ?_
            have hLo : LOk [(0, 54, .val (.int .i64 ((j : Int)))), (1, 55, .val (.int .i64 (((j + 1 : Nat) : Int)))), (2, 14, .val (.int .i64 (((j + 1 : Nat) : Int))))] := lok (by rfl) (by rfl)
            refine plain_ (wE := ⟨w, []⟩) (sz := 129) (n := 3) [0, 1, 3] [(0, .val (.slice (al0) (len0) (cap0))), (1, .val (.slice (al1) (len1) (cap1))), (2, .val (.int .i64 (nn))), (3, .val (.int .i64 (kk))), (22, .val (.bool false)), (23, .val (.slice (al0) (len0) (cap0))), (24, .val (.int .i64 ((len0 : Int)))), (25, .val (.int .i64 ((len0 : Int)))), (9, .val (.int .i64 (((sumR l0 : Nat) : Int)))), (26, .val (.bool false)), (38, .val (.bool false)), (12, .val (.pointer (some ⟨g, 0, none⟩))), (44, .val (.slice (al0) (len0) (cap0))), (45, .val (.int .i64 ((len0 : Int)))), (46, .val (.int .i64 ((j : Int)))), (13, .val (.int .i64 ((su : Int)))), (47, .val (.bool true)), (15, .val (.int .i64 ((j : Int)))), (16, .val (.string (y))), (17, .val (.int .i64 (50))), (14, .val (.int .i64 (((j + 1 : Nat) : Int))))] [(0, 54, .val (.int .i64 ((j : Int)))), (1, 55, .val (.int .i64 (((j + 1 : Nat) : Int)))), (2, 14, .val (.int .i64 (((j + 1 : Nat) : Int))))] [⟨g, none, none, (), 6, spC ⟨(catR (l0.take j) ++ lineS y).extract 0 (sy + kp kk ((catR (l0.take j) ++ lineS y).size - sy)), sy + kp kk ((catR (l0.take j) ++ lineS y).size - sy), true, ac + 1, 0, kk⟩, spC ⟨(catR (l0.take j) ++ lineS y).extract 0 (sy + kp kk ((catR (l0.take j) ++ lineS y).size - sy)), sy + kp kk ((catR (l0.take j) ++ lineS y).size - sy), true, ac + 1, 0, kk⟩, 53⟩] rfl (by rfl) HH17 rfl rfl hLo rfl HS17 (slS 0 rfl rfl (slS 1 rfl rfl (slS 2 rfl rfl (slS 3 rfl rfl (slS 4 rfl rfl (slS 5 rfl rfl (slS 6 rfl rfl (slS 7 rfl rfl (slS 8 rfl rfl (slS 9 rfl rfl (slS 10 rfl rfl (slS 11 rfl rfl (slS 12 rfl rfl (slS 13 rfl rfl (slS 14 rfl rfl (slS 15 rfl rfl (slS 17 rfl rfl (slS 18 rfl rfl (slS 19 rfl rfl (slS 20 rfl rfl (slL 2 (d := 2) rfl (trivial)))))))))))))))))))))) ?_ ?_
            · show ∀ i ∈ [0, 1, 2], _
              refine steps_cons (st_run 0 _ rfl rfl hLo rfl rfl (fun _ _ _ _ => rfl) (fun b G w hb ho => exec_move (.inl rfl) (ev_off rfl (HS17.get 18 rfl)))) ?_
              refine steps_cons (st_run 1 _ rfl rfl hLo rfl rfl (fun _ _ _ _ => rfl) (fun b G w hb ho => exec_bin rfl (ev_on hLo 0 rfl HS17.1 rfl (hb 0 (by rfl))) (rfl) (rb_add (w_nat (by omega) (by omega)) _ _ _))) ?_
              refine steps_cons (st_run 2 _ rfl rfl hLo rfl rfl (fun _ _ _ _ => rfl) (fun b G w hb ho => exec_move (.inr rfl) (ev_on hLo 1 rfl HS17.1 rfl (hb 1 (by rfl))))) ?_
              exact steps_nil
            clear hLo
            intro G a18 w18 hS hH
            have HS18 : Sl a18 129 [(0, .slice (al0) (len0) (cap0)), (1, .slice (al1) (len1) (cap1)), (2, .int .i64 (nn)), (3, .int .i64 (kk)), (22, .bool false), (23, .slice (al0) (len0) (cap0)), (24, .int .i64 ((len0 : Int))), (25, .int .i64 ((len0 : Int))), (9, .int .i64 (((sumR l0 : Nat) : Int))), (26, .bool false), (38, .bool false), (12, .pointer (some ⟨g, 0, none⟩)), (44, .slice (al0) (len0) (cap0)), (45, .int .i64 ((len0 : Int))), (46, .int .i64 ((j : Int))), (13, .int .i64 ((su : Int))), (47, .bool true), (15, .int .i64 ((j : Int))), (16, .string (y)), (17, .int .i64 (50)), (14, .int .i64 (((j + 1 : Nat) : Int)))] := hS
            have HH18 : Held ⟨w, []⟩ w18 [⟨g, (), 6, spC ⟨(catR (l0.take j) ++ lineS y).extract 0 (sy + kp kk ((catR (l0.take j) ++ lineS y).size - sy)), sy + kp kk ((catR (l0.take j) ++ lineS y).size - sy), true, ac + 1, 0, kk⟩, 53⟩] := hH
            clear hS hH HS17 HH17
            refine then_ ?_
            refine wp_seq ?_
            refine wp_seq ?_
            have hLo : LOk [(0, 56, .val (.int .i64 (50))), (1, 57, .val (.bool true))] := lok (by rfl) (by rfl)
            refine plain_ (wE := ⟨w, []⟩) (sz := 129) (n := 2) [0, 1] [(0, .val (.slice (al0) (len0) (cap0))), (1, .val (.slice (al1) (len1) (cap1))), (2, .val (.int .i64 (nn))), (3, .val (.int .i64 (kk))), (22, .val (.bool false)), (23, .val (.slice (al0) (len0) (cap0))), (24, .val (.int .i64 ((len0 : Int)))), (25, .val (.int .i64 ((len0 : Int)))), (9, .val (.int .i64 (((sumR l0 : Nat) : Int)))), (26, .val (.bool false)), (38, .val (.bool false)), (12, .val (.pointer (some ⟨g, 0, none⟩))), (44, .val (.slice (al0) (len0) (cap0))), (45, .val (.int .i64 ((len0 : Int)))), (46, .val (.int .i64 ((j : Int)))), (13, .val (.int .i64 ((su : Int)))), (47, .val (.bool true)), (15, .val (.int .i64 ((j : Int)))), (16, .val (.string (y))), (17, .val (.int .i64 (50))), (14, .val (.int .i64 (((j + 1 : Nat) : Int)))), (57, .val (.bool true))] [(0, 56, .val (.int .i64 (50))), (1, 57, .val (.bool true))] [⟨g, none, none, (), 6, spC ⟨(catR (l0.take j) ++ lineS y).extract 0 (sy + kp kk ((catR (l0.take j) ++ lineS y).size - sy)), sy + kp kk ((catR (l0.take j) ++ lineS y).size - sy), true, ac + 1, 0, kk⟩, spC ⟨(catR (l0.take j) ++ lineS y).extract 0 (sy + kp kk ((catR (l0.take j) ++ lineS y).size - sy)), sy + kp kk ((catR (l0.take j) ++ lineS y).size - sy), true, ac + 1, 0, kk⟩, 53⟩] rfl (by rfl) HH18 rfl rfl hLo rfl HS18 (slS 0 rfl rfl (slS 1 rfl rfl (slS 2 rfl rfl (slS 3 rfl rfl (slS 4 rfl rfl (slS 5 rfl rfl (slS 6 rfl rfl (slS 7 rfl rfl (slS 8 rfl rfl (slS 9 rfl rfl (slS 10 rfl rfl (slS 11 rfl rfl (slS 12 rfl rfl (slS 13 rfl rfl (slS 14 rfl rfl (slS 15 rfl rfl (slS 16 rfl rfl (slS 17 rfl rfl (slS 18 rfl rfl (slS 19 rfl rfl (slS 20 rfl rfl (slL 1 (d := 1) rfl (trivial))))))))))))))))))))))) ?_ ?_
            · show ∀ i ∈ [0, 1], _
              refine steps_cons (st_run 0 _ rfl rfl hLo rfl rfl (fun _ _ _ _ => rfl) (fun b G w hb ho => exec_move (.inl rfl) (ev_off rfl (HS18.get 19 rfl)))) ?_
              refine steps_cons (st_run 1 _ rfl rfl hLo rfl rfl (fun _ _ _ _ => rfl) (fun b G w hb ho => exec_bin rfl (ev_on hLo 0 rfl HS18.1 rfl (hb 0 (by rfl))) (rfl) (rb_eql (rfl) _ _ _))) ?_
              exact steps_nil
            clear hLo
            intro G a19 w19 hS hH
            have HS19 : Sl a19 129 [(0, .slice (al0) (len0) (cap0)), (1, .slice (al1) (len1) (cap1)), (2, .int .i64 (nn)), (3, .int .i64 (kk)), (22, .bool false), (23, .slice (al0) (len0) (cap0)), (24, .int .i64 ((len0 : Int))), (25, .int .i64 ((len0 : Int))), (9, .int .i64 (((sumR l0 : Nat) : Int))), (26, .bool false), (38, .bool false), (12, .pointer (some ⟨g, 0, none⟩)), (44, .slice (al0) (len0) (cap0)), (45, .int .i64 ((len0 : Int))), (46, .int .i64 ((j : Int))), (13, .int .i64 ((su : Int))), (47, .bool true), (15, .int .i64 ((j : Int))), (16, .string (y)), (17, .int .i64 (50)), (14, .int .i64 (((j + 1 : Nat) : Int))), (57, .bool true)] := hS
            have HH19 : Held ⟨w, []⟩ w19 [⟨g, (), 6, spC ⟨(catR (l0.take j) ++ lineS y).extract 0 (sy + kp kk ((catR (l0.take j) ++ lineS y).size - sy)), sy + kp kk ((catR (l0.take j) ++ lineS y).size - sy), true, ac + 1, 0, kk⟩, 53⟩] := hH
            clear hS hH HS18 HH18
            refine then_ ?_
            refine wp_cond_true (HS19.get 21 rfl) ?_
            refine wp_exit ?_
            refine then_exit ?_
            refine inBlock_other (by decide) ?_
            refine then_exit ?_
            refine then_exit ?_
            refine inBlock_exit ?_
            refine then_ ?_
            have hS20 : Sl _ 129 [(0, .slice (al0) (len0) (cap0)), (1, .slice (al1) (len1) (cap1)), (2, .int .i64 (nn)), (3, .int .i64 (kk)), (22, .bool false), (23, .slice (al0) (len0) (cap0)), (24, .int .i64 ((len0 : Int))), (25, .int .i64 ((len0 : Int))), (9, .int .i64 (((sumR l0 : Nat) : Int))), (26, .bool false), (38, .bool false), (12, .pointer (some ⟨g, 0, none⟩)), (13, .int .i64 ((su : Int))), (14, .int .i64 (((j + 1 : Nat) : Int)))] := sl_keep HS19 [0, 1, 2, 3, 4, 5, 6, 7, 8, 9, 10, 11, 15, 20] (by rfl)
            have hH20 : Held ⟨w, []⟩ _ [⟨g, (), 6, spC ⟨(catR (l0.take j) ++ lineS y).extract 0 (sy + kp kk ((catR (l0.take j) ++ lineS y).size - sy)), sy + kp kk ((catR (l0.take j) ++ lineS y).size - sy), true, ac + 1, 0, kk⟩, 53⟩] := held_keep HH19 1 rfl
            rw [← hcat] at hH20
            exact ⟨su, j + 1, ⟨(catR (l0.take (j + 1))).extract 0 (sy + kp kk ((catR (l0.take (j + 1))).size - sy)), sy + kp kk ((catR (l0.take (j + 1))).size - sy), true, ac + 1, 0, kk⟩, lost_off (Nat.le_succ_of_le hsu) (by omega) hs (by omega) (by omega) (by omega), hS20, hH20⟩
          · skip
            refine wp_seq ?_
            have hLo : LOk [(0, 51, .val (.pointer (some ⟨g, 0, none⟩))), (1, 52, .val (.string (y))), (2, 53, .val (.int .i64 (0))), (3, 17, .val (.int .i64 (0)))] := lok (by rfl) (by rfl)
            refine plain_ (wE := ⟨w, []⟩) (sz := 129) (n := 4) [0, 1, 3, 7] [(0, .val (.slice (al0) (len0) (cap0))), (1, .val (.slice (al1) (len1) (cap1))), (2, .val (.int .i64 (nn))), (3, .val (.int .i64 (kk))), (22, .val (.bool false)), (23, .val (.slice (al0) (len0) (cap0))), (24, .val (.int .i64 ((len0 : Int)))), (25, .val (.int .i64 ((len0 : Int)))), (9, .val (.int .i64 (((sumR l0 : Nat) : Int)))), (26, .val (.bool false)), (38, .val (.bool false)), (12, .val (.pointer (some ⟨g, 0, none⟩))), (44, .val (.slice (al0) (len0) (cap0))), (45, .val (.int .i64 ((len0 : Int)))), (46, .val (.int .i64 ((j : Int)))), (13, .val (.int .i64 ((su : Int)))), (14, .val (.int .i64 ((j : Int)))), (47, .val (.bool true)), (15, .val (.int .i64 ((j : Int)))), (16, .val (.string (y))), (17, .val (.int .i64 (0)))] [(0, 51, .val (.pointer (some ⟨g, 0, none⟩))), (1, 52, .val (.string (y))), (2, 53, .val (.int .i64 (0))), (3, 17, .val (.int .i64 (0)))] [⟨g, none, some 2, (), 6, spC ⟨catR (l0.take j), sy, false, ac, inn, kk⟩, spC ⟨(catR (l0.take j) ++ lineS y), sy, false, ac + 1, inn - 1, kk⟩, 53⟩] rfl (by rfl) HH16 rfl rfl hLo rfl HS16 (slS 0 rfl rfl (slS 1 rfl rfl (slS 2 rfl rfl (slS 3 rfl rfl (slS 4 rfl rfl (slS 5 rfl rfl (slS 6 rfl rfl (slS 7 rfl rfl (slS 8 rfl rfl (slS 9 rfl rfl (slS 10 rfl rfl (slS 11 rfl rfl (slS 12 rfl rfl (slS 13 rfl rfl (slS 14 rfl rfl (slS 15 rfl rfl (slS 16 rfl rfl (slS 17 rfl rfl (slS 18 rfl rfl (slS 19 rfl rfl (slL 3 (d := 3) rfl (trivial)))))))))))))))))))))) ?_ ?_
            · show ∀ i ∈ [0, 1, 2, 3], _
              refine steps_cons (st_run 0 _ rfl rfl hLo rfl rfl (fun _ _ _ _ => rfl) (fun b G w hb ho => exec_move (.inl rfl) (ev_off rfl (HS16.get 11 rfl)))) ?_
              refine steps_cons (st_run 1 _ rfl rfl hLo rfl rfl (fun _ _ _ _ => rfl) (fun b G w hb ho => exec_move (.inl rfl) (ev_off rfl (HS16.get 19 rfl)))) ?_
              refine steps_cons (st_callM 2 0 _ _ (fun G => #[.pointer (some ⟨g, 0, none⟩), .string (y)]) rfl rfl rfl rfl rfl (fun _ _ _ _ => rfl) hLo rfl (by rfl) (by rfl) (by rfl) Try.func16 rfl rfl (fun b G hb ho => args2 (ev_on hLo 0 rfl HS16.1 rfl (hb 0 (by rfl))) (ev_on hLo 1 rfl HS16.1 rfl (hb 1 (by rfl)))) (fun G w hw hr => app_stays hr (by omega) (by omega) (by omega) hinn h1)) ?_
              refine steps_cons (st_run 3 _ rfl rfl hLo rfl rfl (fun _ _ _ _ => rfl) (fun b G w hb ho => exec_move (.inr rfl) (ev_on hLo 2 rfl HS16.1 rfl (hb 2 (by rfl))))) ?_
              exact steps_nil
            clear hLo
            intro G a21 w21 hS hH
            have HS21 : Sl a21 129 [(0, .slice (al0) (len0) (cap0)), (1, .slice (al1) (len1) (cap1)), (2, .int .i64 (nn)), (3, .int .i64 (kk)), (22, .bool false), (23, .slice (al0) (len0) (cap0)), (24, .int .i64 ((len0 : Int))), (25, .int .i64 ((len0 : Int))), (9, .int .i64 (((sumR l0 : Nat) : Int))), (26, .bool false), (38, .bool false), (12, .pointer (some ⟨g, 0, none⟩)), (44, .slice (al0) (len0) (cap0)), (45, .int .i64 ((len0 : Int))), (46, .int .i64 ((j : Int))), (13, .int .i64 ((su : Int))), (14, .int .i64 ((j : Int))), (47, .bool true), (15, .int .i64 ((j : Int))), (16, .string (y)), (17, .int .i64 (0))] := hS
            have HH21 : Held ⟨w, []⟩ w21 [⟨g, (), 6, spC ⟨(catR (l0.take j) ++ lineS y), sy, false, ac + 1, inn - 1, kk⟩, 53⟩] := hH
            clear hS hH HS16 HH16
            refine then_ ?_
            refine wp_seq ?_
            have hLo : LOk [(0, 54, .val (.int .i64 ((j : Int)))), (1, 55, .val (.int .i64 (((j + 1 : Nat) : Int)))), (2, 14, .val (.int .i64 (((j + 1 : Nat) : Int))))] := lok (by rfl) (by rfl)
            refine plain_ (wE := ⟨w, []⟩) (sz := 129) (n := 3) [0, 1, 3] [(0, .val (.slice (al0) (len0) (cap0))), (1, .val (.slice (al1) (len1) (cap1))), (2, .val (.int .i64 (nn))), (3, .val (.int .i64 (kk))), (22, .val (.bool false)), (23, .val (.slice (al0) (len0) (cap0))), (24, .val (.int .i64 ((len0 : Int)))), (25, .val (.int .i64 ((len0 : Int)))), (9, .val (.int .i64 (((sumR l0 : Nat) : Int)))), (26, .val (.bool false)), (38, .val (.bool false)), (12, .val (.pointer (some ⟨g, 0, none⟩))), (44, .val (.slice (al0) (len0) (cap0))), (45, .val (.int .i64 ((len0 : Int)))), (46, .val (.int .i64 ((j : Int)))), (13, .val (.int .i64 ((su : Int)))), (47, .val (.bool true)), (15, .val (.int .i64 ((j : Int)))), (16, .val (.string (y))), (17, .val (.int .i64 (0))), (14, .val (.int .i64 (((j + 1 : Nat) : Int))))] [(0, 54, .val (.int .i64 ((j : Int)))), (1, 55, .val (.int .i64 (((j + 1 : Nat) : Int)))), (2, 14, .val (.int .i64 (((j + 1 : Nat) : Int))))] [⟨g, none, none, (), 6, spC ⟨(catR (l0.take j) ++ lineS y), sy, false, ac + 1, inn - 1, kk⟩, spC ⟨(catR (l0.take j) ++ lineS y), sy, false, ac + 1, inn - 1, kk⟩, 53⟩] rfl (by rfl) HH21 rfl rfl hLo rfl HS21 (slS 0 rfl rfl (slS 1 rfl rfl (slS 2 rfl rfl (slS 3 rfl rfl (slS 4 rfl rfl (slS 5 rfl rfl (slS 6 rfl rfl (slS 7 rfl rfl (slS 8 rfl rfl (slS 9 rfl rfl (slS 10 rfl rfl (slS 11 rfl rfl (slS 12 rfl rfl (slS 13 rfl rfl (slS 14 rfl rfl (slS 15 rfl rfl (slS 17 rfl rfl (slS 18 rfl rfl (slS 19 rfl rfl (slS 20 rfl rfl (slL 2 (d := 2) rfl (trivial)))))))))))))))))))))) ?_ ?_
            · show ∀ i ∈ [0, 1, 2], _
              refine steps_cons (st_run 0 _ rfl rfl hLo rfl rfl (fun _ _ _ _ => rfl) (fun b G w hb ho => exec_move (.inl rfl) (ev_off rfl (HS21.get 18 rfl)))) ?_
              refine steps_cons (st_run 1 _ rfl rfl hLo rfl rfl (fun _ _ _ _ => rfl) (fun b G w hb ho => exec_bin rfl (ev_on hLo 0 rfl HS21.1 rfl (hb 0 (by rfl))) (rfl) (rb_add (w_nat (by omega) (by omega)) _ _ _))) ?_
              refine steps_cons (st_run 2 _ rfl rfl hLo rfl rfl (fun _ _ _ _ => rfl) (fun b G w hb ho => exec_move (.inr rfl) (ev_on hLo 1 rfl HS21.1 rfl (hb 1 (by rfl))))) ?_
              exact steps_nil
            clear hLo
            intro G a22 w22 hS hH
            have HS22 : Sl a22 129 [(0, .slice (al0) (len0) (cap0)), (1, .slice (al1) (len1) (cap1)), (2, .int .i64 (nn)), (3, .int .i64 (kk)), (22, .bool false), (23, .slice (al0) (len0) (cap0)), (24, .int .i64 ((len0 : Int))), (25, .int .i64 ((len0 : Int))), (9, .int .i64 (((sumR l0 : Nat) : Int))), (26, .bool false), (38, .bool false), (12, .pointer (some ⟨g, 0, none⟩)), (44, .slice (al0) (len0) (cap0)), (45, .int .i64 ((len0 : Int))), (46, .int .i64 ((j : Int))), (13, .int .i64 ((su : Int))), (47, .bool true), (15, .int .i64 ((j : Int))), (16, .string (y)), (17, .int .i64 (0)), (14, .int .i64 (((j + 1 : Nat) : Int)))] := hS
            have HH22 : Held ⟨w, []⟩ w22 [⟨g, (), 6, spC ⟨(catR (l0.take j) ++ lineS y), sy, false, ac + 1, inn - 1, kk⟩, 53⟩] := hH
            clear hS hH HS21 HH21
            refine then_ ?_
            refine wp_seq ?_
            refine wp_seq ?_
            have hLo : LOk [(0, 56, .val (.int .i64 (0))), (1, 57, .val (.bool false))] := lok (by rfl) (by rfl)
            refine plain_ (wE := ⟨w, []⟩) (sz := 129) (n := 2) [0, 1] [(0, .val (.slice (al0) (len0) (cap0))), (1, .val (.slice (al1) (len1) (cap1))), (2, .val (.int .i64 (nn))), (3, .val (.int .i64 (kk))), (22, .val (.bool false)), (23, .val (.slice (al0) (len0) (cap0))), (24, .val (.int .i64 ((len0 : Int)))), (25, .val (.int .i64 ((len0 : Int)))), (9, .val (.int .i64 (((sumR l0 : Nat) : Int)))), (26, .val (.bool false)), (38, .val (.bool false)), (12, .val (.pointer (some ⟨g, 0, none⟩))), (44, .val (.slice (al0) (len0) (cap0))), (45, .val (.int .i64 ((len0 : Int)))), (46, .val (.int .i64 ((j : Int)))), (13, .val (.int .i64 ((su : Int)))), (47, .val (.bool true)), (15, .val (.int .i64 ((j : Int)))), (16, .val (.string (y))), (17, .val (.int .i64 (0))), (14, .val (.int .i64 (((j + 1 : Nat) : Int)))), (57, .val (.bool false))] [(0, 56, .val (.int .i64 (0))), (1, 57, .val (.bool false))] [⟨g, none, none, (), 6, spC ⟨(catR (l0.take j) ++ lineS y), sy, false, ac + 1, inn - 1, kk⟩, spC ⟨(catR (l0.take j) ++ lineS y), sy, false, ac + 1, inn - 1, kk⟩, 53⟩] rfl (by rfl) HH22 rfl rfl hLo rfl HS22 (slS 0 rfl rfl (slS 1 rfl rfl (slS 2 rfl rfl (slS 3 rfl rfl (slS 4 rfl rfl (slS 5 rfl rfl (slS 6 rfl rfl (slS 7 rfl rfl (slS 8 rfl rfl (slS 9 rfl rfl (slS 10 rfl rfl (slS 11 rfl rfl (slS 12 rfl rfl (slS 13 rfl rfl (slS 14 rfl rfl (slS 15 rfl rfl (slS 16 rfl rfl (slS 17 rfl rfl (slS 18 rfl rfl (slS 19 rfl rfl (slS 20 rfl rfl (slL 1 (d := 1) rfl (trivial))))))))))))))))))))))) ?_ ?_
            · show ∀ i ∈ [0, 1], _
              refine steps_cons (st_run 0 _ rfl rfl hLo rfl rfl (fun _ _ _ _ => rfl) (fun b G w hb ho => exec_move (.inl rfl) (ev_off rfl (HS22.get 19 rfl)))) ?_
              refine steps_cons (st_run 1 _ rfl rfl hLo rfl rfl (fun _ _ _ _ => rfl) (fun b G w hb ho => exec_bin rfl (ev_on hLo 0 rfl HS22.1 rfl (hb 0 (by rfl))) (rfl) (rb_eql (rfl) _ _ _))) ?_
              exact steps_nil
            clear hLo
            intro G a23 w23 hS hH
            have HS23 : Sl a23 129 [(0, .slice (al0) (len0) (cap0)), (1, .slice (al1) (len1) (cap1)), (2, .int .i64 (nn)), (3, .int .i64 (kk)), (22, .bool false), (23, .slice (al0) (len0) (cap0)), (24, .int .i64 ((len0 : Int))), (25, .int .i64 ((len0 : Int))), (9, .int .i64 (((sumR l0 : Nat) : Int))), (26, .bool false), (38, .bool false), (12, .pointer (some ⟨g, 0, none⟩)), (44, .slice (al0) (len0) (cap0)), (45, .int .i64 ((len0 : Int))), (46, .int .i64 ((j : Int))), (13, .int .i64 ((su : Int))), (47, .bool true), (15, .int .i64 ((j : Int))), (16, .string (y)), (17, .int .i64 (0)), (14, .int .i64 (((j + 1 : Nat) : Int))), (57, .bool false)] := hS
            have HH23 : Held ⟨w, []⟩ w23 [⟨g, (), 6, spC ⟨(catR (l0.take j) ++ lineS y), sy, false, ac + 1, inn - 1, kk⟩, 53⟩] := hH
            clear hS hH HS22 HH22
            refine then_ ?_
            refine wp_cond_false (HS23.get 21 rfl) ?_
            refine wp_skip ?_
            refine then_ ?_
            obtain ⟨r4, hr4⟩ : ∃ r : Bool, (decide (((j : Int) : Int) < (len1 : Int))) = r := ⟨_, rfl⟩
            cases r4
            · skip
              refine wp_seq ?_
              have hLo : LOk [(0, 58, .val (.int .i64 ((j : Int)))), (1, 59, .val (.slice (al1) (len1) (cap1))), (2, 60, .val (.int .i64 ((len1 : Int)))), (3, 61, .val (.bool false)), (4, 62, .val (.bool false)), (5, 63, .val (undef)), (6, 64, .val (undef)), (7, 65, .val (undef)), (8, 66, .val (undef)), (9, 67, .val (.bool false))] := lok (by rfl) (by rfl)
              refine plain_ (wE := ⟨w, []⟩) (sz := 129) (n := 10) [0, 1, 3, 7, 15, 31, 63, 127, 255, 511] [(0, .val (.slice (al0) (len0) (cap0))), (1, .val (.slice (al1) (len1) (cap1))), (2, .val (.int .i64 (nn))), (3, .val (.int .i64 (kk))), (22, .val (.bool false)), (23, .val (.slice (al0) (len0) (cap0))), (24, .val (.int .i64 ((len0 : Int)))), (25, .val (.int .i64 ((len0 : Int)))), (9, .val (.int .i64 (((sumR l0 : Nat) : Int)))), (26, .val (.bool false)), (38, .val (.bool false)), (12, .val (.pointer (some ⟨g, 0, none⟩))), (44, .val (.slice (al0) (len0) (cap0))), (45, .val (.int .i64 ((len0 : Int)))), (46, .val (.int .i64 ((j : Int)))), (13, .val (.int .i64 ((su : Int)))), (47, .val (.bool true)), (15, .val (.int .i64 ((j : Int)))), (16, .val (.string (y))), (17, .val (.int .i64 (0))), (14, .val (.int .i64 (((j + 1 : Nat) : Int)))), (57, .val (.bool false)), (67, .val (.bool false))] [(0, 58, .val (.int .i64 ((j : Int)))), (1, 59, .val (.slice (al1) (len1) (cap1))), (2, 60, .val (.int .i64 ((len1 : Int)))), (3, 61, .val (.bool false)), (4, 62, .val (.bool false)), (5, 63, .val (undef)), (6, 64, .val (undef)), (7, 65, .val (undef)), (8, 66, .val (undef)), (9, 67, .val (.bool false))] [⟨g, none, none, (), 6, spC ⟨(catR (l0.take j) ++ lineS y), sy, false, ac + 1, inn - 1, kk⟩, spC ⟨(catR (l0.take j) ++ lineS y), sy, false, ac + 1, inn - 1, kk⟩, 53⟩] rfl (by rfl) HH23 rfl rfl hLo rfl HS23 (slS 0 rfl rfl (slS 1 rfl rfl (slS 2 rfl rfl (slS 3 rfl rfl (slS 4 rfl rfl (slS 5 rfl rfl (slS 6 rfl rfl (slS 7 rfl rfl (slS 8 rfl rfl (slS 9 rfl rfl (slS 10 rfl rfl (slS 11 rfl rfl (slS 12 rfl rfl (slS 13 rfl rfl (slS 14 rfl rfl (slS 15 rfl rfl (slS 16 rfl rfl (slS 17 rfl rfl (slS 18 rfl rfl (slS 19 rfl rfl (slS 20 rfl rfl (slS 21 rfl rfl (slL 9 (d := 9) rfl (trivial)))))))))))))))))))))))) ?_ ?_
              · show ∀ i ∈ [0, 1, 2, 3, 4, 5, 6, 7, 8, 9], _
                refine steps_cons (st_run 0 _ rfl rfl hLo rfl rfl (fun _ _ _ _ => rfl) (fun b G w hb ho => exec_move (.inl rfl) (ev_off rfl (HS23.get 17 rfl)))) ?_
                refine steps_cons (st_run 1 _ rfl rfl hLo rfl rfl (fun _ _ _ _ => rfl) (fun b G w hb ho => exec_move (.inl rfl) (ev_off rfl (HS23.get 1 rfl)))) ?_
                refine steps_cons (st_run 2 _ rfl rfl hLo rfl rfl (fun _ _ _ _ => rfl) (fun b G w hb ho => exec_lenL Try.underlying41 rfl (ev_on hLo 1 rfl HS23.1 rfl (hb 1 (by rfl))))) ?_
                refine steps_cons (st_run 3 _ rfl rfl hLo rfl rfl (fun _ _ _ _ => rfl) (fun b G w hb ho => exec_bin rfl (ev_on hLo 0 rfl HS23.1 rfl (hb 0 (by rfl))) (ev_on hLo 2 rfl HS23.1 rfl (hb 2 (by rfl))) (rb_lss hr4 _ _ _))) ?_
                refine steps_cons (st_run 4 _ rfl rfl hLo rfl rfl (fun _ _ _ _ => rfl) (fun b G w hb ho => exec_move (.inl rfl) (ev_on hLo 3 rfl HS23.1 rfl (hb 3 (by rfl))))) ?_
                refine steps_cons (st_skip 5 rfl rfl hLo rfl rfl (fun b G hb ho => wanted_is rfl rfl rfl HS23.1 rfl (ev_on hLo 4 rfl HS23.1 rfl (hb 4 (by rfl))) rfl)) ?_
                refine steps_cons (st_skip 6 rfl rfl hLo rfl rfl (fun b G hb ho => wanted_is rfl rfl rfl HS23.1 rfl (ev_on hLo 4 rfl HS23.1 rfl (hb 4 (by rfl))) rfl)) ?_
                refine steps_cons (st_skip 7 rfl rfl hLo rfl rfl (fun b G hb ho => wanted_is rfl rfl rfl HS23.1 rfl (ev_on hLo 4 rfl HS23.1 rfl (hb 4 (by rfl))) rfl)) ?_
                refine steps_cons (st_skip 8 rfl rfl hLo rfl rfl (fun b G hb ho => wanted_is rfl rfl rfl HS23.1 rfl (ev_on hLo 4 rfl HS23.1 rfl (hb 4 (by rfl))) rfl)) ?_
                refine steps_cons (st_run 9 _ rfl rfl hLo rfl rfl (fun _ _ _ _ => rfl) (fun b G w hb ho => exec_pick rfl (ev_on hLo 4 rfl HS23.1 rfl (hb 4 (by rfl))) (rfl))) ?_
                exact steps_nil
              clear hLo
              intro G a24 w24 hS hH
              have HS24 : Sl a24 129 [(0, .slice (al0) (len0) (cap0)), (1, .slice (al1) (len1) (cap1)), (2, .int .i64 (nn)), (3, .int .i64 (kk)), (22, .bool false), (23, .slice (al0) (len0) (cap0)), (24, .int .i64 ((len0 : Int))), (25, .int .i64 ((len0 : Int))), (9, .int .i64 (((sumR l0 : Nat) : Int))), (26, .bool false), (38, .bool false), (12, .pointer (some ⟨g, 0, none⟩)), (44, .slice (al0) (len0) (cap0)), (45, .int .i64 ((len0 : Int))), (46, .int .i64 ((j : Int))), (13, .int .i64 ((su : Int))), (47, .bool true), (15, .int .i64 ((j : Int))), (16, .string (y)), (17, .int .i64 (0)), (14, .int .i64 (((j + 1 : Nat) : Int))), (57, .bool false), (67, .bool false)] := hS
              have HH24 : Held ⟨w, []⟩ w24 [⟨g, (), 6, spC ⟨(catR (l0.take j) ++ lineS y), sy, false, ac + 1, inn - 1, kk⟩, 53⟩] := hH
              clear hS hH HS23 HH23
              refine then_ ?_
              refine wp_cond_false (HS24.get 22 rfl) ?_
              refine wp_skip ?_
              refine inBlock_normal ?_
              refine then_ ?_
              have hLo : LOk [(0, 73, .val (.int .i64 (((j + 1 : Nat) : Int)))), (1, 46, .val (.int .i64 (((j + 1 : Nat) : Int))))] := lok (by rfl) (by rfl)
              refine plain_ (wE := ⟨w, []⟩) (sz := 129) (n := 2) [0, 1] [(0, .val (.slice (al0) (len0) (cap0))), (1, .val (.slice (al1) (len1) (cap1))), (2, .val (.int .i64 (nn))), (3, .val (.int .i64 (kk))), (22, .val (.bool false)), (23, .val (.slice (al0) (len0) (cap0))), (24, .val (.int .i64 ((len0 : Int)))), (25, .val (.int .i64 ((len0 : Int)))), (9, .val (.int .i64 (((sumR l0 : Nat) : Int)))), (26, .val (.bool false)), (38, .val (.bool false)), (12, .val (.pointer (some ⟨g, 0, none⟩))), (44, .val (.slice (al0) (len0) (cap0))), (45, .val (.int .i64 ((len0 : Int)))), (13, .val (.int .i64 ((su : Int)))), (47, .val (.bool true)), (15, .val (.int .i64 ((j : Int)))), (16, .val (.string (y))), (17, .val (.int .i64 (0))), (14, .val (.int .i64 (((j + 1 : Nat) : Int)))), (57, .val (.bool false)), (67, .val (.bool false)), (46, .val (.int .i64 (((j + 1 : Nat) : Int))))] [(0, 73, .val (.int .i64 (((j + 1 : Nat) : Int)))), (1, 46, .val (.int .i64 (((j + 1 : Nat) : Int))))] [⟨g, none, none, (), 6, spC ⟨(catR (l0.take j) ++ lineS y), sy, false, ac + 1, inn - 1, kk⟩, spC ⟨(catR (l0.take j) ++ lineS y), sy, false, ac + 1, inn - 1, kk⟩, 53⟩] rfl (by rfl) HH24 rfl rfl hLo rfl HS24 (slS 0 rfl rfl (slS 1 rfl rfl (slS 2 rfl rfl (slS 3 rfl rfl (slS 4 rfl rfl (slS 5 rfl rfl (slS 6 rfl rfl (slS 7 rfl rfl (slS 8 rfl rfl (slS 9 rfl rfl (slS 10 rfl rfl (slS 11 rfl rfl (slS 12 rfl rfl (slS 13 rfl rfl (slS 15 rfl rfl (slS 16 rfl rfl (slS 17 rfl rfl (slS 18 rfl rfl (slS 19 rfl rfl (slS 20 rfl rfl (slS 21 rfl rfl (slS 22 rfl rfl (slL 1 (d := 1) rfl (trivial)))))))))))))))))))))))) ?_ ?_
              · show ∀ i ∈ [0, 1], _
                refine steps_cons (st_run 0 _ rfl rfl hLo rfl rfl (fun _ _ _ _ => rfl) (fun b G w hb ho => exec_bin rfl (ev_pre hLo 1 rfl (ho 1 (by rfl)) (HS24.get 14 rfl)) (rfl) (rb_add (w_nat (by omega) (by omega)) _ _ _))) ?_
                refine steps_cons (st_run 1 _ rfl rfl hLo rfl rfl (fun _ _ _ _ => rfl) (fun b G w hb ho => exec_move (.inl rfl) (ev_on hLo 0 rfl HS24.1 rfl (hb 0 (by rfl))))) ?_
                exact steps_nil
              clear hLo
              intro G a25 w25 hS hH
              have HS25 : Sl a25 129 [(0, .slice (al0) (len0) (cap0)), (1, .slice (al1) (len1) (cap1)), (2, .int .i64 (nn)), (3, .int .i64 (kk)), (22, .bool false), (23, .slice (al0) (len0) (cap0)), (24, .int .i64 ((len0 : Int))), (25, .int .i64 ((len0 : Int))), (9, .int .i64 (((sumR l0 : Nat) : Int))), (26, .bool false), (38, .bool false), (12, .pointer (some ⟨g, 0, none⟩)), (44, .slice (al0) (len0) (cap0)), (45, .int .i64 ((len0 : Int))), (13, .int .i64 ((su : Int))), (47, .bool true), (15, .int .i64 ((j : Int))), (16, .string (y)), (17, .int .i64 (0)), (14, .int .i64 (((j + 1 : Nat) : Int))), (57, .bool false), (67, .bool false), (46, .int .i64 (((j + 1 : Nat) : Int)))] := hS
              have HH25 : Held ⟨w, []⟩ w25 [⟨g, (), 6, spC ⟨(catR (l0.take j) ++ lineS y), sy, false, ac + 1, inn - 1, kk⟩, 53⟩] := hH
              clear hS hH HS24 HH24
              refine then_ ?_
              have hSq1' : Sl _ 129 [(0, .slice (al0) (len0) (cap0)), (1, .slice (al1) (len1) (cap1)), (2, .int .i64 (nn)), (3, .int .i64 (kk)), (22, .bool false), (23, .slice (al0) (len0) (cap0)), (24, .int .i64 ((len0 : Int))), (25, .int .i64 ((len0 : Int))), (9, .int .i64 (((sumR l0 : Nat) : Int))), (26, .bool false), (38, .bool false), (12, .pointer (some ⟨g, 0, none⟩)), (44, .slice (al0) (len0) (cap0)), (45, .int .i64 ((len0 : Int))), (46, .int .i64 (((j + 1 : Nat) : Int))), (13, .int .i64 ((su : Int))), (14, .int .i64 (((j + 1 : Nat) : Int)))] := sl_keep HS25 [0, 1, 2, 3, 4, 5, 6, 7, 8, 9, 10, 11, 12, 13, 22, 14, 19] (by rfl)
              have hHq1' : Held ⟨w, []⟩ _ [⟨g, (), 6, spC ⟨(catR (l0.take j) ++ lineS y), sy, false, ac + 1, inn - 1, kk⟩, 53⟩] := held_keep HH25 1 rfl
              rw [← hcat] at hHq1'
              exact ⟨⟨j + 1, su, sy, ac + 1, inn - 1, by omega, Nat.le_succ_of_le hsu, hs, (by omega), by omega, by omega, hSq1', hHq1'⟩, by rw [(hSq1'.get 14 rfl)]; show len0 - (((j + 1 : Nat) : Int)).toNat < len0 - j; omega⟩
            · skip
              have hltb : j < len1 := by have := of_decide_eq_true hr4; omega
              obtain ⟨bb, hbb⟩ : ∃ x, l1[j]? = some x := ⟨_, List.getElem?_eq_getElem (by rw [hJ.z_len]; exact hltb)⟩
              obtain ⟨adb, hadb, hcellb⟩ := b_cell hJ.z_C hbb
              refine wp_seq ?_
              have hLo : LOk [(0, 58, .val (.int .i64 ((j : Int)))), (1, 59, .val (.slice (al1) (len1) (cap1))), (2, 60, .val (.int .i64 ((len1 : Int)))), (3, 61, .val (.bool true)), (4, 62, .val (.bool true)), (5, 63, .val (.slice (al1) (len1) (cap1))), (6, 64, .val (.int .i64 ((j : Int)))), (7, 65, .val (.pointer (some (adb.add (j * 1))))), (8, 66, .val (.bool bb)), (9, 67, .val (.bool bb))] := lok (by rfl) (by rfl)
              refine plain_ (wE := ⟨w, []⟩) (sz := 129) (n := 10) [0, 1, 3, 7, 15, 31, 63, 127, 255, 511] [(0, .val (.slice (al0) (len0) (cap0))), (1, .val (.slice (al1) (len1) (cap1))), (2, .val (.int .i64 (nn))), (3, .val (.int .i64 (kk))), (22, .val (.bool false)), (23, .val (.slice (al0) (len0) (cap0))), (24, .val (.int .i64 ((len0 : Int)))), (25, .val (.int .i64 ((len0 : Int)))), (9, .val (.int .i64 (((sumR l0 : Nat) : Int)))), (26, .val (.bool false)), (38, .val (.bool false)), (12, .val (.pointer (some ⟨g, 0, none⟩))), (44, .val (.slice (al0) (len0) (cap0))), (45, .val (.int .i64 ((len0 : Int)))), (46, .val (.int .i64 ((j : Int)))), (13, .val (.int .i64 ((su : Int)))), (47, .val (.bool true)), (15, .val (.int .i64 ((j : Int)))), (16, .val (.string (y))), (17, .val (.int .i64 (0))), (14, .val (.int .i64 (((j + 1 : Nat) : Int)))), (57, .val (.bool false)), (67, .val (.bool bb))] [(0, 58, .val (.int .i64 ((j : Int)))), (1, 59, .val (.slice (al1) (len1) (cap1))), (2, 60, .val (.int .i64 ((len1 : Int)))), (3, 61, .val (.bool true)), (4, 62, .val (.bool true)), (5, 63, .val (.slice (al1) (len1) (cap1))), (6, 64, .val (.int .i64 ((j : Int)))), (7, 65, .val (.pointer (some (adb.add (j * 1))))), (8, 66, .val (.bool bb)), (9, 67, .val (.bool bb))] [⟨g, none, none, (), 6, spC ⟨(catR (l0.take j) ++ lineS y), sy, false, ac + 1, inn - 1, kk⟩, spC ⟨(catR (l0.take j) ++ lineS y), sy, false, ac + 1, inn - 1, kk⟩, 53⟩] rfl (by rfl) HH23 rfl rfl hLo rfl HS23 (slS 0 rfl rfl (slS 1 rfl rfl (slS 2 rfl rfl (slS 3 rfl rfl (slS 4 rfl rfl (slS 5 rfl rfl (slS 6 rfl rfl (slS 7 rfl rfl (slS 8 rfl rfl (slS 9 rfl rfl (slS 10 rfl rfl (slS 11 rfl rfl (slS 12 rfl rfl (slS 13 rfl rfl (slS 14 rfl rfl (slS 15 rfl rfl (slS 16 rfl rfl (slS 17 rfl rfl (slS 18 rfl rfl (slS 19 rfl rfl (slS 20 rfl rfl (slS 21 rfl rfl (slL 9 (d := 9) rfl (trivial)))))))))))))))))))))))) ?_ ?_
              · show ∀ i ∈ [0, 1, 2, 3, 4, 5, 6, 7, 8, 9], _
                refine steps_cons (st_run 0 _ rfl rfl hLo rfl rfl (fun _ _ _ _ => rfl) (fun b G w hb ho => exec_move (.inl rfl) (ev_off rfl (HS23.get 17 rfl)))) ?_
                refine steps_cons (st_run 1 _ rfl rfl hLo rfl rfl (fun _ _ _ _ => rfl) (fun b G w hb ho => exec_move (.inl rfl) (ev_off rfl (HS23.get 1 rfl)))) ?_
                refine steps_cons (st_run 2 _ rfl rfl hLo rfl rfl (fun _ _ _ _ => rfl) (fun b G w hb ho => exec_lenL Try.underlying41 rfl (ev_on hLo 1 rfl HS23.1 rfl (hb 1 (by rfl))))) ?_
                refine steps_cons (st_run 3 _ rfl rfl hLo rfl rfl (fun _ _ _ _ => rfl) (fun b G w hb ho => exec_bin rfl (ev_on hLo 0 rfl HS23.1 rfl (hb 0 (by rfl))) (ev_on hLo 2 rfl HS23.1 rfl (hb 2 (by rfl))) (rb_lss hr4 _ _ _))) ?_
                refine steps_cons (st_run 4 _ rfl rfl hLo rfl rfl (fun _ _ _ _ => rfl) (fun b G w hb ho => exec_move (.inl rfl) (ev_on hLo 3 rfl HS23.1 rfl (hb 3 (by rfl))))) ?_
                refine steps_cons (st_run 5 _ rfl rfl hLo rfl rfl (fun b G hb ho => wanted_is rfl rfl rfl HS23.1 rfl (ev_on hLo 4 rfl HS23.1 rfl (hb 4 (by rfl))) rfl) (fun b G w hb ho => exec_move (.inl rfl) (ev_off rfl (HS23.get 1 rfl)))) ?_
                refine steps_cons (st_run 6 _ rfl rfl hLo rfl rfl (fun b G hb ho => wanted_is rfl rfl rfl HS23.1 rfl (ev_on hLo 4 rfl HS23.1 rfl (hb 4 (by rfl))) rfl) (fun b G w hb ho => exec_move (.inl rfl) (ev_off rfl (HS23.get 17 rfl)))) ?_
                refine steps_cons (st_run 7 _ rfl rfl hLo rfl rfl (fun b G hb ho => wanted_is rfl rfl rfl HS23.1 rfl (ev_on hLo 4 rfl HS23.1 rfl (hb 4 (by rfl))) rfl) (fun b G w hb ho => exec_indexAddr rfl (ev_on hLo 5 rfl HS23.1 rfl (hb 5 (by rfl))) (ev_on hLo 6 rfl HS23.1 rfl (hb 6 (by rfl))) (index_sl Try.underlying41 (by kernel_rfl) hadb hltb _))) ?_
                refine steps_cons (st_at1 8 (adb.add (j * 1)) _ rfl rfl rfl (fun b G hb ho => wanted_is rfl rfl rfl HS23.1 rfl (ev_on hLo 4 rfl HS23.1 rfl (hb 4 (by rfl))) rfl) hLo rfl rfl Try.underlying4 rfl (wxc hcellb rfl (Below.refl _ w) (fun x hx => by cases hx)) (fun b G hb ho => ev_on hLo 7 rfl HS23.1 rfl (hb 7 (by rfl)))) ?_
                refine steps_cons (st_run 9 _ rfl rfl hLo rfl rfl (fun _ _ _ _ => rfl) (fun b G w hb ho => exec_pick rfl (ev_on hLo 4 rfl HS23.1 rfl (hb 4 (by rfl))) (ev_on hLo 8 rfl HS23.1 rfl (hb 8 (by rfl))))) ?_
                exact steps_nil
              clear hLo
              intro G a26 w26 hS hH
              have HS26 : Sl a26 129 [(0, .slice (al0) (len0) (cap0)), (1, .slice (al1) (len1) (cap1)), (2, .int .i64 (nn)), (3, .int .i64 (kk)), (22, .bool false), (23, .slice (al0) (len0) (cap0)), (24, .int .i64 ((len0 : Int))), (25, .int .i64 ((len0 : Int))), (9, .int .i64 (((sumR l0 : Nat) : Int))), (26, .bool false), (38, .bool false), (12, .pointer (some ⟨g, 0, none⟩)), (44, .slice (al0) (len0) (cap0)), (45, .int .i64 ((len0 : Int))), (46, .int .i64 ((j : Int))), (13, .int .i64 ((su : Int))), (47, .bool true), (15, .int .i64 ((j : Int))), (16, .string (y)), (17, .int .i64 (0)), (14, .int .i64 (((j + 1 : Nat) : Int))), (57, .bool false), (67, .bool bb)] := hS
              have HH26 : Held ⟨w, []⟩ w26 [⟨g, (), 6, spC ⟨(catR (l0.take j) ++ lineS y), sy, false, ac + 1, inn - 1, kk⟩, 53⟩] := hH
              clear hS hH HS23 HH23
              refine then_ ?_
              cases bb
              · skip
                refine wp_cond_false (HS26.get 22 rfl) ?_
                refine wp_skip ?_
                refine inBlock_normal ?_
                refine then_ ?_
                have hLo : LOk [(0, 73, .val (.int .i64 (((j + 1 : Nat) : Int)))), (1, 46, .val (.int .i64 (((j + 1 : Nat) : Int))))] := lok (by rfl) (by rfl)
                refine plain_ (wE := ⟨w, []⟩) (sz := 129) (n := 2) [0, 1] [(0, .val (.slice (al0) (len0) (cap0))), (1, .val (.slice (al1) (len1) (cap1))), (2, .val (.int .i64 (nn))), (3, .val (.int .i64 (kk))), (22, .val (.bool false)), (23, .val (.slice (al0) (len0) (cap0))), (24, .val (.int .i64 ((len0 : Int)))), (25, .val (.int .i64 ((len0 : Int)))), (9, .val (.int .i64 (((sumR l0 : Nat) : Int)))), (26, .val (.bool false)), (38, .val (.bool false)), (12, .val (.pointer (some ⟨g, 0, none⟩))), (44, .val (.slice (al0) (len0) (cap0))), (45, .val (.int .i64 ((len0 : Int)))), (13, .val (.int .i64 ((su : Int)))), (47, .val (.bool true)), (15, .val (.int .i64 ((j : Int)))), (16, .val (.string (y))), (17, .val (.int .i64 (0))), (14, .val (.int .i64 (((j + 1 : Nat) : Int)))), (57, .val (.bool false)), (67, .val (.bool false)), (46, .val (.int .i64 (((j + 1 : Nat) : Int))))] [(0, 73, .val (.int .i64 (((j + 1 : Nat) : Int)))), (1, 46, .val (.int .i64 (((j + 1 : Nat) : Int))))] [⟨g, none, none, (), 6, spC ⟨(catR (l0.take j) ++ lineS y), sy, false, ac + 1, inn - 1, kk⟩, spC ⟨(catR (l0.take j) ++ lineS y), sy, false, ac + 1, inn - 1, kk⟩, 53⟩] rfl (by rfl) HH26 rfl rfl hLo rfl HS26 (slS 0 rfl rfl (slS 1 rfl rfl (slS 2 rfl rfl (slS 3 rfl rfl (slS 4 rfl rfl (slS 5 rfl rfl (slS 6 rfl rfl (slS 7 rfl rfl (slS 8 rfl rfl (slS 9 rfl rfl (slS 10 rfl rfl (slS 11 rfl rfl (slS 12 rfl rfl (slS 13 rfl rfl (slS 15 rfl rfl (slS 16 rfl rfl (slS 17 rfl rfl (slS 18 rfl rfl (slS 19 rfl rfl (slS 20 rfl rfl (slS 21 rfl rfl (slS 22 rfl rfl (slL 1 (d := 1) rfl (trivial)))))))))))))))))))))))) ?_ ?_
                · show ∀ i ∈ [0, 1], _
                  refine steps_cons (st_run 0 _ rfl rfl hLo rfl rfl (fun _ _ _ _ => rfl) (fun b G w hb ho => exec_bin rfl (ev_pre hLo 1 rfl (ho 1 (by rfl)) (HS26.get 14 rfl)) (rfl) (rb_add (w_nat (by omega) (by omega)) _ _ _))) ?_
                  refine steps_cons (st_run 1 _ rfl rfl hLo rfl rfl (fun _ _ _ _ => rfl) (fun b G w hb ho => exec_move (.inl rfl) (ev_on hLo 0 rfl HS26.1 rfl (hb 0 (by rfl))))) ?_
                  exact steps_nil
                clear hLo
                intro G a27 w27 hS hH
                have HS27 : Sl a27 129 [(0, .slice (al0) (len0) (cap0)), (1, .slice (al1) (len1) (cap1)), (2, .int .i64 (nn)), (3, .int .i64 (kk)), (22, .bool false), (23, .slice (al0) (len0) (cap0)), (24, .int .i64 ((len0 : Int))), (25, .int .i64 ((len0 : Int))), (9, .int .i64 (((sumR l0 : Nat) : Int))), (26, .bool false), (38, .bool false), (12, .pointer (some ⟨g, 0, none⟩)), (44, .slice (al0) (len0) (cap0)), (45, .int .i64 ((len0 : Int))), (13, .int .i64 ((su : Int))), (47, .bool true), (15, .int .i64 ((j : Int))), (16, .string (y)), (17, .int .i64 (0)), (14, .int .i64 (((j + 1 : Nat) : Int))), (57, .bool false), (67, .bool false), (46, .int .i64 (((j + 1 : Nat) : Int)))] := hS
                have HH27 : Held ⟨w, []⟩ w27 [⟨g, (), 6, spC ⟨(catR (l0.take j) ++ lineS y), sy, false, ac + 1, inn - 1, kk⟩, 53⟩] := hH
                clear hS hH HS26 HH26
                refine then_ ?_
                have hSq1' : Sl _ 129 [(0, .slice (al0) (len0) (cap0)), (1, .slice (al1) (len1) (cap1)), (2, .int .i64 (nn)), (3, .int .i64 (kk)), (22, .bool false), (23, .slice (al0) (len0) (cap0)), (24, .int .i64 ((len0 : Int))), (25, .int .i64 ((len0 : Int))), (9, .int .i64 (((sumR l0 : Nat) : Int))), (26, .bool false), (38, .bool false), (12, .pointer (some ⟨g, 0, none⟩)), (44, .slice (al0) (len0) (cap0)), (45, .int .i64 ((len0 : Int))), (46, .int .i64 (((j + 1 : Nat) : Int))), (13, .int .i64 ((su : Int))), (14, .int .i64 (((j + 1 : Nat) : Int)))] := sl_keep HS27 [0, 1, 2, 3, 4, 5, 6, 7, 8, 9, 10, 11, 12, 13, 22, 14, 19] (by rfl)
                have hHq1' : Held ⟨w, []⟩ _ [⟨g, (), 6, spC ⟨(catR (l0.take j) ++ lineS y), sy, false, ac + 1, inn - 1, kk⟩, 53⟩] := held_keep HH27 1 rfl
                rw [← hcat] at hHq1'
                exact ⟨⟨j + 1, su, sy, ac + 1, inn - 1, by omega, Nat.le_succ_of_le hsu, hs, (by omega), by omega, by omega, hSq1', hHq1'⟩, by rw [(hSq1'.get 14 rfl)]; show len0 - (((j + 1 : Nat) : Int)).toNat < len0 - j; omega⟩
              · skip
                refine wp_cond_true (HS26.get 22 rfl) ?_
                refine wp_seq ?_
                by_cases h2 : inn - 1 = 1
                · skip
                  rw [h2] at HH26
                  refine wp_seq ?_
                  have hLo : LOk [(0, 68, .val (.pointer (some ⟨g, 0, none⟩))), (1, 69, .val (.int .i64 (50))), (2, 70, .val (.bool true))] := lok (by rfl) (by rfl)
                  refine plain_ (wE := ⟨w, []⟩) (sz := 129) (n := 3) [0, 1, 3] [(0, .val (.slice (al0) (len0) (cap0))), (1, .val (.slice (al1) (len1) (cap1))), (2, .val (.int .i64 (nn))), (3, .val (.int .i64 (kk))), (22, .val (.bool false)), (23, .val (.slice (al0) (len0) (cap0))), (24, .val (.int .i64 ((len0 : Int)))), (25, .val (.int .i64 ((len0 : Int)))), (9, .val (.int .i64 (((sumR l0 : Nat) : Int)))), (26, .val (.bool false)), (38, .val (.bool false)), (12, .val (.pointer (some ⟨g, 0, none⟩))), (44, .val (.slice (al0) (len0) (cap0))), (45, .val (.int .i64 ((len0 : Int)))), (46, .val (.int .i64 ((j : Int)))), (13, .val (.int .i64 ((su : Int)))), (47, .val (.bool true)), (15, .val (.int .i64 ((j : Int)))), (16, .val (.string (y))), (17, .val (.int .i64 (0))), (14, .val (.int .i64 (((j + 1 : Nat) : Int)))), (57, .val (.bool false)), (67, .val (.bool true)), (70, .val (.bool true))] [(0, 68, .val (.pointer (some ⟨g, 0, none⟩))), (1, 69, .val (.int .i64 (50))), (2, 70, .val (.bool true))] [⟨g, none, some 1, (), 6, spC ⟨(catR (l0.take j) ++ lineS y), sy, false, ac + 1, 1, kk⟩, spC ⟨(catR (l0.take j) ++ lineS y).extract 0 (sy + kp kk ((catR (l0.take j) ++ lineS y).size - sy)), sy + kp kk ((catR (l0.take j) ++ lineS y).size - sy), true, ac + 1 + 1, 0, kk⟩, 53⟩] rfl (by rfl) HH26 rfl rfl hLo rfl HS26 (slS 0 rfl rfl (slS 1 rfl rfl (slS 2 rfl rfl (slS 3 rfl rfl (slS 4 rfl rfl (slS 5 rfl rfl (slS 6 rfl rfl (slS 7 rfl rfl (slS 8 rfl rfl (slS 9 rfl rfl (slS 10 rfl rfl (slS 11 rfl rfl (slS 12 rfl rfl (slS 13 rfl rfl (slS 14 rfl rfl (slS 15 rfl rfl (slS 16 rfl rfl (slS 17 rfl rfl (slS 18 rfl rfl (slS 19 rfl rfl (slS 20 rfl rfl (slS 21 rfl rfl (slS 22 rfl rfl (slL 2 (d := 2) rfl (trivial))))))))))))))))))))))))) ?_ ?_
                  · show ∀ i ∈ [0, 1, 2], _
                    refine steps_cons (st_run 0 _ rfl rfl hLo rfl rfl (fun _ _ _ _ => rfl) (fun b G w hb ho => exec_move (.inl rfl) (ev_off rfl (HS26.get 11 rfl)))) ?_
                    refine steps_cons (st_callM 1 0 _ _ (fun G => #[.pointer (some ⟨g, 0, none⟩)]) rfl rfl rfl rfl rfl (fun _ _ _ _ => rfl) hLo rfl (by rfl) (by rfl) (by rfl) Try.func17 rfl rfl (fun b G hb ho => args1 (ev_on hLo 0 rfl HS26.1 rfl (hb 0 (by rfl)))) (fun G w hw hr => sync_goes hr (by rw [ByteArray.size_append]; omega) (by rw [ByteArray.size_append, lineS_size]; omega) (by omega))) ?_
                    refine steps_cons (st_run 2 _ rfl rfl hLo rfl rfl (fun _ _ _ _ => rfl) (fun b G w hb ho => exec_bin rfl (ev_on hLo 1 rfl HS26.1 rfl (hb 1 (by rfl))) (rfl) (rb_eql (rfl) _ _ _))) ?_
                    exact steps_nil
                  clear hLo
                  intro G a28 w28 hS hH
                  have HS28 : Sl a28 129 [(0, .slice (al0) (len0) (cap0)), (1, .slice (al1) (len1) (cap1)), (2, .int .i64 (nn)), (3, .int .i64 (kk)), (22, .bool false), (23, .slice (al0) (len0) (cap0)), (24, .int .i64 ((len0 : Int))), (25, .int .i64 ((len0 : Int))), (9, .int .i64 (((sumR l0 : Nat) : Int))), (26, .bool false), (38, .bool false), (12, .pointer (some ⟨g, 0, none⟩)), (44, .slice (al0) (len0) (cap0)), (45, .int .i64 ((len0 : Int))), (46, .int .i64 ((j : Int))), (13, .int .i64 ((su : Int))), (47, .bool true), (15, .int .i64 ((j : Int))), (16, .string (y)), (17, .int .i64 (0)), (14, .int .i64 (((j + 1 : Nat) : Int))), (57, .bool false), (67, .bool true), (70, .bool true)] := hS
                  have HH28 : Held ⟨w, []⟩ w28 [⟨g, (), 6, spC ⟨(catR (l0.take j) ++ lineS y).extract 0 (sy + kp kk ((catR (l0.take j) ++ lineS y).size - sy)), sy + kp kk ((catR (l0.take j) ++ lineS y).size - sy), true, ac + 1 + 1, 0, kk⟩, 53⟩] := hH
                  clear hS hH HS26 HH26
                  refine then_ ?_
                  refine wp_cond_true (HS28.get 23 rfl) ?_
                  refine wp_exit ?_
                  refine then_exit ?_
                  refine inBlock_other (by decide) ?_
                  refine then_exit ?_
                  refine then_exit ?_
                  refine inBlock_exit ?_
                  refine then_ ?_
                  have hS29 : Sl _ 129 [(0, .slice (al0) (len0) (cap0)), (1, .slice (al1) (len1) (cap1)), (2, .int .i64 (nn)), (3, .int .i64 (kk)), (22, .bool false), (23, .slice (al0) (len0) (cap0)), (24, .int .i64 ((len0 : Int))), (25, .int .i64 ((len0 : Int))), (9, .int .i64 (((sumR l0 : Nat) : Int))), (26, .bool false), (38, .bool false), (12, .pointer (some ⟨g, 0, none⟩)), (13, .int .i64 ((su : Int))), (14, .int .i64 (((j + 1 : Nat) : Int)))] := sl_keep HS28 [0, 1, 2, 3, 4, 5, 6, 7, 8, 9, 10, 11, 15, 20] (by rfl)
                  have hH29 : Held ⟨w, []⟩ _ [⟨g, (), 6, spC ⟨(catR (l0.take j) ++ lineS y).extract 0 (sy + kp kk ((catR (l0.take j) ++ lineS y).size - sy)), sy + kp kk ((catR (l0.take j) ++ lineS y).size - sy), true, ac + 1 + 1, 0, kk⟩, 53⟩] := held_keep HH28 1 rfl
                  rw [← hcat] at hH29
                  exact ⟨su, j + 1, ⟨(catR (l0.take (j + 1))).extract 0 (sy + kp kk ((catR (l0.take (j + 1))).size - sy)), sy + kp kk ((catR (l0.take (j + 1))).size - sy), true, ac + 1 + 1, 0, kk⟩, lost_off (Nat.le_succ_of_le hsu) (by omega) hs (by omega) (by omega) (by omega), hS29, hH29⟩
                · skip
                  refine wp_seq ?_
                  have hLo : LOk [(0, 68, .val (.pointer (some ⟨g, 0, none⟩))), (1, 69, .val (.int .i64 (0))), (2, 70, .val (.bool false))] := lok (by rfl) (by rfl)
                  refine plain_ (wE := ⟨w, []⟩) (sz := 129) (n := 3) [0, 1, 3] [(0, .val (.slice (al0) (len0) (cap0))), (1, .val (.slice (al1) (len1) (cap1))), (2, .val (.int .i64 (nn))), (3, .val (.int .i64 (kk))), (22, .val (.bool false)), (23, .val (.slice (al0) (len0) (cap0))), (24, .val (.int .i64 ((len0 : Int)))), (25, .val (.int .i64 ((len0 : Int)))), (9, .val (.int .i64 (((sumR l0 : Nat) : Int)))), (26, .val (.bool false)), (38, .val (.bool false)), (12, .val (.pointer (some ⟨g, 0, none⟩))), (44, .val (.slice (al0) (len0) (cap0))), (45, .val (.int .i64 ((len0 : Int)))), (46, .val (.int .i64 ((j : Int)))), (13, .val (.int .i64 ((su : Int)))), (47, .val (.bool true)), (15, .val (.int .i64 ((j : Int)))), (16, .val (.string (y))), (17, .val (.int .i64 (0))), (14, .val (.int .i64 (((j + 1 : Nat) : Int)))), (57, .val (.bool false)), (67, .val (.bool true)), (70, .val (.bool false))] [(0, 68, .val (.pointer (some ⟨g, 0, none⟩))), (1, 69, .val (.int .i64 (0))), (2, 70, .val (.bool false))] [⟨g, none, some 1, (), 6, spC ⟨(catR (l0.take j) ++ lineS y), sy, false, ac + 1, inn - 1, kk⟩, spC ⟨(catR (l0.take j) ++ lineS y), (catR (l0.take j) ++ lineS y).size, false, ac + 1 + 1, inn - 1 - 1, kk⟩, 53⟩] rfl (by rfl) HH26 rfl rfl hLo rfl HS26 (slS 0 rfl rfl (slS 1 rfl rfl (slS 2 rfl rfl (slS 3 rfl rfl (slS 4 rfl rfl (slS 5 rfl rfl (slS 6 rfl rfl (slS 7 rfl rfl (slS 8 rfl rfl (slS 9 rfl rfl (slS 10 rfl rfl (slS 11 rfl rfl (slS 12 rfl rfl (slS 13 rfl rfl (slS 14 rfl rfl (slS 15 rfl rfl (slS 16 rfl rfl (slS 17 rfl rfl (slS 18 rfl rfl (slS 19 rfl rfl (slS 20 rfl rfl (slS 21 rfl rfl (slS 22 rfl rfl (slL 2 (d := 2) rfl (trivial))))))))))))))))))))))))) ?_ ?_
                  · show ∀ i ∈ [0, 1, 2], _
                    refine steps_cons (st_run 0 _ rfl rfl hLo rfl rfl (fun _ _ _ _ => rfl) (fun b G w hb ho => exec_move (.inl rfl) (ev_off rfl (HS26.get 11 rfl)))) ?_
                    refine steps_cons (st_callM 1 0 _ _ (fun G => #[.pointer (some ⟨g, 0, none⟩)]) rfl rfl rfl rfl rfl (fun _ _ _ _ => rfl) hLo rfl (by rfl) (by rfl) (by rfl) Try.func17 rfl rfl (fun b G hb ho => args1 (ev_on hLo 0 rfl HS26.1 rfl (hb 0 (by rfl)))) (fun G w hw hr => sync_stays hr (by omega) (by omega) h2)) ?_
                    refine steps_cons (st_run 2 _ rfl rfl hLo rfl rfl (fun _ _ _ _ => rfl) (fun b G w hb ho => exec_bin rfl (ev_on hLo 1 rfl HS26.1 rfl (hb 1 (by rfl))) (rfl) (rb_eql (rfl) _ _ _))) ?_
                    exact steps_nil
                  clear hLo
                  intro G a30 w30 hS hH
                  have HS30 : Sl a30 129 [(0, .slice (al0) (len0) (cap0)), (1, .slice (al1) (len1) (cap1)), (2, .int .i64 (nn)), (3, .int .i64 (kk)), (22, .bool false), (23, .slice (al0) (len0) (cap0)), (24, .int .i64 ((len0 : Int))), (25, .int .i64 ((len0 : Int))), (9, .int .i64 (((sumR l0 : Nat) : Int))), (26, .bool false), (38, .bool false), (12, .pointer (some ⟨g, 0, none⟩)), (44, .slice (al0) (len0) (cap0)), (45, .int .i64 ((len0 : Int))), (46, .int .i64 ((j : Int))), (13, .int .i64 ((su : Int))), (47, .bool true), (15, .int .i64 ((j : Int))), (16, .string (y)), (17, .int .i64 (0)), (14, .int .i64 (((j + 1 : Nat) : Int))), (57, .bool false), (67, .bool true), (70, .bool false)] := hS
                  have HH30 : Held ⟨w, []⟩ w30 [⟨g, (), 6, spC ⟨(catR (l0.take j) ++ lineS y), (catR (l0.take j) ++ lineS y).size, false, ac + 1 + 1, inn - 1 - 1, kk⟩, 53⟩] := hH
                  clear hS hH HS26 HH26
                  refine then_ ?_
                  refine wp_cond_false (HS30.get 23 rfl) ?_
                  refine wp_skip ?_
                  refine then_ ?_
                  have hLo : LOk [(0, 71, .val (.int .i64 ((j : Int)))), (1, 72, .val (.int .i64 (((j + 1 : Nat) : Int)))), (2, 13, .val (.int .i64 (((j + 1 : Nat) : Int))))] := lok (by rfl) (by rfl)
                  refine plain_ (wE := ⟨w, []⟩) (sz := 129) (n := 3) [0, 1, 3] [(0, .val (.slice (al0) (len0) (cap0))), (1, .val (.slice (al1) (len1) (cap1))), (2, .val (.int .i64 (nn))), (3, .val (.int .i64 (kk))), (22, .val (.bool false)), (23, .val (.slice (al0) (len0) (cap0))), (24, .val (.int .i64 ((len0 : Int)))), (25, .val (.int .i64 ((len0 : Int)))), (9, .val (.int .i64 (((sumR l0 : Nat) : Int)))), (26, .val (.bool false)), (38, .val (.bool false)), (12, .val (.pointer (some ⟨g, 0, none⟩))), (44, .val (.slice (al0) (len0) (cap0))), (45, .val (.int .i64 ((len0 : Int)))), (46, .val (.int .i64 ((j : Int)))), (47, .val (.bool true)), (15, .val (.int .i64 ((j : Int)))), (16, .val (.string (y))), (17, .val (.int .i64 (0))), (14, .val (.int .i64 (((j + 1 : Nat) : Int)))), (57, .val (.bool false)), (67, .val (.bool true)), (70, .val (.bool false)), (13, .val (.int .i64 (((j + 1 : Nat) : Int))))] [(0, 71, .val (.int .i64 ((j : Int)))), (1, 72, .val (.int .i64 (((j + 1 : Nat) : Int)))), (2, 13, .val (.int .i64 (((j + 1 : Nat) : Int))))] [⟨g, none, none, (), 6, spC ⟨(catR (l0.take j) ++ lineS y), (catR (l0.take j) ++ lineS y).size, false, ac + 1 + 1, inn - 1 - 1, kk⟩, spC ⟨(catR (l0.take j) ++ lineS y), (catR (l0.take j) ++ lineS y).size, false, ac + 1 + 1, inn - 1 - 1, kk⟩, 53⟩] rfl (by rfl) HH30 rfl rfl hLo rfl HS30 (slS 0 rfl rfl (slS 1 rfl rfl (slS 2 rfl rfl (slS 3 rfl rfl (slS 4 rfl rfl (slS 5 rfl rfl (slS 6 rfl rfl (slS 7 rfl rfl (slS 8 rfl rfl (slS 9 rfl rfl (slS 10 rfl rfl (slS 11 rfl rfl (slS 12 rfl rfl (slS 13 rfl rfl (slS 14 rfl rfl (slS 16 rfl rfl (slS 17 rfl rfl (slS 18 rfl rfl (slS 19 rfl rfl (slS 20 rfl rfl (slS 21 rfl rfl (slS 22 rfl rfl (slS 23 rfl rfl (slL 2 (d := 2) rfl (trivial))))))))))))))))))))))))) ?_ ?_
                  · show ∀ i ∈ [0, 1, 2], _
                    refine steps_cons (st_run 0 _ rfl rfl hLo rfl rfl (fun _ _ _ _ => rfl) (fun b G w hb ho => exec_move (.inl rfl) (ev_off rfl (HS30.get 17 rfl)))) ?_
                    refine steps_cons (st_run 1 _ rfl rfl hLo rfl rfl (fun _ _ _ _ => rfl) (fun b G w hb ho => exec_bin rfl (ev_on hLo 0 rfl HS30.1 rfl (hb 0 (by rfl))) (rfl) (rb_add (w_nat (by omega) (by omega)) _ _ _))) ?_
                    refine steps_cons (st_run 2 _ rfl rfl hLo rfl rfl (fun _ _ _ _ => rfl) (fun b G w hb ho => exec_move (.inr rfl) (ev_on hLo 1 rfl HS30.1 rfl (hb 1 (by rfl))))) ?_
                    exact steps_nil
                  clear hLo
                  intro G a31 w31 hS hH
                  have HS31 : Sl a31 129 [(0, .slice (al0) (len0) (cap0)), (1, .slice (al1) (len1) (cap1)), (2, .int .i64 (nn)), (3, .int .i64 (kk)), (22, .bool false), (23, .slice (al0) (len0) (cap0)), (24, .int .i64 ((len0 : Int))), (25, .int .i64 ((len0 : Int))), (9, .int .i64 (((sumR l0 : Nat) : Int))), (26, .bool false), (38, .bool false), (12, .pointer (some ⟨g, 0, none⟩)), (44, .slice (al0) (len0) (cap0)), (45, .int .i64 ((len0 : Int))), (46, .int .i64 ((j : Int))), (47, .bool true), (15, .int .i64 ((j : Int))), (16, .string (y)), (17, .int .i64 (0)), (14, .int .i64 (((j + 1 : Nat) : Int))), (57, .bool false), (67, .bool true), (70, .bool false), (13, .int .i64 (((j + 1 : Nat) : Int)))] := hS
                  have HH31 : Held ⟨w, []⟩ w31 [⟨g, (), 6, spC ⟨(catR (l0.take j) ++ lineS y), (catR (l0.take j) ++ lineS y).size, false, ac + 1 + 1, inn - 1 - 1, kk⟩, 53⟩] := hH
                  clear hS hH HS30 HH30
                  refine inBlock_normal ?_
                  refine then_ ?_
                  have hLo : LOk [(0, 73, .val (.int .i64 (((j + 1 : Nat) : Int)))), (1, 46, .val (.int .i64 (((j + 1 : Nat) : Int))))] := lok (by rfl) (by rfl)
                  refine plain_ (wE := ⟨w, []⟩) (sz := 129) (n := 2) [0, 1] [(0, .val (.slice (al0) (len0) (cap0))), (1, .val (.slice (al1) (len1) (cap1))), (2, .val (.int .i64 (nn))), (3, .val (.int .i64 (kk))), (22, .val (.bool false)), (23, .val (.slice (al0) (len0) (cap0))), (24, .val (.int .i64 ((len0 : Int)))), (25, .val (.int .i64 ((len0 : Int)))), (9, .val (.int .i64 (((sumR l0 : Nat) : Int)))), (26, .val (.bool false)), (38, .val (.bool false)), (12, .val (.pointer (some ⟨g, 0, none⟩))), (44, .val (.slice (al0) (len0) (cap0))), (45, .val (.int .i64 ((len0 : Int)))), (47, .val (.bool true)), (15, .val (.int .i64 ((j : Int)))), (16, .val (.string (y))), (17, .val (.int .i64 (0))), (14, .val (.int .i64 (((j + 1 : Nat) : Int)))), (57, .val (.bool false)), (67, .val (.bool true)), (70, .val (.bool false)), (13, .val (.int .i64 (((j + 1 : Nat) : Int)))), (46, .val (.int .i64 (((j + 1 : Nat) : Int))))] [(0, 73, .val (.int .i64 (((j + 1 : Nat) : Int)))), (1, 46, .val (.int .i64 (((j + 1 : Nat) : Int))))] [⟨g, none, none, (), 6, spC ⟨(catR (l0.take j) ++ lineS y), (catR (l0.take j) ++ lineS y).size, false, ac + 1 + 1, inn - 1 - 1, kk⟩, spC ⟨(catR (l0.take j) ++ lineS y), (catR (l0.take j) ++ lineS y).size, false, ac + 1 + 1, inn - 1 - 1, kk⟩, 53⟩] rfl (by rfl) HH31 rfl rfl hLo rfl HS31 (slS 0 rfl rfl (slS 1 rfl rfl (slS 2 rfl rfl (slS 3 rfl rfl (slS 4 rfl rfl (slS 5 rfl rfl (slS 6 rfl rfl (slS 7 rfl rfl (slS 8 rfl rfl (slS 9 rfl rfl (slS 10 rfl rfl (slS 11 rfl rfl (slS 12 rfl rfl (slS 13 rfl rfl (slS 15 rfl rfl (slS 16 rfl rfl (slS 17 rfl rfl (slS 18 rfl rfl (slS 19 rfl rfl (slS 20 rfl rfl (slS 21 rfl rfl (slS 22 rfl rfl (slS 23 rfl rfl (slL 1 (d := 1) rfl (trivial))))))))))))))))))))))))) ?_ ?_
                  · show ∀ i ∈ [0, 1], _
                    refine steps_cons (st_run 0 _ rfl rfl hLo rfl rfl (fun _ _ _ _ => rfl) (fun b G w hb ho => exec_bin rfl (ev_pre hLo 1 rfl (ho 1 (by rfl)) (HS31.get 14 rfl)) (rfl) (rb_add (w_nat (by omega) (by omega)) _ _ _))) ?_
                    refine steps_cons (st_run 1 _ rfl rfl hLo rfl rfl (fun _ _ _ _ => rfl) (fun b G w hb ho => exec_move (.inl rfl) (ev_on hLo 0 rfl HS31.1 rfl (hb 0 (by rfl))))) ?_
                    exact steps_nil
                  clear hLo
                  intro G a32 w32 hS hH
                  have HS32 : Sl a32 129 [(0, .slice (al0) (len0) (cap0)), (1, .slice (al1) (len1) (cap1)), (2, .int .i64 (nn)), (3, .int .i64 (kk)), (22, .bool false), (23, .slice (al0) (len0) (cap0)), (24, .int .i64 ((len0 : Int))), (25, .int .i64 ((len0 : Int))), (9, .int .i64 (((sumR l0 : Nat) : Int))), (26, .bool false), (38, .bool false), (12, .pointer (some ⟨g, 0, none⟩)), (44, .slice (al0) (len0) (cap0)), (45, .int .i64 ((len0 : Int))), (47, .bool true), (15, .int .i64 ((j : Int))), (16, .string (y)), (17, .int .i64 (0)), (14, .int .i64 (((j + 1 : Nat) : Int))), (57, .bool false), (67, .bool true), (70, .bool false), (13, .int .i64 (((j + 1 : Nat) : Int))), (46, .int .i64 (((j + 1 : Nat) : Int)))] := hS
                  have HH32 : Held ⟨w, []⟩ w32 [⟨g, (), 6, spC ⟨(catR (l0.take j) ++ lineS y), (catR (l0.take j) ++ lineS y).size, false, ac + 1 + 1, inn - 1 - 1, kk⟩, 53⟩] := hH
                  clear hS hH HS31 HH31
                  refine then_ ?_
                  have hSq1' : Sl _ 129 [(0, .slice (al0) (len0) (cap0)), (1, .slice (al1) (len1) (cap1)), (2, .int .i64 (nn)), (3, .int .i64 (kk)), (22, .bool false), (23, .slice (al0) (len0) (cap0)), (24, .int .i64 ((len0 : Int))), (25, .int .i64 ((len0 : Int))), (9, .int .i64 (((sumR l0 : Nat) : Int))), (26, .bool false), (38, .bool false), (12, .pointer (some ⟨g, 0, none⟩)), (44, .slice (al0) (len0) (cap0)), (45, .int .i64 ((len0 : Int))), (46, .int .i64 (((j + 1 : Nat) : Int))), (13, .int .i64 (((j + 1 : Nat) : Int))), (14, .int .i64 (((j + 1 : Nat) : Int)))] := sl_keep HS32 [0, 1, 2, 3, 4, 5, 6, 7, 8, 9, 10, 11, 12, 13, 23, 22, 18] (by rfl)
                  have hHq1' : Held ⟨w, []⟩ _ [⟨g, (), 6, spC ⟨(catR (l0.take j) ++ lineS y), (catR (l0.take j) ++ lineS y).size, false, ac + 1 + 1, inn - 1 - 1, kk⟩, 53⟩] := held_keep HH32 1 rfl
                  rw [← hcat] at hHq1'
                  exact ⟨⟨j + 1, j + 1, (catR (l0.take (j + 1))).size, ac + 1 + 1, inn - 1 - 1, by omega, Nat.le_refl _, Nat.le_refl _, Nat.le_refl _, by omega, by omega, hSq1', hHq1'⟩, by rw [(hSq1'.get 14 rfl)]; show len0 - (((j + 1 : Nat) : Int)).toNat < len0 - j; omega⟩
      · skip
        clear HS11 HH11
        rintro aj12 wj12 ⟨su, mk, m, hfin, HSj12, HHj12⟩
        refine wp_seq ?_
        have hLo : LOk [(0, 74, .val (.pointer (some ⟨g, 0, none⟩))), (1, 75, .val (.int .i64 (kk))), (2, 76, .val (.tuple #[]))] := lok (by rfl) (by rfl)
        refine plain_ (wE := ⟨w, []⟩) (sz := 129) (n := 3) [0, 1, 3] [(0, .val (.slice (al0) (len0) (cap0))), (1, .val (.slice (al1) (len1) (cap1))), (2, .val (.int .i64 (nn))), (3, .val (.int .i64 (kk))), (22, .val (.bool false)), (23, .val (.slice (al0) (len0) (cap0))), (24, .val (.int .i64 ((len0 : Int)))), (25, .val (.int .i64 ((len0 : Int)))), (9, .val (.int .i64 (((sumR l0 : Nat) : Int)))), (26, .val (.bool false)), (38, .val (.bool false)), (12, .val (.pointer (some ⟨g, 0, none⟩))), (13, .val (.int .i64 ((su : Int)))), (14, .val (.int .i64 ((mk : Int))))] [(0, 74, .val (.pointer (some ⟨g, 0, none⟩))), (1, 75, .val (.int .i64 (kk))), (2, 76, .val (.tuple #[]))] [⟨g, none, some 2, (), 6, spC m, spC (offS m kk), 53⟩] rfl (by rfl) HHj12 rfl rfl hLo rfl HSj12 (slS 0 rfl rfl (slS 1 rfl rfl (slS 2 rfl rfl (slS 3 rfl rfl (slS 4 rfl rfl (slS 5 rfl rfl (slS 6 rfl rfl (slS 7 rfl rfl (slS 8 rfl rfl (slS 9 rfl rfl (slS 10 rfl rfl (slS 11 rfl rfl (slS 12 rfl rfl (slS 13 rfl rfl (trivial))))))))))))))) ?_ ?_
        · show ∀ i ∈ [0, 1, 2], _
          refine steps_cons (st_run 0 _ rfl rfl hLo rfl rfl (fun _ _ _ _ => rfl) (fun b G w hb ho => exec_move (.inl rfl) (ev_off rfl (HSj12.get 11 rfl)))) ?_
          refine steps_cons (st_run 1 _ rfl rfl hLo rfl rfl (fun _ _ _ _ => rfl) (fun b G w hb ho => exec_move (.inl rfl) (ev_off rfl (HSj12.get 3 rfl)))) ?_
          refine steps_cons (st_callM 2 0 _ _ (fun G => #[.pointer (some ⟨g, 0, none⟩), .int .i64 (kk)]) rfl rfl rfl rfl rfl (fun _ _ _ _ => rfl) hLo rfl (by rfl) (by rfl) (by rfl) Try.func18 rfl rfl (fun b G hb ho => args2 (ev_on hLo 0 rfl HSj12.1 rfl (hb 0 (by rfl))) (ev_on hLo 1 rfl HSj12.1 rfl (hb 1 (by rfl)))) (fun G w hw hr => off_calls (hfin.u_ok.ok (by decide)) hr)) ?_
          exact steps_nil
        clear hLo
        intro G a33 w33 hS hH
        have HS33 : Sl a33 129 [(0, .slice (al0) (len0) (cap0)), (1, .slice (al1) (len1) (cap1)), (2, .int .i64 (nn)), (3, .int .i64 (kk)), (22, .bool false), (23, .slice (al0) (len0) (cap0)), (24, .int .i64 ((len0 : Int))), (25, .int .i64 ((len0 : Int))), (9, .int .i64 (((sumR l0 : Nat) : Int))), (26, .bool false), (38, .bool false), (12, .pointer (some ⟨g, 0, none⟩)), (13, .int .i64 ((su : Int))), (14, .int .i64 ((mk : Int)))] := hS
        have HH33 : Held ⟨w, []⟩ w33 [⟨g, (), 6, spC (offS m kk), 53⟩] := hH
        clear hS hH HSj12 HHj12
        refine then_ ?_
        refine wp_seq ?_
        have hLo : LOk [(0, 77, .val (.pointer (some ⟨g, 0, none⟩))), (1, 78, .val (.tuple #[]))] := lok (by rfl) (by rfl)
        refine plain_ (wE := ⟨w, []⟩) (sz := 129) (n := 2) [0, 1] [(0, .val (.slice (al0) (len0) (cap0))), (1, .val (.slice (al1) (len1) (cap1))), (2, .val (.int .i64 (nn))), (3, .val (.int .i64 (kk))), (22, .val (.bool false)), (23, .val (.slice (al0) (len0) (cap0))), (24, .val (.int .i64 ((len0 : Int)))), (25, .val (.int .i64 ((len0 : Int)))), (9, .val (.int .i64 (((sumR l0 : Nat) : Int)))), (26, .val (.bool false)), (38, .val (.bool false)), (12, .val (.pointer (some ⟨g, 0, none⟩))), (13, .val (.int .i64 ((su : Int)))), (14, .val (.int .i64 ((mk : Int))))] [(0, 77, .val (.pointer (some ⟨g, 0, none⟩))), (1, 78, .val (.tuple #[]))] [⟨g, none, some 1, (), 6, spC (offS m kk), spC (onS (offS m kk)), 53⟩] rfl (by rfl) HH33 rfl rfl hLo rfl HS33 (slS 0 rfl rfl (slS 1 rfl rfl (slS 2 rfl rfl (slS 3 rfl rfl (slS 4 rfl rfl (slS 5 rfl rfl (slS 6 rfl rfl (slS 7 rfl rfl (slS 8 rfl rfl (slS 9 rfl rfl (slS 10 rfl rfl (slS 11 rfl rfl (slS 12 rfl rfl (slS 13 rfl rfl (trivial))))))))))))))) ?_ ?_
        · show ∀ i ∈ [0, 1], _
          refine steps_cons (st_run 0 _ rfl rfl hLo rfl rfl (fun _ _ _ _ => rfl) (fun b G w hb ho => exec_move (.inl rfl) (ev_off rfl (HS33.get 11 rfl)))) ?_
          refine steps_cons (st_callM 1 0 _ _ (fun G => #[.pointer (some ⟨g, 0, none⟩)]) rfl rfl rfl rfl rfl (fun _ _ _ _ => rfl) hLo rfl (by rfl) (by rfl) (by rfl) Try.func21 rfl rfl (fun b G hb ho => args1 (ev_on hLo 0 rfl HS33.1 rfl (hb 0 (by rfl)))) (fun G w hw hr => on_calls hr)) ?_
          exact steps_nil
        clear hLo
        intro G a34 w34 hS hH
        have HS34 : Sl a34 129 [(0, .slice (al0) (len0) (cap0)), (1, .slice (al1) (len1) (cap1)), (2, .int .i64 (nn)), (3, .int .i64 (kk)), (22, .bool false), (23, .slice (al0) (len0) (cap0)), (24, .int .i64 ((len0 : Int))), (25, .int .i64 ((len0 : Int))), (9, .int .i64 (((sumR l0 : Nat) : Int))), (26, .bool false), (38, .bool false), (12, .pointer (some ⟨g, 0, none⟩)), (13, .int .i64 ((su : Int))), (14, .int .i64 ((mk : Int)))] := hS
        have HH34 : Held ⟨w, []⟩ w34 [⟨g, (), 6, spC (onS (offS m kk)), 53⟩] := hH
        clear hS hH HS33 HH33
        refine then_ ?_
        obtain ⟨k, tl, hku, hkm, hC⟩ := hfin.cuts
        have hok3 := off_okS (kk := kk) hfin.u_ok
        have hcl3 : (cat ((l0.take k).map enR)).size ≤ 2 * sumR l0 + l0.length := catR_take l0 k
        have hlk : (l0.take k).length = k := by rw [List.length_take]; have := hfin.u_mk; omega
        have hmkl := hfin.u_mk
        refine wp_seq ?_
        refine whole_ ?_
        have hLo : LOk [(0, 80, .val (.pointer (some ⟨g, 0, none⟩)))] := lok (by rfl) (by rfl)
        refine part_ (wE := ⟨w, []⟩) (sz := 129) (n := 7) 0 1 [0, 1, 3, 7, 15, 31, 63] [(0, .val (.slice (al0) (len0) (cap0))), (1, .val (.slice (al1) (len1) (cap1))), (2, .val (.int .i64 (nn))), (3, .val (.int .i64 (kk))), (22, .val (.bool false)), (23, .val (.slice (al0) (len0) (cap0))), (24, .val (.int .i64 ((len0 : Int)))), (25, .val (.int .i64 ((len0 : Int)))), (9, .val (.int .i64 (((sumR l0 : Nat) : Int)))), (26, .val (.bool false)), (38, .val (.bool false)), (12, .val (.pointer (some ⟨g, 0, none⟩))), (13, .val (.int .i64 ((su : Int)))), (14, .val (.int .i64 ((mk : Int)))), (80, .val (.pointer (some ⟨g, 0, none⟩)))] [(0, 80, .val (.pointer (some ⟨g, 0, none⟩)))] [⟨g, none, none, (), 6, spC (onS (offS m kk)), spC (onS (offS m kk)), 53⟩] rfl rfl (by rfl) HH34 rfl rfl hLo rfl HS34 (slS 0 rfl rfl (slS 1 rfl rfl (slS 2 rfl rfl (slS 3 rfl rfl (slS 4 rfl rfl (slS 5 rfl rfl (slS 6 rfl rfl (slS 7 rfl rfl (slS 8 rfl rfl (slS 9 rfl rfl (slS 10 rfl rfl (slS 11 rfl rfl (slS 12 rfl rfl (slS 13 rfl rfl (slL 0 (d := 0) rfl (trivial)))))))))))))))) ?_ ?_
        · show ∀ i ∈ [0], _
          refine steps_cons (st_run 0 _ rfl rfl hLo rfl rfl (fun _ _ _ _ => rfl) (fun b G w hb ho => exec_move (.inl rfl) (ev_off rfl (HS34.get 11 rfl)))) ?_
          exact steps_nil
        clear hLo
        intro G a35 w35 hS hH
        have HS35 : Sl a35 129 [(0, .slice (al0) (len0) (cap0)), (1, .slice (al1) (len1) (cap1)), (2, .int .i64 (nn)), (3, .int .i64 (kk)), (22, .bool false), (23, .slice (al0) (len0) (cap0)), (24, .int .i64 ((len0 : Int))), (25, .int .i64 ((len0 : Int))), (9, .int .i64 (((sumR l0 : Nat) : Int))), (26, .bool false), (38, .bool false), (12, .pointer (some ⟨g, 0, none⟩)), (13, .int .i64 ((su : Int))), (14, .int .i64 ((mk : Int))), (80, .pointer (some ⟨g, 0, none⟩))] := hS
        have HH35 : Held ⟨w, []⟩ w35 [⟨g, (), 6, spC (onS (offS m kk)), 53⟩] := hH
        clear hS hH HS34 HH34
        have hrw1 := HH35.row 0 rfl
        have hlt1 := hrw1.lt
        refine cut_call _ rfl rfl rfl rfl Try.func10 rfl rfl (args1 (HS35.get 14 rfl)) (openM_some (m := (onS (offS m kk))) rfl hok3 hC (recs_enR _) hrw1) HS35 rfl ?_
        rintro e36 w36 ⟨⟨A1, c1, rfl, hT1⟩, hr1, hf1⟩
        refine ⟨_, rfl, fun a36 hS => ?_⟩
        have HS37 : Sl a36 129 [(81, .tuple #[.slice (A1) ((l0.take k).length) (c1), .int .i64 (0)]), (0, .slice (al0) (len0) (cap0)), (1, .slice (al1) (len1) (cap1)), (2, .int .i64 (nn)), (3, .int .i64 (kk)), (22, .bool false), (23, .slice (al0) (len0) (cap0)), (24, .int .i64 ((len0 : Int))), (25, .int .i64 ((len0 : Int))), (9, .int .i64 (((sumR l0 : Nat) : Int))), (26, .bool false), (38, .bool false), (12, .pointer (some ⟨g, 0, none⟩)), (13, .int .i64 ((su : Int))), (14, .int .i64 ((mk : Int))), (80, .pointer (some ⟨g, 0, none⟩))] := hS
        have HH37 : Held ⟨w, []⟩ w36 [⟨g, (), 6, spC (openS (onS (offS m kk)) ((l0.take k).map enR)), 53⟩] := HH35.turn 0 rfl hf1 hr1
        clear hS
        skip
        have hB_38 := bel_over hB HH37.1 hB.size (fun x hx => by cases hx)
        have HH38 : Held ⟨w36, [g]⟩ w36 [⟨g, (), 6, spC (openS (onS (offS m kk)) ((l0.take k).map enR)), 53⟩] := HH37.anew
        have hLo : LOk [(2, 79, .val (.tuple #[.slice (A1) ((l0.take k).length) (c1), .int .i64 (0)])), (3, 82, .val (.slice (A1) ((l0.take k).length) (c1))), (4, 83, .val (.int .i64 (0))), (5, 18, .val (.slice (A1) ((l0.take k).length) (c1))), (6, 19, .val (.int .i64 (0)))] := lok (by rfl) (by rfl)
        refine part_ (wE := ⟨w36, [g]⟩) (sz := 129) (n := 7) 2 7 [0, 1, 3, 7, 15, 31, 63] [(0, .val (.slice (al0) (len0) (cap0))), (1, .val (.slice (al1) (len1) (cap1))), (2, .val (.int .i64 (nn))), (3, .val (.int .i64 (kk))), (22, .val (.bool false)), (23, .val (.slice (al0) (len0) (cap0))), (24, .val (.int .i64 ((len0 : Int)))), (25, .val (.int .i64 ((len0 : Int)))), (9, .val (.int .i64 (((sumR l0 : Nat) : Int)))), (26, .val (.bool false)), (38, .val (.bool false)), (12, .val (.pointer (some ⟨g, 0, none⟩))), (13, .val (.int .i64 ((su : Int)))), (14, .val (.int .i64 ((mk : Int)))), (18, .val (.slice (A1) ((l0.take k).length) (c1))), (19, .val (.int .i64 (0)))] [(2, 79, .val (.tuple #[.slice (A1) ((l0.take k).length) (c1), .int .i64 (0)])), (3, 82, .val (.slice (A1) ((l0.take k).length) (c1))), (4, 83, .val (.int .i64 (0))), (5, 18, .val (.slice (A1) ((l0.take k).length) (c1))), (6, 19, .val (.int .i64 (0)))] [⟨g, none, none, (), 6, spC (openS (onS (offS m kk)) ((l0.take k).map enR)), spC (openS (onS (offS m kk)) ((l0.take k).map enR)), 53⟩] rfl rfl (by rfl) HH38 rfl rfl hLo rfl HS37 (slS 1 rfl rfl (slS 2 rfl rfl (slS 3 rfl rfl (slS 4 rfl rfl (slS 5 rfl rfl (slS 6 rfl rfl (slS 7 rfl rfl (slS 8 rfl rfl (slS 9 rfl rfl (slS 10 rfl rfl (slS 11 rfl rfl (slS 12 rfl rfl (slS 13 rfl rfl (slS 14 rfl rfl (slL 3 (d := 5) rfl (slL 4 (d := 6) rfl (trivial))))))))))))))))) ?_ ?_
        · show ∀ i ∈ [2, 3, 4, 5, 6], _
          refine steps_cons (st_run 0 _ rfl rfl hLo rfl rfl (fun _ _ _ _ => rfl) (fun b G w hb ho => exec_move (.inl rfl) (ev_off rfl (HS37.get 0 rfl)))) ?_
          refine steps_cons (st_run 1 _ rfl rfl hLo rfl rfl (fun _ _ _ _ => rfl) (fun b G w hb ho => exec_extract rfl (ev_on hLo 0 rfl HS37.1 rfl (hb 2 (by rfl))) (by rfl))) ?_
          refine steps_cons (st_run 2 _ rfl rfl hLo rfl rfl (fun _ _ _ _ => rfl) (fun b G w hb ho => exec_extract rfl (ev_on hLo 0 rfl HS37.1 rfl (hb 2 (by rfl))) (by rfl))) ?_
          refine steps_cons (st_run 3 _ rfl rfl hLo rfl rfl (fun _ _ _ _ => rfl) (fun b G w hb ho => exec_move (.inr rfl) (ev_on hLo 1 rfl HS37.1 rfl (hb 3 (by rfl))))) ?_
          refine steps_cons (st_run 4 _ rfl rfl hLo rfl rfl (fun _ _ _ _ => rfl) (fun b G w hb ho => exec_move (.inr rfl) (ev_on hLo 2 rfl HS37.1 rfl (hb 4 (by rfl))))) ?_
          exact steps_nil
        clear hLo
        intro G a39 w39 hS hH
        have HS39 : Sl a39 129 [(0, .slice (al0) (len0) (cap0)), (1, .slice (al1) (len1) (cap1)), (2, .int .i64 (nn)), (3, .int .i64 (kk)), (22, .bool false), (23, .slice (al0) (len0) (cap0)), (24, .int .i64 ((len0 : Int))), (25, .int .i64 ((len0 : Int))), (9, .int .i64 (((sumR l0 : Nat) : Int))), (26, .bool false), (38, .bool false), (12, .pointer (some ⟨g, 0, none⟩)), (13, .int .i64 ((su : Int))), (14, .int .i64 ((mk : Int))), (18, .slice (A1) ((l0.take k).length) (c1)), (19, .int .i64 (0))] := hS
        have HH39 : Held ⟨w36, [g]⟩ w39 [⟨g, (), 6, spC (openS (onS (offS m kk)) ((l0.take k).map enR)), 53⟩] := hH
        clear hS hH HS37 HH38
        refine end_ rfl ?_
        refine then_ ?_
        refine wp_seq ?_
        refine wp_seq ?_
        refine whole_ ?_
        have hLo : LOk [(0, 84, .val (.int .i64 (0))), (1, 85, .val (.bool false)), (2, 86, .val (.bool false)), (3, 87, .val (.slice (A1) ((l0.take k).length) (c1))), (4, 88, .val (.int .i64 (((l0.take k).length : Int)))), (5, 89, .val (.int .i64 ((su : Int)))), (6, 90, .val (.bool false)), (7, 91, .val (.bool false)), (8, 92, .val (.bool false)), (9, 93, .val (.slice (A1) ((l0.take k).length) (c1))), (10, 94, .val (.int .i64 (((l0.take k).length : Int)))), (11, 95, .val (.int .i64 ((mk : Int)))), (12, 96, .val (.bool false)), (13, 97, .val (.bool false)), (14, 98, .val (.bool false)), (15, 99, .val (.slice (A1) ((l0.take k).length) (c1))), (16, 100, .val (.slice (al0) (len0) (cap0))), (17, 101, .val (.slice (A1) ((l0.take k).length) (c1))), (18, 102, .val (.int .i64 (((l0.take k).length : Int))))] := lok (by rfl) (by rfl)
        refine part_ (wE := ⟨w36, [g]⟩) (sz := 129) (n := 23) 0 19 [0, 1, 3, 7, 15, 31, 63, 127, 255, 511, 1023, 2047, 4095, 8191, 16383, 32767, 65535, 131071, 262143, 524287, 1048575, 2097151, 4194303] [(0, .val (.slice (al0) (len0) (cap0))), (1, .val (.slice (al1) (len1) (cap1))), (2, .val (.int .i64 (nn))), (3, .val (.int .i64 (kk))), (22, .val (.bool false)), (23, .val (.slice (al0) (len0) (cap0))), (24, .val (.int .i64 ((len0 : Int)))), (25, .val (.int .i64 ((len0 : Int)))), (9, .val (.int .i64 (((sumR l0 : Nat) : Int)))), (26, .val (.bool false)), (38, .val (.bool false)), (12, .val (.pointer (some ⟨g, 0, none⟩))), (13, .val (.int .i64 ((su : Int)))), (14, .val (.int .i64 ((mk : Int)))), (18, .val (.slice (A1) ((l0.take k).length) (c1))), (19, .val (.int .i64 (0))), (98, .val (.bool false)), (99, .val (.slice (A1) ((l0.take k).length) (c1))), (100, .val (.slice (al0) (len0) (cap0))), (102, .val (.int .i64 (((l0.take k).length : Int))))] [(0, 84, .val (.int .i64 (0))), (1, 85, .val (.bool false)), (2, 86, .val (.bool false)), (3, 87, .val (.slice (A1) ((l0.take k).length) (c1))), (4, 88, .val (.int .i64 (((l0.take k).length : Int)))), (5, 89, .val (.int .i64 ((su : Int)))), (6, 90, .val (.bool false)), (7, 91, .val (.bool false)), (8, 92, .val (.bool false)), (9, 93, .val (.slice (A1) ((l0.take k).length) (c1))), (10, 94, .val (.int .i64 (((l0.take k).length : Int)))), (11, 95, .val (.int .i64 ((mk : Int)))), (12, 96, .val (.bool false)), (13, 97, .val (.bool false)), (14, 98, .val (.bool false)), (15, 99, .val (.slice (A1) ((l0.take k).length) (c1))), (16, 100, .val (.slice (al0) (len0) (cap0))), (17, 101, .val (.slice (A1) ((l0.take k).length) (c1))), (18, 102, .val (.int .i64 (((l0.take k).length : Int))))] [⟨g, none, none, (), 6, spC (openS (onS (offS m kk)) ((l0.take k).map enR)), spC (openS (onS (offS m kk)) ((l0.take k).map enR)), 53⟩] rfl rfl (by rfl) HH39 rfl rfl hLo rfl HS39 (slS 0 rfl rfl (slS 1 rfl rfl (slS 2 rfl rfl (slS 3 rfl rfl (slS 4 rfl rfl (slS 5 rfl rfl (slS 6 rfl rfl (slS 7 rfl rfl (slS 8 rfl rfl (slS 9 rfl rfl (slS 10 rfl rfl (slS 11 rfl rfl (slS 12 rfl rfl (slS 13 rfl rfl (slS 14 rfl rfl (slS 15 rfl rfl (slL 14 (d := 14) rfl (slL 15 (d := 15) rfl (slL 16 (d := 16) rfl (slL 18 (d := 18) rfl (trivial))))))))))))))))))))) ?_ ?_
        · show ∀ i ∈ [0, 1, 2, 3, 4, 5, 6, 7, 8, 9, 10, 11, 12, 13, 14, 15, 16, 17, 18], _
          refine steps_cons (st_run 0 _ rfl rfl hLo rfl rfl (fun _ _ _ _ => rfl) (fun b G w hb ho => exec_move (.inl rfl) (ev_off rfl (HS39.get 15 rfl)))) ?_
          refine steps_cons (st_run 1 _ rfl rfl hLo rfl rfl (fun _ _ _ _ => rfl) (fun b G w hb ho => exec_bin rfl (ev_on hLo 0 rfl HS39.1 rfl (hb 0 (by rfl))) (rfl) (rb_neq (rfl) _ _ _))) ?_
          refine steps_cons (st_run 2 _ rfl rfl hLo rfl rfl (fun _ _ _ _ => rfl) (fun b G w hb ho => exec_move (.inl rfl) (ev_on hLo 1 rfl HS39.1 rfl (hb 1 (by rfl))))) ?_
          refine steps_cons (st_run 3 _ rfl rfl hLo rfl rfl (fun b G hb ho => wanted_is rfl rfl rfl HS39.1 rfl (ev_on hLo 2 rfl HS39.1 rfl (hb 2 (by rfl))) rfl) (fun b G w hb ho => exec_move (.inl rfl) (ev_off rfl (HS39.get 14 rfl)))) ?_
          refine steps_cons (st_run 4 _ rfl rfl hLo rfl rfl (fun b G hb ho => wanted_is rfl rfl rfl HS39.1 rfl (ev_on hLo 2 rfl HS39.1 rfl (hb 2 (by rfl))) rfl) (fun b G w hb ho => exec_lenL Try.underlying25 rfl (ev_on hLo 3 rfl HS39.1 rfl (hb 3 (by rfl))))) ?_
          refine steps_cons (st_run 5 _ rfl rfl hLo rfl rfl (fun b G hb ho => wanted_is rfl rfl rfl HS39.1 rfl (ev_on hLo 2 rfl HS39.1 rfl (hb 2 (by rfl))) rfl) (fun b G w hb ho => exec_move (.inl rfl) (ev_off rfl (HS39.get 12 rfl)))) ?_
          refine steps_cons (st_run 6 _ rfl rfl hLo rfl rfl (fun b G hb ho => wanted_is rfl rfl rfl HS39.1 rfl (ev_on hLo 2 rfl HS39.1 rfl (hb 2 (by rfl))) rfl) (fun b G w hb ho => exec_bin rfl (ev_on hLo 4 rfl HS39.1 rfl (hb 4 (by rfl))) (ev_on hLo 5 rfl HS39.1 rfl (hb 5 (by rfl))) (rb_lss (decide_eq_false (by omega)) _ _ _))) ?_
          refine steps_cons (st_run 7 _ rfl rfl hLo rfl rfl (fun _ _ _ _ => rfl) (fun b G w hb ho => exec_pick rfl (ev_on hLo 2 rfl HS39.1 rfl (hb 2 (by rfl))) (ev_on hLo 6 rfl HS39.1 rfl (hb 6 (by rfl))))) ?_
          refine steps_cons (st_run 8 _ rfl rfl hLo rfl rfl (fun _ _ _ _ => rfl) (fun b G w hb ho => exec_move (.inl rfl) (ev_on hLo 7 rfl HS39.1 rfl (hb 7 (by rfl))))) ?_
          refine steps_cons (st_run 9 _ rfl rfl hLo rfl rfl (fun b G hb ho => wanted_is rfl rfl rfl HS39.1 rfl (ev_on hLo 8 rfl HS39.1 rfl (hb 8 (by rfl))) rfl) (fun b G w hb ho => exec_move (.inl rfl) (ev_off rfl (HS39.get 14 rfl)))) ?_
          refine steps_cons (st_run 10 _ rfl rfl hLo rfl rfl (fun b G hb ho => wanted_is rfl rfl rfl HS39.1 rfl (ev_on hLo 8 rfl HS39.1 rfl (hb 8 (by rfl))) rfl) (fun b G w hb ho => exec_lenL Try.underlying25 rfl (ev_on hLo 9 rfl HS39.1 rfl (hb 9 (by rfl))))) ?_
          refine steps_cons (st_run 11 _ rfl rfl hLo rfl rfl (fun b G hb ho => wanted_is rfl rfl rfl HS39.1 rfl (ev_on hLo 8 rfl HS39.1 rfl (hb 8 (by rfl))) rfl) (fun b G w hb ho => exec_move (.inl rfl) (ev_off rfl (HS39.get 13 rfl)))) ?_
          refine steps_cons (st_run 12 _ rfl rfl hLo rfl rfl (fun b G hb ho => wanted_is rfl rfl rfl HS39.1 rfl (ev_on hLo 8 rfl HS39.1 rfl (hb 8 (by rfl))) rfl) (fun b G w hb ho => exec_bin rfl (ev_on hLo 10 rfl HS39.1 rfl (hb 10 (by rfl))) (ev_on hLo 11 rfl HS39.1 rfl (hb 11 (by rfl))) (rb_gtr (decide_eq_false (by omega)) _ _ _))) ?_
          refine steps_cons (st_run 13 _ rfl rfl hLo rfl rfl (fun _ _ _ _ => rfl) (fun b G w hb ho => exec_pick rfl (ev_on hLo 8 rfl HS39.1 rfl (hb 8 (by rfl))) (ev_on hLo 12 rfl HS39.1 rfl (hb 12 (by rfl))))) ?_
          refine steps_cons (st_run 14 _ rfl rfl hLo rfl rfl (fun _ _ _ _ => rfl) (fun b G w hb ho => exec_move (.inl rfl) (ev_on hLo 13 rfl HS39.1 rfl (hb 13 (by rfl))))) ?_
          refine steps_cons (st_run 15 _ rfl rfl hLo rfl rfl (fun b G hb ho => wanted_is rfl rfl rfl HS39.1 rfl (ev_on hLo 14 rfl HS39.1 rfl (hb 14 (by rfl))) rfl) (fun b G w hb ho => exec_move (.inl rfl) (ev_off rfl (HS39.get 14 rfl)))) ?_
          refine steps_cons (st_run 16 _ rfl rfl hLo rfl rfl (fun b G hb ho => wanted_is rfl rfl rfl HS39.1 rfl (ev_on hLo 14 rfl HS39.1 rfl (hb 14 (by rfl))) rfl) (fun b G w hb ho => exec_move (.inl rfl) (ev_off rfl (HS39.get 0 rfl)))) ?_
          refine steps_cons (st_run 17 _ rfl rfl hLo rfl rfl (fun b G hb ho => wanted_is rfl rfl rfl HS39.1 rfl (ev_on hLo 14 rfl HS39.1 rfl (hb 14 (by rfl))) rfl) (fun b G w hb ho => exec_move (.inl rfl) (ev_off rfl (HS39.get 14 rfl)))) ?_
          refine steps_cons (st_run 18 _ rfl rfl hLo rfl rfl (fun b G hb ho => wanted_is rfl rfl rfl HS39.1 rfl (ev_on hLo 14 rfl HS39.1 rfl (hb 14 (by rfl))) rfl) (fun b G w hb ho => exec_lenL Try.underlying25 rfl (ev_on hLo 17 rfl HS39.1 rfl (hb 17 (by rfl))))) ?_
          exact steps_nil
        clear hLo
        intro G a40 w40 hS hH
        have HS40 : Sl a40 129 [(0, .slice (al0) (len0) (cap0)), (1, .slice (al1) (len1) (cap1)), (2, .int .i64 (nn)), (3, .int .i64 (kk)), (22, .bool false), (23, .slice (al0) (len0) (cap0)), (24, .int .i64 ((len0 : Int))), (25, .int .i64 ((len0 : Int))), (9, .int .i64 (((sumR l0 : Nat) : Int))), (26, .bool false), (38, .bool false), (12, .pointer (some ⟨g, 0, none⟩)), (13, .int .i64 ((su : Int))), (14, .int .i64 ((mk : Int))), (18, .slice (A1) ((l0.take k).length) (c1)), (19, .int .i64 (0)), (98, .bool false), (99, .slice (A1) ((l0.take k).length) (c1)), (100, .slice (al0) (len0) (cap0)), (102, .int .i64 (((l0.take k).length : Int)))] := hS
        have HH40 : Held ⟨w36, [g]⟩ w40 [⟨g, (), 6, spC (openS (onS (offS m kk)) ((l0.take k).map enR)), 53⟩] := hH
        clear hS hH HS39 HH39
        refine cut_run (i := 19) rfl rfl (wanted_is (L := []) (b := fun _ => false) (G := fun _ => 0) rfl rfl rfl HS40.1 rfl (HS40.get 16 rfl) rfl) (exec_slice rfl (HS40.get 18 rfl) rfl (congrArg some (HS40.get 19 rfl)) rfl (rs_slh (m := 1) Try.underlying25 (by kernel_rfl) (h := (l0.take k).length) (by omega) hI.z_cap _)) HS40 rfl (fun a41 hS => ?_)
        have HS42 : Sl a41 129 [(103, .slice (al0) ((l0.take k).length) (cap0)), (0, .slice (al0) (len0) (cap0)), (1, .slice (al1) (len1) (cap1)), (2, .int .i64 (nn)), (3, .int .i64 (kk)), (22, .bool false), (23, .slice (al0) (len0) (cap0)), (24, .int .i64 ((len0 : Int))), (25, .int .i64 ((len0 : Int))), (9, .int .i64 (((sumR l0 : Nat) : Int))), (26, .bool false), (38, .bool false), (12, .pointer (some ⟨g, 0, none⟩)), (13, .int .i64 ((su : Int))), (14, .int .i64 ((mk : Int))), (18, .slice (A1) ((l0.take k).length) (c1)), (19, .int .i64 (0)), (98, .bool false), (99, .slice (A1) ((l0.take k).length) (c1)), (100, .slice (al0) (len0) (cap0)), (102, .int .i64 (((l0.take k).length : Int)))] := hS
        have HH42 : Held ⟨w36, [g]⟩ w40 [⟨g, (), 6, spC (openS (onS (offS m kk)) ((l0.take k).map enR)), 53⟩] := HH40
        clear hS
        have hLo : LOk [(20, 104, .val (.bool true)), (21, 105, .val (.bool false)), (22, 106, .val (.bool false))] := lok (by rfl) (by rfl)
        refine part_ (wE := ⟨w36, [g]⟩) (sz := 129) (n := 23) 20 23 [0, 1, 3, 7, 15, 31, 63, 127, 255, 511, 1023, 2047, 4095, 8191, 16383, 32767, 65535, 131071, 262143, 524287, 1048575, 2097151, 4194303] [(0, .val (.slice (al0) (len0) (cap0))), (1, .val (.slice (al1) (len1) (cap1))), (2, .val (.int .i64 (nn))), (3, .val (.int .i64 (kk))), (22, .val (.bool false)), (23, .val (.slice (al0) (len0) (cap0))), (24, .val (.int .i64 ((len0 : Int)))), (25, .val (.int .i64 ((len0 : Int)))), (9, .val (.int .i64 (((sumR l0 : Nat) : Int)))), (26, .val (.bool false)), (38, .val (.bool false)), (12, .val (.pointer (some ⟨g, 0, none⟩))), (13, .val (.int .i64 ((su : Int)))), (14, .val (.int .i64 ((mk : Int)))), (18, .val (.slice (A1) ((l0.take k).length) (c1))), (19, .val (.int .i64 (0))), (106, .val (.bool false))] [(20, 104, .val (.bool true)), (21, 105, .val (.bool false)), (22, 106, .val (.bool false))] [⟨g, none, none, (), 6, spC (openS (onS (offS m kk)) ((l0.take k).map enR)), spC (openS (onS (offS m kk)) ((l0.take k).map enR)), 53⟩] rfl rfl (by rfl) HH42 rfl rfl hLo rfl HS42 (slS 1 rfl rfl (slS 2 rfl rfl (slS 3 rfl rfl (slS 4 rfl rfl (slS 5 rfl rfl (slS 6 rfl rfl (slS 7 rfl rfl (slS 8 rfl rfl (slS 9 rfl rfl (slS 10 rfl rfl (slS 11 rfl rfl (slS 12 rfl rfl (slS 13 rfl rfl (slS 14 rfl rfl (slS 15 rfl rfl (slS 16 rfl rfl (slL 2 (d := 22) rfl (trivial)))))))))))))))))) ?_ ?_
        · show ∀ i ∈ [20, 21, 22], _
          refine steps_cons (st_call 0 _ #[.slice (A1) ((l0.take k).length) (c1), .slice (al0) ((l0.take k).length) (cap0)] rfl rfl rfl (fun b G hb ho => wanted_is rfl rfl rfl HS42.1 rfl (ev_off rfl (HS42.get 17 rfl)) rfl) hLo rfl rfl Try.func12 rfl rfl (fun b G hb ho => args2 (ev_off rfl (HS42.get 18 rfl)) (ev_off rfl (HS42.get 0 rfl))) (fun w hw => same_callsC (hT1.over hw (allLt1 (by omega))).C.1 (hT1.over hw (allLt1 (by omega))).C.2 (by rw [hlk]; exact c_take (Kd.C_below hI.z_C (bel_over hB_38 hw hB_38.size (allLe1 (by omega)))) (by omega)) (by rw [hlk]; have := hI.z_cap; omega) (by omega))) ?_
          refine steps_cons (st_run 1 _ rfl rfl hLo rfl rfl (fun b G hb ho => wanted_is rfl rfl rfl HS42.1 rfl (ev_off rfl (HS42.get 17 rfl)) rfl) (fun b G w hb ho => exec_un rfl (ev_on hLo 0 rfl HS42.1 rfl (hb 20 (by rfl))) (ru_not _))) ?_
          refine steps_cons (st_run 2 _ rfl rfl hLo rfl rfl (fun _ _ _ _ => rfl) (fun b G w hb ho => exec_pick rfl (ev_off rfl (HS42.get 17 rfl)) (ev_on hLo 1 rfl HS42.1 rfl (hb 21 (by rfl))))) ?_
          exact steps_nil
        clear hLo
        intro G a43 w43 hS hH
        have HS43 : Sl a43 129 [(0, .slice (al0) (len0) (cap0)), (1, .slice (al1) (len1) (cap1)), (2, .int .i64 (nn)), (3, .int .i64 (kk)), (22, .bool false), (23, .slice (al0) (len0) (cap0)), (24, .int .i64 ((len0 : Int))), (25, .int .i64 ((len0 : Int))), (9, .int .i64 (((sumR l0 : Nat) : Int))), (26, .bool false), (38, .bool false), (12, .pointer (some ⟨g, 0, none⟩)), (13, .int .i64 ((su : Int))), (14, .int .i64 ((mk : Int))), (18, .slice (A1) ((l0.take k).length) (c1)), (19, .int .i64 (0)), (106, .bool false)] := hS
        have HH43 : Held ⟨w36, [g]⟩ w43 [⟨g, (), 6, spC (openS (onS (offS m kk)) ((l0.take k).map enR)), 53⟩] := hH
        clear hS hH HS42 HH42
        refine end_ rfl ?_
        refine then_ ?_
        refine wp_cond_false (HS43.get 16 rfl) ?_
        refine wp_skip ?_
        refine then_ ?_
        refine wp_seq ?_
        refine whole_ ?_
        have hLo : LOk [(0, 108, .val (.pointer (some ⟨g, 0, none⟩)))] := lok (by rfl) (by rfl)
        refine part_ (wE := ⟨w36, [g]⟩) (sz := 129) (n := 7) 0 1 [0, 1, 3, 7, 15, 31, 63] [(0, .val (.slice (al0) (len0) (cap0))), (1, .val (.slice (al1) (len1) (cap1))), (2, .val (.int .i64 (nn))), (3, .val (.int .i64 (kk))), (22, .val (.bool false)), (23, .val (.slice (al0) (len0) (cap0))), (24, .val (.int .i64 ((len0 : Int)))), (25, .val (.int .i64 ((len0 : Int)))), (9, .val (.int .i64 (((sumR l0 : Nat) : Int)))), (26, .val (.bool false)), (38, .val (.bool false)), (12, .val (.pointer (some ⟨g, 0, none⟩))), (13, .val (.int .i64 ((su : Int)))), (14, .val (.int .i64 ((mk : Int)))), (18, .val (.slice (A1) ((l0.take k).length) (c1))), (19, .val (.int .i64 (0))), (106, .val (.bool false)), (108, .val (.pointer (some ⟨g, 0, none⟩)))] [(0, 108, .val (.pointer (some ⟨g, 0, none⟩)))] [⟨g, none, none, (), 6, spC (openS (onS (offS m kk)) ((l0.take k).map enR)), spC (openS (onS (offS m kk)) ((l0.take k).map enR)), 53⟩] rfl rfl (by rfl) HH43 rfl rfl hLo rfl HS43 (slS 0 rfl rfl (slS 1 rfl rfl (slS 2 rfl rfl (slS 3 rfl rfl (slS 4 rfl rfl (slS 5 rfl rfl (slS 6 rfl rfl (slS 7 rfl rfl (slS 8 rfl rfl (slS 9 rfl rfl (slS 10 rfl rfl (slS 11 rfl rfl (slS 12 rfl rfl (slS 13 rfl rfl (slS 14 rfl rfl (slS 15 rfl rfl (slS 16 rfl rfl (slL 0 (d := 0) rfl (trivial))))))))))))))))))) ?_ ?_
        · show ∀ i ∈ [0], _
          refine steps_cons (st_run 0 _ rfl rfl hLo rfl rfl (fun _ _ _ _ => rfl) (fun b G w hb ho => exec_move (.inl rfl) (ev_off rfl (HS43.get 11 rfl)))) ?_
          exact steps_nil
        clear hLo
        intro G a44 w44 hS hH
        have HS44 : Sl a44 129 [(0, .slice (al0) (len0) (cap0)), (1, .slice (al1) (len1) (cap1)), (2, .int .i64 (nn)), (3, .int .i64 (kk)), (22, .bool false), (23, .slice (al0) (len0) (cap0)), (24, .int .i64 ((len0 : Int))), (25, .int .i64 ((len0 : Int))), (9, .int .i64 (((sumR l0 : Nat) : Int))), (26, .bool false), (38, .bool false), (12, .pointer (some ⟨g, 0, none⟩)), (13, .int .i64 ((su : Int))), (14, .int .i64 ((mk : Int))), (18, .slice (A1) ((l0.take k).length) (c1)), (19, .int .i64 (0)), (106, .bool false), (108, .pointer (some ⟨g, 0, none⟩))] := hS
        have HH44 : Held ⟨w36, [g]⟩ w44 [⟨g, (), 6, spC (openS (onS (offS m kk)) ((l0.take k).map enR)), 53⟩] := hH
        clear hS hH HS43 HH43
        have hrw2 := HH44.row 0 rfl
        have hlt2 := hrw2.lt
        refine cut_call _ rfl rfl rfl rfl Try.func10 rfl rfl (args1 (HS44.get 17 rfl)) (openM_some (m := (openS (onS (offS m kk)) ((l0.take k).map enR))) rfl (n := 1000) ⟨Nat.min_le_right _ _, by show (cat ((l0.take k).map enR)).size ≤ _; omega, hok3.q_ac, hok3.q_in⟩ (cuts_cat hC.no) (recs_enR _) hrw2) HS44 rfl ?_
        rintro e45 w45 ⟨⟨A2, c2, rfl, hT2⟩, hr2, hf2⟩
        refine ⟨_, rfl, fun a45 hS => ?_⟩
        have HS46 : Sl a45 129 [(109, .tuple #[.slice (A2) ((l0.take k).length) (c2), .int .i64 (0)]), (0, .slice (al0) (len0) (cap0)), (1, .slice (al1) (len1) (cap1)), (2, .int .i64 (nn)), (3, .int .i64 (kk)), (22, .bool false), (23, .slice (al0) (len0) (cap0)), (24, .int .i64 ((len0 : Int))), (25, .int .i64 ((len0 : Int))), (9, .int .i64 (((sumR l0 : Nat) : Int))), (26, .bool false), (38, .bool false), (12, .pointer (some ⟨g, 0, none⟩)), (13, .int .i64 ((su : Int))), (14, .int .i64 ((mk : Int))), (18, .slice (A1) ((l0.take k).length) (c1)), (19, .int .i64 (0)), (106, .bool false), (108, .pointer (some ⟨g, 0, none⟩))] := hS
        have HH46 : Held ⟨w36, [g]⟩ w45 [⟨g, (), 6, spC (openS (openS (onS (offS m kk)) ((l0.take k).map enR)) ((l0.take k).map enR)), 53⟩] := HH44.turn 0 rfl hf2 hr2
        clear hS
        skip
        have hB_47 := bel_over hB_38 HH46.1 hB_38.size (allLe1 (by omega))
        have hT1_47 := hT1.over HH46.1 (allLt1 (by omega))
        have HH47 : Held ⟨w45, [g]⟩ w45 [⟨g, (), 6, spC (openS (openS (onS (offS m kk)) ((l0.take k).map enR)) ((l0.take k).map enR)), 53⟩] := HH46.anew
        have hLo : LOk [(2, 107, .val (.tuple #[.slice (A2) ((l0.take k).length) (c2), .int .i64 (0)])), (3, 110, .val (.slice (A2) ((l0.take k).length) (c2))), (4, 111, .val (.int .i64 (0))), (5, 20, .val (.slice (A2) ((l0.take k).length) (c2))), (6, 19, .val (.int .i64 (0)))] := lok (by rfl) (by rfl)
        refine part_ (wE := ⟨w45, [g]⟩) (sz := 129) (n := 7) 2 7 [0, 1, 3, 7, 15, 31, 63] [(0, .val (.slice (al0) (len0) (cap0))), (1, .val (.slice (al1) (len1) (cap1))), (2, .val (.int .i64 (nn))), (3, .val (.int .i64 (kk))), (22, .val (.bool false)), (23, .val (.slice (al0) (len0) (cap0))), (24, .val (.int .i64 ((len0 : Int)))), (25, .val (.int .i64 ((len0 : Int)))), (9, .val (.int .i64 (((sumR l0 : Nat) : Int)))), (26, .val (.bool false)), (38, .val (.bool false)), (12, .val (.pointer (some ⟨g, 0, none⟩))), (13, .val (.int .i64 ((su : Int)))), (14, .val (.int .i64 ((mk : Int)))), (18, .val (.slice (A1) ((l0.take k).length) (c1))), (106, .val (.bool false)), (20, .val (.slice (A2) ((l0.take k).length) (c2))), (19, .val (.int .i64 (0)))] [(2, 107, .val (.tuple #[.slice (A2) ((l0.take k).length) (c2), .int .i64 (0)])), (3, 110, .val (.slice (A2) ((l0.take k).length) (c2))), (4, 111, .val (.int .i64 (0))), (5, 20, .val (.slice (A2) ((l0.take k).length) (c2))), (6, 19, .val (.int .i64 (0)))] [⟨g, none, none, (), 6, spC (openS (openS (onS (offS m kk)) ((l0.take k).map enR)) ((l0.take k).map enR)), spC (openS (openS (onS (offS m kk)) ((l0.take k).map enR)) ((l0.take k).map enR)), 53⟩] rfl rfl (by rfl) HH47 rfl rfl hLo rfl HS46 (slS 1 rfl rfl (slS 2 rfl rfl (slS 3 rfl rfl (slS 4 rfl rfl (slS 5 rfl rfl (slS 6 rfl rfl (slS 7 rfl rfl (slS 8 rfl rfl (slS 9 rfl rfl (slS 10 rfl rfl (slS 11 rfl rfl (slS 12 rfl rfl (slS 13 rfl rfl (slS 14 rfl rfl (slS 15 rfl rfl (slS 17 rfl rfl (slL 3 (d := 5) rfl (slL 4 (d := 6) rfl (trivial))))))))))))))))))) ?_ ?_
        · show ∀ i ∈ [2, 3, 4, 5, 6], _
          refine steps_cons (st_run 0 _ rfl rfl hLo rfl rfl (fun _ _ _ _ => rfl) (fun b G w hb ho => exec_move (.inl rfl) (ev_off rfl (HS46.get 0 rfl)))) ?_
          refine steps_cons (st_run 1 _ rfl rfl hLo rfl rfl (fun _ _ _ _ => rfl) (fun b G w hb ho => exec_extract rfl (ev_on hLo 0 rfl HS46.1 rfl (hb 2 (by rfl))) (by rfl))) ?_
          refine steps_cons (st_run 2 _ rfl rfl hLo rfl rfl (fun _ _ _ _ => rfl) (fun b G w hb ho => exec_extract rfl (ev_on hLo 0 rfl HS46.1 rfl (hb 2 (by rfl))) (by rfl))) ?_
          refine steps_cons (st_run 3 _ rfl rfl hLo rfl rfl (fun _ _ _ _ => rfl) (fun b G w hb ho => exec_move (.inr rfl) (ev_on hLo 1 rfl HS46.1 rfl (hb 3 (by rfl))))) ?_
          refine steps_cons (st_run 4 _ rfl rfl hLo rfl rfl (fun _ _ _ _ => rfl) (fun b G w hb ho => exec_move (.inr rfl) (ev_on hLo 2 rfl HS46.1 rfl (hb 4 (by rfl))))) ?_
          exact steps_nil
        clear hLo
        intro G a48 w48 hS hH
        have HS48 : Sl a48 129 [(0, .slice (al0) (len0) (cap0)), (1, .slice (al1) (len1) (cap1)), (2, .int .i64 (nn)), (3, .int .i64 (kk)), (22, .bool false), (23, .slice (al0) (len0) (cap0)), (24, .int .i64 ((len0 : Int))), (25, .int .i64 ((len0 : Int))), (9, .int .i64 (((sumR l0 : Nat) : Int))), (26, .bool false), (38, .bool false), (12, .pointer (some ⟨g, 0, none⟩)), (13, .int .i64 ((su : Int))), (14, .int .i64 ((mk : Int))), (18, .slice (A1) ((l0.take k).length) (c1)), (106, .bool false), (20, .slice (A2) ((l0.take k).length) (c2)), (19, .int .i64 (0))] := hS
        have HH48 : Held ⟨w45, [g]⟩ w48 [⟨g, (), 6, spC (openS (openS (onS (offS m kk)) ((l0.take k).map enR)) ((l0.take k).map enR)), 53⟩] := hH
        clear hS hH HS46 HH47
        refine end_ rfl ?_
        refine then_ ?_
        refine wp_seq ?_
        refine whole_ ?_
        have hLo : LOk [(0, 112, .val (.int .i64 (0))), (1, 113, .val (.bool true)), (2, 114, .val (.bool true)), (3, 115, .val (.slice (A2) ((l0.take k).length) (c2))), (4, 116, .val (.slice (A1) ((l0.take k).length) (c1))), (5, 117, .val (.bool true)), (6, 118, .val (.bool true)), (7, 119, .val (.bool true)), (8, 120, .val (.pointer (some ⟨g, 0, none⟩))), (9, 121, .val (.int .i64 (0)))] := lok (by rfl) (by rfl)
        refine part_ (wE := ⟨w45, [g]⟩) (sz := 129) (n := 18) 0 10 [0, 1, 3, 7, 15, 31, 63, 127, 255, 511, 1023, 2047, 4095, 8191, 16383, 32767, 65535, 131071] [(0, .val (.slice (al0) (len0) (cap0))), (1, .val (.slice (al1) (len1) (cap1))), (2, .val (.int .i64 (nn))), (3, .val (.int .i64 (kk))), (22, .val (.bool false)), (23, .val (.slice (al0) (len0) (cap0))), (24, .val (.int .i64 ((len0 : Int)))), (25, .val (.int .i64 ((len0 : Int)))), (9, .val (.int .i64 (((sumR l0 : Nat) : Int)))), (26, .val (.bool false)), (38, .val (.bool false)), (12, .val (.pointer (some ⟨g, 0, none⟩))), (13, .val (.int .i64 ((su : Int)))), (14, .val (.int .i64 ((mk : Int)))), (18, .val (.slice (A1) ((l0.take k).length) (c1))), (106, .val (.bool false)), (20, .val (.slice (A2) ((l0.take k).length) (c2))), (19, .val (.int .i64 (0))), (119, .val (.bool true)), (121, .val (.int .i64 (0)))] [(0, 112, .val (.int .i64 (0))), (1, 113, .val (.bool true)), (2, 114, .val (.bool true)), (3, 115, .val (.slice (A2) ((l0.take k).length) (c2))), (4, 116, .val (.slice (A1) ((l0.take k).length) (c1))), (5, 117, .val (.bool true)), (6, 118, .val (.bool true)), (7, 119, .val (.bool true)), (8, 120, .val (.pointer (some ⟨g, 0, none⟩))), (9, 121, .val (.int .i64 (0)))] [⟨g, none, some 9, (), 6, spC (openS (openS (onS (offS m kk)) ((l0.take k).map enR)) ((l0.take k).map enR)), spC ⟨((openS (openS (onS (offS m kk)) ((l0.take k).map enR)) ((l0.take k).map enR))).al ++ lineS ⟨#[109, 111, 114, 101]⟩, ((openS (openS (onS (offS m kk)) ((l0.take k).map enR)) ((l0.take k).map enR))).sy, false, ((openS (openS (onS (offS m kk)) ((l0.take k).map enR)) ((l0.take k).map enR))).acts + 1, 0, ((openS (openS (onS (offS m kk)) ((l0.take k).map enR)) ((l0.take k).map enR))).keep⟩, 53⟩] rfl rfl (by rfl) HH48 rfl rfl hLo rfl HS48 (slS 0 rfl rfl (slS 1 rfl rfl (slS 2 rfl rfl (slS 3 rfl rfl (slS 4 rfl rfl (slS 5 rfl rfl (slS 6 rfl rfl (slS 7 rfl rfl (slS 8 rfl rfl (slS 9 rfl rfl (slS 10 rfl rfl (slS 11 rfl rfl (slS 12 rfl rfl (slS 13 rfl rfl (slS 14 rfl rfl (slS 15 rfl rfl (slS 16 rfl rfl (slS 17 rfl rfl (slL 7 (d := 7) rfl (slL 9 (d := 9) rfl (trivial))))))))))))))))))))) ?_ ?_
        · show ∀ i ∈ [0, 1, 2, 3, 4, 5, 6, 7, 8, 9], _
          refine steps_cons (st_run 0 _ rfl rfl hLo rfl rfl (fun _ _ _ _ => rfl) (fun b G w hb ho => exec_move (.inl rfl) (ev_off rfl (HS48.get 17 rfl)))) ?_
          refine steps_cons (st_run 1 _ rfl rfl hLo rfl rfl (fun _ _ _ _ => rfl) (fun b G w hb ho => exec_bin rfl (ev_on hLo 0 rfl HS48.1 rfl (hb 0 (by rfl))) (rfl) (rb_eql (rfl) _ _ _))) ?_
          refine steps_cons (st_run 2 _ rfl rfl hLo rfl rfl (fun _ _ _ _ => rfl) (fun b G w hb ho => exec_move (.inl rfl) (ev_on hLo 1 rfl HS48.1 rfl (hb 1 (by rfl))))) ?_
          refine steps_cons (st_run 3 _ rfl rfl hLo rfl rfl (fun b G hb ho => wanted_is rfl rfl rfl HS48.1 rfl (ev_on hLo 2 rfl HS48.1 rfl (hb 2 (by rfl))) rfl) (fun b G w hb ho => exec_move (.inl rfl) (ev_off rfl (HS48.get 16 rfl)))) ?_
          refine steps_cons (st_run 4 _ rfl rfl hLo rfl rfl (fun b G hb ho => wanted_is rfl rfl rfl HS48.1 rfl (ev_on hLo 2 rfl HS48.1 rfl (hb 2 (by rfl))) rfl) (fun b G w hb ho => exec_move (.inl rfl) (ev_off rfl (HS48.get 14 rfl)))) ?_
          refine steps_cons (st_call 5 _ #[.slice (A2) ((l0.take k).length) (c2), .slice (A1) ((l0.take k).length) (c1)] rfl rfl rfl (fun b G hb ho => wanted_is rfl rfl rfl HS48.1 rfl (ev_on hLo 2 rfl HS48.1 rfl (hb 2 (by rfl))) rfl) hLo rfl rfl Try.func12 rfl rfl (fun b G hb ho => args2 (ev_on hLo 3 rfl HS48.1 rfl (hb 3 (by rfl))) (ev_on hLo 4 rfl HS48.1 rfl (hb 4 (by rfl)))) (fun w hw => same_callsC (hT2.over hw (allLt1 (by omega))).C.1 (hT2.over hw (allLt1 (by omega))).C.2 (hT1_47.over hw (allLt1 (by omega))).C.1 (hT1_47.over hw (allLt1 (by omega))).C.2 (by omega))) ?_
          refine steps_cons (st_run 6 _ rfl rfl hLo rfl rfl (fun _ _ _ _ => rfl) (fun b G w hb ho => exec_pick rfl (ev_on hLo 2 rfl HS48.1 rfl (hb 2 (by rfl))) (ev_on hLo 5 rfl HS48.1 rfl (hb 5 (by rfl))))) ?_
          refine steps_cons (st_run 7 _ rfl rfl hLo rfl rfl (fun _ _ _ _ => rfl) (fun b G w hb ho => exec_move (.inl rfl) (ev_on hLo 6 rfl HS48.1 rfl (hb 6 (by rfl))))) ?_
          refine steps_cons (st_run 8 _ rfl rfl hLo rfl rfl (fun b G hb ho => wanted_is rfl rfl rfl HS48.1 rfl (ev_on hLo 7 rfl HS48.1 rfl (hb 7 (by rfl))) rfl) (fun b G w hb ho => exec_move (.inl rfl) (ev_off rfl (HS48.get 11 rfl)))) ?_
          refine steps_cons (st_callM 9 0 _ _ (fun G => #[.pointer (some ⟨g, 0, none⟩), .string (⟨#[109, 111, 114, 101]⟩)]) rfl rfl rfl rfl rfl (fun b G hb ho => wanted_is rfl rfl rfl HS48.1 rfl (ev_on hLo 7 rfl HS48.1 rfl (hb 7 (by rfl))) rfl) hLo rfl (by rfl) (by rfl) (by rfl) Try.func16 rfl rfl (fun b G hb ho => args2 (ev_on hLo 8 rfl HS48.1 rfl (hb 8 (by rfl))) (rfl)) (fun G w hw hr => app_ok (m := (openS (openS (onS (offS m kk)) ((l0.take k).map enR)) ((l0.take k).map enR))) rfl hfin.u_in (by decide) (by have e := hcl3; show encLen 4 + (cat ((l0.take k).map enR)).size < 4194304; have e4 : encLen 4 = 6 := rfl; omega) (Nat.le_trans hok3.q_ac (by decide)) hr)) ?_
          exact steps_nil
        clear hLo
        intro G a49 w49 hS hH
        have HS49 : Sl a49 129 [(0, .slice (al0) (len0) (cap0)), (1, .slice (al1) (len1) (cap1)), (2, .int .i64 (nn)), (3, .int .i64 (kk)), (22, .bool false), (23, .slice (al0) (len0) (cap0)), (24, .int .i64 ((len0 : Int))), (25, .int .i64 ((len0 : Int))), (9, .int .i64 (((sumR l0 : Nat) : Int))), (26, .bool false), (38, .bool false), (12, .pointer (some ⟨g, 0, none⟩)), (13, .int .i64 ((su : Int))), (14, .int .i64 ((mk : Int))), (18, .slice (A1) ((l0.take k).length) (c1)), (106, .bool false), (20, .slice (A2) ((l0.take k).length) (c2)), (19, .int .i64 (0)), (119, .bool true), (121, .int .i64 (0))] := hS
        have HH49 : Held ⟨w45, [g]⟩ w49 [⟨g, (), 6, spC ⟨((openS (openS (onS (offS m kk)) ((l0.take k).map enR)) ((l0.take k).map enR))).al ++ lineS ⟨#[109, 111, 114, 101]⟩, ((openS (openS (onS (offS m kk)) ((l0.take k).map enR)) ((l0.take k).map enR))).sy, false, ((openS (openS (onS (offS m kk)) ((l0.take k).map enR)) ((l0.take k).map enR))).acts + 1, 0, ((openS (openS (onS (offS m kk)) ((l0.take k).map enR)) ((l0.take k).map enR))).keep⟩, 53⟩] := hH
        clear hS hH HS48 HH48
        have hLo : LOk [(10, 122, .val (.bool true)), (11, 123, .val (.bool true)), (12, 124, .val (.bool true)), (13, 125, .val (.pointer (some ⟨g, 0, none⟩))), (14, 126, .val (.int .i64 (0))), (15, 127, .val (.bool true)), (16, 128, .val (.bool true)), (17, 8, .val (.bool true))] := lok (by rfl) (by rfl)
        refine part_ (wE := ⟨w45, [g]⟩) (sz := 129) (n := 18) 10 18 [0, 1, 3, 7, 15, 31, 63, 127, 255, 511, 1023, 2047, 4095, 8191, 16383, 32767, 65535, 131071] [(0, .val (.slice (al0) (len0) (cap0))), (1, .val (.slice (al1) (len1) (cap1))), (2, .val (.int .i64 (nn))), (3, .val (.int .i64 (kk))), (22, .val (.bool false)), (23, .val (.slice (al0) (len0) (cap0))), (24, .val (.int .i64 ((len0 : Int)))), (25, .val (.int .i64 ((len0 : Int)))), (9, .val (.int .i64 (((sumR l0 : Nat) : Int)))), (26, .val (.bool false)), (38, .val (.bool false)), (12, .val (.pointer (some ⟨g, 0, none⟩))), (13, .val (.int .i64 ((su : Int)))), (14, .val (.int .i64 ((mk : Int)))), (18, .val (.slice (A1) ((l0.take k).length) (c1))), (106, .val (.bool false)), (20, .val (.slice (A2) ((l0.take k).length) (c2))), (19, .val (.int .i64 (0))), (8, .val (.bool true))] [(10, 122, .val (.bool true)), (11, 123, .val (.bool true)), (12, 124, .val (.bool true)), (13, 125, .val (.pointer (some ⟨g, 0, none⟩))), (14, 126, .val (.int .i64 (0))), (15, 127, .val (.bool true)), (16, 128, .val (.bool true)), (17, 8, .val (.bool true))] [⟨g, none, some 14, (), 6, spC ⟨((openS (openS (onS (offS m kk)) ((l0.take k).map enR)) ((l0.take k).map enR))).al ++ lineS ⟨#[109, 111, 114, 101]⟩, ((openS (openS (onS (offS m kk)) ((l0.take k).map enR)) ((l0.take k).map enR))).sy, false, ((openS (openS (onS (offS m kk)) ((l0.take k).map enR)) ((l0.take k).map enR))).acts + 1, 0, ((openS (openS (onS (offS m kk)) ((l0.take k).map enR)) ((l0.take k).map enR))).keep⟩, spC ⟨((openS (openS (onS (offS m kk)) ((l0.take k).map enR)) ((l0.take k).map enR))).al ++ lineS ⟨#[109, 111, 114, 101]⟩, (((openS (openS (onS (offS m kk)) ((l0.take k).map enR)) ((l0.take k).map enR))).al ++ lineS ⟨#[109, 111, 114, 101]⟩).size, false, ((openS (openS (onS (offS m kk)) ((l0.take k).map enR)) ((l0.take k).map enR))).acts + 1 + 1, 0, ((openS (openS (onS (offS m kk)) ((l0.take k).map enR)) ((l0.take k).map enR))).keep⟩, 53⟩] rfl rfl (by rfl) HH49 rfl rfl hLo rfl HS49 (slS 0 rfl rfl (slS 1 rfl rfl (slS 2 rfl rfl (slS 3 rfl rfl (slS 4 rfl rfl (slS 5 rfl rfl (slS 6 rfl rfl (slS 7 rfl rfl (slS 8 rfl rfl (slS 9 rfl rfl (slS 10 rfl rfl (slS 11 rfl rfl (slS 12 rfl rfl (slS 13 rfl rfl (slS 14 rfl rfl (slS 15 rfl rfl (slS 16 rfl rfl (slS 17 rfl rfl (slL 7 (d := 17) rfl (trivial)))))))))))))))))))) ?_ ?_
        · show ∀ i ∈ [10, 11, 12, 13, 14, 15, 16, 17], _
          refine steps_cons (st_run 0 _ rfl rfl hLo rfl rfl (fun b G hb ho => wanted_is rfl rfl rfl HS49.1 rfl (ev_off rfl (HS49.get 18 rfl)) rfl) (fun b G w hb ho => exec_bin rfl (ev_off rfl (HS49.get 19 rfl)) (rfl) (rb_eql (rfl) _ _ _))) ?_
          refine steps_cons (st_run 1 _ rfl rfl hLo rfl rfl (fun _ _ _ _ => rfl) (fun b G w hb ho => exec_pick rfl (ev_off rfl (HS49.get 18 rfl)) (ev_on hLo 0 rfl HS49.1 rfl (hb 10 (by rfl))))) ?_
          refine steps_cons (st_run 2 _ rfl rfl hLo rfl rfl (fun _ _ _ _ => rfl) (fun b G w hb ho => exec_move (.inl rfl) (ev_on hLo 1 rfl HS49.1 rfl (hb 11 (by rfl))))) ?_
          refine steps_cons (st_run 3 _ rfl rfl hLo rfl rfl (fun b G hb ho => wanted_is rfl rfl rfl HS49.1 rfl (ev_on hLo 2 rfl HS49.1 rfl (hb 12 (by rfl))) rfl) (fun b G w hb ho => exec_move (.inl rfl) (ev_off rfl (HS49.get 11 rfl)))) ?_
          refine steps_cons (st_callM 4 0 _ _ (fun G => #[.pointer (some ⟨g, 0, none⟩)]) rfl rfl rfl rfl rfl (fun b G hb ho => wanted_is rfl rfl rfl HS49.1 rfl (ev_on hLo 2 rfl HS49.1 rfl (hb 12 (by rfl))) rfl) hLo rfl (by rfl) (by rfl) (by rfl) Try.func17 rfl rfl (fun b G hb ho => args1 (ev_on hLo 3 rfl HS49.1 rfl (hb 13 (by rfl)))) (fun G w hw hr => sync_ok (by have := hok3.q_ac; exact Nat.le_trans (Nat.succ_le_succ this) (by decide)) hr)) ?_
          refine steps_cons (st_run 5 _ rfl rfl hLo rfl rfl (fun b G hb ho => wanted_is rfl rfl rfl HS49.1 rfl (ev_on hLo 2 rfl HS49.1 rfl (hb 12 (by rfl))) rfl) (fun b G w hb ho => exec_bin rfl (ev_on hLo 4 rfl HS49.1 rfl (hb 14 (by rfl))) (rfl) (rb_eql (rfl) _ _ _))) ?_
          refine steps_cons (st_run 6 _ rfl rfl hLo rfl rfl (fun _ _ _ _ => rfl) (fun b G w hb ho => exec_pick rfl (ev_on hLo 2 rfl HS49.1 rfl (hb 12 (by rfl))) (ev_on hLo 5 rfl HS49.1 rfl (hb 15 (by rfl))))) ?_
          refine steps_cons (st_run 7 _ rfl rfl hLo rfl rfl (fun _ _ _ _ => rfl) (fun b G w hb ho => exec_move (.inr rfl) (ev_on hLo 6 rfl HS49.1 rfl (hb 16 (by rfl))))) ?_
          exact steps_nil
        clear hLo
        intro G a50 w50 hS hH
        have HS50 : Sl a50 129 [(0, .slice (al0) (len0) (cap0)), (1, .slice (al1) (len1) (cap1)), (2, .int .i64 (nn)), (3, .int .i64 (kk)), (22, .bool false), (23, .slice (al0) (len0) (cap0)), (24, .int .i64 ((len0 : Int))), (25, .int .i64 ((len0 : Int))), (9, .int .i64 (((sumR l0 : Nat) : Int))), (26, .bool false), (38, .bool false), (12, .pointer (some ⟨g, 0, none⟩)), (13, .int .i64 ((su : Int))), (14, .int .i64 ((mk : Int))), (18, .slice (A1) ((l0.take k).length) (c1)), (106, .bool false), (20, .slice (A2) ((l0.take k).length) (c2)), (19, .int .i64 (0)), (8, .bool true)] := hS
        have HH50 : Held ⟨w45, [g]⟩ w50 [⟨g, (), 6, spC ⟨((openS (openS (onS (offS m kk)) ((l0.take k).map enR)) ((l0.take k).map enR))).al ++ lineS ⟨#[109, 111, 114, 101]⟩, (((openS (openS (onS (offS m kk)) ((l0.take k).map enR)) ((l0.take k).map enR))).al ++ lineS ⟨#[109, 111, 114, 101]⟩).size, false, ((openS (openS (onS (offS m kk)) ((l0.take k).map enR)) ((l0.take k).map enR))).acts + 1 + 1, 0, ((openS (openS (onS (offS m kk)) ((l0.take k).map enR)) ((l0.take k).map enR))).keep⟩, 53⟩] := hH
        clear hS hH HS49 HH49
        refine end_ rfl ?_
        refine then_ ?_
        refine wp_ret ?_
        repeat (first | refine then_ret ?_ | refine inBlock_ret' ?_)
        exact b_tmp rfl HS50.2.1 (HS50.get 18 rfl) ⟨rfl, bel_over hB_47 HH50.1 hB_47.size (allLe1 (by omega))⟩
    · skip
      refine wp_cond_true (HS6.get 10 rfl) ?_
      refine wp_seq ?_
      have hLo : LOk [(0, 8, .val (.bool true))] := lok (by rfl) (by rfl)
      refine plain_ (wE := ⟨w, []⟩) (sz := 129) (n := 1) [0] [(0, .val (.slice (al0) (len0) (cap0))), (1, .val (.slice (al1) (len1) (cap1))), (2, .val (.int .i64 (nn))), (3, .val (.int .i64 (kk))), (22, .val (.bool false)), (23, .val (.slice (al0) (len0) (cap0))), (24, .val (.int .i64 ((len0 : Int)))), (25, .val (.int .i64 ((len0 : Int)))), (9, .val (.int .i64 (((sumR l0 : Nat) : Int)))), (26, .val (.bool false)), (38, .val (.bool true)), (8, .val (.bool true))] [(0, 8, .val (.bool true))] [] rfl (by rfl) HH6 rfl rfl hLo rfl HS6 (slS 0 rfl rfl (slS 1 rfl rfl (slS 2 rfl rfl (slS 3 rfl rfl (slS 4 rfl rfl (slS 5 rfl rfl (slS 6 rfl rfl (slS 7 rfl rfl (slS 8 rfl rfl (slS 9 rfl rfl (slS 10 rfl rfl (slL 0 (d := 0) rfl (trivial))))))))))))) ?_ ?_
      · show ∀ i ∈ [0], _
        refine steps_cons (st_run 0 _ rfl rfl hLo rfl rfl (fun _ _ _ _ => rfl) (fun b G w hb ho => exec_move (.inr rfl) (rfl))) ?_
        exact steps_nil
      clear hLo
      intro G a51 w51 hS hH
      have HS51 : Sl a51 129 [(0, .slice (al0) (len0) (cap0)), (1, .slice (al1) (len1) (cap1)), (2, .int .i64 (nn)), (3, .int .i64 (kk)), (22, .bool false), (23, .slice (al0) (len0) (cap0)), (24, .int .i64 ((len0 : Int))), (25, .int .i64 ((len0 : Int))), (9, .int .i64 (((sumR l0 : Nat) : Int))), (26, .bool false), (38, .bool true), (8, .bool true)] := hS
      have HH51 : Held ⟨w, []⟩ w51 [] := hH
      clear hS hH HS6 HH6
      refine then_ ?_
      refine wp_ret ?_
      repeat (first | refine then_ret ?_ | refine inBlock_ret' ?_)
      exact b_tmp rfl HS51.2.1 (HS51.get 11 rfl) ⟨rfl, bel_over hB HH51.1 hB.size (fun x hx => by cases hx)⟩
  · skip
    have hlti : i < len0 := by have := of_decide_eq_true hr1; omega
    obtain ⟨x, hx⟩ : ∃ x, l0[i]? = some x := ⟨_, List.getElem?_eq_getElem (by rw [hI.z_len]; exact hlti)⟩
    obtain ⟨adx, hadx, hcellx⟩ := c_cell hI.z_C hx
    have hmx := List.mem_of_getElem? hx
    have hsx : x.size ≤ 140737488351232 := hI.z_ok x hmx
    refine wp_cond_true (HS5.get 9 rfl) ?_
    refine wp_skip ?_
    refine then_ ?_
    refine wp_seq ?_
    refine wp_block ?_
    refine wp_seq ?_
    have hLo : LOk [(0, 27, .val (.pointer (some (adx.add (i * 1))))), (1, 28, .val (.string (x))), (2, 11, .val (.string (x)))] := lok (by rfl) (by rfl)
    refine plain_ (wE := ⟨w, []⟩) (sz := 129) (n := 3) [0, 1, 3] [(0, .val (.slice (al0) (len0) (cap0))), (1, .val (.slice (al1) (len1) (cap1))), (2, .val (.int .i64 (nn))), (3, .val (.int .i64 (kk))), (22, .val (.bool false)), (23, .val (.slice (al0) (len0) (cap0))), (24, .val (.int .i64 ((len0 : Int)))), (25, .val (.int .i64 ((i : Int)))), (9, .val (.int .i64 (((sumR (l0.take i) : Nat) : Int)))), (26, .val (.bool true)), (11, .val (.string (x)))] [(0, 27, .val (.pointer (some (adx.add (i * 1))))), (1, 28, .val (.string (x))), (2, 11, .val (.string (x)))] [] rfl (by rfl) HH5 rfl rfl hLo rfl HS5 (slS 0 rfl rfl (slS 1 rfl rfl (slS 2 rfl rfl (slS 3 rfl rfl (slS 4 rfl rfl (slS 5 rfl rfl (slS 6 rfl rfl (slS 7 rfl rfl (slS 8 rfl rfl (slS 9 rfl rfl (slL 2 (d := 2) rfl (trivial)))))))))))) ?_ ?_
    · show ∀ i ∈ [0, 1, 2], _
      refine steps_cons (st_run 0 _ rfl rfl hLo rfl rfl (fun _ _ _ _ => rfl) (fun b G w hb ho => exec_indexAddr rfl (ev_off rfl (HS5.get 5 rfl)) (ev_off rfl (HS5.get 7 rfl)) (index_sl Try.underlying25 (by kernel_rfl) hadx hlti _))) ?_
      refine steps_cons (st_at1 1 (adx.add (i * 1)) _ rfl rfl rfl (fun _ _ _ _ => rfl) hLo rfl rfl Try.underlying9 rfl (wxc hcellx rfl (Below.refl _ w) (fun x hx => by cases hx)) (fun b G hb ho => ev_on hLo 0 rfl HS5.1 rfl (hb 0 (by rfl)))) ?_
      refine steps_cons (st_run 2 _ rfl rfl hLo rfl rfl (fun _ _ _ _ => rfl) (fun b G w hb ho => exec_move (.inr rfl) (ev_on hLo 1 rfl HS5.1 rfl (hb 1 (by rfl))))) ?_
      exact steps_nil
    clear hLo
    intro G a52 w52 hS hH
    have HS52 : Sl a52 129 [(0, .slice (al0) (len0) (cap0)), (1, .slice (al1) (len1) (cap1)), (2, .int .i64 (nn)), (3, .int .i64 (kk)), (22, .bool false), (23, .slice (al0) (len0) (cap0)), (24, .int .i64 ((len0 : Int))), (25, .int .i64 ((i : Int))), (9, .int .i64 (((sumR (l0.take i) : Nat) : Int))), (26, .bool true), (11, .string (x))] := hS
    have HH52 : Held ⟨w, []⟩ w52 [] := hH
    clear hS hH HS5 HH5
    refine then_ ?_
    refine wp_seq ?_
    have hLo : LOk [(0, 29, .val (.int .i64 (((sumR (l0.take i) : Nat) : Int)))), (1, 30, .val (.string (x))), (2, 31, .val (.int .i64 (((x).size : Int)))), (3, 32, .val (.int .i64 (((sumR (l0.take i) + x.size : Nat) : Int)))), (4, 9, .val (.int .i64 (((sumR (l0.take i) + x.size : Nat) : Int))))] := lok (by rfl) (by rfl)
    refine plain_ (wE := ⟨w, []⟩) (sz := 129) (n := 5) [0, 1, 3, 7, 15] [(0, .val (.slice (al0) (len0) (cap0))), (1, .val (.slice (al1) (len1) (cap1))), (2, .val (.int .i64 (nn))), (3, .val (.int .i64 (kk))), (22, .val (.bool false)), (23, .val (.slice (al0) (len0) (cap0))), (24, .val (.int .i64 ((len0 : Int)))), (25, .val (.int .i64 ((i : Int)))), (26, .val (.bool true)), (11, .val (.string (x))), (9, .val (.int .i64 (((sumR (l0.take i) + x.size : Nat) : Int))))] [(0, 29, .val (.int .i64 (((sumR (l0.take i) : Nat) : Int)))), (1, 30, .val (.string (x))), (2, 31, .val (.int .i64 (((x).size : Int)))), (3, 32, .val (.int .i64 (((sumR (l0.take i) + x.size : Nat) : Int)))), (4, 9, .val (.int .i64 (((sumR (l0.take i) + x.size : Nat) : Int))))] [] rfl (by rfl) HH52 rfl rfl hLo rfl HS52 (slS 0 rfl rfl (slS 1 rfl rfl (slS 2 rfl rfl (slS 3 rfl rfl (slS 4 rfl rfl (slS 5 rfl rfl (slS 6 rfl rfl (slS 7 rfl rfl (slS 9 rfl rfl (slS 10 rfl rfl (slL 4 (d := 4) rfl (trivial)))))))))))) ?_ ?_
    · show ∀ i ∈ [0, 1, 2, 3, 4], _
      refine steps_cons (st_run 0 _ rfl rfl hLo rfl rfl (fun _ _ _ _ => rfl) (fun b G w hb ho => exec_move (.inl rfl) (ev_pre hLo 4 rfl (ho 4 (by rfl)) (HS52.get 8 rfl)))) ?_
      refine steps_cons (st_run 1 _ rfl rfl hLo rfl rfl (fun _ _ _ _ => rfl) (fun b G w hb ho => exec_move (.inl rfl) (ev_off rfl (HS52.get 10 rfl)))) ?_
      refine steps_cons (st_run 2 _ rfl rfl hLo rfl rfl (fun _ _ _ _ => rfl) (fun b G w hb ho => exec_lenS Try.underlying9 rfl (ev_on hLo 1 rfl HS52.1 rfl (hb 1 (by rfl))))) ?_
      refine steps_cons (st_run 3 _ rfl rfl hLo rfl rfl (fun _ _ _ _ => rfl) (fun b G w hb ho => exec_bin rfl (ev_on hLo 0 rfl HS52.1 rfl (hb 0 (by rfl))) (ev_on hLo 2 rfl HS52.1 rfl (hb 2 (by rfl))) (rb_add (w_nat (by omega) (by omega)) _ _ _))) ?_
      refine steps_cons (st_run 4 _ rfl rfl hLo rfl rfl (fun _ _ _ _ => rfl) (fun b G w hb ho => exec_move (.inr rfl) (ev_on hLo 3 rfl HS52.1 rfl (hb 3 (by rfl))))) ?_
      exact steps_nil
    clear hLo
    intro G a53 w53 hS hH
    have HS53 : Sl a53 129 [(0, .slice (al0) (len0) (cap0)), (1, .slice (al1) (len1) (cap1)), (2, .int .i64 (nn)), (3, .int .i64 (kk)), (22, .bool false), (23, .slice (al0) (len0) (cap0)), (24, .int .i64 ((len0 : Int))), (25, .int .i64 ((i : Int))), (26, .bool true), (11, .string (x)), (9, .int .i64 (((sumR (l0.take i) + x.size : Nat) : Int)))] := hS
    have HH53 : Held ⟨w, []⟩ w53 [] := hH
    clear hS hH HS52 HH52
    refine then_ ?_
    obtain ⟨r5, hr5⟩ : ∃ r : Bool, (decide ((16384 : Int) < ((sumR (l0.take i) + x.size : Nat) : Int))) = r := ⟨_, rfl⟩
    refine wp_seq ?_
    have hLo : LOk [(0, 33, .val (.int .i64 (((sumR (l0.take i) + x.size : Nat) : Int)))), (1, 34, .val (.bool r5))] := lok (by rfl) (by rfl)
    refine plain_ (wE := ⟨w, []⟩) (sz := 129) (n := 2) [0, 1] [(0, .val (.slice (al0) (len0) (cap0))), (1, .val (.slice (al1) (len1) (cap1))), (2, .val (.int .i64 (nn))), (3, .val (.int .i64 (kk))), (22, .val (.bool false)), (23, .val (.slice (al0) (len0) (cap0))), (24, .val (.int .i64 ((len0 : Int)))), (25, .val (.int .i64 ((i : Int)))), (26, .val (.bool true)), (11, .val (.string (x))), (9, .val (.int .i64 (((sumR (l0.take i) + x.size : Nat) : Int)))), (34, .val (.bool r5))] [(0, 33, .val (.int .i64 (((sumR (l0.take i) + x.size : Nat) : Int)))), (1, 34, .val (.bool r5))] [] rfl (by rfl) HH53 rfl rfl hLo rfl HS53 (slS 0 rfl rfl (slS 1 rfl rfl (slS 2 rfl rfl (slS 3 rfl rfl (slS 4 rfl rfl (slS 5 rfl rfl (slS 6 rfl rfl (slS 7 rfl rfl (slS 8 rfl rfl (slS 9 rfl rfl (slS 10 rfl rfl (slL 1 (d := 1) rfl (trivial))))))))))))) ?_ ?_
    · show ∀ i ∈ [0, 1], _
      refine steps_cons (st_run 0 _ rfl rfl hLo rfl rfl (fun _ _ _ _ => rfl) (fun b G w hb ho => exec_move (.inl rfl) (ev_off rfl (HS53.get 10 rfl)))) ?_
      refine steps_cons (st_run 1 _ rfl rfl hLo rfl rfl (fun _ _ _ _ => rfl) (fun b G w hb ho => exec_bin rfl (ev_on hLo 0 rfl HS53.1 rfl (hb 0 (by rfl))) (rfl) (rb_gtr hr5 _ _ _))) ?_
      exact steps_nil
    clear hLo
    intro G a54 w54 hS hH
    have HS54 : Sl a54 129 [(0, .slice (al0) (len0) (cap0)), (1, .slice (al1) (len1) (cap1)), (2, .int .i64 (nn)), (3, .int .i64 (kk)), (22, .bool false), (23, .slice (al0) (len0) (cap0)), (24, .int .i64 ((len0 : Int))), (25, .int .i64 ((i : Int))), (26, .bool true), (11, .string (x)), (9, .int .i64 (((sumR (l0.take i) + x.size : Nat) : Int))), (34, .bool r5)] := hS
    have HH54 : Held ⟨w, []⟩ w54 [] := hH
    clear hS hH HS53 HH53
    refine then_ ?_
    cases r5
    · skip
      have hzr5 := of_decide_eq_false hr5
      refine wp_cond_false (HS54.get 11 rfl) ?_
      refine wp_skip ?_
      refine inBlock_normal ?_
      refine then_ ?_
      have hLo : LOk [(0, 35, .val (.int .i64 (((i + 1 : Nat) : Int)))), (1, 25, .val (.int .i64 (((i + 1 : Nat) : Int))))] := lok (by rfl) (by rfl)
      refine plain_ (wE := ⟨w, []⟩) (sz := 129) (n := 2) [0, 1] [(0, .val (.slice (al0) (len0) (cap0))), (1, .val (.slice (al1) (len1) (cap1))), (2, .val (.int .i64 (nn))), (3, .val (.int .i64 (kk))), (22, .val (.bool false)), (23, .val (.slice (al0) (len0) (cap0))), (24, .val (.int .i64 ((len0 : Int)))), (26, .val (.bool true)), (11, .val (.string (x))), (9, .val (.int .i64 (((sumR (l0.take i) + x.size : Nat) : Int)))), (34, .val (.bool false)), (25, .val (.int .i64 (((i + 1 : Nat) : Int))))] [(0, 35, .val (.int .i64 (((i + 1 : Nat) : Int)))), (1, 25, .val (.int .i64 (((i + 1 : Nat) : Int))))] [] rfl (by rfl) HH54 rfl rfl hLo rfl HS54 (slS 0 rfl rfl (slS 1 rfl rfl (slS 2 rfl rfl (slS 3 rfl rfl (slS 4 rfl rfl (slS 5 rfl rfl (slS 6 rfl rfl (slS 8 rfl rfl (slS 9 rfl rfl (slS 10 rfl rfl (slS 11 rfl rfl (slL 1 (d := 1) rfl (trivial))))))))))))) ?_ ?_
      · show ∀ i ∈ [0, 1], _
        refine steps_cons (st_run 0 _ rfl rfl hLo rfl rfl (fun _ _ _ _ => rfl) (fun b G w hb ho => exec_bin rfl (ev_pre hLo 1 rfl (ho 1 (by rfl)) (HS54.get 7 rfl)) (rfl) (rb_add (w_nat (by omega) (by omega)) _ _ _))) ?_
        refine steps_cons (st_run 1 _ rfl rfl hLo rfl rfl (fun _ _ _ _ => rfl) (fun b G w hb ho => exec_move (.inl rfl) (ev_on hLo 0 rfl HS54.1 rfl (hb 0 (by rfl))))) ?_
        exact steps_nil
      clear hLo
      intro G a55 w55 hS hH
      have HS55 : Sl a55 129 [(0, .slice (al0) (len0) (cap0)), (1, .slice (al1) (len1) (cap1)), (2, .int .i64 (nn)), (3, .int .i64 (kk)), (22, .bool false), (23, .slice (al0) (len0) (cap0)), (24, .int .i64 ((len0 : Int))), (26, .bool true), (11, .string (x)), (9, .int .i64 (((sumR (l0.take i) + x.size : Nat) : Int))), (34, .bool false), (25, .int .i64 (((i + 1 : Nat) : Int)))] := hS
      have HH55 : Held ⟨w, []⟩ w55 [] := hH
      clear hS hH HS54 HH54
      refine then_ ?_
      have hSq0' : Sl _ 129 [(0, .slice (al0) (len0) (cap0)), (1, .slice (al1) (len1) (cap1)), (2, .int .i64 (nn)), (3, .int .i64 (kk)), (22, .bool false), (23, .slice (al0) (len0) (cap0)), (24, .int .i64 ((len0 : Int))), (25, .int .i64 (((i + 1 : Nat) : Int))), (9, .int .i64 (((sumR (l0.take i) + x.size : Nat) : Int)))] := sl_keep HS55 [0, 1, 2, 3, 4, 5, 6, 11, 9] (by rfl)
      have hHq0' : Held ⟨w, []⟩ _ [] := held_keep HH55 0 rfl
      have e1 := sumR_step hx
      rw [← e1] at hSq0'
      exact ⟨⟨i + 1, by omega, by omega, hSq0', hHq0'⟩, by rw [(hSq0'.get 7 rfl)]; show len0 - (((i + 1 : Nat) : Int)).toNat < len0 - i; omega⟩
    · skip
      refine wp_cond_true (HS54.get 11 rfl) ?_
      refine wp_seq ?_
      have hLo : LOk [(0, 8, .val (.bool true))] := lok (by rfl) (by rfl)
      refine plain_ (wE := ⟨w, []⟩) (sz := 129) (n := 1) [0] [(0, .val (.slice (al0) (len0) (cap0))), (1, .val (.slice (al1) (len1) (cap1))), (2, .val (.int .i64 (nn))), (3, .val (.int .i64 (kk))), (22, .val (.bool false)), (23, .val (.slice (al0) (len0) (cap0))), (24, .val (.int .i64 ((len0 : Int)))), (25, .val (.int .i64 ((i : Int)))), (26, .val (.bool true)), (11, .val (.string (x))), (9, .val (.int .i64 (((sumR (l0.take i) + x.size : Nat) : Int)))), (34, .val (.bool true)), (8, .val (.bool true))] [(0, 8, .val (.bool true))] [] rfl (by rfl) HH54 rfl rfl hLo rfl HS54 (slS 0 rfl rfl (slS 1 rfl rfl (slS 2 rfl rfl (slS 3 rfl rfl (slS 4 rfl rfl (slS 5 rfl rfl (slS 6 rfl rfl (slS 7 rfl rfl (slS 8 rfl rfl (slS 9 rfl rfl (slS 10 rfl rfl (slS 11 rfl rfl (slL 0 (d := 0) rfl (trivial)))))))))))))) ?_ ?_
      · show ∀ i ∈ [0], _
        refine steps_cons (st_run 0 _ rfl rfl hLo rfl rfl (fun _ _ _ _ => rfl) (fun b G w hb ho => exec_move (.inr rfl) (rfl))) ?_
        exact steps_nil
      clear hLo
      intro G a56 w56 hS hH
      have HS56 : Sl a56 129 [(0, .slice (al0) (len0) (cap0)), (1, .slice (al1) (len1) (cap1)), (2, .int .i64 (nn)), (3, .int .i64 (kk)), (22, .bool false), (23, .slice (al0) (len0) (cap0)), (24, .int .i64 ((len0 : Int))), (25, .int .i64 ((i : Int))), (26, .bool true), (11, .string (x)), (9, .int .i64 (((sumR (l0.take i) + x.size : Nat) : Int))), (34, .bool true), (8, .bool true)] := hS
      have HH56 : Held ⟨w, []⟩ w56 [] := hH
      clear hS hH HS54 HH54
      refine then_ ?_
      refine wp_ret ?_
      repeat (first | refine then_ret ?_ | refine inBlock_ret' ?_)
      exact b_tmp rfl HS56.2.1 (HS56.get 12 rfl) ⟨rfl, bel_over hB HH56.1 hB.size (fun x hx => by cases hx)⟩
end Go.Proofs.Ytdleomeiojlooaa.P
end
