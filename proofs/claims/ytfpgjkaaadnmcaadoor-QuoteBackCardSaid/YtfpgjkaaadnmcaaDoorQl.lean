/- The document's Take (layer 8), by its walk. -/
import Derived.Test.YtfpgjkaaadnmcaaDoorQk
namespace Go.Proofs.YtfpgjkaaadnmcaaDoor.P
set_option linter.unusedVariables false
set_option linter.unusedSimpArgs false
open Go.RowKit Go.Proofs.YtfpgjkaaadnmcaaDoorW.PrintWords Go.Proofs.YtfpgjkaaadnmcaaDoorW.PrintLast Go.Proofs.YtfpgjkaaadnmcaaDoorW.PrintMore
attribute [local go_sem] setCell_drewN
theorem src_nums {P : Program} {tx : TypeId} (hk : P.underlying tx = some .string) (M : List Int) (hM : Bs M) (w : World) : Src P 1 tx (.string (strOfNums M)) M.length ((List.range M.length).map fun j => Value.int .u8 (M.getD j 0)) w := by
  have h := Src.ofString (P := P) w hk (strOfNums M)
  have hb := bytes_str hM
  have hl : (strOfNums M).size = M.length := by rw [← bytesOf_length, hb]
  have hc : byteCells (strOfNums M) = (List.range M.length).map fun j => Value.int .u8 (M.getD j 0) := by
    have e : byteCells (strOfNums M) = (bytesOf (strOfNums M)).map (Value.int .u8) := by unfold byteCells bytesOf; rw [List.map_map]; rfl
    rw [e, hb]
    apply List.ext_getElem?
    intro j
    by_cases hj : j < M.length
    · simp [hj]
    · simp [List.getElem?_eq_none, hj]
  rw [hl, hc] at h
  exact h
set_option maxRecDepth 100000 in
set_option maxHeartbeats 1000000 in
theorem reftake_no (s : ByteArray) (i : Int) (w : World) (hs : s.size ≤ 140737488351232) (hi : -9223372036854775808 ≤ i ∧ i ≤ 9223372036854775807) (h : ¬ (0 ≤ i ∧ i < s.size ∧ bt s i = 34)) : Calls Tryd.prog 8 #[.string s, .int .i64 i] w (TakePost s i w) := by
  have hA : takeA s i = (⟨#[]⟩, 0, false) := if_neg h
  unfold TakePost
  rw [hA]
  clear hA
  by_cases h1 : i < 0
  · have p1 : (i < 0) = True := eq_true h1
    clear h h1
    go_enter Tryd.func8, Tryd.ntmps8
    go_wp2_with fail
    go_ret3
    exact ⟨rfl, Below.refl _ _⟩
  obtain ⟨n, rfl⟩ : ∃ n : Nat, i = (n : Int) := ⟨i.toNat, by omega⟩
  have p1 : ((n : Int) < 0) = False := eq_false h1
  by_cases h2 : s.size ≤ n
  · have p2 : ((n : Int) ≥ (s.size : Int)) = True := eq_true (by omega)
    have p2b : ((s.size : Int) ≤ (n : Int)) = True := eq_true (by omega)
    clear h h1 h2
    go_enter Tryd.func8, Tryd.ntmps8
    go_wp2_with fail
    go_ret3
    exact ⟨rfl, Below.refl _ _⟩
  · have p2 : ((n : Int) ≥ (s.size : Int)) = False := eq_false (by omega)
    have p2b : ((s.size : Int) ≤ (n : Int)) = False := eq_false (by omega)
    have p3 : ((n : Int) < (s.size : Int)) = True := eq_true (by omega)
    have hlt : n < s.size := by omega
    have hx0 : ∀ h : n < s.size, ((s[n]'h).toNat : Int) = bt s n := fun h => bt_at s n h
    have hc : bt s n ≠ 34 := fun e => h ⟨by omega, by omega, e⟩
    have e1 : (bt s n == 34) = false := beq_eq_false_iff_ne.mpr hc
    have e2 : (bt s n != 34) = true := bne_iff_ne.mpr hc
    clear h h1 h2 hc
    go_enter Tryd.func8, Tryd.ntmps8
    go_wp2_with fail
    go_ret3
    exact ⟨rfl, Below.refl _ _⟩
set_option maxRecDepth 100000 in
set_option maxHeartbeats 2000000 in
theorem reftake_yes (s : ByteArray) (n : Nat) (w : World) (hs : s.size ≤ 1099511627776) (h1 : n < s.size) (h2 : bt s n = 34) : Calls Tryd.prog 8 #[.string s, .int .i64 (n : Int)] w (TakePost s n w) := by
  have hA : takeA s n = match tk [] ((bytesOf s).drop (n + 1)) with
    | some (out, m) => (strOfNums out, (s.size : Int) - m + 1, true)
    | none => (⟨#[]⟩, 0, false) := if_pos ⟨by omega, by omega, h2⟩
  have HA := Aside0.mk hA
  have p1 : ((n : Int) < 0) = False := eq_false (by omega)
  have p2 : ((n : Int) ≥ (s.size : Int)) = False := eq_false (by omega)
  have p2b : ((s.size : Int) ≤ (n : Int)) = False := eq_false (by omega)
  have p3 : ((n : Int) < (s.size : Int)) = True := eq_true (by omega)
  have hx0 : ∀ h : n < s.size, ((s[n]'h).toNat : Int) = 34 := fun h => (bt_at s n h).trans h2
  have q0 : IntKind.i64.wrap ((n : Int) + 1) = (n : Int) + 1 := i64w _ (by omega)
  have hsi : (s.size : Int) ≤ 1099511627776 := by omega
  unfold TakePost
  clear h2 hA
  go_enter Tryd.func8, Tryd.ntmps8
  go_wp2_with fail
  go_loopw [7, 8] (fun v7 v8 wr => TakeRel s n w v7 v8 wr) (fun _ v _ => s.size - (intOf v).toNat)
  case atStart => exact ⟨n + 1, [], by omega, by omega, by go_num, OwnL.nil _ _, rfl, Below.refl _ _, by simp⟩
  case round =>
    obtain ⟨i, out, hi1, hi2, rfl, hown, htk, hbel, hlen⟩ := hrel
    have HO := Aside0.mk hown
    have HK := Aside0.mk htk
    have HB := Aside0.mk hbel
    have HL := Aside0.mk hlen
    obtain ⟨x7, c7, rfl⟩ := OwnS.form hown
    have hszw := hbel.size
    clear hown htk hbel hlen p1 p2 p2b p3 hx0 q0
    have hio : (i : Int) ≤ 1099511627776 := by omega
    by_cases hp : i < s.size
    · have k1 : ((i : Int) < (s.size : Int)) = True := eq_true (by omega)
      have k2 : (i : Int) ≤ (s.size : Int) := by omega
      have hbt : bytesOf (s.extract i s.size) = (bytesOf s).drop i := bytes_extract s i
      rcases hl : (bytesOf s).drop i with _ | ⟨c, t⟩
      · have := drop_nil hl; rw [bytesOf_length] at this; omega
      have hbs : Bs (c :: t) := by rw [← hl]; exact (bs_bytes s).drop i
      have hll : s.size - i = t.length + 1 := by have := congrArg List.length hl; rw [List.length_drop, bytesOf_length] at this; simpa using this
      obtain ⟨_, hbc, _⟩ := bt_drop s i c t hl
      have hxi : ∀ h : i < s.size, ((s[i]'h).toNat : Int) = c := fun h => (bt_at s i h).trans hbc
      have hse : (s.extract i s.size).size ≤ 140737488351232 := by rw [← bytesOf_length, bytes_extract, List.length_drop, bytesOf_length]; omega
      rw [hl] at hbt HK
      have HLL := Aside0.mk hll
      have HBS := Aside0.mk hbs
      have HDL := Aside0.mk hl
      have HRU := Aside0.mk (fun w => rune_walk (s.extract i s.size) w hse)
      unfold RunePost at HRU
      rw [hbt] at HRU
      clear hl hll hbs hbc
      by_cases h34 : c = 34
      · subst h34
        have HN : Aside0 (tk [] ((bytesOf s).drop (n + 1)) = some (out, t.length + 1)) := ⟨by rw [HK.out]; exact tk_end _ _⟩
        have hcv := OwnL.str HO.out
        clear HK hse hbt
        go_wp2_with fail
        go_ret3
        rw [HA.out, HN.out]
        refine ⟨?_, HB.out⟩
        have := HLL.out
        simp only
        rw [show (s.size : Int) - ((t.length + 1 : Nat) : Int) + 1 = (i : Int) + 1 by omega]
        rfl
      have e34 : (c == 34) = false := beq_eq_false_iff_ne.mpr h34
      by_cases h92 : c = 92
      · subst h92
        have HES := Aside0.mk (fun w => refesc_calls (s.extract i s.size) t w hse hbt)
        have e92 : (92 : Int) = 92 := rfl
        clear e92 hse hbt h34
        generalize hrA : runeA (rune (92 :: t)) = ra at HRU
        clear hrA
        obtain ⟨ra1, ra2⟩ := ra
        cases hx : escP t with
        | none =>
          have HN : Aside0 (tk [] ((bytesOf s).drop (n + 1)) = none) := ⟨by
            rw [HK.out]
            refine tk_none (by omega) ?_
            simp only [nxtT, hx, if_true]⟩
          have heR : eR t = (0, 0) := by unfold eR; rw [hx]
          rw [heR] at HES
          clear hx HK heR
          go_wp2_with fail
          refine (HRU.out _).mono ?_
          rintro e w1 ⟨rfl, rfl⟩
          go_wp2_with fail
          refine (HES.out _).mono ?_
          rintro e w2 ⟨rfl, hb⟩
          have HB2 := Aside0.mk (HB.out.trans (hb.mono hszw))
          clear hb
          go_wp2_with fail
          go_ret3
          rw [HA.out, HN.out]
          exact ⟨rfl, HB2.out⟩
        | some p =>
          obtain ⟨v', m'⟩ := p
          obtain ⟨g1, g2, g3, g4⟩ := escP_len HBS.out.tail hx
          have HKN : Aside0 (tk [] ((bytesOf s).drop (n + 1)) = tk (out ++ encR v') ((bytesOf s).drop (i + (m' + 1)))) := ⟨by
            rw [HK.out, tk_some HBS.out (by omega) (show nxtT (92 :: t) = some (v', m' + 1) by simp only [nxtT, hx, if_true]), ← HDL.out, List.drop_drop]⟩
          have HLN : Aside0 ((out ++ encR v').length ≤ i + (m' + 1)) := ⟨by rw [List.length_append]; have := HL.out; omega⟩
          have hle : i + (m' + 1) ≤ s.size := by have := HLL.out; omega
          have HG := Aside0.mk g1
          have gv0 : 0 ≤ v' := g1.1
          have gv1 : v' ≤ 1114111 := g1.2.1
          have heR : eR t = (v', ((m' + 1 : Nat) : Int)) := by unfold eR; rw [hx]; simp only; congr 1
          rw [heR] at HES
          obtain ⟨m2, hm2⟩ : ∃ m2, m' + 1 = m2 := ⟨_, rfl⟩
          rw [hm2] at HES HKN HLN hle
          have hm2b : 1 ≤ m2 := by omega
          have em : ((m2 : Int) == 0) = false := beq_eq_false_iff_ne.mpr (by omega)
          have q9 : IntKind.i64.wrap ((i : Int) + (m2 : Int)) = (i : Int) + (m2 : Int) := i64w _ (by omega)
          simp only at HES
          clear hx HK g1 g2 g3 g4 hm2 heR
          go_wp2_with fail
          refine (HRU.out _).mono ?_
          rintro e w1 ⟨rfl, rfl⟩
          go_wp2_with fail
          refine (HES.out _).mono ?_
          rintro e w2 ⟨rfl, hb⟩
          have HB2 := Aside0.mk (HB.out.trans (hb.mono hszw))
          have HO2 := Aside0.mk (OwnS.below HO.out hb (fun b h => (OwnS.lt HO.out b h).2))
          have hsz2 := HB2.out.size
          clear hb
          go_wp2_with fail
          refine (bytes_calls v' _ HG.out).mono ?_
          rintro e w3 ⟨rfl, hb3⟩
          have HB3 := Aside0.mk (HB2.out.trans (hb3.mono hsz2))
          have HO3 := Aside0.mk (OwnS.below HO2.out hb3 (fun b h => (OwnS.lt HO2.out b h).2))
          have hsz3 := HB3.out.size
          clear hb3
          have HLE := Aside0.mk (encR_len v')
          go_wp2_with (refine step_append_T HO3.out (src_nums Tryd.underlying9 (encR v') (encR_bs _ HG.out) w3) (by have := HLE.out; omega) Tryd.underlying33 info8p rfl rfl rfl rfl rfl (by have := HL.out; have := HLE.out; unfold maxLen; omega) (by have := HL.out; have := HLE.out; omega) hsz3 ?_; intro v5 w5 ho5 hg5 hat _; have HO5 := Aside0.mk (OwnL.app ho5); have HB5 := Aside0.mk (grown_bel HB3.out hg5 hsz3 (fun b hb => (OwnS.lt HO3.out b hb).1)); clear ho5 hg5 hat)
          refine ⟨⟨i + m2, _, by omega, by omega, by go_num, HO5.out, HKN.out, HB5.out, HLN.out⟩, ?_⟩
          simp only [intOf]
          omega
      have e92 : (c == 92) = false := beq_eq_false_iff_ne.mpr h92
      clear hse hbt
      rcases hr : rune (c :: t) with _ | ⟨v, m⟩
      · have HN : Aside0 (tk [] ((bytesOf s).drop (n + 1)) = none) := ⟨by
          rw [HK.out]
          refine tk_none h34 ?_
          simp only [nxtT, hr]
          rw [if_neg h92]⟩
        rw [hr] at HRU
        simp only [runeA] at HRU
        clear hr HK h34 h92
        go_wp2_with fail
        refine (HRU.out _).mono ?_
        rintro e w1 ⟨rfl, rfl⟩
        go_wp2_with fail
        go_ret3
        rw [HA.out, HN.out]
        exact ⟨rfl, HB.out⟩
      obtain ⟨hv, _, hm⟩ := rune_some HBS.out hr
      have hml := rune_len HBS.out hr
      have HV := Aside0.mk hv
      have hv0 : 0 ≤ v := hv.1
      have hv1 : v ≤ 1114111 := hv.2.1
      rw [hr] at HRU
      simp only [runeA] at HRU
      have em : ((m : Int) == 0) = false := beq_eq_false_iff_ne.mpr (by omega)
      by_cases h32 : v < 32
      · have HN : Aside0 (tk [] ((bytesOf s).drop (n + 1)) = none) := ⟨by
          rw [HK.out]
          refine tk_none h34 ?_
          simp only [nxtT, hr]
          rw [if_neg h92, if_pos h32]⟩
        have d32 : decide (v < 32) = true := decide_eq_true h32
        clear hr HK h34 h92 h32 hv hm hml
        go_wp2_with fail
        refine (HRU.out _).mono ?_
        rintro e w1 ⟨rfl, rfl⟩
        go_wp2_with fail
        go_ret3
        rw [HA.out, HN.out]
        exact ⟨rfl, HB.out⟩
      have d32 : decide (v < 32) = false := decide_eq_false h32
      have hn : nxtT (c :: t) = some (v, m) := by
        simp only [nxtT, hr]
        rw [if_neg h92, if_neg h32]
      have HKN : Aside0 (tk [] ((bytesOf s).drop (n + 1)) = tk (out ++ encR v) ((bytesOf s).drop (i + m))) := ⟨by
        rw [HK.out, tk_some HBS.out h34 hn, ← HDL.out, List.drop_drop]⟩
      have HLN : Aside0 ((out ++ encR v).length ≤ i + m) := ⟨by rw [List.length_append]; have := HL.out; omega⟩
      have hle : i + m ≤ s.size := by have := HLL.out; have := hml.2; simp at this; omega
      have hm1 : 1 ≤ m := hml.1
      have q9 : IntKind.i64.wrap ((i : Int) + (m : Int)) = (i : Int) + (m : Int) := i64w _ (by omega)
      clear hr HK h34 h92 h32 hv hm hml hn
      go_wp2_with fail
      refine (HRU.out _).mono ?_
      rintro e w1 ⟨rfl, rfl⟩
      go_wp2_with fail
      refine (bytes_calls v _ HV.out).mono ?_
      rintro e w3 ⟨rfl, hb3⟩
      have HB3 := Aside0.mk (HB.out.trans (hb3.mono hszw))
      have HO3 := Aside0.mk (OwnS.below HO.out hb3 (fun b h => (OwnS.lt HO.out b h).2))
      have hsz3 := HB3.out.size
      clear hb3
      have HLE := Aside0.mk (encR_len v)
      go_wp2_with (refine step_append_T HO3.out (src_nums Tryd.underlying9 (encR v) (encR_bs _ HV.out) w3) (by have := HLE.out; omega) Tryd.underlying33 info8p rfl rfl rfl rfl rfl (by have := HL.out; have := HLE.out; unfold maxLen; omega) (by have := HL.out; have := HLE.out; omega) hsz3 ?_; intro v5 w5 ho5 hg5 hat _; have HO5 := Aside0.mk (OwnL.app ho5); have HB5 := Aside0.mk (grown_bel HB3.out hg5 hsz3 (fun b hb => (OwnS.lt HO3.out b hb).1)); clear ho5 hg5 hat)
      refine ⟨⟨i + m, _, by omega, by omega, by go_num, HO5.out, HKN.out, HB5.out, HLN.out⟩, ?_⟩
      simp only [intOf]
      omega
    · have k1 : ((i : Int) < (s.size : Int)) = False := eq_false (by omega)
      have HN : Aside0 (tk [] ((bytesOf s).drop (n + 1)) = none) := ⟨by
        rw [HK.out, List.drop_eq_nil_of_le (by rw [bytesOf_length]; omega)]; rfl⟩
      go_wp2_with fail
      go_ret3
      rw [HA.out, HN.out]
      exact ⟨rfl, HB.out⟩
end Go.Proofs.YtfpgjkaaadnmcaaDoor.P
