/- quote.Take, by its walk. -/
import Derived.Test.YtfpgjkaaadnmcaaDoorQf
namespace Go.Proofs.YtfpgjkaaadnmcaaDoor.P
set_option linter.unusedVariables false
set_option linter.unusedSimpArgs false
open Go.RowKit Go.Proofs.YtfpgjkaaadnmcaaDoorW.PrintWords Go.Proofs.YtfpgjkaaadnmcaaDoorW.PrintLast Go.Proofs.YtfpgjkaaadnmcaaDoorW.PrintMore
attribute [local go_sem] setCell_drewN
/-- The rune that stands next in a text between quotes, and how many bytes it has there. -/
def nxtT : List Int → Option (Int × Nat)
  | [] => none
  | c :: t => if c = 92 then (match escP t with | some (v, n) => some (v, n + 1) | none => none) else match rune (c :: t) with
    | none => none
    | some (v, n) => if v < 32 then none else some (v, n)
def tkF : Nat → List Int → List Int → Option (List Int × Nat)
  | 0, _, _ => none
  | _ + 1, _, [] => none
  | k + 1, out, c :: t => if c = 34 then some (out, (c :: t).length) else match nxtT (c :: t) with
    | none => none
    | some (v, n) => tkF k (out ++ encR v) ((c :: t).drop n)
/-- The text up to a quote, and how many bytes there are from this on. -/
def tk (out l : List Int) : Option (List Int × Nat) := tkF l.length out l
set_option maxRecDepth 100000 in
theorem un_b : ∀ c : Fin 256, (match un (c.val : Int) with | some x => decide (0 ≤ x) && decide (x < 128) | none => true) = true := by decide
theorem un_b' {c x : Int} (hc : 0 ≤ c ∧ c ≤ 255) (h : un c = some x) : 0 ≤ x ∧ x < 128 := by
  have := un_b ⟨c.toNat, by omega⟩
  have ec : ((c.toNat : Nat) : Int) = c := by omega
  simp only [ec, h] at this
  simpa using this
theorem encR_short {v : Int} (h : v < 65536) : (encR v).length ≤ 3 := by
  unfold encR
  split
  · simp
  · split
    · simp
    · first | (rw [if_pos h]; simp) | simp
theorem escP_len {l : List Int} {v : Int} {n : Nat} (hB : Bs l) (h : escP l = some (v, n)) : validR v ∧ 1 ≤ n ∧ n ≤ l.length ∧ (encR v).length ≤ n := by
  cases l with
  | nil => simp [escP] at h
  | cons c t =>
    have hc := hB.head
    cases hu : un c with
    | some x =>
      simp only [escP, hu] at h
      injection h with h
      injection h with h1 h2
      subst h1; subst h2
      have := un_b' hc hu
      refine ⟨by unfold validR; omega, by omega, by simp, ?_⟩
      unfold encR; rw [if_pos this.2]; simp
    | none =>
      simp only [escP, hu] at h
      split at h
      · cases h
      · cases hx : hx4 t with
        | none => rw [hx] at h; cases h
        | some m =>
          rw [hx] at h
          simp only at h
          have hb := hx4_b hx
          split at h
          · cases h
          · split at h
            · injection h with h
              injection h with h1 h2
              subst h1; subst h2
              refine ⟨by unfold validR; omega, by omega, by simp; omega, ?_⟩
              have := encR_short hb.2.1
              omega
            · split at h
              · cases h
              · cases hy : hx4 (t.drop 6) with
                | none => rw [hy] at h; cases h
                | some k =>
                  rw [hy] at h
                  simp only at h
                  have hb2 := hx4_b hy
                  split at h
                  · cases h
                  · injection h with h
                    injection h with h1 h2
                    subst h1; subst h2
                    have hd := hb2.2.2
                    rw [List.length_drop] at hd
                    refine ⟨by unfold validR; omega, by omega, by simp; omega, ?_⟩
                    have := (encR_len (65536 + (m - 55296) * 1024 + (k - 56320))).2
                    omega
theorem nxt_len {l : List Int} {v : Int} {n : Nat} (hB : Bs l) (h : nxtT l = some (v, n)) : validR v ∧ 1 ≤ n ∧ n ≤ l.length ∧ (encR v).length ≤ n := by
  cases l with
  | nil => simp [nxtT] at h
  | cons c t =>
    simp only [nxtT] at h
    split at h
    · cases he : escP t with
      | none => rw [he] at h; cases h
      | some p =>
        obtain ⟨v', n'⟩ := p
        rw [he] at h
        injection h with h
        injection h with h1 h2
        subst h1; subst h2
        obtain ⟨k1, k2, k3, k4⟩ := escP_len hB.tail he
        exact ⟨k1, by omega, by simp; omega, by omega⟩
    · cases hr : rune (c :: t) with
      | none => rw [hr] at h; cases h
      | some p =>
        obtain ⟨v', n'⟩ := p
        rw [hr] at h
        simp only at h
        split at h
        · cases h
        · injection h with h
          injection h with h1 h2
          subst h1; subst h2
          have k1 := rune_len hB hr
          obtain ⟨k2, _, k3⟩ := rune_some hB hr
          exact ⟨k2, k1.1, k1.2, by omega⟩
theorem tkF_more : ∀ (k : Nat) (out l : List Int), Bs l → l.length ≤ k → ∀ j, l.length ≤ j → tkF k out l = tkF j out l := by
  intro k
  induction k with
  | zero =>
    intro out l hB hl j hj
    have : l = [] := List.eq_nil_of_length_eq_zero (by omega)
    subst this
    cases j <;> rfl
  | succ k ih =>
    intro out l hB hl j hj
    cases l with
    | nil => cases j <;> rfl
    | cons c t =>
      obtain ⟨j, rfl⟩ : ∃ i, j = i + 1 := ⟨j - 1, by simp at hj; omega⟩
      simp only [tkF]
      split
      · rfl
      · cases h : nxtT (c :: t) with
        | none => rfl
        | some p =>
          obtain ⟨v, n⟩ := p
          have hn := nxt_len hB h
          simp only
          exact ih _ _ (hB.drop n) (by rw [List.length_drop]; omega) j (by rw [List.length_drop]; omega)
theorem tk_end (out t : List Int) : tk out (34 :: t) = some (out, t.length + 1) := by
  unfold tk
  rw [List.length_cons]
  simp only [tkF, if_true, List.length_cons]
theorem tk_none {out t : List Int} {c : Int} (hc : c ≠ 34) (h : nxtT (c :: t) = none) : tk out (c :: t) = none := by
  unfold tk
  rw [List.length_cons]
  simp only [tkF, if_neg hc, h]
theorem tk_some {out t : List Int} {c v : Int} {n : Nat} (hB : Bs (c :: t)) (hc : c ≠ 34) (h : nxtT (c :: t) = some (v, n)) : tk out (c :: t) = tk (out ++ encR v) ((c :: t).drop n) := by
  have hn := nxt_len hB h
  show tkF (t.length + 1) out (c :: t) = _
  simp only [tkF, if_neg hc, h]
  exact tkF_more _ _ _ (hB.drop n) (by rw [List.length_drop, List.length_cons]; omega) _ (Nat.le_refl _)
theorem tk_nil (out : List Int) : tk out [] = none := rfl
def takeA (s : ByteArray) (i : Int) : ByteArray × Int × Bool := if 0 ≤ i ∧ i < s.size ∧ bt s i = 34 then (match tk [] ((bytesOf s).drop (i.toNat + 1)) with
  | some (out, m) => (strOfNums out, (s.size : Int) - m + 1, true)
  | none => (⟨#[]⟩, 0, false)) else (⟨#[]⟩, 0, false)
def TakePost (s : ByteArray) (i : Int) (w : World) (e : Ending) (w' : World) : Prop := e = .returned (.tuple #[.string (takeA s i).1, .int .i64 (takeA s i).2.1, .bool (takeA s i).2.2]) ∧ Below w.heap.size w w'
def TakeRel (s : ByteArray) (at0 : Nat) (w : World) (v7 v8 : Value) (wr : World) : Prop :=
  ∃ (i : Nat) (out : List Int), at0 + 1 ≤ i ∧ i ≤ s.size ∧ v8 = .int .i64 (i : Int) ∧ OwnL wr w.heap.size v7 out ∧ tk [] ((bytesOf s).drop (at0 + 1)) = tk out ((bytesOf s).drop i) ∧ Below w.heap.size w wr ∧ out.length ≤ i
set_option maxRecDepth 100000 in
set_option maxHeartbeats 1000000 in
theorem take_no (s : ByteArray) (i : Int) (w : World) (hs : s.size ≤ 140737488351232) (hi : -9223372036854775808 ≤ i ∧ i ≤ 9223372036854775807) (h : ¬ (0 ≤ i ∧ i < s.size ∧ bt s i = 34)) : Calls Tryd.prog 7 #[.string s, .int .i64 i] w (TakePost s i w) := by
  have hA : takeA s i = (⟨#[]⟩, 0, false) := if_neg h
  unfold TakePost
  rw [hA]
  clear hA
  by_cases h1 : i < 0
  · have p1 : (i < 0) = True := eq_true h1
    clear h h1
    go_enter Tryd.func7, Tryd.ntmps7
    go_wp2_with fail
    go_ret3
    exact ⟨rfl, Below.refl _ _⟩
  obtain ⟨n, rfl⟩ : ∃ n : Nat, i = (n : Int) := ⟨i.toNat, by omega⟩
  have p1 : ((n : Int) < 0) = False := eq_false h1
  by_cases h2 : s.size ≤ n
  · have p2 : ((n : Int) ≥ (s.size : Int)) = True := eq_true (by omega)
    have p2b : ((s.size : Int) ≤ (n : Int)) = True := eq_true (by omega)
    clear h h1 h2
    go_enter Tryd.func7, Tryd.ntmps7
    go_wp2_with fail
    go_ret3
    exact ⟨rfl, Below.refl _ _⟩
  · have p2 : ((n : Int) ≥ (s.size : Int)) = False := eq_false (by omega)
    have p2b : ((s.size : Int) ≤ (n : Int)) = False := eq_false (by omega)
    have p3 : ((n : Int) < (s.size : Int)) = True := eq_true (by omega)
    have hlt : n < s.size := by omega
    have hx0 : ∀ h : n < s.size, ((s[n]'h).toNat : Int) = bt s n := fun h => bt_at s n h
    have hc : bt s n ≠ 34 := fun e => h ⟨by omega, by omega, e⟩
    have e1 : (bt s n == 34) = false := beq_eq_false_iff_ne.mpr hc
    have e2 : (bt s n != 34) = true := bne_iff_ne.mpr hc
    clear h h1 h2 hc
    go_enter Tryd.func7, Tryd.ntmps7
    go_wp2_with fail
    go_ret3
    exact ⟨rfl, Below.refl _ _⟩
set_option maxRecDepth 100000 in
set_option maxHeartbeats 2000000 in
theorem take_yes (s : ByteArray) (n : Nat) (w : World) (hT : QT w) (hs : s.size ≤ 1099511627776) (h1 : n < s.size) (h2 : bt s n = 34) : Calls Tryd.prog 7 #[.string s, .int .i64 (n : Int)] w (TakePost s n w) := by
  have hA : takeA s n = match tk [] ((bytesOf s).drop (n + 1)) with
    | some (out, m) => (strOfNums out, (s.size : Int) - m + 1, true)
    | none => (⟨#[]⟩, 0, false) := if_pos ⟨by omega, by omega, h2⟩
  have HA := Aside0.mk hA
  have HQ := Aside0.mk hT
  have p1 : ((n : Int) < 0) = False := eq_false (by omega)
  have p2 : ((n : Int) ≥ (s.size : Int)) = False := eq_false (by omega)
  have p2b : ((s.size : Int) ≤ (n : Int)) = False := eq_false (by omega)
  have p3 : ((n : Int) < (s.size : Int)) = True := eq_true (by omega)
  have hx0 : ∀ h : n < s.size, ((s[n]'h).toNat : Int) = 34 := fun h => (bt_at s n h).trans h2
  have q0 : IntKind.i64.wrap ((n : Int) + 1) = (n : Int) + 1 := i64w _ (by omega)
  have hsi : (s.size : Int) ≤ 1099511627776 := by omega
  unfold TakePost
  clear hT h2 hA
  go_enter Tryd.func7, Tryd.ntmps7
  go_wp2_with fail
  go_loopw [7, 8] (fun v7 v8 wr => TakeRel s n w v7 v8 wr) (fun _ v _ => s.size - (intOf v).toNat)
  case atStart => exact ⟨n + 1, [], by omega, by omega, by go_num, OwnL.nil _ _, rfl, Below.refl _ _, by simp⟩
  case round =>
    obtain ⟨i, out, hi1, hi2, rfl, hown, htk, hbel, hlen⟩ := hrel
    have HO := Aside0.mk hown
    have HK := Aside0.mk htk
    have HB := Aside0.mk hbel
    have HL := Aside0.mk hlen
    obtain ⟨x7, c7, rfl⟩ := OwnS.form hown
    have hszw := hbel.size
    have HQr := Aside0.mk (HQ.out.below hbel)
    clear hown htk hbel hlen p1 p2 p2b p3 hx0 q0
    have hio : (i : Int) ≤ 1099511627776 := by omega
    by_cases hp : i < s.size
    · have k1 : ((i : Int) < (s.size : Int)) = True := eq_true (by omega)
      have k2 : (i : Int) ≤ (s.size : Int) := by omega
      have hbt : bytesOf (s.extract i s.size) = (bytesOf s).drop i := bytes_extract s i
      rcases hl : (bytesOf s).drop i with _ | ⟨c, t⟩
      · have := drop_nil hl; rw [bytesOf_length] at this; omega
      have hbs : Bs (c :: t) := by rw [← hl]; exact (bs_bytes s).drop i
      have hll : s.size - i = t.length + 1 := by have := congrArg List.length hl; rw [List.length_drop, bytesOf_length] at this; simpa using this
      rw [hl] at hbt HK
      have HLL := Aside0.mk hll
      have HBS := Aside0.mk hbs
      have HDL := Aside0.mk hl
      clear hl hll hbs
      rcases hr : rune (c :: t) with _ | ⟨v, m⟩
      · have hc := rune_none_high hr
        have HDC := Aside0.mk (dec_none (s.extract i s.size) wr HQr.out (by rw [hbt]; simp) (by rw [hbt]; exact hr))
        have HN : Aside0 (tk [] ((bytesOf s).drop (n + 1)) = none) := ⟨by
          rw [HK.out]
          refine tk_none (by omega) ?_
          simp only [nxtT, hr]
          rw [if_neg (by omega)]⟩
        clear hr hc hbt HK
        go_wp2_with fail
        refine (HDC.out).mono ?_
        rintro e w1 ⟨rfl, hb⟩
        have HB1 := Aside0.mk (HB.out.trans (hb.mono hszw))
        clear hb
        go_wp2_with fail
        go_ret3
        rw [HA.out, HN.out]
        exact ⟨rfl, HB1.out⟩
      · have HDC := Aside0.mk (dec_some (s.extract i s.size) v m wr HQr.out (by rw [hbt]; exact hr))
        obtain ⟨hv, _, hm⟩ := rune_some HBS.out hr
        have hml := rune_len HBS.out hr
        have HV := Aside0.mk hv
        have hv0 : 0 ≤ v := hv.1
        have hv1 : v ≤ 1114111 := hv.2.1
        have hcv := rune_high hr
        clear hbt
        by_cases h34 : v = 34
        · subst h34
          have hc34 : c = 34 ∧ m = 1 := by rcases hcv with h | h <;> omega
          obtain ⟨rfl, rfl⟩ := hc34
          have HN : Aside0 (tk [] ((bytesOf s).drop (n + 1)) = some (out, t.length + 1)) := ⟨by rw [HK.out]; exact tk_end _ _⟩
          clear hcv hr hm hml hv
          go_wp2_with fail
          refine (HDC.out).mono ?_
          rintro e w1 ⟨rfl, hb⟩
          have HB1 := Aside0.mk (HB.out.trans (hb.mono hszw))
          have hcv := OwnL.str (OwnS.below HO.out hb (fun b h => (OwnS.lt HO.out b h).2))
          clear hb
          go_wp2_with fail
          go_ret3
          rw [HA.out, HN.out]
          refine ⟨?_, HB1.out⟩
          have := HLL.out
          simp only
          rw [show (s.size : Int) - ((t.length + 1 : Nat) : Int) + 1 = (i : Int) + 1 by omega]
          rfl
        have hc34 : c ≠ 34 := by rcases hcv with h | h <;> omega
        have e34 : (v == 34) = false := beq_eq_false_iff_ne.mpr h34
        by_cases h32 : v < 32
        · have HN : Aside0 (tk [] ((bytesOf s).drop (n + 1)) = none) := ⟨by
            rw [HK.out]
            refine tk_none hc34 ?_
            simp only [nxtT, hr]
            rw [if_neg (by rcases hcv with h | h <;> omega), if_pos h32]⟩
          have d32 : decide (v < 32) = true := decide_eq_true h32
          clear hcv hr hm hml hv h34 hc34 h32 HK
          go_wp2_with fail
          refine (HDC.out).mono ?_
          rintro e w1 ⟨rfl, hb⟩
          have HB1 := Aside0.mk (HB.out.trans (hb.mono hszw))
          clear hb
          go_wp2_with fail
          go_ret3
          rw [HA.out, HN.out]
          exact ⟨rfl, HB1.out⟩
        have d32 : decide (v < 32) = false := decide_eq_false h32
        by_cases h92 : v = 92
        · subst h92
          have hc92 : c = 92 ∧ m = 1 := by rcases hcv with h | h <;> omega
          obtain ⟨rfl, rfl⟩ := hc92
          have hbe : bytesOf (s.extract (i + 1) s.size) = t := by rw [bytes_extract, ← List.drop_drop, HDL.out]; rfl
          have hse : (s.extract (i + 1) s.size).size ≤ 140737488351232 := by rw [← bytesOf_length, bytes_extract, List.length_drop, bytesOf_length]; omega
          have HES := Aside0.mk (fun w => escape_calls (s.extract (i + 1) s.size) w hse)
          rw [hbe] at HES
          have q1 : IntKind.i64.wrap ((i : Int) + 1) = (i : Int) + 1 := i64w _ (by omega)
          have k3 : (i : Int) + 1 ≤ (s.size : Int) := by omega
          have q2 : ((i : Int) + 1).toNat = i + 1 := by omega
          clear hcv hr hm hml hv h34 hc34 hbe hse
          cases hx : escP t with
          | none =>
            have HN : Aside0 (tk [] ((bytesOf s).drop (n + 1)) = none) := ⟨by
              rw [HK.out]
              refine tk_none (by omega) ?_
              simp only [nxtT, hx, if_true]⟩
            unfold EscPost at HES
            rw [hx] at HES
            simp only [escR] at HES
            clear hx HK
            go_wp2_with fail
            refine (HDC.out).mono ?_
            rintro e w1 ⟨rfl, hb⟩
            have HB1 := Aside0.mk (HB.out.trans (hb.mono hszw))
            clear hb
            go_wp2_with fail
            refine (HES.out _).mono ?_
            rintro e w2 ⟨rfl, hb⟩
            have HB2 := Aside0.mk (HB1.out.trans (hb.mono HB1.out.size))
            clear hb
            go_wp2_with fail
            go_ret3
            rw [HA.out, HN.out]
            exact ⟨rfl, HB2.out⟩
          | some p =>
            obtain ⟨v', m'⟩ := p
            obtain ⟨g1, g2, g3, g4⟩ := escP_len HBS.out.tail hx
            have HKN : Aside0 (tk [] ((bytesOf s).drop (n + 1)) = tk (out ++ encR v') ((bytesOf s).drop (i + (m' + 1)))) := ⟨by
              rw [HK.out, tk_some HBS.out (by omega) (show nxtT (92 :: t) = some (v', m' + 1) by simp only [nxtT, hx, if_true]), ← HDL.out, List.drop_drop]⟩
            have HLN : Aside0 ((out ++ encR v').length ≤ i + (m' + 1)) := ⟨by rw [List.length_append]; have := HL.out; omega⟩
            have hle : i + (m' + 1) ≤ s.size := by have := HLL.out; omega
            have HG := Aside0.mk g1
            have gv0 : 0 ≤ v' := g1.1
            have gv1 : v' ≤ 1114111 := g1.2.1
            unfold EscPost at HES
            rw [hx] at HES
            simp only [escR] at HES
            have em : ((m' : Int) == 0) = false := beq_eq_false_iff_ne.mpr (by omega)
            have q3 : IntKind.i64.wrap ((m' : Int) + 1) = ((m' + 1 : Nat) : Int) := by rw [i64w _ (by omega)]; omega
            obtain ⟨m2, hm2⟩ : ∃ m2, m' + 1 = m2 := ⟨_, rfl⟩
            rw [hm2] at q3 HKN HLN hle
            have hm2b : 1 ≤ m2 := by omega
            clear hx HK g1 g2 g3 g4 hm2
            go_wp2_with fail
            refine (HDC.out).mono ?_
            rintro e w1 ⟨rfl, hb⟩
            have HB1 := Aside0.mk (HB.out.trans (hb.mono hszw))
            have HO1 := Aside0.mk (OwnS.below HO.out hb (fun b h => (OwnS.lt HO.out b h).2))
            have hsz1 := HB1.out.size
            clear hb
            go_wp2_with fail
            refine (HES.out _).mono ?_
            rintro e w2 ⟨rfl, hb⟩
            have HB2 := Aside0.mk (HB1.out.trans (hb.mono hsz1))
            have HO2 := Aside0.mk (OwnS.below HO1.out hb (fun b h => (OwnS.lt HO1.out b h).2))
            have hsz2 := HB2.out.size
            clear hb
            go_wp2_with fail
            have HAP := Aside0.mk (append_calls v' out HG.out _ w.heap.size w2 HO2.out hsz2 (by have := HL.out; omega))
            go_wp2_with fail
            refine (HAP.out).mono ?_
            rintro e w5 ⟨u5, rfl, ho5, hc5, hm5⟩
            have HO5 := Aside0.mk ho5
            have HB5 := Aside0.mk (Chg.below HB2.out hc5 hsz2 (fun b e => (OwnS.lt HO2.out b e.symm).1))
            clear ho5 hc5 hm5
            obtain ⟨x5, c5, rfl⟩ := OwnS.form HO5.out
            generalize out ++ encR v' = out5 at *
            have q9 : IntKind.i64.wrap ((i : Int) + ((m2 : Nat) : Int)) = (i : Int) + ((m2 : Nat) : Int) := i64w _ (by omega)
            go_wp2_with fail
            refine ⟨⟨i + m2, _, by omega, by omega, by go_num, HO5.out, HKN.out, HB5.out, HLN.out⟩, ?_⟩
            simp only [intOf]
            omega
        have hn : nxtT (c :: t) = some (v, m) := by
          simp only [nxtT, hr]
          rw [if_neg (by rcases hcv with h | h <;> omega), if_neg h32]
        have HKN : Aside0 (tk [] ((bytesOf s).drop (n + 1)) = tk (out ++ encR v) ((bytesOf s).drop (i + m))) := ⟨by
          rw [HK.out, tk_some HBS.out hc34 hn, ← HDL.out, List.drop_drop]⟩
        have HLN : Aside0 ((out ++ encR v).length ≤ i + m) := ⟨by rw [List.length_append]; have := HL.out; omega⟩
        have hle : i + m ≤ s.size := by have := HLL.out; have := hml.2; simp at this; omega
        have hm1 : 1 ≤ m := hml.1
        have e92 : (v == 92) = false := beq_eq_false_iff_ne.mpr h92
        by_cases h65 : v = 65533
        · subst h65
          obtain rfl : m = 3 := by rw [hm]; decide
          clear hcv hr hm hml hv h34 hc34 h32 HK hn h92
          go_wp2_with fail
          refine (HDC.out).mono ?_
          rintro e w1 ⟨rfl, hb⟩
          have HB1 := Aside0.mk (HB.out.trans (hb.mono hszw))
          have HO1 := Aside0.mk (OwnS.below HO.out hb (fun b h => (OwnS.lt HO.out b h).2))
          have hsz1 := HB1.out.size
          clear hb
          go_wp2_with fail
          have HAP := Aside0.mk (append_calls 65533 out HV.out _ w.heap.size w1 HO1.out hsz1 (by have := HL.out; omega))
          go_wp2_with fail
          refine (HAP.out).mono ?_
          rintro e w5 ⟨u5, rfl, ho5, hc5, hm5⟩
          have HO5 := Aside0.mk ho5
          have HB5 := Aside0.mk (Chg.below HB1.out hc5 hsz1 (fun b e => (OwnS.lt HO1.out b e.symm).1))
          clear ho5 hc5 hm5
          obtain ⟨x5, c5, rfl⟩ := OwnS.form HO5.out
          generalize out ++ encR 65533 = out5 at *
          go_wp2_with fail
          refine ⟨⟨i + 3, _, by omega, by omega, by go_num, HO5.out, HKN.out, HB5.out, HLN.out⟩, ?_⟩
          simp only [intOf]
          omega
        · have e65 : (v == 65533) = false := beq_eq_false_iff_ne.mpr h65
          clear hcv hr hm hml hv h34 hc34 h32 HK hn h92 h65
          go_wp2_with fail
          refine (HDC.out).mono ?_
          rintro e w1 ⟨rfl, hb⟩
          have HB1 := Aside0.mk (HB.out.trans (hb.mono hszw))
          have HO1 := Aside0.mk (OwnS.below HO.out hb (fun b h => (OwnS.lt HO.out b h).2))
          have hsz1 := HB1.out.size
          clear hb
          go_wp2_with fail
          have HAP := Aside0.mk (append_calls v out HV.out _ w.heap.size w1 HO1.out hsz1 (by have := HL.out; omega))
          go_wp2_with fail
          refine (HAP.out).mono ?_
          rintro e w5 ⟨u5, rfl, ho5, hc5, hm5⟩
          have HO5 := Aside0.mk ho5
          have HB5 := Aside0.mk (Chg.below HB1.out hc5 hsz1 (fun b e => (OwnS.lt HO1.out b e.symm).1))
          clear ho5 hc5 hm5
          obtain ⟨x5, c5, rfl⟩ := OwnS.form HO5.out
          generalize out ++ encR v = out5 at *
          have q9 : IntKind.i64.wrap ((i : Int) + ((m : Nat) : Int)) = (i : Int) + ((m : Nat) : Int) := i64w _ (by omega)
          go_wp2_with fail
          refine ⟨⟨i + m, _, by omega, by omega, by go_num, HO5.out, HKN.out, HB5.out, HLN.out⟩, ?_⟩
          simp only [intOf]
          omega
    · have k1 : ((i : Int) < (s.size : Int)) = False := eq_false (by omega)
      have HN : Aside0 (tk [] ((bytesOf s).drop (n + 1)) = none) := ⟨by
        rw [HK.out, List.drop_eq_nil_of_le (by rw [bytesOf_length]; omega)]; rfl⟩
      go_wp2_with fail
      go_ret3
      rw [HA.out, HN.out]
      exact ⟨rfl, HB.out⟩
end Go.Proofs.YtfpgjkaaadnmcaaDoor.P
