/- The laws QuoteBack, QuoteReads: their walks. -/
import Derived.Test.YtfpgjkaaadnmcaaDoorQm
import Derived.Test.YtfpgjkaaadnmcaaDoorQn
namespace Go.Proofs.YtfpgjkaaadnmcaaDoor.P
set_option linter.unusedVariables false
set_option linter.unusedSimpArgs false
open Go.RowKit Go.Proofs.YtfpgjkaaadnmcaaDoorW.PrintWords Go.Proofs.YtfpgjkaaadnmcaaDoorW.PrintLast Go.Proofs.YtfpgjkaaadnmcaaDoorW.PrintMore
attribute [local go_sem] setCell_drewN
theorem bytes_append (a b : ByteArray) : bytesOf (a ++ b) = bytesOf a ++ bytesOf b := by
  unfold bytesOf
  rw [ByteArray.data_append, Array.toList_append, List.map_append]
theorem size_append' (a b : ByteArray) : (a ++ b).size = a.size + b.size := by
  rw [← bytesOf_length, bytes_append, List.length_append, bytesOf_length, bytesOf_length]
theorem bt_of_drop {s : ByteArray} {k : Nat} {c : Int} {t : List Int} (h : (bytesOf s).drop k = c :: t) : k < s.size ∧ bt s k = c ∧ (bytesOf s).drop (k + 1) = t := bt_drop s k c t h
/-- A put text is taken back, wherever it stands. -/
theorem take_back (s a b q : ByteArray) (hv : validL (bytesOf s) = true) (hq : putS s = (q, true)) : takeA (a ++ q ++ b) a.size = (s, (a.size : Int) + (q.size : Int), true) ∧ bytesOf q = 34 :: putL (bytesOf s) ++ [34] := by
  have hB := bs_bytes s
  have hbq : bytesOf q = 34 :: putL (bytesOf s) ++ [34] := by
    unfold putS at hq
    rw [if_pos hv] at hq
    injection hq with h1 h2
    rw [← h1]
    exact bytes_str (Bs.cons (by omega) ((putL_bs hB).app (.cons (by omega) (fun x hx => by cases hx))))
  have hd : (bytesOf (a ++ q ++ b)).drop a.size = 34 :: (putL (bytesOf s) ++ 34 :: bytesOf b) := by
    rw [bytes_append, bytes_append, List.append_assoc, show a.size = (bytesOf a).length from (bytesOf_length a).symm, List.drop_left, hbq]
    simp
  obtain ⟨h1, h2, h3⟩ := bt_of_drop hd
  refine ⟨?_, hbq⟩
  have hs : (a ++ q ++ b).size = a.size + q.size + b.size := by rw [size_append', size_append']
  unfold takeA
  rw [if_pos ⟨by omega, by omega, h2⟩, Int.toNat_natCast, h3, tk_put _ (bytesOf s) [] (bytesOf b) (Nat.le_refl _) hB (bs_bytes b) hv]
  simp only [List.nil_append, str_bytes, bytesOf_length]
  rw [show ((a ++ q ++ b).size : Int) - ((b.size + 1 : Nat) : Int) + 1 = (a.size : Int) + (q.size : Int) by omega]
theorem put_size {s q : ByteArray} (h : putS s = (q, true)) : q.size ≤ 6 * s.size + 2 := by
  unfold putS at h
  split at h
  · injection h with h1 h2
    rw [← h1]
    have hl : ∀ l : List Int, (putL l).length ≤ 6 * l.length := by
      intro l
      induction l with
      | nil => simp [putL]
      | cons c l ih =>
        show (put1 c ++ putL l).length ≤ _
        rw [List.length_append, List.length_cons]
        have : (put1 c).length ≤ 6 := by
          unfold put1
          split
          · simp
          · split <;> simp
        omega
    have := hl (bytesOf s)
    rw [bytesOf_length] at this
    have e : ∀ L : List Int, (strOfNums L).size = L.length := fun L => by simp [strOfNums, ByteArray.size]
    rw [e, List.length_append, List.length_cons, List.length_cons, List.length_nil]
    omega
  · cases h
theorem put_no {s q : ByteArray} (h : putS s = (q, false)) : q = ⟨#[]⟩ ∧ validL (bytesOf s) = false := by
  unfold putS at h
  split at h
  · cases h
  · rename_i hv
    injection h with h1 h2
    exact ⟨h1.symm, by simpa using hv⟩
theorem put_yes {s q : ByteArray} (h : putS s = (q, true)) : validL (bytesOf s) = true := by
  unfold putS at h
  split at h
  · assumption
  · cases h
set_option maxRecDepth 100000 in
set_option maxHeartbeats 1000000 in
theorem QuoteBack_walk (a0 a1 a2 : ByteArray) (w : World) (hT : QT w) (w0 : a0.size ≤ 140737488351232) (w1 : a1.size ≤ 140737488351232) (w2 : a2.size ≤ 140737488351232) :
    Calls Tryd.prog 4 #[.string a0, .string a1, .string a2] w fun e w' => e = .returned (.bool true) ∧ Below w.heap.size w w' := by
  have HQ := Aside0.mk hT
  clear hT
  by_cases h0 : 8192 < a0.size
  · have k1 : ((a0.size : Int) > 8192) = True := eq_true (by omega)
    have k2 : ((8192 : Int) < (a0.size : Int)) = True := eq_true (by omega)
    clear h0
    go_enter Tryd.func4, Tryd.ntmps4
    go_wp2_with fail
    refine (alive_calls _ HQ.out).mono ?_
    rintro e w2 ⟨rfl, hb⟩
    have HB2 := Aside0.mk hb
    clear hb
    go_wp2_with fail
    go_ret
    exact ⟨rfl, HB2.out⟩
  have k1 : ((a0.size : Int) > 8192) = False := eq_false (by omega)
  have k2 : ((8192 : Int) < (a0.size : Int)) = False := eq_false (by omega)
  by_cases h1 : 1024 < a1.size
  · have k3 : ((a1.size : Int) > 1024) = True := eq_true (by omega)
    have k4 : ((1024 : Int) < (a1.size : Int)) = True := eq_true (by omega)
    clear h0 h1
    go_enter Tryd.func4, Tryd.ntmps4
    go_wp2_with fail
    refine (alive_calls _ HQ.out).mono ?_
    rintro e w2 ⟨rfl, hb⟩
    have HB2 := Aside0.mk hb
    clear hb
    go_wp2_with fail
    go_ret
    exact ⟨rfl, HB2.out⟩
  have k3 : ((a1.size : Int) > 1024) = False := eq_false (by omega)
  have k4 : ((1024 : Int) < (a1.size : Int)) = False := eq_false (by omega)
  by_cases h2 : 1024 < a2.size
  · have k5 : ((a2.size : Int) > 1024) = True := eq_true (by omega)
    have k6 : ((1024 : Int) < (a2.size : Int)) = True := eq_true (by omega)
    clear h0 h1 h2
    go_enter Tryd.func4, Tryd.ntmps4
    go_wp2_with fail
    refine (alive_calls _ HQ.out).mono ?_
    rintro e w2 ⟨rfl, hb⟩
    have HB2 := Aside0.mk hb
    clear hb
    go_wp2_with fail
    go_ret
    exact ⟨rfl, HB2.out⟩
  have k5 : ((a2.size : Int) > 1024) = False := eq_false (by omega)
  have k6 : ((1024 : Int) < (a2.size : Int)) = False := eq_false (by omega)
  have HS0 : Aside0 (a0.size ≤ 8192) := ⟨by omega⟩
  have HS1 : Aside0 (a1.size ≤ 1024) := ⟨by omega⟩
  have HS2 : Aside0 (a2.size ≤ 1024) := ⟨by omega⟩
  clear h0 h1 h2
  obtain ⟨q, ok, hp⟩ : ∃ q ok, putS a0 = (q, ok) := ⟨_, _, rfl⟩
  cases ok
  · obtain ⟨rfl, hv⟩ := put_no hp
    have HP := Aside0.mk hp
    have HV := Aside0.mk hv
    clear hp hv
    go_enter Tryd.func4, Tryd.ntmps4
    go_wp2_with fail
    refine (alive_calls _ HQ.out).mono ?_
    rintro e w3 ⟨rfl, hb⟩
    have HB3 := Aside0.mk hb
    clear hb
    go_wp2_with fail
    refine (put_at _ _ _ _ (by have := HS0.out; omega) HP.out).mono ?_
    rintro e w4 ⟨rfl, hb⟩
    have HB4 := Aside0.mk (HB3.out.trans (hb.mono HB3.out.size))
    clear hb
    go_wp2_with fail
    refine (valid_at a0 false _ w0 HV.out).mono ?_
    rintro e w5 ⟨rfl, hb⟩
    have HB5 := Aside0.mk (HB4.out.trans (hb.mono HB4.out.size))
    clear hb
    go_wp2_with fail
    go_ret
    exact ⟨rfl, HB5.out⟩
  · have hv := put_yes hp
    have hqs := put_size hp
    obtain ⟨htk, hbq⟩ := take_back a0 a1 a2 q hv hp
    have hvq : validL (bytesOf q) = true := by
      have hB := bs_bytes a0
      have e : 34 :: putL (bytesOf a0) ++ [34] = [34] ++ (putL (bytesOf a0) ++ [34]) := rfl
      have hb34 : Bs [34] := .cons (by omega) (fun x hx => by cases hx)
      rw [hbq, e, validL_ascii [34] _ (by simp) ((putL_bs hB).app hb34), valid_put _ _ _ (Nat.le_refl _) hB hb34 hv]
      decide
    have HTK := Aside0.mk htk
    have HV := Aside0.mk hvq
    have HP := Aside0.mk hp
    have HSQ : Aside0 (q.size ≤ 49154) := ⟨by have := HS0.out; omega⟩
    have HSA : Aside0 ((a1 ++ q ++ a2).size ≤ 1099511627776) := ⟨by rw [size_append', size_append']; have := HSQ.out; have := HS1.out; have := HS2.out; omega⟩
    have hbs := beq_same a0
    have hq1 : IntKind.i64.wrap ((a1.size : Int) + (q.size : Int)) = (a1.size : Int) + (q.size : Int) := i64w _ (by have := HSQ.out; have := HS1.out; omega)
    have hc1 : (a1.size + q.size > 9223372036854775807) = False := eq_false (by have := HSQ.out; have := HS1.out; omega)
    have hc2 : ((a1 ++ q).size + a2.size > 9223372036854775807) = False := eq_false (by have := HSA.out; rw [size_append'] at this; omega)
    have hc5 : (a1.size + q.size + a2.size > 9223372036854775807) = False := eq_false (by have := HSA.out; rw [size_append', size_append'] at this; omega)
    have hc6 : (9223372036854775807 < a1.size + q.size + a2.size) = False := eq_false (by have := HSA.out; rw [size_append', size_append'] at this; omega)
    have hc3 : (9223372036854775807 < a1.size + q.size) = False := eq_false (by have := HSQ.out; have := HS1.out; omega)
    have hc4 : (9223372036854775807 < (a1 ++ q).size + a2.size) = False := eq_false (by have := HSA.out; rw [size_append'] at this; omega)
    clear hv hqs htk hbq hvq hp
    go_enter Tryd.func4, Tryd.ntmps4
    go_wp2_with fail
    refine (alive_calls _ HQ.out).mono ?_
    rintro e w3 ⟨rfl, hb⟩
    have HB3 := Aside0.mk hb
    have HQ3 := Aside0.mk (HQ.out.below hb)
    clear hb
    go_wp2_with fail
    refine (put_at _ _ _ _ (by have := HS0.out; omega) HP.out).mono ?_
    rintro e w4 ⟨rfl, hb⟩
    have HB4 := Aside0.mk (HB3.out.trans (hb.mono HB3.out.size))
    have HQ4 := Aside0.mk (HQ3.out.below hb)
    clear hb
    go_wp2_with fail
    refine (take_at _ _ _ _ _ _ HQ4.out HSA.out (by omega) HTK.out).mono ?_
    rintro e w5 ⟨rfl, hb⟩
    have HB5 := Aside0.mk (HB4.out.trans (hb.mono HB4.out.size))
    clear hb
    go_wp2_with fail
    refine (valid_at q true _ (by have := HSQ.out; omega) HV.out).mono ?_
    rintro e w6 ⟨rfl, hb⟩
    have HB6 := Aside0.mk (HB5.out.trans (hb.mono HB5.out.size))
    clear hb
    go_wp2_with fail
    go_ret
    exact ⟨rfl, HB6.out⟩
theorem bytes_nil {s : ByteArray} (h : bytesOf s = []) : s = ⟨#[]⟩ := by
  rw [← str_bytes s, h]; rfl
theorem takeA_quote (s : ByteArray) : takeA (⟨#[34]⟩ ++ s) 0 = match tk [] (bytesOf s) with
    | some (out, m) => (strOfNums out, (s.size : Int) + 1 - m + 1, true)
    | none => (⟨#[]⟩, 0, false) := by
  have hd : (bytesOf (⟨#[34]⟩ ++ s)).drop 0 = 34 :: bytesOf s := by rw [List.drop_zero, bytes_append]; rfl
  obtain ⟨h1, h2, h3⟩ := bt_of_drop hd
  have hs : ((⟨#[34]⟩ : ByteArray) ++ s).size = 1 + s.size := by rw [size_append']; rfl
  unfold takeA
  rw [if_pos ⟨by omega, by omega, h2⟩]
  rw [show (0 : Int).toNat + 1 = 0 + 1 from rfl, h3, hs]
  cases tk [] (bytesOf s) with
  | none => rfl
  | some p =>
    simp only
    rw [show ((1 + s.size : Nat) : Int) = (s.size : Int) + 1 by omega]
theorem put_ok {s : ByteArray} (h : validL (bytesOf s) = true) : ∃ q, putS s = (q, true) := by
  unfold putS
  rw [if_pos h]
  exact ⟨_, rfl⟩
theorem beq_same' (s : ByteArray) : (s.toList == s.toList) = true := by simp
set_option maxRecDepth 100000 in
set_option maxHeartbeats 1000000 in
theorem QuoteReads_walk (a0 : ByteArray) (w : World) (hT : QT w) (w0 : a0.size ≤ 140737488351232) :
    Calls Tryd.prog 5 #[.string a0] w fun e w' => e = .returned (.bool true) ∧ Below w.heap.size w w' := by
  have HQ := Aside0.mk hT
  clear hT
  by_cases h0 : 8192 < a0.size
  · have k1 : ((a0.size : Int) > 8192) = True := eq_true (by omega)
    have k2 : ((8192 : Int) < (a0.size : Int)) = True := eq_true (by omega)
    clear h0
    go_enter Tryd.func5, Tryd.ntmps5
    go_wp2_with fail
    refine (alive_calls _ HQ.out).mono ?_
    rintro e w2 ⟨rfl, hb⟩
    have HB2 := Aside0.mk hb
    clear hb
    go_wp2_with fail
    go_ret
    exact ⟨rfl, HB2.out⟩
  have k1 : ((a0.size : Int) > 8192) = False := eq_false (by omega)
  have k2 : ((8192 : Int) < (a0.size : Int)) = False := eq_false (by omega)
  have HS0 : Aside0 (a0.size ≤ 8192) := ⟨by omega⟩
  have HSA : Aside0 (((⟨#[34]⟩ : ByteArray) ++ a0).size ≤ 1099511627776) := ⟨by rw [size_append']; have := HS0.out; show 1 + a0.size ≤ _; omega⟩
  have hc1 : (1 + a0.size > 9223372036854775807) = False := eq_false (by omega)
  have hc2 : (9223372036854775807 < 1 + a0.size) = False := eq_false (by omega)
  have hlen : (a0.size : Int) ≤ 8192 := by omega
  clear h0
  cases htk : tk [] (bytesOf a0) with
  | none =>
    have HT : Aside0 (takeA (⟨#[34]⟩ ++ a0) 0 = (⟨#[]⟩, 0, false)) := ⟨by rw [takeA_quote, htk]⟩
    clear htk
    go_enter Tryd.func5, Tryd.ntmps5
    go_wp2_with fail
    refine (alive_calls _ HQ.out).mono ?_
    rintro e w3 ⟨rfl, hb⟩
    have HB3 := Aside0.mk hb
    have HQ3 := Aside0.mk (HQ.out.below hb)
    clear hb
    go_wp2_with fail
    refine (take_at _ _ _ _ _ _ HQ3.out HSA.out (by omega) HT.out).mono ?_
    rintro e w5 ⟨rfl, hb⟩
    have HB5 := Aside0.mk (HB3.out.trans (hb.mono HB3.out.size))
    clear hb
    go_wp2_with fail
    go_ret
    exact ⟨rfl, HB5.out⟩
  | some p =>
    obtain ⟨out, m⟩ := p
    obtain ⟨hv, hB, hm1, hm2, hol⟩ := tk_valid _ [] (bytesOf a0) out m (bs_bytes a0) (fun x hx => by cases hx) rfl htk
    obtain ⟨t, ht⟩ : ∃ t, t = strOfNums out := ⟨_, rfl⟩
    have hbt : bytesOf t = out := by rw [ht]; exact bytes_str hB
    have hts : t.size ≤ a0.size := by rw [← bytesOf_length, hbt]; rw [bytesOf_length] at hol; simpa using hol
    rw [bytesOf_length] at hm2
    obtain ⟨q, hq⟩ := put_ok (s := t) (by rw [hbt]; exact hv)
    have hqs := put_size hq
    have htb := (take_back t ⟨#[]⟩ ⟨#[]⟩ q (by rw [hbt]; exact hv) hq).1
    rw [show (⟨#[]⟩ : ByteArray) ++ q ++ ⟨#[]⟩ = q by rw [← str_bytes (⟨#[]⟩ ++ q ++ ⟨#[]⟩), bytes_append, bytes_append]; show strOfNums ([] ++ bytesOf q ++ []) = q; rw [List.nil_append, List.append_nil, str_bytes]] at htb
    have HT : Aside0 (takeA (⟨#[34]⟩ ++ a0) 0 = (t, (a0.size : Int) + 1 - m + 1, true)) := ⟨by rw [takeA_quote, htk, ht]⟩
    have HTB : Aside0 (takeA q 0 = (t, (q.size : Int), true)) := ⟨by rw [show (0 : Int) = ((⟨#[]⟩ : ByteArray).size : Int) from rfl, htb]; show (t, (0 : Int) + (q.size : Int), true) = _; rw [Int.zero_add]⟩
    have HP := Aside0.mk hq
    have HV : Aside0 (validL (bytesOf t) = true) := ⟨by rw [hbt]; exact hv⟩
    have HTS := Aside0.mk hts
    have HQS := Aside0.mk hqs
    have hbs := beq_same t
    obtain ⟨x, hx⟩ : ∃ x, (a0.size : Int) + 1 - m + 1 = x := ⟨_, rfl⟩
    rw [hx] at HT
    have g1 : (x ≥ 2) = True := eq_true (by omega)
    have g2 : (2 ≤ x) = True := eq_true (by omega)
    have g3 : (x ≤ (a0.size : Int) + 1) = True := eq_true (by omega)
    clear htk hv hB hm1 hm2 hol ht hbt hts hqs htb hq hx
    go_enter Tryd.func5, Tryd.ntmps5
    go_wp2_with fail
    refine (alive_calls _ HQ.out).mono ?_
    rintro e w3 ⟨rfl, hb⟩
    have HB3 := Aside0.mk hb
    have HQ3 := Aside0.mk (HQ.out.below hb)
    clear hb
    go_wp2_with fail
    refine (take_at _ _ _ _ _ _ HQ3.out HSA.out (by omega) HT.out).mono ?_
    rintro e w4 ⟨rfl, hb⟩
    have HB4 := Aside0.mk (HB3.out.trans (hb.mono HB3.out.size))
    have HQ4 := Aside0.mk (HQ3.out.below hb)
    clear hb
    go_wp2_with fail
    refine (put_at _ _ _ _ (by have := HS0.out; have := HTS.out; omega) HP.out).mono ?_
    rintro e w5 ⟨rfl, hb⟩
    have HB5 := Aside0.mk (HB4.out.trans (hb.mono HB4.out.size))
    have HQ5 := Aside0.mk (HQ4.out.below hb)
    clear hb
    go_wp2_with fail
    refine (take_at _ _ _ _ _ _ HQ5.out (by have := HS0.out; have := HTS.out; have := HQS.out; omega) (by omega) HTB.out).mono ?_
    rintro e w6 ⟨rfl, hb⟩
    have HB6 := Aside0.mk (HB5.out.trans (hb.mono HB5.out.size))
    clear hb
    go_wp2_with fail
    refine (valid_at t true _ (by have := HS0.out; have := HTS.out; omega) HV.out).mono ?_
    rintro e w7 ⟨rfl, hb⟩
    have HB7 := Aside0.mk (HB6.out.trans (hb.mono HB6.out.size))
    clear hb
    go_wp2_with fail
    go_ret
    exact ⟨rfl, HB7.out⟩
end Go.Proofs.YtfpgjkaaadnmcaaDoor.P
