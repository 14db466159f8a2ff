/- Texts H26, H36, H83, N4, H61 of this session, in one (wip/tools/merge.py). -/
import Derived.Test.YtboelmakccaenaaU3
import Derived.Test.YtboelmakccaenaaG70
import Derived.WalkMore
namespace Go.Proofs.Ytboelmakccaenaa.P
section
set_option linter.unusedVariables false
open Go.RowKit Go.Proofs.YtboelmakccaenaaW.PrintWords Go.Proofs.YtboelmakccaenaaW.PrintLast Go.Proofs.YtboelmakccaenaaW.PrintMore
theorem bel_d {w w1 : World} {m : Nat} (hb : Below (w.drewN m).heap.size (w.drewN m) w1) : Below w.heap.size w w1 := (pw_below_drewN (Below.refl _ _) m).trans hb
def ident_Key.f (a0 : ByteArray) : Option Bool := if a0.size ≤ 140737488351232 then
  (strings_CutPrefix.f a0 ⟨#[101, 100, 50, 53, 53, 49, 57, 58]⟩).bind fun c => if c.1.size ≤ 140737488351232 then some (c.2 && decide ((a0.size : Int) ≤ 255) && allL kKey (bytesOf c.1)) else none else none
theorem ident_Key.calls (a0 : ByteArray) (r : Bool) (w : World) (h : ident_Key.f a0 = some r) : Calls Try.prog 26 #[.string a0] w fun e w' => e = .returned (.bool r) ∧ Below w.heap.size w w' := by
  unfold ident_Key.f at h
  split at h
  · rename_i hs
    obtain ⟨⟨x, ok⟩, h1, h⟩ := Option.bind_eq_some_iff.mp h
    have A1 := Aside0.mk h1
    clear h1
    change (if x.size ≤ 140737488351232 then some (ok && decide ((a0.size : Int) ≤ 255) && allL kKey (bytesOf x)) else none) = some r at h
    split at h
    · rename_i hx
      injection h with h
      cases hok : ok <;> subst hok <;> cases hlen : decide ((a0.size : Int) ≤ 255)
      all_goals rw [hlen] at h
      all_goals subst h
      all_goals go_enter Try.func26, Try.ntmps26
      all_goals go_wp2_with (first | (go_at_call 70; refine (strings_CutPrefix.calls _ _ x _ _ A1.out).mono ?_; rintro e w1 ⟨rfl, ⟨m1, rfl⟩⟩) | (go_at_call 71; refine (all72_calls _ _ hx).mono ?_; rintro e w1 ⟨rfl, hb⟩))
      all_goals go_ret
      · exact ⟨rfl, pw_below_drewN (Below.refl _ _) _⟩
      · exact ⟨rfl, pw_below_drewN (Below.refl _ _) _⟩
      · exact ⟨rfl, pw_below_drewN (Below.refl _ _) _⟩
      · exact ⟨by rw [Bool.true_and, Bool.true_and]; rfl, bel_d hb⟩
    · cases h
  · cases h
end
section
set_option linter.unusedVariables false
open Go.RowKit Go.Proofs.YtboelmakccaenaaW.PrintWords Go.Proofs.YtboelmakccaenaaW.PrintLast Go.Proofs.YtboelmakccaenaaW.PrintMore
def serverS (s : ByteArray) : Bool := allL kHost (bytesOf (cutS s).1) && decide ((s.size : Int) ≤ 255) && (!(cutS s).2.2 || decide (((cutS s).2.1.size : Int) ≤ 5) && allL kDigit (bytesOf (cutS s).2.1))
theorem cutS_size (s : ByteArray) : (cutS s).1.size ≤ s.size ∧ (cutS s).2.1.size ≤ s.size := by
  unfold cutS
  split
  · simp only [ByteArray.size_extract]; omega
  · exact ⟨Nat.le_refl _, Nat.zero_le _⟩
theorem server_calls (s : ByteArray) (w : World) (hs : s.size ≤ 140737488351232) :
    Calls Try.prog 36 #[.string s] w fun e w' => e = .returned (.bool (serverS s)) ∧ Below w.heap.size w w' := by
  have hcs := cutS_size s
  have CUT := fun w => cut_calls s w hs
  unfold serverS
  generalize cutS s = c at hcs CUT
  obtain ⟨h, p, has⟩ := c
  have hh : h.size ≤ 140737488351232 := by have := hcs.1; simp only at this; omega
  have hp : p.size ≤ 140737488351232 := by have := hcs.2; simp only at this; omega
  have HC := Aside0.mk CUT
  clear CUT hcs
  cases hal : allL kHost (bytesOf h) <;> cases hlen : decide ((s.size : Int) ≤ 255) <;> cases has <;> cases hpl : decide ((p.size : Int) ≤ 5)
  all_goals simp only [Bool.false_and, Bool.true_and, Bool.not_true, Bool.not_false, Bool.true_or, Bool.false_or]
  all_goals go_enter Try.func36, Try.ntmps36
  all_goals go_wp2_with (go_at_call 80; refine (HC.out _).mono ?_; rintro e w1 ⟨rfl, ⟨m1, rfl⟩⟩)
  all_goals refine (all81_calls _ _ hh).mono ?_
  all_goals rintro e w1 ⟨rfl, hb⟩
  all_goals rw [hal]
  all_goals go_wp2_with fail
  all_goals first
    | (go_ret; exact ⟨rfl, bel_d hb⟩)
    | (refine (all75_calls _ _ hp).mono ?_
       rintro e w2 ⟨rfl, hb2⟩
       go_wp2_with fail
       go_ret
       exact ⟨rfl, (bel_d hb).trans (hb2.mono (bel_d hb).size)⟩)
end
section
set_option linter.unusedVariables false
set_option linter.unusedSimpArgs false
open Go.RowKit Go.Proofs.YtboelmakccaenaaW.PrintWords Go.Proofs.YtboelmakccaenaaW.PrintLast Go.Proofs.YtboelmakccaenaaW.PrintMore
def partsS (s : ByteArray) (sign : Int) : ByteArray × ByteArray × Bool :=
  if 0 < s.size ∧ bt s 0 = sign ∧ s.size ≤ 255 then cutS (s.extract 1 s.size) else (⟨#[]⟩, ⟨#[]⟩, false)
theorem partsS_size (s : ByteArray) (sign : Int) : (partsS s sign).1.size ≤ s.size ∧ (partsS s sign).2.1.size ≤ s.size := by
  unfold partsS
  split
  · have := cutS_size (s.extract 1 s.size)
    simp only [ByteArray.size_extract] at this
    omega
  · exact ⟨Nat.zero_le _, Nat.zero_le _⟩
theorem parts_calls (s : ByteArray) (sign : Int) (w : World) (hs : s.size ≤ 140737488351232) :
    Calls Try.prog 83 #[.string s, .int .u8 sign] w fun e w' => e = .returned (.tuple #[.string (partsS s sign).1, .string (partsS s sign).2.1, .bool (partsS s sign).2.2]) ∧ Drawn0 w w' := by
  by_cases h0 : s.size = 0
  · have e : partsS s sign = (⟨#[]⟩, ⟨#[]⟩, false) := if_neg (by omega)
    have es : s = ⟨#[]⟩ := by
      obtain ⟨⟨l⟩⟩ := s
      cases l with
      | nil => rfl
      | cons a t => cases h0
    rw [e, es]
    go_enter Try.func83, Try.ntmps83
    go_wp2_with fail
    go_ret3
    exact ⟨rfl, by repeat (first | exact Drawn0.refl _ | apply Drawn0.step)⟩
  · have hne : (s.toList == ([] : List UInt8)) = false := by
      have h := toList_isEmpty s
      cases e : s.toList with
      | nil => rw [e] at h; exact absurd (of_decide_eq_true h.symm) h0
      | cons a t => rfl
    have hne2 : s.toList.isEmpty = false := by rw [toList_isEmpty]; exact decide_eq_false h0
    have h1 : (0 : Int) < (s.size : Int) := by omega
    have h1b : 0 < s.size := by omega
    have HS := Aside0.mk hs
    have hb0 : ((s[0]'h1b).toNat : Int) = bt s 0 := bt_at s 0 h1b
    by_cases hb : bt s 0 = sign
    · have hbb : (((s[0]'h1b).toNat : Int) != sign) = false := by rw [bne_eq_false_iff_eq, ← hb]; exact hb0
      by_cases hl : s.size ≤ 255
      · have e : partsS s sign = cutS (s.extract 1 s.size) := if_pos ⟨by omega, hb, hl⟩
        have hx : (s.extract 1 s.size).size ≤ 140737488351232 := by simp only [ByteArray.size_extract]; omega
        rw [e]
        have hlen : decide ((255 : Int) < (s.size : Int)) = false := decide_eq_false (by omega)
        have h2 : (1 : Int) ≤ (s.size : Int) := by omega
        clear hb0 hb hl e
        go_enter Try.func83, Try.ntmps83
        go_wp2_with (go_at_call 80; refine (cut_calls _ _ hx).mono ?_; rintro e w1 ⟨rfl, ⟨m1, rfl⟩⟩)
        go_ret3
        exact ⟨rfl, by repeat (first | exact Drawn0.refl _ | apply Drawn0.step)⟩
      · have e : partsS s sign = (⟨#[]⟩, ⟨#[]⟩, false) := if_neg (by omega)
        rw [e]
        have hlen : decide ((255 : Int) < (s.size : Int)) = true := decide_eq_true (by omega)
        clear hb0 hb hl e
        go_enter Try.func83, Try.ntmps83
        go_wp2_with fail
        go_ret3
        exact ⟨rfl, by repeat (first | exact Drawn0.refl _ | apply Drawn0.step)⟩
    · have e : partsS s sign = (⟨#[]⟩, ⟨#[]⟩, false) := if_neg (fun h => hb h.2.1)
      rw [e]
      have hbb : (((s[0]'h1b).toNat : Int) != sign) = true := by rw [bne_iff_ne, hb0]; exact hb
      clear hb0 hb e
      go_enter Try.func83, Try.ntmps83
      go_wp2_with fail
      go_ret3
      exact ⟨rfl, by repeat (first | exact Drawn0.refl _ | apply Drawn0.step)⟩
def namedS (k : Int → Bool) (s : ByteArray) (sign : Int) : Bool := (partsS s sign).2.2 && serverS (partsS s sign).2.1 && allL k (bytesOf (partsS s sign).1)
theorem room_calls (s : ByteArray) (w : World) (hs : s.size ≤ 140737488351232) :
    Calls Try.prog 38 #[.string s] w fun e w' => e = .returned (.bool (namedS kRoom s 33)) ∧ Below w.heap.size w w' := by
  have hcs := partsS_size s 33
  have CUT := fun w => parts_calls s 33 w hs
  unfold namedS
  generalize partsS s 33 = c at hcs CUT
  obtain ⟨h, p, ok⟩ := c
  have hh : h.size ≤ 140737488351232 := by have := hcs.1; simp only at this; omega
  have hp : p.size ≤ 140737488351232 := by have := hcs.2; simp only at this; omega
  have HC := Aside0.mk CUT
  clear CUT hcs
  cases ok <;> cases hsv : serverS p
  all_goals simp only [Bool.false_and, Bool.true_and]
  all_goals go_enter Try.func38, Try.ntmps38
  all_goals go_wp2_with (go_at_call 83; refine (HC.out _).mono ?_; rintro e w1 ⟨rfl, ⟨m1, rfl⟩⟩)
  · go_ret; exact ⟨rfl, pw_below_drewN (Below.refl _ _) _⟩
  · go_ret; exact ⟨rfl, pw_below_drewN (Below.refl _ _) _⟩
  · refine (server_calls p _ hp).mono ?_
    rintro e w1 ⟨rfl, hb⟩
    rw [hsv]
    go_wp2_with fail
    go_ret
    exact ⟨rfl, bel_d hb⟩
  · refine (server_calls p _ hp).mono ?_
    rintro e w1 ⟨rfl, hb⟩
    rw [hsv]
    go_wp2_with fail
    refine (all84_calls _ _ hh).mono ?_
    rintro e w2 ⟨rfl, hb2⟩
    go_wp2_with fail
    go_ret
    exact ⟨rfl, (bel_d hb).trans (hb2.mono (bel_d hb).size)⟩
end
section
set_option linter.unusedVariables false
open Go.RowKit Go.Proofs.YtboelmakccaenaaW.PrintWords Go.Proofs.YtboelmakccaenaaW.PrintLast Go.Proofs.YtboelmakccaenaaW.PrintMore
set_option maxRecDepth 100000 in
theorem ib104_calls (s : ByteArray) (c : Int) (w : World) :
    Calls Try.prog 104 #[.string s, .int .u8 c] w fun e w' => e = .returned (.int .i64 (Lib.indexByte s.data.toList c.toNat.toUInt8)) ∧ w' = w := by
  go_enter Try.func104, Try.ntmps104
  go_wp2
  rw [run_callFunc_extern Try.func110 (by kernel_rfl) (by kernel_rfl) (by kernel_rfl) (e := Extern.BytealgIndexByte.indexByte) (by kernel_rfl), Lib.run_indexByteString]
  simp only [Result.andThen]
  rw [Oper.upon_value]
  go_wp2
  go_ret
  exact ⟨rfl, rfl⟩
theorem ib_calls (s : ByteArray) (c : Int) (r : Int) (w : World) (h : Lib.indexByte s.data.toList c.toNat.toUInt8 = r) :
    Calls Try.prog 100 #[.string s, .int .u8 c] w fun e w' => e = .returned (.int .i64 r) ∧ w' = w := by
  subst h
  go_enter Try.func100, Try.ntmps100
  go_wp2_with (go_at_call 104; refine (ib104_calls s c _).mono ?_; rintro e w1 ⟨rfl, rfl⟩)
  go_ret
  exact ⟨rfl, rfl⟩
theorem ib_none : ∀ (l : List UInt8) (c : UInt8), (∀ x ∈ l, x ≠ c) → Lib.indexByte l c = -1
  | [], c, _ => rfl
  | b :: l, c, h => by
    have h1 : (b == c) = false := beq_eq_false_iff_ne.mpr (h b (List.mem_cons_self ..))
    have h2 := ib_none l c (fun x hx => h x (List.mem_cons_of_mem _ hx))
    simp only [Lib.indexByte, h1, h2]
    rfl
def kSign (r : Int) : Bool := (r == 46) || (r == 95) || (r == 61) || (r == 45) || (r == 47) || (r == 43)
set_option maxRecDepth 100000 in
theorem sign_index : ∀ n : Fin 128, decide ((0 : Int) ≤ Lib.indexByte [46, 95, 61, 45, 47, 43] ((n.val : Int)).toNat.toUInt8) = kSign (n.val : Int) := by decide
set_option maxRecDepth 100000 in
theorem contains_low (r : Int) (w : World) (h0 : 0 ≤ r) (h1 : r < 128) :
    Calls Try.prog 93 #[.string ⟨#[46, 95, 61, 45, 47, 43]⟩, .int .i32 r] w fun e w' => e = .returned (.bool (kSign r)) ∧ Drawn0 w w' := by
  obtain ⟨n, rfl⟩ : ∃ n : Fin 128, r = (n.val : Int) := ⟨⟨r.toNat, by omega⟩, by simp; omega⟩
  have hs := sign_index n
  generalize hi : Lib.indexByte [46, 95, 61, 45, 47, 43] ((n.val : Int)).toNat.toUInt8 = i at hs
  have HI := Aside0.mk hi
  clear hi
  have a1 : decide ((0 : Int) ≤ (n.val : Int)) = true := decide_eq_true h0
  have a2 : decide ((n.val : Int) < 128) = true := decide_eq_true h1
  have hw : IntKind.u8.wrap (n.val : Int) = (n.val : Int) := by
    have : (n.val : Int) % 256 = (n.val : Int) := by omega
    exact this
  have HX : Aside0 (∀ w, Calls Try.prog 102 #[.string ⟨#[46, 95, 61, 45, 47, 43]⟩, .int .i32 (n.val : Int)] w fun e w' => e = .returned (.int .i64 i) ∧ Drawn0 w w') := by
    refine ⟨fun w => ?_⟩
    go_enter Try.func102, Try.ntmps102
    go_wp2_with (go_at_call 100; refine (ib_calls _ _ _ _ HI.out).mono ?_; rintro e w1 ⟨rfl, rfl⟩)
    go_ret
    exact ⟨rfl, Drawn0.refl _⟩
  rw [← hs]
  clear a1 a2 hw hs
  go_enter Try.func93, Try.ntmps93
  go_wp2_with (go_at_call 102; refine (HX.out _).mono ?_; rintro e w1 ⟨rfl, ⟨m, rfl⟩⟩)
  go_ret
  exact ⟨rfl, _, rfl⟩
theorem ib_high (s : ByteArray) (c : Int) (w : World) (hl : ∀ x ∈ s.data.toList, x.toNat < 128) (h0 : 128 ≤ c) (h1 : c < 256) :
    Calls Try.prog 100 #[.string s, .int .u8 c] w fun e w' => e = .returned (.int .i64 (-1)) ∧ w' = w := by
  refine ib_calls s c (-1) w (ib_none _ _ fun x hx hc => ?_)
  have h2 := hl x hx
  have h3 : c.toNat.toUInt8.toNat = c.toNat := by simp [Nat.toUInt8]; omega
  rw [hc] at h2
  omega
theorem extract_low (z : ByteArray) (hz : ∀ x ∈ z.data.toList, x.toNat < 128) (n m : Nat) : ∀ x ∈ (z.extract n m).data.toList, x.toNat < 128 := by
  intro x hx
  apply hz
  rw [ByteArray.data_extract, Array.toList_extract, List.extract_eq_take_drop] at hx
  exact List.mem_of_mem_drop (List.mem_of_mem_take hx)
theorem encode_len (v : Int) (h : validR v) (h1 : 128 ≤ v) : Utf8.valid v = true := by
  obtain ⟨n, rfl⟩ : ∃ n : Nat, v = (n : Int) := ⟨v.toNat, by unfold validR at h; omega⟩
  exact (valid_iff n).mpr h
theorem valid106_calls (r : Int) (w : World) (hv : validR r) (h1 : 128 ≤ r) :
    Calls Try.prog 106 #[.int .i32 r] w fun e w' => e = .returned (.bool true) ∧ Drawn0 w w' := by
  unfold validR at hv
  have a1 : decide ((0 : Int) ≤ r) = true := decide_eq_true (by omega)
  have a4 : decide (r ≤ 1114111) = true := decide_eq_true (by omega)
  by_cases hl : r < 55296
  · have a2 : decide (r < 55296) = true := decide_eq_true hl
    clear hl hv
    go_enter Try.func106, Try.ntmps106
    go_wp2
    go_ret
    exact ⟨rfl, Drawn0.refl _⟩
  · have a2 : decide (r < 55296) = false := decide_eq_false hl
    have a3 : decide (57343 < r) = true := decide_eq_true (by omega)
    clear hl hv
    go_enter Try.func106, Try.ntmps106
    go_wp2
    go_ret
    exact ⟨rfl, Drawn0.refl _⟩
theorem last_facts (rs : ByteArray) (k : Nat) (hk : rs.size = k + 1) (he : ∀ h : rs.size - 1 < rs.size, 128 ≤ (rs[rs.size - 1]'h).toNat) (h : k < rs.size) :
    128 ≤ ((rs[k]'h).toNat : Int) ∧ ((rs[k]'h).toNat : Int) < 256 := by
  have h2 : rs.size - 1 = k := by omega
  have h1 : 128 ≤ (rs[k]'h).toNat := by
    have := he (by omega)
    simp only [h2] at this
    exact this
  have := (rs[k]'h).toNat_lt
  omega
set_option maxRecDepth 100000 in
theorem index_high1 (r : Int) (rs : ByteArray) (w : World) (hv : validR r) (h1 : 128 ≤ r) (hne : r ≠ 65533) (hrs : Utf8.encode r = rs) (hsz : rs.size = 1 + 1)
    (he : ∀ h : rs.size - 1 < rs.size, 128 ≤ (rs[rs.size - 1]'h).toNat) :
    Calls Try.prog 102 #[.string ⟨#[46, 95, 61, 45, 47, 43]⟩, .int .i32 r] w fun e w' => e = .returned (.int .i64 (-1)) ∧ Drawn0 w w' := by
  have hlt : 1 < rs.size := by omega
  obtain ⟨b1, b2⟩ := last_facts rs 1 hsz he hlt
  have a1 : decide ((0 : Int) ≤ r) = true := decide_eq_true (by omega)
  have a2 : decide (r < 128) = false := decide_eq_false (by omega)
  have a3 : (r == 65533) = false := beq_eq_false_iff_ne.mpr hne
  generalize hb : ((rs[1]'hlt).toNat : Int) = b at b1 b2
  have B1 := Aside0.mk b1
  have B2 := Aside0.mk b2
  have HV := Aside0.mk hv
  have H1 := Aside0.mk h1
  have c1 : (95 : Int) ≠ b := by omega
  have c2 : ((((⟨#[46, 95, 61, 45, 47, 43]⟩ : ByteArray)[1]'(by decide)).toNat : Int) != b) = true := bne_iff_ne.mpr c1
  have hsz2 : (rs.size : Int) = 1 + 1 := by omega
  clear he b1 b2 hv h1 hne c1 hsz
  go_enter Try.func102, Try.ntmps102
  go_wp2_with (go_at_call 106; refine (valid106_calls r _ HV.out H1.out).mono ?_; rintro e w1 ⟨rfl, ⟨m1, rfl⟩⟩)
  go_step3
  go_wp2_with fail
  go_loopw [9] (fun v9 wr => v9 = .int .i64 1 ∧ wr = w.drewN m1) (fun _ _ => 0)
  case atStart => exact ⟨rfl, rfl⟩
  case round =>
    obtain ⟨rfl, rfl⟩ := hrel
    go_wp2_with fail
    go_step3
    go_wp2_with fail
    go_region
    go_wp2_with fail
    go_region_with (go_at_call 100; refine (ib_high _ _ _ (extract_low _ (by decide) _ _) B1.out B2.out).mono ?_; rintro e w1 ⟨rfl, rfl⟩)
    all_goals go_wp2_with fail
    all_goals repeat (first | rw [Exit.noGoto_ret] | rw [Exit.inBlock_ret])
    all_goals go_wp2_with fail
    all_goals repeat (first | rw [Exit.noGoto_ret] | rw [Exit.inBlock_ret])
    all_goals go_ret
    all_goals exact ⟨rfl, _, rfl⟩
set_option maxRecDepth 100000 in
theorem index_high2 (r : Int) (rs : ByteArray) (w : World) (hv : validR r) (h1 : 128 ≤ r) (hne : r ≠ 65533) (hrs : Utf8.encode r = rs) (hsz : rs.size = 2 + 1)
    (he : ∀ h : rs.size - 1 < rs.size, 128 ≤ (rs[rs.size - 1]'h).toNat) :
    Calls Try.prog 102 #[.string ⟨#[46, 95, 61, 45, 47, 43]⟩, .int .i32 r] w fun e w' => e = .returned (.int .i64 (-1)) ∧ Drawn0 w w' := by
  have hlt : 2 < rs.size := by omega
  obtain ⟨b1, b2⟩ := last_facts rs 2 hsz he hlt
  have a1 : decide ((0 : Int) ≤ r) = true := decide_eq_true (by omega)
  have a2 : decide (r < 128) = false := decide_eq_false (by omega)
  have a3 : (r == 65533) = false := beq_eq_false_iff_ne.mpr hne
  generalize hb : ((rs[2]'hlt).toNat : Int) = b at b1 b2
  have B1 := Aside0.mk b1
  have B2 := Aside0.mk b2
  have HV := Aside0.mk hv
  have H1 := Aside0.mk h1
  have c1 : (61 : Int) ≠ b := by omega
  have c2 : ((((⟨#[46, 95, 61, 45, 47, 43]⟩ : ByteArray)[2]'(by decide)).toNat : Int) != b) = true := bne_iff_ne.mpr c1
  have hsz2 : (rs.size : Int) = 2 + 1 := by omega
  clear he b1 b2 hv h1 hne c1 hsz
  go_enter Try.func102, Try.ntmps102
  go_wp2_with (go_at_call 106; refine (valid106_calls r _ HV.out H1.out).mono ?_; rintro e w1 ⟨rfl, ⟨m1, rfl⟩⟩)
  go_step3
  go_wp2_with fail
  go_loopw [9] (fun v9 wr => v9 = .int .i64 2 ∧ wr = w.drewN m1) (fun _ _ => 0)
  case atStart => exact ⟨rfl, rfl⟩
  case round =>
    obtain ⟨rfl, rfl⟩ := hrel
    go_wp2_with fail
    go_step3
    go_wp2_with fail
    go_region
    go_wp2_with fail
    go_region_with (go_at_call 100; refine (ib_high _ _ _ (extract_low _ (by decide) _ _) B1.out B2.out).mono ?_; rintro e w1 ⟨rfl, rfl⟩)
    all_goals go_wp2_with fail
    all_goals repeat (first | rw [Exit.noGoto_ret] | rw [Exit.inBlock_ret])
    all_goals go_wp2_with fail
    all_goals repeat (first | rw [Exit.noGoto_ret] | rw [Exit.inBlock_ret])
    all_goals go_ret
    all_goals exact ⟨rfl, _, rfl⟩
set_option maxRecDepth 100000 in
theorem index_high3 (r : Int) (rs : ByteArray) (w : World) (hv : validR r) (h1 : 128 ≤ r) (hne : r ≠ 65533) (hrs : Utf8.encode r = rs) (hsz : rs.size = 3 + 1)
    (he : ∀ h : rs.size - 1 < rs.size, 128 ≤ (rs[rs.size - 1]'h).toNat) :
    Calls Try.prog 102 #[.string ⟨#[46, 95, 61, 45, 47, 43]⟩, .int .i32 r] w fun e w' => e = .returned (.int .i64 (-1)) ∧ Drawn0 w w' := by
  have hlt : 3 < rs.size := by omega
  obtain ⟨b1, b2⟩ := last_facts rs 3 hsz he hlt
  have a1 : decide ((0 : Int) ≤ r) = true := decide_eq_true (by omega)
  have a2 : decide (r < 128) = false := decide_eq_false (by omega)
  have a3 : (r == 65533) = false := beq_eq_false_iff_ne.mpr hne
  generalize hb : ((rs[3]'hlt).toNat : Int) = b at b1 b2
  have B1 := Aside0.mk b1
  have B2 := Aside0.mk b2
  have HV := Aside0.mk hv
  have H1 := Aside0.mk h1
  have c1 : (45 : Int) ≠ b := by omega
  have c2 : ((((⟨#[46, 95, 61, 45, 47, 43]⟩ : ByteArray)[3]'(by decide)).toNat : Int) != b) = true := bne_iff_ne.mpr c1
  have hsz2 : (rs.size : Int) = 3 + 1 := by omega
  clear he b1 b2 hv h1 hne c1 hsz
  go_enter Try.func102, Try.ntmps102
  go_wp2_with (go_at_call 106; refine (valid106_calls r _ HV.out H1.out).mono ?_; rintro e w1 ⟨rfl, ⟨m1, rfl⟩⟩)
  go_step3
  go_wp2_with fail
  go_loopw [9] (fun v9 wr => v9 = .int .i64 3 ∧ wr = w.drewN m1) (fun _ _ => 0)
  case atStart => exact ⟨rfl, rfl⟩
  case round =>
    obtain ⟨rfl, rfl⟩ := hrel
    go_wp2_with fail
    go_step3
    go_wp2_with fail
    go_region
    go_wp2_with fail
    go_region_with (go_at_call 100; refine (ib_high _ _ _ (extract_low _ (by decide) _ _) B1.out B2.out).mono ?_; rintro e w1 ⟨rfl, rfl⟩)
    all_goals go_wp2_with fail
    all_goals repeat (first | rw [Exit.noGoto_ret] | rw [Exit.inBlock_ret])
    all_goals go_wp2_with fail
    all_goals repeat (first | rw [Exit.noGoto_ret] | rw [Exit.inBlock_ret])
    all_goals go_ret
    all_goals exact ⟨rfl, _, rfl⟩
def ErrRel (w wr : World) : Prop := ∃ pos : Nat, pos ≤ 6 ∧ wr.heap[w.heap.size]? = some (.stringIter ⟨#[46, 95, 61, 45, 47, 43]⟩ pos) ∧ Below w.heap.size w wr
theorem sign_dec : ∀ p : Fin 6, (Utf8.decode ⟨#[46, 95, 61, 45, 47, 43]⟩ p.val).1 < 128 ∧ (Utf8.decode ⟨#[46, 95, 61, 45, 47, 43]⟩ p.val).2 = 1 := by decide
set_option maxRecDepth 100000 in
theorem index_err (w : World) :
    Calls Try.prog 102 #[.string ⟨#[46, 95, 61, 45, 47, 43]⟩, .int .i32 65533] w fun e w' => e = .returned (.int .i64 (-1)) ∧ Below w.heap.size w w' := by
  go_enter Try.func102, Try.ntmps102
  go_wp2_with fail
  go_loopw [5, 6] (fun v5 v6 wr => ErrRel w wr) (fun _ _ w' => 6 - w'.iterPos w.heap.size)
  case atStart => exact ⟨0, by omega, heap_alloc_new w _, (Below.refl _ _).alloc (Nat.le_refl _) _⟩
  case round =>
    obtain ⟨pos, hpos, hit, hbel⟩ := hrel
    have HI := Aside0.mk hit
    have HB := Aside0.mk hbel
    clear hit hbel
    by_cases hlt : pos < 6
    · have hnx := fun ty => Lib.run_next_any_at (P := Try.prog) wr w.heap.size ⟨#[46, 95, 61, 45, 47, 43]⟩ pos ty HI.out hlt
      have hd := sign_dec ⟨pos, hlt⟩
      simp only at hd
      generalize Utf8.decode ⟨#[46, 95, 61, 45, 47, 43]⟩ pos = d at hd hnx
      obtain ⟨v, n⟩ := d
      obtain ⟨d1, d2⟩ := hd
      simp only at d1 d2
      subst d2
      have d3 : ((v : Int) == 65533) = false := beq_eq_false_iff_ne.mpr (by omega)
      clear d1
      go_wp2_with fail
      have hit1 : (wr.iterAt w.heap.size ⟨#[46, 95, 61, 45, 47, 43]⟩ (pos + 1)).heap[w.heap.size]? = some (.stringIter ⟨#[46, 95, 61, 45, 47, 43]⟩ (pos + 1)) := Lib.iterAt_heap _ _ _ _ _ HI.out
      refine ⟨⟨pos + 1, by omega, hit1, Lib.below_iterAt HB.out (Nat.le_refl _) _ _⟩, ?_⟩
      rw [iterPos_of hit1, iterPos_of HI.out]; omega
    · have hnx := fun ty => Lib.run_next_end_at (P := Try.prog) wr w.heap.size ⟨#[46, 95, 61, 45, 47, 43]⟩ pos ty HI.out hlt
      go_wp2_with fail
      go_ret
      exact ⟨rfl, HB.out⟩
theorem index_high (r : Int) (w : World) (hv : validR r) (h1 : 128 ≤ r) :
    Calls Try.prog 102 #[.string ⟨#[46, 95, 61, 45, 47, 43]⟩, .int .i32 r] w fun e w' => e = .returned (.int .i64 (-1)) ∧ Below w.heap.size w w' := by
  by_cases hne : r = 65533
  · subst hne
    exact index_err w
  · obtain ⟨e1, e2, e3⟩ := encode_facts r (encode_len r hv h1) h1
    have hcase : (Utf8.encode r).size = 1 + 1 ∨ (Utf8.encode r).size = 2 + 1 ∨ (Utf8.encode r).size = 3 + 1 := by omega
    rcases hcase with h | h | h
    · exact (index_high1 r _ w hv h1 hne rfl h e3).mono (by rintro e w' ⟨rfl, ⟨m, rfl⟩⟩; exact ⟨rfl, pw_below_drewN (Below.refl _ _) _⟩)
    · exact (index_high2 r _ w hv h1 hne rfl h e3).mono (by rintro e w' ⟨rfl, ⟨m, rfl⟩⟩; exact ⟨rfl, pw_below_drewN (Below.refl _ _) _⟩)
    · exact (index_high3 r _ w hv h1 hne rfl h e3).mono (by rintro e w' ⟨rfl, ⟨m, rfl⟩⟩; exact ⟨rfl, pw_below_drewN (Below.refl _ _) _⟩)
theorem contains_calls (r : Int) (w : World) (hv : validR r) :
    Calls Try.prog 93 #[.string ⟨#[46, 95, 61, 45, 47, 43]⟩, .int .i32 r] w fun e w' => e = .returned (.bool (kSign r)) ∧ Below w.heap.size w w' := by
  by_cases h1 : r < 128
  · exact (contains_low r w hv.1 h1).mono (by rintro e w' ⟨rfl, ⟨m, rfl⟩⟩; exact ⟨rfl, pw_below_drewN (Below.refl _ _) _⟩)
  · have hk : kSign r = false := by
      unfold kSign
      simp
      omega
    rw [hk]
    have HX := Aside0.mk (fun w => index_high r w hv (by omega))
    clear hk h1 hv
    go_enter Try.func93, Try.ntmps93
    go_wp2_with (go_at_call 102; refine (HX.out _).mono ?_; rintro e w1 ⟨rfl, hb⟩)
    go_ret
    exact ⟨rfl, hb⟩
def kUser (r : Int) : Bool := kSmall r || kDigit r || kSign r
theorem kUser_calls (r : Int) (w : World) (hv : validR r) : Calls Try.prog 92 #[.int .i32 r] w fun e w' => e = .returned (.bool (kUser r)) ∧ Below w.heap.size w w' := by
  unfold kUser
  have HX := Aside0.mk (fun w => contains_calls r w hv)
  clear hv
  cases h0 : kSmall r <;> cases h1 : kDigit r
  all_goals simp only [Bool.false_or, Bool.true_or]
  all_goals go_enter Try.func92, Try.ntmps92
  all_goals go_wp2_with (first | (go_at_call 73; refine (kSmall_calls r _).mono ?_; rintro e w1 ⟨rfl, ⟨m1, rfl⟩⟩; rw [h0]) | (go_at_call 75; refine (kDigit_calls r _).mono ?_; rintro e w1 ⟨rfl, ⟨m2, rfl⟩⟩; rw [h1]) | (go_at_call 93; refine (HX.out _).mono ?_; rintro e w1 ⟨rfl, hb⟩))
  all_goals go_ret
  · exact ⟨rfl, bel_d hb⟩
  · exact ⟨rfl, pw_below_drewN (Below.refl _ _) _⟩
  · exact ⟨rfl, pw_below_drewN (Below.refl _ _) _⟩
  · exact ⟨rfl, pw_below_drewN (Below.refl _ _) _⟩
end
section
set_option linter.unusedVariables false
set_option linter.unusedSimpArgs false
open Go.RowKit Go.Proofs.YtboelmakccaenaaW.PrintWords Go.Proofs.YtboelmakccaenaaW.PrintLast Go.Proofs.YtboelmakccaenaaW.PrintMore
set_option linter.unusedSimpArgs false
set_option maxRecDepth 100000 in
theorem all92_walk (hp : ∀ r, 128 ≤ r → kUser r = false) (s : ByteArray) (w : World) (hs : s.size ≤ 140737488351232) : Calls Try.prog 71 #[.string s, .func (.func 92) #[] #[]] w (AllPost kUser s w) := by
  go_enter Try.func71, Try.ntmps71
  go_wp2
  go_loopw [6] (fun v6 wr => AllRel kUser s w wr) (fun _ w' => s.size - w'.iterPos w.heap.size)
  case atStart => exact ⟨0, by omega, rfl, heap_alloc_new w _, (Below.refl _ _).alloc (Nat.le_refl _) _⟩
  case round =>
    obtain ⟨pos, hpos, hd, hit, hbel⟩ := hrel
    have HD := Aside0.mk hd
    have HI := Aside0.mk hit
    have HB := Aside0.mk hbel
    have HP := Aside0.mk hp
    clear hd hit hbel hp
    by_cases hlt : pos < s.size
    · have hnx := fun ty => Lib.run_next_any_at (P := Try.prog) wr w.heap.size s pos ty HI.out hlt
      have HBs := Aside0.mk ((bs_bytes s).drop pos)
      have hne : (bytesOf s).drop pos ≠ [] := fun e => by have := drop_nil e; rw [bytesOf_length] at this; omega
      have HNE := Aside0.mk hne
      have hdr := decode_rune s pos hlt
      clear hne
      rcases hr : rune ((bytesOf s).drop pos) with _ | ⟨v, n⟩
      · rw [hr] at hdr
        change Utf8.decode s pos = (65533, 1) at hdr
        rw [hdr] at hnx
        have HR := Aside0.mk hr
        clear hr hdr
        go_wp2_with fail
        refine (kUser_calls _ _ (by unfold validR; omega)).mono ?_
        rintro e w1 ⟨rfl, hb⟩
        have hk : kUser (65533 : Int) = false := HP.out _ (by omega)
        go_wp2_with fail
        go_ret
        refine ⟨?_, (Lib.below_iterAt HB.out (Nat.le_refl _) _ _).trans (hb.mono (Lib.below_iterAt HB.out (Nat.le_refl _) _ _).size)⟩
        obtain ⟨c, t, e1, e2⟩ := none_high HNE.out HR.out
        unfold allL
        rw [HD.out, all_false HP.out e1 e2]
        rfl
      · rw [hr] at hdr
        have hn := rune_len HBs.out hr
        have hv := (rune_some HBs.out hr).1
        rw [List.length_drop, bytesOf_length] at hn
        obtain ⟨vn, rfl⟩ : ∃ vn : Nat, v = (vn : Int) := ⟨v.toNat, by unfold validR at hv; omega⟩
        change Utf8.decode s pos = ((vn : Int).toNat, n) at hdr
        rw [Int.toNat_natCast] at hdr
        rw [hdr] at hnx
        have HVR := Aside0.mk hv
        have HR := Aside0.mk hr
        have hn1 := hn.1
        have hn2 := hn.2
        clear hr hdr hn
        cases hk : kUser (vn : Int)
        · go_wp2_with fail
          refine (kUser_calls _ _ HVR.out).mono ?_
          rintro e w1 ⟨rfl, hb⟩
          go_wp2_with fail
          go_ret
          refine ⟨?_, (Lib.below_iterAt HB.out (Nat.le_refl _) _ _).trans (hb.mono (Lib.below_iterAt HB.out (Nat.le_refl _) _ _).size)⟩
          unfold allL
          rw [HD.out]
          by_cases hv2 : (vn : Int) < 128
          · rw [(low_head HBs.out HR.out hv2).1, List.all_cons, hk]; rfl
          · obtain ⟨c, t, e1, e2⟩ := rune_high HBs.out HR.out (by omega)
            rw [all_false HP.out e1 e2]; rfl
        · have hv2 : (vn : Int) < 128 := by
            by_cases h : (vn : Int) < 128
            · exact h
            · rw [HP.out _ (by omega)] at hk; cases hk
          have HL := Aside0.mk (low_head HBs.out HR.out hv2)
          clear hv2
          go_wp2_with fail
          refine (kUser_calls _ _ HVR.out).mono ?_
          rintro e w1 ⟨rfl, hb⟩
          go_wp2_with fail
          have hit0 : (wr.iterAt w.heap.size s (pos + n)).heap[w.heap.size]? = some (.stringIter s (pos + n)) := Lib.iterAt_heap _ _ _ _ _ HI.out
          have hlt0 : w.heap.size < (wr.iterAt w.heap.size s (pos + n)).heap.size := (Array.getElem?_eq_some_iff.mp hit0).1
          have hit1 : w1.heap[w.heap.size]? = some (.stringIter s (pos + n)) := by rw [hb.block _ hlt0]; exact hit0
          refine ⟨⟨pos + n, by omega, ?_, hit1, (Lib.below_iterAt HB.out (Nat.le_refl _) _ _).trans (hb.mono (Lib.below_iterAt HB.out (Nat.le_refl _) _ _).size)⟩, ?_⟩
          · rw [HD.out, HL.out.1, List.all_cons, hk, HL.out.2, List.drop_drop, Bool.true_and]
          · rw [iterPos_of hit1, iterPos_of HI.out]; omega
    · have hnx := fun ty => Lib.run_next_end_at (P := Try.prog) wr w.heap.size s pos ty HI.out hlt
      have h0 : (bytesOf s).all kUser = true := by
        rw [HD.out, List.drop_eq_nil_of_le (by rw [bytesOf_length]; omega)]; rfl
      have H0 := Aside0.mk h0
      clear h0
      go_wp2_with fail
      go_ret
      refine ⟨?_, HB.out⟩
      unfold allL
      rw [H0.out, size_isEmpty]
      have : (true && !decide (s.size = 0)) = !s.toList.isEmpty := by rw [toList_isEmpty]; rfl
      rw [this]
      rfl
theorem all92_calls (s : ByteArray) (w : World) (hs : s.size ≤ 140737488351232) : Calls Try.prog 71 #[.string s, .func (.func 92) #[] #[]] w (fun e w' => e = .returned (.bool (allL kUser (bytesOf s))) ∧ Below w.heap.size w w') :=
  all92_walk (by intro r hr; unfold kUser; simp [kSmall, kDigit, kSign]; omega) s w hs
theorem user_calls (s : ByteArray) (w : World) (hs : s.size ≤ 140737488351232) :
    Calls Try.prog 61 #[.string s] w fun e w' => e = .returned (.bool (namedS kUser s 64)) ∧ Below w.heap.size w w' := by
  have hcs := partsS_size s 64
  have CUT := fun w => parts_calls s 64 w hs
  unfold namedS
  generalize partsS s 64 = c at hcs CUT
  obtain ⟨h, p, ok⟩ := c
  have hh : h.size ≤ 140737488351232 := by have := hcs.1; simp only at this; omega
  have hp : p.size ≤ 140737488351232 := by have := hcs.2; simp only at this; omega
  have HC := Aside0.mk CUT
  clear CUT hcs
  cases ok <;> cases hsv : serverS p
  all_goals simp only [Bool.false_and, Bool.true_and]
  all_goals go_enter Try.func61, Try.ntmps61
  all_goals go_wp2_with (go_at_call 83; refine (HC.out _).mono ?_; rintro e w1 ⟨rfl, ⟨m1, rfl⟩⟩)
  · go_ret; exact ⟨rfl, pw_below_drewN (Below.refl _ _) _⟩
  · go_ret; exact ⟨rfl, pw_below_drewN (Below.refl _ _) _⟩
  · refine (server_calls p _ hp).mono ?_
    rintro e w1 ⟨rfl, hb⟩
    rw [hsv]
    go_wp2_with fail
    go_ret
    exact ⟨rfl, bel_d hb⟩
  · refine (server_calls p _ hp).mono ?_
    rintro e w1 ⟨rfl, hb⟩
    rw [hsv]
    go_wp2_with fail
    refine (all92_calls _ _ hh).mono ?_
    rintro e w2 ⟨rfl, hb2⟩
    go_wp2_with fail
    go_ret
    exact ⟨rfl, (bel_d hb).trans (hb2.mono (bel_d hb).size)⟩
def domainS (s : ByteArray) : ByteArray := if (namedS kUser s 64 || namedS kRoom s 33) = true then (cutS s).2.1 else ⟨#[]⟩
theorem domain_calls (s : ByteArray) (w : World) (hs : s.size ≤ 140737488351232) :
    Calls Try.prog 63 #[.string s] w fun e w' => e = .returned (.string (domainS s)) ∧ Below w.heap.size w w' := by
  unfold domainS
  cases hu : namedS kUser s 64
  · cases hr : namedS kRoom s 33
    · rw [if_neg (by decide)]
      go_enter Try.func63, Try.ntmps63
      go_wp2_with (go_at_call 61; refine (user_calls s _ hs).mono ?_; rintro e w1 ⟨rfl, hb⟩; rw [hu])
      refine (room_calls s _ hs).mono ?_
      rintro e w2 ⟨rfl, hb2⟩
      rw [hr]
      go_wp2_with fail
      go_ret
      exact ⟨rfl, hb.trans (hb2.mono hb.size)⟩
    · rw [if_pos (by decide)]
      go_enter Try.func63, Try.ntmps63
      go_wp2_with (go_at_call 61; refine (user_calls s _ hs).mono ?_; rintro e w1 ⟨rfl, hb⟩; rw [hu])
      refine (room_calls s _ hs).mono ?_
      rintro e w2 ⟨rfl, hb2⟩
      rw [hr]
      go_wp2_with (go_at_call 80; refine (cut_calls s _ hs).mono ?_; rintro e w3 ⟨rfl, ⟨m, rfl⟩⟩)
      go_ret
      exact ⟨rfl, pw_below_drewN (hb.trans (hb2.mono hb.size)) _⟩
  · rw [if_pos (by simp)]
    go_enter Try.func63, Try.ntmps63
    go_wp2_with (first | (go_at_call 61; refine (user_calls s _ hs).mono ?_; rintro e w1 ⟨rfl, hb⟩; rw [hu]) | (go_at_call 80; refine (cut_calls s _ hs).mono ?_; rintro e w3 ⟨rfl, ⟨m, rfl⟩⟩))
    go_ret
    exact ⟨rfl, pw_below_drewN hb _⟩
def ident_Server.f (a0 : ByteArray) : Option Bool := if a0.size ≤ 140737488351232 then some (serverS a0) else none
theorem ident_Server.calls (a0 : ByteArray) (r : Bool) (w : World) (h : ident_Server.f a0 = some r) : Calls Try.prog 36 #[.string a0] w fun e w' => e = .returned (.bool r) ∧ Below w.heap.size w w' := by
  unfold ident_Server.f at h
  split at h
  · rename_i hs
    injection h with h
    subst h
    exact server_calls a0 w hs
  · cases h
def ident_Room.f (a0 : ByteArray) : Option Bool := if a0.size ≤ 140737488351232 then some (namedS kRoom a0 33) else none
theorem ident_Room.calls (a0 : ByteArray) (r : Bool) (w : World) (h : ident_Room.f a0 = some r) : Calls Try.prog 38 #[.string a0] w fun e w' => e = .returned (.bool r) ∧ Below w.heap.size w w' := by
  unfold ident_Room.f at h
  split at h
  · rename_i hs
    injection h with h
    subst h
    exact room_calls a0 w hs
  · cases h
def ident_User.f (a0 : ByteArray) : Option Bool := if a0.size ≤ 140737488351232 then some (namedS kUser a0 64) else none
theorem ident_User.calls (a0 : ByteArray) (r : Bool) (w : World) (h : ident_User.f a0 = some r) : Calls Try.prog 61 #[.string a0] w fun e w' => e = .returned (.bool r) ∧ Below w.heap.size w w' := by
  unfold ident_User.f at h
  split at h
  · rename_i hs
    injection h with h
    subst h
    exact user_calls a0 w hs
  · cases h
def ident_Domain.f (a0 : ByteArray) : Option ByteArray := if a0.size ≤ 140737488351232 then some (domainS a0) else none
theorem ident_Domain.calls (a0 : ByteArray) (r : ByteArray) (w : World) (h : ident_Domain.f a0 = some r) : Calls Try.prog 63 #[.string a0] w fun e w' => e = .returned (.string r) ∧ Below w.heap.size w w' := by
  unfold ident_Domain.f at h
  split at h
  · rename_i hs
    injection h with h
    subst h
    exact domain_calls a0 w hs
  · cases h
end
end Go.Proofs.Ytboelmakccaenaa.P
