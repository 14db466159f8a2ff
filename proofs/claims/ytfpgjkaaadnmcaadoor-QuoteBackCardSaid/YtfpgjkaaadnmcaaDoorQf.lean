/- quote.escape, by its walk. -/
import Derived.Test.YtfpgjkaaadnmcaaDoorQe
namespace Go.Proofs.YtfpgjkaaadnmcaaDoor.P
set_option linter.unusedVariables false
set_option linter.unusedSimpArgs false
open Go.RowKit Go.Proofs.YtfpgjkaaadnmcaaDoorW.PrintWords Go.Proofs.YtfpgjkaaadnmcaaDoorW.PrintLast Go.Proofs.YtfpgjkaaadnmcaaDoorW.PrintMore
attribute [local go_sem] setCell_drewN
def uix (c : Int) : Int := Lib.indexByte [34, 92, 47, 98, 102, 110, 114, 116] c.toNat.toUInt8
def utx : ByteArray := ⟨#[34, 92, 47, 8, 12, 10, 13, 9]⟩
/-- The rune of a letter behind a backslash. -/
def un (c : Int) : Option Int := if uix c < 0 then none else some (bt utx (uix c))
set_option maxRecDepth 100000 in
theorem uix_b : ∀ c : Fin 256, -1 ≤ uix (c.val : Int) ∧ uix (c.val : Int) < 8 := by decide
/-- The rune of an escape, from behind its backslash on, and how many bytes it has. -/
def escP : List Int → Option (Int × Nat)
  | [] => none
  | c :: t => match un c with
    | some x => some (x, 1)
    | none => if c ≠ 117 then none else match hx4 t with
      | none => none
      | some n => if 56320 ≤ n ∧ n < 57344 then none else if n < 55296 ∨ 57344 ≤ n then some (n, 5) else
        if (t.drop 4).take 2 ≠ [92, 117] then none else match hx4 (t.drop 6) with
        | none => none
        | some m => if m < 56320 ∨ 57344 ≤ m then none else some (65536 + (n - 55296) * 1024 + (m - 56320), 11)
def escR (o : Option (Int × Nat)) : Int × Nat := match o with | some (v, n) => (v, n) | none => (0, 0)
def EscPost (l : List Int) (w : World) (e : Ending) (w' : World) : Prop := e = .returned (.tuple #[.int .i32 (escR (escP l)).1, .int .i64 (escR (escP l)).2]) ∧ Below w.heap.size w w'
theorem fourF_b : ∀ (l : List Int) (n k : Int), 0 ≤ n → n < k → ∀ x, fourF l n = some x → 0 ≤ x ∧ x < k * 16 ^ l.length
  | [], n, k, h0, h1, x, h => by
    simp only [fourF] at h
    injection h with h
    simp; omega
  | c :: t, n, k, h0, h1, x, h => by
    simp only [fourF] at h
    cases hc : hv c with
    | none => rw [hc] at h; cases h
    | some d =>
      rw [hc] at h
      obtain ⟨b1, b2, _⟩ := hv_b hc
      have := fourF_b t (n * 16 + d) (k * 16) (by omega) (by omega) x h
      rw [List.length_cons, Int.pow_succ, Int.mul_comm (16 ^ t.length) 16, ← Int.mul_assoc]
      exact this
theorem hx4_b {l : List Int} {x : Int} (h : hx4 l = some x) : 0 ≤ x ∧ x < 65536 ∧ 4 ≤ l.length := by
  unfold hx4 at h
  split at h
  · cases h
  · have := fourF_b _ 0 1 (by omega) (by omega) x h
    rw [List.length_take] at this
    have e : min 4 l.length = 4 := by omega
    rw [e] at this
    omega
theorem four_some (s : ByteArray) (n : Int) (w : World) (hs : s.size ≤ 140737488351232) (h : hx4 (bytesOf s) = some n) : Calls Tryd.prog 23 #[.string s] w fun e w' => e = .returned (.tuple #[.int .i32 n, .bool true]) ∧ Below w.heap.size w w' := by
  have hc := four_calls s w hs
  unfold FourPost at hc
  rw [h] at hc
  exact hc
theorem four_none (s : ByteArray) (w : World) (hs : s.size ≤ 140737488351232) (h : hx4 (bytesOf s) = none) : Calls Tryd.prog 23 #[.string s] w fun e w' => e = .returned (.tuple #[.int .i32 0, .bool false]) ∧ Below w.heap.size w w' := by
  have hc := four_calls s w hs
  unfold FourPost at hc
  rw [h] at hc
  exact hc
theorem bt_head {s : ByteArray} {c : Int} {t : List Int} (h : bytesOf s = c :: t) : 0 < s.size ∧ bt s 0 = c ∧ bytesOf (s.extract 1 s.size) = t := by
  obtain ⟨h1, h2, h3⟩ := bt_drop s 0 c t (by rw [List.drop_zero]; exact h)
  exact ⟨h1, h2, by rw [bytes_extract]; exact h3⟩
set_option maxRecDepth 100000 in
set_option maxHeartbeats 1000000 in
theorem escape_calls (s : ByteArray) (w : World) (hs : s.size ≤ 140737488351232) : Calls Tryd.prog 15 #[.string s] w (EscPost (bytesOf s) w) := by
  rcases hl : bytesOf s with _ | ⟨c, t⟩
  · have hne : s.toList.isEmpty = true := by
      rw [Lib.toList_data, List.isEmpty_iff]
      have h := congrArg List.length hl
      rw [bytesOf_length] at h
      exact List.eq_nil_of_length_eq_zero (by rw [Array.length_toList]; exact h)
    have hne2 : s.toList = [] := List.isEmpty_iff.1 hne
    clear hl
    go_enter Tryd.func15, Tryd.ntmps15
    go_wp2_with fail
    go_ret2
    exact ⟨rfl, Below.refl _ _⟩
  · obtain ⟨hs0, hb0, hbt⟩ := bt_head hl
    have hbs : Bs (c :: t) := by rw [← hl]; exact bs_bytes s
    have hc := hbs.head
    have hne : s.toList.isEmpty = false := by
      rw [Lib.toList_data]
      cases h : s.data.toList with
      | nil => exact absurd (by rw [Lib.size_eq, h]; rfl) (Nat.pos_iff_ne_zero.1 hs0)
      | cons _ _ => rfl
    have hx0 : ∀ h : 0 < s.size, ((s[0]'h).toNat : Int) = c := fun h => (bt_at s 0 h).trans hb0
    have hsz : (0 : Int) < (s.size : Int) := by omega
    have HBT := Aside0.mk hbt
    have HIX := Aside0.mk (fun w => ib_calls ⟨#[34, 92, 47, 98, 102, 110, 114, 116]⟩ c (uix c) w rfl)
    have hub := uix_b ⟨c.toNat, by omega⟩
    have ec : ((c.toNat : Nat) : Int) = c := by omega
    simp only [ec] at hub
    have HC := Aside0.mk hc
    have HL := Aside0.mk hl
    clear hl hbs hc hb0 hbt ec
    unfold EscPost
    by_cases hu : uix c < 0
    · have h0 := trivial
      clear h0
      have hun : un c = none := if_pos hu
      have k1 : (uix c ≥ 0) = False := eq_false (by omega)
      have k2 : (0 ≤ uix c) = False := eq_false (by omega)
      generalize uix c = i at *
      have hle1 : (1 : Int) ≤ (s.size : Int) := by omega
      have hs1 : (s.extract 1 s.size).size ≤ 140737488351232 := by rw [← bytesOf_length, HBT.out]; have h := congrArg List.length HL.out; rw [bytesOf_length] at h; simp at h; omega
      cases hx : hx4 t with
      | none =>
        have hE : escP (c :: t) = none := by
          simp only [escP, hun, hx]
          split <;> rfl
        rw [hE]
        have HF := Aside0.mk (fun w => four_none (s.extract 1 s.size) w hs1 (by rw [HBT.out]; exact hx))
        clear hE hx hun hu hs1 hub
        by_cases hc117 : c = 117
        · subst hc117
          go_enter Tryd.func15, Tryd.ntmps15
          go_wp2_with fail
          refine (HIX.out _).mono ?_
          rintro e w1 ⟨rfl, rfl⟩
          go_wp2_with fail
          refine (HF.out _).mono ?_
          rintro e w1 ⟨rfl, hb⟩
          have HB := Aside0.mk hb
          clear hb
          go_wp2_with fail
          go_ret2
          exact ⟨rfl, HB.out⟩
        · have e1 : (c == 117) = false := beq_eq_false_iff_ne.mpr hc117
          have e2 : (c != 117) = true := bne_iff_ne.mpr hc117
          clear hc117
          go_enter Tryd.func15, Tryd.ntmps15
          go_wp2_with fail
          refine (HIX.out _).mono ?_
          rintro e w1 ⟨rfl, rfl⟩
          go_wp2_with fail
          refine (HF.out _).mono ?_
          rintro e w1 ⟨rfl, hb⟩
          have HB := Aside0.mk hb
          clear hb
          go_wp2_with fail
          go_ret2
          exact ⟨rfl, HB.out⟩
      | some n =>
        have HF := Aside0.mk (fun w => four_some (s.extract 1 s.size) n w hs1 (by rw [HBT.out]; exact hx))
        obtain ⟨n0, n1, n4⟩ := hx4_b hx
        have hs5 : 5 ≤ s.size := by have h := congrArg List.length HL.out; rw [bytesOf_length] at h; simp at h; omega
        by_cases hc117 : c = 117
        rotate_left
        · have hE : escP (c :: t) = none := by
            simp only [escP, hun]
            rw [if_pos hc117]
          rw [hE]
          have e1 : (c == 117) = false := beq_eq_false_iff_ne.mpr hc117
          have e2 : (c != 117) = true := bne_iff_ne.mpr hc117
          clear hc117 hE hx hun hu hs1 hub
          go_enter Tryd.func15, Tryd.ntmps15
          go_wp2_with fail
          refine (HIX.out _).mono ?_
          rintro e w1 ⟨rfl, rfl⟩
          go_wp2_with fail
          refine (HF.out _).mono ?_
          rintro e w1 ⟨rfl, hb⟩
          have HB := Aside0.mk hb
          clear hb
          go_wp2_with fail
          go_ret2
          exact ⟨rfl, HB.out⟩
        subst hc117
        have hE0 : escP (117 :: t) = (if 56320 ≤ n ∧ n < 57344 then none else if n < 55296 ∨ 57344 ≤ n then some (n, 5) else
                if (t.drop 4).take 2 ≠ [92, 117] then none else match hx4 (t.drop 6) with
                | none => none
                | some m => if m < 56320 ∨ 57344 ≤ m then none else some (65536 + (n - 55296) * 1024 + (m - 56320), 11)) := by
          simp only [escP, hun, hx]; rfl
        clear hx hun hu hs1 hub
        by_cases h1 : 56320 ≤ n ∧ n < 57344
        · rw [if_pos h1] at hE0
          rw [hE0]
          obtain ⟨h1, h2⟩ := h1
          have p1 : (n ≥ 56320) = True := eq_true h1
          have p2 : (n < 57344) = True := eq_true h2
          clear hE0 h1 h2
          go_enter Tryd.func15, Tryd.ntmps15
          go_wp2_with fail
          refine (HIX.out _).mono ?_
          rintro e w1 ⟨rfl, rfl⟩
          go_wp2_with fail
          refine (HF.out _).mono ?_
          rintro e w1 ⟨rfl, hb⟩
          have HB := Aside0.mk hb
          clear hb
          go_wp2_with fail
          go_ret2
          exact ⟨rfl, HB.out⟩
        rw [if_neg h1] at hE0
        by_cases h2 : n < 55296 ∨ 57344 ≤ n
        · rw [if_pos h2] at hE0
          rw [hE0]
          by_cases h3 : n < 55296
          · have p1 : (n ≥ 56320) = False := eq_false (by omega)
            have p1b : (56320 ≤ n) = False := eq_false (by omega)
            have p2 : (n < 55296) = True := eq_true h3
            clear hE0 h1 h2 h3
            go_enter Tryd.func15, Tryd.ntmps15
            go_wp2_with fail
            refine (HIX.out _).mono ?_
            rintro e w1 ⟨rfl, rfl⟩
            go_wp2_with fail
            refine (HF.out _).mono ?_
            rintro e w1 ⟨rfl, hb⟩
            have HB := Aside0.mk hb
            clear hb
            go_wp2_with fail
            go_ret2
            exact ⟨rfl, HB.out⟩
          · have p1 : (n ≥ 56320) = True := eq_true (by omega)
            have p1b : (56320 ≤ n) = True := eq_true (by omega)
            have p1c : (n < 57344) = False := eq_false (by omega)
            have p2 : (n < 55296) = False := eq_false h3
            have p3 : (n ≥ 57344) = True := eq_true (by omega)
            have p3b : (57344 ≤ n) = True := eq_true (by omega)
            clear hE0 h1 h2 h3
            go_enter Tryd.func15, Tryd.ntmps15
            go_wp2_with fail
            refine (HIX.out _).mono ?_
            rintro e w1 ⟨rfl, rfl⟩
            go_wp2_with fail
            refine (HF.out _).mono ?_
            rintro e w1 ⟨rfl, hb⟩
            have HB := Aside0.mk hb
            clear hb
            go_wp2_with fail
            go_ret2
            exact ⟨rfl, HB.out⟩
        rw [if_neg h2] at hE0
        have p1 : (n ≥ 56320) = False := eq_false (by omega)
        have p1b : (56320 ≤ n) = False := eq_false (by omega)
        have p2 : (n < 55296) = False := eq_false (by omega)
        have p3 : (n ≥ 57344) = False := eq_false (by omega)
        have p3b : (57344 ≤ n) = False := eq_false (by omega)
        have hle5 : (5 : Int) ≤ (s.size : Int) := by omega
        have hbt5 : bytesOf (s.extract 5 s.size) = t.drop 4 := by rw [bytes_extract, HL.out]; rfl
        clear h1
        by_cases h4 : (t.drop 4).take 2 = [92, 117]
        rotate_left
        · rw [if_pos h4] at hE0
          rw [hE0]
          have HP := Aside0.mk (fun w => prefix_calls (s.extract 5 s.size) ⟨#[92, 117]⟩ false w (by rw [hbt5]; exact decide_eq_false h4))
          clear hE0 h4 hbt5 h2
          go_enter Tryd.func15, Tryd.ntmps15
          go_wp2_with fail
          refine (HIX.out _).mono ?_
          rintro e w1 ⟨rfl, rfl⟩
          go_wp2_with fail
          refine (HF.out _).mono ?_
          rintro e w1 ⟨rfl, hb⟩
          have HB := Aside0.mk hb
          clear hb
          go_wp2_with fail
          refine (HP.out _).mono ?_
          rintro e w2 ⟨rfl, rfl⟩
          go_wp2_with fail
          go_ret2
          exact ⟨rfl, HB.out⟩
        rw [if_neg (fun h => h h4)] at hE0
        have HP := Aside0.mk (fun w => prefix_calls (s.extract 5 s.size) ⟨#[92, 117]⟩ true w (by rw [hbt5]; exact decide_eq_true h4))
        have hs7 : 7 ≤ s.size := by
          have h := congrArg List.length HL.out
          rw [bytesOf_length] at h
          have h5 := congrArg List.length h4
          simp at h h5
          omega
        have hle7 : (7 : Int) ≤ (s.size : Int) := by omega
        have hbt7 : bytesOf (s.extract 7 s.size) = t.drop 6 := by rw [bytes_extract, HL.out]; rfl
        have hs7s : (s.extract 7 s.size).size ≤ 140737488351232 := by rw [← bytesOf_length, bytes_extract, List.length_drop, bytesOf_length]; omega
        clear h4 hbt5
        cases hy : hx4 (t.drop 6) with
        | none =>
          rw [hy] at hE0
          simp only at hE0
          rw [hE0]
          have HG := Aside0.mk (fun w => four_none (s.extract 7 s.size) w hs7s (by rw [hbt7]; exact hy))
          clear hE0 hy hbt7 hs7s h2
          go_enter Tryd.func15, Tryd.ntmps15
          go_wp2_with fail
          refine (HIX.out _).mono ?_
          rintro e w1 ⟨rfl, rfl⟩
          go_wp2_with fail
          refine (HF.out _).mono ?_
          rintro e w1 ⟨rfl, hb⟩
          have HB := Aside0.mk hb
          clear hb
          go_wp2_with fail
          refine (HP.out _).mono ?_
          rintro e w2 ⟨rfl, rfl⟩
          go_wp2_with fail
          refine (HG.out _).mono ?_
          rintro e w3 ⟨rfl, hb3⟩
          have HB3 := Aside0.mk (HB.out.trans (hb3.mono HB.out.size))
          clear hb3
          go_wp2_with fail
          go_ret2
          exact ⟨rfl, HB3.out⟩
        | some m =>
          rw [hy] at hE0
          simp only at hE0
          have HG := Aside0.mk (fun w => four_some (s.extract 7 s.size) m w hs7s (by rw [hbt7]; exact hy))
          obtain ⟨m0, m1, _⟩ := hx4_b hy
          clear hy hbt7 hs7s
          by_cases h6 : m < 56320 ∨ 57344 ≤ m
          · rw [if_pos h6] at hE0
            rw [hE0]
            by_cases h7 : m < 56320
            · have r1 : (m < 56320) = True := eq_true h7
              clear hE0 h6 h7 h2
              go_enter Tryd.func15, Tryd.ntmps15
              go_wp2_with fail
              refine (HIX.out _).mono ?_
              rintro e w1 ⟨rfl, rfl⟩
              go_wp2_with fail
              refine (HF.out _).mono ?_
              rintro e w1 ⟨rfl, hb⟩
              have HB := Aside0.mk hb
              clear hb
              go_wp2_with fail
              refine (HP.out _).mono ?_
              rintro e w2 ⟨rfl, rfl⟩
              go_wp2_with fail
              refine (HG.out _).mono ?_
              rintro e w3 ⟨rfl, hb3⟩
              have HB3 := Aside0.mk (HB.out.trans (hb3.mono HB.out.size))
              clear hb3
              go_wp2_with fail
              go_ret2
              exact ⟨rfl, HB3.out⟩
            · have r1 : (m < 56320) = False := eq_false h7
              have r2 : (m ≥ 57344) = True := eq_true (by omega)
              have r2b : (57344 ≤ m) = True := eq_true (by omega)
              clear hE0 h6 h7 h2
              go_enter Tryd.func15, Tryd.ntmps15
              go_wp2_with fail
              refine (HIX.out _).mono ?_
              rintro e w1 ⟨rfl, rfl⟩
              go_wp2_with fail
              refine (HF.out _).mono ?_
              rintro e w1 ⟨rfl, hb⟩
              have HB := Aside0.mk hb
              clear hb
              go_wp2_with fail
              refine (HP.out _).mono ?_
              rintro e w2 ⟨rfl, rfl⟩
              go_wp2_with fail
              refine (HG.out _).mono ?_
              rintro e w3 ⟨rfl, hb3⟩
              have HB3 := Aside0.mk (HB.out.trans (hb3.mono HB.out.size))
              clear hb3
              go_wp2_with fail
              go_ret2
              exact ⟨rfl, HB3.out⟩
          rw [if_neg h6] at hE0
          rw [hE0]
          have r1 : (m < 56320) = False := eq_false (by omega)
          have r2 : (m ≥ 57344) = False := eq_false (by omega)
          have r2b : (57344 ≤ m) = False := eq_false (by omega)
          have z1 : IntKind.i32.wrap (n - 55296) = n - 55296 := i32w _ (by omega)
          have z2 : wrap32 ((n - 55296) * 1024) = (n - 55296) * 1024 := by unfold wrap32; omega
          have z2b : IntKind.i32.wrap ((n - 55296) * 1024) = (n - 55296) * 1024 := i32w _ (by omega)
          have z3 : IntKind.i32.wrap (65536 + (n - 55296) * 1024) = 65536 + (n - 55296) * 1024 := i32w _ (by omega)
          have z4 : IntKind.i32.wrap (m - 56320) = m - 56320 := i32w _ (by omega)
          have z5 : IntKind.i32.wrap (65536 + (n - 55296) * 1024 + (m - 56320)) = 65536 + (n - 55296) * 1024 + (m - 56320) := i32w _ (by omega)
          have z1w : wrap32 (n - 55296) = n - 55296 := by unfold wrap32; omega
          have z3w : wrap32 (65536 + (n - 55296) * 1024) = 65536 + (n - 55296) * 1024 := by unfold wrap32; omega
          have z4w : wrap32 (m - 56320) = m - 56320 := by unfold wrap32; omega
          have z5w : wrap32 (65536 + (n - 55296) * 1024 + (m - 56320)) = 65536 + (n - 55296) * 1024 + (m - 56320) := by unfold wrap32; omega
          clear hE0 h6 h2
          go_enter Tryd.func15, Tryd.ntmps15
          go_wp2_with fail
          refine (HIX.out _).mono ?_
          rintro e w1 ⟨rfl, rfl⟩
          go_wp2_with fail
          refine (HF.out _).mono ?_
          rintro e w1 ⟨rfl, hb⟩
          have HB := Aside0.mk hb
          clear hb
          go_wp2_with fail
          refine (HP.out _).mono ?_
          rintro e w2 ⟨rfl, rfl⟩
          go_wp2_with fail
          refine (HG.out _).mono ?_
          rintro e w3 ⟨rfl, hb3⟩
          have HB3 := Aside0.mk (HB.out.trans (hb3.mono HB.out.size))
          clear hb3
          go_wp2_with fail
          go_ret2
          exact ⟨rfl, HB3.out⟩
    · have hun : un c = some (bt utx (uix c)) := if_neg hu
      have hE : escP (c :: t) = some (bt utx (uix c), 1) := by simp only [escP, hun]
      clear hun
      rw [hE]
      generalize uix c = i at *
      have k1 : (i ≥ 0) = True := eq_true (by omega)
      have k2 : (0 ≤ i) = True := eq_true (by omega)
      have k3 : (i < 8) = True := eq_true hub.2
      have hx1 := bt_at utx i
      unfold utx at hx1
      have hr := bt_range utx i
      unfold utx at hr
      have q1 : IntKind.i32.wrap (bt ⟨#[34, 92, 47, 8, 12, 10, 13, 9]⟩ i) = bt ⟨#[34, 92, 47, 8, 12, 10, 13, 9]⟩ i := i32w _ (by omega)
      clear hu hE hub hr
      go_enter Tryd.func15, Tryd.ntmps15
      go_wp2_with fail
      refine (HIX.out _).mono ?_
      rintro e w1 ⟨rfl, rfl⟩
      go_wp2_with fail
      go_ret2
      exact ⟨rfl, Below.refl _ _⟩
end Go.Proofs.YtfpgjkaaadnmcaaDoor.P
