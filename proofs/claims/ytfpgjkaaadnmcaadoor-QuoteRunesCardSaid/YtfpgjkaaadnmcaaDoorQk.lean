/- The document's escape (layer 8), by its walk. -/
import Derived.Test.YtfpgjkaaadnmcaaDoorQj
import Derived.Deep.QuietTactic
import Derived.BigQuiet
namespace Go.Proofs.YtfpgjkaaadnmcaaDoor.P
set_option linter.unusedVariables false
set_option linter.unusedSimpArgs false
open Go.RowKit Go.Proofs.YtfpgjkaaadnmcaaDoorW.PrintWords Go.Proofs.YtfpgjkaaadnmcaaDoorW.PrintLast Go.Proofs.YtfpgjkaaadnmcaaDoorW.PrintMore
attribute [local go_sem] setCell_drewN
def ufx : ByteArray := ⟨#[34, 92, 47, 98, 102, 110, 114, 116]⟩
set_option maxRecDepth 100000 in
theorem esc_hit : ∀ i : Fin 8, un (bt ufx (i.val : Int)) = some (bt utx (i.val : Int)) := by decide
set_option maxRecDepth 100000 in
theorem esc_miss : ∀ c : Fin 256, (∀ i : Fin 8, bt ufx (i.val : Int) ≠ (c.val : Int)) → un (c.val : Int) = none := by decide
theorem hxR_take (u : List Int) : hxR u = if u.take 2 = [92, 117] then hx4 (u.drop 2) else none := by
  match u with
  | [] => rfl
  | [a] => simp only [hxR]; rw [if_neg (by simp)]
  | a :: b :: t =>
    simp only [hxR, List.take_succ_cons, List.take_zero, List.drop_succ_cons, List.drop_zero, List.cons.injEq, and_true]
theorem hxR_esc (t : List Int) : hxR (92 :: 117 :: t) = hx4 t := by simp only [hxR]; rw [if_pos ⟨trivial, trivial⟩]
/-- What the document's escape answers at a backslash. -/
def eR (t : List Int) : Int × Int := match escP t with | some (v, n) => (v, n + 1) | none => (0, 0)
def EscRel (c : Int) (v6 : Value) (w wr : World) : Prop := ∃ i : Nat, i ≤ 8 ∧ v6 = .int .i64 (i : Int) ∧ (∀ j, j < i → bt ufx (j : Int) ≠ c) ∧ ∃ k, wr = w.drewN k
set_option maxRecDepth 100000 in
set_option maxHeartbeats 4000000 in
theorem refesc_calls (s : ByteArray) (t : List Int) (w : World) (hs : s.size ≤ 140737488351232) (hl : bytesOf s = 92 :: t) : Calls Tryd.prog 18 #[.string s] w fun e w' => e = .returned (.tuple #[.int .i64 (eR t).1, .int .i64 (eR t).2]) ∧ Below w.heap.size w w' := by
  rcases t with _ | ⟨c, t⟩
  · have h := congrArg List.length hl
    rw [bytesOf_length, List.length_cons, List.length_nil] at h
    have k1 : ((s.size : Int) < 2) = True := eq_true (by omega)
    clear h hl
    go_enter Tryd.func18, Tryd.ntmps18
    go_wp2_with fail
    go_ret2
    exact ⟨rfl, Below.refl _ _⟩
  have hlen : s.size = t.length + 2 := by have h := congrArg List.length hl; rw [bytesOf_length] at h; simpa using h
  have k1 : ((s.size : Int) < 2) = False := eq_false (by omega)
  have hsz1 : (1 : Int) < (s.size : Int) := by omega
  have hbs : Bs (92 :: c :: t) := by rw [← hl]; exact bs_bytes s
  have hc := hbs.tail.head
  obtain ⟨_, _, hd0⟩ := bt_drop s 0 92 (c :: t) (by rw [List.drop_zero]; exact hl)
  obtain ⟨_, hb1, _⟩ := bt_drop s 1 c t hd0
  have hx1 : ∀ h : 1 < s.size, ((s[1]'h).toNat : Int) = c := fun h => (bt_at s 1 h).trans hb1
  have HL := Aside0.mk hl
  have HLEN := Aside0.mk hlen
  have HC := Aside0.mk hc
  clear hl hlen hbs hc hd0 hb1
  go_enter Tryd.func18, Tryd.ntmps18
  go_wp2_with fail
  go_loopw [6] (fun v6 wr => EscRel c v6 w wr) (fun v _ => 8 - (intOf v).toNat)
  case atStart => exact ⟨0, by omega, rfl, fun j hj => by omega, 0, rfl⟩
  case round =>
    obtain ⟨i, hi, rfl, hm, k, rfl⟩ := hrel
    have HM := Aside0.mk hm
    clear hm
    by_cases hin : i < 8
    · have k2 : ((i : Int) < 8) = True := eq_true (by omega)
      have hxi : ∀ h : i < (⟨#[34, 92, 47, 98, 102, 110, 114, 116]⟩ : ByteArray).size, ((((⟨#[34, 92, 47, 98, 102, 110, 114, 116]⟩ : ByteArray)[i]'h).toNat : Nat) : Int) = bt ufx (i : Int) := fun h => bt_at ufx i h
      have hxo : ∀ h : i < (⟨#[34, 92, 47, 8, 12, 10, 13, 9]⟩ : ByteArray).size, ((((⟨#[34, 92, 47, 8, 12, 10, 13, 9]⟩ : ByteArray)[i]'h).toNat : Nat) : Int) = bt utx (i : Int) := fun h => bt_at utx i h
      have hr := bt_range utx (i : Int)
      have q1 : IntKind.i64.wrap (bt utx (i : Int)) = bt utx (i : Int) := i64w _ (by omega)
      have r9 : IntKind.i64.wrap ((i : Int) + 1) = (i : Int) + 1 := i64w _ (by omega)
      have hit := esc_hit ⟨i, hin⟩
      simp only at hit
      have HIT := Aside0.mk hit
      clear hit hr
      by_cases he : bt ufx (i : Int) = c
      · have HE : Aside0 (eR (c :: t) = (bt utx (i : Int), 2)) := ⟨by unfold eR; rw [← he]; simp only [escP, HIT.out]; rfl⟩
        have e1 : (bt ufx (i : Int) == c) = true := beq_iff_eq.mpr he
        clear he HIT
        generalize bt ufx (i : Int) = x at *
        generalize bt utx (i : Int) = y at *
        go_wp2_with fail
        go_quiet (fail)
        go_wp2_with fail
        go_ret2
        rw [HE.out]
        exact ⟨rfl, bel_drewN (Below.refl _ _) _⟩
      · have e1 : (bt ufx (i : Int) == c) = false := beq_eq_false_iff_ne.mpr he
        have HMN : Aside0 (∀ j, j < i + 1 → bt ufx (j : Int) ≠ c) := ⟨fun j hj => by
          by_cases h : j = i
          · rw [h]; exact he
          · exact HM.out j (by omega)⟩
        clear he HIT
        generalize bt utx (i : Int) = y at *
        generalize hx : bt ufx (i : Int) = x at e1 hxi
        clear hx
        go_wp2_with fail
        go_quiet (fail)
        go_wp2_with fail
        refine ⟨⟨i + 1, by omega, by go_num, HMN.out, _, rfl⟩, ?_⟩
        simp only [intOf]; omega
    · obtain rfl : i = 8 := by omega
      have k2 : (((8 : Nat) : Int) < 8) = False := eq_false (by omega)
      have hun : un c = none := by
        have h := HC.out
        have ec : ((c.toNat : Nat) : Int) = c := by omega
        have hm := esc_miss ⟨c.toNat, by omega⟩ (fun j => by
          simp only [ec]
          exact HM.out j.val j.isLt)
        simpa only [ec] using hm
      have hbs : Bs (92 :: c :: t) := by rw [← HL.out]; exact bs_bytes s
      clear hin hi k2 HM
      have HX := Aside0.mk (fun w => hex_calls s w hs)
      rw [HL.out] at HX
      cases hx : hxR (92 :: c :: t) with
      | none =>
        have HE : Aside0 (eR (c :: t) = (0, 0)) := ⟨by
          unfold eR
          simp only [escP, hun]
          by_cases h117 : c = 117
          · subst h117
            rw [hxR_esc] at hx
            rw [if_neg (fun h => h rfl), hx]
          · rw [if_pos h117]⟩
        rw [hx] at HX
        simp only [hxV] at HX
        clear hun hx hbs
        go_wp2_with fail
        refine (HX.out _).mono ?_
        rintro e w1 ⟨rfl, rfl⟩
        go_wp2_with fail
        go_ret2
        rw [HE.out]
        exact ⟨rfl, bel_drewN (Below.refl _ _) _⟩
      | some n =>
        have h117 : c = 117 := by
          rw [hxR_take] at hx
          by_cases h : (92 :: c :: t).take 2 = [92, 117]
          · simpa using h
          · rw [if_neg h] at hx; cases hx
        subst h117
        have hx2 : hx4 t = some n := by rw [hxR_esc] at hx; exact hx
        rw [hx] at HX
        simp only [hxV] at HX
        obtain ⟨n0, n1, n4⟩ := hx4_b hx2
        have hE0 : escP (117 :: t) = (if 56320 ≤ n ∧ n < 57344 then none else if n < 55296 ∨ 57344 ≤ n then some (n, 5) else
                if (t.drop 4).take 2 ≠ [92, 117] then none else match hx4 (t.drop 6) with
                | none => none
                | some m => if m < 56320 ∨ 57344 ≤ m then none else some (65536 + (n - 55296) * 1024 + (m - 56320), 11)) := by
          simp only [escP, hun, hx2]; rfl
        have p0 : (n < 0) = False := eq_false (by omega)
        clear hun hx hx2 hbs
        by_cases h1 : 56320 ≤ n ∧ n < 57344
        · rw [if_pos h1] at hE0
          have HE : Aside0 (eR (117 :: t) = (0, 0)) := ⟨by unfold eR; rw [hE0]⟩
          have p1 : (n ≥ 56320) = True := eq_true h1.1
          have p1b : (56320 ≤ n) = True := eq_true h1.1
          have p2 : (n ≤ 57343) = True := eq_true (by omega)
          clear hE0 h1
          go_wp2_with fail
          refine (HX.out _).mono ?_
          rintro e w1 ⟨rfl, rfl⟩
          go_wp2_with fail
          go_ret2
          rw [HE.out]
          exact ⟨rfl, bel_drewN (Below.refl _ _) _⟩
        rw [if_neg h1] at hE0
        by_cases h2 : n < 55296 ∨ 57344 ≤ n
        · rw [if_pos h2] at hE0
          have HE : Aside0 (eR (117 :: t) = (n, 6)) := ⟨by unfold eR; rw [hE0]; rfl⟩
          by_cases h3 : n < 55296
          · have p1 : (n ≥ 56320) = False := eq_false (by omega)
            have p1b : (56320 ≤ n) = False := eq_false (by omega)
            have p2 : (n < 55296) = True := eq_true h3
            clear hE0 h1 h2 h3
            go_wp2_with fail
            refine (HX.out _).mono ?_
            rintro e w1 ⟨rfl, rfl⟩
            go_wp2_with fail
            go_ret2
            rw [HE.out]
            exact ⟨rfl, bel_drewN (Below.refl _ _) _⟩
          · have p1 : (n ≥ 56320) = True := eq_true (by omega)
            have p1b : (56320 ≤ n) = True := eq_true (by omega)
            have p1c : (n ≤ 57343) = False := eq_false (by omega)
            have p2 : (n < 55296) = False := eq_false h3
            have p3 : (n > 57343) = True := eq_true (by omega)
            have p3b : (57343 < n) = True := eq_true (by omega)
            clear hE0 h1 h2 h3
            go_wp2_with fail
            refine (HX.out _).mono ?_
            rintro e w1 ⟨rfl, rfl⟩
            go_wp2_with fail
            go_ret2
            rw [HE.out]
            exact ⟨rfl, bel_drewN (Below.refl _ _) _⟩
        rw [if_neg h2] at hE0
        have p1 : (n ≥ 56320) = False := eq_false (by omega)
        have p1b : (56320 ≤ n) = False := eq_false (by omega)
        have p2 : (n < 55296) = False := eq_false (by omega)
        have p3 : (n > 57343) = False := eq_false (by omega)
        have p3b : (57343 < n) = False := eq_false (by omega)
        have hs6 : (6 : Int) ≤ (s.size : Int) := by have := HLEN.out; omega
        have hbt6 : bytesOf (s.extract 6 s.size) = t.drop 4 := by rw [bytes_extract, HL.out]; rfl
        have hs6s : (s.extract 6 s.size).size ≤ 140737488351232 := by rw [← bytesOf_length, bytes_extract, List.length_drop, bytesOf_length]; omega
        have HY := Aside0.mk (fun w => hex_calls (s.extract 6 s.size) w hs6s)
        rw [hbt6] at HY
        have hm : (match hxR (t.drop 4) with | none => none | some m => if m < 56320 ∨ 57344 ≤ m then none else some (65536 + (n - 55296) * 1024 + (m - 56320), 11)) = escP (117 :: t) := by
          rw [hE0, hxR_take]
          by_cases h : (t.drop 4).take 2 = [92, 117]
          · rw [if_pos h, if_neg (fun g => g h), List.drop_drop]
          · rw [if_neg h, if_pos h]
        clear hE0 h1 hbt6 hs6s
        cases hy : hxR (t.drop 4) with
        | none =>
          rw [hy] at hm HY
          simp only [hxV] at HY
          have HE : Aside0 (eR (117 :: t) = (0, 0)) := ⟨by unfold eR; rw [← hm]⟩
          clear hm hy h2
          go_wp2_with fail
          refine (HX.out _).mono ?_
          rintro e w1 ⟨rfl, rfl⟩
          go_wp2_with fail
          refine (HY.out _).mono ?_
          rintro e w2 ⟨rfl, rfl⟩
          go_wp2_with fail
          go_ret2
          rw [HE.out]
          exact ⟨rfl, bel_drewN (Below.refl _ _) _⟩
        | some m =>
          rw [hy] at hm HY
          simp only [hxV] at HY
          have hmb : 0 ≤ m ∧ m < 65536 := by
            rw [hxR_take] at hy
            split at hy
            · exact ⟨(hx4_b hy).1, (hx4_b hy).2.1⟩
            · cases hy
          obtain ⟨m0, m1⟩ := hmb
          simp only at hm
          clear hy
          by_cases h6 : m < 56320 ∨ 57344 ≤ m
          · rw [if_pos h6] at hm
            have HE : Aside0 (eR (117 :: t) = (0, 0)) := ⟨by unfold eR; rw [← hm]⟩
            by_cases h7 : m < 56320
            · have r1 : (m < 56320) = True := eq_true h7
              clear hm h6 h7 h2
              go_wp2_with fail
              refine (HX.out _).mono ?_
              rintro e w1 ⟨rfl, rfl⟩
              go_wp2_with fail
              refine (HY.out _).mono ?_
              rintro e w2 ⟨rfl, rfl⟩
              go_wp2_with fail
              go_ret2
              rw [HE.out]
              exact ⟨rfl, bel_drewN (Below.refl _ _) _⟩
            · have r1 : (m < 56320) = False := eq_false h7
              have r2 : (m > 57343) = True := eq_true (by omega)
              have r2b : (57343 < m) = True := eq_true (by omega)
              clear hm h6 h7 h2
              go_wp2_with fail
              refine (HX.out _).mono ?_
              rintro e w1 ⟨rfl, rfl⟩
              go_wp2_with fail
              refine (HY.out _).mono ?_
              rintro e w2 ⟨rfl, rfl⟩
              go_wp2_with fail
              go_ret2
              rw [HE.out]
              exact ⟨rfl, bel_drewN (Below.refl _ _) _⟩
          rw [if_neg h6] at hm
          have HE : Aside0 (eR (117 :: t) = (65536 + 1024 * (n - 55296) + (m - 56320), 12)) := ⟨by unfold eR; rw [← hm]; simp only; rw [Int.mul_comm]; rfl⟩
          have r1 : (m < 56320) = False := eq_false (by omega)
          have r2 : (m > 57343) = False := eq_false (by omega)
          have r2b : (57343 < m) = False := eq_false (by omega)
          have z1 : IntKind.i64.wrap (n - 55296) = n - 55296 := i64w _ (by omega)
          have z2 : IntKind.i64.wrap (1024 * (n - 55296)) = 1024 * (n - 55296) := i64w _ (by omega)
          have z3 : IntKind.i64.wrap (65536 + 1024 * (n - 55296)) = 65536 + 1024 * (n - 55296) := i64w _ (by omega)
          have z4 : IntKind.i64.wrap (m - 56320) = m - 56320 := i64w _ (by omega)
          have z5 : IntKind.i64.wrap (65536 + 1024 * (n - 55296) + (m - 56320)) = 65536 + 1024 * (n - 55296) + (m - 56320) := i64w _ (by omega)
          clear hm h6 h2
          go_wp2_with fail
          refine (HX.out _).mono ?_
          rintro e w1 ⟨rfl, rfl⟩
          go_wp2_with fail
          refine (HY.out _).mono ?_
          rintro e w2 ⟨rfl, rfl⟩
          go_wp2_with fail
          go_ret2
          rw [HE.out]
          exact ⟨rfl, bel_drewN (Below.refl _ _) _⟩
end Go.Proofs.YtfpgjkaaadnmcaaDoor.P
