/- Texts between quotes, put and taken again (of no program). -/
import Derived.Test.YtfpgjkaaadnmcaaDoorQg
namespace Go.Proofs.YtfpgjkaaadnmcaaDoor.P
set_option linter.unusedVariables false
set_option linter.unusedSimpArgs false
open Go.RowKit Go.Proofs.YtfpgjkaaadnmcaaDoorW.PrintWords Go.Proofs.YtfpgjkaaadnmcaaDoorW.PrintLast Go.Proofs.YtfpgjkaaadnmcaaDoorW.PrintMore
theorem hv_hexD : ∀ n : Fin 16, hv (hexD (n.val : Int)) = some (n.val : Int) := by decide
set_option maxRecDepth 100000 in
theorem un_short : ∀ c : Fin 128, shortV (c.val : Int) ≠ 0 → un (shortV (c.val : Int)) = some (c.val : Int) := by decide
theorem un_u : un 117 = none := by decide
theorem hx4_four (a b c d : Int) (t : List Int) {x y z u : Int} (h1 : hv a = some x) (h2 : hv b = some y) (h3 : hv c = some z) (h4 : hv d = some u) : hx4 (a :: b :: c :: d :: t) = some (((x * 16 + y) * 16 + z) * 16 + u) := by
  unfold hx4
  rw [if_neg (by simp)]
  simp only [List.take_succ_cons, List.take_zero, fourF, h1, h2, h3, h4, Int.zero_mul, Int.zero_add]
/-- What is put for a rune is read as this rune. -/
theorem nxt_put (v : Int) (h : validR v) (t : List Int) : ∃ c l, putL (encR v) = c :: l ∧ c ≠ 34 ∧ nxtT (putL (encR v) ++ t) = some (v, (putL (encR v)).length) := by
  have hvr := h
  unfold validR at h
  rw [putL_rune hvr]
  by_cases h128 : v < 128
  · rw [if_pos h128]
    unfold put1
    by_cases hs : shortV v ≠ 0
    · rw [if_pos hs]
      refine ⟨92, _, rfl, by omega, ?_⟩
      have hu := un_short ⟨v.toNat, by omega⟩
      have ev : ((v.toNat : Nat) : Int) = v := by omega
      simp only [ev] at hu
      simp only [List.cons_append, List.nil_append, nxtT, if_true, escP, hu hs, List.length_cons, List.length_nil]
    · rw [if_neg hs]
      by_cases h32 : v < 32
      · rw [if_pos h32]
        refine ⟨92, _, rfl, by omega, ?_⟩
        have k1 := hv_hexD ⟨(v / 16).toNat, by omega⟩
        have k2 := hv_hexD ⟨(v % 16).toNat, by omega⟩
        have e1 : (((v / 16).toNat : Nat) : Int) = v / 16 := by omega
        have e2 : (((v % 16).toNat : Nat) : Int) = v % 16 := by omega
        simp only [e1] at k1
        simp only [e2] at k2
        have hx := hx4_four 48 48 (hexD (v / 16)) (hexD (v % 16)) t (show hv 48 = some 0 by decide) (show hv 48 = some 0 by decide) k1 k2
        have e3 : ((0 * 16 + 0) * 16 + v / 16) * 16 + v % 16 = v := by omega
        rw [e3] at hx
        simp only [List.cons_append, List.nil_append, nxtT, if_true, escP, un_u, hx, List.length_cons, List.length_nil]
        rw [if_neg (fun h => h rfl), if_neg (by omega), if_pos (by omega)]
      · rw [if_neg h32]
        have hns : shortV v = 0 := Classical.byContradiction fun h => hs h
        have hne : v ≠ 34 ∧ v ≠ 92 := by
          constructor
          · rintro rfl; exact absurd hns (by decide)
          · rintro rfl; exact absurd hns (by decide)
        refine ⟨v, [], rfl, hne.1, ?_⟩
        simp only [List.cons_append, List.nil_append, nxtT, rune]
        rw [if_neg hne.2, if_pos h128]
        simp only
        rw [if_neg h32]
        rfl
  · rw [if_neg h128]
    have hl := encR_high hvr (by omega)
    rcases he : encR v with _ | ⟨c, l⟩
    · have := (encR_len v).1; rw [he] at this; simp at this
    · have hc : 128 ≤ c := hl c (by rw [he]; exact List.mem_cons_self)
      refine ⟨c, l, rfl, by omega, ?_⟩
      have hr := rune_enc v hvr t
      rw [he] at hr
      show nxtT (c :: (l ++ t)) = _
      simp only [nxtT]
      rw [if_neg (by omega)]
      rw [List.cons_append] at hr
      rw [hr]
      simp only
      rw [if_neg (by omega)]
set_option maxRecDepth 100000 in
theorem short_b : ∀ c : Fin 256, 0 ≤ shortV (c.val : Int) ∧ shortV (c.val : Int) ≤ 255 := by decide
set_option maxRecDepth 100000 in
theorem short_b2 : ∀ c : Fin 128, 0 ≤ shortV (c.val : Int) ∧ shortV (c.val : Int) < 128 := by decide
theorem put1_bs {c : Int} (h : 0 ≤ c ∧ c ≤ 255) : Bs (put1 c) := by
  unfold put1
  split
  · have h2 := short_b ⟨c.toNat, by omega⟩
    have ec : ((c.toNat : Nat) : Int) = c := by omega
    simp only [ec] at h2
    intro x hx
    simp at hx
    rcases hx with rfl | rfl
    · omega
    · exact h2
  · split
    · intro x hx
      unfold hexD at hx
      simp at hx
      rcases hx with rfl | rfl | rfl | rfl | rfl <;> (try split) <;> omega
    · intro x hx
      simp at hx
      subst hx
      exact h
theorem putL_bs {l : List Int} (h : Bs l) : Bs (putL l) := by
  intro x hx
  obtain ⟨c, hc, hx⟩ := List.mem_flatMap.1 hx
  exact put1_bs (h c hc) x hx
theorem Bs.app {a b : List Int} (ha : Bs a) (hb : Bs b) : Bs (a ++ b) := fun x hx => (List.mem_append.1 hx).elim (ha x) (hb x)
theorem Bs.cons {a : Int} {b : List Int} (ha : 0 ≤ a ∧ a ≤ 255) (hb : Bs b) : Bs (a :: b) := fun x hx => by
  rcases List.mem_cons.1 hx with rfl | h
  · exact ha
  · exact hb x h
/-- A text put between quotes is taken as it is. -/
theorem tk_put : ∀ (m : Nat) (l out t : List Int), l.length ≤ m → Bs l → Bs t → validL l = true → tk out (putL l ++ 34 :: t) = some (out ++ l, t.length + 1) := by
  intro m
  induction m with
  | zero =>
    intro l out t hm hB hT hv
    obtain rfl : l = [] := List.eq_nil_of_length_eq_zero (by omega)
    rw [List.append_nil]
    exact tk_end out t
  | succ m ih =>
    intro l out t hm hB hT hv
    by_cases h0 : l = []
    · subst h0
      rw [List.append_nil]
      exact tk_end out t
    · rcases hr : rune l with _ | ⟨v, n⟩
      · rw [validL_none h0 hr] at hv; cases hv
      · obtain ⟨h1, h2, h3⟩ := rune_some hB hr
        have hn := rune_len hB hr
        rw [validL_some hB hr] at hv
        obtain ⟨c, r, hc, hc34, hx⟩ := nxt_put v h1 (putL (l.drop n) ++ 34 :: t)
        have e : putL l ++ 34 :: t = putL (encR v) ++ (putL (l.drop n) ++ 34 :: t) := by
          conv => lhs; rw [h2]
          rw [putL_app, List.append_assoc]
        have hBB : Bs (putL (encR v) ++ (putL (l.drop n) ++ 34 :: t)) := (putL_bs (encR_bs v h1)).app ((putL_bs (hB.drop n)).app (.cons (by omega) hT))
        rw [e]
        rw [hc] at hx hBB ⊢
        rw [List.cons_append] at hx hBB ⊢
        rw [tk_some hBB hc34 hx]
        have ed : (c :: (r ++ (putL (l.drop n) ++ 34 :: t))).drop (c :: r).length = putL (l.drop n) ++ 34 :: t := by
          rw [← List.cons_append, List.drop_left]
        rw [ed, ih (l.drop n) (out ++ encR v) t (by rw [List.length_drop]; omega) (hB.drop n) hT hv, List.append_assoc, ← h2]
theorem validL_enc (v : Int) (h : validR v) (b : List Int) (hb : Bs b) : validL (encR v ++ b) = validL b := by
  rw [validL_some ((encR_bs v h).app hb) (rune_enc v h b), List.drop_left]
theorem validL_ascii : ∀ (a b : List Int), (∀ x ∈ a, 0 ≤ x ∧ x < 128) → Bs b → validL (a ++ b) = validL b
  | [], _, _, _ => rfl
  | c :: a, b, h, hb => by
    have hc := h c List.mem_cons_self
    have ha := fun x hx => h x (List.mem_cons_of_mem _ hx)
    have hB : Bs (c :: (a ++ b)) := .cons (by omega) (Bs.app (fun x hx => by have := ha x hx; omega) hb)
    have hr : rune (c :: (a ++ b)) = some (c, 1) := by simp only [rune]; rw [if_pos hc.2]
    rw [List.cons_append, validL_some hB hr]
    exact validL_ascii a b ha hb
theorem validL_app : ∀ (m : Nat) (a b : List Int), a.length ≤ m → Bs a → Bs b → validL a = true → validL (a ++ b) = validL b := by
  intro m
  induction m with
  | zero =>
    intro a b hm _ _ _
    obtain rfl : a = [] := List.eq_nil_of_length_eq_zero (by omega)
    rfl
  | succ m ih =>
    intro a b hm hA hB hv
    by_cases h0 : a = []
    · subst h0; rfl
    · rcases hr : rune a with _ | ⟨v, n⟩
      · rw [validL_none h0 hr] at hv; cases hv
      · obtain ⟨h1, h2, h3⟩ := rune_some hA hr
        have hn := rune_len hA hr
        rw [validL_some hA hr] at hv
        rw [h2, List.append_assoc, validL_enc v h1 _ ((hA.drop n).app hB)]
        exact ih _ b (by rw [List.length_drop]; omega) (hA.drop n) hB hv
theorem put1_ascii {c : Int} (h : 0 ≤ c ∧ c < 128) : ∀ x ∈ put1 c, 0 ≤ x ∧ x < 128 := by
  unfold put1
  split
  · have h2 := short_b2 ⟨c.toNat, by omega⟩
    have ec : ((c.toNat : Nat) : Int) = c := by omega
    simp only [ec] at h2
    intro x hx
    simp at hx
    rcases hx with rfl | rfl
    · omega
    · exact h2
  · split
    · intro x hx
      unfold hexD at hx
      simp at hx
      rcases hx with rfl | rfl | rfl | rfl | rfl <;> (try split) <;> omega
    · intro x hx
      simp at hx
      subst hx
      exact h
/-- What is put is a text. -/
theorem valid_put : ∀ (m : Nat) (l b : List Int), l.length ≤ m → Bs l → Bs b → validL l = true → validL (putL l ++ b) = validL b := by
  intro m
  induction m with
  | zero =>
    intro l b hm _ _ _
    obtain rfl : l = [] := List.eq_nil_of_length_eq_zero (by omega)
    rfl
  | succ m ih =>
    intro l b hm hA hB hv
    by_cases h0 : l = []
    · subst h0; rfl
    · rcases hr : rune l with _ | ⟨v, n⟩
      · rw [validL_none h0 hr] at hv; cases hv
      · obtain ⟨h1, h2, h3⟩ := rune_some hA hr
        have hn := rune_len hA hr
        rw [validL_some hA hr] at hv
        rw [h2, putL_app, List.append_assoc, putL_rune h1]
        have hrest : Bs (putL (l.drop n) ++ b) := (putL_bs (hA.drop n)).app hB
        have ih2 := ih (l.drop n) b (by rw [List.length_drop]; omega) (hA.drop n) hB hv
        split
        · rename_i h128
          rw [validL_ascii _ _ (put1_ascii ⟨h1.1, h128⟩) hrest]
          exact ih2
        · rw [validL_enc v h1 _ hrest]
          exact ih2
/-- What is taken is a text, no longer than what it was taken from. -/
theorem tk_valid : ∀ (k : Nat) (out l r : List Int) (m : Nat), Bs l → Bs out → validL out = true → tkF k out l = some (r, m) → validL r = true ∧ Bs r ∧ 1 ≤ m ∧ m ≤ l.length ∧ r.length ≤ out.length + l.length := by
  intro k
  induction k with
  | zero => intro out l r m _ _ _ h; cases h
  | succ k ih =>
    intro out l r m hB hO hv h
    cases l with
    | nil => cases h
    | cons c t =>
      simp only [tkF] at h
      split at h
      · injection h with h
        injection h with h1 h2
        subst h1; subst h2
        exact ⟨hv, hO, by simp, Nat.le_refl _, by omega⟩
      · cases hx : nxtT (c :: t) with
        | none => rw [hx] at h; cases h
        | some p =>
          obtain ⟨v, n⟩ := p
          rw [hx] at h
          simp only at h
          obtain ⟨g1, g2, g3, g4⟩ := nxt_len hB hx
          have hve : validL (out ++ encR v) = true := by
            rw [validL_app _ out (encR v) (Nat.le_refl _) hO (encR_bs v g1) hv]
            have := validL_enc v g1 [] (fun x hx => by cases hx)
            rw [List.append_nil] at this
            rw [this]; rfl
          obtain ⟨k1, k2, k3, k4, k5⟩ := ih _ _ r m (hB.drop n) (hO.app (encR_bs v g1)) hve h
          rw [List.length_drop] at k4 k5
          rw [List.length_append] at k5
          exact ⟨k1, k2, k3, by omega, by omega⟩
end Go.Proofs.YtfpgjkaaadnmcaaDoor.P
