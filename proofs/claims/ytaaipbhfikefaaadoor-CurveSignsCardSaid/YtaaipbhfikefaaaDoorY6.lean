/- Merged of the texts: Ek, Ep (trim.py). -/
import Derived.Test.YtaaipbhfikefaaaDoorY5
section
namespace Go.Proofs.YtaaipbhfikefaaaDoor.P
set_option linter.unusedVariables false
set_option linter.unusedSimpArgs false
open Go.RowKit Go.ChangeShapes Go.WideShapes Go.Proofs.YtaaipbhfikefaaaDoorW.PrintWords Go.Proofs.YtaaipbhfikefaaaDoorW.PrintLast Go.Proofs.YtaaipbhfikefaaaDoorW.PrintMore
open Go.Proofs.YtaaipbhfikefaaaDoor.P.Fd
theorem TabD.to {w w' : World} (h : TabD w) (hb : Below w.heap.size w w') : TabD w' := h.below hb h.lt
theorem add_as {F H S : Nat → Int} (h : addP F H = S) (w : World) (hT : TabD w) (hF : PL F) (hH : PL H) : Calls Tryd.prog 18 #[.agg (FR .u64 20 F), .agg (FR .u64 20 H)] w fun e w' => e = .returned (.agg (FR .u64 20 S)) ∧ Below w.heap.size w w' := by rw [← h]; exact add_pt F H w hT hF hH
theorem ptneg_as {F S : Nat → Int} (h : negP F = S) (w : World) (hF : PL F) : Calls Tryd.prog 20 #[.agg (FR .u64 20 F)] w fun e w' => e = .returned (.agg (FR .u64 20 S)) ∧ Below w.heap.size w w' := by rw [← h]; exact neg_pt F w hF
theorem mul_as {F z S : Nat → Int} (h : mulP F z = S) (w : World) (hT : TabD w) (hF : PL F) (hz : By z) : Calls Tryd.prog 22 #[.agg (FR .u64 20 F), .agg (FR .u8 32 z)] w fun e w' => e = .returned (.agg (FR .u64 20 S)) ∧ Below w.heap.size w w' := by rw [← h]; exact mul_pt F z w hT hF hz
theorem zero_as {S : Nat → Int} (h : zeroP = S) (w : World) : Calls Tryd.prog 10 #[] w fun e w' => e = .returned (.agg (FR .u64 20 S)) ∧ Below w.heap.size w w' := by rw [← h]; exact zero_pt w
theorem base_as {S : Nat → Int} (h : baseP = S) (w : World) (hT : TabD w) : Calls Tryd.prog 24 #[] w fun e w' => e = .returned (.agg (FR .u64 20 S)) ∧ Below w.heap.size w w' := by rw [← h]; exact base_pt w hT
theorem bytes_as {F S : Nat → Int} (h : bytesP F = S) (w : World) (hF : PL F) : Calls Tryd.prog 11 #[.agg (FR .u64 20 F)] w fun e w' => e = .returned (.agg (FR .u8 32 S)) ∧ Below w.heap.size w w' := by rw [← h]; exact bytes_pt F w hF
theorem is_as {F H : Nat → Int} {r : Bool} (h : isP F H = r) (w : World) (hF : PL F) (hH : PL H) : Calls Tryd.prog 16 #[.agg (FR .u64 20 F), .agg (FR .u64 20 H)] w fun e w' => e = .returned (.bool r) ∧ Below w.heap.size w w' := by rw [← h]; exact is_pt F H w hF hH
theorem dec_as {b S : Nat → Int} {r : Bool} (h : decP b = S) (hr : decOk b = r) (w : World) (hT : TabD w) (hb : By b) : Calls Tryd.prog 12 #[.agg (FR .u8 32 b)] w fun e w' => e = .returned (.tuple #[.agg (FR .u64 20 S), .bool r]) ∧ Below w.heap.size w w' := by rw [← h, ← hr]; exact decode_pt b w hT hb
theorem decR_as {b S : Nat → Int} {r : Bool} (h : decRP b = S) (hr : decROk b = r) (w : World) (hb : By b) : Calls Tryd.prog 13 #[.string (sOf b)] w fun e w' => e = .returned (.tuple #[.agg (FR .i64 64 S), .bool r]) ∧ Below w.heap.size w w' := by rw [← h, ← hr]; exact decode_pr b w hb
theorem addR_as {F H S : Nat → Int} (h : addRP F H = S) (w : World) (hF : PR F) (hH : PR H) : Calls Tryd.prog 19 #[.agg (FR .i64 64 F), .agg (FR .i64 64 H)] w fun e w' => e = .returned (.agg (FR .i64 64 S)) ∧ Below w.heap.size w w' := by rw [← h]; exact add_pr F H w hF hH
theorem negR_as {F S : Nat → Int} (h : negRP F = S) (w : World) (hF : PR F) : Calls Tryd.prog 21 #[.agg (FR .i64 64 F)] w fun e w' => e = .returned (.agg (FR .i64 64 S)) ∧ Below w.heap.size w w' := by rw [← h]; exact neg_pr F w hF
theorem mulR_as {F z S : Nat → Int} (h : mulRP F z = S) (w : World) (hF : PR F) (hz : By z) : Calls Tryd.prog 23 #[.agg (FR .i64 64 F), .string (sOf z)] w fun e w' => e = .returned (.agg (FR .i64 64 S)) ∧ Below w.heap.size w w' := by rw [← h]; exact mul_pr F z w hF hz
theorem bytesR_as {F : Nat → Int} {s : ByteArray} (h : sOf (bytesRP F) = s) (w : World) (hF : PR F) : Calls Tryd.prog 15 #[.agg (FR .i64 64 F)] w fun e w' => e = .returned (.string s) ∧ Below w.heap.size w w' := by rw [← h]; exact bytes_pr F w hF
theorem same_as {F : Nat → Int} {s : ByteArray} {r : Bool} (h : ((sOf (bytesP F)).toList == s.toList) = r) (w : World) (hF : PL F) : Calls Tryd.prog 14 #[.agg (FR .u64 20 F), .string s] w fun e w' => e = .returned (.bool r) ∧ Below w.heap.size w w' := by rw [← h]; exact same_calls F s w hF
/-- The points' words. -/
theorem is_same {F H : Nat → Int} {P Q : Pt dF} (hF : PRep F P) (hH : PRep H Q) (h : P = Q) : isP F H = true := (isP_iff hF hH).2 h
theorem is_eq {F H : Nat → Int} {P Q : Pt dF} (hF : PRep F P) (hH : PRep H Q) {r : Bool} (h : (P = Q) ↔ r = true) : isP F H = r := by
  cases r with
  | true => exact (isP_iff hF hH).2 (h.2 rfl)
  | false =>
    cases hi : isP F H with
    | false => rfl
    | true => exact absurd (h.1 ((isP_iff hF hH).1 hi)) (by decide)
theorem zero_ptB : ∀ j, j < 32 → ptB (Pt.zero dF) j = smL 1 j := by
  intro j hj
  have e : ptB (Pt.zero dF) = dig 256 1 := by
    unfold ptB
    rw [if_neg (by decide)]
    rfl
  rw [e]
  have : ∀ k : Fin 32, dig 256 1 k.val = smL 1 k.val := by decide +kernel
  exact this ⟨j, hj⟩
theorem PRep.By {F : Nat → Int} {P : Pt dF} (h : PRep F P) : Go.Proofs.YtaaipbhfikefaaaDoor.P.Fd.By (bytesP F) := by rw [h.bytes]; exact ptB_By P
theorem dec_inj {a b : Nat → Int} (ha : By a) (hb : By b) (oa : decOk a = true) (ob : decOk b = true) : decPt a ha oa = decPt b hb ob ↔ ∀ j, j < 32 → a j = b j := by
  constructor
  · intro h j hj
    rw [← dec_bytes ha oa j hj, ← dec_bytes hb ob j hj, h]
  · intro h
    refine ptB_inj (fun j hj => ?_)
    rw [dec_bytes ha oa j hj, dec_bytes hb ob j hj, h j hj]
theorem zeroE_By : Fd.By (fun _ => 0) := fun j _ => ⟨Int.le_refl 0, (by decide : (0 : Int) < 256)⟩
theorem smE_By {n : Int} (h : 0 ≤ n ∧ n < 256) : Fd.By (smL n) := fun j _ => by unfold smL; split <;> omega
def sm2 (a b : Int) (j : Nat) : Int := if j = 0 then a else if j = 1 then b else 0
theorem sm2_By {a b : Int} (ha : 0 ≤ a ∧ a < 256) (hb : 0 ≤ b ∧ b < 256) : Fd.By (sm2 a b) := fun j _ => by
  unfold sm2
  repeat' split
  all_goals omega
theorem NZ_zero : NZ (fun _ => 0) = 0 := by decide +kernel
theorem N32_sm2 (a b : Int) : N32 (sm2 a b) = a + 256 * b := by simp [N32, val, sm2]; omega
theorem NZ_sm2 {a b : Int} (ha : 0 ≤ a) (hb : 0 ≤ b) : NZ (sm2 a b) = a.toNat + 256 * b.toNat := by unfold NZ; rw [N32_sm2]; omega
theorem N32_smL (a : Int) : N32 (smL a) = a := by simp [N32, val, smL]
theorem NZ_smL (a : Int) : NZ (smL a) = a.toNat := by unfold NZ; rw [N32_smL]
theorem build0_run (w : World) : (Instr.build 22 #[]).run Tryd.prog w = .ok (.agg (FR .u8 32 fun _ => 0)) w := by kernel_rfl
theorem build1_run (a : Int) (w : World) : (Instr.build 22 #[(0, .int .u8 a)]).run Tryd.prog w = .ok (.agg (FR .u8 32 (smL a))) w := by kernel_rfl
theorem build2_run (a b : Int) (w : World) : (Instr.build 22 #[(0, .int .u8 a), (1, .int .u8 b)]).run Tryd.prog w = .ok (.agg (FR .u8 32 (sm2 a b))) w := by kernel_rfl
theorem eqbool_run (a b : Bool) {r : Bool} (h : (a == b) = r) (w : World) (p q : Operand) : (do eqGuard .eql 4 p q (.bool a) (.bool b); binOp .eql 4 (.bool a) (.bool b) : Sem Value).run Tryd.prog w = .ok (.bool r) w := by subst h; go_simp
theorem idx_run {f : Nat → Int} {k : Nat} {z : Int} (hk : k < 32) (h : f k = z) (w : World) : (Instr.index 22 (.agg (FR .u8 32 f)) (.int .i64 (k : Int))).run Tryd.prog w = .ok (.int .u8 z) w := by
  rw [← h]; exact run_index_FR Tryd.underlying22 Tryd.underlying5 Fd.info5s f k hk w
end Go.Proofs.YtaaipbhfikefaaaDoor.P
end

section
namespace Go.Proofs.YtaaipbhfikefaaaDoor.P
set_option linter.unusedVariables false
open Go.Proofs.YtaaipbhfikefaaaDoor.P.Fd
theorem xor128 (x : Int) (h : 0 ≤ x ∧ x < 256) : Go.bits .xor .u8 x 128 = if 128 ≤ x then x - 128 else x + 128 := by
  have hx : ∀ n : Fin 256, Go.bits .xor .u8 (n.val : Int) 128 = if 128 ≤ (n.val : Int) then (n.val : Int) - 128 else (n.val : Int) + 128 := by decide +kernel
  have := hx ⟨x.toNat, by omega⟩
  simp only [Int.toNat_of_nonneg h.1] at this
  exact this
def flipB (f : Nat → Int) : Nat → Int := upd f 31 (if 128 ≤ f 31 then f 31 - 128 else f 31 + 128)
theorem flipB_By {f : Nat → Int} (h : By f) : By (flipB f) := fun j hj => by
  have h31 := h 31 (by decide)
  unfold flipB upd
  split
  · split <;> omega
  · exact h j hj
theorem flip_31 (f : Nat → Int) : flipB f 31 = if 128 ≤ f 31 then f 31 - 128 else f 31 + 128 := by unfold flipB upd; rw [if_pos rfl]
theorem flip_lo (f : Nat → Int) {j : Nat} (h : j ≠ 31) : flipB f j = f j := by unfold flipB upd; rw [if_neg h]
theorem ptB_flip {P : Pt dF} (h : P.1.1 ≠ 0) : ∀ j, j < 32 → ptB P.neg j = flipB (ptB P) j := by
  intro j hj
  have ho : (P.neg.1.1.val % 2 = 1) ↔ ¬ P.1.1.val % 2 = 1 := neg_odd h
  by_cases e : j = 31
  · subst e
    rw [flip_31, ptB_31, ptB_31]
    have ht := top_lt P.1.2
    have e2 : P.neg.1.2 = P.1.2 := rfl
    rw [e2]
    generalize dig 256 (P.1.2.val : Int) 31 = u at *
    by_cases c : P.1.1.val % 2 = 1
    · rw [if_pos c, if_neg (fun d => ho.1 d c), if_pos (by omega)]; omega
    · rw [if_neg c, if_pos (ho.2 c), if_neg (by omega)]
  · rw [flip_lo _ e, ptB_lo _ e, ptB_lo _ e]; rfl
theorem neg_self {P : Pt dF} (h : P.1.1 = 0) : P.neg = P := Pt.ext (by show -P.1.1 = P.1.1; rw [h]; exact (by decide : -(0 : Fin PN) = 0)) rfl
theorem self_neg {P : Pt dF} (h : P.neg = P) : P.1.1 = 0 := by
  have e : -P.1.1 = P.1.1 := congrArg (fun Q : Pt dF => Q.1.1) h
  generalize P.1.1 = x at e
  have e2 : (2 : Fin PN) * x = 0 := by grind
  rcases fld.dom e2 with c | c
  · exact absurd c fld.two
  · exact c
/-- Bytes of a point whose x isn't 0, with the other bit, are the opposite's. -/
theorem flip_dec {b c : Nat → Int} (hb : By b) (hc : By c) (hbc : ∀ j, j < 32 → c j = flipB b j) (ok : decOk b = true) {P : Pt dF} (hP : decPt b hb ok = P) (h : P.1.1 ≠ 0) : ∃ okc : decOk c = true, decPt c hc okc = P.neg := by
  refine dec_of hc (fun j hj => ?_)
  rw [hbc j hj, ptB_flip h j hj]
  have hB := dec_bytes hb ok
  rw [hP] at hB
  by_cases e : j = 31
  · subst e; rw [flip_31, flip_31, hB 31 (by decide)]
  · rw [flip_lo _ e, flip_lo _ e, hB j hj]
theorem flip_flip {b c : Nat → Int} (hb : By b) (hbc : ∀ j, j < 32 → c j = flipB b j) : ∀ j, j < 32 → b j = flipB c j := by
  intro j hj
  have h31 := hb 31 (by decide)
  by_cases e : j = 31
  · subst e
    rw [flip_31, hbc 31 (by decide), flip_31]
    by_cases c1 : 128 ≤ b 31
    · rw [if_pos c1, if_neg (by omega)]; omega
    · rw [if_neg c1, if_pos (by omega)]; omega
  · rw [flip_lo _ e, hbc j hj, flip_lo _ e]
/-- One of both is nobody's: a point that reads from the other has x = 0. -/
theorem signs1 {b c : Nat → Int} (hb : By b) (hc : By c) (hbc : ∀ j, j < 32 → c j = flipB b j) (nb : decOk b = false) (oc : decOk c = true) {P : Pt dF} (hP : decPt c hc oc = P) : P.neg = P := by
  refine neg_self (Classical.byContradiction fun h => ?_)
  obtain ⟨ok, _⟩ := flip_dec hc hb (flip_flip hb hbc) oc hP h
  rw [nb] at ok
  exact absurd ok (by decide)
theorem zero_even {P : Pt dF} (h : P.1.1 = 0) : ptB P 31 < 128 := by
  have ht := top_lt P.1.2
  rw [ptB_31, if_neg (by rw [h]; decide)]
  exact ht.2
theorem signs2 {b c : Nat → Int} (hb : By b) (hc : By c) (hbc : ∀ j, j < 32 → c j = flipB b j) (ob : decOk b = true) {P : Pt dF} (hP : decPt b hb ob = P) (h : P.neg = P) : decOk c = false := by
  have h0 := self_neg h
  cases oc : decOk c with
  | false => rfl
  | true =>
    exfalso
    obtain ⟨Q, hQ⟩ : ∃ Q, decPt c hc oc = Q := ⟨_, rfl⟩
    by_cases q0 : Q.1.1 = 0
    · have h1 := zero_even h0
      have h2 := zero_even q0
      have e1 := dec_bytes hb ob 31 (by decide)
      have e2 := dec_bytes hc oc 31 (by decide)
      rw [hP] at e1
      rw [hQ] at e2
      have e3 := hbc 31 (by decide)
      rw [flip_31] at e3
      rw [e1] at h1
      rw [e2, e3, if_neg (by omega)] at h2
      have := hb 31 (by decide)
      omega
    · obtain ⟨ok, e⟩ := flip_dec hc hb (flip_flip hb hbc) oc hQ q0
      have : P = Q.neg := hP.symm.trans e
      have e2 : P.1.1 = -Q.1.1 := congrArg (fun Q : Pt dF => Q.1.1) this
      rw [h0] at e2
      apply q0
      generalize Q.1.1 = x at e2
      grind
theorem signs3 {b c : Nat → Int} (hb : By b) (hc : By c) (hbc : ∀ j, j < 32 → c j = flipB b j) (ob : decOk b = true) {P : Pt dF} (hP : decPt b hb ob = P) (h : ¬ P.neg = P) : ∃ okc : decOk c = true, decPt c hc okc = P.neg :=
  flip_dec hb hc hbc ob hP (fun e => h (neg_self e))
end Go.Proofs.YtaaipbhfikefaaaDoor.P
end
