/- An array of numbers as an argument: taken apart, and put together. -/
import Derived.Test.YthonoagpiofojaaR0
import Derived.WideKeyArr2
namespace Go.Proofs.Ythonoagpiofojaa.P
set_option linter.unusedVariables false
set_option linter.unusedSimpArgs false
open Go.RowKit Go.ChangeShapes Go.WideShapes
section
variable {H : Type} {enc : TypeId × Value → H} {P : Program} {t e : TypeId} {n : Nat} {q : IntKind} {W : World} {base : Nat} {sp : Nat → Bool} {held : Bool}
/-- The number in a cell. -/
def cellInt (cs : List Value) (i : Nat) : Int := match cs[i]? with
  | some v => intOf v
  | none => 0
theorem drop_take_one {cs : List Value} {i : Nat} {v : Value} (h : (cs.drop i).take 1 = [v]) : cs[i]? = some v := by
  have h2 := congrArg (fun l => l[0]?) h
  simpa [List.getElem?_take, List.getElem?_drop] using h2
theorem take_drop_one {cs : List Value} {i : Nat} {v : Value} (h : cs[i]? = some v) : (cs.drop i).take 1 = [v] := by
  obtain ⟨hi, hv⟩ := List.getElem?_eq_some_iff.1 h
  rw [List.drop_eq_getElem_cons hi, hv]; rfl
theorem mapM_open (he : P.underlying e = some (.int q)) {m : Nat} {cs : List Value} : ∀ (L : List Nat) (xs : List (DataW H × List MemPlace)),
    L.mapM (fun i => DataW.trod enc P W base sp held m e ((cs.drop (i * 1)).take 1)) = some xs →
    xs = L.map (fun i => (.lit (.int q (cellInt cs i)), [])) ∧ ∀ i ∈ L, cs[i]? = some (.int q (cellInt cs i)) ∧ (Lit.int q (cellInt cs i)).wf = true
  | [], xs, h => by
    simp at h
    subst h
    exact ⟨rfl, by simp⟩
  | i :: L, xs, h => by
    rw [List.mapM_cons] at h
    simp only [bind, Option.bind_eq_some_iff, pure, Option.some.injEq] at h
    obtain ⟨y, hy, ys, hys, rfl⟩ := h
    obtain ⟨rfl, hl⟩ := mapM_open he L ys hys
    obtain ⟨a, ea, rfl, wa⟩ := DataW.trod_int he hy
    rw [Nat.mul_one] at ea
    have hc := drop_take_one ea
    have hi : cellInt cs i = a := by unfold cellInt; rw [hc]; rfl
    rw [← hi] at hc wa ⊢
    refine ⟨rfl, fun j hj => ?_⟩
    rcases List.mem_cons.1 hj with rfl | hj
    · exact ⟨hc, wa⟩
    · exact hl j hj
theorem mapM_shut (he : P.underlying e = some (.int q)) {m : Nat} {cs : List Value} (f : Nat → Int) : ∀ (L : List Nat), (∀ i ∈ L, cs[i]? = some (.int q (f i)) ∧ (Lit.int q (f i)).wf = true) →
    L.mapM (fun i => DataW.trod enc P W base sp held (m + 1) e ((cs.drop (i * 1)).take 1)) = some (L.map (fun i => (.lit (.int q (f i)), [])))
  | [], _ => by simp
  | i :: L, h => by
    have ih := mapM_shut he (m := m) f L (fun j hj => h j (by simp [hj]))
    have hi := h i (by simp)
    have e1 := take_drop_one hi.1
    have h1 : DataW.trod enc P W base sp held (m + 1) e [.int q (f i)] = some (.lit (.int q (f i)), []) := by
      rw [DataW.trod_step]
      unfold DataW.trodStep
      simp [he, hi.2]
    rw [List.mapM_cons, ih, Nat.mul_one, e1, h1]
    rfl
theorem open_array (ht : P.underlying t = some (.array n e)) (he : P.underlying e = some (.int q)) (hce : P.cellsOf e = 1) (hct : P.cellsOf t = n) {r : Reach} {b0 : Nat} {v : Value} (hval : Value.okWide P W r b0 t v) {d : DataW H} {ps : List MemPlace} (hd : DataW.Trod enc P W base sp held t v d ps) :
    ∃ f : Nat → Int, v = .agg (FR q n f) ∧ d = .agg ((List.range n).map fun i => .lit (.int q (f i))) ∧ ps = [] ∧ ∀ i, i < n → (Lit.int q (f i)).wf = true := by
  obtain ⟨cs, rfl⟩ : ∃ cs : Array Value, v = .agg cs := by
    simp only [Value.okWide, ht] at hval
    obtain ⟨cs, h1, _⟩ := hval
    exact ⟨cs, h1⟩
  obtain ⟨fuel, hf⟩ := hd
  cases fuel with
  | zero => simp [DataW.trod] at hf
  | succ m =>
    rw [DataW.trod_step] at hf
    unfold DataW.trodStep at hf
    simp only [ht, Value.cells, hce] at hf
    split at hf
    · rename_i hn
      simp only [Option.map_eq_some_iff] at hf
      obtain ⟨ys, hy, e1⟩ := hf
      obtain ⟨rfl, hl⟩ := mapM_open he _ ys hy
      simp only [Prod.mk.injEq] at e1
      have hsz : cs.size = n := by rw [← hct]; simpa using hn
      refine ⟨cellInt cs.toList, ?_, ?_, ?_, fun i hi => (hl i (List.mem_range.2 hi)).2⟩
      · congr 1
        apply Array.ext_getElem?
        intro i
        by_cases hi : i < n
        · have h2 := (hl i (List.mem_range.2 hi)).1
          rw [FR_at _ _ _ _ hi, ← h2]
          simp
        · rw [FR_out _ _ _ _ hi]
          exact Array.getElem?_eq_none (by omega)
      · rw [← e1.1]; simp [Function.comp_def]
      · rw [← e1.2]; simp [List.flatMap_eq_nil_iff]
    · cases hf
theorem shut_array (ht : P.underlying t = some (.array n e)) (he : P.underlying e = some (.int q)) (hce : P.cellsOf e = 1) (hct : P.cellsOf t = n) (f : Nat → Int) (hw : ∀ i, i < n → (Lit.int q (f i)).wf = true) :
    DataW.Trod enc P W base sp held t (.agg (FR q n f)) (.agg ((List.range n).map fun i => .lit (.int q (f i)))) [] := by
  refine ⟨0 + 1 + 1, ?_⟩
  rw [DataW.trod_step]
  unfold DataW.trodStep
  simp only [ht, Value.cells, hce]
  rw [if_pos (by rw [Array.length_toList, FR_size, hct])]
  rw [mapM_shut (enc := enc) (W := W) (base := base) (sp := sp) (held := held) he f (List.range n) (fun i hi => ⟨by rw [Array.getElem?_toList, FR_at _ _ _ _ (List.mem_range.1 hi)], hw i (List.mem_range.1 hi)⟩)]
  simp [Function.comp_def, List.flatMap_eq_nil_iff]
end
end Go.Proofs.Ythonoagpiofojaa.P
