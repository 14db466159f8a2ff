/- A slice of arrays of numbers as an argument. -/
import Derived.Test.YthonoagpiofojaaU2
import Derived.ChangeSlices
namespace Go.Proofs.Ythonoagpiofojaa.P
set_option linter.unusedVariables false
set_option linter.unusedSimpArgs false
open Go.RowKit Go.ChangeShapes Go.WideShapes
section
variable {H : Type} {enc : TypeId × Value → H} {P : Program} {t e q : TypeId} {n : Nat} {k : IntKind} {W : World} {base : Nat} {sp : Nat → Bool} {held : Bool}
/-- Each of len elements is an array of n numbers. -/
def IsArrs (k : IntKind) (n : Nat) (w : World) (a : Option Addr) (len : Nat) (F : Nat → Nat → Int) : Prop :=
  ∀ i, i < len → ∃ x, a = some x ∧ ∀ j, j < n → w.cell? ((x.add (i * n)).add j) = some (.int k (F i j)) ∧ (Lit.int k (F i j)).wf = true
theorem trod_array_cells (ht : P.underlying e = some (.array n q)) (he : P.underlying q = some (.int k)) (hce : P.cellsOf q = 1) (hct : P.cellsOf e = n) {m : Nat} {cs : List Value} {y : DataW H × List MemPlace}
    (hf : DataW.trod enc P W base sp held m e cs = some y) : cs.length = n ∧ ∀ j, j < n → cs[j]? = some (.int k (cellInt cs j)) ∧ (Lit.int k (cellInt cs j)).wf = true := by
  cases m with
  | zero => simp [DataW.trod] at hf
  | succ m =>
    rw [DataW.trod_step] at hf
    unfold DataW.trodStep at hf
    simp only [ht, hce] at hf
    split at hf
    · rename_i hn
      simp only [Option.map_eq_some_iff] at hf
      obtain ⟨ys, hy, e1⟩ := hf
      obtain ⟨rfl, hl⟩ := mapM_open he _ ys hy
      exact ⟨by rw [← hct]; simpa using hn, fun j hj => hl j (List.mem_range.2 hj)⟩
    · cases hf
theorem open_arrays (hts : P.underlying t = some (.slice e)) (ht : P.underlying e = some (.array n q)) (he : P.underlying q = some (.int k)) (hce : P.cellsOf q = 1) (hct : P.cellsOf e = n) {a : Option Addr} {len cap : Nat} {d : DataW H} {ps : List MemPlace}
    (hd : DataW.Trod enc P W base sp held t (.slice a len cap) d ps) : ∃ F : Nat → Nat → Int, IsArrs k n W a len F := by
  obtain ⟨fuel, hf⟩ := hd
  rcases DataW.trod_slice hts hf with ⟨h0, _⟩ | ⟨x, l, c, elems, rest, m, _, hcs, _, hb, hl, hm, hlen, hel, _⟩
  · simp [Value.cells] at h0
    obtain ⟨rfl, rfl, rfl⟩ := h0
    exact ⟨fun _ _ => 0, fun i hi => absurd hi (by omega)⟩
  · simp [Value.cells] at hcs
    obtain ⟨rfl, rfl, rfl⟩ := hcs
    have each : ∀ i, i < len → ∃ cs : List Value, W.cells? base (x.add (i * P.cellsOf e)) (P.cellsOf e) = some cs ∧ cs.length = n ∧ ∀ j, j < n → cs[j]? = some (.int k (cellInt cs j)) ∧ (Lit.int k (cellInt cs j)).wf = true := by
      intro i hi
      have h := hel i hi
      have hs : elems[i]? = some (elems[i]'(by omega)) := List.getElem?_eq_getElem (by omega)
      rw [hs, Option.bind_eq_some_iff] at h
      obtain ⟨cs, h1, h2⟩ := h
      exact ⟨cs, h1, trod_array_cells ht he hce hct h2⟩
    refine ⟨fun i j => if h : i < len then cellInt (Classical.choose (each i h)) j else 0, fun i hi => ⟨x, rfl, fun j hj => ?_⟩⟩
    have hc := Classical.choose_spec (each i hi)
    simp only [dif_pos hi]
    generalize Classical.choose (each i hi) = cs at *
    obtain ⟨h1, h2, h3⟩ := hc
    refine ⟨?_, (h3 j hj).2⟩
    rw [hct] at h1
    have h4 := World.cells?_some h1
    rw [h4.2.2 j hj]
    exact (h3 j hj).1
end
end Go.Proofs.Ythonoagpiofojaa.P
