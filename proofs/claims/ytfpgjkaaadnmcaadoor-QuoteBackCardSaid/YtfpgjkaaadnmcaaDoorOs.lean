/- append of a string's bytes (of no program). -/
import Derived.Test.YtfpgjkaaadnmcaaDoorOw
namespace Go.Proofs.YtfpgjkaaadnmcaaDoor.P
set_option linter.unusedVariables false
set_option linter.unusedSimpArgs false
open Go.RowKit
section
variable {e : TypeId} {k : IntKind} {w w' : World} {base n m : Nat} {v : Value} {z z' y : Nat → Int}
/-- append, of whatever reads as numbers (a string's bytes). -/
theorem run_append_T {P : Program} {t ty : TypeId} {i : TypeInfo} {d : Value} {bytes : Nat} (ht : P.underlying t = some (.slice e)) (hi : P.info? e = some i) (hz : i.zero = some d) (hs1 : i.size = 1) (hby : i.bytes = bytes) (hzs : d.cells.size = 1)
    (ho : OwnS e k w base v n z) {x : Value} {tx : TypeId} (hsrc0 : Src P 1 tx x m ((List.range m).map fun j => Value.int k (y j)) w) (hm0 : 0 < m) (h63 : n + m ≤ maxLen) (hbytes : (n + m) * bytes ≤ 140737488355328) (hbase : base ≤ w.heap.size) :
    ∃ v' w', (Builtin.append_ #[t, tx] ty #[v, x]).run P w = .ok v' w' ∧ OwnS e k w' base v' (n + m) (fun j => if j < n then z j else y (j - n)) ∧ w.grownBy w' v.ownBlock ∧ (v'.ownBlock = v.ownBlock ∨ v'.ownBlock = some w.heap.size) ∧ (0 < n + m → v'.ownBlock ≠ none) ∧ (∀ g o cap, v = .slice (some ⟨g, o, none⟩) n cap → ∀ j, j < n → w'.cell? ⟨g, o + j, none⟩ = some (.int k (z j))) := by
  subst hby
  have hsrc : Src P i.size tx x m ((List.range m).map fun j => Value.int k (y j)) w := by rw [hs1]; exact hsrc0
  have hmax : ∀ x, x ≤ maxLen → ((x : Nat) : Int) ≤ 9223372036854775807 := fun x h => by simp only [maxLen] at h; omega
  rcases ho with ⟨rfl, rfl⟩ | ⟨g, o, cap, cur, rfl, hb, hg, hn2, hx2, hs, hcur⟩
  · by_cases hm : m = 0
    · omega
    · have hr := run_append_grow_src (P := P) w t tx ty e i d ht hi hz none 0 0 [] (run_firstCells_none w.drew i.size 0 0 0) _ m _ hsrc (by omega) (hmax _ h63) (growslice_fits (by omega) hbytes)
      have hge := grownCap_ge w (0 + m) 0 e
      have hcm := grownCap_le_maxLen w (0 + m) 0 e h63
      refine ⟨_, _, hr, .inr ⟨w.heap.size, 0, _, _, rfl, hbase, heap_alloc_new w.drew _, hge, hcm, ?_, fun j hj => ?_⟩, ⟨rfl, rfl, rfl, by simp, fun b hb2 _ => Below.heap_alloc w.drew _ b hb2⟩, .inr rfl, (fun _ => by simp [Value.ownBlock]), fun _ _ _ h => by cases h⟩
      · simp only [Array.size_append, List.size_toArray, size_zeroCells, hzs, List.length_append, List.length_nil, List.length_map, List.length_range]
        omega
      · rw [Nat.zero_add, Array.getElem?_append_left (by simp; omega), List.getElem?_toArray, List.nil_append, numsList, if_pos (by omega), Nat.zero_add]
        simp
  · by_cases hroom : n + m ≤ cap
    · have hcell : ∀ j, j < m → (w.cell? ⟨g, o + n + j, none⟩).isSome = true := fun j hj => by
        rw [cell_of_row w g _ cur _ _ hg, Array.getElem?_eq_getElem (by omega)]; rfl
      have hr := run_append_room_src (P := P) w t tx ty e i ht hi g o n cap _ m _ hsrc hroom (by intro j hj; rw [hs1, Nat.mul_one]; exact hcell j (by simpa using hj)) (by intro j hj; exact frozen_of_row w g _ cur _ hg)
      rw [hs1, Nat.mul_one] at hr
      refine ⟨_, _, hr, .inr ⟨g, o, cap, _, rfl, hb, setCells_row _ (o + n) w cur hg, hroom, hx2, by rw [putA_size]; exact hs, fun j hj => ?_⟩, ⟨?_, ?_, ?_, by rw [setCells_size]; exact Nat.le_refl _, fun b _ hb2 => setCells_other (fun h => hb2 (by rw [h]; rfl)) _ _ w⟩, .inl rfl, (fun _ => by simp [Value.ownBlock]), fun g' o' cap' h j hj => by
        cases h
        rw [cell_of_row _ g (o + j) _ _ _ (setCells_row _ (o + n) w cur hg), putA_get _ _ _ _ (by simp; omega), if_neg (by omega)]
        exact hcur j hj⟩
      · rw [putA_get _ _ _ _ (by simp; omega)]
        show _ = some (Value.int k (if j < n then z j else y (j - n)))
        by_cases hjn : j < n
        · rw [if_neg (by omega), if_pos hjn]; exact hcur j hjn
        · rw [if_pos (by simp; omega), if_neg hjn, numsList, show o + j - (o + n) = j - n by omega, if_pos (by omega)]
      · exact (bel_setCells (Nat.le_refl g) _ _ w (Below.refl g w)).os
      · exact (bel_setCells (Nat.le_refl g) _ _ w (Below.refl g w)).tape
      · exact (bel_setCells (Nat.le_refl g) _ _ w (Below.refl g w)).output
    · have hr := run_append_grow_src (P := P) w t tx ty e i d ht hi hz (some ⟨g, o, none⟩) n cap ((List.range n).map fun j => Value.int k (z j)) (run_firstCells_some w.drew i.size n ⟨g, o, none⟩ n cap _ (by simp [hs1]) (fun j u hu => by
        rw [numsList] at hu
        by_cases hj : j < n
        · rw [if_pos hj] at hu
          rw [show (⟨g, o, none⟩ : Addr).add j = ⟨g, o + j, none⟩ from Addr.add_lit .., ← hu, ← hcur j hj]
          exact cell_of_row w.drew g (o + j) cur _ _ hg
        · rw [if_neg hj] at hu; cases hu)) _ m _ hsrc (by omega) (hmax _ h63) (growslice_fits (by omega) hbytes)
      have hge := grownCap_ge w (n + m) cap e
      have hcm := grownCap_le_maxLen w (n + m) cap e h63
      refine ⟨_, _, hr, .inr ⟨w.heap.size, 0, _, _, rfl, hbase, heap_alloc_new w.drew _, hge, hcm, ?_, fun j hj => ?_⟩, ⟨rfl, rfl, rfl, by simp, fun b hb2 _ => Below.heap_alloc w.drew _ b hb2⟩, .inr rfl, (fun _ => by simp [Value.ownBlock]), fun g' o' cap' h j hj => by
        cases h
        rw [← hcur j hj, ← cell_of_row w g (o + j) cur _ _ hg]
        exact World.cell?_of_block (Below.heap_alloc w.drew _ g (Array.getElem?_eq_some_iff.1 hg).1)⟩
      · simp only [Array.size_append, List.size_toArray, size_zeroCells, hzs, List.length_append, List.length_map, List.length_range]
        omega
      · rw [Nat.zero_add, Array.getElem?_append_left (by simp; omega), List.getElem?_toArray]
        show _ = some (Value.int k (if j < n then z j else y (j - n)))
        by_cases hjn : j < n
        · rw [List.getElem?_append_left (by simpa using hjn), numsList, if_pos hjn, if_pos hjn]
        · rw [List.getElem?_append_right (by simpa using hjn), numsList, if_neg hjn]
          simp only [List.length_map, List.length_range]
          rw [if_pos (by omega)]
end
/-- The same, for the walk. -/
theorem step_append_T {P : Program} {ops : Array Oper} {rest : List Oper} {o : Oper} {a : Act} {w : World} {Q : Exit → Act → World → Prop} {e : TypeId} {k : IntKind} {base n m : Nat} {v : Value} {z y : Nat → Int} {t : TypeId} {d : Value} {bytes : Nat} {s x : Operand} {xv : Value} {tx : TypeId}
    (ho : OwnS e k w base v n z) (hsrc : Src P 1 tx xv m ((List.range m).map fun j => Value.int k (y j)) w) (hm0 : 0 < m) (ht : P.underlying t = some (.slice e)) (hi : (P.info? e).map (fun i => (i.zero, i.size, i.bytes)) = some (some d, 1, bytes)) (hzs : d.cells.size = 1)
    (hgd : o.guard = none) (hop : o.op = .call { callee := .builtin .append, args := #[s, x], argTypes := #[t, tx] }) (hs : a.eval s = v) (hx2 : a.eval x = xv)
    (h63 : n + m ≤ maxLen) (hbytes : (n + m) * bytes ≤ 140737488355328) (hbase : base ≤ w.heap.size)
    (h : ∀ v' w', OwnS e k w' base v' (n + m) (fun j => if j < n then z j else y (j - n)) → w.grownBy w' v.ownBlock → (v'.ownBlock = v.ownBlock ∨ v'.ownBlock = some w.heap.size) → (0 < n + m → v'.ownBlock ≠ none) → wpList P ops Q rest (a.put o.dst v') w') : wpList P ops Q (o :: rest) a w := by
  obtain ⟨ix, hinf, hx1, h2, hx3⟩ := info_parts hi
  refine wpList_plain hgd fun K hK => ?_
  obtain ⟨v', w', hr, h3, h4, h5, h6, _⟩ := run_append_T (P := P) (ty := o.type) ht hinf hx1 h2 hx3 hzs ho hsrc hm0 h63 hbytes hbase
  unfold Oper.wp execOp
  simp only [hop, resolve, invoke, builtin, Sem.run_bind, Sem.run_pure, Result.andThen_ok, List.map_toArray, List.map_cons, List.map_nil, hs, hx2, hr]
  exact hK _ _ (h v' w' h3 h4 h5 h6)
end Go.Proofs.YtfpgjkaaadnmcaaDoor.P
