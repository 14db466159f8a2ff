/- Slices into rows of the call's own, at any place of the row: append (of no program). -/
import Derived.Test.YtfpgjkaaadnmcaaDoorBas
import Derived.Deep.AppendSrc
import Derived.Deep.RegionHeld3
namespace Go.Proofs.YtfpgjkaaadnmcaaDoor.P
set_option linter.unusedVariables false
set_option linter.unusedSimpArgs false
open Go.RowKit
/-- m numbers behind an address. -/
def NumsAt (k : IntKind) (w : World) (a : Option Addr) (m : Nat) (z : Nat → Int) : Prop := (a = none ∧ m = 0) ∨ ∃ x, a = some x ∧ ∀ j, j < m → w.cell? (x.add j) = some (.int k (z j))
/-- A slice of n numbers in a row that the call made (blocks from base on). -/
def OwnS (e : TypeId) (k : IntKind) (w : World) (base : Nat) (v : Value) (n : Nat) (z : Nat → Int) : Prop :=
  (v = .slice none 0 0 ∧ n = 0) ∨ ∃ g o cap cur, v = .slice (some ⟨g, o, none⟩) n cap ∧ base ≤ g ∧ w.heap[g]? = some (.cells cur e (0, 0)) ∧ n ≤ cap ∧ cap ≤ maxLen ∧ o + cap ≤ cur.size ∧ ∀ j, j < n → cur[o + j]? = some (.int k (z j))
section
variable {e : TypeId} {k : IntKind} {w w' : World} {base n m : Nat} {v : Value} {z z' y : Nat → Int}
theorem OwnS.nil (w : World) (base : Nat) (z : Nat → Int) : OwnS e k w base (.slice none 0 0) 0 z := .inl ⟨rfl, rfl⟩
theorem OwnS.congr (h : OwnS e k w base v n z) (he : ∀ j, j < n → z j = z' j) : OwnS e k w base v n z' := by
  rcases h with h | ⟨g, o, cap, cur, h1, h2, h3, h4, h5, h6, h7⟩
  · exact .inl h
  · exact .inr ⟨g, o, cap, cur, h1, h2, h3, h4, h5, h6, fun j hj => by rw [← he j hj]; exact h7 j hj⟩
theorem OwnS.low {base' : Nat} (h : OwnS e k w base v n z) (hb : base' ≤ base) : OwnS e k w base' v n z := by
  rcases h with h | ⟨g, o, cap, cur, h1, h2, h3⟩
  · exact .inl h
  · exact .inr ⟨g, o, cap, cur, h1, by omega, h3⟩
theorem OwnS.lt (h : OwnS e k w base v n z) : ∀ b, v.ownBlock = some b → base ≤ b ∧ b < w.heap.size := by
  intro b hb
  rcases h with ⟨rfl, _⟩ | ⟨g, o, cap, cur, rfl, h2, h3, _⟩
  · cases hb
  · cases hb; exact ⟨h2, (Array.getElem?_eq_some_iff.1 h3).1⟩
theorem OwnS.keep (h : OwnS e k w base v n z) (hk : ∀ b, v.ownBlock = some b → w'.heap[b]? = w.heap[b]?) : OwnS e k w' base v n z := by
  rcases h with h | ⟨g, o, cap, cur, rfl, h2, h3, h4⟩
  · exact .inl h
  · exact .inr ⟨g, o, cap, cur, rfl, h2, (hk g rfl).trans h3, h4⟩
theorem OwnS.alloc (h : OwnS e k w base v n z) (o : Obj) : OwnS e k (w.alloc o) base v n z := h.keep fun b hb => Below.heap_alloc w o b (h.lt b hb).2
theorem OwnS.below (h : OwnS e k w base v n z) {B : Nat} (hb : Below B w w') (hB : ∀ b, v.ownBlock = some b → b < B) : OwnS e k w' base v n z := h.keep fun b hv => hb.block b (hB b hv)
theorem OwnS.numsAt (h : OwnS e k w base v n z) : ∃ a c, v = .slice a n c ∧ NumsAt k w a n z ∧ (a = none → c = 0) := by
  rcases h with ⟨rfl, rfl⟩ | ⟨g, o, cap, cur, rfl, hb, hg, hn, hm, hs, ht⟩
  · exact ⟨none, 0, rfl, .inl ⟨rfl, rfl⟩, fun _ => rfl⟩
  · refine ⟨_, cap, rfl, .inr ⟨_, rfl, fun j hj => ?_⟩, fun e => by cases e⟩
    rw [show (⟨g, o, none⟩ : Addr).add j = ⟨g, o + j, none⟩ from Addr.add_lit .., cell_of_row w g (o + j) cur _ _ hg]
    exact ht j hj
theorem OwnS.open (h : OwnS e k w base v n z) (hn : 0 < n) : ∃ g o cap, v = .slice (some ⟨g, o, none⟩) n cap ∧ n ≤ cap ∧ base ≤ g ∧ g < w.heap.size ∧ (∀ j, j < n → w.cell? ⟨g, o + j, none⟩ = some (.int k (z j))) ∧ (∀ j, w.frozen? ⟨g, j, none⟩ = false) ∧ ∃ cur, w.heap[g]? = some (.cells cur e (0, 0)) := by
  rcases h with ⟨_, h0⟩ | ⟨g, o, cap, cur, rfl, hb, hg, hn2, hm, hs, ht⟩
  · omega
  · exact ⟨g, o, cap, rfl, hn2, hb, (Array.getElem?_eq_some_iff.1 hg).1, fun j hj => by rw [cell_of_row w g (o + j) cur _ _ hg]; exact ht j hj, fun j => frozen_of_row w g j cur _ hg, cur, hg⟩
/-- The slice behind its first m. -/
theorem OwnS.drop {g o cap : Nat} (h : OwnS e k w base (.slice (some ⟨g, o, none⟩) n cap) n z) (hm : m ≤ n) : OwnS e k w base (.slice (some ⟨g, o + m, none⟩) (n - m) (cap - m)) (n - m) (fun j => z (m + j)) := by
  rcases h with ⟨h, _⟩ | ⟨g', o', cap', cur, h1, hb, hg, hn2, hx, hs, ht⟩
  · cases h
  · cases h1
    exact .inr ⟨g, o + m, cap - m, cur, rfl, hb, hg, by omega, by omega, by omega, fun j hj => by rw [show o + m + j = o + (m + j) by omega]; exact ht (m + j) (by omega)⟩
/-- A store into one of its cells. -/
theorem OwnS.set {g o cap i : Nat} (h : OwnS e k w base (.slice (some ⟨g, o, none⟩) n cap) n z) (x : Int) (hi : i < n) : OwnS e k (w.setCell ⟨g, o + i, none⟩ (.int k x)) base (.slice (some ⟨g, o, none⟩) n cap) n (upd z i x) := by
  rcases h with ⟨h, _⟩ | ⟨g', o', cap', cur, h1, hb, hg, hn2, hx, hs, ht⟩
  · cases h
  · cases h1
    refine .inr ⟨g, o, cap, cur.setIfInBounds (o + i) (.int k x), rfl, hb, heap_setCell_same w g (o + i) cur _ _ hg, hn2, hx, by simpa using hs, fun j hj => ?_⟩
    by_cases hji : j = i
    · subst hji
      rw [Array.getElem?_setIfInBounds_self_of_lt (by omega), upd_same]
    · rw [Array.getElem?_setIfInBounds_ne (by omega), upd_other _ _ _ _ hji]
      exact ht j hj
theorem NumsAt.keep {a : Option Addr} (h : NumsAt k w a m z) (hk : ∀ x, a = some x → 0 < m → w'.heap[x.block]? = w.heap[x.block]?) : NumsAt k w' a m z := by
  rcases h with h | ⟨x, rfl, hc⟩
  · exact .inl h
  · exact .inr ⟨x, rfl, fun j hj => by
      have e : (x.add j).block = x.block := by unfold Addr.add; split <;> rfl
      rw [← hc j hj]; exact World.cell?_of_block (by rw [e]; exact hk x rfl (by omega))⟩
theorem numsList (k : IntKind) (m : Nat) (y : Nat → Int) (j : Nat) : ((List.range m).map fun j => Value.int k (y j))[j]? = if j < m then some (.int k (y j)) else none := by
  by_cases h : j < m
  · simp [h]
  · simp [h]
theorem OwnS.made (w : World) (n : Nat) (z : Nat → Int) (hb : base ≤ w.heap.size) (hn : n ≤ maxLen) : OwnS e k (w.alloc (.cells (FR k n z) e)) base (.slice (some ⟨w.heap.size, 0, none⟩) n n) n z :=
  .inr ⟨w.heap.size, 0, n, FR k n z, rfl, hb, heap_alloc_new w _, Nat.le_refl _, hn, by rw [FR_size]; omega, fun j hj => by rw [Nat.zero_add]; exact FR_at k n z j hj⟩
/-- append, of numbers behind an address. -/
theorem run_append_S {P : Program} {t ty : TypeId} {i : TypeInfo} {d : Value} {bytes : Nat} (ht : P.underlying t = some (.slice e)) (hi : P.info? e = some i) (hz : i.zero = some d) (hs1 : i.size = 1) (hby : i.bytes = bytes) (hzs : d.cells.size = 1)
    (ho : OwnS e k w base v n z) {a : Option Addr} {c : Nat} (hx : NumsAt k w a m y) (hn0 : a = none → c = 0) (h63 : n + m ≤ maxLen) (hbytes : (n + m) * bytes ≤ 140737488355328) (hbase : base ≤ w.heap.size) :
    ∃ v' w', (Builtin.append_ #[t, t] ty #[v, .slice a m c]).run P w = .ok v' w' ∧ OwnS e k w' base v' (n + m) (fun j => if j < n then z j else y (j - n)) ∧ w.grownBy w' v.ownBlock ∧ (v'.ownBlock = v.ownBlock ∨ v'.ownBlock = some w.heap.size) ∧ (0 < n + m → v'.ownBlock ≠ none) ∧ (∀ g o cap, v = .slice (some ⟨g, o, none⟩) n cap → ∀ j, j < n → w'.cell? ⟨g, o + j, none⟩ = some (.int k (z j))) := by
  subst hby
  have hsrc : Src P i.size t (.slice a m c) m ((List.range m).map fun j => Value.int k (y j)) w := by
    rcases hx with ⟨rfl, rfl⟩ | ⟨x, rfl, hc⟩
    · exact Src.ofNil w ht c
    · refine Src.ofSlice w ht x m c _ (by simp [hs1]) (fun j u hu => ?_) (by intro u hu; simp only [List.mem_map] at hu; obtain ⟨_, _, rfl⟩ := hu; rfl)
      rw [numsList] at hu
      by_cases hj : j < m
      · rw [if_pos hj] at hu; rw [hc j hj]; exact hu
      · rw [if_neg hj] at hu; cases hu
  have hmax : ∀ x, x ≤ maxLen → ((x : Nat) : Int) ≤ 9223372036854775807 := fun x h => by simp only [maxLen] at h; omega
  rcases ho with ⟨rfl, rfl⟩ | ⟨g, o, cap, cur, rfl, hb, hg, hn2, hx2, hs, hcur⟩
  · by_cases hm : m = 0
    · subst hm
      refine ⟨.slice none 0 0, w, ?_, .inl ⟨rfl, rfl⟩, ⟨rfl, rfl, rfl, Nat.le_refl _, fun _ _ _ => rfl⟩, .inl rfl, (fun h => by omega), fun _ _ _ h => by cases h⟩
      rcases hx with ⟨rfl, _⟩ | ⟨x, rfl, hc⟩
      · simp [Builtin.append_, run_underlying ht, sizeOf, typeInfo, hi, Builtin.lenOf, Builtin.firstCells]
      · simp [Builtin.append_, run_underlying ht, sizeOf, typeInfo, hi, Builtin.lenOf, Builtin.firstCells, loadCells, loadCellsFrom]
    · have hr := run_append_grow_src (P := P) w t t ty e i d ht hi hz none 0 0 [] (run_firstCells_none w.drew i.size 0 0 0) _ m _ hsrc (by omega) (hmax _ h63) (growslice_fits (by omega) hbytes)
      have hge := grownCap_ge w (0 + m) 0 e
      have hcm := grownCap_le_maxLen w (0 + m) 0 e h63
      refine ⟨_, _, hr, .inr ⟨w.heap.size, 0, _, _, rfl, hbase, heap_alloc_new w.drew _, hge, hcm, ?_, fun j hj => ?_⟩, ⟨rfl, rfl, rfl, by simp, fun b hb2 _ => Below.heap_alloc w.drew _ b hb2⟩, .inr rfl, (fun _ => by simp [Value.ownBlock]), fun _ _ _ h => by cases h⟩
      · simp only [Array.size_append, List.size_toArray, size_zeroCells, hzs, List.length_append, List.length_nil, List.length_map, List.length_range]
        omega
      · rw [Nat.zero_add, Array.getElem?_append_left (by simp; omega), List.getElem?_toArray, List.nil_append, numsList, if_pos (by omega), Nat.zero_add]
        simp
  · by_cases hroom : n + m ≤ cap
    · have hcell : ∀ j, j < m → (w.cell? ⟨g, o + n + j, none⟩).isSome = true := fun j hj => by
        rw [cell_of_row w g _ cur _ _ hg, Array.getElem?_eq_getElem (by omega)]; rfl
      have hr := run_append_room_src (P := P) w t t ty e i ht hi g o n cap _ m _ hsrc hroom (by intro j hj; rw [hs1, Nat.mul_one]; exact hcell j (by simpa using hj)) (by intro j hj; exact frozen_of_row w g _ cur _ hg)
      rw [hs1, Nat.mul_one] at hr
      refine ⟨_, _, hr, .inr ⟨g, o, cap, _, rfl, hb, setCells_row _ (o + n) w cur hg, hroom, hx2, by rw [putA_size]; exact hs, fun j hj => ?_⟩, ⟨?_, ?_, ?_, by rw [setCells_size]; exact Nat.le_refl _, fun b _ hb2 => setCells_other (fun h => hb2 (by rw [h]; rfl)) _ _ w⟩, .inl rfl, (fun _ => by simp [Value.ownBlock]), fun g' o' cap' h j hj => by
        cases h
        rw [cell_of_row _ g (o + j) _ _ _ (setCells_row _ (o + n) w cur hg), putA_get _ _ _ _ (by simp; omega), if_neg (by omega)]
        exact hcur j hj⟩
      · rw [putA_get _ _ _ _ (by simp; omega)]
        show _ = some (Value.int k (if j < n then z j else y (j - n)))
        by_cases hjn : j < n
        · rw [if_neg (by omega), if_pos hjn]; exact hcur j hjn
        · rw [if_pos (by simp; omega), if_neg hjn, numsList, show o + j - (o + n) = j - n by omega, if_pos (by omega)]
      · exact (bel_setCells (Nat.le_refl g) _ _ w (Below.refl g w)).os
      · exact (bel_setCells (Nat.le_refl g) _ _ w (Below.refl g w)).tape
      · exact (bel_setCells (Nat.le_refl g) _ _ w (Below.refl g w)).output
    · have hr := run_append_grow_src (P := P) w t t ty e i d ht hi hz (some ⟨g, o, none⟩) n cap ((List.range n).map fun j => Value.int k (z j)) (run_firstCells_some w.drew i.size n ⟨g, o, none⟩ n cap _ (by simp [hs1]) (fun j u hu => by
        rw [numsList] at hu
        by_cases hj : j < n
        · rw [if_pos hj] at hu
          rw [show (⟨g, o, none⟩ : Addr).add j = ⟨g, o + j, none⟩ from Addr.add_lit .., ← hu, ← hcur j hj]
          exact cell_of_row w.drew g (o + j) cur _ _ hg
        · rw [if_neg hj] at hu; cases hu)) _ m _ hsrc (by omega) (hmax _ h63) (growslice_fits (by omega) hbytes)
      have hge := grownCap_ge w (n + m) cap e
      have hcm := grownCap_le_maxLen w (n + m) cap e h63
      refine ⟨_, _, hr, .inr ⟨w.heap.size, 0, _, _, rfl, hbase, heap_alloc_new w.drew _, hge, hcm, ?_, fun j hj => ?_⟩, ⟨rfl, rfl, rfl, by simp, fun b hb2 _ => Below.heap_alloc w.drew _ b hb2⟩, .inr rfl, (fun _ => by simp [Value.ownBlock]), fun g' o' cap' h j hj => by
        cases h
        rw [← hcur j hj, ← cell_of_row w g (o + j) cur _ _ hg]
        exact World.cell?_of_block (Below.heap_alloc w.drew _ g (Array.getElem?_eq_some_iff.1 hg).1)⟩
      · simp only [Array.size_append, List.size_toArray, size_zeroCells, hzs, List.length_append, List.length_map, List.length_range]
        omega
      · rw [Nat.zero_add, Array.getElem?_append_left (by simp; omega), List.getElem?_toArray]
        show _ = some (Value.int k (if j < n then z j else y (j - n)))
        by_cases hjn : j < n
        · rw [List.getElem?_append_left (by simpa using hjn), numsList, if_pos hjn, if_pos hjn]
        · rw [List.getElem?_append_right (by simpa using hjn), numsList, if_neg hjn]
          simp only [List.length_map, List.length_range]
          rw [if_pos (by omega)]
end
/-- The same, for the walk. -/
theorem step_append {P : Program} {ops : Array Oper} {rest : List Oper} {o : Oper} {a : Act} {w : World} {Q : Exit → Act → World → Prop} {e : TypeId} {k : IntKind} {base n m : Nat} {v : Value} {z y : Nat → Int} {t : TypeId} {d : Value} {bytes : Nat} {s x : Operand} {ad : Option Addr} {c : Nat}
    (ho : OwnS e k w base v n z) (hx : NumsAt k w ad m y) (ht : P.underlying t = some (.slice e)) (hi : (P.info? e).map (fun i => (i.zero, i.size, i.bytes)) = some (some d, 1, bytes)) (hzs : d.cells.size = 1)
    (hgd : o.guard = none) (hop : o.op = .call { callee := .builtin .append, args := #[s, x], argTypes := #[t, t] }) (hs : a.eval s = v) (hx2 : a.eval x = .slice ad m c) (hn0 : ad = none → c = 0)
    (h63 : n + m ≤ maxLen) (hbytes : (n + m) * bytes ≤ 140737488355328) (hbase : base ≤ w.heap.size)
    (h : ∀ v' w', OwnS e k w' base v' (n + m) (fun j => if j < n then z j else y (j - n)) → w.grownBy w' v.ownBlock → (v'.ownBlock = v.ownBlock ∨ v'.ownBlock = some w.heap.size) → (0 < n + m → v'.ownBlock ≠ none) → wpList P ops Q rest (a.put o.dst v') w') : wpList P ops Q (o :: rest) a w := by
  obtain ⟨ix, hinf, hx1, h2, hx3⟩ := info_parts hi
  refine wpList_plain hgd fun K hK => ?_
  obtain ⟨v', w', hr, h3, h4, h5, h6, _⟩ := run_append_S (P := P) (ty := o.type) ht hinf hx1 h2 hx3 hzs ho hx hn0 h63 hbytes hbase
  unfold Oper.wp execOp
  simp only [hop, resolve, invoke, builtin, Sem.run_bind, Sem.run_pure, Result.andThen_ok, List.map_toArray, List.map_cons, List.map_nil, hs, hx2, hr]
  exact hK _ _ (h v' w' h3 h4 h5 h6)
/-- The same, in a region that draws its order. -/
theorem oper_append {P : Program} {ops : Array Oper} {o : Oper} {a : Act} {w : World} {K : Act → World → Prop} {Q : Exit → Act → World → Prop} {E : Prop} {e : TypeId} {k : IntKind} {base n m : Nat} {v : Value} {z y : Nat → Int} {t : TypeId} {d : Value} {bytes : Nat} {s x : Operand} {ad : Option Addr} {c : Nat}
    (ho : OwnS e k w base v n z) (hx : NumsAt k w ad m y) (ht : P.underlying t = some (.slice e)) (hi : (P.info? e).map (fun i => (i.zero, i.size, i.bytes)) = some (some d, 1, bytes)) (hzs : d.cells.size = 1)
    (hgd : o.guard = none) (hop : o.op = .call { callee := .builtin .append, args := #[s, x], argTypes := #[t, t] }) (hs : a.eval s = v) (hx2 : a.eval x = .slice ad m c) (hn0 : ad = none → c = 0)
    (h63 : n + m ≤ maxLen) (hbytes : (n + m) * bytes ≤ 140737488355328) (hbase : base ≤ w.heap.size)
    (h : ∀ v' w', OwnS e k w' base v' (n + m) (fun j => if j < n then z j else y (j - n)) → w.grownBy w' v.ownBlock → (v'.ownBlock = v.ownBlock ∨ v'.ownBlock = some w.heap.size) → (∀ g o cap, v = .slice (some ⟨g, o, none⟩) n cap → ∀ j, j < n → w'.cell? ⟨g, o + j, none⟩ = some (.int k (z j))) → K (a.put o.dst v') w') :
    if Region.wanted o (yielded ops a.tmps) = true then Oper.wp P o a w K Q else E := by
  obtain ⟨ix, hinf, hx1, h2, hx3⟩ := info_parts hi
  have hw : Region.wanted o (yielded ops a.tmps) = true := by simp [Region.wanted, hgd]
  rw [if_pos hw]
  obtain ⟨v', w', hr, h3, h4, h5, h6, h7⟩ := run_append_S (P := P) (ty := o.type) ht hinf hx1 h2 hx3 hzs ho hx hn0 h63 hbytes hbase
  unfold Oper.wp execOp
  simp only [hop, resolve, invoke, builtin, Sem.run_bind, Sem.run_pure, Result.andThen_ok, List.map_toArray, List.map_cons, List.map_nil, hs, hx2, hr]
  exact h v' w' h3 h4 h5 h7
theorem NumsAt.new (k : IntKind) (w : World) (n : Nat) (f : Nat → Int) (t : TypeId) : NumsAt k (w.alloc (.cells (FR k n f) t)) (some ⟨w.heap.size, 0, none⟩) n f :=
  .inr ⟨_, rfl, fun j hj => by
    rw [show (⟨w.heap.size, 0, none⟩ : Addr).add j = ⟨w.heap.size, 0 + j, none⟩ from Addr.add_lit .., Nat.zero_add]
    exact (Row.new w k n f t).cell j hj⟩
theorem grown_bel {w w' W : World} {B : Nat} {row : Option Nat} (h : Below B W w) (hg : w.grownBy w' row) (hB : B ≤ w.heap.size) (hr : ∀ b, row = some b → B ≤ b) : Below B W w' := h.grown hg hB (fun k e => hr k e)
end Go.Proofs.YtfpgjkaaadnmcaaDoor.P
